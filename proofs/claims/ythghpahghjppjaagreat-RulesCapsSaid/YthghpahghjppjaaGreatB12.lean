import Derived.Test.YthghpahghjppjaaGreatB11
import Derived.Test.YthghpahghjppjaaGreatRows
import Derived.JoinedOf
namespace Go.Proofs.YthghpahghjppjaaGreat
open Go Go.Vc Go.RowKit _root_.Go.Proofs.Tryz sH uj uk ul um uo
set_option maxRecDepth 100000
set_option synthInstance.maxSize 100000
set_option synthInstance.maxHeartbeats 0
set_option maxHeartbeats 8000000
@[reducible] def fZ:DT:=(.pair bu (.pair (.slc bu) .unit))
@[reducible] def ei:DT:=(.pair (.int .i64) (.pair (.int .i64) (.pair (.int .i64) .unit)))
@[reducible] def eR:DT:=(.pair (.int .i64) (.pair (.int .i64) (.pair (.int .i64) (.pair (.int .i64) (.pair (.slc (.int .i64)) .unit)))))
@[reducible] def bO:DT:=(.pair (.int .i64) (.pair (.int .i64) (.pair (.int .i64) (.pair (.slc (.int .i64)) .unit))))
@[reducible] def dH:DT:=(.pair bu (.pair bu (.pair .bool .unit)))
@[reducible] def fF:DT:=(.pair bu (.pair (.int .i64) .unit))
@[reducible] def cV:DT:=(.pair (.int .i64) (.pair (.int .i64) (.pair (.int .i64) (.pair (.int .i64) .unit))))
@[reducible] def fY:DT:=(.pair (.int .i64) (.pair bu (.pair (.int .i64) (.pair (.int .i64) (.pair (.int .i64) .unit)))))
@[reducible] def gS:DT:=(.pair (.int .i64) (.pair bu (.pair bu (.pair bu (.pair (.int .i64) (.pair (.int .i64) (.pair (.int .i64) (.pair (.int .i64) .unit))))))))
@[reducible] def gy:DT:=(.pair bu (.pair (.slc ei) .unit))
@[reducible] def dS:DT:=(.pair (.int .i64) (.pair (.slc cV) (.pair (.slc eR) (.pair (.slc ei) (.pair (.slc bO) (.pair (.slc dH) (.pair (.slc fY) (.pair (.slc gS) (.pair (.slc fZ) (.pair (.slc fZ) (.pair (.slc fF) (.pair (.slc gy) .unit))))))))))))
@[reducible] def jo:DT:=(.pair bu (.pair bu (.pair (.int .i64) .unit)))
@[reducible] def D5:DT:=(.pair bu (.pair (.int .i64) (.pair (.slc ei) .unit)))
@[reducible] def ax8:DT:=(.pair (.int .i64) (.pair (.slc (.int .i64)) (.pair (.slc jo) (.pair (.slc D5) .unit))))
@[reducible] def jL:DT:=(.pair .bool (.pair (.slc (.int .u8)) .unit))
@[reducible] def WZ:DT:=(.pair (.slc fZ) (.pair (.slc fF) .unit))
@[reducible] def dq:DT:=(.pair (.int .i64) (.pair (.int .u64) .unit))
@[reducible] def ajn:DT:=(.pair (.int .u64) (.pair (.int .u64) .unit))
@[reducible] def J7:DT:=(.pair (.slc ei) (.pair (.slc eR) (.pair (.slc fZ) (.pair (.slc fF) (.pair (.slc gy) .unit)))))
@[reducible] def ib:BK:=⟨81,[.v (.int .i64),.v (.slc cV),.v (.slc eR),.v (.slc ei),.v (.slc bO),.v (.slc dH),.v (.slc fY),.v (.slc gS),.v (.slc fZ),.v (.slc fZ),.v (.slc fF),.v (.slc gy),.v (.int .i64),.v (.int .i64),.v (.int .i64),.v (.int .i64),.v (.int .i64),.v (.int .i64),.v (.int .i64),.v (.int .i64),.v (.int .i64),.v (.int .i64),.v (.int .i64),.v (.int .i64),.v (.int .i64),.v (.slc (.int .i64)),.v (.int .i64),.v (.slc (.int .i64)),.v (.slc jo),.v (.slc D5)]⟩
@[reducible] def ayK:List DS:=[.t (.int .i64),.t (.int .i64),.t (.int .i64),.t (.int .i64),.t (.int .i64),.t (.int .i64),.t (.int .i64),.t (.int .i64),.t (.int .i64),.t (.int .i64),.t (.int .i64),.t (.int .i64),.t (.int .i64),.t (.slc (.int .i64))]
@[reducible] def vh:List DS:=[.t (.int .i64),.t (.slc cV),.t (.slc eR),.t (.slc ei),.t (.slc bO),.t (.slc dH),.t (.slc fY),.t (.slc gS),.t (.slc fZ),.t (.slc fZ),.t (.slc fF),.t (.slc gy),.t (.int .i64),.t (.int .i64),.t (.int .i64),.t (.int .i64),.t (.int .i64),.t (.int .i64),.t (.int .i64),.t (.int .i64),.t (.int .i64),.t (.int .i64),.t (.int .i64),.t (.int .i64),.t (.int .i64),.t (.slc (.int .i64)),.t (.int .i64),.t (.slc (.int .i64)),.t (.slc jo),.t (.slc D5)]
@[reducible] def ayL:List DS:=[.t (.int .i64),.t (.slc cV),.t (.slc eR),.t (.slc ei),.t (.slc bO),.t (.slc dH),.t (.slc fY),.row 0,.t (.slc fZ),.t (.slc fZ),.t (.slc fF),.t (.slc gy),.t (.int .i64),.t (.int .i64),.t (.int .i64),.t (.int .i64),.t (.int .i64),.t (.int .i64),.t (.int .i64),.t (.int .i64),.t (.int .i64),.t (.int .i64),.t (.int .i64),.t (.int .i64),.t (.int .i64),.t (.slc (.int .i64)),.t (.int .i64),.t (.slc (.int .i64)),.t (.slc jo),.t (.slc D5)]
@[reducible] def ayM:List DS:=[.t (.int .i64),.t (.int .i64),.t (.int .i64),.t (.int .i64),.t (.int .i64),.t (.int .i64)]
@[reducible] def E1:List DS:=[.t (.int .i64),.t (.slc cV),.t (.slc eR),.t (.slc ei),.t (.slc bO),.t (.slc dH),.t (.slc fY),.t (.slc gS),.t (.slc fZ),.t (.slc fZ),.t (.slc fF),.t (.slc gy)]
@[reducible] def ayN:List DS:=[.t (.int .i64),.t (.slc cV),.t (.slc eR),.t (.slc ei),.t (.slc bO),.t (.slc dH),.t (.slc fY),.t (.slc gS),.t (.slc fZ),.t (.slc fZ),.row 1,.t (.slc gy)]
def Iz{n:Nat}(Q:QT)(G:Wd->aK->Option (Q.den×aK)){fn:Func}(hf:Tryz.prog.funcs[n]?=some fn)(l:List (KC Tryz.prog):=[])(O:DTs:=[])(JC:List (Nat×DJ):=[])(JL:List (Nat×DJ):=[]){c:Code}(hb:fn.body=some c:=by rfl)(hn:(fn.name== "runtime.NumGoroutine")=false:=by decide +kernel) (h:∀W x,ali W tab (kcs l W) O JC JL fn ⟨[ib],[.ptr 0],[ib],Q,λx=>G W (xh x ())⟩ x=G W (xh x ()):=by intro W x; kernel_rfl):KC Tryz.prog:=oa [ib] [.ptr 0] [ib] Q (λW x=>G W (xh x ())) hf l O JC JL hb hn h
def UK:=dG (.p1 jY) (.v jY) (fJ EN) func9 [] [] [FG 3 ayK]
def ae4:=oa [] [] [⟨258,[.b,.row 5 (.int .u8)]⟩] (.ptr 0) (λW x=>Ib W) func145
def DY:=oa [⟨258,[.b,.row 5 (.int .u8)]⟩] [.ptr 0] [⟨258,[.b,.row 5 (.int .u8)]⟩] .b (dd sM) func215
def UL:=dG (.p1 (.int .i64)) (.v (.int .u64)) (fJ uK) func217
def Mu:=oa [⟨258,[.b,.row 5 (.int .u8)]⟩] [.ptr 0,.v (.int .u64)] [⟨258,[.b,.row 5 (.int .u8)]⟩] .unit (ki wO) func216 [] [] [] [(0,⟨[(1,.t (.int .u64))],[(0,[.b,.row 0])],[.own 5 (.int .u8)]⟩)]
def vg:=oa [⟨258,[.b,.row 5 (.int .u8)]⟩] [.ptr 0,.v (.slc (.int .i64))] [⟨258,[.b,.row 5 (.int .u8)]⟩] (.ptr 0) (ki dK) func146 [DY,UL,Mu] [] [(7,⟨[],[(0,[.b,.row 0])],[.own 5 (.int .u8)]⟩)] [(3,⟨[(11,.i)],[(0,[.b,.row 0])],[.own 5 (.int .u8)]⟩)]
def Mv:=dG (.p1 (.int .i64)) (.v .str) (fJ qF) func142 [] [] [jQ 4,jQ 14,jQ 21,jQ 25,jQ 37,jQ 40,jQ 43]
def ae5:=oa [⟨258,[.b,.row 5 (.int .u8)]⟩] [.ptr 0,.v bu] [⟨258,[.b,.row 5 (.int .u8)]⟩] .unit (ki zq) func218 [vg]
def abU:=oa [⟨258,[.b,.row 5 (.int .u8)]⟩] [.ptr 0,.v jY,.v (.int .i32)] [⟨258,[.b,.row 5 (.int .u8)]⟩] .unit (PQ wh) func147 [vg,ae5] [(21,[0],oN [1,3,5,7,13,15,8,10,16])]
def tF:=dG (.p1 (.slc (.int .u8))) (.own 5 (.int .u8)) (fJ ir) func207
def JU:=oa [⟨258,[.b,.row 5 (.int .u8)]⟩] [.ptr 0] [⟨258,[.b,.row 5 (.int .u8)]⟩] (.own 5 (.int .u8)) (dd kE) func148 [DY,tF]
def UM:=dG (.p1 jY) (.own 5 (.int .u8)) (fJ uc) func86 [ae4,vg,Mv,abU,JU] [(1,[],sk [1,2,3,4] (.two 0 5 (oN [10,12,15]) (oN [0,12,15])))] [] [(3,⟨[(16,.ob 2)],[(1,[.b,.row 0])],[.own 5 (.int .u8),.dead,.obj .Iq]⟩),(3,⟨[(16,.ob 2)],[(1,[.b,.row 1])],[.dead,.own 5 (.int .u8),.obj .Iq]⟩)]
def abV:=oa [] [.v (.slc (.int .u8))] [⟨250,[.b,.row 5 (.int .u8),.i]⟩] (.ptr 0) (fJ Au) func139 [tF]
def JV:=oa [⟨250,[.b,.v (.slc (.int .u8)),.i]⟩] [.ptr 0] [⟨250,[.b,.v (.slc (.int .u8)),.i]⟩] .b (ki va) func208
def AW:=oa [⟨250,[.b,.v (.slc (.int .u8)),.i]⟩] [.ptr 0,.i] [⟨250,[.b,.v (.slc (.int .u8)),.i]⟩] .unit (PQ nE) func211
def G6:=oa [⟨250,[.b,.v (.slc (.int .u8)),.i]⟩] [.ptr 0] [⟨250,[.b,.v (.slc (.int .u8)),.i]⟩] (.p2 (.v (.int .u64)) .b) (ki oz) func209 [AW] [] [jQ 48] [(4,⟨[(4,.t (.int .u64)),(5,.i)],[(0,[.b,.t (.slc (.int .u8)),.i])],[]⟩)]
def Qi:=dG (.p1 (.int .u64)) .i (fJ qP) func210
def qx:=oa [⟨250,[.b,.v (.slc (.int .u8)),.i]⟩] [.ptr 0,.i,.i] [⟨250,[.b,.v (.slc (.int .u8)),.i]⟩] .i (λW x=>iq W x.1 x.2.1 x.2.2.1 x.2.2.2.1 x.2.2.2.2.1) func140 [JV,G6,Qi,AW] [] [jQ 23]
def BX:=oa [⟨250,[.b,.v (.slc (.int .u8)),.i]⟩] [.ptr 0,.i] [⟨250,[.b,.v (.slc (.int .u8)),.i]⟩] .i (PQ jV) func141 [qx]
def abW:=oa [⟨250,[.b,.v (.slc (.int .u8)),.i]⟩] [.ptr 0] [⟨250,[.b,.v (.slc (.int .u8)),.i]⟩] (.v bu) (ki wg) func212 [BX]
def BY:=oa [⟨250,[.b,.v (.slc (.int .u8)),.i]⟩] [.ptr 0] [⟨250,[.b,.v (.slc (.int .u8)),.i]⟩] .i (ki rv) func214
def UN:=oa [⟨250,[.b,.v (.slc (.int .u8)),.i]⟩] [.ptr 0,.i] [⟨250,[.b,.v (.slc (.int .u8)),.i]⟩] (.own 2 (.int .i64)) (PQ ua) func213 [BX,BY,qx] [] [(6,⟨[(5,.row 1)],[(0,[.b,.t (.slc (.int .u8)),.i])],[.dead,.own 2 (.int .i64)]⟩)] [(3,⟨[(5,.row 1),(6,.i)],[(0,[.b,.t (.slc (.int .u8)),.i])],[.dead,.own 2 (.int .i64)]⟩)]
def ae6:=oa [⟨250,[.b,.v (.slc (.int .u8)),.i]⟩,⟨40,[.i,.i,.i,.i,.i,.i,.i,.i,.i,.i,.i,.i,.i,.v (.slc (.int .i64))]⟩] [.ptr 0,.ptr 1,.v (.int .i32)] [⟨250,[.b,.v (.slc (.int .u8)),.i]⟩,⟨40,[.i,.i,.i,.i,.i,.i,.i,.i,.i,.i,.i,.i,.i,.v (.slc (.int .i64))]⟩] .unit (λW x=>CT W x.1 x.2.1 x.2.2.1 x.2.2.2.1 x.2.2.2.2.1 x.2.2.2.2.2.1 x.2.2.2.2.2.2.1 x.2.2.2.2.2.2.2.1 x.2.2.2.2.2.2.2.2.1 x.2.2.2.2.2.2.2.2.2.1 x.2.2.2.2.2.2.2.2.2.2.1 x.2.2.2.2.2.2.2.2.2.2.2.1 x.2.2.2.2.2.2.2.2.2.2.2.2.1 x.2.2.2.2.2.2.2.2.2.2.2.2.2.1 x.2.2.2.2.2.2.2.2.2.2.2.2.2.2.1 x.2.2.2.2.2.2.2.2.2.2.2.2.2.2.2.1 x.2.2.2.2.2.2.2.2.2.2.2.2.2.2.2.2.1 x.2.2.2.2.2.2.2.2.2.2.2.2.2.2.2.2.2.1) func143 [BX,abW,qx,UN]
def Mw:=oa [⟨250,[.b,.v (.slc (.int .u8)),.i]⟩] [.ptr 0] [⟨250,[.b,.v (.slc (.int .u8)),.i]⟩] .i (ki oO) func144 [BY]
def ae7:=dG (.p1 (.slc (.int .u8))) (.p2 (.v jY) .i) (fJ CU) func85 [abV,qx,BX,Mv,ae6,Mw] [] [] [(4,⟨[(18,.ob 1)],[(1,[.b,.t (.slc (.int .u8)),.i]),(2,[.i,.i,.i,.i,.i,.i,.i,.i,.i,.i,.i,.i,.i,.t (.slc (.int .i64))])],[.dead,.obj .Iq]⟩)]
def Bp:=dG (.p2 (.slc (.int .i64)) (.slc (.int .i64))) .b (dd iU) func149 [] [(6,[],oI 9)] [] [rh 4 13]
def ae8:=dG (.p2 jY jY) .b (dd CW) func87 [Bp]
def abX:=dG (.p1 jY) .i (fJ zL) func32 [UM,ae7,ae8] [] [jQ 18]
def UO:=oa [⟨3,[.i]⟩] [.v cV,.ptr 0] [⟨3,[.i]⟩] .b (dd EO) func220
def lX:=oa [⟨3,[.i]⟩] [.v (.slc cV),.fn 220 [.ptr 0]] [⟨3,[.i]⟩] .i (dd cW) func219 [UO] [] [] [tO 2 8 [.i]]
def G7:=dG (.p2 (.slc cV) (.int .i64)) .i (dd pk) func150 [lX]
def n5:=dG (.p2 (.slc cV) (.int .i64)) (.p2 (.v cV) .b) (dd im) func88 [G7]
def rA:=dG (.p1 cV) .i (fJ jH) func89
def IA:=Iz .i mf func33 [n5,rA] [(3,[],sk [0,1,2,3,4,5,6,7,8,9] (.two 10 14 (oN [23,25,27,28,30,33]) (oN [20,23,25,27,30,33])))]
def ER:=dG (.p2 (.slc bO) (.int .i64)) (.p2 .i .b) (dd yc) func301 [] [(5,[],oI 7)] [] [rh 2 10]
def vW:=dG (.p1 (.slc (.int .i64))) (.own 3 (.int .i64)) (fJ jh) func314
def ET:=dG (.p1 bO) (.v bO) (fJ mS) func298 [vW]
def qW:=dG (.p2 (.slc bO) (.int .i64)) (.p2 (.v bO) .b) (dd l7) func221 [ER,ET]
def G8:=oa [ib] [.ptr 0,.i] [ib] .b (λW x=>kX W (xh x ()) x.2.2.2.2.2.2.2.2.2.2.2.2.2.2.2.2.2.2.2.2.2.2.2.2.2.2.2.2.2.2.1) func151 [qW] [(2,[],oI 12)]
def nF:=dG (.p1 bO) (.own 37 bu) (fJ ji) func118 [] [] [] [uC 5 3 1 16 [.dead,.own 37 bu]]
def vJ:=dG (.p2 (.slc bu) bu) .i (dd j7) func370 [] [(4,[],oI 6)] [] [rh 2 8]
def je:=dG (.p2 (.slc bu) bu) .b (dd cN) func296 [vJ]
def AX:=dG (.p2 bO bu) .b (dd q7) func200 [nF,je] [(1,[],oN [1,5,2,6,9])]
def EU:=dG (.p2 (.slc bO) bu) .i (dd qU) func133 [AX] [] [] [rh 2 9]
def Mx:=oa [ib] [.ptr 0,.v bu] [ib] .b (λW x=>gD W (xh x ()) x.2.2.2.2.2.2.2.2.2.2.2.2.2.2.2.2.2.2.2.2.2.2.2.2.2.2.2.2.2.2.1) func152 [EU] [(1,[],oN [1,3,5,7,9,11,15,17,19,21,23,12,25,27])]
def abY:=oa [⟨3,[.i]⟩] [.v gS,.ptr 0] [⟨3,[.i]⟩] .b (dd JT) func372
def ov:=oa [⟨3,[.i]⟩] [.v (.slc gS),.fn 372 [.ptr 0]] [⟨3,[.i]⟩] .i (dd eI) func371 [abY] [] [] [tO 2 8 [.i]]
def WY:=dG (.p2 (.slc gS) (.int .i64)) .i (dd DH) func302 [ov]
def G9:=dG (.p2 (.slc gS) (.int .i64)) (.p2 (.v gS) .b) (dd s5) func222 [WY]
def JW:=Iz (.v gS) kG func153 [G9] [(1,[],sk [0,1,2,3,4,5,6,7,8,9] (.two 10 14 (oN [23,25,27,28,30,33]) (oN [20,23,25,27,30,33])))]
def Y0:=oa [⟨3,[.i]⟩] [.v fY,.ptr 0] [⟨3,[.i]⟩] .b (dd GW) func374
def mQ:=oa [⟨3,[.i]⟩] [.v (.slc fY),.fn 374 [.ptr 0]] [⟨3,[.i]⟩] .i (dd dV) func373 [Y0] [] [] [tO 2 8 [.i]]
def JX:=dG (.p2 (.slc fY) (.int .i64)) .i (dd wN) func303 [mQ]
def My:=dG (.p2 (.slc fY) (.int .i64)) (.p2 (.v fY) .b) (dd tz) func223 [JX]
def JY:=Iz (.v fY) ni func154 [My] [(1,[],sk [0,1,2,3,4,5,6,7,8,9] (.two 10 14 (oN [23,25,27,28,30,33]) (oN [20,23,25,27,30,33])))]
def Mz:=Iz .b rp func90 [G8,Mx,JW,JY] [(27,[],oI 12)] [(5,⟨[],[],[]⟩),(13,⟨[],[],[]⟩),(15,⟨[],[],[]⟩),(19,⟨[],[],[]⟩),FG 22 vh,(23,⟨[],[],[]⟩)]
def G':=Iz .i kY func34 [Mz] [] [(500012,⟨[(12,.b)],[(0,vh)],[]⟩)]
def AY:=dG (.p1 cV) .i (fJ sC) func119 [] [] [jQ 40]
def lM:=dG (.p1 (.slc cV)) (.own 64 cV) (fJ dY) func224
def Y3:=dG (.p2 (.slc cV) cV) (.p2 (.own 64 cV) .i) (dd xV) func155 [AY,G7,lM] [(6,[],sk [0,2] (.two 1 3 (oN [6,8,11]) (oN [2,8,11]))),(8,[],oN [1,3,5,7,9,11,13,15,19,21,16,23,25]),(10,[],sk [0,1,2,3,4,5,6,7,9,10,11,12] (.er 8 [8,14,15,16,17] (oN [26,29,30,33,34])))] [PR 11 7 0 [.own 64 cV],PR 11 7 1 [.dead,.own 64 cV]] [uC 8 7 0 8 [.own 64 cV],uC 8 7 1 8 [.dead,.own 64 cV]]
def CH:=dG (.p1 (.int .i64)) .b (fJ pz) func191
def ae9:=dG (.p1 (.int .i64)) .b (fJ Du) func193
def qX:=oa [] [.v (.slc (.int .i64)),.fn 193 []] [] .i (fJ iu) func292 [ae9] [] [] [rh 2 8]
def pZ:=oa [] [.v (.slc (.int .i64)),.fn 193 []] [] .b (fJ dU) func192 [qX]
def zi:=dG (.p1 eR) .i (fJ tD) func120 [CH,pZ] [] [(2,⟨[(3,.b)],[],[]⟩),jQ 46]
def abZ:=oa [⟨3,[.i]⟩] [.v eR,.ptr 0] [⟨3,[.i]⟩] .b (dd JD) func304
def ow:=oa [⟨3,[.i]⟩] [.v (.slc eR),.fn 304 [.ptr 0]] [⟨3,[.i]⟩] .i (dd fV) func226 [abZ] [] [] [tO 2 8 [.i]]
def Oz:=dG (.p2 (.slc eR) (.int .i64)) .i (dd GX) func225 [ow]
def Y4:=oa [⟨174,[.i,.i,.i,.i,.v (.slc (.int .i64))]⟩] [.v eR,.ptr 0] [⟨174,[.i,.i,.i,.i,.v (.slc (.int .i64))]⟩] .b (alj GY) func227
def n9:=oa [⟨174,[.i,.i,.i,.i,.v (.slc (.int .i64))]⟩] [.v (.slc eR),.fn 227 [.ptr 0]] [⟨174,[.i,.i,.i,.i,.v (.slc (.int .i64))]⟩] .i (alj eG) func226 [Y4] [] [] [tO 2 8 [.i,.i,.i,.i,.t (.slc (.int .i64))]]
def Bq:=dG (.p1 (.slc (.int .i64))) (.own 2 (.int .i64)) (fJ iX) func307
def JZ:=dG (.p1 eR) (.v eR) (fJ DX) func230 [Bq]
def CI:=dG (.p1 (.slc eR)) (.own 174 eR) (fJ vb) func229 [JZ] [] [] [uC 3 3 1 8 [.dead,.own 174 eR]]
def aeA:=dG (.p2 (.slc eR) eR) (.p2 (.own 174 eR) .i) (dd DG) func156 [zi,Oz,n9,CI,JZ,XK] [(9,[],oN [1,5,7,2,8,10,12,15,17])] [rh 9 7]
def Ha:=dG (.p1 (.int .i64)) .b (fJ sx) func194
def xp:=dG (.p1 ei) .i (fJ pv) func121 [Ha] [] [jQ 26]
def rB:=dG (.p2 (.slc ei) (.int .i64)) (.p2 (.v ei) .b) (dd pe) func130 [] [] [] [rh 2 10]
def Pr:=dG (.p1 (.int .i64)) .b (fJ wP) func376
def IT:=dG (.p2 (.int .i64) (.int .i64)) .i (dd py) func308 [Pr]
def Y5:=dG (.p2 ei (.int .i64)) .i (dd tx) func232 [IT]
def jT:=oa [] [.v (.slc ei),.i,.fn 232 []] [] (.p2 .i .b) (dd c8) func231 [Y5] [] [] [(3,⟨[(9,.i),(10,.i)],[],[]⟩)]
def mH:=dG (.p1 (.slc ei)) (.own 132 ei) (fJ eH) func234
def aca:=dG (.p2 (.slc ei) ei) (.p2 (.own 132 ei) .i) (dd AI) func157 [xp,rB,jT,mH,Uu] [(8,[],sk [0,2,3] (.two 1 4 (oN [8,10,13,15]) (oN [2,10,13,15])))]
def jE:=Iz (.p2 (.v cV) .i) fE func160 [n5] [(1,[],sk [0,1,2,3,4,5,6,7,8,9] (.two 10 14 (oN [23,25,27,28,30,33]) (oN [20,23,25,27,30,33])))]
def Ps:=dG (.p1 (.int .i64)) .i (fJ sY) func293
def EV:=dG (.p1 bO) .i (fJ qN) func195 [Ps] [(2,[],oX 21 [18])] [(2,⟨[(3,.b)],[],[]⟩),jQ 45,jQ 59] [(6,⟨[(4,.i),(49,.i)],[],[]⟩)]
def CJ:=dG (.p1 (.slc bO)) (.own 99 bO) (fJ rm) func202 [ET] [] [] [uC 3 3 1 8 [.dead,.own 99 bO]]
def aeB:=dG (.p2 (.slc bO) bO) (.p2 (.own 99 bO) .i) (dd DE) func235 [EV,ER,CJ,ET,PO] [(7,[],oN [1,5,7,2,8,10,12,15,17])]
def DZ:=Iz .i jx func158 [jE,rA,aeB] [(7,[0],sk [0,1,2,3,4,6,7,8,9,10,12,13,14,15,17,18,19,20] (.er 11 [11,22,23,24,25,26,27,28,29,30,31] (.er 16 [16,22,23,24,25,26,27,28,29,30,31] (.er 21 [21,22,23,24,25,26,27,28,29,30,31] (oN [45,10,46,49,51,53,55,57,59,60,63])))))] [rh 6 4,tO 8 4 vh]
def aeC:=dG (.p2 (.int .i64) (.int .i64)) .b (dd DL) func380 [Pr]
def T7:=dG (.p1 (.int .i64)) .b (fJ xm) func381
def yD:=dG (.p2 (.slc (.int .i64)) (.int .i64)) (.p2 .i .b) (dd jn) func312 [aeC,T7] [] [] [(3,⟨[(7,.i),(8,.i)],[],[]⟩)]
def acb:=dG (.p2 bO (.int .i64)) (.p2 (.v bO) .i) (dd AN) func236 [EV,yD,Ps,vW,W_] [(11,[],oX 8 [5])] [jQ 27]
def aeD:=dG (.p2 (.slc bO) bO) (.p2 (.own 99 bO) .i) (dd DF) func237 [EV,ER,CJ,ET]
def MA:=Iz .i oW func159 [qW,n5,rA,acb,aeD] [(1,[],sk [0,1,2,3,4,5,6,7,8,9,10] (.two 11 15 (oN [25,27,29,30,32,35]) (oN [22,25,27,29,32,35]))),(4,[],sk [0,1,2,3,4,5,6] (.two 7 11 (oN [17,19,21,22,24,27]) (oN [14,17,19,21,24,27]))),(8,[],sk [0,1,2,3,4,5,6] (.two 7 11 (oN [17,19,21,22,24,27]) (oN [14,17,19,21,24,27]))),(10,[0],oN [1,3,5,7,9,13,10,14,17,19,21,23,25,27,28,31])] [tO 11 9 vh]
def MB:=dG (.p2 (.slc cV) cV) (.p2 (.own 64 cV) .i) (dd tw) func161 [AY,G7,lM]
def J0:=Iz .i np func91 [Y3,aeA,aca,DZ,MA,jE,MB] [(4,[0],sk [0,1,2,3,4,6,7,8,9,11,12,13,14] (.er 10 [10,16,17,18,19,20,21,22,23,24,25] (.er 15 [15,16,17,18,19,20,21,22,23,24,25] (oN [33,10,34,37,39,41,43,45,47,48,51])))),(6,[0],sk [0,1,2,3,4,6,7,8,9,11,12,13,14,16,17,18,19,21,22,23,24,26,27,28,29] (.er 10 [10,31,32,33,34,35,36,37,38,39,40] (.er 15 [15,31,32,33,34,35,36,37,38,39,40] (.er 20 [20,31,32,33,34,35,36,37,38,39,40] (.er 25 [25,31,32,33,34,35,36,37,38,39,40] (.er 30 [30,31,32,33,34,35,36,37,38,39,40] (oN [63,10,64,67,69,71,73,75,77,78,81]))))))),(8,[0],sk [0,1,2,3,4,6,7,8,9,11,12,13,14,16,17,18,19] (.er 10 [10,21,22,23,24,25,26,27,28,29,30] (.er 15 [15,21,22,23,24,25,26,27,28,29,30] (.er 20 [20,21,22,23,24,25,26,27,28,29,30] (oN [43,10,44,47,49,51,53,55,57,58,61]))))),(18,[0],oN [1,3,5,7,9,13,10,14,17,19,21,23,25,27,28,31])] [tO 19 3 vh]
def p7:=oa [ib] [.ptr 0,.v bu] [ib] .i (λW x=>jw W (xh x ()) x.2.2.2.2.2.2.2.2.2.2.2.2.2.2.2.2.2.2.2.2.2.2.2.2.2.2.2.2.2.2.1) func275 [EU] [(1,[],oX 8 [6])]
def pB:=oa [ib] [.ptr 0,.v bu] [ib] (.v cV) (λW x=>iJ W (xh x ()) x.2.2.2.2.2.2.2.2.2.2.2.2.2.2.2.2.2.2.2.2.2.2.2.2.2.2.2.2.2.2.1) func266 [EU,n5] [(1,[],sk [0,1,2,3,4,5,6,7,8,9,10] (.two 11 16 (.two 12 16 (oN [27,29,31,32,34,37]) (oN [24,27,29,31,34,37])) (oN [22,24,27,29,31,34,37])))]
def iK:=oa [ib] [.ptr 0,.v (.slc bu)] [ib] .i (λW x=>fT W (xh x ()) x.2.2.2.2.2.2.2.2.2.2.2.2.2.2.2.2.2.2.2.2.2.2.2.2.2.2.2.2.2.2.1) func238 [p7,pB,rA] [] [] [tO 2 11 vh]
def ye:=dG (.p2 (.slc eR) (.int .i64)) (.p2 (.v eR) .b) (dd px) func197 [Oz,JZ]
def qy:=oa [ib] [.ptr 0,.i] [ib] (.p2 (.v eR) .i) (λW x=>jj W (xh x ()) x.2.2.2.2.2.2.2.2.2.2.2.2.2.2.2.2.2.2.2.2.2.2.2.2.2.2.2.2.2.2.1) func239 [ye]
def MC:=dG (.p1 (.slc bu)) .b (fJ Ic) func198 [] [] [jQ 25] [(3,⟨[(3,.i),(8,.i)],[],[]⟩)]
def qY:=dG (.p2 bu bu) .b (dd mc) func196
def rC:=dG (.p1 (.slc fZ)) .b (fJ pY) func128 [MC,qY] [(4,[],sk [0,1,2,3,4,5,6] (.op 7 (sk [8,9,10,11,12,13,14,15,16,17,18,20] (.two 19 21 (oN [42,44,47,49,51]) (oN [38,44,47,49,51])))))] [jQ 37] [rh 2 7]
def qZ:=dG (.p1 (.slc fF)) .b (fJ qe) func131 [qY] [(4,[],oX 19 [15])] [jQ 30] [rh 2 7]
def ajm:=dG (.p1 WZ) .b (fJ GF) func384 [rC,qZ]
def Y6:=dG (.p3 eR (.int .i64) (.int .i64)) .b (ki xM) func385 [zi]
def wS:=dG (.p1 (.int .i64)) (.v dq) (fJ oR) func81
def nG:=dG (.p1 dq) .b (fJ eV) func290
def rD:=dG (.p1 dq) (.v ajn) (fJ ig) func288 [nG,afG]
def BZ:=dG (.p2 (.int .u64) (.int .u64)) (.p2 (.v (.int .u64)) (.v (.int .u64))) (dd j3) func444
def pC:=dG (.p2 ajn .bool) (.p2 (.v dq) .b) (dd gN) func289 [afG] [(2,[1],oX 11 [9]),(5,[1],oX 19 [17])]
def s6:=dG (.p2 (.int .i64) (.int .i64)) (.v dq) (dd oP) func392 [wS,rD,BZ,nG,pC] [(2,[],oN [1,7,2,5,8,11,12,15,17,19,21,23]),(3,[],sk [0,1,2,3,5] (.two 4 12 (.two 6 12 (.rd 7 (.two 8 12 (oN [19,21,23,24,26,29]) (oN [16,19,21,23,26,29]))) (oN [12,15,16,19,21,23,26,29])) (oN [8,12,15,16,19,21,23,26,29])))]
def CK:=dG (.p2 dq .bool) (.p2 (.v dq) .i) (dd pA) func287
def MD:=dG (.p2 dq (.int .i64)) (.p2 (.v dq) .i) (dd tp) func432 [rD,wS,BZ,XS,nG,pC,CK]
def wT:=dG (.p1 dq) (.p2 .i .i) (fJ qd) func324 [wS] [(2,[],oN [1,5,2,7])]
def Pt:=dG (.p4 eR (.int .i64) (.int .i64) (.int .i64)) (.p2 .i .i) (PQ EP) func360 [zi,CH,s6,MD,wT] [] [jQ 24]
def J1:=dG (.p1 (.slc bu)) .b (fJ wG) func422 [MC]
def D0:=oa [⟨232,[.i,.i,.v (.int .u64)]⟩] [.ptr 0,.v dq] [⟨232,[.i,.i,.v (.int .u64)]⟩] .unit (PQ jJ) func182 [XS] [(1,[],oX 13 [7]),(2,[],oX 16 [10]),(3,[0],oN [1,3,5,9,11,13,15,17,19,6,21,23,25,26])]
def B3:=oa [⟨232,[.i,.i,.v (.int .u64)]⟩] [.ptr 0] [⟨232,[.i,.i,.v (.int .u64)]⟩] (.p2 (.v dq) .i) (ki lR) func183 [CK] [(1,[1],oX 20 [15,18])]
def aeE:=dG (.p2 dq dq) (.p2 (.v dq) .i) (dd Dz) func394 [D0,wS,B3]
def zj:=dG (.p2 dq (.int .i64)) (.p2 .i .i) (dd pd) func388 [wT]
def Ig:=dG (.p2 (.int .i64) (.int .i64)) (.p2 .i .i) (dd xU) func327 [wS,aeE,zj]
def W0:=dG (.p1 (.slc bu)) (.p2 (.own 106 bu) .i) (fJ sd) func361 [J1,Ig] [] [] [uC 5 4 1 13 [.dead,.own 106 bu]]
def pg:=dG (.p1 (.slc bu)) (.own 106 bu) (fJ fo) func423
def wU:=dG (.p2 (.slc fZ) bu) (.own 106 bu) (dd vd) func353 [pg] [] [] [rh 2 9]
def pD:=oa [] [.v (.slc (.slc bu)),.fn 422 []] [] .i (fJ gw) func473 [J1] [] [] [rh 2 8]
def ox:=oa [] [.v (.slc (.slc bu)),.fn 422 []] [] .b (fJ dp) func421 [pD]
def W3:=dG (.p2 (.slc bu) (.int .i64)) .i (dd Mr) func181 [] [] [] [rh 2 9]
def AZ:=dG (.p1 (.slc dq)) (.p2 (.v dq) .i) (fJ wQ) func97 [D0,B3] [] [] [(3,⟨[(9,.i)],[(1,[.i,.i,.t (.int .u64)])],[]⟩)]
def j8:=dG (.p1 (.slc (.int .i64))) (.p2 .i .i) (fJ jv) func319 [wS,AZ,zj] [] [] [uC 3 4 0 12 [.own 108 dq]]
def OA:=dG (.p1 (.slc (.slc bu))) (.p2 (.own 106 bu) .i) (fJ Ar) func352 [ox,W3,j8] [] [PR 6 4 3 [.dead,.dead,.dead,.own 106 bu]] [uC 5 4 3 5 [.dead,.dead,.dead,.own 106 bu],(9,⟨[(4,.row 3),(6,.row 5),(19,.i)],[],[.dead,.dead,.dead,.own 106 bu,.dead,.own 2 (.int .i64)]⟩)]
def Y7:=dG (.p2 (.slc fZ) bu) (.p2 .i .b) (dd GZ) func426 [qY] [(5,[],oI 7)] [] [rh 2 10]
def UP:=dG (.p1 (.slc fZ)) (.own 104 fZ) (fJ zc) func427 [pg] [(5,[],oX 10 [5,7,8])] [] [uC 3 3 2 8 [.dead,.dead,.own 104 fZ]]
def EW:=dG (.p3 (.slc fZ) bu (.slc bu)) (.p2 (.own 104 fZ) .i) (ki nf) func358 [rC,wU,OA,Y7,UP,R_,U_] [] [(10,⟨[(8,.row 2),(12,.row 3)],[],[.dead,.dead,.own 106 bu,.own 104 fZ]⟩),PR 12 12 3 [.dead,.dead,.dead,.own 104 fZ]]
def Pu:=dG (.p4 (.slc fZ) bu bu (.slc bu)) (.p2 (.own 104 fZ) .i) (PQ qO) func354 [rC,W0,EW]
def vj:=dG (.p1 (.slc (.slc fF))) (.own 94 fF) (fJ fK) func395 [atG] [] [] [(3,⟨[(3,.i),(11,.i)],[],[]⟩),uC 11 6 0 27 [.own 94 fF]]
def UQ:=dG (.p1 (.slc fF)) (.own 37 bu) (fJ zd) func396 [adg] [] [(500022,⟨[(6,.row 3),(20,.ob 1),(22,.b)],[],[.dead,.obj .walk,.dead,.own 37 bu]⟩)] [(3,⟨[(3,.ob 0),(11,.i)],[],[.obj .set]⟩),(9,⟨[(6,.row 3),(20,.ob 1)],[],[.dead,.obj .walk,.dead,.own 37 bu]⟩)]
def Qj:=dG (.p2 (.slc fF) bu) (.own 2 (.int .i64)) (dd AS) func397 [] [] [PR 7 5 1 [.dead,.own 2 (.int .i64)]] [uC 3 5 1 10 [.dead,.own 2 (.int .i64)]]
def B4:=dG (.p2 (.slc fF) (.slc fF)) (.p2 (.own 94 fF) .i) (dd qQ) func328 [qZ,vj,UQ,Qj,j8] [] [(13,⟨[(6,.row 1),(7,.row 5),(20,.row 2)],[],[.dead,.own 94 fF,.own 37 bu,.dead,.dead,.own 94 fF]⟩)] [(6,⟨[(6,.row 1),(7,.row 5),(20,.row 2),(22,.i)],[],[.dead,.own 94 fF,.own 37 bu,.dead,.dead,.own 94 fF]⟩)]
def rE:=dG (.p4 (.slc fF) bu bu (.int .i64)) (.p2 (.own 94 fF) .i) (PQ lJ) func249 [Ig,qZ,B4] [] [jQ 22]
def ajo:=dG (.p6 WZ eR bu bu (.int .i64) (.int .i64)) (.p2 (.v WZ) .i) (alj GG) func315 [ajm,Y6,Pt,Pu,rE]
def Fy:=oa [ib] [.ptr 0,.v bu,.v bu,.v bu,.i] [ib] .i (λW x=>oU W (xh x ()) x.2.2.2.2.2.2.2.2.2.2.2.2.2.2.2.2.2.2.2.2.2.2.2.2.2.2.2.2.2.2.1 x.2.2.2.2.2.2.2.2.2.2.2.2.2.2.2.2.2.2.2.2.2.2.2.2.2.2.2.2.2.2.2.1 x.2.2.2.2.2.2.2.2.2.2.2.2.2.2.2.2.2.2.2.2.2.2.2.2.2.2.2.2.2.2.2.2.1 x.2.2.2.2.2.2.2.2.2.2.2.2.2.2.2.2.2.2.2.2.2.2.2.2.2.2.2.2.2.2.2.2.2.1) func240 [qy,ajo] [(4,[],sk [0,1,2,3,4,5,6,7,8,9,10,11,12,13,14,15,16] (.two 17 21 (oN [37,39,41,42,44,47]) (oN [34,37,39,41,44,47]))),(6,[0],oX 14 [9,13])] [FG 7 vh]
def Pv:=oa [⟨3,[.i]⟩] [.v bO,.ptr 0] [⟨3,[.i]⟩] .b (dd vZ) func203
def lY:=oa [⟨3,[.i]⟩] [.v (.slc bO),.fn 203 [.ptr 0]] [⟨3,[.i]⟩] .i (dd e7) func297 [Pv] [] [] [tO 2 8 [.i]]
def lz:=oa [⟨3,[.i]⟩] [.row 99 bO,.fn 203 [.ptr 0]] [⟨3,[.i]⟩] (.own 99 bO) (dd cU) func201 [lY,Pv,arP] [] [(6,⟨[(0,.row 0),(5,.i)],[(0,[.i])],[.own 99 bO]⟩)] [(5,⟨[(0,.row 0),(5,.i),(6,.i)],[(0,[.i])],[.own 99 bO]⟩)]
def D1:=dG (.p2 (.slc bO) (.int .i64)) (.own 99 bO) (dd tV) func134 [CJ,lz]
def Y8:=dG (.p2 dS (.int .i64)) (.own 37 bu) (dd xO) func387 [D1,nF] [] [] [(3,⟨[(5,.row 2),(11,.row 0),(13,.i)],[],[.own 99 bO,.dead,.own 37 bu]⟩)]
def OB:=dG (.p1 (.int .i64)) (.p2 .i .i) (fJ ui) func391 [Ig]
def acd:=dG (.p1 (.slc bu)) (.p2 .i .i) (fJ Aw) func442 [J1,OB,j8] [] [] [uC 5 4 1 13 [.dead,.own 2 (.int .i64)]]
def Pw:=dG (.p2 (.slc fZ) (.slc bu)) (.p2 .i .i) (dd wH) func386 [rC,wU,acd,j8] [] [] [uC 5 6 2 16 [.dead,.dead,.own 2 (.int .i64)]]
def Hb:=dG (.p2 dS (.int .i64)) (.p2 .i .i) (dd sZ) func316 [Y8,Pw] [(1,[],oX 10 [4,5])]
def wV:=oa [ib] [.ptr 0,.v (.slc bu)] [ib] .i (λW x=>mT W (xh x ()) x.2.2.2.2.2.2.2.2.2.2.2.2.2.2.2.2.2.2.2.2.2.2.2.2.2.2.2.2.2.2.1) func241 [pB,Hb] [(5,[],oX 12 [6])] [] [tO 2 12 vh]
def ME:=Iz .i oV func162 [iK,qy,Fy,wV] [(1,[0],sk [0,1,2,3,4,6,7,8,9] (.er 5 [5,11,12,13] (oN [20,22,24,27]))),(9,[0],sk [0,1,2,3,4,6,7,8,9,11,12,13,14,16,17,18,19,22,23,24,25] (.er 15 [15,21,27,28] (.er 20 [20,21,27,28] (.rd 21 (.er 5 [5,27,28] (.er 10 [10,27,28] (oN [52,54,57]))))))),(12,[0],sk [0,1,2,3,4,6,7,8,9] (.er 5 [5,11,12,13] (oN [20,22,24,27])))]
def aeF:=dG (.p3 (.slc gS) gS (.int .i64)) (.p3 (.own 181 gS) .i .i) (ki DI) func317 [] [(12,[],oN [1,3,5,7,9,11,13,19,14,16,21,23,25])] [rh 11 9,jQ 17]
def B5:=oa [ib] [.ptr 0,.v gS] [ib] .i (λW x=>lT W (xh x ()) x.2.2.2.2.2.2.2.2.2.2.2.2.2.2.2.2.2.2.2.2.2.2.2.2.2.2.2.2.2.2.1) func242 [aeF] [(1,[],oX 19 [11])] [FG 4 vh]
def IB:=Iz .i mg func163 [iK,qy,B5] [(1,[0],sk [0,1,2,3,4,6,7,8,9] (.er 5 [5,11,12,13] (oN [20,22,24,27]))),(9,[0],sk [0,1,2,3,4,6,7,8,9,11,12,13,14,16,17,18,19,22,23,24,25] (.er 15 [15,21,27,28,29] (.er 20 [20,21,27,28,29] (.rd 21 (.er 5 [5,27,28,29] (.er 10 [10,27,28,29] (oN [52,55,56,59])))))))] [jQ 64]
def vK:=dG (.p1 (.slc gS)) (.own 181 gS) (fJ fS) func318
def Px:=dG (.p3 (.slc gS) (.int .i64) (.int .i64)) (.p2 (.own 181 gS) .i) (ki wM) func243 [WY,vK] [] [jQ 16]
def IC:=Iz .i mh func164 [G9,iK,Px,Fy,wV] [(1,[],sk [0,1,2,3,4,5,6,7,8,9] (.two 10 14 (oN [23,25,27,28,30,33]) (oN [20,23,25,27,30,33]))),(7,[],oX 13 [7])]
def Ba:=dG (.p1 (.int .i64)) .b (fJ n3) func320
def mJ:=dG (.p1 (.slc fY)) (.own 179 fY) (fJ eJ) func326
def MF:=dG (.p3 (.slc fY) (.int .i64) (.int .i64)) (.own 179 fY) (ki tA) func321 [mJ]
def Y9:=dG (.p3 (.slc fY) (.int .i64) (.int .i64)) (.p2 (.own 179 fY) .i) (ki xX) func244 [JX,j8,Ba,MF] [] [jQ 33]
def D2:=oa [ib] [.ptr 0,.i,.i] [ib] .i (λW x=>kN W (xh x ()) x.2.2.2.2.2.2.2.2.2.2.2.2.2.2.2.2.2.2.2.2.2.2.2.2.2.2.2.2.2.2.1 x.2.2.2.2.2.2.2.2.2.2.2.2.2.2.2.2.2.2.2.2.2.2.2.2.2.2.2.2.2.2.2.1) func165 [Px,G9,Y9] [(8,[],oX 16 [10])] [(11,⟨[],[(0,ayL)],[.own 181 gS]⟩)]
def UR:=dG (.p1 (.slc (.int .i64))) (.own 371 bu) (fJ ze) func245 [] [(5,[],oX 14 [11,12])] [] [uC 3 3 1 4 [.dead,.own 371 bu]]
def US:=dG (.p1 bu) .b (fJ uY) func390 [Ba]
def nH:=oa [] [.v (.slc bu),.fn 390 []] [] .i (fJ ek) func443 [US] [] [] [rh 2 8]
def mm:=oa [] [.v (.slc bu),.fn 390 []] [] .b (fJ c7) func389 [nH]
def Y':=dG (.p1 (.slc bu)) (.p3 .i (.v dq) .i) (fJ G0) func322 [mm,OB,s6,AZ] [(8,[],oI 9),(17,[0],oX 5 [3])] [jQ 24] [(6,⟨[(5,.i),(6,.row 1),(28,.i)],[],[.dead,.own 108 dq]⟩)]
def MG:=dG (.p1 (.int .u64)) .i (fJ q8) func467 [] [] [(4,⟨[(0,.t (.int .u64)),(2,.i)],[],[]⟩),(7,⟨[(0,.t (.int .u64)),(2,.i)],[],[]⟩),(10,⟨[(0,.t (.int .u64)),(2,.i)],[],[]⟩)]
def Bb:=dG (.p1 (.int .u64)) .i (fJ iC) func445 [MG]
def MH:=dG (.p3 (.int .u64) (.int .u64) (.int .u64)) (.p2 (.v (.int .u64)) (.v (.int .u64))) (ki jW) func393 [Bb] [(6,[],oI 8)] [(18,⟨[],[],[]⟩),(21,⟨[(15,.t (.int .u64))],[],[]⟩),(25,⟨[],[],[]⟩),(28,⟨[(18,.t (.int .u64))],[],[]⟩)] [(17,⟨[(15,.t (.int .u64)),(16,.t (.int .u64))],[],[]⟩),(24,⟨[(16,.t (.int .u64)),(18,.t (.int .u64))],[],[]⟩)]
def J2:=dG (.p2 dq (.int .i64)) (.p3 (.v dq) .i .i) (dd q9) func323 [rD,MH,nG,XS,pC] [(6,[],oI 10),(12,[],sk [0,1] (.two 2 7 (.two 3 7 (oN [9,11,13,14,16,19]) (oN [6,9,11,13,16,19])) (oN [4,6,9,11,13,16,19])))] [(12,⟨[(10,.t (.int .u64))],[(3,[.t (.int .u64),.t (.int .u64)])],[]⟩),jQ 53]
def Fz:=dG (.p1 (.slc bu)) (.p4 .i .i .i .i) (fJ oT) func246 [Y',J2,wT] [] [rh 8 6]
def CL:=dG (.p1 (.slc (.int .i64))) (.p2 .i .i) (fJ ve) func325 [s6,wT] [] [] [(3,⟨[(4,.i),(11,.i)],[],[]⟩)]
def Za:=dG (.p2 (.int .i64) (.slc bu)) (.p2 .i .i) (dd yb) func247 [Fz,CL] [] [rh 8 8,jQ 21]
def Zb:=dG (.p2 (.slc fY) fY) (.p3 (.own 179 fY) .i .i) (dd xY) func248 [Ba,mJ] [(9,[],sk [0,2,5,6] (.two 1 3 (oN [6,8,15,17,19]) (oN [2,8,15,17,19])))] [FG 9 ayM,jQ 8]
def sN:=dG .unit (.v bu) (λW x=>mj W) func250
def J3:=Iz .i nk func166 [iK,qy,UR,Fz,Za,Zb,sN,rE] [(14,[],oX 26 [18]),(17,[],oN [1,3,5,7,9,13,15,17,19,21,23,10,24,27,29,31,33,35])]
def UT:=dG (.p3 (.slc fY) (.int .i64) (.int .i64)) (.p2 (.own 179 fY) .i) (ki uT) func251 [JX,MF] [] [jQ 20,jQ 34]
def J4:=Iz .i nj func167 [My,iK,UT,B5] [(1,[],sk [0,1,2,3,4,5,6,7,8,9] (.two 10 14 (oN [23,25,27,28,30,33]) (oN [20,23,25,27,30,33]))),(4,[0],oX 11 [7,8,9]),(7,[],oX 18 [12]),(11,[0],sk [0,1,2,3,4,5,6,8,9,10,11,12,13,16,17,18,19] (.er 14 [14,15,20,21,22] (oN [31,14,41,42,45])))]
def J5:=Iz .i nl func92 [ME,IB,IC,D2,J3,J4]
def ace:=dG (.p3 (.slc eR) (.int .i64) (.int .i64)) (.p2 (.own 174 eR) .i) (ki AJ) func168 [Oz,CH,CI]
def T8:=dG (.p3 (.slc ei) (.int .i64) (.int .i64)) (.p2 (.own 132 ei) .i) (ki sy) func169 [rB,Ha,mH] [] [PR 13 10 0 [.own 132 ei]] [uC 8 10 0 27 [.own 132 ei]]
def aeG:=dG (.p2 (.slc eR) bu) (.p2 (.v dq) .i) (dd Dx) func449 [ye,s6,MD] [(4,[1],oN [1,3,5,7,9,11,13,17,19,14,20,23,25,26,29])]
def acf:=dG (.p2 (.slc eR) (.slc bu)) (.p2 .i .i) (dd Av) func398 [MC,aeG,AZ,wT] [] [] [uC 5 6 1 18 [.dead,.own 108 dq]]
def Zc:=dG (.p2 (.slc eR) (.slc fZ)) (.p2 (.own 94 fF) .i) (dd xN) func329 [rC,acf] [] [PR 12 6 1 [.dead,.own 94 fF]] [uC 5 6 1 16 [.dead,.own 94 fF]]
def UU:=dG (.p3 (.slc eR) (.slc fZ) (.slc fF)) (.p2 (.own 94 fF) .i) (ki uM) func252 [qZ,Zc,B4]
def UW:=dG (.p1 (.slc eR)) (.own 174 eR) (fJ uS) func253 [CI] [] [] [uC 3 3 0 9 [.own 174 eR]]
def UX:=oa [⟨3,[.i]⟩] [.v gS,.ptr 0] [⟨3,[.i]⟩] .b (dd Ms) func331
def EX:=oa [⟨3,[.i]⟩] [.v (.slc gS),.fn 331 [.ptr 0]] [⟨3,[.i]⟩] (.own 3 (.int .i64)) (dd mB) func330 [UX] [] [(7,⟨[(5,.row 1)],[(0,[.i])],[.dead,.own 3 (.int .i64)]⟩),(500021,⟨[(5,.row 1),(21,.b)],[(0,[.i])],[.dead,.own 3 (.int .i64)]⟩)] [(3,⟨[(5,.row 1),(10,.i)],[(0,[.i])],[.dead,.own 3 (.int .i64)]⟩)]
def acg:=dG (.p2 (.slc gS) (.int .i64)) (.own 3 (.int .i64)) (dd AK) func255 [EX]
def B6:=oa [ib] [.ptr 0,.v (.slc (.int .i64)),.i] [ib] .i (λW x=>ry W (xh x ()) x.2.2.2.2.2.2.2.2.2.2.2.2.2.2.2.2.2.2.2.2.2.2.2.2.2.2.2.2.2.2.1 x.2.2.2.2.2.2.2.2.2.2.2.2.2.2.2.2.2.2.2.2.2.2.2.2.2.2.2.2.2.2.2.1) func254 [D2] [] [] [tO 2 12 vh]
def OC:=Iz .i pX func170 [UU,UW,acg,B6] [(3,[],oN [1,3,5,7,9,11,13,15,17,19,25,20,23]),(6,[],oX 17 [11]),(14,[0],sk [0,1,2,3,4,6,7,8,9] (.er 5 [5,11,12,13] (oN [20,22,24,27])))] [] [(4,⟨[(23,.row 0),(25,.i)],[(0,vh)],[.own 30 (.slc fZ)]⟩)]
def Hc:=dG .unit (.v bu) (λW x=>AT W) func256
def yO:=Iz .i j5 func257 [] [] [jQ 24]
def B7:=oa [ib] [.ptr 0,.i] [ib] .i (λW x=>lV W (xh x ()) x.2.2.2.2.2.2.2.2.2.2.2.2.2.2.2.2.2.2.2.2.2.2.2.2.2.2.2.2.2.2.1) func258 [B4] [(1,[],oX 19 [12,13])] [FG 4 vh]
def D3:=Iz (.v ei) gx func260 [] [(1,[1],oX 17 [16])]
def iM:=dG (.p1 (.slc ei)) (.own 92 ei) (fJ cX) func402
def pj:=dG (.p2 (.slc gy) bu) (.own 92 ei) (dd ml) func333 [iM] [] [] [rh 2 9]
def MJ:=dG (.p1 ei) .b (fJ tv) func294
def ach:=dG (.p1 (.slc (.int .i64))) .i (fJ Q0) func204 [] [] [] [rh 3 8]
def MK:=dG (.p2 ei ei) .i (dd qR) func295 [IT,ach] [(1,[],oN [1,3,5,7,11,13,15,17,8,18,20,22,25])]
def D4:=dG (.p1 (.slc ei)) .b (fJ AU) func199 [MJ,MK] [(4,[],.rd 0 (.op 1 (sk [2,3,4,5,6,7,8,9,10] (.two 11 12 (oN [24,26,29,31,33]) (oN [22,26,29,31,33])))))] [jQ 28] [rh 2 7]
def Hd:=dG (.p2 (.slc ei) ei) .i (dd qb) func399 [D4,MJ]
def fP:=oa [] [.v (.slc ei),.v ei,.fn 295 []] [] (.p2 .i .b) (dd cD) func400 [MK] [(5,[],oX 8 [6]),(8,[],oX 16 [11])] [] [(3,⟨[(9,.i),(10,.i)],[],[]⟩)]
def aeH:=dG (.p2 (.slc ei) ei) (.p2 (.own 92 ei) .i) (dd C2) func332 [Hd,fP,iM,V_,j8] [(8,[],sk [0,2,3] (.two 1 4 (oN [8,10,13,15]) (oN [2,10,13,15]))),(9,[],oX 14 [7,8])]
def zD:=dG (.p1 (.slc gy)) .b (fJ yd) func132 [D4,qY] [(4,[],sk [0,1,2,3,4,5,6] (.op 7 (sk [8,9,10,11,12,13,14,15,16,17,18,20] (.two 19 21 (oN [42,44,47,49,51]) (oN [38,44,47,49,51])))))] [jQ 37] [rh 2 7]
def T9:=dG (.p3 (.slc gy) bu (.slc ei)) (.own 96 gy) (ki zy) func403 [iM,qY] [(2,[],sk [0,1] (.two 2 4 (oN [7,8,10]) (oN [4,7,10]))),(10,[],oX 10 [5,7,8])] [(9,⟨[(7,.row 2),(9,.b)],[],[.dead,.dead,.own 96 gy]⟩),(13,⟨[(7,.row 2),(9,.b)],[],[.dead,.dead,.own 96 gy]⟩),PR 16 7 2 [.dead,.dead,.own 96 gy],(500032,⟨[(7,.row 2),(32,.b)],[],[.dead,.dead,.own 96 gy]⟩)] [(5,⟨[(7,.row 2),(9,.b),(21,.i)],[(1,[.i,.i,.t (.slc ei)])],[.dead,.dead,.own 96 gy]⟩)]
def CM:=dG (.p4 (.slc gy) bu (.slc ei) (.int .i64)) (.p2 (.own 96 gy) .i) (PQ lq) func334 [zD,T9]
def T':=dG (.p3 (.slc gy) bu ei) (.p2 (.own 96 gy) .i) (ki qc) func259 [pj,aeH,CM] [(1,[],oN [1,3,7,4,8,11,13,15,17,19])]
def He:=Iz .i kZ func171 [Hc,iK,yO,B7,rB,D3,T'] [(1,[],oX 7 [5]),(10,[],sk [0,1,2,3,4,5,6,7,8,9] (.two 10 14 (oN [23,25,27,28,30,33]) (oN [20,23,25,27,30,33]))),(13,[0],sk [0,1,2,3,5,6,7,8,10] (.three 4 9 11 (.two 9 11 (oN [22,24,27,29,31,33,35]) (oN [18,24,27,29,31,33,35])) (.two 4 11 (oN [22,24,27,29,31,33,35]) (oN [8,24,27,29,31,33,35])) (.two 4 9 (oN [18,24,27,29,31,33,35]) (oN [8,24,27,29,31,33,35]))))] [FG 5 vh,(11,⟨[(6,.b)],[],[]⟩),(14,⟨[(7,.row 0),(8,.i)],[(0,vh)],[.own 96 gy]⟩),FG 16 vh]
def lN:=dG (.p2 (.slc fF) bu) .i (dd kO) func82 [] [] [] [rh 2 9]
def aci:=dG (.p2 (.slc ei) ei) (.p2 (.own 92 ei) .i) (dd zO) func404 [Hd,fP,iM,S_] [(5,[],oI 12),(8,[],oN [1,3,5,7,11,13,8,15,17,19,20])] [PR 11 9 0 [.own 92 ei],jQ 33]
def Py:=dG (.p3 (.slc gy) bu ei) (.p2 (.own 96 gy) .i) (ki nX) func335 [pj,aci,CM] [(1,[],oN [1,3,7,4,8,11,13,15,17,19])]
def J6:=Iz .i nq func261 [lN,B7,D3,Py] [(2,[],oN [1,3,5,7,9,11,13,15,17,19,23,25,27,29,31,20,33]),(5,[0],sk [0,1,2,3,5,6,7,8,10] (.three 4 9 11 (.two 9 11 (oN [22,24,27,29,31,33,35]) (oN [18,24,27,29,31,33,35])) (.two 4 11 (oN [22,24,27,29,31,33,35]) (oN [8,24,27,29,31,33,35])) (.two 4 9 (oN [18,24,27,29,31,33,35]) (oN [8,24,27,29,31,33,35]))))] [(6,⟨[(3,.row 0),(4,.i)],[(0,vh)],[.own 96 gy]⟩),FG 8 vh]
def ML:=dG (.p1 bO) (.v bu) (fJ BS) func336
def acj:=dG (.p2 bO bu) (.p2 (.v bu) .b) (dd AQ) func262 [AX,ML]
def vk:=Iz (.v J7) lW func264 [] [(1,[1],oX 27 [26])]
def J8:=dG (.p1 J7) .b (fJ nh) func337 [rC,qZ,zD]
def EY:=dG (.p1 bO) (.own 37 bu) (fJ qT) func405 [ML,nF]
def MM:=dG (.p2 bO bu) (.own 37 bu) (dd tB) func339 [EY,je,nF] [(1,[],oN [1,5,2,6,9,11])]
def aeI:=dG (.p2 (.slc fZ) (.slc bu)) (.p2 (.own 106 bu) .i) (dd DO) func406 [rC,wU,OA] [] [] [uC 5 6 2 14 [.dead,.dead,.own 102 (.slc bu)]]
def Zd:=dG (.p3 eR (.int .i64) (.int .i64)) (.v dq) (ki BN) func511 [zi,CL,s6] [(3,[],oX 14 [7,8])] [jQ 22]
def aeJ:=dG (.p1 dq) (.p2 (.v dq) .i) (fJ DM) func184 [rD,nG,pC,CK] [(1,[1],oN [1,5,2,6,9,10,13,15,16,19,21,22,25])]
def ack:=dG (.p3 (.slc eR) (.slc bu) (.int .i64)) (.p2 (.v dq) .i) (ki AO) func488 [MC,ye,Zd,AZ,aeJ] [] [] [uC 5 8 1 23 [.dead,.own 108 dq]]
def UY:=dG (.p2 (.slc eR) (.slc bu)) (.p2 (.own 108 dq) .i) (dd zg) func453 [ack] [] [] [uC 3 6 1 10 [.dead,.own 108 dq]]
def Ze:=dG (.p1 (.int .i64)) .b (fJ BU) func299
def Ua:=dG (.p2 (.int .i64) (.int .i64)) .i (dd sz) func205 [Ze]
def Zh:=dG (.p1 (.int .u64)) .b (fJ BV) func300
def Ub:=dG (.p2 (.int .u64) (.int .u64)) .i (dd sA) func206 [Zh]
def aeK:=dG (.p2 dq dq) .i (dd DN) func138 [Ua,Ub,ach] [(1,[],oN [1,3,5,7,11,13,15,17,8,18,20,22,25])]
def Zi:=dG (.p1 (.slc dq)) (.p2 (.v dq) .i) (fJ BO) func454 [aeK] [] [(7,⟨[(5,.i)],[(1,[.i,.t (.int .u64)])],[]⟩)] [(3,⟨[(5,.i),(11,.i)],[(1,[.i,.t (.int .u64)])],[]⟩)]
def UZ:=dG (.p2 (.slc eR) (.slc bu)) (.p2 .i .i) (dd uZ) func407 [UY,Zi,wT]
def W4:=dG (.p4 (.slc eR) (.slc fZ) bO bu) (.p2 .i .i) (PQ DP) func338 [rC,EY,je,MM,aeI,UZ] [(3,[],oN [1,5,2,6,9,11])]
def CN:=dG (.p2 ei (.int .i64)) (.p2 .i .i) (dd po) func455 [xp,CL]
def Pz:=dG (.p3 (.int .i64) (.int .i64) (.int .i64)) (.p3 .i .i .i) (ki qG) func456 [s6,J2,zj]
def U1:=dG (.p2 ei (.int .i64)) (.p2 .i .i) (dd u5) func409 [CN,xp,Pz] [] [jQ 22]
def Bc:=oa [] [.v (.slc ei),.v (.slc ei),.fn 409 []] [] (.p2 (.own 2 (.int .i64)) .i) (dd iH) func408 [D4,rB,U1] [] [] [uC 5 8 1 20 [.dead,.own 2 (.int .i64)]]
def U2:=dG (.p3 (.slc ei) (.slc ei) (.int .i64)) (.p2 .i .i) (ki u6) func340 [Bc,j8]
def Bd:=dG (.p3 J7 bO bu) (.p2 .i .i) (ki lK) func263 [J8,W4,MM,pj,lN,U2,j8] [(10,[],oN [1,3,5,7,9,13,15,17,10,18,20,23,25,27,29,31])] [] [(8,⟨[(10,.row 0),(36,.row 1),(38,.i)],[],[.own 2 (.int .i64),.own 37 bu]⟩)]
def FL:=Iz .i ku func172 [iK,yO,J6,qW,acj,vk,Bd] [(10,[],sk [0,1,2,3,4,5,6,7,8,9,10] (.two 11 15 (oN [25,27,29,30,32,35]) (oN [22,25,27,29,32,35]))),(11,[],sk [0,1,2,3,4,5] (.two 6 10 (oN [15,17,19,20,22,25]) (oN [12,15,17,19,22,25]))),(12,[0],oN [1,5,7,2,8,11,13,15,17,19])] [rh 15 11,jQ 71]
def J9:=Iz .i vf func93 [ace,T8,OC,He,FL] [(4,[0],sk [0,1,2,3,4,6,7,8,9,11,12,13,14] (.er 5 [5,16,17,18,19,20,21,22,23,24] (.er 10 [10,16,17,18,19,20,21,22,23,24] (oN [30,32,35,37,39,41,43,45,46,49])))),(6,[0],sk [0,1,2,3,4,6,7,8,9,11,12,13,14] (.er 5 [5,16,17,18,19,20,21,22,23,24] (.er 10 [10,16,17,18,19,20,21,22,23,24] (oN [30,32,35,37,39,41,43,45,46,49]))))] [tO 13 3 vh]
def ID:=oa [ib] [.ptr 0,.v bu] [ib] .i (λW x=>j6 W (xh x ()) x.2.2.2.2.2.2.2.2.2.2.2.2.2.2.2.2.2.2.2.2.2.2.2.2.2.2.2.2.2.2.1) func265 [p7,qW] [(4,[],sk [0,1,2,3,4,5,6] (.two 7 11 (oN [17,19,21,22,24,27]) (oN [14,17,19,21,24,27])))]
def Uc:=dG (.p1 (.slc dH)) .b (fJ Ie) func124 [qY] [(4,[],oX 21 [17])] [jQ 32] [rh 2 7]
def lO:=dG (.p1 (.slc dH)) (.own 177 dH) (fJ dX) func346
def Hf:=oa [⟨37,[.i,.i]⟩] [.v dH,.ptr 0] [⟨37,[.i,.i]⟩] .b (ki xo) func411
def lC:=oa [⟨37,[.i,.i]⟩] [.v (.slc dH),.fn 411 [.ptr 0]] [⟨37,[.i,.i]⟩] .i (ki eW) func342 [Hf] [] [] [tO 2 8 [.i,.i]]
def lc:=oa [⟨37,[.i,.i]⟩] [.row 177 dH,.fn 411 [.ptr 0]] [⟨37,[.i,.i]⟩] (.own 177 dH) (ki cS) func410 [lC,Hf,arP] [] [(6,⟨[(0,.row 0),(5,.i)],[(0,[.i,.i])],[.own 177 dH]⟩)] [(5,⟨[(0,.row 0),(5,.i),(6,.i)],[(0,[.i,.i])],[.own 177 dH]⟩)]
def MN:=dG (.p2 (.slc dH) bu) (.own 177 dH) (dd tt) func341 [lO,lc]
def Qk:=oa [⟨37,[.i,.i]⟩] [.v dH,.ptr 0] [⟨37,[.i,.i]⟩] .b (ki AV) func343 [qY]
def lf:=oa [⟨37,[.i,.i]⟩] [.v (.slc dH),.fn 343 [.ptr 0]] [⟨37,[.i,.i]⟩] .i (ki dz) func342 [Qk] [] [] [tO 2 8 [.i,.i]]
def Va:=dG (.p3 (.slc dH) bu bu) (.p2 (.own 177 dH) .i) (ki uW) func267 [Uc,MN,lf,R5] [] [uC 9 8 0 9 [.own 177 dH]]
def J':=Iz .i nr func173 [ID,pB,Va] [(9,[],oX 21 [15])] [FG 12 vh]
def Zj:=oa [⟨37,[.i,.i]⟩] [.v dH,.ptr 0] [⟨37,[.i,.i]⟩] .b (ki G1) func414
def mn:=oa [⟨37,[.i,.i]⟩] [.v (.slc dH),.fn 414 [.ptr 0]] [⟨37,[.i,.i]⟩] .i (ki cZ) func342 [Zj] [] [] [tO 2 8 [.i,.i]]
def Ud:=dG (.p2 (.slc dH) bu) .i (dd tq) func345 [mn]
def Vb:=dG (.p3 (.slc dH) bu bu) (.p2 (.own 177 dH) .i) (ki uX) func268 [Ud,Uc,lO] [(6,[],oI 8)]
def Hg:=Iz .i la func174 [iK,Vb] [(4,[],oX 21 [15])] [FG 7 vh]
def EZ:=dG (.p3 cV (.int .i64) (.int .i64)) (.p2 (.v cV) .i) (ki qS) func347 [AY] [] [jQ 8]
def Zk:=dG (.p3 cV (.int .i64) (.int .i64)) (.p2 (.v cV) .i) (ki xZ) func269 [EZ] [] [FG 6 [.i,.i,.i,.i],jQ 14]
def vl:=oa [ib] [.ptr 0,.v cV] [ib] .i (λW x=>j4 W (xh x ()) x.2.2.2.2.2.2.2.2.2.2.2.2.2.2.2.2.2.2.2.2.2.2.2.2.2.2.2.2.2.2.1) func270 [MB] [(1,[],oX 12 [6])] [FG 4 vh]
def acm:=oa [⟨37,[.i,.i]⟩] [.v gS,.ptr 0] [⟨37,[.i,.i]⟩] .b (ki AL) func415
def Hh:=oa [⟨37,[.i,.i]⟩] [.v (.slc gS),.fn 415 [.ptr 0]] [⟨37,[.i,.i]⟩] (.own 3 (.int .i64)) (ki oA) func330 [acm] [] [(7,⟨[(5,.row 1)],[(0,[.i,.i])],[.dead,.own 3 (.int .i64)]⟩),(500021,⟨[(5,.row 1),(21,.b)],[(0,[.i,.i])],[.dead,.own 3 (.int .i64)]⟩)] [(3,⟨[(5,.row 1),(10,.i)],[(0,[.i,.i])],[.dead,.own 3 (.int .i64)]⟩)]
def ajp:=dG (.p2 (.slc gS) bu) (.own 3 (.int .i64)) (dd GO) func348 [Hh]
def IU:=dG (.p2 dS bu) (.p2 (.v bO) .i) (dd rk) func468 [qW,AX] [] [jQ 16]
def Zl:=dG (.p2 cV (.int .i64)) .i (dd BL) func495 [] [] [jQ 13]
def Zm:=dG (.p2 cV (.int .i64)) .i (dd xQ) func469 [Zl]
def Vd:=dG (.p2 dS bu) .i (dd uQ) func418 [IU,n5,Zm]
def Zn:=dG (.p2 (.slc dH) bu) (.p2 (.v dH) .b) (dd xP) func470 [Ud]
def Ve:=dG (.p2 (.slc dH) bu) (.p2 (.v bu) .i) (dd uN) func419 [Zn]
def Zo:=dG (.p2 dS bu) .b (dd xR) func471 [wU,lN,pj]
def PA:=dG (.p2 (.int .i64) (.slc (.int .i64))) .i (dd Ay) func496 [] [] [] [(2,⟨[(0,.i),(9,.i)],[],[]⟩)]
def Vf:=dG (.p3 cV (.int .i64) (.int .i64)) .i (ki uO) func472 [PA,j8] [] [jQ 28]
def Zp:=dG (.p3 dS bu bu) .i (ki xS) func420 [IU,n5,rA,Zo,Pw,Hb,Vf] [] [jQ 30]
def aeL:=dG (.p2 dS bu) (.p2 (.v bu) .i) (dd Dy) func351 [Vd,Ve,Zp]
def acn:=dG (.p3 (.slc gy) bu bu) (.p2 (.own 96 gy) .i) (ki AA) func355 [zD,pj,T9] [(8,[],oN [1,3,7,9,4,10,13,15])]
def aco:=dG (.p2 dS bu) (.p3 (.v dS) (.v bu) .i) (dd wI) func272 [aeL,wU,OA,Pu,lN,rE,acn,MN] [(8,[0],sk [0,2,3,4,6] (.er 5 [5,7,8,9,10,11,12,13,14] (.two 1 7 (oN [14,16,19,21,23,25,26,29]) (oN [2,16,19,21,23,25,26,29])))),(14,[2,3],oX 5 [2,3])] [tO 7 8 E1,tO 9 8 E1,tO 11 8 E1]
def MO:=Iz .i wR func176 [aco] [(1,[],sk [0,1,2,3,4,5,6,7,8] (.three 9 14 15 (sk [10,11,12,13] (.two 14 15 (oN [30,32,34,37]) (oN [28,32,34,37]))) (.two 9 15 (oN [21,23,25,27,30,32,34,37]) (oN [18,21,23,25,27,32,34,37])) (.two 9 14 (oN [21,23,25,27,28,32,34,37]) (oN [18,21,23,25,27,32,34,37])))),(3,[0],sk [0,1,2,3,4,5,6,8,9] (.two 7 10 (oN [20,23,25,27,28]) (oN [14,23,25,27,28])))] [FG 4 vh]
def Zq:=dG (.p2 cV (.int .i64)) (.p2 (.v cV) .i) (dd ya) func273 [EZ]
def MP:=dG (.p1 dS) .b (fJ s9) func356 [rC]
def Vg:=oa [⟨37,[.i,.i]⟩] [.v bO,.ptr 0] [⟨37,[.i,.i]⟩] .b (ki tY) func425 [AX]
def li:=oa [⟨37,[.i,.i]⟩] [.v (.slc bO),.fn 425 [.ptr 0]] [⟨37,[.i,.i]⟩] .i (ki dx) func297 [Vg] [] [] [tO 2 8 [.i,.i]]
def kw:=oa [⟨37,[.i,.i]⟩] [.v (.slc bO),.fn 425 [.ptr 0]] [⟨37,[.i,.i]⟩] .b (ki cK) func424 [li]
def PB:=dG (.p3 dS (.int .i64) bu) .b (ki wb) func357 [D1,kw]
def Zr:=dG (.p2 dS (.int .i64)) (.p2 (.v dS) .i) (dd xu) func274 [MP,PB,EW] [] [(13,⟨[(6,.row 1)],[(0,E1)],[.dead,.own 104 fZ]⟩)] [(5,⟨[(6,.row 1),(18,.i)],[(0,E1)],[.dead,.own 104 fZ]⟩)]
def E3:=Iz .i jS func177 [jE,Zq,vl,Zr] [(3,[1],oN [3,5,7,9,11,0,12,15,17,19,20,23]),(8,[],sk [0,1,2,3,4,5] (.two 6 10 (oN [15,17,19,20,22,25]) (oN [12,15,17,19,22,25])))] [(4,⟨[(4,.i)],[(1,[.i,.i,.i,.i])],[]⟩),tO 6 4 vh,FG 11 vh]
def aeM:=dG (.p2 (.int .i64) (.int .i64)) .b (dd CR) func430
def Zs:=dG (.p2 dS bu) .i (dd xv) func431 [qW,AX,n5,rA] [] [jQ 16]
def Zt:=dG (.p6 dS bu bu (.int .i64) (.int .i64) (.int .i64)) .i (alj xw) func359 [ye,MP,qZ,wU,W3,aeM,Zs] [] [jQ 22,jQ 35]
def acp:=dG (.p6 dS bu bu (.int .i64) (.int .i64) (.int .i64)) (.p2 (.v dS) .i) (alj zH) func276 [Zt,ye,Pt,W0,EW,rE] [] [(12,⟨[(18,.i),(19,.row 0)],[(0,E1)],[.own 106 bu]⟩),tO 14 18 E1,tO 16 18 E1]
def MQ:=Iz .i jX func178 [p7,pB,acp,wV] [(6,[],sk [0,1,2,3,4,5,6,7,8,9,10,11,12,13,14,15,16,17,18,19,20,21,22,23,24,25,26,27,28] (.two 29 33 (oN [61,63,65,66,68,71]) (oN [58,61,63,65,68,71])))]
def Vh:=dG (.p2 cV (.int .i64)) (.p2 (.v cV) .i) (dd uU) func277 [EZ]
def acq:=dG (.p2 dS (.int .i64)) (.own 104 fZ) (dd zF) func278 [PB] [] [PR 7 5 1 [.dead,.own 104 fZ]] [uC 3 5 1 11 [.dead,.own 104 fZ]]
def Zu:=dG (.p1 (.slc bO)) (.p2 (.own 37 bu) (.own 37 bu)) (fJ G3) func362 [nF] [] [(7,⟨[(2,.row 1),(3,.row 3)],[],[.dead,.own 37 bu,.dead,.own 37 bu]⟩)] [(2,⟨[(2,.row 1),(3,.row 3),(8,.i)],[],[.dead,.own 37 bu,.dead,.own 37 bu]⟩)]
def Hi:=dG (.p2 dS bu) (.p2 .i .i) (dd qH) func476 [lN,OB]
def ao6:=dG (.p3 (.int .i64) (.int .i64) (.int .i64)) (.p2 .i .i) (ki K5) func522 [s6,J2,wS,AZ,zj] [(3,[0],.two 0 1 (oN [2,4,6,9,11,13,14,17]) (oN [0,4,6,9,11,13,14,17]))] [tO 4 10 [.i,.t (.int .u64)],jQ 25]
def Zv:=dG (.p2 ei (.int .i64)) (.p2 .i .i) (dd xz) func514 [xp,ao6]
def acr:=dG (.p5 (.slc gy) bu bu ei (.int .i64)) (.p2 (.own 96 gy) .i) (λW x=>zP W x.1 x.2.1 x.2.2.1 x.2.2.2.1 x.2.2.2.2.1) func515 [zD,Py,T']
def acs:=dG (.p4 dS bu ei (.int .i64)) (.p2 (.v dS) .i) (PQ zQ) func498 [rB,Zv,CN,sN,acr,rE] [(12,[0],sk [0,2,4] (.two 1 3 (oN [6,10,13,15,17,19,20,23]) (oN [2,10,13,15,17,19,20,23]))),(14,[0],sk [0,3,4] (.two 1 2 (oN [4,10,13,15,17,19,20,23]) (oN [2,10,13,15,17,19,20,23])))] [tO 13 13 E1,tO 15 13 E1]
def PC:=dG (.p3 dS bu (.int .i64)) (.p2 (.v dS) .i) (ki wk) func477 [qZ,zD,sN,pj,lN,Ig,acs] [(3,[],oX 4 [1])] [(11,⟨[(11,.i),(32,.row 0)],[(0,E1)],[.own 92 ei]⟩),jQ 12,(500052,⟨[(32,.row 0),(52,.b)],[],[.own 92 ei]⟩)] [(6,⟨[(32,.row 0),(34,.i)],[(0,E1)],[.own 92 ei]⟩)]
def aeN:=dG (.p2 dS bu) (.p3 (.v dS) (.own 144 jo) .i) (dd C4) func434 [Hi,PC] [(10,[2],sk [0,1,2,3,4,5,6] (.two 7 8 (oN [16,19,21]) (oN [14,19,21])))]
def yE:=oa [⟨416,[.i,.v (.slc cV),.v (.slc eR),.v (.slc ei),.v (.slc bO),.v (.slc dH),.v (.slc fY),.v (.slc gS),.v (.slc fZ),.v (.slc fZ),.v (.slc fF),.v (.slc gy),.row 144 jo,.i]⟩] [.ptr 0,.v dS,.v (.slc jo),.i] [⟨416,[.i,.v (.slc cV),.v (.slc eR),.v (.slc ei),.v (.slc bO),.v (.slc dH),.v (.slc fY),.v (.slc gS),.v (.slc fZ),.v (.slc fZ),.v (.slc fF),.v (.slc gy),.row 144 jo,.i]⟩] .unit (λW x=>qV W x.1 x.2.1 x.2.2.1 x.2.2.2.1 x.2.2.2.2.1 x.2.2.2.2.2.1 x.2.2.2.2.2.2.1 x.2.2.2.2.2.2.2.1 x.2.2.2.2.2.2.2.2.1 x.2.2.2.2.2.2.2.2.2.1 x.2.2.2.2.2.2.2.2.2.2.1 x.2.2.2.2.2.2.2.2.2.2.2.1 x.2.2.2.2.2.2.2.2.2.2.2.2.1 x.2.2.2.2.2.2.2.2.2.2.2.2.2.1 x.2.2.2.2.2.2.2.2.2.2.2.2.2.2.1 x.2.2.2.2.2.2.2.2.2.2.2.2.2.2.2.1 x.2.2.2.2.2.2.2.2.2.2.2.2.2.2.2.2.1) func433 [] [(3,[0],oN [1,3,5,7,9,11,15,12,16,19,21,22,25,27,28])]
def Ue:=oa [⟨416,[.i,.v (.slc cV),.v (.slc eR),.v (.slc ei),.v (.slc bO),.v (.slc dH),.v (.slc fY),.v (.slc gS),.v (.slc fZ),.v (.slc fZ),.v (.slc fF),.v (.slc gy),.row 144 jo,.i]⟩] [.ptr 0,.v (.slc bu)] [⟨416,[.i,.v (.slc cV),.v (.slc eR),.v (.slc ei),.v (.slc bO),.v (.slc dH),.v (.slc fY),.v (.slc gS),.v (.slc fZ),.v (.slc fZ),.v (.slc fF),.v (.slc gy),.row 144 jo,.i]⟩] .unit (λW x=>CG W x.1 x.2.1 x.2.2.1 x.2.2.2.1 x.2.2.2.2.1 x.2.2.2.2.2.1 x.2.2.2.2.2.2.1 x.2.2.2.2.2.2.2.1 x.2.2.2.2.2.2.2.2.1 x.2.2.2.2.2.2.2.2.2.1 x.2.2.2.2.2.2.2.2.2.2.1 x.2.2.2.2.2.2.2.2.2.2.2.1 x.2.2.2.2.2.2.2.2.2.2.2.2.1 x.2.2.2.2.2.2.2.2.2.2.2.2.2.1 x.2.2.2.2.2.2.2.2.2.2.2.2.2.2.1) func363 [aeN,yE] [(4,[0],oN [1,3,5,7,11,8,12,15,17,19,20])] [(5,⟨[],[(0,[.i,.t (.slc cV),.t (.slc eR),.t (.slc ei),.t (.slc bO),.t (.slc dH),.t (.slc fY),.t (.slc gS),.t (.slc fZ),.t (.slc fZ),.t (.slc fF),.t (.slc gy),.row 0,.i])],[.own 144 jo]⟩)] [(1,⟨[(8,.i)],[(0,[.i,.t (.slc cV),.t (.slc eR),.t (.slc ei),.t (.slc bO),.t (.slc dH),.t (.slc fY),.t (.slc gS),.t (.slc fZ),.t (.slc fZ),.t (.slc fF),.t (.slc gy),.row 0,.i])],[.own 144 jo]⟩)]
def FM:=oa [] [.v dS,.v (.slc bu),.fn 476 []] [] (.p3 (.own 2 (.int .i64)) .i .i) (dd nz) func478 [Hi,j8] [] [] [uC 3 9 1 18 [.dead,.own 2 (.int .i64)]]
def Be:=oa [] [.v (.slc ei),.v (.slc ei),.fn 455 []] [] (.p2 (.own 2 (.int .i64)) .i) (dd iE) func408 [D4,rB,CN] [] [] [uC 5 8 1 20 [.dead,.own 2 (.int .i64)]]
def Vi:=dG (.p2 (.slc ei) (.slc ei)) (.p2 .i .i) (dd uh) func501 [Be,j8]
def PD:=dG (.p2 dS bu) (.p2 .i .i) (dd wj) func483 [pj,Vi,lN,j8] [(1,[],oX 12 [5,6])]
def acu:=dG (.p2 dS bu) (.p2 .i .i) (dd AR) func479 [PD,lN] [] [rh 4 6]
def FN:=oa [] [.v dS,.v (.slc bu),.fn 479 []] [] (.p3 (.own 2 (.int .i64)) .i .i) (dd nC) func478 [acu,j8] [] [] [uC 3 9 1 18 [.dead,.own 2 (.int .i64)]]
def W5:=dG (.p1 (.slc (.int .i64))) .i (fJ Mt) func480 [] [] [] [rh 3 8]
def IV:=dG (.p2 (.int .i64) (.slc (.int .i64))) .b (dd ru) func499 [PA]
def Uf:=dG (.p3 (.int .i64) (.int .i64) (.slc (.int .i64))) (.p2 (.own 550 ei) .i) (ki sB) func516 [Pz] [] [] [(4,⟨[(8,.row 0),(9,.i),(20,.i)],[],[.own 550 ei]⟩)]
def Vj:=dG (.p2 (.int .i64) (.slc (.int .i64))) (.p2 (.own 2 (.int .i64)) .i) (dd u9) func500 [IV,j8,Uf,θ] [] [] [(13,⟨[(8,.row 0),(9,.row 1),(45,.row 1),(47,.i)],[],[.own 2 (.int .i64),.own 550 ei]⟩),uC 19 8 0 66 [.own 2 (.int .i64)]]
def Zw:=dG (.p2 (.int .i64) (.slc (.int .i64))) (.p2 (.own 2 (.int .i64)) .i) (dd tC) func481 [IV,j8,Vj]
def PE:=dG (.p4 dS bu bu (.int .i64)) (.p3 (.v dS) (.own 144 jo) .i) (PQ wm) func482 [PC,rE] [(8,[3],sk [0,1,2,3,4] (.two 5 6 (oN [12,15,17]) (oN [10,15,17])))] [tO 6 11 E1]
def Vk:=dG (.p2 dS (.slc bu)) (.p3 (.v dS) (.own 144 jo) .i) (dd u7) func435 [FM,FN,W5,Zw,PE] [(10,[],sk [0,1,2,4,5,6] (.er 3 [3,8,9] (oN [14,17,19]))),(11,[],sk [0,1,2,3,4,5,6,7,8,9] (.two 10 15 (oN [23,25,27,29,30,32,35,37]) (oN [20,23,25,27,29,32,35,37]))),(14,[0],oX 6 [3,4]),(15,[],sk [0,1,2,3,4,5,6,8,10,11,12,14] (.two 7 13 (oN [19,26,31,33,34,37,38]) (oN [31,14,19,33,34,37,38])))] [(16,⟨[(13,.row 2),(15,.row 3),(17,.row 5)],[],[.dead,.dead,.own 2 (.int .i64),.own 2 (.int .i64),.dead,.own 144 jo]⟩),(19,⟨[(17,.row 5)],[(0,E1)],[.dead,.dead,.dead,.dead,.dead,.own 144 jo]⟩),(500043,⟨[(7,.row 0),(10,.row 1),(43,.b)],[],[.own 2 (.int .i64),.own 2 (.int .i64)]⟩)] [(9,⟨[(13,.row 2),(15,.row 3),(17,.row 5),(18,.i),(19,.i)],[(0,E1)],[.dead,.dead,.own 2 (.int .i64),.own 2 (.int .i64),.dead,.own 144 jo]⟩)]
def MR:=oa [⟨416,[.i,.v (.slc cV),.v (.slc eR),.v (.slc ei),.v (.slc bO),.v (.slc dH),.v (.slc fY),.v (.slc gS),.v (.slc fZ),.v (.slc fZ),.v (.slc fF),.v (.slc gy),.row 144 jo,.i]⟩] [.ptr 0,.v (.slc bO)] [⟨416,[.i,.v (.slc cV),.v (.slc eR),.v (.slc ei),.v (.slc bO),.v (.slc dH),.v (.slc fY),.v (.slc gS),.v (.slc fZ),.v (.slc fZ),.v (.slc fF),.v (.slc gy),.row 144 jo,.i]⟩] .unit (λW x=>rr W x.1 x.2.1 x.2.2.1 x.2.2.2.1 x.2.2.2.2.1 x.2.2.2.2.2.1 x.2.2.2.2.2.2.1 x.2.2.2.2.2.2.2.1 x.2.2.2.2.2.2.2.2.1 x.2.2.2.2.2.2.2.2.2.1 x.2.2.2.2.2.2.2.2.2.2.1 x.2.2.2.2.2.2.2.2.2.2.2.1 x.2.2.2.2.2.2.2.2.2.2.2.2.1 x.2.2.2.2.2.2.2.2.2.2.2.2.2.1 x.2.2.2.2.2.2.2.2.2.2.2.2.2.2.1) func364 [nF,Vk,yE] [(4,[0],sk [0,1,2,3,5] (.two 4 6 (oN [12,14,17,19,21,22]) (oN [8,14,17,19,21,22])))] [(5,⟨[],[(0,[.i,.t (.slc cV),.t (.slc eR),.t (.slc ei),.t (.slc bO),.t (.slc dH),.t (.slc fY),.t (.slc gS),.t (.slc fZ),.t (.slc fZ),.t (.slc fF),.t (.slc gy),.row 0,.i])],[.own 144 jo]⟩),(500021,⟨[(21,.b)],[(0,[.i,.t (.slc cV),.t (.slc eR),.t (.slc ei),.t (.slc bO),.t (.slc dH),.t (.slc fY),.t (.slc gS),.t (.slc fZ),.t (.slc fZ),.t (.slc fF),.t (.slc gy),.row 0,.i])],[.own 144 jo]⟩)] [(1,⟨[(8,.i)],[(0,[.i,.t (.slc cV),.t (.slc eR),.t (.slc ei),.t (.slc bO),.t (.slc dH),.t (.slc fY),.t (.slc gS),.t (.slc fZ),.t (.slc fZ),.t (.slc fF),.t (.slc gy),.row 0,.i])],[.own 144 jo]⟩)]
def aeO:=dG (.p3 dS bu bu) (.p3 (.v dS) (.own 144 jo) .i) (ki C3) func436 [Hi,PD,W5,PE] [] [jQ 25]
def MT:=oa [⟨416,[.i,.v (.slc cV),.v (.slc eR),.v (.slc ei),.v (.slc bO),.v (.slc dH),.v (.slc fY),.v (.slc gS),.v (.slc fZ),.v (.slc fZ),.v (.slc fF),.v (.slc gy),.row 144 jo,.i]⟩] [.ptr 0,.v (.slc bu),.v (.slc bu)] [⟨416,[.i,.v (.slc cV),.v (.slc eR),.v (.slc ei),.v (.slc bO),.v (.slc dH),.v (.slc fY),.v (.slc gS),.v (.slc fZ),.v (.slc fZ),.v (.slc fF),.v (.slc gy),.row 144 jo,.i]⟩] .unit (λW x=>rz W x.1 x.2.1 x.2.2.1 x.2.2.2.1 x.2.2.2.2.1 x.2.2.2.2.2.1 x.2.2.2.2.2.2.1 x.2.2.2.2.2.2.2.1 x.2.2.2.2.2.2.2.2.1 x.2.2.2.2.2.2.2.2.2.1 x.2.2.2.2.2.2.2.2.2.2.1 x.2.2.2.2.2.2.2.2.2.2.2.1 x.2.2.2.2.2.2.2.2.2.2.2.2.1 x.2.2.2.2.2.2.2.2.2.2.2.2.2.1 x.2.2.2.2.2.2.2.2.2.2.2.2.2.2.1 x.2.2.2.2.2.2.2.2.2.2.2.2.2.2.2.1) func365 [aeO,yE] [(7,[0],oN [1,3,5,7,11,13,8,14,17,19,21,22])] [(8,⟨[],[(0,[.i,.t (.slc cV),.t (.slc eR),.t (.slc ei),.t (.slc bO),.t (.slc dH),.t (.slc fY),.t (.slc gS),.t (.slc fZ),.t (.slc fZ),.t (.slc fF),.t (.slc gy),.row 0,.i])],[.own 144 jo]⟩)] [(1,⟨[(12,.i)],[(0,[.i,.t (.slc cV),.t (.slc eR),.t (.slc ei),.t (.slc bO),.t (.slc dH),.t (.slc fY),.t (.slc gS),.t (.slc fZ),.t (.slc fZ),.t (.slc fF),.t (.slc gy),.row 0,.i])],[.own 144 jo]⟩),(4,⟨[(18,.i)],[(0,[.i,.t (.slc cV),.t (.slc eR),.t (.slc ei),.t (.slc bO),.t (.slc dH),.t (.slc fY),.t (.slc gS),.t (.slc fZ),.t (.slc fZ),.t (.slc fF),.t (.slc gy),.row 0,.i])],[.own 144 jo]⟩)]
def aeP:=dG (.p2 dS (.int .i64)) (.p3 (.v dS) (.own 144 jo) .i) (dd H9) func279 [D1,Zu,Ue,MR,MT,Hc] [(9,[1],oX 8 [5]),(10,[1],oX 11 [8])]
def ajq:=dG (.p2 dS bu) (.v D5) (dd GM) func366 [lN,pj] [(1,[2],oN [1,3,5,7,13,15,17,8,11,18,21,22])]
def aeQ:=dG (.p3 (.slc gy) bu (.slc ei)) (.p2 (.own 96 gy) .i) (ki H6) func437 [D4,CM] [] [rh 4 8]
def Ug:=dG (.p2 dS D5) (.p2 (.v dS) .i) (dd xk) func367 [B4,aeQ] [] [(5,⟨[(6,.i)],[(0,ayN)],[.dead,.own 94 fF]⟩)]
def acv:=dG (.p2 dS (.int .i64)) (.p3 (.v dS) (.own 56 D5) .i) (dd EM) func280 [qZ,zD,D1,nF,ajq,Ug] [(15,[0],oX 7 [3,4,5])] [(12,⟨[(7,.row 3),(29,.row 0),(36,.row 4)],[],[.own 99 bO,.dead,.dead,.own 56 D5,.own 37 bu]⟩),(16,⟨[(7,.row 3),(29,.row 0),(36,.row 4)],[(0,E1)],[.own 99 bO,.dead,.dead,.own 56 D5,.own 37 bu]⟩),jQ 24] [(5,⟨[(7,.row 3),(29,.row 0),(31,.i)],[(0,E1)],[.own 99 bO,.dead,.dead,.own 56 D5]⟩),(8,⟨[(7,.row 3),(29,.row 0),(36,.row 4),(38,.i)],[(0,E1)],[.own 99 bO,.dead,.dead,.own 56 D5,.own 37 bu]⟩)]
def KA:=Iz .i mY func179 [jE,Vh,vl,acq,aeP,acv] [(3,[1],oN [3,5,7,9,11,0,12,15,17,19,20,23]),(8,[],oX 9 [6]),(10,[],sk [0,1,2,3,4,5] (.two 6 11 (oN [15,17,19,21,22,24,27,29]) (oN [12,15,17,19,21,24,27,29])))] [(4,⟨[(4,.i)],[(1,[.i,.i,.i,.i])],[]⟩),tO 6 4 vh,FG 16 vh]
def FO:=oa [ib] [.ptr 0] [ib] (.p2 (.own 2 (.int .i64)) .i) (λW x=>nv W (xh x ())) func281 [wU,p7] [(2,[],oN [1,3,5,7,9,11,13,15,17,19,25,20,23])] [] [(3,⟨[(4,.row 2),(17,.row 0),(19,.i)],[],[.own 106 bu,.dead,.own 2 (.int .i64)]⟩)]
def MV:=oa [ib] [.ptr 0] [ib] (.p2 (.own 2 (.int .i64)) .i) (λW x=>rq W (xh x ())) func282 [Hc,sN,p7,lN] [(1,[],sk [0,1,2,3,4] (.op 5 (sk [6,7,8,9,10,11] (.two 12 13 (oN [26,29,31,33]) (oN [24,29,31,33]))))),(5,[],oX 14 [10,11])] [(2,⟨[(4,.b)],[],[]⟩),jQ 34]
def IE:=oa [ib] [.ptr 0] [ib] (.p2 (.own 2 (.int .i64)) .i) (λW x=>mi W (xh x ())) func283 [qW,W4,vk,Bd] [(1,[],sk [0,1,2,3,4,5,6,7,8,9,10] (.two 11 15 (oN [25,27,29,30,32,35]) (oN [22,25,27,29,32,35]))),(5,[],oX 22 [16]),(7,[0],sk [0,2,3,4,5,6] (.two 1 7 (oN [14,16,19,21,23,25,27]) (oN [2,16,19,21,23,25,27])))] [(8,⟨[(8,.i),(9,.i)],[(0,vh)],[]⟩)]
def Vl:=dG (.p2 J7 (.slc bO)) (.p2 (.own 94 fF) .i) (dd rn) func368 [EY,Bd] [] [(13,⟨[(6,.row 2),(20,.row 3)],[],[.dead,.dead,.own 94 fF,.own 37 bu]⟩)] [uC 3 6 2 15 [.dead,.dead,.own 94 fF],(6,⟨[(6,.row 2),(20,.row 3),(22,.i)],[],[.dead,.dead,.own 94 fF,.own 37 bu]⟩)]
def KB:=oa [ib] [.ptr 0] [ib] (.p2 (.own 2 (.int .i64)) .i) (λW x=>qw W (xh x ())) func284 [vk,Vl] [(1,[0],sk [0,2,3,4,5] (.two 1 6 (oN [12,14,17,19,21,23,25]) (oN [2,14,17,19,21,23,25])))] [(2,⟨[(4,.row 0),(5,.i)],[(0,vh)],[.own 94 fF]⟩)] [(4,⟨[(6,.row 2),(20,.row 0),(22,.i)],[],[.own 94 fF,.dead,.own 2 (.int .i64)]⟩)]
def KE:=oa [ib] [.ptr 0] [ib] (.p2 (.own 2 (.int .i64)) .i) (λW x=>ns W (xh x ())) func285 [jE,Hb] [(4,[],oX 12 [6])]
def KG:=oa [ib] [.ptr 0] [ib] (.p2 (.own 2 (.int .i64)) .i) (λW x=>nw W (xh x ())) func180 [FO,MV,IE,KB,KE] [] [jQ 21]
def OE:=Iz .i pW func95 [KG] [] [FG 4 vh]
def Zx:=dG (.p2 (.slc bO) (.int .i64)) (.p2 (.v bO) .b) (dd G4) func42 [] [] [] [rh 2 6]
def acw:=dG (.p3 dS bu (.int .i64)) .b (ki Ab) func19 [Zx]
def acx:=dG (.p1 (.int .u64)) (.v jL) (fJ EQ) func40 [] [] [] [(2,⟨[(0,.t (.int .u64)),(3,.row 1)],[],[.dead,.own 5 (.int .u8)]⟩)]
def MW:=dG (.p2 (.slc (.int .u8)) (.slc (.int .u8))) (.own 5 (.int .u8)) (dd BW) func37 [] [] [PR 6 5 1 [.dead,.own 5 (.int .u8)],(8,⟨[(5,.row 1),(6,.t (.int .u8))],[],[.dead,.own 5 (.int .u8)]⟩),(10,⟨[(5,.row 1),(6,.t (.int .u8))],[],[.dead,.own 5 (.int .u8)]⟩),PR 14 5 1 [.dead,.own 5 (.int .u8)]] [(4,⟨[(5,.row 1),(6,.t (.int .u8)),(7,.i)],[],[.dead,.own 5 (.int .u8)]⟩)]
def aeR:=dG (.p1 (.int .i64)) (.v jL) (fJ zC) func12 [acx,MW]
def MX:=dG (.p2 .bool (.slc (.int .u8))) (.v jL) (dd tE) func36 [] [] [rh 4 5] [rh 2 5]
def Zy:=dG (.p2 (.slc (.int .u8)) (.slc (.int .u8))) .b (dd G5) func38 [] [(6,[],oI 11),(7,[],oI 12)] [] [rh 4 5]
def Vm:=dG (.p2 (.slc (.int .u8)) (.slc (.int .u8))) (.own 5 (.int .u8)) (dd zh) func39 [] [] [(9,⟨[(5,.row 1),(8,.t (.int .u8))],[],[.dead,.own 5 (.int .u8)]⟩),(13,⟨[(5,.row 1),(6,.t (.int .u8))],[],[.dead,.own 5 (.int .u8)]⟩)] [(4,⟨[(5,.row 1),(6,.t (.int .u8)),(7,.i)],[],[.dead,.own 5 (.int .u8)]⟩)]
def PF:=dG (.p2 jL jL) (.v jL) (dd wK) func11 [MW,MX,Zy,Vm] [(2,[2],oX 9 [6,7,8]),(4,[2],oX 9 [6,7,8]),(5,[2],oX 9 [6,7,8])]
def acy:=dG (.p1 jL) (.v jL) (fJ AF) func41 [MX]
def acz:=dG (.p2 jL jL) (.v jL) (dd AG) func13 [acy,PF] [(1,[2],oX 5 [2,3,4])]
def ac0:=dG (.p2 jL jL) .i (dd AH) func15 [acz]
def Zz:=dG (.p2 dS (.int .i64)) .b (dd xG) func20 [acw,aeR,PF,ac0] [(6,[],oX 20 [18]),(15,[],oX 11 [7,8])] [(4,⟨[],[(1,[.b,.t (.slc (.int .u8))])],[]⟩)] [(3,⟨[(6,.i)],[(1,[.b,.t (.slc (.int .u8))])],[]⟩),(6,⟨[(7,.i)],[(1,[.b,.t (.slc (.int .u8))])],[]⟩),rh 12 9]
def Hj:=oa [ib] [.ptr 0,.i] [ib] (.own 3 (.int .i64)) (λW x=>kU W (xh x ()) x.2.2.2.2.2.2.2.2.2.2.2.2.2.2.2.2.2.2.2.2.2.2.2.2.2.2.2.2.2.2.1) func271 [D1,nF,ajp,aih,XP] [(8,[],oX 10 [7,8])] [] [(3,⟨[(5,.row 3),(16,.row 0),(18,.i)],[],[.own 99 bO,.dead,.dead,.own 3 (.int .i64)]⟩),(6,⟨[(5,.row 3),(16,.row 0),(23,.row 4),(25,.i)],[],[.own 99 bO,.dead,.dead,.own 3 (.int .i64),.own 37 bu]⟩)]
def FP:=Iz .i kr func175 [jE,Zk,vl,Hj,B6] [(6,[1],oN [3,5,7,9,11,13,15,17,19,21,0,22,25,27,29,30,33])] [tO 9 4 vh,jQ 26]
def MY:=Iz .i oK func94 [J',Hg,FP,MO,E3,MQ,KA]
def OF:=Iz .i pT func35 [J0,J5,J9,MY,OE]
def Vn:=oa [ib] [.i,.fns [.fn 1000033 [.ptr 0],.fn 1000034 [.ptr 0],.fn 1000035 [.ptr 0]]] [ib] .i (λW x=>uB W (xh x ()) x.2.2.2.2.2.2.2.2.2.2.2.2.2.2.2.2.2.2.2.2.2.2.2.2.2.2.2.2.2.2.1) func31 [IA,G',OF]
def IW:=dG (.p2 dS jY) (.p2 (.v dS) (.v ax8)) (dd na) func10 [abX,Vn] [(5,[2,3],oX 10 [8,9])]
def Vo:=dG .unit .b (λW x=>Eu W) func18 [IW]
def LZ:=dG (.p1 (.slc jY)) .b (fJ wt) func5 [UK,IW,Zz,Vo] [] [(12,⟨[],[],[]⟩),FG 13 E1,jQ 52] [tO 3 4 E1,rh 8 8]
open Go.ChangeShapes Go.WideShapes Go.ChangeAt Go.Joins
theorem own:ownKnob Tryz.prog.godebug=none:=by kernel_rfl
theorem laidOut:laidOutB Tryz.prog=true:=by kernel_rfl
theorem T_{H:Type}{enc:TypeId×Value->H}{w:World}{spare:Nat->Bool}{held:Bool}{t:TypeId}{v:Value}{d:DataW H}{p:List MemPlace}(h:DataW.Trod enc Tryz.prog w 0 spare held t v d p):∀x∈p,x.block<w.heap.size:=by obtain⟨m,hm⟩:=h;exact DataW.trod_lt m _ _ _ hm
end Go.Proofs.YthghpahghjppjaaGreat
namespace Go.Vc
open Go
def Fc(T:List (List Nat)):Nat->List Nat->List Nat->List Nat
 |0,_,seen=>seen.reverse
 |_,[],seen=>seen.reverse
 |n+1,f::todo,seen=>if seen.contains f then Fc T n todo seen else Fc T n ((T[f]?).getD []++todo) (f::seen)
theorem aeW{P:Program}{T:List (List Nat)}(j:P.funcs.toList.map P.leadsTo=T)(f:Nat):(P.funcs[f]?).elim [] P.leadsTo=(T[f]?).getD []:=by subst j;rw[kI,dg];cases P.funcs[f]?<;>rfl
theorem Cg{P:Program}{T:List (List Nat)}(j:P.funcs.toList.map P.leadsTo=T):∀n todo seen,P.closureVia n todo seen=Fc T n todo seen
 |0,_,_=>by simp only[Program.closureVia,Fc]
 |n+1,[],_=>by simp only[Program.closureVia,Fc]
 |n+1,f::todo,seen=>by simp only[Program.closureVia,Fc];rw[Cg j n,Cg j n,aeW j f]
theorem zI{P:Program}{T:List (List Nat)}(j:P.funcs.toList.map P.leadsTo=T)(f:Nat):P.closure f=Fc T (1+(T.map λl=>l.length+1).sum) [f] []:=by unfold Program.closure;rw[Cg j];subst j;rw[gQ];rfl
theorem Ho{T:List (List Nat)}{p:Nat->Prop}(hp:∀x,p x->∀y∈(T[x]?).getD [],p y):∀n todo seen,(∀x∈todo,p x)->(∀x∈seen,p x)->∀x∈Fc T n todo seen,p x
 |0,_,_,_,hs=>by intro x j;simp only[Fc]at j;exact hs x (by simpa using j)
 |n+1,[],_,_,hs=>by intro x j;simp only[Fc]at j;exact hs x (by simpa using j)
 |n+1,f::todo,seen,C,hs=>by
  intro x j;simp only[Fc]at j;split at j
  .exact Ho hp n todo seen (λy r=>C y (by simp[r])) hs x j
  .refine Ho hp n _ _ (λy r=>?_) (λy r=>?_) x j
   .rcases aX.1 r with h|h
    .exact hp f (C f (by simp)) y h
    .exact C y (by simp[h])
   .rcases aG.1 r with rfl|h
    .exact C y (by simp)
    .exact hs y h
def asX(T:List (List Nat))(j:List Nat):Bool:=(List.range T.length).all λg=>(j[g]?).getD 0==0||((T[g]?).getD []).all λh=>decide (0<(j[h]?).getD 0)&&decide ((j[h]?).getD 0<(j[g]?).getD 0)
theorem Xf{T:List (List Nat)}{j:List Nat}(h:asX T j=true){g y:Nat}(G:0<(j[g]?).getD 0)(r:y∈(T[g]?).getD []):0<(j[y]?).getD 0/\(j[y]?).getD 0<(j[g]?).getD 0:=by
 have C:g<T.length:=by
  rcases dI g T.length with h1|h1
  .exact h1
  .rw[bJ h1]at r;cases r
 have:=lZ.1 h g (Bg.2 C);simp only[fv,fW,lZ,aD,bc]at this;rcases this with F|F
 .omega
 .exact F y r
theorem arA{P:Program}{T:List (List Nat)}{r:List Nat}{f:Nat}(G:P.funcs.toList.map P.leadsTo=T)(hk:asX T r=true)(J:0<(r[f]?).getD 0)(hu:P.unfollowed f=false):P.recurses f=false:=by
 unfold Program.recurses;rw[hu,Bool.false_or,kH];intro g H;rw[zI G]at H;have F:0<(r[g]?).getD 0:=Ho (p:=λx=>0<(r[x]?).getD 0) (λx j y C=>(Xf hk j C).1) _ _ _ (by intro x j;simp only[ax]at j;subst j;exact J) (by intro x j;cases j) g H;simp only[wW,kH];intro h hh;rw[aeW G]at hh;obtain⟨h1,R⟩:=Xf hk F hh;rw[zI G];cases K:(Fc T (1+(T.map λl=>l.length+1).sum) [h] []).contains g with
 |false=>rfl
 |true=>have hm:=List.contains_iff_mem.1 K;have:=Ho (p:=λx=>0<(r[x]?).getD 0/\(r[x]?).getD 0<=(r[h]?).getD 0) (λx j y C=>by have:=Xf hk j.1 C;exact⟨this.1,by omega⟩) _ _ _ (by intro x j;simp only[ax]at j;subst j;exact⟨h1,au _⟩) (by intro x j;cases j) g hm;omega
end Go.Vc
namespace Go.Proofs.YthghpahghjppjaaGreat
open Go Go.Vc
def aj2:List (List Nat):=[[],[],[1],[9,10,12,11,12,13,12,13,14,13,16,15,17,15,18],[9,10,19,19,18],[9,10,20,20,18],[9,10,21,22,23],[9,10,24,25,26,26,25,27,28,29,29,11,18],[9,10,30,23],[],[32,33,34,35,31],[37,36,38,39,36,39,36],[40,40,37],[41,11],[12,11],[13],[12,11],[14,11],[10,10,10],[42],[19,12,11,12,15],[43,44,45,46,45],[29,29,11,17,47,15,16,47,15],[21,45,48,12,15],[49,50,51],[52,53,54,55,56,57,58,59,59,60,61],[],[62,63,64,64,65,66,67,67,68],[69,70,71,72,73,74,74,75],[76,12,11],[77,78,80,82,81,79,84,83],[],[86,85,87],[88,89],[90],[91,92,93,94,95],[],[],[],[],[],[36],[],[96,96,79,84],[81,97],[98,81,79,81,99,100,99,84],[101,97],[12,11,12,13,12,13,14,13],[102],[],[],[103],[],[104],[],[105],[],[],[],[106],[],[103],[107,108,109,110,111,112,112,113],[112,114,112,112,114],[112,114,115],[116],[117,116],[112],[],[118],[119,120,121,122],[123,123,124],[123,125,126,127],[123,123,125,127,126],[123,125,128],[129,129,130,131,132],[],[98],[133,134,135],[],[137,136],[],[],[138],[97],[139,140,141,142,143,144],[145,146,142,147,148],[149],[150],[],[151,152,152,153,152,153,152,154,152,152],[155,156,157,158,159,160,161],[162,163,164,165,165,166,167],[168,169,170,171,172],[173,174,175,176,177,178,179],[180],[181,81,97],[182,183],[],[184,79],[81,101],[81,97],[12,40,11],[],[49],[],[],[],[185,185],[],[],[],[186],[116],[187],[188,116],[],[189,190],[],[],[191,191,192,193],[194],[88,195],[],[196],[197],[],[],[198,196],[123],[],[196],[199,196],[200],[202,203,201],[200,200],[77,81,79,84],[],[205,206,204],[207],[208,209,210,211],[140],[],[141,212,212,141,141,141,141,140,140,213],[214],[],[215,217,216],[146,218,218,146,146,146,146,146,146,146,146],[215,207],[],[220,219],[221],[133],[222],[223],[119,150,224],[120,225,227,226,229,230,228],[121,130,231,232,234,233],[160,89,235],[221,88,89,236,237],[88],[119,150,224],[238,239,240,241],[238,239,242],[222,238,243,240,241],[243,222,244],[238,239,245,246,247,248,250,249],[223,238,251,242],[225,191,229],[130,194,234],[252,253,255,254],[256,238,257,258,130,260,259],[238,257,261,221,262,264,263],[265,266,265,267],[238,268],[160,269,270,271,254],[272],[160,273,270,274],[275,266,276,241],[160,277,270,278,279,280],[281,282,283,284,285],[],[286,286],[287],[288,290,289,287],[],[291],[],[],[],[],[],[292],[],[],[293],[],[225,230],[],[294,295],[118,296],[297],[298],[],[],[299,299],[300,300],[],[],[211,211],[],[],[141,141],[141,214,140],[],[],[],[],[146],[],[],[301,298],[302],[303],[],[304,226],[],[],[305,306],[230],[307],[],[308],[309,310],[],[195,301,202,298,311],[195,312,293,314,313],[195,301,202,298],[275,266,89],[197],[239,315],[266,316],[317],[302,318],[303,319,320,321],[],[322,323,324],[246,325],[320,326],[327,131,328],[],[303,321],[131,329,328],[229],[165],[331,330],[],[],[328],[333,332,334],[],[82,258,260,335],[200,336],[337,338,339,333,82,340,319],[],[275,221],[133,88],[124,341,343,342,344],[345,124,346],[347],[161],[134,118,348,349,350],[351,353,352,354,82,249,355,341],[347],[356,357,358],[133],[359,197,360,361,358,358,249],[347],[357],[134,362,363,364,365,256,365],[131,132,134,118,366,367],[353,275],[256,250,275,82],[221,338,264,263],[264,368],[160,316],[],[],[290,369,369],[369,369],[],[],[],[],[],[308,308,204],[370],[],[314],[],[],[],[372,371],[374,373],[],[],[375],[],[376,376],[],[377],[378,379],[380,381,381],[382,383],[],[384,385,360,354,249],[387,386],[],[],[81,97,388],[],[326],[389,390,391,392,97],[288,393,290,286,290,289],[81],[392,324],[],[81,81,394,388],[131,395,396,397,319],[128,398],[],[],[399,400,295,402,401,319,402],[402],[132,403],[333,404,334],[],[128,131,132],[128,405,296,339,406,407],[405,296,118],[408,409,319],[346,411,410],[],[196],[412,413],[414,342],[],[119],[415,330],[417,416],[],[418,419,420],[421,422,181,319],[423],[128,361,358,358],[132,333,333,403,403],[128,128],[134,425,424],[128,353,352,426,427,428,429],[197,356,131,353,181,430,431],[120,191,191,392,432,324],[422,327],[118,118],[434,433],[118,435,433],[436,433],[82,333],[328,437],[405,263],[],[],[],[],[],[],[438,438,438],[],[439,439,439],[],[440],[376,376],[],[],[441],[128,131],[120],[128,353,442,319],[134,118],[324],[443],[320],[327],[81,81,288,288,444,290,290,289],[445],[182,182,81,182,183],[446],[447,448],[],[198,449,97,324],[199,294],[],[450,451],[],[402,196,402],[399,400,295,402,452],[336,118],[128,353,352],[453,454,324],[199,130],[455,121,456],[342],[],[],[457],[],[],[458,459,460,461,462,463,380,464,465,416,416],[466,467],[468,88,469],[470],[468,88,89,471,386,316,472],[473],[198],[],[297],[200],[196],[423],[],[474,475],[],[221,200,88,89],[288,81,288,444,444,286,290,289,287],[],[476,477,476],[478,476,478,479,480,481,481,482],[476,483,480,482],[199,334],[],[],[484,484,484],[485,485,485],[422,391,319],[],[],[467],[],[417,486],[196,196],[197,392,432],[],[487],[],[488],[138],[121,325],[392,323,388],[489,489,489],[380],[490,490],[491,492],[493,493,493,494],[],[380,380,380],[380,380],[380,380,380,380],[],[],[221,200],[495],[345],[353,82,333],[496,319],[],[],[497],[82,391],[131,132,250,333,82,327,498],[319],[483,82],[],[499,319,500],[477,249],[333,501,82,319],[],[],[502,503,504,505,506,507,508,509,486,486],[510,510,510],[198,197,511,97,184],[],[380,380],[417],[],[494],[512,512,512],[],[],[513,513,513],[130,514,455,250,515,250,249],[496],[499,319,516,517,518],[408,455,319],[],[519,519],[491,492],[520,520,520,521],[],[],[],[],[],[120,325,392],[380],[],[121,522],[132,335,259],[456],[417,523],[205,308,204],[],[521],[524,524,524],[392,323,81,97,388],[525,526,527,528,529,530,531,532,523,523],[],[],[533,533],[491,492],[534,534,534,535],[],[],[],[],[],[535],[536,536,536],[],[],[],[],[],[],[],[],[],[],[],[],[],[],[],[],[],[],[],[]]
def avw:List Nat:=[1,1,2,0,0,0,0,0,0,1,0,2,2,3,3,4,3,4,0,2,5,7,5,8,3,4,1,5,7,3,7,1,8,4,7,0,1,1,1,1,1,2,1,5,4,6,5,4,4,1,1,2,1,3,1,2,1,1,1,2,1,2,4,4,4,2,3,4,1,2,5,3,5,5,5,6,1,2,5,1,6,1,1,4,4,7,5,2,3,1,6,7,0,0,0,14,4,3,1,4,5,4,3,1,2,1,1,1,2,1,1,1,3,2,2,2,1,2,1,1,3,2,4,1,2,4,1,1,2,2,1,2,5,4,4,4,5,1,3,2,3,4,1,6,2,1,2,4,2,1,2,4,5,4,4,3,5,5,6,6,4,3,0,7,0,6,0,7,4,2,0,0,0,7,7,0,0,8,0,0,13,1,2,2,3,1,2,1,1,1,1,1,2,1,1,2,1,3,1,4,3,2,3,1,1,2,2,1,1,2,1,1,5,5,1,1,1,1,3,1,1,3,3,3,1,2,1,1,4,3,2,1,3,4,1,5,5,4,6,4,0,9,2,3,5,1,7,8,2,0,1,3,0,4,7,2,1,1,0,7,1,0,4,10,1,6,5,5,3,3,4,0,0,3,7,5,0,3,6,0,0,6,6,11,12,9,1,1,2,2,1,1,1,1,1,3,2,1,2,1,1,1,2,2,1,1,3,1,2,1,3,4,3,4,1,0,8,1,1,4,1,2,6,4,2,4,1,4,0,6,1,1,6,2,6,7,1,6,9,3,7,3,1,2,4,2,1,2,2,0,1,10,5,2,7,6,3,5,6,5,4,5,2,0,0,0,3,0,11,1,1,1,1,1,1,2,1,2,1,3,2,1,1,3,3,4,7,5,3,2,2,5,3,3,3,2,0,1,5,5,1,4,1,2,6,2,6,8,5,6,2,1,1,3,1,1,0,2,5,4,9,2,2,1,2,4,2,2,1,4,1,4,3,1,0,0,0,7,1,1,2,2,6,1,1,2,1,0,2,4,1,3,1,7,4,5,5,2,3,4,4,6,1,3,3,3,1,1,4,2,3,3,5,1,1,3,6,0,5,8,1,0,0,7,1,1,0,2,6,1,3,3,1,5,4,1,1,2,0,2,0,6,1,2,4,4,1,1,1,1,1,5,3,1,6,8,6,0,3,1,3,2,5,0,1,1,2,4,4,1,1,1,1,1,3,2,1,1,1,1,1,1,1,1,1,1,1,1,1,1,1,1,1,1,1,1]
set_option maxRecDepth 1000000 in
theorem Rh:Tryz.prog.funcs.toList.map Tryz.prog.leadsTo=aj2:=by kernel_rfl
set_option maxRecDepth 1000000 in
theorem ax6:asX aj2 avw=true:=by kernel_rfl
end Go.Proofs.YthghpahghjppjaaGreat