import Derived.Test.YthghpahghjppjaaGreatB9
import Derived.Test.YthghpahghjppjaaGreatProg
import Derived.Shelf.SlSortCmp.WholeK
import Derived.Shelf.SlSortCmp.NoneTotal
import Derived.Shelf.Sort.Plain
import Derived.Shelf.Slices.CompactI
import Derived.Shelf.Slices.In.SortNone
import Derived.Handy
import Derived.StillTailTactics
import Derived.Shelf.Spec.SlicesGrow
import Derived.Lib.SliceRun
import Derived.Lib.SlicesDelete
import Derived.Lib.Overlaps
import Derived.Lib.AppendZerosOnto
import Derived.Laws.Externs
import Derived.Laws.IdiomCopy
import Derived.Laws.NewBlocks
import Derived.Deep.RegionLaw
import Derived.Shelf.RegionOpenPlain
import Derived.WalkKit
namespace Go.Proofs.YthghpahghjppjaaGreat
open Go Go.Vc Go.RowKit
set_option maxRecDepth 1000000
theorem a0k(e:Bool)(a b:Int)(w:World):(Instr.checkKey e 10000 37 (uV a b)).run Tryz.prog w=.ok () w:=by cases e<;>kernel_rfl
theorem ang:mM Tryz.prog 9 37=some [.int .i64,.int .i64]:=by kernel_rfl
theorem avC{a b c d:Int}(h:uV a b=uV c d):a=c/\b=d:=by simpa only[uV,Gt,Array.mk.injEq,dO,Value.int.injEq,true_and,oA]using h
theorem axY(a b c d:Int)(w:World):(Op.equal 37 (uV a b) (uV c d)).run Tryz.prog w=.ok (a==c&&(b==d&&true)) w:=by
 have h:=OG 9 37 _ ang Op.maxDepth (by decide) [.int .i64 a,.int .i64 b] [.int .i64 c,.int .i64 d] (a==c&&(b==d&&true)) rfl w;have e1:∀a b:Int,zN Tryz.prog 37 [.int .i64 a,.int .i64 b]=uV a b:=λa b=>by kernel_rfl
 rw[e1,e1]at h;exact h
theorem axZ(a b:Int)(w:World):(Op.equal 37 (uV a b) (uV a b)).run Tryz.prog w=.ok true w:=by rw[axY];simp
theorem aya{a b c d:Int}(h:¬(a=c/\b=d))(w:World):(Op.equal 37 (uV a b) (uV c d)).run Tryz.prog w=.ok false w:=by
 rw[axY]
 have:(a==c&&(b==d&&true))=false:=by
  cases hh:(a==c&&(b==d&&true))with
  |false=>rfl
  |true=>simp at hh;exact absurd hh h
 rw[this]
theorem ayb(a b:Int)(w:World):∀(es:List MapEntry),(∀e∈es,isU e.key)->∀i,
 ((Instr.findAsking 37 (uV a b) es i).run Tryz.prog w=.ok none w/\∀e∈es,e.key≠uV a b)\/∃j e,(Instr.findAsking 37 (uV a b) es i).run Tryz.prog w=.ok (some (i+j,e.val)) w/\es[j]?=some e/\e.key=uV a b
 |[],_,i=>.inl ⟨rfl,by simp⟩
 |e::es,h,i=>by
  obtain⟨c,d,hy⟩:=h e (by simp);by_cases hxy:a=c/\b=d
  .obtain⟨rfl,rfl⟩:=hxy;refine .inr ⟨0,e,?_,rfl,hy⟩;simp only[Instr.findAsking,aP,hy,axZ,bn,sR,bG,gY]
  .have e1:(Instr.findAsking 37 (uV a b) (e::es) i).run Tryz.prog w=(Instr.findAsking 37 (uV a b) es (i+1)).run Tryz.prog w:=by simp only[Instr.findAsking,aP,hy,aya hxy,bn,fb,oG]
   rcases ayb a b w es (λe he=>h e (by simp[he])) (i+1)with⟨h1,h2⟩|⟨j,e',h1,h2,h3⟩
   .refine .inl ⟨e1.trans h1,λe' he'=>?_⟩;rcases aF.1 he' with rfl|he'
    .rw[hy];exact λhh=>hxy (let ⟨g1,g2⟩:=avC hh;⟨g1.symm,g2.symm⟩)
    .exact h2 e' he'
   .exact .inr ⟨j+1,e',by rw[e1,h1,show i+1+j=i+(j+1)by omega],by simpa using h2,h3⟩
theorem a0l:anh Tryz.prog 37 where
 check:=by rintro e w v ⟨a,b,rfl⟩;exact a0k e a b w
 find:=by
  rintro w v ⟨a,b,rfl⟩ es hes
  have e1:(Instr.findKey 37 (uV a b) es).run Tryz.prog w=(Instr.findAsking 37 (uV a b) es).run Tryz.prog w:=by
   cases es with
   |nil=>kernel_rfl
   |cons e es=>obtain⟨c,d,hy⟩:=hes e (by simp);obtain⟨k,v,b⟩:=e;simp only at hy;subst hy;kernel_rfl
  rw[e1];rcases ayb a b w es hes 0 with h|⟨j,e,h1,h2,h3⟩
  .exact .inl h
  .exact .inr ⟨j,e,by rw[h1,cg],h2,h3⟩
 stays:=by rintro w v ⟨a,b,rfl⟩;simp[Instr.keyThatStays,Instr.sameBits,uV]
def qk:TI:=⟨false,.other,0,0,false,[],none⟩
def cd:TI:=⟨true,.other,1,8,false,[.nilFunc],none⟩
def MA(n:Nat):TI:=⟨true,.slice n,1,24,false,[.slice none 0 0],none⟩
def ktP(n:Nat):TI:=⟨true,.ptr n,1,8,false,[.pointer none],none⟩
def kj:Value:=.int .i64 0
def rA:Value:=.slice none 0 0
def kvb:Value:=.bool false
def kvt:Value:=.string .empty
def kv8:Value:=.int .u8 0
def kv6:Value:=.int .u64 0
def kv3:Value:=.int .i32 0
def kvp:Value:=.pointer none
def kvf:Value:=.nilFunc
def AH:LK:=.int .i64
def kxb:LK:=.bool
def kx6:LK:=.int .u64
def Ju(f:List (Nat×Nat×Nat))(b:Nat)(z:List Value)(k:Option (List LK):=none):TI:=⟨true,.struct f,z.length,b,true,z,k⟩
def ar2:TI:=⟨true,.int .i64,1,8,false,[.int .i64 0],some [.int .i64]⟩
def ar3:TI:=⟨true,.int .u64,1,8,false,[.int .u64 0],some [.int .u64]⟩
def ayg:TI:=Ju [(0,3,1),(1,23,1),(2,24,1),(3,25,1),(4,26,1),(5,27,1),(6,28,1),(7,29,1),(8,30,1),(9,30,1),(10,31,1),(11,32,1)] 272 [kj,rA,rA,rA,rA,rA,rA,rA,rA,rA,rA,rA]
def ayh:TI:=Ju [(0,3,1),(1,3,1)] 16 [kj,kj] (some [AH,AH])
def ayi:TI:=Ju [(0,3,1),(1,3,1),(2,3,1),(3,37,2),(5,37,2),(7,3,1),(8,3,1),(9,3,1),(10,3,1),(11,2,1),(12,2,1),(13,38,1)] 128 [kj,kj,kj,kj,kj,kj,kj,kj,kj,kj,kj,kj,kj,rA]
def ayj:TI:=Ju [(0,42,1),(1,38,1),(2,43,1),(3,44,1)] 80 [kj,rA,rA,rA]
def ar4:TI:=Ju [(0,4,1),(1,49,1)] 32 [kvb,rA]
def ayk:TI:=Ju [(0,37,2),(2,2,1),(3,54,1)] 48 [kj,kj,kj,rA]
def ayl:TI:=Ju [(0,3,1),(1,2,1),(2,3,1),(3,3,1)] 32 [kj,kj,kj,kj] (some [AH,AH,AH,AH])
def aym:TI:=Ju [(0,40,14),(14,46,4)] 208 [kj,kj,kj,kj,kj,kj,kj,kj,kj,kj,kj,kj,kj,rA,kj,rA,rA,rA]
def atY:TI:=Ju [(0,34,12),(12,40,14),(26,46,4)] 480 [kj,rA,rA,rA,rA,rA,rA,rA,rA,rA,rA,rA,kj,kj,kj,kj,kj,kj,kj,kj,kj,kj,kj,kj,kj,rA,kj,rA,rA,rA]
def atZ:TI:=Ju [(0,3,1),(1,3,1),(2,2,1)] 24 [kj,kj,kj] (some [AH,AH,AH])
def aua:TI:=Ju [(0,37,2),(2,2,1)] 24 [kj,kj,kj] (some [AH,AH,AH])
def aub:TI:=Ju [(0,37,2),(2,54,1)] 40 [kj,kj,rA]
def auc:TI:=Ju [(0,3,1),(1,3,1),(2,3,1),(3,97,1)] 48 [kj,kj,kj,rA]
def aud:TI:=Ju [(0,37,2),(2,102,1)] 40 [kj,kj,rA]
def aue:TI:=Ju [(0,3,1),(1,2,1)] 16 [kj,kj] (some [AH,AH])
def auf:TI:=Ju [(0,2,1),(1,89,1)] 16 [kj,kv6] (some [AH,kx6])
def ahG:TI:=Ju [(0,3,1),(1,2,1),(2,2,1)] 24 [kj,kj,kj] (some [AH,AH,AH])
def aug:TI:=Ju [(0,34,12),(12,135,1)] 280 [kj,rA,rA,rA,rA,rA,rA,rA,rA,rA,rA,rA,.map none]
def auh:TI:=Ju [(0,37,2),(2,37,2),(4,2,1)] 40 [kj,kj,kj,kj,kj] (some [AH,AH,AH,AH,AH])
def aui:TI:=Ju [(0,147,1)] 24 [rA]
def auj:TI:=Ju [(0,3,1),(1,2,1),(2,2,1),(3,2,1),(4,38,1)] 56 [kj,kj,kj,kj,rA]
def auk:TI:=Ju [(0,37,2),(2,37,2),(4,4,1)] 40 [kj,kj,kj,kj,kvb] (some [AH,AH,AH,AH,kxb])
def aul:TI:=Ju [(0,3,1),(1,37,2),(3,3,1),(4,2,1),(5,2,1)] 48 [kj,kj,kj,kj,kj,kj] (some [AH,AH,AH,AH,AH,AH])
def aum:TI:=Ju [(0,3,1),(1,37,2),(3,37,2),(5,106,2),(7,2,1),(8,3,1),(9,3,1),(10,3,1)] 88 [kj,kj,kj,kj,kj,kj,kj,kj,kj,kj,kj] (some [AH,AH,AH,AH,AH,AH,AH,AH,AH,AH,AH])
def aun:TI:=Ju [(0,2,1),(1,108,2)] 24 [kj,kj,kv6] (some [AH,AH,kx6])
def auo:TI:=Ju [(0,4,1),(1,49,1),(2,42,1)] 40 [kvb,rA,kj]
def aup:TI:=Ju [(0,25,1),(1,24,1),(2,30,1),(3,31,1),(4,32,1)] 120 [rA,rA,rA,rA,rA]
def auq:TI:=Ju [(0,89,1),(1,89,1)] 16 [kv6,kv6] (some [kx6,kx6])
def aur:TI:=Ju [(0,30,1),(1,31,1)] 48 [rA,rA]
def aus:TI:=Ju [(0,2,1),(1,2,1)] 16 [kj,kj] (some [AH,AH])
def aut:TI:=Ju [(0,34,12),(12,43,1),(13,42,1)] 304 [kj,rA,rA,rA,rA,rA,rA,rA,rA,rA,rA,rA,rA,kj]
def auu:TI:=Ju [(0,9,1)] 16 [kvt] (some [.str])
def tab:List TI:=[qk,cd,ar2,ar2,⟨true,.bool,1,1,false,[.bool false],some [.bool]⟩,⟨true,.int .u8,1,1,false,[.int .u8 0],some [.int .u8]⟩,qk,qk,qk,⟨true,.string,1,16,false,[.string .empty],some [.str]⟩,qk,qk,ar3,qk,qk,qk,qk,qk,qk,qk,qk,⟨true,.int .i32,1,4,false,[.int .i32 0],some [.int .i32]⟩,MA 40,MA 64,MA 174,MA 132,MA 99,MA 177,MA 179,MA 181,MA 104,MA 94,MA 96,ayg,ayg,MA 51,ayh,ayh,MA 2,ayi,ayi,cd,ar2,MA 144,MA 56,ayj,ayj,qk,cd,MA 5,ar4,ar4,cd,cd,MA 92,ayk,ayk,cd,cd,cd,cd,cd,cd,ayl,ayl,cd,cd,MA 69,aym,aym,cd,cd,cd,cd,cd,cd,cd,cd,cd,ktP 81,atY,atY,cd,cd,cd,cd,cd,cd,cd,ar3,cd,atZ,atZ,aua,aua,aub,aub,MA 3,auc,auc,qk,cd,MA 106,aud,aud,aue,aue,auf,auf,cd,cd,cd,cd,cd,cd,cd,cd,cd,cd,cd,cd,cd,cd,cd,cd,cd,cd,cd,cd,cd,cd,ahG,ahG,qk,cd,⟨true,.map 37 4,1,8,false,[.map none],none⟩,aug,aug,MA 37,cd,cd,cd,cd,auh,auh,cd,ktP 149,MA 108,aui,aui,cd,cd,cd,cd,cd,cd,MA 84,qk,cd,cd,cd,qk,cd,cd,cd,qk,cd,cd,cd,cd,cd,cd,cd,auj,auj,cd,auk,auk,aul,aul,aum,aum,cd,cd,cd,cd,cd,cd,cd,cd,cd,cd,cd,cd,cd,cd,cd,cd,cd,cd,cd,ar3,cd,ktP 250,cd,cd,cd,cd,cd,ktP 40,ktP 258,cd,cd,cd,cd,cd,cd,cd,qk,cd,qk,cd,qk,cd,qk,cd,cd,cd,cd,qk,cd,aun,aun,cd,cd,cd,cd,qk,cd,cd,cd,cd,cd,cd,cd,cd,cd,cd,cd,auo,auo,qk,cd,cd,cd,cd,cd,ar4,ar4,cd,cd,cd,cd,qk,cd,qk,cd,cd,cd,cd,cd,cd,cd,qk,cd,cd,cd,cd,qk,cd,qk,cd,cd,qk,cd,cd,cd,qk,cd,qk,cd,MA 371,cd,qk,cd,qk,cd,qk,cd,qk,cd,cd,MA 30,cd,cd,cd,cd,qk,cd,cd,qk,cd,cd,aup,aup,cd,cd,cd,qk,cd,cd,cd,qk,cd,cd,qk,cd,cd,cd,qk,cd,qk,cd,ktP 232,qk,cd,cd,qk,auq,auq,cd,cd,cd,cd,cd,cd,cd,cd,cd,cd,cd,cd,cd,cd,cd,cd,cd,cd,cd,cd,aur,aur,qk,cd,cd,qk,cd,cd,cd,cd,aus,aus,qk,cd,qk,cd,cd,cd,cd,cd,cd,cd,cd,qk,cd,cd,cd,cd,cd,cd,cd,cd,cd,cd,cd,cd,cd,cd,cd,qk,cd,qk,cd,cd,qk,cd,cd,cd,cd,cd,cd,cd,qk,cd,ktP 416,aut,aut,cd,cd,cd,cd,cd,cd,cd,cd,cd,cd,cd,cd,cd,cd,cd,cd,cd,cd,cd,cd,cd,cd,cd,cd,cd,cd,cd,cd,cd,cd,cd,cd,cd,cd,cd,cd,cd,cd,cd,cd,cd,cd,cd,MA 102,cd,cd,cd,cd,cd,cd,cd,cd,cd,cd,cd,cd,cd,cd,cd,cd,cd,cd,cd,qk,qk,cd,MA 31,cd,cd,cd,cd,cd,cd,qk,cd,qk,cd,qk,cd,cd,ar2,qk,cd,cd,cd,cd,cd,⟨true,.int .u32,1,4,false,[.int .u32 0],some [.int .u32]⟩,cd,cd,qk,cd,cd,cd,cd,cd,cd,qk,cd,cd,cd,cd,cd,cd,cd,ar3,cd,cd,cd,ktP 3,cd,cd,cd,cd,MA 42,cd,cd,cd,cd,cd,cd,cd,cd,cd,ktP 522,qk,cd,cd,cd,MA 550,qk,cd,ahG,ahG,cd,cd,cd,cd,cd,cd,cd,cd,cd,cd,cd,cd,cd,cd,cd,cd,ktP 584,cd,qk,qk,qk,qk,qk,cd,qk,qk,cd,ktP 5,qk,qk,qk,qk,auu,auu,qk]
theorem ayn(w:World):(zeroValue 4).run Tryz.prog w=.ok (.bool false) w:=by kernel_rfl
theorem anw:∀p∈J' tab,ahH Tryz.prog p.1 p.2:=by
 have e:J' tab=[(37,4)]:=by kernel_rfl
 rw[e];intro p hp;simp at hp;subst hp;exact⟨a0l,ayn⟩
theorem avI:dP Tryz.prog tab:=afq (by kernel_rfl) anw
theorem kp:anj Tryz.prog tab:=⟨avI,by decide +kernel⟩
end Go.Proofs.YthghpahghjppjaaGreat
namespace Go.Vc
open Go Go.RowKit
theorem qQ{P}{t e}{size bytes}(ht:P.underlying t=some (.slice e))(h:(P.info? e).map (λi=>(i.zero.map (·.cells.size),i.size,i.bytes))=some (some size,size,bytes))(hp:0<size):Ha P t e size bytes:=by obtain⟨i,hi,h⟩:=eK.1 h;simp only[bV]at h;obtain⟨z,hz,hz2⟩:=eK.1 h.1;exact⟨ht,⟨i,z,hi,hz,h.2.1,h.2.2,hz2⟩,hp⟩
theorem Iv(w:World)(o:Obj)(b:Nat)(hb:b<w.heap.size):(w.alloc o).heap[b]?=w.heap[b]?:=nc w o hb
theorem RN(g o):∀(vs:List Value) (i:Nat) (w:World),w.setCells g (o+i) vs=setCells w ⟨g,o,none⟩ i vs
 |[],_,_=>rfl
 |v::vs,i,w=>by simp only[World.setCells,setCells,tQ];rw[DW,RN g o vs (i+1)]
theorem Ai{g o b}{vs:List Value}{w:World}(h:b≠g):(w.setCells g o vs).heap[b]?=w.heap[b]?:=by have:=RN g o vs 0 w;rw[gY]at this;rw[this];exact yM _ _ h vs 0 w
theorem Aj{g o}{vs:List Value}{w:World}{cur:Array Value}{e:TypeId}{fr:Nat×Nat}(h:w.heap[g]?=some (.cells cur e fr)):∃axT,(w.setCells g o vs).heap[g]?=some (.cells axT e fr)/\axT.size=cur.size:=by have:=RN g o vs 0 w;rw[gY]at this;rw[this];have h2:=Hb g o vs 0 w cur.toList (by simpa using h);exact⟨_,h2,by simp[Eo]⟩
theorem sw(g o)(vs:List Value)(w:World):(w.setCells g o vs).os=w.os/\(w.setCells g o vs).tape=w.tape/\(w.setCells g o vs).output=w.output/\(w.setCells g o vs).heap.size=w.heap.size:=by have:=RN g o vs 0 w;rw[gY]at this;rw[this];obtain⟨h1,h2,h3,h4,_⟩:=Dt ⟨g,o,none⟩ vs 0 w;exact⟨h1,h2,h3,h4⟩
theorem ars{e}{k g c n}{w:World}{cur:Array Value}{xs:List Value}(hg:w.heap[g]?=some (.cells cur e (0,0)))(hs:cur.size=c*k)(hc:∀t u,xs[t]?=some u->w.cell? ⟨g,t,none⟩=some u)(hxl:xs.length=n*k)(hn:n<=c)(hm:c<=maxLen):w.ownsRow 0 e k (.slice (some ⟨g,0,none⟩) n c) n xs:=by
 refine⟨hxl,.inr ⟨g,c,cur,rfl,bE _,hg,hn,hm,hs,?_⟩⟩;apply eY;intro t;by_cases ht:t<n*k
 .rw[dx ht,dt];have h1:=hc t _ (aw (by omega));rw[Df w g t cur e (0,0) hg]at h1;rw[aw (by omega)];exact h1
 .rw[bH (by simp;omega),bH (by omega)]
theorem DT.YU{U}{w:World}{t:DT}{xs:List t.den}{vs:List Value}(h:t.hs U w xs vs)(n:Nat):t.hs U w (xs.drop n) (vs.drop (n*t.size)):=by refine⟨by simp[h.1,qc],λi x hi=>?_⟩;rw[cF]at hi;have:=h.2 _ x hi;rw[na,<-im];exact this
theorem amZ{e}{k n g}{cur:Array Value}{xs:List Value}{w:World}(hg:w.heap[g]?=some (.cells cur e (0,0)))(h4:cur.toList.take (n*k)=xs):∀t u,xs[t]?=some u->w.cell? ⟨g,t,none⟩=some u:=by
 intro t u ht;rw[<-h4,ct]at ht;split at ht
 .rw[Df w g t cur e (0,0) hg];simpa using ht
 .cases ht
theorem axU{j}{p q}{i}(h:j6 j p i=some q):i=j/\q=p:=by
 unfold j6 at h;split at h
 .rename_i hb;simp only[ak]at h;exact⟨aE hb,h.symm⟩
 .cases h
theorem Bl{e}{t}{l l'}{U0}{B}{A:zx}{w w':World}{a:Option Addr}{c:Nat}(m:Mem w U0 (Ow B A [] [.own e t l]) B A [] [.own e t l] w)
 (hr:w'.os=w.os/\w'.tape=w.tape/\w'.output=w.output/\w.heap.size<=w'.heap.size) (hk:∀b,b<w.heap.size->(∀ad,(A 0).1=some ad->ad.block≠b)->w'.heap[b]?=w.heap[b]?)
 (ha:∀x,a=some x->(∃ad,(A 0).1=some ad/\ad.block=x.block)\/(w.heap.size<=x.block/\x.block<w'.heap.size))
 (hw:∀U',lD (Us U0 B A [] [.own e t l]) U' w w'->∃xs,w'.ownsRow 0 e t.size (.slice a l'.length c) l'.length xs/\t.hs U' w' l' xs):
 ∃B' A' r pb' rw',Mem w U0 (Ow B A [] [.own e t l]) B' A' pb' rw' w'/\r.h (env U0 B' A' pb' rw' w') (.slice a l'.length c)/\(∀i,live [] i->live pb' i/\B' i=B i)/\pb'=[]/\(r,rw')=(DV.row 0,[DR.own e t l']):=by
 have hblk:∀b,iK B A [] [DR.own e t l] true 0 b↔∃ad,(A 0).1=some ad/\ad.block=b:=λb=>⟨λ⟨r,ad,_,_,h3,h4⟩=>⟨ad,h3,h4⟩,λ⟨ad,h3,h4⟩=>⟨_,ad,rfl,by simp,h3,h4⟩⟩
 obtain⟨m',s,_⟩:=m.putRow (al:=λ_=>true) (j:=0) (f:=j6 0 .jz) (rw':=[.own e t l']) (e:=e) (t:=t) (l:=l') (a:=a) (c:=c) rfl (λi hi=>by
  cases i with
  |zero=>exact absurd rfl hi
  |succ i=>rfl)
  (λi p h=>axU h) (λh=>by simp[j6]at h) (λh=>by simp[j6]at h) hr (λb hb hn=>hk b hb λad h1 h2=>hn ((hblk b).2 ⟨ad,h1,h2⟩)) (λx hx=>(ha x hx).imp (λh=>(hblk _).2 h) id) hw
 refine⟨B,_,.row 0,_,_,m',?_,λi ⟨b,hb⟩=>(by simp at hb),rfl,rfl⟩;simp only[DV.h];exact⟨e,t,l',rfl,by show _=Value.slice (Fl A 0 (a,c) 0).1 _ (Fl A 0 (a,c) 0).2;rw[nQ]⟩
end Go.Vc
namespace Go.Proofs.YthghpahghjppjaaGreat
open Go Go.Vc
theorem YV:Tryz.prog.follows .mixedOrders=true:=kp.mixed
end Go.Proofs.YthghpahghjppjaaGreat




namespace Go.Proofs.YthghpahghjppjaaGreat
open Go Go.Vc Go.RowKit
abbrev gg{α β:Type}(f:Wd->α->β):Wd->α×Unit->β:=λW x=>f W x.1
abbrev dD{α b β:Type}(f:Wd->α->b->β):Wd->α×b×Unit->β:=λW x=>f W x.1 x.2.1
abbrev kx{α b c β:Type}(f:Wd->α->b->c->β):Wd->α×b×c×Unit->β:=λW x=>f W x.1 x.2.1 x.2.2.1
abbrev QR{α b c d β:Type}(f:Wd->α->b->c->d->β):Wd->α×b×c×d×Unit->β:=λW x=>f W x.1 x.2.1 x.2.2.1 x.2.2.2.1
abbrev ank{α b c d e g β:Type}(f:Wd->α->b->c->d->e->g->β):Wd->α×b×c×d×e×g×Unit->β:=λW x=>f W x.1 x.2.1 x.2.2.1 x.2.2.2.1 x.2.2.2.2.1 x.2.2.2.2.2.1
def jA(n:Nat):Nat×DJ:=(500000+n,⟨[(n,.b)],[],[]⟩)
def vB(k n:Nat):Nat×DJ:=(k,⟨[(n,.i)],[],[]⟩)
def uU(k n:Nat)(d:List DS):Nat×DJ:=(k,⟨[(n,.i)],[(0,d)],[]⟩)
def Gy(k:Nat)(d:List DS):Nat×DJ:=(k,⟨[],[(0,d)],[]⟩)
def VK(k a b:Nat)(l:List RKd):Nat×DJ:=(k,⟨[(a,.row b)],[],l⟩)
def vC(k a b c:Nat)(l:List RKd):Nat×DJ:=(k,⟨[(a,.row b),(c,.i)],[],l⟩)
def tv:List Nat->OT->OT
 |[],t=>t
 |i::l,t=>.rd i (tv l t)
def eA(n:Nat)(A:DT)(Q:QT)(F:Wd->A.den->Option Q.den){fn:Func}(hf:Tryz.prog.funcs[n]?=some fn)(l:List (KC Tryz.prog):=[])(O:DTs:=[])(JC:List (Nat×DJ):=[])(JL:List (Nat×DJ):=[]){c:Code}(hb:fn.body=some c:=by rfl)(hn:(fn.name== "runtime.NumGoroutine")=false:=by decide +kernel) (h:∀W x,evF W tab (kcs l W) O JC JL fn A Q x=F W x:=by intro W x; kernel_rfl):KC Tryz.prog:=kes kp n A Q F l O JC JL hf hb hn h
def jI(n:Nat)(B:List BK)(A:List PK)(E:List BK)(Q:QT)(F:Wd->(Ge B (Jt A .unit)).den->Option (Q.den×(Ge E .unit).den)){fn:Func}(hf:Tryz.prog.funcs[n]?=some fn)(l:List (KC Tryz.prog):=[])(O:DTs:=[])(JC:List (Nat×DJ):=[])(JL:List (Nat×DJ):=[]){c:Code}(hb:fn.body=some c:=by rfl)(hn:(fn.name== "runtime.NumGoroutine")=false:=by decide +kernel) (h:∀W z,arv W tab (kcs l W) O JC JL fn ⟨B,A,E,Q,F W⟩ z=F W z:=by intro W x; kernel_rfl):KC Tryz.prog:=kls kp n B A E Q F l O JC JL hf hb hn h
theorem afu(x y b:Nat)(hb:b<=1)(w:World):((Extern.MathBitsCarry.rows[1]!).2 #[.int .u64 x,.int .u64 y,.int .u64 b]).run Tryz.prog w=
 .ok (.tuple #[.int .u64 (((x+18446744073709551616-y-b) % 18446744073709551616:Nat):Int),.int .u64 ((if x<y+b then 1 else 0:Nat):Int)]) w:=by
 have:b=0\/b=1:=by omega
 rcases this with rfl|rfl<;>rfl
@[reducible] def tC3:DT:=.pair (.int .u64) (.pair (.int .u64) (.pair (.int .u64) .unit))
@[reducible] def tQ2:QT:=.pair (.v (.int .u64)) (.pair (.v (.int .u64)) .unit)
theorem hL3{E:Env}{x y z:Int}{vs:List Value}(h:hL E (zO tC3 (x,y,z,())) vs):vs=[.int .u64 x,.int .u64 y,.int .u64 z]:=by simp only[zO,hL,DT.val,DV.h]at h;obtain⟨_,_,rfl,rfl,_,_,rfl,rfl,_,_,rfl,rfl,rfl⟩:=h;rfl
theorem ayo(E:Env)(x y:Int):(tQ2.mk (x,y,()) []).1.h E (.tuple #[.int .u64 x,.int .u64 y]):=by simp only[QT.mk,QT.mks,DT.val,DV.h,hL];exact⟨#[.int .u64 x,.int .u64 y],rfl,_,_,rfl,rfl,_,_,rfl,rfl,rfl⟩
def Zi:KC Tryz.prog:=⟨286,λ_=>.es ⟨tC3,tQ2,λx=>Jw x.1 x.2.1 x.2.2.1⟩,aca (by
 rintro⟨x,y,c,⟨⟩⟩ q h E vs hv;replace h:Jw x y c=some q:=h;unfold Jw at h;split at h
 .rename_i hc;have h:=cJ h;subst h;rw[hL3 hv];refine⟨_,λw=>?_,rfl,λE=>ayo E _ _⟩;rw[gQ Tryz.func286 (by decide +kernel) rfl rfl (e:=add64Entry) (by kernel_rfl)];show((add64Entry #[.int .u64 x,.int .u64 y,.int .u64 c]).run Tryz.prog w).andThen _=_;rw[run_add64 x y c hc.1 hc.2.1 hc.2.2.1 hc.2.2.2];rfl
 .cases h)⟩
def ahJ:KC Tryz.prog:=⟨369,λ_=>.es ⟨tC3,tQ2,λx=>Hf x.1 x.2.1 x.2.2.1⟩,aca (by
 rintro⟨x,y,b,⟨⟩⟩ q h E vs hv;replace h:Hf x y b=some q:=h;unfold Hf at h;split at h
 .rename_i hc;have h:=cJ h;subst h;rw[hL3 hv];refine⟨_,λw=>?_,rfl,λE=>ayo E _ _⟩;obtain⟨hx,hy,hy2,hb0,hb⟩:=hc;obtain⟨x,rfl⟩:=cS hx;obtain⟨y,rfl⟩:=cS hy;obtain⟨b,rfl⟩:=cS hb0;rw[gQ Tryz.func369 (by decide +kernel) rfl rfl (e:=(Extern.MathBitsCarry.rows[1]!).2) (by kernel_rfl)];show(((Extern.MathBitsCarry.rows[1]!).2 #[.int .u64 x,.int .u64 y,.int .u64 b]).run Tryz.prog w).andThen _=_;rw[afu x y b (by omega) w];have e1:(((x+18446744073709551616-y-b) % 18446744073709551616:Nat):Int)=((x:Int)-y-b) % 18446744073709551616:=by omega
  have e2:((if x<y+b then 1 else 0:Nat):Int)=if(x:Int)<y+b then 1 else 0:=by split<;>split<;>omega
  rw[e1,e2];rfl
 .cases h)⟩
end Go.Proofs.YthghpahghjppjaaGreat
namespace Go.Vc
open Go Go.RowKit Go.Sort Go.Proofs
theorem Hd{enc:Value->Value}{w:World}{g n:Nat}{os:Array Obj}{cur:Array Value}{e:TypeId}{fr:Nat×Nat}(F:Array Value)(hb:w.heap[g]?=some (.cells cur e fr)):
 (grow (putRow id (Sort.ahead w n) g 0 F) os).heap[g]?=some (.cells (putCells id 0 F cur) e fr):=by
 have hg:=(cq.1 hb).1;rw[heap_grow_old _ _ (by simpa using hg)];simp[putRow,mapBlock,Sort.ahead,rh,hb,onCells]
theorem Bq{w}{g n}{os}(F){k}(hk:k<w.heap.size)(hne:k≠g):
 (grow (putRow id (Sort.ahead w n) g 0 F) os).heap[k]?=w.heap[k]?:=by
 rw[heap_grow_old _ _ (by simpa using hk)];have:g≠k:=λe=>hne e.symm
 simp[putRow,mapBlock,Sort.ahead,rh,this]
theorem Br(cur F)(h:F.size<=cur.size):(putCells id 0 F cur).toList.take F.size=F.toList:=by
 apply eY;intro j;by_cases hj:j<F.size
 .rw[dx hj,dt];simp[putCells,hj,show j<cur.size by omega]
 .rw[List.getElem?_take_eq_none (by omega),bH (by simp;omega)]
theorem Iz{α}{enc:α->List Value}{k:Nat}(hk:∀x,(enc x).length=k):∀(l:List α),(l.flatMap enc).length=l.length*k/\∀i x,l[i]?=some x->((l.flatMap enc).drop (i*k)).take k=enc x
 |[]=>⟨by simp,λi x h=>by simp at h⟩
 |y::l=>by
  obtain⟨h1,h2⟩:=Iz hk l;refine⟨by rw[cw,ap,hk,h1,aJ,l5];omega,λi x h=>?_⟩;rw[cw];cases i with
  |zero=>simp at h;subst h;rw[oE,sj,kL (by rw[hk];exact au _),lZ (by rw[hk];exact au _)]
  |succ i=>rw[l5,Nat.add_comm,Fj,List.drop_of_length_le (by rw[hk];omega),dA,hk,show k+i*k-k=i*k by omega];exact h2 i x (by simpa using h)
theorem Tl {α} [Inhabited α] (enc) (k : Nat) (hk : ∀ x, (enc x).length = k) (l : List α) : (flatK enc k l.toArray).toList = l.flatMap enc := by
  obtain ⟨hl, h2⟩ := Iz hk l
  apply eY
  intro t
  rw [dt]
  by_cases ht : t < l.length * k
  · have k0 : 0 < k := by rcases fv k with h | h; · subst h; simp at ht
                          · exact h
    have hq := (nj k0).2 ht
    have h1 : (flatK enc k l.toArray)[t]? = some ((enc l.toArray[t / k]!)[t % k]!) := by
      have := get_flatK enc k l.toArray t (by simpa using ht)
      rw [<- this]; simp [ht]
    rw [h1]
    have h3 : l.toArray[t / k]! = l[t / k] := by simp [hq]
    rw [h3]
    have h4 : t % k < (enc l[t / k]).length := by rw [hk]; exact Ch _ k0
    have h5 := h2 (t / k) l[t / k] (aw hq)
    have h6 : (enc l[t / k])[t % k]? = (l.flatMap enc)[t / k * k + t % k]? := by
      rw [<- h5, dx (Ch _ k0), cF]
    rw [show t / k * k + t % k = t by rw [kB]; exact zK t k] at h6
    rw [<- h6, aw h4]
    exact bA some (l6 (enc l[t / k]) (t % k) h4)
  · rw [bH (by rw [hl]; omega)]
    simp; omega
theorem ahE{e}{t}{l l'}{U0 L}{B:Nat->Nat}{A:zx}{w w':World}(m:Mem w U0 L B A [] [.own e t l] w)(Wx:l'.length=l.length)
 (hr:w'.os=w.os/\w'.tape=w.tape/\w'.output=w.output/\w.heap.size<=w'.heap.size) (hk:∀b,b<w.heap.size->(∀ad,(A 0).1=some ad->ad.block≠b)->w'.heap[b]?=w.heap[b]?)
 (hw:∀U',lD (Us U0 B A [] [.own e t l]) U' w w'->∃xs,w'.ownsRow 0 e t.size (.slice (A 0).1 l'.length (A 0).2) l'.length xs/\t.hs U' w' l' xs):Mem w U0 L B A [] [.own e t l'] w':=by
 have hblk:∀b,iK B A [] [DR.own e t l] true 0 b↔∃ad,(A 0).1=some ad/\ad.block=b:=λb=>⟨λ⟨r,ad,_,_,h3,h4⟩=>⟨ad,h3,h4⟩,λ⟨ad,h3,h4⟩=>⟨_,ad,rfl,by simp,h3,h4⟩⟩
 obtain⟨m',_,_⟩:=m.putRow (al:=λ_=>true) (j:=0) (f:=Ix) (rw':=[.own e t l']) (e:=e) (t:=t) (l:=l') (a:=(A 0).1) (c:=(A 0).2) rfl (λi hi=>by
  cases i with
  |zero=>exact absurd rfl hi
  |succ i=>rfl)
  (λi p h=>by cases h) (λ_ e2 t2 l2 h=>by simp only[ie,ak,DR.own.injEq]at h;obtain⟨rfl,rfl,h⟩:=h;cases h;exact⟨l',rfl,Wx,rfl⟩) (λ_ d h=>by simp at h) hr (λb hb hn=>hk b hb λad h1 h2=>hn ((hblk b).2 ⟨ad,h1,h2⟩)) (λx hx=>.inl ((hblk _).2 ⟨x,hx,rfl⟩)) hw
 have e0:=Mz A 0;rw[e0]at m';exact m'
theorem ahB {P : Program} {g q : FuncId} {e : TypeId} {t : DT} [Inhabited t.den] {enc : t.den -> List Value} (akl : ∀ x, (enc x).length = t.size) (h1 : ∀ x, ∀ v ∈ enc x, v.oneCell' = true)
    (hh : ∀ (U : Nat -> Prop) (w : World) (x : t.den) (us : List Value), t.h U w x us ↔ us = enc x)
    {srt : List t.den -> Option (List t.den)} (hsl : ∀ l l', srt l = some l' -> l'.length = l.length) (hf : qj P g) (hq : Nat.ble 1000000 q = false)
    (My : ∀ p cap w, Calls P g #[.slice p 0 cap, .func (.func q) #[] #[]] w λe w' => e = .returned (.tuple #[]) /\ w' = w)
    (aci : ∀ iK off cap (l l' : List t.den) w, srt l = some l' -> HoldsK enc t.size w iK off l.toArray -> iK < w.heap.size ->
      Calls P g #[.slice (some ⟨iK, off, none⟩) l.length cap, .func (.func q) #[] #[]] w λe w' => e = .returned (.tuple #[]) /\ ∃ n os, w' = sortWorldK enc t.size w iK off n l'.toArray os) :
    ant P g ⟨e, t, [.fn q []], λl _ => srt l⟩ := by
  intro l z l' Ti
  have Ti := Ti
  have Wx := hsl l l' Ti
  refine ⟨Wx, λU0 B A vs w m hv => ?_⟩
  have hv := hv
  simp only [hL, DV.h] at hv
  obtain ⟨_, _, rfl, ⟨e2, t2, l2, hj2, rfl⟩, _, _, rfl, ⟨cs, rfl, Y3⟩, rfl⟩ := hv
  have hj2 : some (DR.own e t l) = some (.own e2 t2 l2) := hj2
  simp only [ak, DR.own.injEq] at hj2
  obtain ⟨rfl, rfl, hl2⟩ := hj2
  cases hl2
  have a0q := Array.toList_inj.1 Y3
  subst a0q
  rw [atV hq]
  obtain ⟨us, ⟨hxl, ho⟩, hxs⟩ := m.row 0 e t l rfl
  change nz P g #[Value.slice (A 0).1 l.length (A 0).2, _] w _
  rcases fv l.length with h0 | hp
  · have e0 := fx h0
    have e1 := fx (by rw [Wx, h0])
    subst e0 e1
    refine ⟨.inl ⟨hf, (My _ _ w).mono λe' w' ⟨he, hw⟩ => ⟨_, he, rfl, ?_⟩⟩⟩
    subst hw; exact m
  · rcases ho with ⟨_, hn⟩ | ⟨b, cap, cur, heq, hbase, hg, hn1, hn2, hn3, hn4⟩
    · omega
    simp only [dh] at heq
    obtain ⟨hA0, _, hc⟩ := heq
    have hgl := (cq.1 hg).1
    have hus : us = l.flatMap enc := by
      apply eY
      intro j
      obtain ⟨f1, f2⟩ := Iz akl l
      by_cases hj : j < l.length * t.size
      · have k0 : 0 < t.size := by rcases fv t.size with h | h; · rw [h] at hj; simp at hj
                                   · exact h
        have hq := (nj k0).2 hj
        have g1 := (hh _ _ _ _).1 (hxs.2 (j / t.size) _ (aw hq))
        have g2 := f2 (j / t.size) _ (aw hq)
        have ej : j / t.size * t.size + j % t.size = j := by rw [kB]; exact zK j _
        have := bA (λl : List Value => l[j % t.size]?) (g1.trans g2.symm)
        simp only [dx (Ch _ k0), cF, ej] at this
        exact this
      · rw [bH (by rw [hxl]; omega), bH (by rw [f1]; omega)]
    have N1 := Tl enc t.size akl l
    have hfs : (flatK enc t.size l.toArray).size = l.length * t.size := by simp
    have hH : HoldsK enc t.size w b 0 l.toArray := by
      intro j hj
      rw [hfs] at hj
      refine ⟨?_, by simp [World.frozen?, hg]⟩
      have e1 : (cur.toList.take (l.length * t.size))[j]? = (l.flatMap enc)[j]? := by rw [hn4, hus]
      rw [dx hj, <- N1, dt, dt] at e1
      simp only [World.cell?, hg, cg, qz, fb, oG, e1]
      rw [l6 (flatK enc t.size l.toArray) j (by rw [hfs]; exact hj), sY (by rw [hfs]; exact hj)]
      rfl
    rw [hA0, hc]
    refine ⟨.inl ⟨hf, (aci b 0 cap l l' w Ti hH hgl).mono λe' w' ⟨he, n, os', hw⟩ => ⟨_, he, rfl, ?_⟩⟩⟩
    subst hw
    have hgs : (flatK enc t.size l'.toArray).size = l'.length * t.size := by simp
    refine ahE m Wx ⟨rfl, rfl, rfl, by simp [sortWorldK, putRowK]⟩ (λb' hb hn => Bq _ hb λe => hn _ hA0 e.symm) λU' lt => ⟨l'.flatMap enc, ⟨(Iz akl l').1, .inr ⟨b, cap, _, ?_, hbase, Hd (enc := id) _ hg, by rw [Wx]; exact hn1, hn2, by simp [putCells, hn3], ?_⟩⟩, (Iz akl l').1, λi x hx => (hh _ _ _ _).2 ((Iz akl l').2 i x hx)⟩
    · rw [hA0, hc]
    · rw [<- Tl enc t.size akl, <- hgs]
      exact Br cur _ (by rw [hgs, hn3, Wx]; exact dL _ hn1)
end Go.Vc
namespace Go.Vc
open Go Go.RowKit Go.Sort Go.Proofs
theorem ahC{U}{w}{l:List Int}{us:List Value}(h:(DT.int .i64).hs U w l us):us=l.map (Value.int .i64):=by
 have hl:us.length=l.length*1:=h.1;apply eY;intro j;by_cases hj:j<l.length
 .have h1:(us.drop (j*1)).take 1=[.int .i64 l[j]]:=h.2 j l[j] (aw hj);have h2:=bA (λl:List Value=>l[0]?) h1;simpa[ct,cF,hj]using h2
 .rw[bH (by omega),bH (by simp;omega)]
theorem ahD{U}{w}(l):(DT.int .i64).hs U w l (l.map (Value.int .i64)):=by
 refine⟨?_,λi x hi=>?_⟩
 .show _=l.length*1;simp
 .show((l.map (Value.int .i64)).drop (i*1)).take 1=[.int .i64 x];have hl:=(ay.1 hi);obtain⟨h1,h2⟩:=hl;rw[H9,ck (by simpa using h1)];simp[h2]
theorem Tg(w)(b o)(d):putRow (Value.int .i64) w b o d=putRow id w b o (d.map (Value.int .i64)):=by
 unfold putRow;congr 1;funext c;unfold putCells;congr 1;funext k x;by_cases h:o<=k/\k<o+d.size
 .rw[ah h,ah (by simpa using h),l6 d (k-o) (by omega),id,l6 (d.map _) (k-o) (by simp;omega)];simp
 .rw[ag h,ag (by simpa using h)]
theorem anr(w):grow w #[]=w:=by simp[grow]
theorem J8(x):∀l,(Js x l).Perm (x::l)
 |[]=>.refl _
 |y::l=>by
  unfold Js;by_cases h:x<=y
  .rw[aq h];exact .refl _
  .rw[an h];exact((J8 x l).cons y).trans (.swap x y l)
theorem J9:∀l,(yG l).Perm l
 |[]=>.refl _
 |x::l=>(J8 x _).trans ((J9 l).cons x)
theorem Xi(x):∀{l:List Int},l.Pairwise (· <= ·)->(Js x l).Pairwise (· <= ·)
 |[],_=>by simp[Js]
 |y::l,h=>by
  obtain⟨h1,h2⟩:=bD.1 h;unfold Js;by_cases hx:x<=y
  .rw[aq hx];exact bD.2 ⟨λz hz=>(aF.1 hz).elim (λe=>e▸hx) λhz=>Int.le_trans hx (h1 z hz),h⟩
  .rw[an hx];exact bD.2 ⟨λz hz=>(aF.1 ((J8 x l).mem_iff.1 hz)).elim (λe=>by subst e;omega) (h1 z),Xi x h2⟩
theorem Xj:∀l,(yG l).Pairwise (· <= ·)
 |[]=>.nil
 |x::l=>Xi x (Xj l)
theorem ach(l):l.mergeSort (λx y=>decide (x<=y))=yG l:=tM (le:=λa b=>a<=b) (λa b _ _ h1 h2=>Int.le_antisymm h1 h2) ((List.pairwise_mergeSort (le:=λx y=>decide (x<=y)) (λa b c h1 h2=>by simp only[bb]at *;omega) (λa b=>by simp only[fI,bb];omega) l).imp λh=>by simpa using h) (Xj l) ((List.mergeSort_perm l _).trans (J9 l).symm)
theorem ans{w}{b}{l:List Int}{cur:Array Value}{e:TypeId}(hg:w.heap[b]?=some (.cells cur e (0,0)))(h4:cur.toList.take (l.length*1)=l.map (Value.int .i64)):Holds (Value.int .i64) w b 0 l.toArray:=by
 intro j hj;have hj:j<l.length:=by simpa using hj
 refine⟨?_,by simp[World.frozen?,hg]⟩;have e1:(cur.toList.take (l.length*1))[j]?=(l.map (Value.int .i64))[j]?:=by rw[h4]
 rw[dx (by omega),dt,kU,aw hj]at e1;simp only[World.cell?,hg,cg,qz,fb,oG,e1];rw[l6 l.toArray j (by simpa using hj)];rfl
theorem afl{P}{g}{e:TypeId}(hf:qj P g)(My:∀p cap w,Calls P g #[.slice p 0 cap] w λe w'=>e=.returned (.tuple #[])/\w'=w)
 (aci:∀iK off cap (zs:List Int) w,Holds (Value.int .i64) w iK off zs.toArray->iK<w.heap.size->zs.length<4611686018427387904->Calls P g #[.slice (some ⟨iK,off,none⟩) zs.length cap] w λe w'=>e=.returned (.tuple #[])/\∃n os,w'=grow (putRow (Value.int .i64) (Sort.ahead w n) iK off (zs.mergeSort λx y=>decide (x<=y)).toArray) os):
 ant P g ⟨e,.int .i64,[],λl _=>Th l⟩:=by
 intro l z l' Ti;have Ti:=Ti
 obtain⟨hb,rfl⟩:l.length<4611686018427387904/\l'=yG l:=by
  unfold Th at Ti;rcases yN Ti with⟨h1,h2⟩|⟨_,h2⟩
  .exact⟨bQ h1,(cJ h2).symm⟩
  .cases h2
 have Wx:=(J9 l).length_eq;refine⟨Wx,λU0 B A vs w m hv=>?_⟩;have hv:=hv;simp only[hL,DV.h]at hv;obtain⟨_,_,rfl,⟨e2,t2,l2,hj2,rfl⟩,rfl⟩:=hv;have hj2:some (DR.own e (.int .i64) l)=some (.own e2 t2 l2):=hj2;simp only[ak,DR.own.injEq]at hj2;obtain⟨rfl,rfl,hl2⟩:=hj2;cases hl2;obtain⟨us,⟨hxl,ho⟩,hxs⟩:=m.row 0 e (.int .i64) l rfl;change nz P g #[Value.slice (A 0).1 l.length (A 0).2] w _;rcases fv l.length with h0|hp
 .have e0:=fx h0;subst e0;refine⟨.inl ⟨hf,(My _ _ w).mono λe' w' ⟨he,hw⟩=>⟨_,he,rfl,?_⟩⟩⟩;subst hw;exact m
 .rcases ho with⟨_,hn⟩|⟨b,cap,cur,heq,hbase,hg,hn1,hn2,hn3,hn4⟩
  .omega
  simp only[dh]at heq;obtain⟨hA0,_,hc⟩:=heq;have hgl:=(cq.1 hg).1;have hus:=ahC hxs;subst hus;rw[hA0,hc];refine⟨.inl ⟨hf,(aci b 0 cap l w (ans hg hn4) hgl hb).mono λe' w' ⟨he,n,os',hw⟩=>⟨_,he,rfl,?_⟩⟩⟩;rw[ach,Tg]at hw;subst hw;have hgs:((yG l).toArray.map (Value.int .i64)).size=l.length:=by simp[Wx]
  refine ahE m Wx ⟨rfl,rfl,rfl,by simp[putRow,mapBlock]⟩ (λb' hb hn=>Bq _ hb λe=>hn _ hA0 e.symm) λU' lt=>⟨(yG l).map (Value.int .i64),⟨by simp[DT.size],.inr ⟨b,cap,_,by rw[hA0,hc],hbase,Hd (enc:=id) _ hg,by rw[Wx];exact hn1,hn2,by simp[putCells,hn3],?_⟩⟩,ahD _⟩
  have h7:(yG l).length*(DT.int IntKind.i64).size=((yG l).toArray.map (Value.int .i64)).size:=by simp[DT.size]
  rw[h7,Br cur _ (by rw[hgs,hn3];show l.length<=cap*1;omega)];simp
theorem Tj : ∀ (l pre : List Int), Lib.compactUpTo (pre ++ l).toArray (pre.length + l.length) = Lib.compactUpTo (pre ++ l).toArray pre.length ++ yH pre.getLast? l
  | [], pre => by simp [yH]
  | x :: l, pre => by
    have ih := Tj l (pre ++ [x])
    rw [bq, List.singleton_append, ap, rf] at ih
    rw [aJ, show pre.length + (l.length + 1) = pre.length + 1 + l.length by omega, ih, Lib.compactUpTo_succ, bq]
    congr 1
    have hx : (pre ++ x :: l).toArray[pre.length]! = x := by rw [l6 _ _ (by simp)]; simp
    rw [hx, List.getLast?_concat]
    rcases xe pre with rfl | ⟨p, y, rfl⟩
    · simp [Lib.keeps, yH, ajN]
    · have hy : (p ++ [y] ++ x :: l).toArray[(p ++ [y]).length - 1]! = y := by
        rw [l6 _ _ (by simp)]; simp
      simp only [List.concat_eq_append] at hx hy ⊢
      rw [List.getLast?_concat]
      by_cases h : x = y
      · subst h
        have hk : Lib.keeps (p ++ [x] ++ x :: l).toArray (p ++ [x]).length = false := by
          simp only [Lib.keeps, hx, hy]; simp
        rw [hk]
        simp [yH, ajN]
      · have hk : Lib.keeps (p ++ [y] ++ x :: l).toArray (p ++ [y]).length = true := by
          simp only [Lib.keeps, hx, hy]; simp [h]
        have hb : (x == y) = false := by simpa using h
        rw [hk]
        simp [yH, ajN, hb]
theorem acj(l):Lib.compact l=vv l:=by have:=Tj l [];simp only[dA,eJ,cg]at this;unfold Lib.compact vv;rw[this];simp[Lib.compactUpTo]
theorem AE:∀(l:List Int) (p:Option Int),(yH p l).length<=l.length
 |[],_=>by simp[yH]
 |x::l,p=>by
  simp only[yH];cases ajN p x with
  |true=>have:=AE l (some x);simp only[cond_true,aJ];omega
  |false=>have:=AE l (some x);simp only[cond_false,aJ];omega
theorem VM{P:Program}{g:FuncId}{e:TypeId}(hf:qj P g)(My:∀p cap w,Calls P g #[.slice p 0 cap] w λe w'=>e=.returned (.slice p 0 cap)/\w'=w)
 (aci:∀iK off cap (zs:List Int) w,Holds (Value.int .i64) w iK off zs.toArray->zs.length<=9223372036854775807->zs.length<=cap->Calls P g #[.slice (some ⟨iK,off,none⟩) zs.length cap] w λe w'=>e=.returned (.slice (some ⟨iK,off,none⟩) (Lib.compact zs).length cap)/\∃q,w'=putRow (Value.int .i64) (Sort.ahead w q) iK off (Lib.compact zs++List.replicate (zs.length-(Lib.compact zs).length) 0).toArray):
 J7 P g ⟨[],[.row e (.int .i64)],[],.own e (.int .i64),λz=>PV z.1⟩:=by
 rintro⟨l,⟨⟩⟩ o ho U0 B A vs w m hv;have ho:some (vv l,())=some o:=ho;simp only[ak]at ho;subst ho;have hv:=hv;have m:=m;show nz P g vs.toArray w λv w'=>∃B' A' r pb' rw',Mem w U0 (Ow B A [] [.own e (.int .i64) l]) B' A' pb' rw' w'/\r.h (env U0 B' A' pb' rw' w') v/\(∀i,live [] i->live pb' i/\B' i=B i)/\pb'=[]/\(r,rw')=(DV.row 0,[DR.own e (.int .i64) (vv l)])
 simp only[hL,DV.h]at hv;obtain⟨_,_,rfl,⟨e2,t2,l2,hj2,rfl⟩,rfl⟩:=hv;have hj2:some (DR.own e (.int .i64) l)=some (.own e2 t2 l2):=hj2;simp only[ak,DR.own.injEq]at hj2;obtain⟨rfl,rfl,hl2⟩:=hj2;cases hl2;obtain⟨us,⟨hxl,ho⟩,hxs⟩:=m.row 0 e (.int .i64) l rfl;have hus:=ahC hxs;subst hus;change nz P g #[Value.slice (A 0).1 l.length (A 0).2] w _;have hcl:(vv l).length<=l.length:=AE l none;rcases fv l.length with h0|hp
 .have e0:=fx h0;subst e0;refine⟨.inl ⟨hf,(My _ _ w).mono λe' w' ⟨he,hw⟩=>⟨_,he,?_⟩⟩⟩;subst hw;refine Bl (e:=e) (t:=.int .i64) (l:=[]) (l':=vv []) m ⟨rfl,rfl,rfl,au _⟩ (λb hb hn=>rfl) (λx hx=>.inl ⟨x,hx,rfl⟩) λU' lt=>⟨[],?_,DT.FB⟩
  exact⟨by simp[vv,yH],ho⟩
 .rcases ho with⟨_,hn⟩|⟨b,cap,cur,heq,hbase,hg,hn1,hn2,hn3,hn4⟩
  .omega
  simp only[dh]at heq;obtain⟨hA0,_,hc⟩:=heq;have hn3:cur.size=cap*1:=hn3;have h63:cap<=9223372036854775807:=by rw[ic]at hn2;exact hn2
  rw[hA0,hc];refine⟨.inl ⟨hf,(aci b 0 cap l w (ans hg hn4) (by omega) hn1).mono λe' w' ⟨he,q,hw⟩=>⟨_,he,?_⟩⟩⟩;rw[acj]at hw ⊢;rw[Tg]at hw;have hw':w'=grow (putRow id (Sort.ahead w q) b 0 ((vv l++List.replicate (l.length-(vv l).length) 0).toArray.map (Value.int .i64))) #[]:=by rw[anr];exact hw
  subst hw';have hF:((vv l++List.replicate (l.length-(vv l).length) 0).toArray.map (Value.int .i64)).size=l.length:=by simp;omega
  refine Bl (e:=e) (t:=.int .i64) (l:=l) (l':=vv l) m ⟨rfl,rfl,rfl,by simp[putRow,mapBlock]⟩ (λb' hb hn=>Bq _ hb λe=>hn _ hA0 e.symm) (λx hx=>by simp only[ak]at hx;subst hx;exact .inl ⟨_,hA0,rfl⟩) λU' lt=>⟨(vv l).map (Value.int .i64),⟨by simp[DT.size],.inr ⟨b,cap,_,rfl,hbase,Hd (enc:=id) _ hg,by omega,hn2,by simp[putCells,hn3,DT.size],?_⟩⟩,ahD _⟩
  have h8:=Br cur ((vv l++List.replicate (l.length-(vv l).length) 0).toArray.map (Value.int .i64)) (by rw[hF];omega);have h9:=bA (List.take (vv l).length) h8;rw[Cf,hF,jQ hcl]at h9;show List.take ((vv l).length*1) _=_;rw[H9,h9];simp
end Go.Vc
namespace Go.Proofs.YthghpahghjppjaaGreat
open Go Go.Vc Go.RowKit Go.Sort Go.Proofs Go.Shelf
def Tryz.aki:Go.Shelf.Ren:=⟨λ|189=>349|125=>417|257=>416|128=>466|129=>467|294=>458|295=>459|296=>460|297=>461|298=>462|299=>463|216=>380|300=>464|301=>465|328=>490|329=>491|330=>492|331=>493|332=>494|215=>376|343=>512|n=>n,λ|28=>97|3=>3|46=>201|0=>0|51=>504|53=>89|4=>4|183=>498|182=>497|131=>273|5=>5|9=>9|218=>522|222=>526|228=>541|229=>542|n=>n,λn=>n⟩
theorem Tryz.atT:Lays.n189 Tryz.prog Tryz.aki where
 mixed:=by kernel_rfl
 f125:=Tryz.func417.trans (bA some (by kernel_rfl))
 f128:=Tryz.func466.trans (bA some (by kernel_rfl))
 f129:=Tryz.func467.trans (bA some (by kernel_rfl))
 f189:=Tryz.func349.trans (bA some (by kernel_rfl))
 f215:=Tryz.func376.trans (bA some (by kernel_rfl))
 f216:=Tryz.func380.trans (bA some (by kernel_rfl))
 f257:=Tryz.func416.trans (bA some (by kernel_rfl))
 f294:=Tryz.func458.trans (bA some (by kernel_rfl))
 f295:=Tryz.func459.trans (bA some (by kernel_rfl))
 f296:=Tryz.func460.trans (bA some (by kernel_rfl))
 f297:=Tryz.func461.trans (bA some (by kernel_rfl))
 f298:=Tryz.func462.trans (bA some (by kernel_rfl))
 f299:=Tryz.func463.trans (bA some (by kernel_rfl))
 f300:=Tryz.func464.trans (bA some (by kernel_rfl))
 f301:=Tryz.func465.trans (bA some (by kernel_rfl))
 f328:=Tryz.func490.trans (bA some (by kernel_rfl))
 f329:=Tryz.func491.trans (bA some (by kernel_rfl))
 f330:=Tryz.func492.trans (bA some (by kernel_rfl))
 f331:=Tryz.func493.trans (bA some (by kernel_rfl))
 f332:=Tryz.func494.trans (bA some (by kernel_rfl))
 f343:=Tryz.func512.trans (bA some (by kernel_rfl))
 t0:=Tryz.underlying0
 a0:=Tryz.isAgg0
 z0:=Tryz.sizeOf0
 v0:=Tryz.zeroValue0
 t3:=Tryz.underlying3
 a3:=Tryz.isAgg3
 z3:=Tryz.sizeOf3
 v3:=Tryz.zeroValue3
 t4:=Tryz.underlying4
 a4:=Tryz.isAgg4
 z4:=Tryz.sizeOf4
 v4:=Tryz.zeroValue4
 t5:=Tryz.underlying5
 a5:=Tryz.isAgg5
 z5:=Tryz.sizeOf5
 v5:=Tryz.zeroValue5
 t9:=Tryz.underlying9
 a9:=Tryz.isAgg9
 z9:=Tryz.sizeOf9
 v9:=Tryz.zeroValue9
 t28:=Tryz.underlying97
 a28:=Tryz.isAgg97
 z28:=Tryz.sizeOf97
 v28:=Tryz.zeroValue97
 t46:=Tryz.underlying201
 a46:=Tryz.isAgg201
 z46:=Tryz.sizeOf201
 v46:=Tryz.zeroValue201
 t51:=Tryz.underlying504
 a51:=Tryz.isAgg504
 z51:=Tryz.sizeOf504
 v51:=Tryz.zeroValue504
 t53:=Tryz.underlying89
 a53:=Tryz.isAgg89
 z53:=Tryz.sizeOf89
 v53:=Tryz.zeroValue89
 t131:=Tryz.underlying273
 a131:=Tryz.isAgg273
 z131:=Tryz.sizeOf273
 v131:=Tryz.zeroValue273
 t182:=Tryz.underlying497
 a182:=Tryz.isAgg497
 z182:=Tryz.sizeOf497
 v182:=Tryz.zeroValue497
 t183:=Tryz.underlying498
 a183:=Tryz.isAgg498
 z183:=Tryz.sizeOf498
 v183:=Tryz.zeroValue498
 t218:=Tryz.underlying522
 a218:=Tryz.isAgg522
 z218:=Tryz.sizeOf522
 v218:=Tryz.zeroValue522
 t222:=Tryz.underlying526
 a222:=Tryz.isAgg526
 z222:=Tryz.sizeOf526
 v222:=Tryz.zeroValue526
 t228:=Tryz.underlying541
 a228:=Tryz.isAgg541
 z228:=Tryz.sizeOf541
 v228:=Tryz.zeroValue541
 t229:=Tryz.underlying542
 a229:=Tryz.isAgg542
 z229:=Tryz.sizeOf542
 v229:=Tryz.zeroValue542
def Tryz.akj:Go.Shelf.Ren:=⟨λ|20=>350|n=>n,λ|22=>97|3=>3|4=>4|0=>0|n=>n,λn=>n⟩
theorem Tryz.atU:Lays2.n20 Tryz.prog Tryz.akj where
 mixed:=by kernel_rfl
 f20:=Tryz.func350.trans (bA some (by kernel_rfl))
 t0:=Tryz.underlying0
 a0:=Tryz.isAgg0
 z0:=Tryz.sizeOf0
 v0:=Tryz.zeroValue0
 t3:=Tryz.underlying3
 a3:=Tryz.isAgg3
 z3:=Tryz.sizeOf3
 v3:=Tryz.zeroValue3
 t4:=Tryz.underlying4
 a4:=Tryz.isAgg4
 z4:=Tryz.sizeOf4
 v4:=Tryz.zeroValue4
 t22:=Tryz.underlying97
 a22:=Tryz.isAgg97
 z22:=Tryz.sizeOf97
 v22:=Tryz.zeroValue97
 i3:=by kernel_rfl
theorem afm:qj Tryz.prog 349:=⟨_,Tryz.func349,by decide +kernel,rfl⟩
theorem afn:qj Tryz.prog 350:=⟨_,Tryz.func350,by decide +kernel,rfl⟩
def akk:KC Tryz.prog:=⟨349,λ_=>.mu ⟨3,.int .i64,[],λl _=>YP l⟩,afl afm (λp cap w=>Any.slices_Sort_int_none Tryz.atT p cap w) λiK off cap zs w h1 h2 h3=>Any.slices_Sort_int Tryz.atT iK off cap zs w h1 h2 h3⟩
def Zd:KC Tryz.prog:=⟨350,λ_=>.ls ⟨[],[.row 3 (.int .i64)],[],.own 3 (.int .i64),λz=>Tk z.1⟩,VM afn (λp cap w=>Any.slices_Compact_int_empty Tryz.atU p cap w) λiK off cap zs w h1 h2 h3=>Any.slices_Compact_int Tryz.atU iK off cap zs w h1 h2 h3⟩
end Go.Proofs.YthghpahghjppjaaGreat




namespace Go.Proofs.YthghpahghjppjaaGreat
open Go Go.Vc Go.RowKit Go.Sort Go.Proofs Go.Shelf
set_option maxRecDepth 1000000
def wZ(x y:Int×Int):Bool:=if x.1=y.1 then decide (x.2<y.2)else decide (x.1<y.1)
theorem avG(x y:Int×Int)(W:World):Calls Tryz.prog 196 #[.agg #[.int .i64 x.1,.int .i64 x.2],.agg #[.int .i64 y.1,.int .i64 y.2]] W λe w'=>e=.returned (.bool (wZ x y))/\∃q os',w'=grow (W.drewN q) os':=by
 by_cases h:x.1=y.1
 .have e:wZ x y=decide (x.2<y.2):=by simp[wZ,h]
  rw[e];go_enter Tryz.func196,Tryz.ntmps196;go_wp2;go_ret;exact⟨rfl,0,_,by rw[alloc_eq_grow,alloc_eq_grow,grow_grow];rfl⟩
 .have e:wZ x y=decide (x.1<y.1):=by simp[wZ,h]
  rw[e];go_enter Tryz.func196,Tryz.ntmps196;go_wp2;go_ret;exact⟨rfl,0,_,by rw[alloc_eq_grow,alloc_eq_grow,grow_grow];rfl⟩
def ack(x y:Int×Int):Int:=if wZ x y=true then -1 else if wZ y x=true then 1 else 0
theorem QS(W:World)(q1 q2:Nat)(o1 o2:Array Obj):grow ((grow (W.drewN q1) o1).drewN q2) o2=grow (W.drewN (q1+q2)) (o1++o2):=by simp[grow,World.drewN,Array.append_assoc,DW]
theorem alloc_drew(W:World)(o:Obj):W.alloc o=grow (W.drewN 0) #[o]:=by rw[alloc_eq_grow];rfl
theorem Xg(W:World)(a b:Array Value)(s t:TypeId)(q:Nat)(os:Array Obj)(j:Nat):(grow (((W.alloc (.cells a s)).alloc (.cells b t)).drewN q) os).cell? ⟨W.heap.size,j,none⟩=a[j]?:=by
 have h:(grow (((W.alloc (.cells a s)).alloc (.cells b t)).drewN q) os).heap[W.heap.size]?=some (.cells a s):=by rw[heap_grow_old _ _ (by simp[World.drewN];try omega)];show((W.heap.push _).push _)[W.heap.size]?=_;simp[zV]
 simp[World.cell?,h]
theorem Xh(W:World)(a b:Array Value)(s t:TypeId)(q:Nat)(os:Array Obj)(j:Nat):(grow (((W.alloc (.cells a s)).alloc (.cells b t)).drewN q) os).cell? ⟨W.heap.size+1,j,none⟩=b[j]?:=by
 have h:(grow (((W.alloc (.cells a s)).alloc (.cells b t)).drewN q) os).heap[W.heap.size+1]?=some (.cells b t):=by rw[heap_grow_old _ _ (by simp[World.drewN];try omega)];show((W.heap.push _).push _)[W.heap.size+1]?=_;rw[zV];simp
 simp[World.cell?,h]
def G2(W w':World):Prop:=∃q os',w'=grow (W.drewN q) os'
theorem G2.c0{W w':World}{a b:Array Value}{s t:TypeId}(h:G2 ((W.alloc (.cells a s)).alloc (.cells b t)) w')(j:Nat):w'.cell? ⟨W.heap.size,j,none⟩=a[j]?:=by obtain⟨q,os,rfl⟩:=h;exact Xg W a b s t q os j
theorem G2.c1{W w':World}{a b:Array Value}{s t:TypeId}(h:G2 ((W.alloc (.cells a s)).alloc (.cells b t)) w')(j:Nat):w'.cell? ⟨W.heap.size+1,j,none⟩=b[j]?:=by obtain⟨q,os,rfl⟩:=h;exact Xh W a b s t q os j
theorem G2.trans{a b c:World}(h:G2 a b)(h':G2 b c):G2 a c:=by obtain⟨q,os,rfl⟩:=h;obtain⟨q',os',rfl⟩:=h';exact⟨_,_,QS _ _ _ _ _⟩
theorem G2.alloc(W:World)(o:Obj):G2 W (W.alloc o):=⟨0,_,alloc_drew W o⟩
theorem ar1(x y:Int×Int)(W:World):Calls Tryz.prog 448 #[.agg #[.int .i64 x.1,.int .i64 x.2],.agg #[.int .i64 y.1,.int .i64 y.2]] W λe w'=>e=.returned (.int .i64 (ack x y))/\G2 W w':=by
 obtain⟨x1,x2⟩:=x;obtain⟨y1,y2⟩:=y;have h1:∀a b c d W,Calls Tryz.prog 196 #[.agg #[.int .i64 a,.int .i64 b],.agg #[.int .i64 c,.int .i64 d]] W λe w'=>e=.returned (.bool (wZ (a,b) (c,d)))/\G2 W w':=λa b c d W=>avG (a,b) (c,d) W
 have hc:ack (x1,x2) (y1,y2)=if wZ (x1,x2) (y1,y2)=true then -1 else if wZ (y1,y2) (x1,x2)=true then 1 else 0:=rfl;rw[hc];generalize hf:wZ=f at h1;cases hp:f (x1,x2) (y1,y2)with
 |false=>
  cases hq:f (y1,y2) (x1,x2)with
  |false=>go_enter Tryz.func448,Tryz.ntmps448;go_wp2_with (go_at_call 196;refine(h1 _ _ _ _ _).mono ?_;rintro e w' ⟨rfl,hw⟩;first|(have k0:=hw.c0 0;have k1:=hw.c0 1;have k2:=hw.c1 0;have k3:=hw.c1 1;have hw1:=hw)|skip);go_ret;exact⟨rfl,(((G2.alloc _ _).trans (G2.alloc _ _)).trans hw1).trans hw⟩
  |true=>go_enter Tryz.func448,Tryz.ntmps448;go_wp2_with (go_at_call 196;refine(h1 _ _ _ _ _).mono ?_;rintro e w' ⟨rfl,hw⟩;first|(have k0:=hw.c0 0;have k1:=hw.c0 1;have k2:=hw.c1 0;have k3:=hw.c1 1;have hw1:=hw)|skip);go_ret;exact⟨rfl,(((G2.alloc _ _).trans (G2.alloc _ _)).trans hw1).trans hw⟩
 |true=>go_enter Tryz.func448,Tryz.ntmps448;go_wp2_with (go_at_call 196;(refine(h1 _ _ _ _ _).mono ?_;rintro e w' ⟨rfl,hw⟩));go_ret;exact⟨rfl,((G2.alloc _ _).trans (G2.alloc _ _)).trans hw⟩
def Tryz.akn:Go.Shelf.Ren:=⟨λ|6=>447|15=>417|14=>486|28=>466|29=>467|20=>502|21=>503|22=>504|23=>505|24=>506|25=>507|26=>508|27=>509|46=>519|47=>491|48=>492|49=>520|50=>521|57=>524|n=>n,λ|22=>138|24=>37|25=>486|3=>3|39=>201|0=>0|53=>504|55=>89|4=>4|46=>498|45=>497|50=>273|5=>5|9=>9|66=>522|70=>526|76=>541|77=>542|n=>n,λn=>n⟩
theorem Tryz.atW:SlLaysF0.n6 Tryz.prog Tryz.akn where
 mixed:=by kernel_rfl
 f6:=⟨Tryz.f447.name,by decide +kernel,Tryz.func447.trans (bA some (by kernel_rfl))⟩
 f14:=⟨Tryz.f486.name,by decide +kernel,Tryz.func486.trans (bA some (by kernel_rfl))⟩
 f15:=Tryz.func417.trans (bA some (by kernel_rfl))
 f20:=⟨Tryz.f502.name,by decide +kernel,Tryz.func502.trans (bA some (by kernel_rfl))⟩
 f21:=⟨Tryz.f503.name,by decide +kernel,Tryz.func503.trans (bA some (by kernel_rfl))⟩
 f22:=⟨Tryz.f504.name,by decide +kernel,Tryz.func504.trans (bA some (by kernel_rfl))⟩
 f23:=⟨Tryz.f505.name,by decide +kernel,Tryz.func505.trans (bA some (by kernel_rfl))⟩
 f24:=⟨Tryz.f506.name,by decide +kernel,Tryz.func506.trans (bA some (by kernel_rfl))⟩
 f25:=⟨Tryz.f507.name,by decide +kernel,Tryz.func507.trans (bA some (by kernel_rfl))⟩
 f26:=⟨Tryz.f508.name,by decide +kernel,Tryz.func508.trans (bA some (by kernel_rfl))⟩
 f27:=⟨Tryz.f509.name,by decide +kernel,Tryz.func509.trans (bA some (by kernel_rfl))⟩
 f28:=Tryz.func466.trans (bA some (by kernel_rfl))
 f29:=Tryz.func467.trans (bA some (by kernel_rfl))
 f46:=⟨Tryz.f519.name,by decide +kernel,Tryz.func519.trans (bA some (by kernel_rfl))⟩
 f47:=Tryz.func491.trans (bA some (by kernel_rfl))
 f48:=Tryz.func492.trans (bA some (by kernel_rfl))
 f49:=⟨Tryz.f520.name,by decide +kernel,Tryz.func520.trans (bA some (by kernel_rfl))⟩
 f50:=⟨Tryz.f521.name,by decide +kernel,Tryz.func521.trans (bA some (by kernel_rfl))⟩
 f57:=⟨Tryz.f524.name,by decide +kernel,Tryz.func524.trans (bA some (by kernel_rfl))⟩
 t0:=Tryz.underlying0
 a0:=Tryz.isAgg0
 z0:=Tryz.sizeOf0
 v0:=Tryz.zeroValue0
 t3:=Tryz.underlying3
 a3:=Tryz.isAgg3
 z3:=Tryz.sizeOf3
 v3:=Tryz.zeroValue3
 t4:=Tryz.underlying4
 a4:=Tryz.isAgg4
 z4:=Tryz.sizeOf4
 v4:=Tryz.zeroValue4
 t5:=Tryz.underlying5
 a5:=Tryz.isAgg5
 z5:=Tryz.sizeOf5
 v5:=Tryz.zeroValue5
 t9:=Tryz.underlying9
 a9:=Tryz.isAgg9
 z9:=Tryz.sizeOf9
 v9:=Tryz.zeroValue9
 t22:=Tryz.underlying138
 a22:=Tryz.isAgg138
 z22:=Tryz.sizeOf138
 v22:=Tryz.zeroValue138
 t25:=Tryz.underlying486
 a25:=Tryz.isAgg486
 z25:=Tryz.sizeOf486
 v25:=Tryz.zeroValue486
 t39:=Tryz.underlying201
 a39:=Tryz.isAgg201
 z39:=Tryz.sizeOf201
 v39:=Tryz.zeroValue201
 t45:=Tryz.underlying497
 a45:=Tryz.isAgg497
 z45:=Tryz.sizeOf497
 v45:=Tryz.zeroValue497
 t46:=Tryz.underlying498
 a46:=Tryz.isAgg498
 z46:=Tryz.sizeOf498
 v46:=Tryz.zeroValue498
 t50:=Tryz.underlying273
 a50:=Tryz.isAgg273
 z50:=Tryz.sizeOf273
 v50:=Tryz.zeroValue273
 t53:=Tryz.underlying504
 a53:=Tryz.isAgg504
 z53:=Tryz.sizeOf504
 v53:=Tryz.zeroValue504
 t55:=Tryz.underlying89
 a55:=Tryz.isAgg89
 z55:=Tryz.sizeOf89
 v55:=Tryz.zeroValue89
 t66:=Tryz.underlying522
 a66:=Tryz.isAgg522
 z66:=Tryz.sizeOf522
 v66:=Tryz.zeroValue522
 t70:=Tryz.underlying526
 a70:=Tryz.isAgg526
 z70:=Tryz.sizeOf526
 v70:=Tryz.zeroValue526
 t76:=Tryz.underlying541
 a76:=Tryz.isAgg541
 z76:=Tryz.sizeOf541
 v76:=Tryz.zeroValue541
 t77:=Tryz.underlying542
 a77:=Tryz.isAgg542
 z77:=Tryz.sizeOf542
 v77:=Tryz.zeroValue542
theorem ltU(x y):ltOf ack x y=wZ x y:=by
 unfold ltOf ack;cases h:wZ x y
 .cases wZ y x<;>simp
 .simp
theorem Xk(x y):wZ x y=true↔x.1<y.1\/(x.1=y.1/\x.2<y.2):=by
 unfold wZ;split
 .rename_i h;simp[h]
 .rename_i h;simp[h]
theorem RQ(x y):wZ x y=false↔y.1<x.1\/(x.1=y.1/\y.2<=x.2):=by rw[<-xT,Xk];omega
theorem avH:SWO (ltOf ack) where
 irrefl x:=by rw[ltU,RQ];omega
 trans x y z h1 h2:=by rw[ltU,Xk]at *;omega
 ntrans x y z h1 h2:=by rw[ltU,RQ]at *;omega
theorem a0r(x y)(h1:ltOf ack x y=false)(h2:ltOf ack y x=false):x=y:=by rw[ltU,RQ]at *;exact jd (by omega) (by omega)
def Ze(x y:KU2):Int:=ack (x.1,x.2.1) (y.1,y.2.1)
theorem ltK(x y):ltOf Ze x y=wZ (x.1,x.2.1) (y.1,y.2.1):=ltU (x.1,x.2.1) (y.1,y.2.1)
theorem a0s:SWO (ltOf Ze) where
 irrefl x:=avH.irrefl (x.1,x.2.1)
 trans x y z h1 h2:=avH.trans (x.1,x.2.1) (y.1,y.2.1) (z.1,z.2.1) h1 h2
 ntrans x y z h1 h2:=avH.ntrans (x.1,x.2.1) (y.1,y.2.1) (z.1,z.2.1) h1 h2
theorem ayf(x y)(h1:ltOf Ze x y=false)(h2:ltOf Ze y x=false):x=y:=by have:=a0r (x.1,x.2.1) (y.1,y.2.1) h1 h2;simp only[bV]at this;exact jd this.1 (jd this.2 rfl)
theorem IA(x y):leK x y=true↔(!(ltOf Ze) y x)=true:=by rw[ltK,jF,RQ];simp only[leK,fI,aB,bb,fP];omega
theorem afo(l):l.mergeSort (λx y=>!(ltOf Ze) y x)=Zh l:=
 tM (le:=λa b=>(!(ltOf Ze) b a)=true) (λa b _ _ h1 h2=>ayf a b (by simpa using h2) (by simpa using h1))
  (List.pairwise_mergeSort (λa b c h1 h2=>(IA a c).1 (anu ((IA a b).2 h1) ((IA b c).2 h2))) (λa b=>by
   rw[fI,<-IA,<-IA];cases h:leK a b with
   |true=>exact .inl rfl
   |false=>exact .inr (ahF h)) l) ((Tm l).imp λh=>(IA _ _).1 h) ((List.mergeSort_perm l _).trans (Ew l).symm)
def acm(x:KU2):List Value:=[.int .i64 x.1,.int .i64 x.2.1]
theorem atX(x:KU2):∀v∈acm x,v.oneCell'=true:=by intro v hv;simp[acm]at hv;rcases hv with rfl|rfl<;>rfl
theorem anv(x y)(W):Calls Tryz.prog 448 #[.agg (acm x).toArray,.agg (acm y).toArray] W λe w'=>e=.returned (.int .i64 (Ze x y))/\G2 W w':=ar1 (x.1,x.2.1) (y.1,y.2.1) W
theorem call162(iK off cap:Nat)(d:Array KU2)(w:World)(hH:HoldsK acm 2 w iK off d)(hblk:iK<w.heap.size)(hsz:d.size<4611686018427387904):
 Calls Tryz.prog 447 #[.slice (some ⟨iK,off,none⟩) d.size cap,.func (.func 448) #[] #[]] w λe w'=>e=.returned (.tuple #[])/\∃n os,w'=sortWorldK acm 2 w iK off n (Zh d.toList).toArray os:=by
 rw[<-afo];exact AnyQ.slices_SortFunc_total Tryz.atW 2 (λw=>by kernel_rfl) (λw=>by kernel_rfl) acm (λ_=>rfl) atX Ze a0s 448 #[] iK off cap d w (enters_of Tryz.func448 (by kernel_rfl) rfl) (λ_ _ _ _ x y=>anv x y _) hH hblk hsz ayf
theorem Tn{l l':List KU2}(h:Bs l=some l'):l.length<4611686018427387904/\l'=Zh l:=by
 unfold Bs at h;rcases yN h with⟨h1,h2⟩|⟨_,h2⟩
 .exact⟨bQ h1,(cJ h2).symm⟩
 .cases h2
def afp:KC Tryz.prog:=⟨447,λ_=>.mu ⟨37,tU0,[.fn 448 []],λl _=>Bs l⟩,ahB (enc:=acm) (λ_=>rfl) atX (λU w x us=>by
 simp only[DT.h];constructor
 .rintro⟨us1,us2,rfl,rfl,us3,us4,rfl,rfl,rfl⟩;rfl
 .rintro rfl;exact⟨_,_,rfl,rfl,_,_,rfl,rfl,rfl⟩) (λl l' h=>by rw[(Tn h).2];exact(Ew l).length_eq) ⟨_,Tryz.func447,by decide +kernel,rfl⟩ (by decide +kernel)
 (λp cap w=>AnyF.slices_SortFunc_none Tryz.atW p cap _ w)
 (λiK off cap l l' w h hH hb=>by obtain⟨h1,rfl⟩:=Tn h;have:=call162 iK off cap l.toArray w hH hb (by simpa using h1);simp only[fk]at this;exact this)⟩
set_option maxHeartbeats 4000000
def VL(x y:Int):Int:=if x<y then -1 else if y<x then 1 else 0
theorem Zc(x)(W):Calls Tryz.prog 299 #[.int .i64 x] W λe w'=>e=.returned (.bool false)/\w'=W:=by go_enter Tryz.func299,Tryz.ntmps299;go_wp2;go_ret;exact⟨rfl,rfl⟩
theorem ano(x)(W):Calls Tryz.prog 376 #[.int .i64 x] W λe w'=>e=.returned (.bool false)/\w'=W:=by go_enter Tryz.func376,Tryz.ntmps376;go_wp2;go_ret;exact⟨rfl,rfl⟩
theorem acd(x y:Int)(W:World):Calls Tryz.prog 205 #[.int .i64 x,.int .i64 y] W λe w'=>e=.returned (.int .i64 (VL x y))/\w'=W:=by
 unfold VL;by_cases h:x<y
 .rw[ah h];go_enter Tryz.func205,Tryz.ntmps205;go_wp2_with (go_at_call 299;(refine(Zc _ _).mono ?_;rintro e w' ⟨rfl,rfl⟩));go_ret;exact⟨rfl,rfl⟩
 .rw[ag h];by_cases h2:y<x
  .rw[ah h2];go_enter Tryz.func205,Tryz.ntmps205;go_wp2_with (go_at_call 299;(refine(Zc _ _).mono ?_;rintro e w' ⟨rfl,rfl⟩));go_ret;exact⟨rfl,rfl⟩
  .rw[ag h2];go_enter Tryz.func205,Tryz.ntmps205;go_wp2_with (go_at_call 299;(refine(Zc _ _).mono ?_;rintro e w' ⟨rfl,rfl⟩));go_ret;exact⟨rfl,rfl⟩
theorem akg(x y:Int)(W:World):Calls Tryz.prog 308 #[.int .i64 x,.int .i64 y] W λe w'=>e=.returned (.int .i64 (VL x y))/\w'=W:=by
 unfold VL;by_cases h:x<y
 .rw[ah h];go_enter Tryz.func308,Tryz.ntmps308;go_wp2_with (go_at_call 376;(refine(ano _ _).mono ?_;rintro e w' ⟨rfl,rfl⟩));go_ret;exact⟨rfl,rfl⟩
 .rw[ag h];by_cases h2:y<x
  .rw[ah h2];go_enter Tryz.func308,Tryz.ntmps308;go_wp2_with (go_at_call 376;(refine(ano _ _).mono ?_;rintro e w' ⟨rfl,rfl⟩));go_ret;exact⟨rfl,rfl⟩
  .rw[ag h2];go_enter Tryz.func308,Tryz.ntmps308;go_wp2_with (go_at_call 376;(refine(ano _ _).mono ?_;rintro e w' ⟨rfl,rfl⟩));go_ret;exact⟨rfl,rfl⟩
def or2(a b:Int):Int:=if a=0 then b else a
theorem ayd(W)(bl)(h0:W.cell? ⟨bl,0,none⟩=some (.int .i64 0))(h1:W.cell? ⟨bl,1,none⟩=some (.int .i64 0)):Calls Tryz.prog 204 #[.slice (some ⟨bl,0,none⟩) 2 2] W λe w'=>e=.returned (.int .i64 0)/\w'=W:=by
 go_enter Tryz.func204,Tryz.ntmps204;go_wp2
 go_rounds 3
 repeat (apply_assumption;go_wp2;try (rw[rounds_succ];go_wp2))
 go_ret;exact⟨rfl,rfl⟩
theorem aye{b}(hb:b≠0)(W)(bl)(h0:W.cell? ⟨bl,0,none⟩=some (.int .i64 0))(h1:W.cell? ⟨bl,1,none⟩=some (.int .i64 b)):Calls Tryz.prog 204 #[.slice (some ⟨bl,0,none⟩) 2 2] W λe w'=>e=.returned (.int .i64 b)/\w'=W:=by
 go_enter Tryz.func204,Tryz.ntmps204;go_wp2
 go_rounds 3
 go_ret;exact⟨rfl,rfl⟩
theorem a0m{a b}(ha:a≠0)(W)(bl)(h0:W.cell? ⟨bl,0,none⟩=some (.int .i64 a))(h1:W.cell? ⟨bl,1,none⟩=some (.int .i64 b)):Calls Tryz.prog 204 #[.slice (some ⟨bl,0,none⟩) 2 2] W λe w'=>e=.returned (.int .i64 a)/\w'=W:=by
 go_enter Tryz.func204,Tryz.ntmps204;go_wp2
 go_rounds 3
 go_ret;exact⟨rfl,rfl⟩
theorem a0n(a b:Int)(W:World)(bl:Nat)(h0:W.cell? ⟨bl,0,none⟩=some (.int .i64 a))(h1:W.cell? ⟨bl,1,none⟩=some (.int .i64 b)):Calls Tryz.prog 204 #[.slice (some ⟨bl,0,none⟩) 2 2] W λe w'=>e=.returned (.int .i64 (or2 a b))/\w'=W:=by
 unfold or2;by_cases h:a=0
 .rw[ah h];subst h;by_cases h2:b=0
  .subst h2;exact ayd W bl h0 h1
  .exact aye h2 W bl h0 h1
 .rw[ag h];exact a0m h W bl h0 h1
theorem ace(W:World)(a:Array Value)(s:TypeId)(j:Nat):(W.alloc (.cells a s)).cell? ⟨W.heap.size,j,none⟩=a[j]?:=by
 have h:(W.alloc (.cells a s)).heap[W.heap.size]?=some (.cells a s):=by show(W.heap.push _)[W.heap.size]?=_;rw[zV];simp
 unfold World.cell?;simp only[h];rfl
theorem G2.drew(W:World):G2 W W.drew:=⟨1,#[],by simp only[grow,World.drewN,World.drew,Array.append_empty]⟩
def ary(x y:Int×Int×Int):Int:=or2 (VL y.2.2 x.2.2) (VL x.1 y.1)
theorem arz(x y:Int×Int×Int)(W:World):Calls Tryz.prog 518 #[.agg #[.int .i64 x.1,.int .i64 x.2.1,.int .i64 x.2.2],.agg #[.int .i64 y.1,.int .i64 y.2.1,.int .i64 y.2.2]] W λe w'=>e=.returned (.int .i64 (ary x y))/\G2 W w':=by
 obtain⟨x1,x2,x3⟩:=x;obtain⟨y1,y2,y3⟩:=y;have hc:ary (x1,x2,x3) (y1,y2,y3)=or2 (VL y3 x3) (VL x1 y1):=rfl;rw[hc];have c1:=acd;have c2:=akg;have c3:=a0n;generalize VL=f at c1 c2;generalize or2=g at c3;go_enter Tryz.func518,Tryz.ntmps518;go_wp2;have hG:G2 W (World.drew ((W.alloc (.cells #[.int .i64 x1,.int .i64 x2,.int .i64 x3] 550)).alloc (.cells #[.int .i64 y1,.int .i64 y2,.int .i64 y3] 550))):=((G2.alloc _ _).trans (G2.alloc _ _)).trans (G2.drew _);have hb:∀j,(World.drew ((W.alloc (.cells #[.int .i64 x1,.int .i64 x2,.int .i64 x3] 550)).alloc (.cells #[.int .i64 y1,.int .i64 y2,.int .i64 y3] 550))).cell? ⟨W.heap.size,j,none⟩ = #[Value.int .i64 x1,.int .i64 x2,.int .i64 x3][j]?:=λj=>Xg W _ _ _ _ 1 #[] j
 have hb':∀j,(World.drew ((W.alloc (.cells #[.int .i64 x1,.int .i64 x2,.int .i64 x3] 550)).alloc (.cells #[.int .i64 y1,.int .i64 y2,.int .i64 y3] 550))).cell? ⟨W.heap.size+1,j,none⟩ = #[Value.int .i64 y1,.int .i64 y2,.int .i64 y3][j]?:=λj=>Xh W _ _ _ _ 1 #[] j
 generalize ((W.alloc (.cells #[.int .i64 x1,.int .i64 x2,.int .i64 x3] 550)).alloc (.cells #[.int .i64 y1,.int .i64 y2,.int .i64 y3] 550))=X at *;refine wp_region_still_tail 10 (by kernel_rfl) (by kernel_rfl) ?_;have eD:({ heap:=X.heap,tape:=X.tape,drawn:=X.drawn+1,os:=X.os,output:=X.output }:World)=X.drew:=rfl;rw[eD];generalize X.drew=V at *;have a0:=hb 0;have a2:=hb 2;have b0:=hb' 0;have b2:=hb' 2;simp only[pj,List.take_zero,tm,sj];repeat still_step
 still_call (c1 _ _ _)
 repeat still_step
 still_call (c2 _ _ _)
 refine wpStill_nil ?_;go_wp2_with (go_at_call 204;(refine(c3 (f y3 x3) (f x1 y1) _ _ ?_ ?_).mono ?_;rotate_right;rintro e w' ⟨rfl,rfl⟩))
 .go_ret;exact⟨rfl,hG.trans (G2.alloc _ _)⟩
 .exact ace V _ _ 0
 .exact ace V _ _ 1
def Tryz.akm:Go.Shelf.Ren:=⟨λ|6=>517|15=>417|14=>523|28=>466|29=>467|20=>525|21=>526|22=>527|23=>528|24=>529|25=>530|26=>531|27=>532|46=>533|47=>491|48=>492|49=>534|50=>535|57=>536|n=>n,λ|22=>546|24=>550|25=>552|3=>3|39=>201|0=>0|53=>504|55=>89|4=>4|46=>498|45=>497|50=>273|5=>5|9=>9|66=>522|70=>526|76=>541|77=>542|n=>n,λn=>n⟩
theorem Tryz.atS:SlLaysF0.n6 Tryz.prog Tryz.akm where
 mixed:=by kernel_rfl
 f6:=⟨Tryz.f517.name,by decide +kernel,Tryz.func517.trans (bA some (by kernel_rfl))⟩
 f14:=⟨Tryz.f523.name,by decide +kernel,Tryz.func523.trans (bA some (by kernel_rfl))⟩
 f15:=Tryz.func417.trans (bA some (by kernel_rfl))
 f20:=⟨Tryz.f525.name,by decide +kernel,Tryz.func525.trans (bA some (by kernel_rfl))⟩
 f21:=⟨Tryz.f526.name,by decide +kernel,Tryz.func526.trans (bA some (by kernel_rfl))⟩
 f22:=⟨Tryz.f527.name,by decide +kernel,Tryz.func527.trans (bA some (by kernel_rfl))⟩
 f23:=⟨Tryz.f528.name,by decide +kernel,Tryz.func528.trans (bA some (by kernel_rfl))⟩
 f24:=⟨Tryz.f529.name,by decide +kernel,Tryz.func529.trans (bA some (by kernel_rfl))⟩
 f25:=⟨Tryz.f530.name,by decide +kernel,Tryz.func530.trans (bA some (by kernel_rfl))⟩
 f26:=⟨Tryz.f531.name,by decide +kernel,Tryz.func531.trans (bA some (by kernel_rfl))⟩
 f27:=⟨Tryz.f532.name,by decide +kernel,Tryz.func532.trans (bA some (by kernel_rfl))⟩
 f28:=Tryz.func466.trans (bA some (by kernel_rfl))
 f29:=Tryz.func467.trans (bA some (by kernel_rfl))
 f46:=⟨Tryz.f533.name,by decide +kernel,Tryz.func533.trans (bA some (by kernel_rfl))⟩
 f47:=Tryz.func491.trans (bA some (by kernel_rfl))
 f48:=Tryz.func492.trans (bA some (by kernel_rfl))
 f49:=⟨Tryz.f534.name,by decide +kernel,Tryz.func534.trans (bA some (by kernel_rfl))⟩
 f50:=⟨Tryz.f535.name,by decide +kernel,Tryz.func535.trans (bA some (by kernel_rfl))⟩
 f57:=⟨Tryz.f536.name,by decide +kernel,Tryz.func536.trans (bA some (by kernel_rfl))⟩
 t0:=Tryz.underlying0
 a0:=Tryz.isAgg0
 z0:=Tryz.sizeOf0
 v0:=Tryz.zeroValue0
 t3:=Tryz.underlying3
 a3:=Tryz.isAgg3
 z3:=Tryz.sizeOf3
 v3:=Tryz.zeroValue3
 t4:=Tryz.underlying4
 a4:=Tryz.isAgg4
 z4:=Tryz.sizeOf4
 v4:=Tryz.zeroValue4
 t5:=Tryz.underlying5
 a5:=Tryz.isAgg5
 z5:=Tryz.sizeOf5
 v5:=Tryz.zeroValue5
 t9:=Tryz.underlying9
 a9:=Tryz.isAgg9
 z9:=Tryz.sizeOf9
 v9:=Tryz.zeroValue9
 t22:=Tryz.underlying546
 a22:=Tryz.isAgg546
 z22:=Tryz.sizeOf546
 v22:=Tryz.zeroValue546
 t25:=Tryz.underlying552
 a25:=Tryz.isAgg552
 z25:=Tryz.sizeOf552
 v25:=Tryz.zeroValue552
 t39:=Tryz.underlying201
 a39:=Tryz.isAgg201
 z39:=Tryz.sizeOf201
 v39:=Tryz.zeroValue201
 t45:=Tryz.underlying497
 a45:=Tryz.isAgg497
 z45:=Tryz.sizeOf497
 v45:=Tryz.zeroValue497
 t46:=Tryz.underlying498
 a46:=Tryz.isAgg498
 z46:=Tryz.sizeOf498
 v46:=Tryz.zeroValue498
 t50:=Tryz.underlying273
 a50:=Tryz.isAgg273
 z50:=Tryz.sizeOf273
 v50:=Tryz.zeroValue273
 t53:=Tryz.underlying504
 a53:=Tryz.isAgg504
 z53:=Tryz.sizeOf504
 v53:=Tryz.zeroValue504
 t55:=Tryz.underlying89
 a55:=Tryz.isAgg89
 z55:=Tryz.sizeOf89
 v55:=Tryz.zeroValue89
 t66:=Tryz.underlying522
 a66:=Tryz.isAgg522
 z66:=Tryz.sizeOf522
 v66:=Tryz.zeroValue522
 t70:=Tryz.underlying526
 a70:=Tryz.isAgg526
 z70:=Tryz.sizeOf526
 v70:=Tryz.zeroValue526
 t76:=Tryz.underlying541
 a76:=Tryz.isAgg541
 z76:=Tryz.sizeOf541
 v76:=Tryz.zeroValue541
 t77:=Tryz.underlying542
 a77:=Tryz.isAgg542
 z77:=Tryz.sizeOf542
 v77:=Tryz.zeroValue542
def akh(x y:Ev):Int:=ary (x.1,x.2.1,x.2.2.1) (y.1,y.2.1,y.2.2.1)
theorem ltR(x y):ltOf akh x y=true↔y.2.2.1<x.2.2.1\/(x.2.2.1=y.2.2.1/\x.1<y.1):=by
 unfold ltOf akh ary or2 VL;simp only[bb]
 repeat' split
 all_goals omega
theorem anp(x y):ltOf akh x y=false↔x.2.2.1<y.2.2.1\/(x.2.2.1=y.2.2.1/\y.1<=x.1):=by rw[<-xT,ltR];omega
theorem a0o:SWO (ltOf akh) where
 irrefl x:=by rw[anp];omega
 trans x y z h1 h2:=by rw[ltR]at *;omega
 ntrans x y z h1 h2:=by rw[anp]at *;omega
def acf(x:Ev):List Value:=[.int .i64 x.1,.int .i64 x.2.1,.int .i64 x.2.2.1]
theorem atQ(x):∀v∈acf x,v.oneCell'=true:=by intro v hv;simp[acf]at hv;rcases hv with rfl|rfl|rfl<;>rfl
theorem anq(x y)(W):Calls Tryz.prog 518 #[.agg (acf x).toArray,.agg (acf y).toArray] W λe w'=>e=.returned (.int .i64 (akh x y))/\G2 W w':=arz (x.1,x.2.1,x.2.2.1) (y.1,y.2.1,y.2.2.1) W
theorem call517(iK off cap)(l l')(w:World)(h:uv l=some l')(hH:HoldsK acf 3 w iK off l.toArray)(hblk:iK<w.heap.size):
 Calls Tryz.prog 517 #[.slice (some ⟨iK,off,none⟩) l.length cap,.func (.func 518) #[] #[]] w λe w'=>e=.returned (.tuple #[])/\∃n os,w'=sortWorldK acf 3 w iK off n l'.toArray os:=by
 obtain⟨h1,h2,rfl⟩:=PU h;have hh:=AnyQ.slices_SortFunc Tryz.atS 3 (λw=>by kernel_rfl) (λw=>by kernel_rfl) acf (λ_=>rfl) atQ akh a0o 518 #[] iK off cap l.toArray w (enters_of Tryz.func518 (by kernel_rfl) rfl) (λ_ _ _ _ x y=>anq x y _) hH hblk (by simpa using h1);simp only[fk]at hh;refine hh.mono λ_ _ ⟨he,d',n,os,hp,hs,hw⟩=>⟨he,n,os,?_⟩
 rw[hw];congr 1;obtain⟨hsz,_,Mx⟩:=hp;have a0p:d'.size=l.length:=by simpa using hsz
 have e1:d'.extract 0 l.length=d':=by rw[<-a0p];exact Array.extract_size
 have e2:l.toArray.extract 0 l.length=l.toArray:=by simp
 rw[e1,e2]at Mx
 have:=ar0 ((Te l).1 h2) (l':=d'.toList) Mx (by
  rw[bN];intro i j hi hj hij;have Tf:i<d'.size:=by simpa using hi
  have hj':j<d'.size:=by simpa using hj
  have:=hs i j (bE _) hij (by omega);rw[l6 d' j hj',l6 d' i Tf,anp]at this;rw[Iy,Array.getElem_toList,Array.getElem_toList];omega)
 rw[<-this]
def acg:KC Tryz.prog:=⟨517,λ_=>.mu ⟨550,tQ0,[.fn 518 []],λl _=>uv l⟩,ahB (enc:=acf) (λ_=>rfl) atQ (λU w x us=>by
 simp only[DT.h];constructor
 .rintro⟨us1,us2,rfl,rfl,us3,us4,rfl,rfl,us5,us6,rfl,rfl,rfl⟩;rfl
 .rintro rfl;exact⟨_,_,rfl,rfl,_,_,rfl,rfl,_,_,rfl,rfl,rfl⟩) (λl l' h=>by rw[(PU h).2.2];exact(uw l).length_eq) ⟨_,Tryz.func517,by decide +kernel,rfl⟩ (by decide +kernel)
 (λp cap w=>AnyF.slices_SortFunc_none Tryz.atS p cap _ w)
 (λiK off cap l l' w h hH hb=>by have h0:tQ0.size=3:=rfl;rw[h0]at hH ⊢;have:=call517 iK off cap l l' w h hH hb;exact this)⟩
def Tryz.afi:Go.Shelf.Ren:=⟨λ|4=>446|n=>n,λ|22=>31|25=>94|3=>3|4=>4|9=>9|20=>20|0=>0|n=>n,λn=>n⟩
theorem Tryz.anc:Lays8.n4 Tryz.prog Tryz.afi where
 mixed:=by kernel_rfl
 f4:=⟨Tryz.f446.name,by decide +kernel,Tryz.func446.trans (bA some (by kernel_rfl))⟩
 t0:=Tryz.underlying0
 a0:=Tryz.isAgg0
 z0:=Tryz.sizeOf0
 v0:=Tryz.zeroValue0
 t3:=Tryz.underlying3
 a3:=Tryz.isAgg3
 z3:=Tryz.sizeOf3
 v3:=Tryz.zeroValue3
 t4:=Tryz.underlying4
 a4:=Tryz.isAgg4
 z4:=Tryz.sizeOf4
 v4:=Tryz.zeroValue4
 t9:=Tryz.underlying9
 a9:=Tryz.isAgg9
 z9:=Tryz.sizeOf9
 v9:=Tryz.zeroValue9
 t20:=Tryz.underlying20
 a20:=Tryz.isAgg20
 z20:=Tryz.sizeOf20
 v20:=Tryz.zeroValue20
 t22:=Tryz.underlying31
 a22:=Tryz.isAgg31
 z22:=Tryz.sizeOf31
 v22:=Tryz.zeroValue31
open Go.Lib
theorem art{l}{n}{o}(h:Mw l n=some o):∃k:Nat,n=k/\(l.length+k)*24<=140737488355328/\o=(l,()):=by
 unfold Mw at h;rcases yN h with⟨hc,h⟩|⟨_,h⟩
 .simp only[aB,bb]at hc;have h9:=cJ h;obtain⟨k,rfl⟩:=cS hc.1;exact⟨k,rfl,by omega,h9.symm⟩
 .cases h
theorem ane:Ha Tryz.prog 31 94 3 24:=qQ (by kernel_rfl) (by kernel_rfl) (by decide)
theorem S7:qj Tryz.prog 446:=⟨_,Tryz.func446,by decide +kernel,rfl⟩
theorem aru:J7 Tryz.prog 446 ⟨[],[.row 94 tF0,.v (.int .i64)],[],.own 94 tF0,λz=>Mw z.1 z.2.1⟩:=by
 rintro⟨l,n,⟨⟩⟩ o ho U0 B A vs w m hv;obtain⟨n,rfl,hbig,rfl⟩:=art (show Mw l n=some o from ho);have hv:=hv;have m:=m;show nz Tryz.prog 446 vs.toArray w λv w'=>∃B' A' r pb' rw',Mem w U0 (Ow B A [] [.own 94 tF0 l]) B' A' pb' rw' w'/\r.h (env U0 B' A' pb' rw' w') v/\(∀i,live [] i->live pb' i/\B' i=B i)/\pb'=[]/\(r,rw')=(DV.row 0,[DR.own 94 tF0 l])
 simp only[hL,DV.h]at hv;obtain⟨_,_,rfl,⟨e,t,l2,hj2,rfl⟩,_,_,rfl,rfl,rfl⟩:=hv;have hj2:some (DR.own 94 tF0 l)=some (.own e t l2):=hj2;simp only[ak,DR.own.injEq]at hj2;obtain⟨rfl,rfl,hl2⟩:=hj2;cases hl2;obtain⟨us,ho,hxs⟩:=m.row 0 94 tF0 l rfl;change nz Tryz.prog 446 #[Value.slice (A 0).1 l.length (A 0).2,_] w _;have hoo:=ho;obtain⟨hxl,ho⟩:=ho;have hxl:us.length=l.length*3:=hxl;obtain⟨i0,z,hi0,hz0,hs1,hby,hzs⟩:=ane.info
 have Y3:∃cs:List Value,cs.length=(A 0).2*3/\((A 0).1=none->(A 0).2=0)/\(∀a,(A 0).1=some a->∀j v,cs[j]?=some v->w.cell? (a.add j)=some v)/\cs.take (l.length*3)=us/\l.length<=(A 0).2/\(A 0).2<=maxLen:=by
  rcases ho with⟨hn,hx⟩|⟨g,cap,cur,heq,hbase,hg,hn1,hn2,hn3,hn4⟩
  .simp only[dh]at hn;obtain⟨e1,e2,e3⟩:=hn;have hu0:=dK.1 (by rw[hxl,e2]);exact⟨[],by rw[e3];rfl,λ_=>e3,λa _ j v h=>by simp at h,by rw[hu0];simp,by omega,by rw[e3];exact bE _⟩
  .simp only[dh]at heq;obtain⟨e1,_,e3⟩:=heq;refine⟨cur.toList,by rw[fC,e3];exact hn3,λh=>(by rw[e1]at h;cases h),λa ha j v hv=>?_,hn4,by rw[e3];exact hn1,by rw[e3];exact hn2⟩;rw[e1]at ha;simp only[ak]at ha;subst ha;rw[sQ,cg,Df w g j cur 94 (0,0) hg];simpa using hv
 obtain⟨cs,c1,c2,c3,c4,c5,c6⟩:=Y3;by_cases hroom:l.length+n<=(A 0).2
 .refine⟨.inl ⟨S7,(Any8.slices_Grow_room Tryz.anc (A 0).1 l.length (A 0).2 n w c5 (by rw[ic]at c6;exact c6) (by omega) hroom).mono λe w' ⟨he,hw⟩=>⟨_,he,?_⟩⟩⟩;subst hw;exact Bl m ⟨rfl,rfl,rfl,au _⟩ (λ_ _ _=>rfl) (λx hx=>.inl ⟨x,hx,rfl⟩) λU' lt=>⟨us,hoo,DT.kw lt hxs⟩
 .refine⟨.inl ⟨S7,(Any8.slices_Grow_grow Tryz.anc i0 z hi0 hz0 (by rw[hs1];decide) (A 0).1 l.length (A 0).2 n cs w c5 (by omega) (by rw[hby];omega) (by omega) (by rw[hs1];exact c1) c2 c3).mono λe w' ⟨he,hw⟩=>⟨_,he,?_⟩⟩⟩;subst hw;have hg1:=Dg w (l.length+n) (A 0).2 94;have hg2:=qy w (l.length+n) (A 0).2 94 (by rw[ic];omega);refine Bl m ⟨rfl,rfl,rfl,by simp⟩ (λb hb _=>Iv w.drew _ b hb) (λx hx=>.inr (by simp only[ak]at hx;subst hx;exact⟨au _,by simp⟩)) λU' lt=>⟨us,ars (kM w.drew _) ?_ (λt u ht=>?_) hxl (cp (Nat.le_add_right _ _) hg1) hg2,DT.kw lt hxs⟩
  .have e9:∀G c m:Nat,m<=G->c<=m->c+(m-c)+(G-m)=G:=λG c m h1 h2=>by omega
   have:=e9 (grownCap w (l.length+n) (A 0).2 94) (A 0).2 (l.length+n) hg1 (by omega);rw[iW,iW,size_zeroCells,size_zeroCells,hzs,fk,c1,<-im,<-im];exact bA (· * 3) this
  .rw[si (w:=w.drew) _ _ w.heap.size t rfl]
   have h1:cs[t]?=some u:=by
    rw[<-c4,ct]at ht;split at ht
    .exact ht
    .cases ht
   have h2:=(ay.1 h1).1;rw[nf (by rw[iW,fk];omega),nf (by rw[fk];exact h2)];simpa using h1
def avA:KC Tryz.prog:=⟨446,λ_=>.ls ⟨[],[.row 94 tF0,.v (.int .i64)],[],.own 94 tF0,λz=>Mw z.1 z.2.1⟩,aru⟩
end Go.Proofs.YthghpahghjppjaaGreat
namespace Go.Vc
open Go Go.RowKit Go.Lib
theorem qR(b)(vs)(o:Nat)(w:World)(h:∀j,j<vs.length->(w.cell? ⟨b,o+j,none⟩).isSome=true)(k:Nat)(hk:(w.cell? ⟨b,k,none⟩).isSome=true):((w.setCells b o vs).cell? ⟨b,k,none⟩).isSome=true:=by
 by_cases hin:o<=k/\k<o+vs.length
 .have:=gq b vs o w h (k-o) (by omega);rw[show o+(k-o)=k by omega]at this;rw[this];rfl
 .rw[cV b vs o w ⟨b,k,none⟩ (λ_ _=>by dsimp only;omega)];exact hk
theorem Gd{P}(w)(t e ty)(z)(ht:P.underlying t=some (.slice e))(hv:∀w,(zeroValue e).run P w=.ok z w)(b o n c)(hn:0<n)
 (hc:∀j,j<(Builtin.zeroCells z.cells n).toList.length->(w.cell? ⟨b,o+j,none⟩).isSome=true) (hf:∀j,j<(Builtin.zeroCells z.cells n).toList.length->w.frozen? ⟨b,o+j,none⟩=false) (h1:∀v∈(Builtin.zeroCells z.cells n).toList,v.oneCell'=true):
 (Builtin.clear_ #[t] ty #[.slice (some ⟨b,o,none⟩) n c]).run P w=.ok (.tuple #[]) (w.setCells b o (Builtin.zeroCells z.cells n).toList):=by
 have NY:=zo (P:=P) b o (Builtin.zeroCells z.cells n).toList 0 w (by simpa using hc) (by simpa using hf) h1;simp only[gY]at NY;obtain⟨m,rfl⟩:∃m,n=m+1:=⟨n-1,by omega⟩;simp[Builtin.clear_,bj ht,hv,NY]
end Go.Vc
namespace Go.Vc
open Go Go.RowKit Go.Lib
theorem OC{P}(w)(tS tR e)(ht:P.underlying tS=some (.slice e))(size)(hz:∀w,(Go.sizeOf e).run P w=.ok size w)
 (a b) (la ca lb cb) (hne:a.block≠b.block) (u) (j) (hc:w.cell? (a.add j)=some u) (cur) (eb) (hb:w.heap[b.block]?=some (.cells cur eb (0,0))):
 (Extern.SlicesOverlaps.overlaps #[tS,tS] #[tR] #[.slice (some a) la ca,.slice (some b) lb cb]).run P w=.ok (.bool false) w:=by
 have Xe:(a.block != b.block)=true:=by simpa using hne
 have a0f:(a.block==b.block)=false:=by simpa using hne
 obtain⟨ca',ea,fa,ha,h0⟩:∃ca' ea fa,w.heap[a.block]?=some (.cells ca' ea fa)/\0<ca'.size:=by
  unfold World.cell? at hc;rw[jH]at hc;split at hc
  .rename_i c e f h;refine⟨c,e,f,h,?_⟩;split at hc
   .cases hc
   .have:=(cq.1 hc).1; omega
  .cases hc
 have hsa:w.shape? a.block=some (ea,ca'.size):=by simp[World.shape?,ha]
 have hsb:w.shape? b.block=some (eb,cur.size):=by simp[World.shape?,hb]
 have hfb:w.frozen? b=false:=by simp[World.frozen?,hb]
 have a0g:w.frozen? { block:=b.block,off:=cur.size }=false:=by simp[World.frozen?,hb]
 change Sem.run P (α:=Value) (do
  let some t:=(#[tS,tS]:Array TypeId)[0]? | stuck "slices.overlaps: no parameter types"
  let .slice elem <-underlying t|stuck "slices.overlaps: slice type expected"
  let size <-sizeOf elem
  match (some a:Option Addr),(some b:Option Addr) with
  |some a,some b=>
   if la=0\/lb=0\/size=0 then pure (Value.bool false)
   else if a.block != b.block&&(<-frozen a)&&(<-frozen b) then unsupported .addressObserved
   else do
    if a.block != b.block then do
     noView a; noView b
     if <-mayBeOne a b then return Value.bool ((<-choose (.extern "sameAddr.stringBytes" 2))==1)
    pure (Value.bool (a.block==b.block&&a.off<b.off+lb*size&&b.off<a.off+la*size))
  |_,_=>pure (Value.bool false)) w=_
 by_cases h0':la=0\/lb=0\/size=0
 .simp[bj ht,hz,h0']
 .obtain⟨k,hk⟩:∃k,ca'.size=k+1:=⟨ca'.size - 1,by omega⟩;rw[hk]at hsa;cases hfa:w.frozen? a<;>cases a0h:w.frozen? { block:=a.block,off:=k+1 }<;>simp[bj ht,hz,h0',Xe,a0f,frozen,noView,viewAt,mayBeOne,stringish,shape,Sem.run,hsa,hsb,hfa,hfb,a0h,a0g]
theorem yg{P}(w)(dT sT ty elem)(i0)(b o axV a0i)(a)(axW a0j)(cs)
 (hu:P.underlying dT=some (.slice elem)) (hs:P.info? elem=some i0) (m) (hm:m=Nat.min axW axV) (hn:cs.length=m*i0.size)
 (hsrc:∀j v,cs[j]?=some v->w.cell? (a.add j)=some v) (hc:∀j,j<cs.length->(w.cell? ⟨b,o+j,none⟩).isSome=true) (hf:∀j,j<cs.length->w.frozen? ⟨b,o+j,none⟩=false) (h1:∀v∈cs,v.oneCell'=true):
 (Builtin.copy_ #[dT,sT] ty #[.slice (some ⟨b,o,none⟩) axV a0i,.slice (some a) axW a0j]).run P w=.ok (goInt m) (w.setCells b o cs):=by
 have hl:=run_loadCells_list (P:=P) w a cs hsrc;have NY:=zo (P:=P) b o cs 0 w (by simpa using hc) (by simpa using hf) h1;subst hm;simp[Builtin.copy_,bj hu,Builtin.lenOf,Builtin.firstCells,sizeOf,typeInfo,hs,<-hn,hl,NY]
end Go.Vc
namespace Go.Vc
open Go Go.RowKit Go.Lib
theorem Y4(w:World){P:Program}{o:Oper}{a:Act}{K:Act->World->Prop}{Q:Exit->Act->World->Prop}(d s:Operand)(t t':TypeId)
 (ho:o.op=.call { callee:=.builtin .copy,args := #[d,s],argTypes := #[t,t'] }) (v u:Value) (hd:a.eval d=v) (hs:a.eval s=u) {v':Value} {w':World}
 (hr:(Builtin.copy_ #[t,t'] o.type #[v,u]).run P w=.ok v' w') (h:K (a.put o.dst v') w'):o.wp P a w K Q:=by
 unfold Oper.wp execOp;simp only[ho,resolve,invoke,builtin,aP,bG,bn,List.map_toArray,bK,oF,hd,hs,hr];exact h
theorem xw(w:World){P:Program}{ops:Array Oper}{rest:List Oper}{o:Oper}{a:Act}{Q:Exit->Act->World->Prop}(hgd:o.guard=none)(d s:Operand)(t t':TypeId)
 (ho:o.op=.call { callee:=.builtin .copy,args := #[d,s],argTypes := #[t,t'] }) (v u:Value) (hd:a.eval d=v) (hs:a.eval s=u) {v':Value} {w':World}
 (hr:(Builtin.copy_ #[t,t'] o.type #[v,u]).run P w=.ok v' w') (h:wpList P ops Q rest (a.put o.dst v') w'):wpList P ops Q (o::rest) a w:=
 wpList_plain hgd λ_ hK=>Y4 w d s t t' ho v u hd hs hr (hK _ _ h)
theorem Hc{P}{ops}{o}{a}{w}{K}{Q}{E:Prop}
 (hg:o.guard=none) (d x:Operand) (dT sT:TypeId) (hop:o.op=Op.call { callee:=Callee.builtin Builtin.copy,args := #[d,x],argTypes := #[dT,sT] })
 (v u:Value) (hd:a.eval d=v) (hx:a.eval x=u) {v':Value} {w':World} (hr:(Builtin.copy_ #[dT,sT] o.type #[v,u]).run P w=.ok v' w') (hK:K (a.put o.dst v') w'):
 if Region.wanted o (yielded ops a.tmps)=true then Oper.wp P o a w K Q else E:=by
 have hw:Region.wanted o (yielded ops a.tmps)=true:=by simp[Region.wanted,hg]
 rw[ah hw];unfold Oper.wp;simp[execOp,hop,resolve,invoke,builtin,hd,hx,hr,Result.andThen];exact hK
end Go.Vc
namespace Go.Vc
open Go Go.RowKit Go.Lib
theorem OE{W:World}{g i k n:Nat}{us vs:List Value}(hu:us.length=n*k)(hv:vs.length=k)(hi:i<=n)
 (hA:∀t u,t<i*k->us[t]?=some u->W.cell? ⟨g,t,none⟩=some u) (hB:∀t u,vs[t]?=some u->W.cell? ⟨g,i*k+t,none⟩=some u)
 (hC:∀t u,(us.drop (i*k))[t]?=some u->W.cell? ⟨g,(i+1)*k+t,none⟩=some u):
 ∀t u,(us.take (i*k)++(vs++us.drop (i*k)))[t]?=some u->W.cell? ⟨g,t,none⟩=some u:=by
 intro t u ht;have hik:=dL k hi;have htl:(us.take (i*k)).length=i*k:=by rw[aX,hu];omega
 by_cases h1:t<i*k
 .rw[bB (by omega),dx h1]at ht;exact hA t u h1 ht
 .rw[dz (by omega),htl]at ht;by_cases h2:t-i*k<vs.length
  .rw[bB h2]at ht;have:=hB _ u ht
   rwa [show i*k+(t-i*k)=t by omega]at this
  .rw[dz (by omega)]at ht;have:=hC _ u ht;rw[im,Dc,hv]at this
   rwa [show i*k+k+(t-i*k-k)=t by omega]at this
theorem RP{k}{e}{t}(hk:t.size=k){l}{x:t.den}{U0}{B}{A:zx}{w w':World}{g c' i:Nat}{us vs:List Value}{cur:Array Value}
 (m:Mem w U0 (Ow B A [] [.own e t l]) B A [] [.own e t l] w) (hus:t.hs (Us U0 B A [] [.own e t l]) w l us) (hvs:t.h (Us U0 B A [] [.own e t l]) w x vs) (hi:i<=l.length)
 (e1:w'.os=w.os) (e2:w'.tape=w.tape) (e3:w'.output=w.output) (e4:w.heap.size<=w'.heap.size) (e5:∀b,b<w.heap.size->(∀ad,(A 0).1=some ad->ad.block≠b)->w'.heap[b]?=w.heap[b]?) (e6:w.heap.size<=g\/∃ad,(A 0).1=some ad/\ad.block=g)
 (hg:w'.heap[g]?=some (.cells cur e (0,0))) (hs:cur.size=c'*k) (hc:∀n u,(us.take (i*k)++(vs++us.drop (i*k)))[n]?=some u->w'.cell? ⟨g,n,none⟩=some u) (hn:l.length+1<=c') (hm:c'<=maxLen):
 ∃B' A' r pb' rw',Mem w U0 (Ow B A [] [.own e t l]) B' A' pb' rw' w'/\r.h (env U0 B' A' pb' rw' w') (.slice (some ⟨g,0,none⟩) (l.length+1) c')/\(∀i,live [] i->live pb' i/\B' i=B i)/\pb'=[]/\(r,rw')=(DV.row 0,[DR.own e t (l.take i++x::l.drop i)]):=by
 subst hk;have hel:(l.take i++x::l.drop i).length=l.length+1:=by rw[ap,aJ,aX,dk];omega
 have hul:=hus.1;have hvl:=t.Bn hvs;rw[<-hel];refine Bl m ⟨e1,e2,e3,e4⟩ e5 (λy hy=>?_) λU' lt=>?_
 .simp only[ak]at hy;subst hy;rcases e6 with h|h
  .exact .inr ⟨h,(cq.1 hg).1⟩
  .exact .inl h
 .have hik:=dL t.size hi;refine⟨us.take (i*t.size)++(vs++us.drop (i*t.size)),ars hg hs hc ?_ (by omega) hm,?_⟩
  .rw[ap,ap,aX,dk,hul,hvl,hel,l5];omega
  .have h2:=DT.Du (DT.Mv (DT.kw lt hus) hi) (DT.Du (DT.Y5 (t.mono lt hvs)) (DT.YU (DT.kw lt hus) i));simpa using h2
theorem avB{α}{by_}{l}{i}{v}{o}(h:Go.Proofs.YthghpahghjppjaaGreat.JW by_ l i v=some o):∃(a:Nat) (x:α),i=a/\v=[x]/\a<=l.length/\(l.length+1)*by_<=140737488355328/\o=(l.take a++x::l.drop a,()):=by
 unfold Go.Proofs.YthghpahghjppjaaGreat.JW at h;rcases yN h with⟨hc,h⟩|⟨_,h⟩
 .simp only[aB,bb]at hc;obtain⟨⟨h0,h1⟩,h2⟩:=hc;obtain⟨a,rfl⟩:=cS h0;split at h
  .rename_i x _;have h:=cJ h;exact⟨a,x,rfl,rfl,by omega,bQ h2,by rw[<-h];rfl⟩
  .cases h
 .cases h
end Go.Vc




namespace Go.Proofs.YthghpahghjppjaaGreat
open Go Go.Vc Go.RowKit Go.Lib Go.Sort Go.Proofs
set_option maxHeartbeats 4000000
set_option maxRecDepth 1000000
theorem OB:Ha Tryz.prog 30 104 3 40:=qQ (by kernel_rfl) (by kernel_rfl) (by decide)
theorem SY:Tryz.prog.underlying 30=some (.slice 104):=by kernel_rfl
def Bm:Value:=.agg #[.int .i64 0,.int .i64 0,.slice none 0 0]
theorem ana(w):(zeroValue 104).run Tryz.prog w=.ok Bm w:=by kernel_rfl
theorem SZ(n):(Builtin.zeroCells Bm.cells n).toList.length=n*3:=by simp[Bm,Builtin.zeroCells,Value.cells]
theorem S5(n):∀v∈(Builtin.zeroCells Bm.cells n).toList,v.oneCell'=true:=by
 intro v hv;simp only[Bm,Builtin.zeroCells,Value.cells,Array.toList_map,aN]at hv;obtain⟨k,_,rfl⟩:=hv;have:k % 3=0\/k % 3=1\/k % 3=2:=by omega
 rcases this with h|h|h<;>simp[h]<;>rfl
theorem YW (g n c i j : Nat) (us : List Value) (w : World) (hl : us.length = n * 3) (hc : ∀ t u, us[t]? = some u -> w.cell? ⟨g, t, none⟩ = some u) (h1 : ∀ u ∈ us, u.oneCell' = true)
    (hf : ∀ t, w.frozen? ⟨g, t, none⟩ = false) (hij : i < j) (hj : j <= n) (hn : n <= c) (hm : c <= 9223372036854775807) :
    Calls Tryz.prog 428 #[.slice (some ⟨g, 0, none⟩) n c, .int .i64 i, .int .i64 j] w λe w' => e = .returned (.slice (some ⟨g, 0, none⟩) (i + (n - j)) c) /\
      w' = (w.drew.setCells g (0 + i * 3) (us.drop (j * 3))).setCells g ((i + (n - j)) * 3) (Builtin.zeroCells Bm.cells (n - (i + (n - j)))).toList := by
  obtain ⟨i0, z0, hi0, hz0, hz1, hby, hzs⟩ := OB.info
  have hlen : (us.drop (j * 3)).length = (n - j) * 3 := by rw [dk, hl, qc]
  obtain ⟨news, hnews⟩ : ∃ news, news = us.drop (j * 3) := ⟨_, rfl⟩
  rw [<- hnews] at hlen ⊢
  have hget : ∀ t u, news[t]? = some u -> w.cell? ⟨g, j * 3 + t, none⟩ = some u := λt u h => hc _ _ (by rw [hnews, cF] at h; exact h)
  obtain ⟨A, hA, hsrc⟩ : ∃ A : Addr, (if c = j then some (⟨g, 0, none⟩ : Addr) else some ⟨g, j * 3, none⟩) = some A /\ Hid (∀ t u, news[t]? = some u -> w.drew.cell? (A.add t) = some u) := by
    by_cases h : c = j
    · refine ⟨⟨g, 0, none⟩, by simp [h], λt u hu => ?_⟩
      have h0 : news.length = 0 := by rw [hlen]; have : n - j = 0 := by omega
                                      rw [this, oE]
      rw [dK.1 h0] at hu
      simp at hu
    · refine ⟨⟨g, j * 3, none⟩, by simp [h], λt u hu => ?_⟩
      rw [sQ]
      exact hget t u hu
  have s1 : Hid (news.length = (n - j) * 3) := hlen
  have s2 : Hid (∀ u ∈ news, u.oneCell' = true) := λu hu => h1 u (by rw [hnews] at hu; exact jt hu)
  have hall : ∀ t, t < n * 3 -> (w.cell? ⟨g, t, none⟩).isSome = true := λt ht => by rw [hc t _ (aw (by omega))]; rfl
  have s3 : Hid (∀ t, t < news.length -> (w.drew.cell? ⟨g, 0 + i * 3 + t, none⟩).isSome = true /\ w.drew.frozen? ⟨g, 0 + i * 3 + t, none⟩ = false) := λt ht => ⟨hall _ (by omega), hf _⟩
  obtain ⟨W1, hW1⟩ : ∃ W1, W1 = w.drew.setCells g (0 + i * 3) news := ⟨_, rfl⟩
  have hs1 : ∀ t, t < n * 3 -> (W1.cell? ⟨g, t, none⟩).isSome = true := λt ht => by
    rw [hW1]
    exact qR g news (0 + i * 3) w.drew (λt ht => hall _ (by omega)) _ (hall t ht)
  have hf1 : ∀ t, W1.frozen? ⟨g, t, none⟩ = false := λt => by rw [hW1, qx]; exact hf t
  have hcl : ∀ ty, (Builtin.clear_ #[30] ty #[.slice (some ⟨g, (i + (n - j)) * 3, none⟩) (n - (i + (n - j))) (c - (i + (n - j)))]).run Tryz.prog W1 = .ok (.tuple #[]) (W1.setCells g ((i + (n - j)) * 3) (Builtin.zeroCells Bm.cells (n - (i + (n - j)))).toList) := λty => by
    have := Gd W1 30 104 ty Bm SY ana g ((i + (n - j)) * 3) (n - (i + (n - j))) (c - (i + (n - j))) (by omega) (λt ht => hs1 _ (by rw [SZ] at ht; omega)) (λt _ => hf1 _) (S5 _)
    exact this
  obtain ⟨W2, hW2⟩ : ∃ W2, W2 = W1.setCells g ((i + (n - j)) * 3) (Builtin.zeroCells Bm.cells (n - (i + (n - j)))).toList := ⟨_, rfl⟩
  have X : Hid (W1 = w.drew.setCells g (0 + i * 3) news) := hW1
  have mixed := YV
  have hic : i <= c := by omega
  have hjc : j <= c := by omega
  rw [<- hW1, <- hW2]
  rw [<- hW2] at hcl
  clear hW1 hW2 hs1 hf1 hall hget hnews hlen hc hf h1 hl
  go_enter Tryz.func428, Tryz.ntmps428
  go_wp2_with fail
  go_region_law_o (refine step_append_room rfl (.tmp 22) (.tmp 25) 30 rfl 104 i0 3 SY hi0 hz1 g 0 i c (by simp [Act.eval, Act.put]) A (n - j) (c - j) news (by simp [Act.eval, Act.put]) s1.out hsrc.out s2.out (by omega) s3.out ?_; rw [<- X.out])
  go_wp2
  go_ret
  exact ⟨rfl, rfl⟩
theorem J6:qj Tryz.prog 428:=⟨_,Tryz.func428,by decide +kernel,rfl⟩
theorem AG{v:Value}(h:vA v=true):v.oneCell'=true:=(rJ h).2
theorem YZ:J7 Tryz.prog 428 ⟨[],[.row 104 Y0,.v (.int .i64),.v (.int .i64)],[],.own 104 Y0,λz=>Er z.1 z.2.1 z.2.2.1⟩:=by
 rintro⟨l,i,j,⟨⟩⟩ o ho U0 B A vs w m hv;obtain⟨i,j,rfl,rfl,hij,hj,rfl⟩:=anb (show VC l i j=some o from ho);have hv:=hv;have m:=m;show nz Tryz.prog 428 vs.toArray w λv w'=>∃B' A' r pb' rw',Mem w U0 (Ow B A [] [.own 104 Y0 l]) B' A' pb' rw' w'/\r.h (env U0 B' A' pb' rw' w') v/\(∀i,live [] i->live pb' i/\B' i=B i)/\pb'=[]/\(r,rw')=(DV.row 0,[DR.own 104 Y0 (l.take i++l.drop j)])
 simp only[hL,DV.h]at hv;obtain⟨_,_,rfl,⟨e,t,l2,hj2,rfl⟩,_,_,rfl,rfl,_,_,rfl,rfl,rfl⟩:=hv;have hj2:some (DR.own 104 Y0 l)=some (.own e t l2):=hj2;simp only[ak,DR.own.injEq]at hj2;obtain⟨rfl,rfl,hl2⟩:=hj2;cases hl2;obtain⟨us,⟨hxl,ho⟩,hxs⟩:=m.row 0 104 Y0 l rfl;rcases ho with⟨hn,hx⟩|⟨g,cap,cur,heq,hbase,hg,hn1,hn2,hn3,hn4⟩
 .simp only[dh]at hn;omega
 simp only[dh]at heq;obtain⟨hA0,_,hc⟩:=heq;have hxl:us.length=l.length*3:=hxl;have hn3:cur.size=cap*3:=hn3;have hn4:=hn4;have hcc:=amZ hg hn4;have h1:∀u∈us,u.oneCell'=true:=λu hu=>AG (DT.Ep hxs u hu)
 have hf:∀t,w.frozen? ⟨g,t,none⟩=false:=λt=>by simp[World.frozen?,hg]
 have hm:cap<=9223372036854775807:=by rw[ic]at hn2;exact hn2
 change nz Tryz.prog 428 #[Value.slice (A 0).1 l.length (A 0).2,_,_] w _;rw[hA0,hc];refine⟨.inl ⟨J6,(YW g l.length cap i j us w hxl hcc h1 hf hij hj hn1 hm).mono λe w' ⟨he,hw⟩=>⟨_,he,?_⟩⟩⟩;obtain⟨cur1,hg1,hs1⟩:=Aj (o:=0+i*3) (vs:=us.drop (j*3)) (w:=w.drew) hg;obtain⟨cur2,hg2,hs2⟩:=Aj (o:=(i+(l.length-j))*3) (vs:=(Builtin.zeroCells Bm.cells (l.length-(i+(l.length-j)))).toList) hg1;obtain⟨a1,a2,a3,a4⟩:=sw g (0+i*3) (us.drop (j*3)) w.drew;obtain⟨b1,b2,b3,b4⟩:=sw g ((i+(l.length-j))*3) (Builtin.zeroCells Bm.cells (l.length-(i+(l.length-j)))).toList (w.drew.setCells g (0+i*3) (us.drop (j*3)));have hel:(l.take i++l.drop j).length=i+(l.length-j):=by rw[ap,aX,dk];omega
 rw[<-hel];subst hw;refine Bl m ⟨b1.trans a1,b2.trans a2,b3.trans a3,by rw[b4,a4];exact au _⟩ (λb hb hn=>?_) (λx hx=>?_) λU' lt=>?_
 .have hne:b≠g:=λh=>hn _ hA0 h.symm
  rw[Ai hne,Ai hne];rfl
 .simp only[ak]at hx;subst hx;exact .inl ⟨_,hA0,rfl⟩
 .have hdl:(us.drop (j*3)).length=(l.length-j)*3:=by rw[dk,hxl,qc]
  have htl:(us.take (i*3)).length=i*3:=by rw[aX,hxl];omega
  refine⟨us.take (i*3)++us.drop (j*3),ars hg2 (by rw[hs2,hs1,hn3];rfl) (λt u ht=>?_) (by rw[ap,htl,hdl,hel,<-im];rfl) (by omega) hn2,DT.Du (DT.Mv (DT.kw lt hxs) (by omega)) (DT.YU (DT.kw lt hxs) j)⟩;have hlen:t<i*3+(l.length-j)*3:=by have:=(ay.1 ht).1;rw[ap,htl,hdl]at this;exact this
  rw[cV g _ _ _ _ (λ_ _=>by dsimp only;omega)];by_cases h3:t<i*3
  .rw[bB (by omega),dx h3]at ht;rw[cV g _ _ _ _ (λ_ _=>by show t<0+i*3\/_;omega)];exact hcc t u ht
  .rw[dz (by omega),htl]at ht;have h4:t-i*3<(us.drop (j*3)).length:=by omega
   have:=gq g (us.drop (j*3)) (0+i*3) w.drew (λq hq=>by show(w.cell? _).isSome=true;rw[hcc _ _ (aw (by omega))];rfl) (t-i*3) h4;rw[show 0+i*3+(t-i*3)=t by omega]at this;rw[this,<-ht,aw h4]
def abV:KC Tryz.prog:=⟨428,λ_=>.ls ⟨[],[.row 104 Y0,.v (.int .i64),.v (.int .i64)],[],.own 104 Y0,λz=>Er z.1 z.2.1 z.2.2.1⟩,YZ⟩
end Go.Proofs.YthghpahghjppjaaGreat
namespace Go.Proofs.YthghpahghjppjaaGreat.Lot
open Go Go.Vc Go.RowKit Go.Lib Go.Sort Go.Proofs Go.Proofs.YthghpahghjppjaaGreat
set_option maxHeartbeats 4000000
set_option maxRecDepth 1000000
theorem OB:Ha Tryz.prog 54 92 3 24:=qQ (by kernel_rfl) (by kernel_rfl) (by decide)
theorem SY:Tryz.prog.underlying 54=some (.slice 92):=by kernel_rfl
def Bm:Value:=.agg #[.int .i64 0,.int .i64 0,.int .i64 0]
theorem ana(w):(zeroValue 92).run Tryz.prog w=.ok Bm w:=by kernel_rfl
theorem SZ(n):(Builtin.zeroCells Bm.cells n).toList.length=n*3:=by simp[Bm,Builtin.zeroCells,Value.cells]
theorem S5(n):∀v∈(Builtin.zeroCells Bm.cells n).toList,v.oneCell'=true:=by
 intro v hv;simp only[Bm,Builtin.zeroCells,Value.cells,Array.toList_map,aN]at hv;obtain⟨k,_,rfl⟩:=hv;have:k % 3=0\/k % 3=1\/k % 3=2:=by omega
 rcases this with h|h|h<;>simp[h]<;>rfl
theorem YW (g n c i j : Nat) (us : List Value) (w : World) (hl : us.length = n * 3) (hc : ∀ t u, us[t]? = some u -> w.cell? ⟨g, t, none⟩ = some u) (h1 : ∀ u ∈ us, u.oneCell' = true)
    (hf : ∀ t, w.frozen? ⟨g, t, none⟩ = false) (hij : i < j) (hj : j <= n) (hn : n <= c) (hm : c <= 9223372036854775807) :
    Calls Tryz.prog 452 #[.slice (some ⟨g, 0, none⟩) n c, .int .i64 i, .int .i64 j] w λe w' => e = .returned (.slice (some ⟨g, 0, none⟩) (i + (n - j)) c) /\
      w' = (w.drew.setCells g (0 + i * 3) (us.drop (j * 3))).setCells g ((i + (n - j)) * 3) (Builtin.zeroCells Bm.cells (n - (i + (n - j)))).toList := by
  obtain ⟨i0, z0, hi0, hz0, hz1, hby, hzs⟩ := OB.info
  have hlen : (us.drop (j * 3)).length = (n - j) * 3 := by rw [dk, hl, qc]
  obtain ⟨news, hnews⟩ : ∃ news, news = us.drop (j * 3) := ⟨_, rfl⟩
  rw [<- hnews] at hlen ⊢
  have hget : ∀ t u, news[t]? = some u -> w.cell? ⟨g, j * 3 + t, none⟩ = some u := λt u h => hc _ _ (by rw [hnews, cF] at h; exact h)
  obtain ⟨A, hA, hsrc⟩ : ∃ A : Addr, (if c = j then some (⟨g, 0, none⟩ : Addr) else some ⟨g, j * 3, none⟩) = some A /\ Hid (∀ t u, news[t]? = some u -> w.drew.cell? (A.add t) = some u) := by
    by_cases h : c = j
    · refine ⟨⟨g, 0, none⟩, by simp [h], λt u hu => ?_⟩
      have h0 : news.length = 0 := by rw [hlen]; have : n - j = 0 := by omega
                                      rw [this, oE]
      rw [dK.1 h0] at hu
      simp at hu
    · refine ⟨⟨g, j * 3, none⟩, by simp [h], λt u hu => ?_⟩
      rw [sQ]
      exact hget t u hu
  have s1 : Hid (news.length = (n - j) * 3) := hlen
  have s2 : Hid (∀ u ∈ news, u.oneCell' = true) := λu hu => h1 u (by rw [hnews] at hu; exact jt hu)
  have hall : ∀ t, t < n * 3 -> (w.cell? ⟨g, t, none⟩).isSome = true := λt ht => by rw [hc t _ (aw (by omega))]; rfl
  have s3 : Hid (∀ t, t < news.length -> (w.drew.cell? ⟨g, 0 + i * 3 + t, none⟩).isSome = true /\ w.drew.frozen? ⟨g, 0 + i * 3 + t, none⟩ = false) := λt ht => ⟨hall _ (by omega), hf _⟩
  obtain ⟨W1, hW1⟩ : ∃ W1, W1 = w.drew.setCells g (0 + i * 3) news := ⟨_, rfl⟩
  have hs1 : ∀ t, t < n * 3 -> (W1.cell? ⟨g, t, none⟩).isSome = true := λt ht => by
    rw [hW1]
    exact qR g news (0 + i * 3) w.drew (λt ht => hall _ (by omega)) _ (hall t ht)
  have hf1 : ∀ t, W1.frozen? ⟨g, t, none⟩ = false := λt => by rw [hW1, qx]; exact hf t
  have hcl : ∀ ty, (Builtin.clear_ #[54] ty #[.slice (some ⟨g, (i + (n - j)) * 3, none⟩) (n - (i + (n - j))) (c - (i + (n - j)))]).run Tryz.prog W1 = .ok (.tuple #[]) (W1.setCells g ((i + (n - j)) * 3) (Builtin.zeroCells Bm.cells (n - (i + (n - j)))).toList) := λty => by
    have := Gd W1 54 92 ty Bm SY ana g ((i + (n - j)) * 3) (n - (i + (n - j))) (c - (i + (n - j))) (by omega) (λt ht => hs1 _ (by rw [SZ] at ht; omega)) (λt _ => hf1 _) (S5 _)
    exact this
  obtain ⟨W2, hW2⟩ : ∃ W2, W2 = W1.setCells g ((i + (n - j)) * 3) (Builtin.zeroCells Bm.cells (n - (i + (n - j)))).toList := ⟨_, rfl⟩
  have X : Hid (W1 = w.drew.setCells g (0 + i * 3) news) := hW1
  have mixed := YV
  have hic : i <= c := by omega
  have hjc : j <= c := by omega
  rw [<- hW1, <- hW2]
  rw [<- hW2] at hcl
  clear hW1 hW2 hs1 hf1 hall hget hnews hlen hc hf h1 hl
  go_enter Tryz.func452, Tryz.ntmps452
  go_wp2_with fail
  go_region_law_o (refine step_append_room rfl (.tmp 22) (.tmp 25) 54 rfl 92 i0 3 SY hi0 hz1 g 0 i c (by simp [Act.eval, Act.put]) A (n - j) (c - j) news (by simp [Act.eval, Act.put]) s1.out hsrc.out s2.out (by omega) s3.out ?_; rw [<- X.out])
  go_wp2
  go_ret
  exact ⟨rfl, rfl⟩
theorem J6:qj Tryz.prog 452:=⟨_,Tryz.func452,by decide +kernel,rfl⟩
theorem AG{v:Value}(h:vA v=true):v.oneCell'=true:=(rJ h).2
theorem YX:J7 Tryz.prog 452 ⟨[],[.row 92 YY,.v (.int .i64),.v (.int .i64)],[],.own 92 YY,λz=>Ed z.1 z.2.1 z.2.2.1⟩:=by
 rintro⟨l,i,j,⟨⟩⟩ o ho U0 B A vs w m hv;obtain⟨i,j,rfl,rfl,hij,hj,rfl⟩:=anb (show VC l i j=some o from ho);have hv:=hv;have m:=m;show nz Tryz.prog 452 vs.toArray w λv w'=>∃B' A' r pb' rw',Mem w U0 (Ow B A [] [.own 92 YY l]) B' A' pb' rw' w'/\r.h (env U0 B' A' pb' rw' w') v/\(∀i,live [] i->live pb' i/\B' i=B i)/\pb'=[]/\(r,rw')=(DV.row 0,[DR.own 92 YY (l.take i++l.drop j)])
 simp only[hL,DV.h]at hv;obtain⟨_,_,rfl,⟨e,t,l2,hj2,rfl⟩,_,_,rfl,rfl,_,_,rfl,rfl,rfl⟩:=hv;have hj2:some (DR.own 92 YY l)=some (.own e t l2):=hj2;simp only[ak,DR.own.injEq]at hj2;obtain⟨rfl,rfl,hl2⟩:=hj2;cases hl2;obtain⟨us,⟨hxl,ho⟩,hxs⟩:=m.row 0 92 YY l rfl;rcases ho with⟨hn,hx⟩|⟨g,cap,cur,heq,hbase,hg,hn1,hn2,hn3,hn4⟩
 .simp only[dh]at hn;omega
 simp only[dh]at heq;obtain⟨hA0,_,hc⟩:=heq;have hxl:us.length=l.length*3:=hxl;have hn3:cur.size=cap*3:=hn3;have hn4:=hn4;have hcc:=amZ hg hn4;have h1:∀u∈us,u.oneCell'=true:=λu hu=>AG (DT.Ep hxs u hu)
 have hf:∀t,w.frozen? ⟨g,t,none⟩=false:=λt=>by simp[World.frozen?,hg]
 have hm:cap<=9223372036854775807:=by rw[ic]at hn2;exact hn2
 change nz Tryz.prog 452 #[Value.slice (A 0).1 l.length (A 0).2,_,_] w _;rw[hA0,hc];refine⟨.inl ⟨J6,(YW g l.length cap i j us w hxl hcc h1 hf hij hj hn1 hm).mono λe w' ⟨he,hw⟩=>⟨_,he,?_⟩⟩⟩;obtain⟨cur1,hg1,hs1⟩:=Aj (o:=0+i*3) (vs:=us.drop (j*3)) (w:=w.drew) hg;obtain⟨cur2,hg2,hs2⟩:=Aj (o:=(i+(l.length-j))*3) (vs:=(Builtin.zeroCells Bm.cells (l.length-(i+(l.length-j)))).toList) hg1;obtain⟨a1,a2,a3,a4⟩:=sw g (0+i*3) (us.drop (j*3)) w.drew;obtain⟨b1,b2,b3,b4⟩:=sw g ((i+(l.length-j))*3) (Builtin.zeroCells Bm.cells (l.length-(i+(l.length-j)))).toList (w.drew.setCells g (0+i*3) (us.drop (j*3)));have hel:(l.take i++l.drop j).length=i+(l.length-j):=by rw[ap,aX,dk];omega
 rw[<-hel];subst hw;refine Bl m ⟨b1.trans a1,b2.trans a2,b3.trans a3,by rw[b4,a4];exact au _⟩ (λb hb hn=>?_) (λx hx=>?_) λU' lt=>?_
 .have hne:b≠g:=λh=>hn _ hA0 h.symm
  rw[Ai hne,Ai hne];rfl
 .simp only[ak]at hx;subst hx;exact .inl ⟨_,hA0,rfl⟩
 .have hdl:(us.drop (j*3)).length=(l.length-j)*3:=by rw[dk,hxl,qc]
  have htl:(us.take (i*3)).length=i*3:=by rw[aX,hxl];omega
  refine⟨us.take (i*3)++us.drop (j*3),ars hg2 (by rw[hs2,hs1,hn3];rfl) (λt u ht=>?_) (by rw[ap,htl,hdl,hel,<-im];rfl) (by omega) hn2,DT.Du (DT.Mv (DT.kw lt hxs) (by omega)) (DT.YU (DT.kw lt hxs) j)⟩;have hlen:t<i*3+(l.length-j)*3:=by have:=(ay.1 ht).1;rw[ap,htl,hdl]at this;exact this
  rw[cV g _ _ _ _ (λ_ _=>by dsimp only;omega)];by_cases h3:t<i*3
  .rw[bB (by omega),dx h3]at ht;rw[cV g _ _ _ _ (λ_ _=>by show t<0+i*3\/_;omega)];exact hcc t u ht
  .rw[dz (by omega),htl]at ht;have h4:t-i*3<(us.drop (j*3)).length:=by omega
   have:=gq g (us.drop (j*3)) (0+i*3) w.drew (λq hq=>by show(w.cell? _).isSome=true;rw[hcc _ _ (aw (by omega))];rfl) (t-i*3) h4;rw[show 0+i*3+(t-i*3)=t by omega]at this;rw[this,<-ht,aw h4]
def abU:KC Tryz.prog:=⟨452,λ_=>.ls ⟨[],[.row 92 YY,.v (.int .i64),.v (.int .i64)],[],.own 92 YY,λz=>Ed z.1 z.2.1 z.2.2.1⟩,YX⟩
end Go.Proofs.YthghpahghjppjaaGreat.Lot