import Derived.Test.YthghpahghjppjaaGreatB9
import Derived.Test.YthghpahghjppjaaGreatProg
import Derived.Shelf.SlSortCmp.WholeK
import Derived.Shelf.SlSortCmp.NoneTotal
import Derived.Shelf.Sort.Plain
import Derived.Shelf.Slices.CompactI
import Derived.Shelf.Slices.In.SortNone
import Derived.Handy
import Derived.StillTailTactics
import Derived.Shelf.Spec.SlicesGrow
import Derived.Lib.SliceRun
import Derived.Lib.SlicesDelete
import Derived.Lib.Overlaps
import Derived.Lib.AppendZerosOnto
import Derived.Laws.Externs
import Derived.Laws.IdiomCopy
import Derived.Laws.NewBlocks
import Derived.Deep.RegionLaw
import Derived.Shelf.RegionOpenPlain
import Derived.WalkKit
namespace Go.Proofs.YthghpahghjppjaaGreat
open Go Go.Vc Go.RowKit
set_option maxRecDepth 1000000
theorem axC(e:Bool)(a b:Int)(w:World):(Instr.checkKey e 10000 37 (uV a b)).run Tryz.prog w=.ok () w:=by cases e<;>kernel_rfl
theorem alw:mw Tryz.prog 9 37=some [.int .i64,.int .i64]:=by kernel_rfl
theorem atJ{a b c d:Int}(h:uV a b=uV c d):a=c/\b=d:=by simpa only[uV,FV,Array.mk.injEq,fj,Value.int.injEq,true_and,pj]using h
theorem avJ(a b c d:Int)(w:World):(Op.equal 37 (uV a b) (uV c d)).run Tryz.prog w=.ok (a==c&&(b==d&&true)) w:=by
 have h:=Oj 9 37 _ alw Op.maxDepth (by decide) [.int .i64 a,.int .i64 b] [.int .i64 c,.int .i64 d] (a==c&&(b==d&&true)) rfl w;have j:∀a b:Int,yZ Tryz.prog 37 [.int .i64 a,.int .i64 b]=uV a b:=λa b=>by kernel_rfl
 rw[j,j]at h;exact h
theorem avK(a b:Int)(w:World):(Op.equal 37 (uV a b) (uV a b)).run Tryz.prog w=.ok true w:=by rw[avJ];simp
theorem avL{a b c d:Int}(h:¬(a=c/\b=d))(w:World):(Op.equal 37 (uV a b) (uV c d)).run Tryz.prog w=.ok false w:=by
 rw[avJ]
 have:(a==c&&(b==d&&true))=false:=by
  cases hh:(a==c&&(b==d&&true))with
  |false=>rfl
  |true=>simp at hh;exact absurd hh h
 rw[this]
theorem avM(a b:Int)(w:World):∀(es:List MapEntry),(∀e∈es,isU e.key)->∀i,
 ((Instr.findAsking 37 (uV a b) es i).run Tryz.prog w=.ok none w/\∀e∈es,e.key≠uV a b)\/∃j e,(Instr.findAsking 37 (uV a b) es i).run Tryz.prog w=.ok (some (i+j,e.val)) w/\es[j]?=some e/\e.key=uV a b
 |[],_,i=>.inl ⟨rfl,by simp⟩
 |e::es,h,i=>by
  have⟨c,d,F⟩:=h e (by simp);by_cases y:a=c/\b=d
  .obtain⟨rfl,rfl⟩:=y;refine .inr ⟨0,e,?_,rfl,F⟩;simp only[Instr.findAsking,aR,F,avK,bq,sd,bE,jh]
  .have J:(Instr.findAsking 37 (uV a b) (e::es) i).run Tryz.prog w=(Instr.findAsking 37 (uV a b) es (i+1)).run Tryz.prog w:=by simp only[Instr.findAsking,aR,F,avL y,bq,fv,pn]
   rcases avM a b w es (λe K=>h e (by simp[K])) (i+1)with⟨h1,G⟩|⟨j,H,h1,G,R⟩
   .refine .inl ⟨J.trans h1,λH C=>?_⟩;rcases aB.1 C with rfl|C
    .rw[F];exact λhh=>y (let ⟨g1,V⟩:=atJ hh;⟨g1.symm,V.symm⟩)
    .exact G H C
   .exact .inr ⟨j+1,H,by rw[J,h1,show i+1+j=i+(j+1)by omega],by simpa using G,R⟩
theorem axD:alx Tryz.prog 37 where
 check:=by rintro e w v ⟨a,b,rfl⟩;exact axC e a b w
 find:=by
  rintro w v ⟨a,b,rfl⟩ es y
  have H:(Instr.findKey 37 (uV a b) es).run Tryz.prog w=(Instr.findAsking 37 (uV a b) es).run Tryz.prog w:=by
   cases es with
   |nil=>kernel_rfl
   |cons e es=>obtain⟨c,d,C⟩:=y e (by simp);obtain⟨k,v,b⟩:=e;simp only at C;subst C;kernel_rfl
  rw[H];rcases avM a b w es y 0 with h|⟨j,e,h1,G,F⟩
  .exact .inl h
  .exact .inr ⟨j,e,by rw[h1,cq],G,F⟩
 stays:=by rintro w v ⟨a,b,rfl⟩;simp[Instr.keyThatStays,Instr.sameBits,uV]
def pH:TI:=⟨false,.other,0,0,false,[],none⟩
def cm:TI:=⟨true,.other,1,8,false,[.nilFunc],none⟩
def Me(n:Nat):TI:=⟨true,.slice n,1,24,false,[.slice none 0 0],none⟩
def ktP(n:Nat):TI:=⟨true,.ptr n,1,8,false,[.pointer none],none⟩
def ky:Value:=.int .i64 0
def qS:Value:=.slice none 0 0
def kvb:Value:=.bool false
def kvt:Value:=.string .empty
def kv8:Value:=.int .u8 0
def kv6:Value:=.int .u64 0
def kv3:Value:=.int .i32 0
def kvp:Value:=.pointer none
def kvf:Value:=.nilFunc
def zM:LK:=.int .i64
def kxb:LK:=.bool
def kx6:LK:=.int .u64
def Ji(f:List (Nat×Nat×Nat))(b:Nat)(z:List Value)(k:Option (List LK):=none):TI:=⟨true,.struct f,z.length,b,true,z,k⟩
def apF:TI:=⟨true,.int .i64,1,8,false,[.int .i64 0],some [.int .i64]⟩
def apG:TI:=⟨true,.int .u64,1,8,false,[.int .u64 0],some [.int .u64]⟩
def avR:TI:=Ji [(0,3,1),(1,23,1),(2,24,1),(3,25,1),(4,26,1),(5,27,1),(6,28,1),(7,29,1),(8,30,1),(9,30,1),(10,31,1),(11,32,1)] 272 [ky,qS,qS,qS,qS,qS,qS,qS,qS,qS,qS,qS]
def avS:TI:=Ji [(0,3,1),(1,3,1)] 16 [ky,ky] (some [zM,zM])
def avT:TI:=Ji [(0,3,1),(1,3,1),(2,3,1),(3,37,2),(5,37,2),(7,3,1),(8,3,1),(9,3,1),(10,3,1),(11,2,1),(12,2,1),(13,38,1)] 128 [ky,ky,ky,ky,ky,ky,ky,ky,ky,ky,ky,ky,ky,qS]
def avU:TI:=Ji [(0,42,1),(1,38,1),(2,43,1),(3,44,1)] 80 [ky,qS,qS,qS]
def apH:TI:=Ji [(0,4,1),(1,49,1)] 32 [kvb,qS]
def avW:TI:=Ji [(0,37,2),(2,2,1),(3,54,1)] 48 [ky,ky,ky,qS]
def avX:TI:=Ji [(0,3,1),(1,2,1),(2,3,1),(3,3,1)] 32 [ky,ky,ky,ky] (some [zM,zM,zM,zM])
def avY:TI:=Ji [(0,40,14),(14,46,4)] 208 [ky,ky,ky,ky,ky,ky,ky,ky,ky,ky,ky,ky,ky,qS,ky,qS,qS,qS]
def arU:TI:=Ji [(0,34,12),(12,40,14),(26,46,4)] 480 [ky,qS,qS,qS,qS,qS,qS,qS,qS,qS,qS,qS,ky,ky,ky,ky,ky,ky,ky,ky,ky,ky,ky,ky,ky,qS,ky,qS,qS,qS]
def arV:TI:=Ji [(0,3,1),(1,3,1),(2,2,1)] 24 [ky,ky,ky] (some [zM,zM,zM])
def arW:TI:=Ji [(0,37,2),(2,2,1)] 24 [ky,ky,ky] (some [zM,zM,zM])
def arX:TI:=Ji [(0,37,2),(2,54,1)] 40 [ky,ky,qS]
def arY:TI:=Ji [(0,3,1),(1,3,1),(2,3,1),(3,97,1)] 48 [ky,ky,ky,qS]
def arZ:TI:=Ji [(0,37,2),(2,102,1)] 40 [ky,ky,qS]
def asa:TI:=Ji [(0,3,1),(1,2,1)] 16 [ky,ky] (some [zM,zM])
def asb:TI:=Ji [(0,2,1),(1,89,1)] 16 [ky,kv6] (some [zM,kx6])
def afE:TI:=Ji [(0,3,1),(1,2,1),(2,2,1)] 24 [ky,ky,ky] (some [zM,zM,zM])
def asc:TI:=Ji [(0,34,12),(12,135,1)] 280 [ky,qS,qS,qS,qS,qS,qS,qS,qS,qS,qS,qS,.map none]
def asd:TI:=Ji [(0,37,2),(2,37,2),(4,2,1)] 40 [ky,ky,ky,ky,ky] (some [zM,zM,zM,zM,zM])
def ase:TI:=Ji [(0,147,1)] 24 [qS]
def asf:TI:=Ji [(0,3,1),(1,2,1),(2,2,1),(3,2,1),(4,38,1)] 56 [ky,ky,ky,ky,qS]
def asg:TI:=Ji [(0,37,2),(2,37,2),(4,4,1)] 40 [ky,ky,ky,ky,kvb] (some [zM,zM,zM,zM,kxb])
def ash:TI:=Ji [(0,3,1),(1,37,2),(3,3,1),(4,2,1),(5,2,1)] 48 [ky,ky,ky,ky,ky,ky] (some [zM,zM,zM,zM,zM,zM])
def asi:TI:=Ji [(0,3,1),(1,37,2),(3,37,2),(5,106,2),(7,2,1),(8,3,1),(9,3,1),(10,3,1)] 88 [ky,ky,ky,ky,ky,ky,ky,ky,ky,ky,ky] (some [zM,zM,zM,zM,zM,zM,zM,zM,zM,zM,zM])
def asj:TI:=Ji [(0,2,1),(1,108,2)] 24 [ky,ky,kv6] (some [zM,zM,kx6])
def asl:TI:=Ji [(0,4,1),(1,49,1),(2,42,1)] 40 [kvb,qS,ky]
def asm:TI:=Ji [(0,25,1),(1,24,1),(2,30,1),(3,31,1),(4,32,1)] 120 [qS,qS,qS,qS,qS]
def asn:TI:=Ji [(0,89,1),(1,89,1)] 16 [kv6,kv6] (some [kx6,kx6])
def aso:TI:=Ji [(0,30,1),(1,31,1)] 48 [qS,qS]
def asq:TI:=Ji [(0,2,1),(1,2,1)] 16 [ky,ky] (some [zM,zM])
def asr:TI:=Ji [(0,34,12),(12,43,1),(13,42,1)] 304 [ky,qS,qS,qS,qS,qS,qS,qS,qS,qS,qS,qS,qS,ky]
def ass:TI:=Ji [(0,9,1)] 16 [kvt] (some [.str])
def tab:List TI:=[pH,cm,apF,apF,⟨true,.bool,1,1,false,[.bool false],some [.bool]⟩,⟨true,.int .u8,1,1,false,[.int .u8 0],some [.int .u8]⟩,pH,pH,pH,⟨true,.string,1,16,false,[.string .empty],some [.str]⟩,pH,pH,apG,pH,pH,pH,pH,pH,pH,pH,pH,⟨true,.int .i32,1,4,false,[.int .i32 0],some [.int .i32]⟩,Me 40,Me 64,Me 174,Me 132,Me 99,Me 177,Me 179,Me 181,Me 104,Me 94,Me 96,avR,avR,Me 51,avS,avS,Me 2,avT,avT,cm,apF,Me 144,Me 56,avU,avU,pH,cm,Me 5,apH,apH,cm,cm,Me 92,avW,avW,cm,cm,cm,cm,cm,cm,avX,avX,cm,cm,Me 69,avY,avY,cm,cm,cm,cm,cm,cm,cm,cm,cm,ktP 81,arU,arU,cm,cm,cm,cm,cm,cm,cm,apG,cm,arV,arV,arW,arW,arX,arX,Me 3,arY,arY,pH,cm,Me 106,arZ,arZ,asa,asa,asb,asb,cm,cm,cm,cm,cm,cm,cm,cm,cm,cm,cm,cm,cm,cm,cm,cm,cm,cm,cm,cm,cm,cm,afE,afE,pH,cm,⟨true,.map 37 4,1,8,false,[.map none],none⟩,asc,asc,Me 37,cm,cm,cm,cm,asd,asd,cm,ktP 149,Me 108,ase,ase,cm,cm,cm,cm,cm,cm,Me 84,pH,cm,cm,cm,pH,cm,cm,cm,pH,cm,cm,cm,cm,cm,cm,cm,asf,asf,cm,asg,asg,ash,ash,asi,asi,cm,cm,cm,cm,cm,cm,cm,cm,cm,cm,cm,cm,cm,cm,cm,cm,cm,cm,cm,apG,cm,ktP 250,cm,cm,cm,cm,cm,ktP 40,ktP 258,cm,cm,cm,cm,cm,cm,cm,pH,cm,pH,cm,pH,cm,pH,cm,cm,cm,cm,pH,cm,asj,asj,cm,cm,cm,cm,pH,cm,cm,cm,cm,cm,cm,cm,cm,cm,cm,cm,asl,asl,pH,cm,cm,cm,cm,cm,apH,apH,cm,cm,cm,cm,pH,cm,pH,cm,cm,cm,cm,cm,cm,cm,pH,cm,cm,cm,cm,pH,cm,pH,cm,cm,pH,cm,cm,cm,pH,cm,pH,cm,Me 371,cm,pH,cm,pH,cm,pH,cm,pH,cm,cm,Me 30,cm,cm,cm,cm,pH,cm,cm,pH,cm,cm,asm,asm,cm,cm,cm,pH,cm,cm,cm,pH,cm,cm,pH,cm,cm,cm,pH,cm,pH,cm,ktP 232,pH,cm,cm,pH,asn,asn,cm,cm,cm,cm,cm,cm,cm,cm,cm,cm,cm,cm,cm,cm,cm,cm,cm,cm,cm,cm,aso,aso,pH,cm,cm,pH,cm,cm,cm,cm,asq,asq,pH,cm,pH,cm,cm,cm,cm,cm,cm,cm,cm,pH,cm,cm,cm,cm,cm,cm,cm,cm,cm,cm,cm,cm,cm,cm,cm,pH,cm,pH,cm,cm,pH,cm,cm,cm,cm,cm,cm,cm,pH,cm,ktP 416,asr,asr,cm,cm,cm,cm,cm,cm,cm,cm,cm,cm,cm,cm,cm,cm,cm,cm,cm,cm,cm,cm,cm,cm,cm,cm,cm,cm,cm,cm,cm,cm,cm,cm,cm,cm,cm,cm,cm,cm,cm,cm,cm,cm,cm,Me 102,cm,cm,cm,cm,cm,cm,cm,cm,cm,cm,cm,cm,cm,cm,cm,cm,cm,cm,cm,pH,pH,cm,Me 31,cm,cm,cm,cm,cm,cm,pH,cm,pH,cm,pH,cm,cm,apF,pH,cm,cm,cm,cm,cm,⟨true,.int .u32,1,4,false,[.int .u32 0],some [.int .u32]⟩,cm,cm,pH,cm,cm,cm,cm,cm,cm,pH,cm,cm,cm,cm,cm,cm,cm,apG,cm,cm,cm,ktP 3,cm,cm,cm,cm,Me 42,cm,cm,cm,cm,cm,cm,cm,cm,cm,ktP 522,pH,cm,cm,cm,Me 550,pH,cm,afE,afE,cm,cm,cm,cm,cm,cm,cm,cm,cm,cm,cm,cm,cm,cm,cm,cm,ktP 584,cm,pH,pH,pH,pH,pH,cm,pH,pH,cm,ktP 5,pH,pH,pH,pH,ass,ass,pH]
theorem avZ(w:World):(zeroValue 4).run Tryz.prog w=.ok (.bool false) w:=by kernel_rfl
theorem alD:∀p∈JR tab,afF Tryz.prog p.1 p.2:=by
 have e:JR tab=[(37,4)]:=by kernel_rfl
 rw[e];intro p hp;simp at hp;subst hp;exact⟨axD,avZ⟩
theorem atQ:dL Tryz.prog tab:=adl (by kernel_rfl) alD
theorem kp:alz Tryz.prog tab:=⟨atQ,by decide +kernel⟩
end Go.Proofs.YthghpahghjppjaaGreat
namespace Go.Vc
open Go Go.RowKit
theorem WX{P}{t e}{size bytes}(C:P.underlying t=some (.slice e))(h:(P.info? e).map (λi=>(i.zero.map (·.cells.size),i.size,i.bytes))=some (some size,size,bytes))(F:0<size):Oe P t e size bytes:=by have⟨i,hi,h⟩:=eE.1 h;simp only[fc]at h;have⟨z,y,j⟩:=eE.1 h.1;exact⟨C,⟨i,z,hi,y,h.2.1,h.2.2,j⟩,F⟩
theorem Im(w:World)(o:Obj)(b:Nat)(hb:b<w.heap.size):(w.alloc o).heap[b]?=w.heap[b]?:=mQ w o hb
theorem Ry(g o):∀(vs:List Value) (i:Nat) (w:World),w.setCells g (o+i) vs=setCells w ⟨g,o,none⟩ i vs
 |[],_,_=>rfl
 |v::vs,i,w=>by simp only[World.setCells,setCells,tg,De,Ry g o vs (i+1)]
theorem EK{g o b}{vs:List Value}{w:World}(h:b≠g):(w.setCells g o vs).heap[b]?=w.heap[b]?:=by have:=Ry g o vs 0 w;rw[jh]at this;rw[this];exact xU _ _ h vs 0 w
theorem EL{g o}{vs:List Value}{w:World}{y:Array Value}{e:TypeId}{fr:Nat×Nat}(h:w.heap[g]?=some (.cells y e fr)):∃j,(w.setCells g o vs).heap[g]?=some (.cells j e fr)/\j.size=y.size:=by have:=Ry g o vs 0 w;rw[jh]at this;rw[this];have C:=GV g o vs 0 w y.toList (by simpa using h);exact⟨_,C,by simp[DA]⟩
theorem wM(g o)(vs:List Value)(w:World):(w.setCells g o vs).os=w.os/\(w.setCells g o vs).tape=w.tape/\(w.setCells g o vs).output=w.output/\(w.setCells g o vs).heap.size=w.heap.size:=by have:=Ry g o vs 0 w;rw[jh]at this;rw[this];have⟨F,C,y,j,_⟩:=CR ⟨g,o,none⟩ vs 0 w;exact⟨F,C,y,j⟩
theorem atC{e}{k g c n}{w:World}{j:Array Value}{xs:List Value}(C:w.heap[g]?=some (.cells j e (0,0)))(hs:j.size=c*k)(J:∀t u,xs[t]?=some u->w.cell? ⟨g,t,none⟩=some u)(y:xs.length=n*k)(H:n<=c)(hm:c<=maxLen):w.ownsRow 0 e k (.slice (some ⟨g,0,none⟩) n c) n xs:=by
 refine⟨y,.inr ⟨g,c,j,rfl,br _,C,H,hm,hs,?_⟩⟩;apply eT;intro t;by_cases G:t<n*k
 .rw[dN G,du];have F:=J t _ (aw (by omega));rw[CB w g t j e (0,0) C]at F;rw[aw (by omega)];exact F
 .rw[bD (by simp;omega),bD (by omega)]
theorem DT.af7{U}{w:World}{t:DT}{xs:List t.den}{vs:List Value}(h:t.hs U w xs vs)(n:Nat):t.hs U w (xs.drop n) (vs.drop (n*t.size)):=by refine⟨by simp[h.1,uh],λi x hi=>?_⟩;rw[cN]at hi;have:=h.2 _ x hi;rw[mN,<-iY];exact this
theorem atE{e}{k n g}{j:Array Value}{xs:List Value}{w:World}(C:w.heap[g]?=some (.cells j e (0,0)))(F:j.toList.take (n*k)=xs):∀t u,xs[t]?=some u->w.cell? ⟨g,t,none⟩=some u:=by
 intro t u y;rw[<-F,cD]at y;split at y
 .rw[CB w g t j e (0,0) C];simpa using y
 .cases y
theorem avE{j}{p q}{i}(h:kc j p i=some q):i=j/\q=p:=by
 unfold kc at h;split at h
 .rename_i hb;simp only[ak]at h;exact⟨aF hb,h.symm⟩
 .cases h
theorem DC{e}{t}{l l'}{U0}{B}{A:yH}{w w':World}{a:Option Addr}{c:Nat}(m:Mem w U0 (Ow B A [] [.own e t l]) B A [] [.own e t l] w)
 (K:w'.os=w.os/\w'.tape=w.tape/\w'.output=w.output/\w.heap.size<=w'.heap.size) (V:∀b,b<w.heap.size->(∀ad,(A 0).1=some ad->ad.block≠b)->w'.heap[b]?=w.heap[b]?)
 (W:∀x,a=some x->(∃ad,(A 0).1=some ad/\ad.block=x.block)\/(w.heap.size<=x.block/\x.block<w'.heap.size))
 (J:∀U',lE (Us U0 B A [] [.own e t l]) U' w w'->∃xs,w'.ownsRow 0 e t.size (.slice a l'.length c) l'.length xs/\t.hs U' w' l' xs):
 ∃B' A' r pb' rw',Mem w U0 (Ow B A [] [.own e t l]) B' A' pb' rw' w'/\r.h (env U0 B' A' pb' rw' w') (.slice a l'.length c)/\(∀i,live [] i->live pb' i/\B' i=B i)/\pb'=[]/\(r,rw')=(DV.row 0,[DR.own e t l']):=by
 have y:∀b,iN B A [] [DR.own e t l] true 0 b↔∃ad,(A 0).1=some ad/\ad.block=b:=λb=>⟨λ⟨r,ad,_,_,F,C⟩=>⟨ad,F,C⟩,λ⟨ad,F,C⟩=>⟨_,ad,rfl,by simp,F,C⟩⟩
 have⟨G,s,_⟩:=m.putRow (al:=λ_=>true) (j:=0) (f:=kc 0 .jD) (rw':=[.own e t l']) (e:=e) (t:=t) (l:=l') (a:=a) (c:=c) rfl (λi hi=>by
  cases i with
  |zero=>exact absurd rfl hi
  |succ i=>rfl)
  (λi p h=>avE h) (λh=>by simp[kc]at h) (λh=>by simp[kc]at h) K (λb hb R=>V b hb λad Y X=>R ((y b).2 ⟨ad,Y,X⟩)) (λx H=>(W x H).imp (λh=>(y _).2 h) id) J
 refine⟨B,_,.row 0,_,_,G,?_,λi ⟨b,hb⟩=>(by simp at hb),rfl,rfl⟩;exact⟨e,t,l',rfl,by show _=Value.slice (Eo A 0 (a,c) 0).1 _ (Eo A 0 (a,c) 0).2;rw[nC]⟩
end Go.Vc
namespace Go.Proofs.YthghpahghjppjaaGreat
open Go Go.Vc
theorem ap4:Tryz.prog.follows .mixedOrders=true:=kp.mixed
end Go.Proofs.YthghpahghjppjaaGreat








namespace Go.Proofs.YthghpahghjppjaaGreat
open Go Go.Vc Go.RowKit
abbrev fE{α β:Type}(f:Wd->α->β):Wd->α×Unit->β:=λW x=>f W x.1
abbrev c8{α b β:Type}(f:Wd->α->b->β):Wd->α×b×Unit->β:=λW x=>f W x.1 x.2.1
abbrev jZ{α b c β:Type}(f:Wd->α->b->c->β):Wd->α×b×c×Unit->β:=λW x=>f W x.1 x.2.1 x.2.2.1
abbrev QG{α b c d β:Type}(f:Wd->α->b->c->d->β):Wd->α×b×c×d×Unit->β:=λW x=>f W x.1 x.2.1 x.2.2.1 x.2.2.2.1
abbrev al1{α b c d e g β:Type}(f:Wd->α->b->c->d->e->g->β):Wd->α×b×c×d×e×g×Unit->β:=λW x=>f W x.1 x.2.1 x.2.2.1 x.2.2.2.1 x.2.2.2.2.1 x.2.2.2.2.2.1
def jO(n:Nat):Nat×DJ:=(500000+n,⟨[(n,.b)],[],[]⟩)
def sz(k n:Nat):Nat×DJ:=(k,⟨[(n,.i)],[],[]⟩)
def uk(k n:Nat)(d:List DS):Nat×DJ:=(k,⟨[(n,.i)],[(0,d)],[]⟩)
def FZ(k:Nat)(d:List DS):Nat×DJ:=(k,⟨[],[(0,d)],[]⟩)
def Mc(k a b:Nat)(l:List θ):Nat×DJ:=(k,⟨[(a,.row b)],[],l⟩)
def qQ(k a b c:Nat)(l:List θ):Nat×DJ:=(k,⟨[(a,.row b),(c,.i)],[],l⟩)
def sS:List Nat->OT->OT
 |[],t=>t
 |i::l,t=>.rd i (sS l t)
def dA{n:Nat}(A:DT)(Q:QT)(F:Wd->A.den->Option Q.den){fn:Func}(G:Tryz.prog.funcs[n]?=some fn)(l:List (KC Tryz.prog):=[])(O:DTs:=[])(y:List (Nat×DJ):=[])(j:List (Nat×DJ):=[]){c:Code}(hb:fn.body=some c:=by rfl)(C:(fn.name== "runtime.NumGoroutine")=false:=by decide +kernel) (h:∀W x,evF W tab (kcs l W) O y j fn A Q x=F W x:=by intro W x; kernel_rfl):KC Tryz.prog:=kes kp n A Q F l O y j G hb C h
def nf{n:Nat}(B:List BK)(A:List PK)(E:List BK)(Q:QT)(F:Wd->(FC B (Jh A .unit)).den->Option (Q.den×(FC E .unit).den)){fn:Func}(G:Tryz.prog.funcs[n]?=some fn)(l:List (KC Tryz.prog):=[])(O:DTs:=[])(y:List (Nat×DJ):=[])(j:List (Nat×DJ):=[]){c:Code}(hb:fn.body=some c:=by rfl)(C:(fn.name== "runtime.NumGoroutine")=false:=by decide +kernel) (h:∀W z,al0 W tab (kcs l W) O y j fn ⟨B,A,E,Q,F W⟩ z=F W z:=by intro W x; kernel_rfl):KC Tryz.prog:=kls kp n B A E Q F l O y j G hb C h
theorem adp(x y b:Nat)(hb:b<=1)(w:World):((Extern.MathBitsCarry.rows[1]!).2 #[.int .u64 x,.int .u64 y,.int .u64 b]).run Tryz.prog w=
 .ok (.tuple #[.int .u64 (((x+18446744073709551616-y-b) % 18446744073709551616:Nat):Int),.int .u64 ((if x<y+b then 1 else 0:Nat):Int)]) w:=by
 have:b=0\/b=1:=by omega
 rcases this with rfl|rfl<;>rfl
@[reducible] def tC3:DT:=.pair (.int .u64) (.pair (.int .u64) (.pair (.int .u64) .unit))
@[reducible] def tQ2:QT:=.pair (.v (.int .u64)) (.pair (.v (.int .u64)) .unit)
theorem hL3{E:Env}{x y z:Int}{vs:List Value}(h:hL E (BW tC3 (x,y,z,())) vs):vs=[.int .u64 x,.int .u64 y,.int .u64 z]:=by simp only[BW,hL,DT.val,DV.h]at h;obtain⟨_,_,rfl,rfl,_,_,rfl,rfl,_,_,rfl,rfl,rfl⟩:=h;rfl
theorem awa(E:Env)(x y:Int):(tQ2.mk (x,y,()) []).1.h E (.tuple #[.int .u64 x,.int .u64 y]):=by simp only[QT.mk,QT.mks,DT.val,DV.h,hL];exact⟨#[.int .u64 x,.int .u64 y],rfl,_,_,rfl,rfl,_,_,rfl,rfl,rfl⟩
def Y3:KC Tryz.prog:=⟨286,λ_=>.es ⟨tC3,tQ2,λx=>Jj x.1 x.2.1 x.2.2.1⟩,ι (by
 rintro⟨x,y,c,⟨⟩⟩ q h E vs hv;replace h:Jj x y c=some q:=h;unfold Jj at h;split at h
 .rename_i j;have h:=cK h;subst h;rw[hL3 hv];refine⟨_,λw=>?_,rfl,λE=>awa E _ _⟩;rw[y8 Tryz.func286 (by decide +kernel) rfl rfl (e:=add64Entry) (by kernel_rfl)];show((add64Entry #[.int .u64 x,.int .u64 y,.int .u64 c]).run Tryz.prog w).andThen _=_;rw[run_add64 x y c j.1 j.2.1 j.2.2.1 j.2.2.2];rfl
 .cases h)⟩
def afH:KC Tryz.prog:=⟨369,λ_=>.es ⟨tC3,tQ2,λx=>G0 x.1 x.2.1 x.2.2.1⟩,ι (by
 rintro⟨x,y,b,⟨⟩⟩ q h E vs hv;replace h:G0 x y b=some q:=h;unfold G0 at h;split at h
 .rename_i H;have h:=cK h;subst h;rw[hL3 hv];refine⟨_,λw=>?_,rfl,λE=>awa E _ _⟩;have⟨G,F,C,j,hb⟩:=H;obtain⟨x,rfl⟩:=cR G;obtain⟨y,rfl⟩:=cR F;obtain⟨b,rfl⟩:=cR j;rw[y8 Tryz.func369 (by decide +kernel) rfl rfl (e:=(Extern.MathBitsCarry.rows[1]!).2) (by kernel_rfl)];show(((Extern.MathBitsCarry.rows[1]!).2 #[.int .u64 x,.int .u64 y,.int .u64 b]).run Tryz.prog w).andThen _=_;rw[adp x y b (by omega) w];have K:(((x+18446744073709551616-y-b) % 18446744073709551616:Nat):Int)=((x:Int)-y-b) % 18446744073709551616:=by omega
  have J:((if x<y+b then 1 else 0:Nat):Int)=if(x:Int)<y+b then 1 else 0:=by split<;>split<;>omega
  rw[K,J];rfl
 .cases h)⟩
end Go.Proofs.YthghpahghjppjaaGreat
namespace Go.Vc
open Go Go.RowKit Go.Sort Go.Proofs
theorem NH{P:Program}{n:Nat}{F B:Func}(h:P.funcs[n]?=some F)(d:(F.name=="runtime.NumGoroutine")=false:=by decide +kernel)(e:F={B with name:=F.name}:=by kernel_rfl):Go.Proofs.Bears P n B:=⟨F.name,d,h.trans (bS some e)⟩
theorem GZ{enc:Value->Value}{w:World}{g n:Nat}{os:Array Obj}{j:Array Value}{e:TypeId}{fr:Nat×Nat}(F:Array Value)(hb:w.heap[g]?=some (.cells j e fr)):
 (grow (putRow id (Sort.ahead w n) g 0 F) os).heap[g]?=some (.cells (putCells id 0 F j) e fr):=by
 have y:=(cy.1 hb).1;rw[heap_grow_old _ _ (by simpa using y)];simp[putRow,mapBlock,Sort.ahead,qI,hb,onCells]
theorem Ax{w}{g n}{os}(F){k}(y:k<w.heap.size)(j:k≠g):
 (grow (putRow id (Sort.ahead w n) g 0 F) os).heap[k]?=w.heap[k]?:=by
 rw[heap_grow_old _ _ (by simpa using y)];have:g≠k:=λe=>j e.symm
 simp[putRow,mapBlock,Sort.ahead,qI,this]
theorem Ay(y F)(h:F.size<=y.size):(putCells id 0 F y).toList.take F.size=F.toList:=by
 apply eT;intro j;by_cases C:j<F.size
 .rw[dN C,du];simp[putCells,C,show j<y.size by omega]
 .rw[List.getElem?_take_eq_none (by omega),bD (by simp;omega)]
theorem Is{α}{enc:α->List Value}{k:Nat}(j:∀x,(enc x).length=k):∀(l:List α),(l.flatMap enc).length=l.length*k/\∀i x,l[i]?=some x->((l.flatMap enc).drop (i*k)).take k=enc x
 |[]=>⟨by simp,λi x h=>by simp at h⟩
 |y::l=>by
  have⟨F,C⟩:=Is j l;refine⟨by rw[cF,aq,j,F,aJ,lY];omega,λi x h=>?_⟩;rw[cF];cases i with
  |zero=>simp at h;subst h;rw[pU,ry,kN (by rw[j];exact au _),lX (by rw[j];exact au _)]
  |succ i=>rw[lY,Nat.add_comm,Em,List.drop_of_length_le (by rw[j];omega),cS,j,show k+i*k-k=i*k by omega];exact C i x (by simpa using h)
theorem Ti {α} [Inhabited α] (enc) (k : Nat) (hk : ∀ x, (enc x).length = k) (l : List α) : (flatK enc k l.toArray).toList = l.flatMap enc := by
  obtain ⟨hl, h2⟩ := Is hk l
  apply eT
  intro t
  rw [du]
  by_cases ht : t < l.length * k
  · have k0 : 0 < k := by rcases fw k with h | h; · subst h; simp at ht
                          · exact h
    have hq := (mV k0).2 ht
    have h1 : (flatK enc k l.toArray)[t]? = some ((enc l.toArray[t / k]!)[t % k]!) := by
      have := get_flatK enc k l.toArray t (by simpa using ht)
      rw [<- this]; simp [ht]
    rw [h1]
    have h3 : l.toArray[t / k]! = l[t / k] := by simp [hq]
    rw [h3]
    have h4 : t % k < (enc l[t / k]).length := by rw [hk]; exact Bu _ k0
    have h5 := h2 (t / k) l[t / k] (aw hq)
    have h6 : (enc l[t / k])[t % k]? = (l.flatMap enc)[t / k * k + t % k]? := by
      rw [<- h5, dN (Bu _ k0), cN]
    rw [show t / k * k + t % k = t by rw [kH]; exact yT t k] at h6
    rw [<- h6, aw h4]
    exact bS some (lZ (enc l[t / k]) (t % k) h4)
  · rw [bD (by rw [hl]; omega)]
    simp; omega
theorem afC{e}{t}{l l'}{U0 L}{B:Nat->Nat}{A:yH}{w w':World}(m:Mem w U0 L B A [] [.own e t l] w)(C:l'.length=l.length)
 (R:w'.os=w.os/\w'.tape=w.tape/\w'.output=w.output/\w.heap.size<=w'.heap.size) (W:∀b,b<w.heap.size->(∀ad,(A 0).1=some ad->ad.block≠b)->w'.heap[b]?=w.heap[b]?)
 (K:∀U',lE (Us U0 B A [] [.own e t l]) U' w w'->∃xs,w'.ownsRow 0 e t.size (.slice (A 0).1 l'.length (A 0).2) l'.length xs/\t.hs U' w' l' xs):Mem w U0 L B A [] [.own e t l'] w':=by
 have y:∀b,iN B A [] [DR.own e t l] true 0 b↔∃ad,(A 0).1=some ad/\ad.block=b:=λb=>⟨λ⟨r,ad,_,_,G,F⟩=>⟨ad,G,F⟩,λ⟨ad,G,F⟩=>⟨_,ad,rfl,by simp,G,F⟩⟩
 have⟨H,_,_⟩:=m.putRow (al:=λ_=>true) (j:=0) (f:=Iq) (rw':=[.own e t l']) (e:=e) (t:=t) (l:=l') (a:=(A 0).1) (c:=(A 0).2) rfl (λi hi=>by
  cases i with
  |zero=>exact absurd rfl hi
  |succ i=>rfl)
  (λi p h=>by cases h) (λ_ e2 t2 l2 h=>by simp only[ic,ak,DR.own.injEq]at h;obtain⟨rfl,rfl,h⟩:=h;cases h;exact⟨l',rfl,C,rfl⟩) (λ_ d h=>by simp at h) R (λb hb V=>W b hb λad Y X=>V ((y b).2 ⟨ad,Y,X⟩)) (λx J=>.inl ((y _).2 ⟨x,J,rfl⟩)) K
 have e0:=Md A 0;rw[e0]at H;exact H
theorem af9 {P : Program} {g q : FuncId} {e : TypeId} {t : DT} [Inhabited t.den] {enc : t.den -> List Value} (y : ∀ x, (enc x).length = t.size) (h1 : ∀ x, ∀ v ∈ enc x, v.oneCell' = true)
    (hh : ∀ (U : Nat -> Prop) (w : World) (x : t.den) (us : List Value), t.h U w x us ↔ us = enc x)
    {K : List t.den -> Option (List t.den)} (hsl : ∀ l l', K l = some l' -> l'.length = l.length) (hf : rI P g) (hq : Nat.ble 1000000 q = false)
    (R : ∀ p C w, Calls P g #[.slice p 0 C, .func (.func q) #[] #[]] w λe w' => e = .returned (.tuple #[]) /\ w' = w)
    (W : ∀ iN off C (l l' : List t.den) w, K l = some l' -> HoldsK enc t.size w iN off l.toArray -> iN < w.heap.size ->
      Calls P g #[.slice (some ⟨iN, off, none⟩) l.length C, .func (.func q) #[] #[]] w λe w' => e = .returned (.tuple #[]) /\ ∃ n os, w' = sortWorldK enc t.size w iN off n l'.toArray os) :
    alA P g ⟨e, t, [.fn q []], λl _ => K l⟩ := by
  intro l z l' G
  have G := G
  have F := hsl l l' G
  refine ⟨F, λU0 B A vs w m hv => ?_⟩
  have hv := hv
  simp only [hL, DV.h] at hv
  obtain ⟨_, _, rfl, ⟨e2, t2, l2, H, rfl⟩, _, _, rfl, ⟨cs, rfl, hcs⟩, rfl⟩ := hv
  have H : some (DR.own e t l) = some (.own e2 t2 l2) := H
  simp only [ak, DR.own.injEq] at H
  obtain ⟨rfl, rfl, hl2⟩ := H
  cases hl2
  have axH := Array.toList_inj.1 hcs
  subst axH
  rw [arR hq]
  obtain ⟨us, ⟨hxl, ho⟩, hxs⟩ := m.row 0 e t l rfl
  change pG P g #[Value.slice (A 0).1 l.length (A 0).2, _] w _
  rcases fw l.length with h0 | hp
  · have e0 := fz h0
    have e1 := fz (by rw [F, h0])
    subst e0 e1
    refine ⟨.inl ⟨hf, (R _ _ w).mono λe' w' ⟨he, hw⟩ => ⟨_, he, rfl, ?_⟩⟩⟩
    subst hw; exact m
  · rcases ho with ⟨_, hn⟩ | ⟨b, C, cur, heq, X, hg, hn1, hn2, hn3, hn4⟩
    · omega
    simp only [gA] at heq
    obtain ⟨Y, _, hc⟩ := heq
    have hgl := (cy.1 hg).1
    have hus : us = l.flatMap enc := by
      apply eT
      intro j
      obtain ⟨f1, f2⟩ := Is y l
      by_cases J : j < l.length * t.size
      · have k0 : 0 < t.size := by rcases fw t.size with h | h; · rw [h] at J; simp at J
                                   · exact h
        have hq := (mV k0).2 J
        have g1 := (hh _ _ _ _).1 (hxs.2 (j / t.size) _ (aw hq))
        have g2 := f2 (j / t.size) _ (aw hq)
        have ej : j / t.size * t.size + j % t.size = j := by rw [kH]; exact yT j _
        have := bS (λl : List Value => l[j % t.size]?) (g1.trans g2.symm)
        simp only [dN (Bu _ k0), cN, ej] at this
        exact this
      · rw [bD (by rw [hxl]; omega), bD (by rw [f1]; omega)]
    have hfl := Ti enc t.size y l
    have V : (flatK enc t.size l.toArray).size = l.length * t.size := by simp
    have hH : HoldsK enc t.size w b 0 l.toArray := by
      intro j J
      rw [V] at J
      refine ⟨?_, by simp [World.frozen?, hg]⟩
      have e1 : (cur.toList.take (l.length * t.size))[j]? = (l.flatMap enc)[j]? := by rw [hn4, hus]
      rw [dN J, <- hfl, du, du] at e1
      simp only [World.cell?, hg, cq, pX, fv, pn, e1]
      rw [lZ (flatK enc t.size l.toArray) j (by rw [V]; exact J), sr (by rw [V]; exact J)]
      rfl
    rw [Y, hc]
    refine ⟨.inl ⟨hf, (W b 0 C l l' w G hH hgl).mono λe' w' ⟨he, n, os', hw⟩ => ⟨_, he, rfl, ?_⟩⟩⟩
    subst hw
    have hgs : (flatK enc t.size l'.toArray).size = l'.length * t.size := by simp
    refine afC m F ⟨rfl, rfl, rfl, by simp [sortWorldK, putRowK]⟩ (λb' hb hn => Ax _ hb λe => hn _ Y e.symm) λU' lt => ⟨l'.flatMap enc, ⟨(Is y l').1, .inr ⟨b, C, _, ?_, X, GZ (enc := id) _ hg, by rw [F]; exact hn1, hn2, by simp [putCells, hn3], ?_⟩⟩, (Is y l').1, λi x hx => (hh _ _ _ _).2 ((Is y l').2 i x hx)⟩
    · rw [Y, hc]
    · rw [<- Ti enc t.size y, <- hgs]
      exact Ay cur _ (by rw [hgs, hn3, F]; exact dE _ hn1)
end Go.Vc
namespace Go.Vc
open Go Go.RowKit Go.Sort Go.Proofs
theorem afA{U}{w}{l:List Int}{us:List Value}(h:(DT.int .i64).hs U w l us):us=l.map (Value.int .i64):=by
 have hl:us.length=l.length*1:=h.1;apply eT;intro j;by_cases y:j<l.length
 .have F:(us.drop (j*1)).take 1=[.int .i64 l[j]]:=h.2 j l[j] (aw y);have C:=bS (λl:List Value=>l[0]?) F;simpa[cD,cN,y]using C
 .rw[bD (by omega),bD (by simp;omega)]
theorem afB{U}{w}(l):(DT.int .i64).hs U w l (l.map (Value.int .i64)):=by
 refine⟨?_,λi x hi=>?_⟩
 .show _=l.length*1;simp
 .show((l.map (Value.int .i64)).drop (i*1)).take 1=[.int .i64 x];have hl:=(aC.1 hi);have⟨y,j⟩:=hl;rw[HW,cu (by simpa using y)];simp[j]
theorem Te(w)(b o)(d):putRow (Value.int .i64) w b o d=putRow id w b o (d.map (Value.int .i64)):=by
 unfold putRow;congr 1;funext c;unfold putCells;congr 1;funext k x;by_cases h:o<=k/\k<o+d.size
 .rw[ah h,ah (by simpa using h),lZ d (k-o) (by omega),id,lZ (d.map _) (k-o) (by simp;omega)];simp
 .rw[ag h,ag (by simpa using h)]
theorem al8(w):grow w #[]=w:=by simp[grow]
theorem JP(x):∀l,(Jg x l).Perm (x::l)
 |[]=>.refl _
 |y::l=>by
  unfold Jg;by_cases h:x<=y
  .rw[ap h];exact .refl _
  .rw[an h];exact((JP x l).cons y).trans (.swap x y l)
theorem JQ:∀l,(xO l).Perm l
 |[]=>.refl _
 |x::l=>(JP x _).trans ((JQ l).cons x)
theorem W4(x):∀{l:List Int},l.Pairwise (· <= ·)->(Jg x l).Pairwise (· <= ·)
 |[],_=>by simp[Jg]
 |y::l,h=>by
  have⟨F,G⟩:=bw.1 h;unfold Jg;by_cases C:x<=y
  .rw[ap C];exact bw.2 ⟨λz j=>(aB.1 j).elim (λe=>e▸C) λj=>Int.le_trans C (F z j),h⟩
  .rw[an C];exact bw.2 ⟨λz j=>(aB.1 ((JP x l).mem_iff.1 j)).elim (λe=>by subst e;omega) (F z),W4 x G⟩
theorem W5:∀l,(xO l).Pairwise (· <= ·)
 |[]=>.nil
 |x::l=>W4 x (W5 l)
theorem φ(l):l.mergeSort (λx y=>decide (x<=y))=xO l:=s9 (le:=λa b=>a<=b) (λa b _ _ C j=>Int.le_antisymm C j) ((List.pairwise_mergeSort (le:=λx y=>decide (x<=y)) (λa b c C j=>by simp only[bg]at *;omega) (λa b=>by simp only[fQ,bg];omega) l).imp λh=>by simpa using h) (W5 l) ((List.mergeSort_perm l _).trans (JQ l).symm)
theorem al9{w}{b}{l:List Int}{y:Array Value}{e:TypeId}(F:w.heap[b]?=some (.cells y e (0,0)))(H:y.toList.take (l.length*1)=l.map (Value.int .i64)):Holds (Value.int .i64) w b 0 l.toArray:=by
 intro j C;have C:j<l.length:=by simpa using C
 refine⟨?_,by simp[World.frozen?,F]⟩;have G:(y.toList.take (l.length*1))[j]?=(l.map (Value.int .i64))[j]?:=by rw[H]
 rw[dN (by omega),du,la,aw C]at G;simp only[World.cell?,F,cq,pX,fv,pn,G];rw[lZ l.toArray j (by simpa using C)];rfl
theorem adg{P}{g}{e:TypeId}(hf:rI P g)(H:∀p j w,Calls P g #[.slice p 0 j] w λe w'=>e=.returned (.tuple #[])/\w'=w)
 (J:∀iN off j (X:List Int) w,Holds (Value.int .i64) w iN off X.toArray->iN<w.heap.size->X.length<4611686018427387904->Calls P g #[.slice (some ⟨iN,off,none⟩) X.length j] w λe w'=>e=.returned (.tuple #[])/\∃n os,w'=grow (putRow (Value.int .i64) (Sort.ahead w n) iN off (X.mergeSort λx y=>decide (x<=y)).toArray) os):
 alA P g ⟨e,.int .i64,[],λl _=>Tf l⟩:=by
 intro l z l' F;have F:=F
 obtain⟨hb,rfl⟩:l.length<4611686018427387904/\l'=xO l:=by
  unfold Tf at F;rcases xV F with⟨h1,h2⟩|⟨_,h2⟩
  .exact⟨bP h1,(cK h2).symm⟩
  .cases h2
 have C:=(JQ l).length_eq;refine⟨C,λU0 B A vs w m hv=>?_⟩;have hv:=hv;simp only[hL,DV.h]at hv;obtain⟨_,_,rfl,⟨e2,t2,l2,G,rfl⟩,rfl⟩:=hv;have G:some (DR.own e (.int .i64) l)=some (.own e2 t2 l2):=G;simp only[ak,DR.own.injEq]at G;obtain⟨rfl,rfl,hl2⟩:=G;cases hl2;have⟨us,⟨hxl,ho⟩,hxs⟩:=m.row 0 e (.int .i64) l rfl;change pG P g #[Value.slice (A 0).1 l.length (A 0).2] w _;rcases fw l.length with h0|hp
 .have e0:=fz h0;subst e0;refine⟨.inl ⟨hf,(H _ _ w).mono λe' w' ⟨he,Y⟩=>⟨_,he,rfl,?_⟩⟩⟩;subst Y;exact m
 .rcases ho with⟨_,hn⟩|⟨b,j,cur,W,K,hg,hn1,hn2,V,hn4⟩
  .omega
  simp only[gA]at W;have⟨R,_,hc⟩:=W;have hgl:=(cy.1 hg).1;have hus:=afA hxs;subst hus;rw[R,hc];refine⟨.inl ⟨hf,(J b 0 j l w (al9 hg hn4) hgl hb).mono λe' w' ⟨he,n,os',Y⟩=>⟨_,he,rfl,?_⟩⟩⟩;rw[φ,Te]at Y;subst Y;have hgs:((xO l).toArray.map (Value.int .i64)).size=l.length:=by simp[C]
  refine afC m C ⟨rfl,rfl,rfl,by simp[putRow,mapBlock]⟩ (λb' hb hn=>Ax _ hb λe=>hn _ R e.symm) λU' lt=>⟨(xO l).map (Value.int .i64),⟨by simp[DT.size],.inr ⟨b,j,_,by rw[R,hc],K,GZ (enc:=id) _ hg,by rw[C];exact hn1,hn2,by simp[putCells,V],?_⟩⟩,afB _⟩
  have h7:(xO l).length*(DT.int IntKind.i64).size=((xO l).toArray.map (Value.int .i64)).size:=by simp[DT.size]
  rw[h7,Ay cur _ (by rw[hgs,V];show l.length<=j*1;omega)];simp
theorem Tg : ∀ (l j : List Int), Lib.compactUpTo (j ++ l).toArray (j.length + l.length) = Lib.compactUpTo (j ++ l).toArray j.length ++ xP j.getLast? l
  | [], j => by simp [xP]
  | x :: l, j => by
    have H := Tg l (j ++ [x])
    rw [bn, List.singleton_append, aq, qH] at H
    rw [aJ, show j.length + (l.length + 1) = j.length + 1 + l.length by omega, H, Lib.compactUpTo_succ, bn]
    congr 1
    have C : (j ++ x :: l).toArray[j.length]! = x := by rw [lZ _ _ (by simp)]; simp
    rw [C, List.getLast?_concat]
    rcases wo j with rfl | ⟨p, y, rfl⟩
    · simp [Lib.keeps, xP, ahF]
    · have F : (p ++ [y] ++ x :: l).toArray[(p ++ [y]).length - 1]! = y := by
        rw [lZ _ _ (by simp)]; simp
      simp only [List.concat_eq_append] at C F ⊢
      rw [List.getLast?_concat]
      by_cases h : x = y
      · subst h
        have G : Lib.keeps (p ++ [x] ++ x :: l).toArray (p ++ [x]).length = false := by
          simp only [Lib.keeps, C, F]; simp
        rw [G]
        simp [xP, ahF]
      · have G : Lib.keeps (p ++ [y] ++ x :: l).toArray (p ++ [y]).length = true := by
          simp only [Lib.keeps, C, F]; simp [h]
        have hb : (x == y) = false := by simpa using h
        rw [G]
        simp [xP, ahF, hb]
theorem χ(l):Lib.compact l=uJ l:=by have:=Tg l [];simp only[cS,eV,cq]at this;unfold Lib.compact uJ;rw[this];simp[Lib.compactUpTo]
theorem zK:∀(l:List Int) (p:Option Int),(xP p l).length<=l.length
 |[],_=>by simp[xP]
 |x::l,p=>by
  simp only[xP];cases ahF p x with
  |true=>have:=zK l (some x);simp only[cond_true,aJ];omega
  |false=>have:=zK l (some x);simp only[cond_false,aJ];omega
theorem Vz{P:Program}{g:FuncId}{e:TypeId}(hf:rI P g)(F:∀p j w,Calls P g #[.slice p 0 j] w λe w'=>e=.returned (.slice p 0 j)/\w'=w)
 (J:∀iN off j (C:List Int) w,Holds (Value.int .i64) w iN off C.toArray->C.length<=9223372036854775807->C.length<=j->Calls P g #[.slice (some ⟨iN,off,none⟩) C.length j] w λe w'=>e=.returned (.slice (some ⟨iN,off,none⟩) (Lib.compact C).length j)/\∃q,w'=putRow (Value.int .i64) (Sort.ahead w q) iN off (Lib.compact C++List.replicate (C.length-(Lib.compact C).length) 0).toArray):
 ada P g ⟨[],[.row e (.int .i64)],[],.own e (.int .i64),λz=>PM z.1⟩:=by
 rintro⟨l,⟨⟩⟩ o ho U0 B A vs w m hv;have ho:some (uJ l,())=some o:=ho;simp only[ak]at ho;subst ho;have hv:=hv;have m:=m;show pG P g vs.toArray w λv w'=>∃B' A' r pb' rw',Mem w U0 (Ow B A [] [.own e (.int .i64) l]) B' A' pb' rw' w'/\r.h (env U0 B' A' pb' rw' w') v/\(∀i,live [] i->live pb' i/\B' i=B i)/\pb'=[]/\(r,rw')=(DV.row 0,[DR.own e (.int .i64) (uJ l)])
 simp only[hL,DV.h]at hv;obtain⟨_,_,rfl,⟨e2,t2,l2,y,rfl⟩,rfl⟩:=hv;have y:some (DR.own e (.int .i64) l)=some (.own e2 t2 l2):=y;simp only[ak,DR.own.injEq]at y;obtain⟨rfl,rfl,hl2⟩:=y;cases hl2;have⟨us,⟨hxl,ho⟩,hxs⟩:=m.row 0 e (.int .i64) l rfl;have hus:=afA hxs;subst hus;change pG P g #[Value.slice (A 0).1 l.length (A 0).2] w _;have hcl:(uJ l).length<=l.length:=zK l none;rcases fw l.length with h0|hp
 .have e0:=fz h0;subst e0;refine⟨.inl ⟨hf,(F _ _ w).mono λe' w' ⟨he,V⟩=>⟨_,he,?_⟩⟩⟩;subst V;refine DC (e:=e) (t:=.int .i64) (l:=[]) (l':=uJ []) m ⟨rfl,rfl,rfl,au _⟩ (λb hb hn=>rfl) (λx Y=>.inl ⟨x,Y,rfl⟩) λU' lt=>⟨[],?_,DT.EQ⟩
  exact⟨by simp[uJ,xP],ho⟩
 .rcases ho with⟨_,hn⟩|⟨b,j,X,W,K,hg,hn1,H,G,hn4⟩
  .omega
  simp only[gA]at W;have⟨R,_,hc⟩:=W;have G:X.size=j*1:=G;have h63:j<=9223372036854775807:=by rw[iE]at H;exact H
  rw[R,hc];refine⟨.inl ⟨hf,(J b 0 j l w (al9 hg hn4) (by omega) hn1).mono λe' w' ⟨he,q,V⟩=>⟨_,he,?_⟩⟩⟩;rw[χ]at V ⊢;rw[Te]at V;have hw':w'=grow (putRow id (Sort.ahead w q) b 0 ((uJ l++List.replicate (l.length-(uJ l).length) 0).toArray.map (Value.int .i64))) #[]:=by rw[al8];exact V
  subst hw';have hF:((uJ l++List.replicate (l.length-(uJ l).length) 0).toArray.map (Value.int .i64)).size=l.length:=by simp;omega
  refine DC (e:=e) (t:=.int .i64) (l:=l) (l':=uJ l) m ⟨rfl,rfl,rfl,by simp[putRow,mapBlock]⟩ (λb' hb hn=>Ax _ hb λe=>hn _ R e.symm) (λx Y=>by simp only[ak]at Y;subst Y;exact .inl ⟨_,R,rfl⟩) λU' lt=>⟨(uJ l).map (Value.int .i64),⟨by simp[DT.size],.inr ⟨b,j,_,rfl,K,GZ (enc:=id) _ hg,by omega,H,by simp[putCells,G,DT.size],?_⟩⟩,afB _⟩
  have h8:=Ay X ((uJ l++List.replicate (l.length-(uJ l).length) 0).toArray.map (Value.int .i64)) (by rw[hF];omega);have h9:=bS (List.take (uJ l).length) h8;rw[Br,hF,jU hcl]at h9;show List.take ((uJ l).length*1) _=_;rw[HW,h9];simp
end Go.Vc
namespace Go.Proofs.YthghpahghjppjaaGreat
open Go Go.Vc Go.RowKit Go.Sort Go.Proofs Go.Shelf
def Tryz.aij:Go.Shelf.Ren:=⟨λ|189=>349|125=>417|257=>416|128=>466|129=>467|294=>458|295=>459|296=>460|297=>461|298=>462|299=>463|216=>380|300=>464|301=>465|328=>490|329=>491|330=>492|331=>493|332=>494|215=>376|343=>512|n=>n,λ|28=>97|3=>3|46=>201|0=>0|51=>504|53=>89|4=>4|183=>498|182=>497|131=>273|5=>5|9=>9|218=>522|222=>526|228=>541|229=>542|n=>n,λn=>n⟩
open _root_.Go.Proofs.Tryz in
theorem Tryz.arP:Lays.n189 Tryz.prog Tryz.aij:=⟨by kernel_rfl,func417.trans (bS some (by kernel_rfl)),func466.trans (bS some (by kernel_rfl)),func467.trans (bS some (by kernel_rfl)),func349.trans (bS some (by kernel_rfl)),func376.trans (bS some (by kernel_rfl)),func380.trans (bS some (by kernel_rfl)),func416.trans (bS some (by kernel_rfl)),func458.trans (bS some (by kernel_rfl)),func459.trans (bS some (by kernel_rfl)),func460.trans (bS some (by kernel_rfl)),func461.trans (bS some (by kernel_rfl)),func462.trans (bS some (by kernel_rfl)),func463.trans (bS some (by kernel_rfl)),func464.trans (bS some (by kernel_rfl)),func465.trans (bS some (by kernel_rfl)),func490.trans (bS some (by kernel_rfl)),func491.trans (bS some (by kernel_rfl)),func492.trans (bS some (by kernel_rfl)),func493.trans (bS some (by kernel_rfl)),func494.trans (bS some (by kernel_rfl)),func512.trans (bS some (by kernel_rfl)),underlying0,isAgg0,sizeOf0,zeroValue0,underlying3,isAgg3,sizeOf3,zeroValue3,underlying4,isAgg4,sizeOf4,zeroValue4,underlying5,isAgg5,sizeOf5,zeroValue5,underlying9,isAgg9,sizeOf9,zeroValue9,underlying97,isAgg97,sizeOf97,zeroValue97,underlying201,isAgg201,sizeOf201,zeroValue201,underlying504,isAgg504,sizeOf504,zeroValue504,underlying89,isAgg89,sizeOf89,zeroValue89,underlying273,isAgg273,sizeOf273,zeroValue273,underlying497,isAgg497,sizeOf497,zeroValue497,underlying498,isAgg498,sizeOf498,zeroValue498,underlying522,isAgg522,sizeOf522,zeroValue522,underlying526,isAgg526,sizeOf526,zeroValue526,underlying541,isAgg541,sizeOf541,zeroValue541,underlying542,isAgg542,sizeOf542,zeroValue542⟩
def Tryz.aik:Go.Shelf.Ren:=⟨λ|20=>350|n=>n,λ|22=>97|3=>3|4=>4|0=>0|n=>n,λn=>n⟩
theorem Tryz.arQ:Lays2.n20 Tryz.prog Tryz.aik where
 mixed:=by kernel_rfl
 f20:=Tryz.func350.trans (bS some (by kernel_rfl))
 t0:=Tryz.underlying0
 a0:=Tryz.isAgg0
 z0:=Tryz.sizeOf0
 v0:=Tryz.zeroValue0
 t3:=Tryz.underlying3
 a3:=Tryz.isAgg3
 z3:=Tryz.sizeOf3
 v3:=Tryz.zeroValue3
 t4:=Tryz.underlying4
 a4:=Tryz.isAgg4
 z4:=Tryz.sizeOf4
 v4:=Tryz.zeroValue4
 t22:=Tryz.underlying97
 a22:=Tryz.isAgg97
 z22:=Tryz.sizeOf97
 v22:=Tryz.zeroValue97
 i3:=by kernel_rfl
theorem adh:rI Tryz.prog 349:=⟨_,Tryz.func349,by decide +kernel,rfl⟩
theorem adi:rI Tryz.prog 350:=⟨_,Tryz.func350,by decide +kernel,rfl⟩
def ail:KC Tryz.prog:=⟨349,λ_=>.mu ⟨3,.int .i64,[],λl _=>YD l⟩,adg adh (λp j w=>Any.slices_Sort_int_none Tryz.arP p j w) λiN off j y w G F C=>Any.slices_Sort_int Tryz.arP iN off j y w G F C⟩
def YY:KC Tryz.prog:=⟨350,λ_=>.ls ⟨[],[.row 3 (.int .i64)],[],.own 3 (.int .i64),λz=>Th z.1⟩,Vz adi (λp j w=>Any.slices_Compact_int_empty Tryz.arQ p j w) λiN off j y w G F C=>Any.slices_Compact_int Tryz.arQ iN off j y w G F C⟩
end Go.Proofs.YthghpahghjppjaaGreat






namespace Go.Proofs.YthghpahghjppjaaGreat
open Go Go.Vc Go.RowKit Go.Sort Go.Proofs Go.Shelf
set_option maxRecDepth 1000000
def we(x y:Int×Int):Bool:=if x.1=y.1 then decide (x.2<y.2)else decide (x.1<y.1)
theorem atN(x y:Int×Int)(W:World):Calls Tryz.prog 196 #[.agg #[.int .i64 x.1,.int .i64 x.2],.agg #[.int .i64 y.1,.int .i64 y.2]] W λe w'=>e=.returned (.bool (we x y))/\∃q j,w'=grow (W.drewN q) j:=by
 by_cases h:x.1=y.1
 .have e:we x y=decide (x.2<y.2):=by simp[we,h]
  rw[e];go_enter Tryz.func196,Tryz.ntmps196;go_wp2;go_ret;exact⟨rfl,0,_,by rw[alloc_eq_grow,alloc_eq_grow,grow_grow];rfl⟩
 .have e:we x y=decide (x.1<y.1):=by simp[we,h]
  rw[e];go_enter Tryz.func196,Tryz.ntmps196;go_wp2;go_ret;exact⟨rfl,0,_,by rw[alloc_eq_grow,alloc_eq_grow,grow_grow];rfl⟩
def ψ(x y:Int×Int):Int:=if we x y=true then -1 else if we y x=true then 1 else 0
theorem QH(W:World)(q1 j:Nat)(o1 y:Array Obj):grow ((grow (W.drewN q1) o1).drewN j) y=grow (W.drewN (q1+j)) (o1++y):=by simp[grow,World.drewN,Array.append_assoc,De]
theorem alloc_drew(W:World)(o:Obj):W.alloc o=grow (W.drewN 0) #[o]:=by rw[alloc_eq_grow];rfl
theorem W0(W:World)(a b:Array Value)(s t:TypeId)(q:Nat)(os:Array Obj)(j:Nat):(grow (((W.alloc (.cells a s)).alloc (.cells b t)).drewN q) os).cell? ⟨W.heap.size,j,none⟩=a[j]?:=by
 have h:(grow (((W.alloc (.cells a s)).alloc (.cells b t)).drewN q) os).heap[W.heap.size]?=some (.cells a s):=by rw[heap_grow_old _ _ (by simp[World.drewN];try omega)];show((W.heap.push _).push _)[W.heap.size]?=_;simp[y9]
 simp[World.cell?,h]
theorem W3(W:World)(a b:Array Value)(s t:TypeId)(q:Nat)(os:Array Obj)(j:Nat):(grow (((W.alloc (.cells a s)).alloc (.cells b t)).drewN q) os).cell? ⟨W.heap.size+1,j,none⟩=b[j]?:=by
 have h:(grow (((W.alloc (.cells a s)).alloc (.cells b t)).drewN q) os).heap[W.heap.size+1]?=some (.cells b t):=by rw[heap_grow_old _ _ (by simp[World.drewN];try omega)];show((W.heap.push _).push _)[W.heap.size+1]?=_;rw[y9];simp
 simp[World.cell?,h]
def G2(W w':World):Prop:=∃q j,w'=grow (W.drewN q) j
theorem G2.c0{W w':World}{a b:Array Value}{s t:TypeId}(h:G2 ((W.alloc (.cells a s)).alloc (.cells b t)) w')(j:Nat):w'.cell? ⟨W.heap.size,j,none⟩=a[j]?:=by obtain⟨q,os,rfl⟩:=h;exact W0 W a b s t q os j
theorem G2.c1{W w':World}{a b:Array Value}{s t:TypeId}(h:G2 ((W.alloc (.cells a s)).alloc (.cells b t)) w')(j:Nat):w'.cell? ⟨W.heap.size+1,j,none⟩=b[j]?:=by obtain⟨q,os,rfl⟩:=h;exact W3 W a b s t q os j
theorem G2.trans{a b c:World}(h:G2 a b)(y:G2 b c):G2 a c:=by obtain⟨q,os,rfl⟩:=h;obtain⟨C,j,rfl⟩:=y;exact⟨_,_,QH _ _ _ _ _⟩
theorem G2.alloc(W:World)(o:Obj):G2 W (W.alloc o):=⟨0,_,alloc_drew W o⟩
theorem apE(x y:Int×Int)(W:World):Calls Tryz.prog 448 #[.agg #[.int .i64 x.1,.int .i64 x.2],.agg #[.int .i64 y.1,.int .i64 y.2]] W λe w'=>e=.returned (.int .i64 (ψ x y))/\G2 W w':=by
 obtain⟨x1,x2⟩:=x;obtain⟨y1,y2⟩:=y;have h1:∀a b c d W,Calls Tryz.prog 196 #[.agg #[.int .i64 a,.int .i64 b],.agg #[.int .i64 c,.int .i64 d]] W λe w'=>e=.returned (.bool (we (a,b) (c,d)))/\G2 W w':=λa b c d W=>atN (a,b) (c,d) W
 have hc:ψ (x1,x2) (y1,y2)=if we (x1,x2) (y1,y2)=true then -1 else if we (y1,y2) (x1,x2)=true then 1 else 0:=rfl;rw[hc];generalize hf:we=f at h1;cases hp:f (x1,x2) (y1,y2)with
 |false=>
  cases hq:f (y1,y2) (x1,x2)with
  |false=>go_enter Tryz.func448,Tryz.ntmps448;go_wp2_with (go_at_call 196;refine(h1 _ _ _ _ _).mono ?_;rintro e w' ⟨rfl,hw⟩;first|(have k0:=hw.c0 0;have k1:=hw.c0 1;have k2:=hw.c1 0;have k3:=hw.c1 1;have hw1:=hw)|skip);go_ret;exact⟨rfl,(((G2.alloc _ _).trans (G2.alloc _ _)).trans hw1).trans hw⟩
  |true=>go_enter Tryz.func448,Tryz.ntmps448;go_wp2_with (go_at_call 196;refine(h1 _ _ _ _ _).mono ?_;rintro e w' ⟨rfl,hw⟩;first|(have k0:=hw.c0 0;have k1:=hw.c0 1;have k2:=hw.c1 0;have k3:=hw.c1 1;have hw1:=hw)|skip);go_ret;exact⟨rfl,(((G2.alloc _ _).trans (G2.alloc _ _)).trans hw1).trans hw⟩
 |true=>go_enter Tryz.func448,Tryz.ntmps448;go_wp2_with (go_at_call 196;(refine(h1 _ _ _ _ _).mono ?_;rintro e w' ⟨rfl,hw⟩));go_ret;exact⟨rfl,((G2.alloc _ _).trans (G2.alloc _ _)).trans hw⟩
def Tryz.ain:Go.Shelf.Ren:=⟨λ|6=>447|15=>417|14=>486|28=>466|29=>467|20=>502|21=>503|22=>504|23=>505|24=>506|25=>507|26=>508|27=>509|46=>519|47=>491|48=>492|49=>520|50=>521|57=>524|n=>n,λ|22=>138|24=>37|25=>486|3=>3|39=>201|0=>0|53=>504|55=>89|4=>4|46=>498|45=>497|50=>273|5=>5|9=>9|66=>522|70=>526|76=>541|77=>542|n=>n,λn=>n⟩
open _root_.Go.Proofs.Tryz in
theorem Tryz.arS:SlLaysF0.n6 Tryz.prog Tryz.ain:=⟨by kernel_rfl,NH func447,NH func486,func417.trans (bS some (by kernel_rfl)),NH func502,NH func503,NH func504,NH func505,NH func506,NH func507,NH func508,NH func509,func466.trans (bS some (by kernel_rfl)),func467.trans (bS some (by kernel_rfl)),NH func519,func491.trans (bS some (by kernel_rfl)),func492.trans (bS some (by kernel_rfl)),NH func520,NH func521,NH func524,underlying0,isAgg0,sizeOf0,zeroValue0,underlying3,isAgg3,sizeOf3,zeroValue3,underlying4,isAgg4,sizeOf4,zeroValue4,underlying5,isAgg5,sizeOf5,zeroValue5,underlying9,isAgg9,sizeOf9,zeroValue9,underlying138,isAgg138,sizeOf138,zeroValue138,underlying486,isAgg486,sizeOf486,zeroValue486,underlying201,isAgg201,sizeOf201,zeroValue201,underlying497,isAgg497,sizeOf497,zeroValue497,underlying498,isAgg498,sizeOf498,zeroValue498,underlying273,isAgg273,sizeOf273,zeroValue273,underlying504,isAgg504,sizeOf504,zeroValue504,underlying89,isAgg89,sizeOf89,zeroValue89,underlying522,isAgg522,sizeOf522,zeroValue522,underlying526,isAgg526,sizeOf526,zeroValue526,underlying541,isAgg541,sizeOf541,zeroValue541,underlying542,isAgg542,sizeOf542,zeroValue542⟩
theorem ltU(x y):ltOf ψ x y=we x y:=by
 unfold ltOf ψ;cases h:we x y
 .cases we y x<;>simp
 .simp
theorem W6(x y):we x y=true↔x.1<y.1\/(x.1=y.1/\x.2<y.2):=by
 unfold we;split
 .rename_i h;simp[h]
 .rename_i h;simp[h]
theorem RB(x y):we x y=false↔y.1<x.1\/(x.1=y.1/\y.2<=x.2):=by rw[<-xi,W6];omega
theorem atO:SWO (ltOf ψ) where
 irrefl x:=by rw[ltU,RB];omega
 trans x y z h1 j:=by rw[ltU,W6]at *;omega
 ntrans x y z h1 j:=by rw[ltU,RB]at *;omega
theorem axI(x y)(C:ltOf ψ x y=false)(j:ltOf ψ y x=false):x=y:=by rw[ltU,RB]at *;exact jg (by omega) (by omega)
def YZ(x y:à):Int:=ψ (x.1,x.2.1) (y.1,y.2.1)
theorem ltK(x y):ltOf YZ x y=we (x.1,x.2.1) (y.1,y.2.1):=ltU (x.1,x.2.1) (y.1,y.2.1)
theorem axJ:SWO (ltOf YZ) where
 irrefl x:=atO.irrefl (x.1,x.2.1)
 trans x y z h1 j:=atO.trans (x.1,x.2.1) (y.1,y.2.1) (z.1,z.2.1) h1 j
 ntrans x y z h1 j:=atO.ntrans (x.1,x.2.1) (y.1,y.2.1) (z.1,z.2.1) h1 j
theorem avQ(x y)(C:ltOf YZ x y=false)(j:ltOf YZ y x=false):x=y:=by have:=axI (x.1,x.2.1) (y.1,y.2.1) C j;simp only[fc]at this;exact jg this.1 (jg this.2 rfl)
theorem It(x y):ω x y=true↔(!(ltOf YZ) y x)=true:=by rw[ltK,jH,RB];simp only[ω,fQ,aD,bg,gT];omega
theorem adj(l):l.mergeSort (λx y=>!(ltOf YZ) y x)=Y0 l:=
 s9 (le:=λa b=>(!(ltOf YZ) b a)=true) (λa b _ _ C j=>avQ a b (by simpa using j) (by simpa using C))
  (List.pairwise_mergeSort (λa b c C j=>(It a c).1 (alB ((It a b).2 C) ((It b c).2 j))) (λa b=>by
   rw[fQ,<-It,<-It];cases h:ω a b with
   |true=>exact .inl rfl
   |false=>exact .inr (afD h)) l) ((Tj l).imp λh=>(It _ _).1 h) ((List.mergeSort_perm l _).trans (DE l).symm)
def aaa(x:à):List Value:=[.int .i64 x.1,.int .i64 x.2.1]
theorem arT(x:à):∀v∈aaa x,v.oneCell'=true:=by intro v hv;simp[aaa]at hv;rcases hv with rfl|rfl<;>rfl
theorem alC(x y)(W):Calls Tryz.prog 448 #[.agg (aaa x).toArray,.agg (aaa y).toArray] W λe w'=>e=.returned (.int .i64 (YZ x y))/\G2 W w':=apE (x.1,x.2.1) (y.1,y.2.1) W
theorem call162(iN off C:Nat)(d:Array à)(w:World)(G:HoldsK aaa 2 w iN off d)(j:iN<w.heap.size)(F:d.size<4611686018427387904):
 Calls Tryz.prog 447 #[.slice (some ⟨iN,off,none⟩) d.size C,.func (.func 448) #[] #[]] w λe w'=>e=.returned (.tuple #[])/\∃n os,w'=sortWorldK aaa 2 w iN off n (Y0 d.toList).toArray os:=by
 rw[<-adj];exact AnyQ.slices_SortFunc_total Tryz.arS 2 (λw=>by kernel_rfl) (λw=>by kernel_rfl) aaa (λ_=>rfl) arT YZ axJ 448 #[] iN off C d w (enters_of Tryz.func448 (by kernel_rfl) rfl) (λ_ _ _ _ x y=>alC x y _) G j F avQ
theorem Tk{l l':List à}(h:Az l=some l'):l.length<4611686018427387904/\l'=Y0 l:=by
 unfold Az at h;rcases xV h with⟨h1,j⟩|⟨_,j⟩
 .exact⟨bP h1,(cK j).symm⟩
 .cases j
def adk:KC Tryz.prog:=⟨447,λ_=>.mu ⟨37,tU0,[.fn 448 []],λl _=>Az l⟩,af9 (enc:=aaa) (λ_=>rfl) arT (λU w x us=>by
 simp only[DT.h];constructor
 .rintro⟨G,F,rfl,rfl,C,y,rfl,rfl,rfl⟩;rfl
 .rintro rfl;exact⟨_,_,rfl,rfl,_,_,rfl,rfl,rfl⟩) (λl l' h=>by rw[(Tk h).2];exact(DE l).length_eq) ⟨_,Tryz.func447,by decide +kernel,rfl⟩ (by decide +kernel)
 (λp j w=>AnyF.slices_SortFunc_none Tryz.arS p j _ w)
 (λiN off j l l' w h H hb=>by obtain⟨J,rfl⟩:=Tk h;have:=call162 iN off j l.toArray w H hb (by simpa using J);simp only[fi]at this;exact this)⟩
set_option maxHeartbeats 4000000
def Vy(x y:Int):Int:=if x<y then -1 else if y<x then 1 else 0
theorem YX(x)(W):Calls Tryz.prog 299 #[.int .i64 x] W λe w'=>e=.returned (.bool false)/\w'=W:=by go_enter Tryz.func299,Tryz.ntmps299;go_wp2;go_ret;exact⟨rfl,rfl⟩
theorem al5(x)(W):Calls Tryz.prog 376 #[.int .i64 x] W λe w'=>e=.returned (.bool false)/\w'=W:=by go_enter Tryz.func376,Tryz.ntmps376;go_wp2;go_ret;exact⟨rfl,rfl⟩
theorem ν(x y:Int)(W:World):Calls Tryz.prog 205 #[.int .i64 x,.int .i64 y] W λe w'=>e=.returned (.int .i64 (Vy x y))/\w'=W:=by
 unfold Vy;by_cases h:x<y
 .rw[ah h];go_enter Tryz.func205,Tryz.ntmps205;go_wp2_with (go_at_call 299;(refine(YX _ _).mono ?_;rintro e w' ⟨rfl,rfl⟩));go_ret;exact⟨rfl,rfl⟩
 .rw[ag h];by_cases h2:y<x
  .rw[ah h2];go_enter Tryz.func205,Tryz.ntmps205;go_wp2_with (go_at_call 299;(refine(YX _ _).mono ?_;rintro e w' ⟨rfl,rfl⟩));go_ret;exact⟨rfl,rfl⟩
  .rw[ag h2];go_enter Tryz.func205,Tryz.ntmps205;go_wp2_with (go_at_call 299;(refine(YX _ _).mono ?_;rintro e w' ⟨rfl,rfl⟩));go_ret;exact⟨rfl,rfl⟩
theorem aih(x y:Int)(W:World):Calls Tryz.prog 308 #[.int .i64 x,.int .i64 y] W λe w'=>e=.returned (.int .i64 (Vy x y))/\w'=W:=by
 unfold Vy;by_cases h:x<y
 .rw[ah h];go_enter Tryz.func308,Tryz.ntmps308;go_wp2_with (go_at_call 376;(refine(al5 _ _).mono ?_;rintro e w' ⟨rfl,rfl⟩));go_ret;exact⟨rfl,rfl⟩
 .rw[ag h];by_cases h2:y<x
  .rw[ah h2];go_enter Tryz.func308,Tryz.ntmps308;go_wp2_with (go_at_call 376;(refine(al5 _ _).mono ?_;rintro e w' ⟨rfl,rfl⟩));go_ret;exact⟨rfl,rfl⟩
  .rw[ag h2];go_enter Tryz.func308,Tryz.ntmps308;go_wp2_with (go_at_call 376;(refine(al5 _ _).mono ?_;rintro e w' ⟨rfl,rfl⟩));go_ret;exact⟨rfl,rfl⟩
def or2(a b:Int):Int:=if a=0 then b else a
theorem avO(W)(bl)(h0:W.cell? ⟨bl,0,none⟩=some (.int .i64 0))(h1:W.cell? ⟨bl,1,none⟩=some (.int .i64 0)):Calls Tryz.prog 204 #[.slice (some ⟨bl,0,none⟩) 2 2] W λe w'=>e=.returned (.int .i64 0)/\w'=W:=by
 go_enter Tryz.func204,Tryz.ntmps204;go_wp2
 go_rounds 3
 repeat (apply_assumption;go_wp2;try (rw[rounds_succ];go_wp2))
 go_ret;exact⟨rfl,rfl⟩
theorem avP{b}(hb:b≠0)(W)(bl)(h0:W.cell? ⟨bl,0,none⟩=some (.int .i64 0))(h1:W.cell? ⟨bl,1,none⟩=some (.int .i64 b)):Calls Tryz.prog 204 #[.slice (some ⟨bl,0,none⟩) 2 2] W λe w'=>e=.returned (.int .i64 b)/\w'=W:=by
 go_enter Tryz.func204,Tryz.ntmps204;go_wp2
 go_rounds 3
 go_ret;exact⟨rfl,rfl⟩
theorem axE{a b}(ha:a≠0)(W)(bl)(h0:W.cell? ⟨bl,0,none⟩=some (.int .i64 a))(_:W.cell? ⟨bl,1,none⟩=some (.int .i64 b)):Calls Tryz.prog 204 #[.slice (some ⟨bl,0,none⟩) 2 2] W λe w'=>e=.returned (.int .i64 a)/\w'=W:=by
 go_enter Tryz.func204,Tryz.ntmps204;go_wp2
 go_rounds 3
 go_ret;exact⟨rfl,rfl⟩
theorem axF(a b:Int)(W:World)(bl:Nat)(y:W.cell? ⟨bl,0,none⟩=some (.int .i64 a))(j:W.cell? ⟨bl,1,none⟩=some (.int .i64 b)):Calls Tryz.prog 204 #[.slice (some ⟨bl,0,none⟩) 2 2] W λe w'=>e=.returned (.int .i64 (or2 a b))/\w'=W:=by
 unfold or2;by_cases h:a=0
 .rw[ah h];subst h;by_cases C:b=0
  .subst C;exact avO W bl y j
  .exact avP C W bl y j
 .rw[ag h];exact axE h W bl y j
theorem ξ(W:World)(a:Array Value)(s:TypeId)(j:Nat):(W.alloc (.cells a s)).cell? ⟨W.heap.size,j,none⟩=a[j]?:=by
 have h:(W.alloc (.cells a s)).heap[W.heap.size]?=some (.cells a s):=by show(W.heap.push _)[W.heap.size]?=_;rw[y9];simp
 unfold World.cell?;simp only[h];rfl
theorem G2.drew(W:World):G2 W W.drew:=⟨1,#[],by simp only[grow,World.drewN,World.drew,Array.append_empty]⟩
def apB(x y:Int×Int×Int):Int:=or2 (Vy y.2.2 x.2.2) (Vy x.1 y.1)
theorem apC(x y:Int×Int×Int)(W:World):Calls Tryz.prog 518 #[.agg #[.int .i64 x.1,.int .i64 x.2.1,.int .i64 x.2.2],.agg #[.int .i64 y.1,.int .i64 y.2.1,.int .i64 y.2.2]] W λe w'=>e=.returned (.int .i64 (apB x y))/\G2 W w':=by
 have⟨x1,x2,x3⟩:=x;have⟨y1,y2,y3⟩:=y;have hc:apB (x1,x2,x3) (y1,y2,y3)=or2 (Vy y3 x3) (Vy x1 y1):=rfl;rw[hc];have c1:=ν;have c2:=aih;have c3:=axF;generalize Vy=f at c1 c2;generalize or2=g at c3;go_enter Tryz.func518,Tryz.ntmps518;go_wp2;have hG:G2 W (World.drew ((W.alloc (.cells #[.int .i64 x1,.int .i64 x2,.int .i64 x3] 550)).alloc (.cells #[.int .i64 y1,.int .i64 y2,.int .i64 y3] 550))):=((G2.alloc _ _).trans (G2.alloc _ _)).trans (G2.drew _);have hb:∀j,(World.drew ((W.alloc (.cells #[.int .i64 x1,.int .i64 x2,.int .i64 x3] 550)).alloc (.cells #[.int .i64 y1,.int .i64 y2,.int .i64 y3] 550))).cell? ⟨W.heap.size,j,none⟩ = #[Value.int .i64 x1,.int .i64 x2,.int .i64 x3][j]?:=λj=>W0 W _ _ _ _ 1 #[] j
 have hb':∀j,(World.drew ((W.alloc (.cells #[.int .i64 x1,.int .i64 x2,.int .i64 x3] 550)).alloc (.cells #[.int .i64 y1,.int .i64 y2,.int .i64 y3] 550))).cell? ⟨W.heap.size+1,j,none⟩ = #[Value.int .i64 y1,.int .i64 y2,.int .i64 y3][j]?:=λj=>W3 W _ _ _ _ 1 #[] j
 generalize ((W.alloc (.cells #[.int .i64 x1,.int .i64 x2,.int .i64 x3] 550)).alloc (.cells #[.int .i64 y1,.int .i64 y2,.int .i64 y3] 550))=X at *;refine wp_region_still_tail 10 (by kernel_rfl) (by kernel_rfl) ?_;have eD:({ heap:=X.heap,tape:=X.tape,drawn:=X.drawn+1,os:=X.os,output:=X.output }:World)=X.drew:=rfl;rw[eD];generalize X.drew=V at *;have a0:=hb 0;have a2:=hb 2;have b0:=hb' 0;have b2:=hb' 2;simp only[oU,List.take_zero,sG,ry];repeat still_step
 still_call (c1 _ _ _)
 repeat still_step
 still_call (c2 _ _ _)
 refine wpStill_nil ?_;go_wp2_with (go_at_call 204;(refine(c3 (f y3 x3) (f x1 y1) _ _ ?_ ?_).mono ?_;rotate_right;rintro e w' ⟨rfl,rfl⟩))
 .go_ret;exact⟨rfl,hG.trans (G2.alloc _ _)⟩
 .exact ξ V _ _ 0
 .exact ξ V _ _ 1
def Tryz.aim:Go.Shelf.Ren:=⟨λ|6=>517|15=>417|14=>523|28=>466|29=>467|20=>525|21=>526|22=>527|23=>528|24=>529|25=>530|26=>531|27=>532|46=>533|47=>491|48=>492|49=>534|50=>535|57=>536|n=>n,λ|22=>546|24=>550|25=>552|3=>3|39=>201|0=>0|53=>504|55=>89|4=>4|46=>498|45=>497|50=>273|5=>5|9=>9|66=>522|70=>526|76=>541|77=>542|n=>n,λn=>n⟩
open _root_.Go.Proofs.Tryz in
theorem Tryz.arO:SlLaysF0.n6 Tryz.prog Tryz.aim:=⟨by kernel_rfl,NH func517,NH func523,func417.trans (bS some (by kernel_rfl)),NH func525,NH func526,NH func527,NH func528,NH func529,NH func530,NH func531,NH func532,func466.trans (bS some (by kernel_rfl)),func467.trans (bS some (by kernel_rfl)),NH func533,func491.trans (bS some (by kernel_rfl)),func492.trans (bS some (by kernel_rfl)),NH func534,NH func535,NH func536,underlying0,isAgg0,sizeOf0,zeroValue0,underlying3,isAgg3,sizeOf3,zeroValue3,underlying4,isAgg4,sizeOf4,zeroValue4,underlying5,isAgg5,sizeOf5,zeroValue5,underlying9,isAgg9,sizeOf9,zeroValue9,underlying546,isAgg546,sizeOf546,zeroValue546,underlying552,isAgg552,sizeOf552,zeroValue552,underlying201,isAgg201,sizeOf201,zeroValue201,underlying497,isAgg497,sizeOf497,zeroValue497,underlying498,isAgg498,sizeOf498,zeroValue498,underlying273,isAgg273,sizeOf273,zeroValue273,underlying504,isAgg504,sizeOf504,zeroValue504,underlying89,isAgg89,sizeOf89,zeroValue89,underlying522,isAgg522,sizeOf522,zeroValue522,underlying526,isAgg526,sizeOf526,zeroValue526,underlying541,isAgg541,sizeOf541,zeroValue541,underlying542,isAgg542,sizeOf542,zeroValue542⟩
def aii(x y:CM):Int:=apB (x.1,x.2.1,x.2.2.1) (y.1,y.2.1,y.2.2.1)
theorem ltR(x y):ltOf aii x y=true↔y.2.2.1<x.2.2.1\/(x.2.2.1=y.2.2.1/\x.1<y.1):=by
 unfold ltOf aii apB or2 Vy;simp only[bg]
 repeat' split
 all_goals omega
theorem al6(x y):ltOf aii x y=false↔x.2.2.1<y.2.2.1\/(x.2.2.1=y.2.2.1/\y.1<=x.1):=by rw[<-xi,ltR];omega
theorem axG:SWO (ltOf aii) where
 irrefl x:=by rw[al6];omega
 trans x y z h1 j:=by rw[ltR]at *;omega
 ntrans x y z h1 j:=by rw[al6]at *;omega
def π(x:CM):List Value:=[.int .i64 x.1,.int .i64 x.2.1,.int .i64 x.2.2.1]
theorem arN(x):∀v∈π x,v.oneCell'=true:=by intro v hv;simp[π]at hv;rcases hv with rfl|rfl|rfl<;>rfl
theorem al7(x y)(W):Calls Tryz.prog 518 #[.agg (π x).toArray,.agg (π y).toArray] W λe w'=>e=.returned (.int .i64 (aii x y))/\G2 W w':=apC (x.1,x.2.1,x.2.2.1) (y.1,y.2.1,y.2.2.1) W
theorem call517(iN off cap)(l l')(w:World)(h:tO l=some l')(hH:HoldsK π 3 w iN off l.toArray)(H:iN<w.heap.size):
 Calls Tryz.prog 517 #[.slice (some ⟨iN,off,none⟩) l.length cap,.func (.func 518) #[] #[]] w λe w'=>e=.returned (.tuple #[])/\∃n os,w'=sortWorldK π 3 w iN off n l'.toArray os:=by
 obtain⟨h1,h2,rfl⟩:=PL h;have hh:=AnyQ.slices_SortFunc Tryz.arO 3 (λw=>by kernel_rfl) (λw=>by kernel_rfl) π (λ_=>rfl) arN aii axG 518 #[] iN off cap l.toArray w (enters_of Tryz.func518 (by kernel_rfl) rfl) (λ_ _ _ _ x y=>al7 x y _) hH H (by simpa using h1);simp only[fi]at hh;refine hh.mono λ_ _ ⟨he,F,n,os,X,hs,W⟩=>⟨he,n,os,?_⟩
 rw[W];congr 1;have⟨J,_,C⟩:=X;have G:F.size=l.length:=by simpa using J
 have e1:F.extract 0 l.length=F:=by rw[<-G];exact Array.extract_size
 have e2:l.toArray.extract 0 l.length=l.toArray:=by simp
 rw[e1,e2]at C
 have:=apD ((Td l).1 h2) (l':=F.toList) C (by
  rw[bN];intro i j hi Y R;have V:i<F.size:=by simpa using hi
  have K:j<F.size:=by simpa using Y
  have:=hs i j (br _) R (by omega);rw[lZ F j K,lZ F i V,al6]at this;rw[Ir,Array.getElem_toList,Array.getElem_toList];omega)
 rw[<-this]
def τ:KC Tryz.prog:=⟨517,λ_=>.mu ⟨550,tQ0,[.fn 518 []],λl _=>tO l⟩,af9 (enc:=π) (λ_=>rfl) arN (λU w x us=>by
 simp only[DT.h];constructor
 .rintro⟨K,J,rfl,rfl,H,G,rfl,rfl,F,C,rfl,rfl,rfl⟩;rfl
 .rintro rfl;exact⟨_,_,rfl,rfl,_,_,rfl,rfl,_,_,rfl,rfl,rfl⟩) (λl l' h=>by rw[(PL h).2.2];exact(rG l).length_eq) ⟨_,Tryz.func517,by decide +kernel,rfl⟩ (by decide +kernel)
 (λp j w=>AnyF.slices_SortFunc_none Tryz.arO p j _ w)
 (λiN off j l l' w h y hb=>by have R:tQ0.size=3:=rfl;rw[R]at y ⊢;have:=call517 iN off j l l' w h y hb;exact this)⟩
def Tryz.adb:Go.Shelf.Ren:=⟨λ|4=>446|n=>n,λ|22=>31|25=>94|3=>3|4=>4|9=>9|20=>20|0=>0|n=>n,λn=>n⟩
theorem Tryz.als:Lays8.n4 Tryz.prog Tryz.adb where
 mixed:=by kernel_rfl
 f4:=⟨Tryz.f446.name,by decide +kernel,Tryz.func446.trans (bS some (by kernel_rfl))⟩
 t0:=Tryz.underlying0
 a0:=Tryz.isAgg0
 z0:=Tryz.sizeOf0
 v0:=Tryz.zeroValue0
 t3:=Tryz.underlying3
 a3:=Tryz.isAgg3
 z3:=Tryz.sizeOf3
 v3:=Tryz.zeroValue3
 t4:=Tryz.underlying4
 a4:=Tryz.isAgg4
 z4:=Tryz.sizeOf4
 v4:=Tryz.zeroValue4
 t9:=Tryz.underlying9
 a9:=Tryz.isAgg9
 z9:=Tryz.sizeOf9
 v9:=Tryz.zeroValue9
 t20:=Tryz.underlying20
 a20:=Tryz.isAgg20
 z20:=Tryz.sizeOf20
 v20:=Tryz.zeroValue20
 t22:=Tryz.underlying31
 a22:=Tryz.isAgg31
 z22:=Tryz.sizeOf31
 v22:=Tryz.zeroValue31
open Go.Lib
theorem ap6{l}{n}{o}(h:PI l n=some o):∃k:Nat,n=k/\(l.length+k)*24<=140737488355328/\o=(l,()):=by
 unfold PI at h;rcases xV h with⟨j,h⟩|⟨_,h⟩
 .simp only[aD,bg]at j;have y:=cK h;obtain⟨k,rfl⟩:=cR j.1;exact⟨k,rfl,by omega,y.symm⟩
 .cases h
theorem alt:Oe Tryz.prog 31 94 3 24:=WX (by kernel_rfl) (by kernel_rfl) (by decide)
theorem S':rI Tryz.prog 446:=⟨_,Tryz.func446,by decide +kernel,rfl⟩
theorem ap7:ada Tryz.prog 446 ⟨[],[.row 94 tF0,.v (.int .i64)],[],.own 94 tF0,λz=>PI z.1 z.2.1⟩:=by
 rintro⟨l,n,⟨⟩⟩ o ho U0 B A vs w m hv;obtain⟨n,rfl,hbig,rfl⟩:=ap6 (show PI l n=some o from ho);have hv:=hv;have m:=m;show pG Tryz.prog 446 vs.toArray w λv w'=>∃B' A' r pb' rw',Mem w U0 (Ow B A [] [.own 94 tF0 l]) B' A' pb' rw' w'/\r.h (env U0 B' A' pb' rw' w') v/\(∀i,live [] i->live pb' i/\B' i=B i)/\pb'=[]/\(r,rw')=(DV.row 0,[DR.own 94 tF0 l])
 simp only[hL,DV.h]at hv;obtain⟨_,_,rfl,⟨e,t,l2,C,rfl⟩,_,_,rfl,rfl,rfl⟩:=hv;have C:some (DR.own 94 tF0 l)=some (.own e t l2):=C;simp only[ak,DR.own.injEq]at C;obtain⟨rfl,rfl,hl2⟩:=C;cases hl2;have⟨us,ho,J⟩:=m.row 0 94 tF0 l rfl;have hoo:=ho;have⟨y,ho⟩:=ho;have y:us.length=l.length*3:=y;have⟨i0,z,hi0,hz0,R,hby,hzs⟩:=alt.info
 have hcs:∃cs:List Value,cs.length=(A 0).2*3/\((A 0).1=none->(A 0).2=0)/\(∀a,(A 0).1=some a->∀j v,cs[j]?=some v->w.cell? (a.add j)=some v)/\cs.take (l.length*3)=us/\l.length<=(A 0).2/\(A 0).2<=maxLen:=by
  rcases ho with⟨hn,K⟩|⟨g,cap,X,W,hbase,hg,hn1,hn2,hn3,hn4⟩
  .simp only[gA]at hn;have⟨e1,e2,H⟩:=hn;have hu0:=dX.1 (by rw[y,e2]);exact⟨[],by rw[H];rfl,λ_=>H,λa _ j v h=>by simp at h,by rw[hu0];simp,by omega,by rw[H];exact br _⟩
  .simp only[gA]at W;have⟨e1,_,H⟩:=W;refine⟨X.toList,by rw[fH,H];exact hn3,λh=>(by rw[e1]at h;cases h),λa ha j v hv=>?_,hn4,by rw[H];exact hn1,by rw[H];exact hn2⟩;rw[e1]at ha;simp only[ak]at ha;subst ha;rw[vE,cq,CB w g j X 94 (0,0) hg];simpa using hv
 have⟨cs,c1,c2,c3,c4,c5,c6⟩:=hcs;by_cases F:l.length+n<=(A 0).2
 .refine⟨.inl ⟨S',(Any8.slices_Grow_room Tryz.als (A 0).1 l.length (A 0).2 n w c5 (by rw[iE]at c6;exact c6) (by omega) F).mono λe w' ⟨he,hw⟩=>⟨_,he,?_⟩⟩⟩;subst hw;exact DC m ⟨rfl,rfl,rfl,au _⟩ (λ_ _ _=>rfl) (λx K=>.inl ⟨x,K,rfl⟩) λU' lt=>⟨us,hoo,DT.lR lt J⟩
 .refine⟨.inl ⟨S',(Any8.slices_Grow_grow Tryz.als i0 z hi0 hz0 (by rw[R];decide) (A 0).1 l.length (A 0).2 n cs w c5 (by omega) (by rw[hby];omega) (by omega) (by rw[R];exact c1) c2 c3).mono λe w' ⟨he,hw⟩=>⟨_,he,?_⟩⟩⟩;subst hw;have V:=CC w (l.length+n) (A 0).2 94;have hg2:=pV w (l.length+n) (A 0).2 94 (by rw[iE];omega);refine DC m ⟨rfl,rfl,rfl,by simp⟩ (λb hb _=>Im w.drew _ b hb) (λx K=>.inr (by simp only[ak]at K;subst K;exact⟨au _,by simp⟩)) λU' lt=>⟨us,atC (kQ w.drew _) ?_ (λt u Y=>?_) y (cn (Nat.le_add_right _ _) V) hg2,DT.lR lt J⟩
  .have e9:∀G c m:Nat,m<=G->c<=m->c+(m-c)+(G-m)=G:=λG c m h1 h2=>by omega
   have:=e9 (grownCap w (l.length+n) (A 0).2 94) (A 0).2 (l.length+n) V (by omega);rw[iZ,iZ,size_zeroCells,size_zeroCells,hzs,fi,c1,<-iY,<-iY];exact bS (· * 3) this
  .rw[rv (w:=w.drew) _ _ w.heap.size t rfl]
   have h1:cs[t]?=some u:=by
    rw[<-c4,cD]at Y;split at Y
    .exact Y
    .cases Y
   have h2:=(aC.1 h1).1;rw[mR (by rw[iZ,fi];omega),mR (by rw[fi];exact h2)];simpa using h1
def atG:KC Tryz.prog:=⟨446,λ_=>.ls ⟨[],[.row 94 tF0,.v (.int .i64)],[],.own 94 tF0,λz=>PI z.1 z.2.1⟩,ap7⟩
end Go.Proofs.YthghpahghjppjaaGreat
namespace Go.Vc
open Go Go.RowKit Go.Lib
theorem sR(b)(vs)(o:Nat)(w:World)(h:∀j,j<vs.length->(w.cell? ⟨b,o+j,none⟩).isSome=true)(k:Nat)(y:(w.cell? ⟨b,k,none⟩).isSome=true):((w.setCells b o vs).cell? ⟨b,k,none⟩).isSome=true:=by
 by_cases C:o<=k/\k<o+vs.length
 .have:=ib b vs o w h (k-o) (by omega);rw[show o+(k-o)=k by omega]at this;rw[this];rfl
 .rw[dw b vs o w ⟨b,k,none⟩ (λ_ _=>by dsimp only;omega)];exact y
theorem QE{P}(w)(t e ty)(z)(C:P.underlying t=some (.slice e))(hv:∀w,(zeroValue e).run P w=.ok z w)(b o n c)(J:0<n)
 (G:∀j,j<(Builtin.zeroCells z.cells n).toList.length->(w.cell? ⟨b,o+j,none⟩).isSome=true) (F:∀j,j<(Builtin.zeroCells z.cells n).toList.length->w.frozen? ⟨b,o+j,none⟩=false) (H:∀v∈(Builtin.zeroCells z.cells n).toList,v.oneCell'=true):
 (Builtin.clear_ #[t] ty #[.slice (some ⟨b,o,none⟩) n c]).run P w=.ok (.tuple #[]) (w.setCells b o (Builtin.zeroCells z.cells n).toList):=by
 have y:=yx (P:=P) b o (Builtin.zeroCells z.cells n).toList 0 w (by simpa using G) (by simpa using F) H;obtain⟨m,rfl⟩:∃m,n=m+1:=⟨n-1,by omega⟩;simp[Builtin.clear_,bb C,hv,y]
end Go.Vc
namespace Go.Vc
open Go Go.RowKit Go.Lib
theorem Og{P}(w)(G tR e)(ht:P.underlying G=some (.slice e))(size)(hz:∀w,(Go.sizeOf e).run P w=.ok size w)
 (a b) (Y ca X cb) (J:a.block≠b.block) (u) (j) (C:w.cell? (a.add j)=some u) (F) (eb) (hb:w.heap[b.block]?=some (.cells F eb (0,0))):
 (Extern.SlicesOverlaps.overlaps #[G,G] #[tR] #[.slice (some a) Y ca,.slice (some b) X cb]).run P w=.ok (.bool false) w:=by
 have hnb:(a.block != b.block)=true:=by simpa using J
 have K:(a.block==b.block)=false:=by simpa using J
 obtain⟨y,ea,fa,ha,h0⟩:∃y ea fa,w.heap[a.block]?=some (.cells y ea fa)/\0<y.size:=by
  unfold World.cell? at C;rw[jK]at C;split at C
  .rename_i c e f h;refine⟨c,e,f,h,?_⟩;split at C
   .cases C
   .have:=(cy.1 C).1; omega
  .cases C
 have H:w.shape? a.block=some (ea,y.size):=by simp[World.shape?,ha]
 have hsb:w.shape? b.block=some (eb,F.size):=by simp[World.shape?,hb]
 have hfb:w.frozen? b=false:=by simp[World.frozen?,hb]
 have R:w.frozen? { block:=b.block,off:=F.size }=false:=by simp[World.frozen?,hb]
 change Sem.run P (α:=Value) (do
  let some t:=(#[G,G]:Array TypeId)[0]? | stuck "slices.overlaps: no parameter types"
  let .slice elem <-underlying t|stuck "slices.overlaps: slice type expected"
  let size <-sizeOf elem
  match (some a:Option Addr),(some b:Option Addr) with
  |some a,some b=>
   if Y=0\/X=0\/size=0 then pure (Value.bool false)
   else if a.block != b.block&&(<-frozen a)&&(<-frozen b) then unsupported .addressObserved
   else do
    if a.block != b.block then do
     noView a; noView b
     if <-mayBeOne a b then return Value.bool ((<-choose (.extern "sameAddr.stringBytes" 2))==1)
    pure (Value.bool (a.block==b.block&&a.off<b.off+X*size&&b.off<a.off+Y*size))
  |_,_=>pure (Value.bool false)) w=_
 by_cases W:Y=0\/X=0\/size=0
 .simp[bb ht,hz,W]
 .obtain⟨k,hk⟩:∃k,y.size=k+1:=⟨y.size - 1,by omega⟩;rw[hk]at H;cases hfa:w.frozen? a<;>cases V:w.frozen? { block:=a.block,off:=k+1 }<;>simp[bb ht,hz,W,hnb,K,frozen,noView,viewAt,mayBeOne,stringish,shape,Sem.run,H,hsb,hfa,hfb,V,R]
theorem xu{P}(w)(K R ty elem)(i0)(b o C H)(a)(y F)(cs)
 (V:P.underlying K=some (.slice elem)) (hs:P.info? elem=some i0) (m) (hm:m=Nat.min y C) (W:cs.length=m*i0.size)
 (G:∀j v,cs[j]?=some v->w.cell? (a.add j)=some v) (Y:∀j,j<cs.length->(w.cell? ⟨b,o+j,none⟩).isSome=true) (X:∀j,j<cs.length->w.frozen? ⟨b,o+j,none⟩=false) (h1:∀v∈cs,v.oneCell'=true):
 (Builtin.copy_ #[K,R] ty #[.slice (some ⟨b,o,none⟩) C H,.slice (some a) y F]).run P w=.ok (goInt m) (w.setCells b o cs):=by
 have hl:=run_loadCells_list (P:=P) w a cs G;have J:=yx (P:=P) b o cs 0 w (by simpa using Y) (by simpa using X) h1;subst hm;simp[Builtin.copy_,bb V,Builtin.lenOf,Builtin.firstCells,sizeOf,typeInfo,hs,<-W,hl,J]
end Go.Vc
namespace Go.Vc
open Go Go.RowKit Go.Lib
theorem YR(w:World){P:Program}{o:Oper}{a:Act}{K:Act->World->Prop}{Q:Exit->Act->World->Prop}(d s:Operand)(t y:TypeId)
 (ho:o.op=.call { callee:=.builtin .copy,args := #[d,s],argTypes := #[t,y] }) (v u:Value) (F:a.eval d=v) (hs:a.eval s=u) {j:Value} {w':World}
 (C:(Builtin.copy_ #[t,y] o.type #[v,u]).run P w=.ok j w') (h:K (a.put o.dst j) w'):o.wp P a w K Q:=by
 unfold Oper.wp execOp;simp only[ho,resolve,invoke,builtin,aR,bE,bq,List.map_toArray,bI,pW,F,hs,C];exact h
theorem wN(w:World){P:Program}{ops:Array Oper}{j:List Oper}{o:Oper}{a:Act}{Q:Exit->Act->World->Prop}(C:o.guard=none)(d s:Operand)(t y:TypeId)
 (ho:o.op=.call { callee:=.builtin .copy,args := #[d,s],argTypes := #[t,y] }) (v u:Value) (H:a.eval d=v) (hs:a.eval s=u) {F:Value} {w':World}
 (G:(Builtin.copy_ #[t,y] o.type #[v,u]).run P w=.ok F w') (h:wpList P ops Q j (a.put o.dst F) w'):wpList P ops Q (o::j) a w:=
 wpList_plain C λ_ J=>YR w d s t y ho v u H hs G (J _ _ h)
theorem GX{P}{ops}{o}{a}{w}{K}{Q}{E:Prop}
 (R:o.guard=none) (d x:Operand) (F C:TypeId) (j:o.op=Op.call { callee:=Callee.builtin Builtin.copy,args := #[d,x],argTypes := #[F,C] })
 (v u:Value) (V:a.eval d=v) (G:a.eval x=u) {y:Value} {w':World} (J:(Builtin.copy_ #[F,C] o.type #[v,u]).run P w=.ok y w') (W:K (a.put o.dst y) w'):
 if Region.wanted o (yielded ops a.tmps)=true then Oper.wp P o a w K Q else E:=by
 have H:Region.wanted o (yielded ops a.tmps)=true:=by simp[Region.wanted,R]
 rw[ah H];unfold Oper.wp;simp[execOp,j,resolve,invoke,builtin,V,G,J,Result.andThen];exact W
end Go.Vc
namespace Go.Vc
open Go Go.RowKit Go.Lib
theorem Oh{W:World}{g i k n:Nat}{us vs:List Value}(F:us.length=n*k)(hv:vs.length=k)(hi:i<=n)
 (K:∀t u,t<i*k->us[t]?=some u->W.cell? ⟨g,t,none⟩=some u) (J:∀t u,vs[t]?=some u->W.cell? ⟨g,i*k+t,none⟩=some u)
 (H:∀t u,(us.drop (i*k))[t]?=some u->W.cell? ⟨g,(i+1)*k+t,none⟩=some u):
 ∀t u,(us.take (i*k)++(vs++us.drop (i*k)))[t]?=some u->W.cell? ⟨g,t,none⟩=some u:=by
 intro t u j;have G:=dE k hi;have y:(us.take (i*k)).length=i*k:=by rw[bf,F];omega
 by_cases C:t<i*k
 .rw[bC (by omega),dN C]at j;exact K t u C j
 .rw[dP (by omega),y]at j;by_cases R:t-i*k<vs.length
  .rw[bC R]at j;have:=J _ u j
   rwa [show i*k+(t-i*k)=t by omega]at this
  .rw[dP (by omega)]at j;have:=H _ u j;rw[iY,Cp,hv]at this
   rwa [show i*k+k+(t-i*k-k)=t by omega]at this
theorem RA{k}{e}{t}(W:t.size=k){l}{x:t.den}{U0}{B}{A:yH}{w w':World}{g H i:Nat}{us vs:List Value}{G:Array Value}
 (m:Mem w U0 (Ow B A [] [.own e t l]) B A [] [.own e t l] w) (j:t.hs (Us U0 B A [] [.own e t l]) w l us) (C:t.h (Us U0 B A [] [.own e t l]) w x vs) (hi:i<=l.length)
 (e1:w'.os=w.os) (e2:w'.tape=w.tape) (e3:w'.output=w.output) (e4:w.heap.size<=w'.heap.size) (e5:∀b,b<w.heap.size->(∀ad,(A 0).1=some ad->ad.block≠b)->w'.heap[b]?=w.heap[b]?) (e6:w.heap.size<=g\/∃ad,(A 0).1=some ad/\ad.block=g)
 (V:w'.heap[g]?=some (.cells G e (0,0))) (hs:G.size=H*k) (Y:∀n u,(us.take (i*k)++(vs++us.drop (i*k)))[n]?=some u->w'.cell? ⟨g,n,none⟩=some u) (hn:l.length+1<=H) (hm:H<=maxLen):
 ∃B' A' r pb' rw',Mem w U0 (Ow B A [] [.own e t l]) B' A' pb' rw' w'/\r.h (env U0 B' A' pb' rw' w') (.slice (some ⟨g,0,none⟩) (l.length+1) H)/\(∀i,live [] i->live pb' i/\B' i=B i)/\pb'=[]/\(r,rw')=(DV.row 0,[DR.own e t (l.take i++x::l.drop i)]):=by
 subst W;have F:(l.take i++x::l.drop i).length=l.length+1:=by rw[aq,aJ,bf,dS];omega
 have K:=j.1;have J:=t.Av C;rw[<-F];refine DC m ⟨e1,e2,e3,e4⟩ e5 (λy R=>?_) λU' lt=>?_
 .simp only[ak]at R;subst R;rcases e6 with h|h
  .exact .inr ⟨h,(cy.1 V).1⟩
  .exact .inl h
 .have X:=dE t.size hi;refine⟨us.take (i*t.size)++(vs++us.drop (i*t.size)),atC V hs Y ?_ (by omega) hm,?_⟩
  .rw[aq,aq,bf,dS,K,J,F,lY];omega
  .have h2:=DT.EM (DT.Rz (DT.lR lt j) hi) (DT.EM (DT.YS (t.mono lt C)) (DT.af7 (DT.lR lt j) i));simpa using h2
theorem atH{α}{j}{l}{i}{v}{o}(h:Go.Proofs.YthghpahghjppjaaGreat.JF j l i v=some o):∃(a:Nat) (x:α),i=a/\v=[x]/\a<=l.length/\(l.length+1)*j<=140737488355328/\o=(l.take a++x::l.drop a,()):=by
 unfold Go.Proofs.YthghpahghjppjaaGreat.JF at h;rcases xV h with⟨y,h⟩|⟨_,h⟩
 .simp only[aD,bg]at y;have⟨⟨F,G⟩,C⟩:=y;obtain⟨a,rfl⟩:=cR F;split at h
  .rename_i x _;have h:=cK h;exact⟨a,x,rfl,rfl,by omega,bP C,by rw[<-h];rfl⟩
  .cases h
 .cases h
end Go.Vc







