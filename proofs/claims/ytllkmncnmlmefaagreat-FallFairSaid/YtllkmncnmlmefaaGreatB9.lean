import Derived.Test.YtllkmncnmlmefaaGreatB8
import Derived.Test.YtllkmncnmlmefaaGreatProg
import Derived.Lib.SliceRun
import Derived.Lib.SlicesDelete
import Derived.Lib.Overlaps
import Derived.Lib.AppendZerosOnto
import Derived.Laws.Externs
import Derived.Laws.IdiomCopy
import Derived.Laws.NewBlocks
import Derived.Deep.RegionLaw
import Derived.Shelf.RegionOpenPlain
import Derived.WalkKit
import Derived.Shelf.SlSortCmp.WholeK
import Derived.Shelf.SlSortCmp.NoneTotal
import Derived.Shelf.Spec.SlicesGrow
import Derived.Handy
import Derived.StillTailTactics
namespace Go.Proofs.YtllkmncnmlmefaaGreat
open Go Go.Vc Go.RowKit
theorem chkU(e:Bool)(a b:Int)(w:World):(Instr.checkKey e 10000 47 (uV a b)).run Tryz.prog w=.ok () w:=by cases e<;>kernel_rfl
theorem leaves85:zem Tryz.prog 9 47=some [.int .i64,.int .i64]:=by kernel_rfl
theorem uV_inj{a b c d:Int}(h:uV a b=uV c d):a=c∧b=d:=by
 simpa only[uV,Value.agg.injEq,Array.mk.injEq,List.cons.injEq,Value.int.injEq,true_and,and_true]using h
set_option maxRecDepth 100000 in
theorem eqU2(a b c d:Int)(w:World):(Op.equal 47 (uV a b) (uV c d)).run Tryz.prog w=.ok (a==c&&(b==d&&true)) w:=by
 have h:=yed 9 47 _ leaves85 Op.maxDepth (by decide) [.int .i64 a,.int .i64 b] [.int .i64 c,.int .i64 d] (a==c&&(b==d&&true)) rfl w
 have e1:∀a b:Int,wrapV Tryz.prog 47 [.int .i64 a,.int .i64 b]=uV a b:=fun a b=>by kernel_rfl
 rw[e1,e1]at h
 exact h
theorem eqU_t(a b:Int)(w:World):(Op.equal 47 (uV a b) (uV a b)).run Tryz.prog w=.ok true w:=by rw[eqU2]; simp
theorem eqU_f{a b c d:Int}(h:¬(a=c∧b=d))(w:World):(Op.equal 47 (uV a b) (uV c d)).run Tryz.prog w=.ok false w:=by
 rw[eqU2]
 have:(a==c&&(b==d&&true))=false:=by
  cases hh:(a==c&&(b==d&&true)) with
  |false=>rfl
  |true=>simp at hh; exact absurd hh h
 rw[this]
theorem askU(a b:Int)(w:World):∀(es:List MapEntry),(∀e∈es,isU e.key)→∀i,
  ((Instr.findAsking 47 (uV a b) es i).run Tryz.prog w=.ok none w∧∀e∈es,e.key≠uV a b)∨∃j e,(Instr.findAsking 47 (uV a b) es i).run Tryz.prog w=.ok (some (i+j,e.val)) w∧es[j]?=some e∧e.key=uV a b
 |[],_,i=>.inl ⟨rfl,by simp⟩
 |e::es,h,i=>by
  obtain⟨c,d,hy⟩:=h e (by simp)
  by_cases hxy:a=c∧b=d
  ·obtain⟨rfl,rfl⟩:=hxy
   refine .inr ⟨0,e,?_,rfl,hy⟩
   simp only[Instr.findAsking,Sem.run_bind,hy,eqU_t,Result.andThen_ok,if_true,Sem.run_pure,Nat.add_zero]
  ·have e1:(Instr.findAsking 47 (uV a b) (e::es) i).run Tryz.prog w=(Instr.findAsking 47 (uV a b) es (i+1)).run Tryz.prog w:=by
    simp only[Instr.findAsking,Sem.run_bind,hy,eqU_f hxy,Result.andThen_ok,Bool.false_eq_true,if_false]
   rcases askU a b w es (fun e he=>h e (by simp[he])) (i+1) with ⟨h1,h2⟩|⟨j,e',h1,h2,h3⟩
   ·refine .inl ⟨e1.trans h1,fun e' he'=>?_⟩
    rcases List.mem_cons.1 he' with rfl|he'
    ·rw[hy]; exact fun hh=>hxy (let ⟨g1,g2⟩:=uV_inj hh; ⟨g1.symm,g2.symm⟩)
    ·exact h2 e' he'
   ·exact .inr ⟨j+1,e',by rw[e1,h1,show i+1+j=i+(j+1) by omega],by simpa using h2,h3⟩
theorem keyU:KeyOk Tryz.prog 47 where
 check:=by rintro e w v ⟨a,b,rfl⟩; exact chkU e a b w
 find:=by
  rintro w v ⟨a,b,rfl⟩ es hes
  have e1:(Instr.findKey 47 (uV a b) es).run Tryz.prog w=(Instr.findAsking 47 (uV a b) es).run Tryz.prog w:=by
   cases es with
   |nil=>kernel_rfl
   |cons e es=>
    obtain⟨c,d,hy⟩:=hes e (by simp)
    obtain⟨k,v,b⟩:=e
    simp only at hy
    subst hy
    kernel_rfl
  rw[e1]
  rcases askU a b w es hes 0 with h|⟨j,e,h1,h2,h3⟩
  ·exact .inl h
  ·exact .inr ⟨j,e,by rw[h1,Nat.zero_add],h2,h3⟩
 stays:=by
  rintro w v ⟨a,b,rfl⟩
  simp[Instr.keyThatStays,Instr.sameBits,uV]
end Go.Proofs.YtllkmncnmlmefaaGreat
namespace Go.Proofs.YtllkmncnmlmefaaGreat
open Go Go.Vc
def tab:List TI:=[
 ⟨false,.other,0,0,false,[],none⟩,
 ⟨false,.other,0,0,false,[],none⟩,
 ⟨true,.int .i64,1,8,false,[.int .i64 0],some [.int .i64]⟩,
 ⟨true,.int .i64,1,8,false,[.int .i64 0],some [.int .i64]⟩,
 ⟨true,.bool,1,1,false,[.bool false],some [.bool]⟩,
 ⟨true,.int .u8,1,1,false,[.int .u8 0],some [.int .u8]⟩,
 ⟨false,.other,0,0,false,[],none⟩,
 ⟨false,.other,0,0,false,[],none⟩,
 ⟨false,.other,0,0,false,[],none⟩,
 ⟨true,.string,1,16,false,[.string .empty],some [.str]⟩,
 ⟨false,.other,0,0,false,[],none⟩,
 ⟨false,.other,0,0,false,[],none⟩,
 ⟨true,.int .u64,1,8,false,[.int .u64 0],some [.int .u64]⟩,
 ⟨false,.other,0,0,false,[],none⟩,
 ⟨false,.other,0,0,false,[],none⟩,
 ⟨false,.other,0,0,false,[],none⟩,
 ⟨false,.other,0,0,false,[],none⟩,
 ⟨false,.other,0,0,false,[],none⟩,
 ⟨false,.other,0,0,false,[],none⟩,
 ⟨false,.other,0,0,false,[],none⟩,
 ⟨false,.other,0,0,false,[],none⟩,
 ⟨true,.int .i32,1,4,false,[.int .i32 0],some [.int .i32]⟩,
 ⟨true,.slice 118,1,24,false,[.slice none 0 0],none⟩,
 ⟨true,.slice 124,1,24,false,[.slice none 0 0],none⟩,
 ⟨true,.slice 120,1,24,false,[.slice none 0 0],none⟩,
 ⟨true,.slice 60,1,24,false,[.slice none 0 0],none⟩,
 ⟨true,.slice 140,1,24,false,[.slice none 0 0],none⟩,
 ⟨true,.slice 126,1,24,false,[.slice none 0 0],none⟩,
 ⟨true,.slice 128,1,24,false,[.slice none 0 0],none⟩,
 ⟨true,.slice 50,1,24,false,[.slice none 0 0],none⟩,
 ⟨true,.slice 143,1,24,false,[.slice none 0 0],none⟩,
 ⟨true,.slice 55,1,24,false,[.slice none 0 0],none⟩,
 ⟨true,.struct [(0,3,1),(1,22,1),(2,23,1),(3,24,1),(4,25,1),(5,26,1),(6,27,1),(7,28,1),(8,29,1),(9,29,1),(10,30,1),(11,31,1)],12,272,true,[.int .i64 0,.slice none 0 0,.slice none 0 0,.slice none 0 0,.slice none 0 0,.slice none 0 0,.slice none 0 0,.slice none 0 0,.slice none 0 0,.slice none 0 0,.slice none 0 0,.slice none 0 0],none⟩,
 ⟨true,.struct [(0,3,1),(1,22,1),(2,23,1),(3,24,1),(4,25,1),(5,26,1),(6,27,1),(7,28,1),(8,29,1),(9,29,1),(10,30,1),(11,31,1)],12,272,true,[.int .i64 0,.slice none 0 0,.slice none 0 0,.slice none 0 0,.slice none 0 0,.slice none 0 0,.slice none 0 0,.slice none 0 0,.slice none 0 0,.slice none 0 0,.slice none 0 0,.slice none 0 0],none⟩,
 ⟨false,.other,0,0,false,[],none⟩,
 ⟨false,.other,0,0,false,[],none⟩,
 ⟨true,.slice 5,1,24,false,[.slice none 0 0],none⟩,
 ⟨false,.other,0,0,false,[],none⟩,
 ⟨false,.other,0,0,false,[],none⟩,
 ⟨false,.other,0,0,false,[],none⟩,
 ⟨false,.other,0,0,false,[],none⟩,
 ⟨true,.int .i64,1,8,false,[.int .i64 0],some [.int .i64]⟩,
 ⟨false,.other,0,0,false,[],none⟩,
 ⟨false,.other,0,0,false,[],none⟩,
 ⟨false,.other,0,0,false,[],none⟩,
 ⟨false,.other,0,0,false,[],none⟩,
 ⟨true,.struct [(0,3,1),(1,3,1)],2,16,true,[.int .i64 0,.int .i64 0],some [.int .i64,.int .i64]⟩,
 ⟨true,.struct [(0,3,1),(1,3,1)],2,16,true,[.int .i64 0,.int .i64 0],some [.int .i64,.int .i64]⟩,
 ⟨true,.slice 52,1,24,false,[.slice none 0 0],none⟩,
 ⟨true,.struct [(0,47,2),(2,48,1)],3,40,true,[.int .i64 0,.int .i64 0,.slice none 0 0],none⟩,
 ⟨true,.struct [(0,47,2),(2,48,1)],3,40,true,[.int .i64 0,.int .i64 0,.slice none 0 0],none⟩,
 ⟨true,.struct [(0,3,1),(1,2,1)],2,16,true,[.int .i64 0,.int .i64 0],some [.int .i64,.int .i64]⟩,
 ⟨true,.struct [(0,3,1),(1,2,1)],2,16,true,[.int .i64 0,.int .i64 0],some [.int .i64,.int .i64]⟩,
 ⟨true,.slice 57,1,24,false,[.slice none 0 0],none⟩,
 ⟨true,.struct [(0,47,2),(2,53,1)],3,40,true,[.int .i64 0,.int .i64 0,.slice none 0 0],none⟩,
 ⟨true,.struct [(0,47,2),(2,53,1)],3,40,true,[.int .i64 0,.int .i64 0,.slice none 0 0],none⟩,
 ⟨true,.struct [(0,3,1),(1,3,1),(2,2,1)],3,24,true,[.int .i64 0,.int .i64 0,.int .i64 0],some [.int .i64,.int .i64,.int .i64]⟩,
 ⟨true,.struct [(0,3,1),(1,3,1),(2,2,1)],3,24,true,[.int .i64 0,.int .i64 0,.int .i64 0],some [.int .i64,.int .i64,.int .i64]⟩,
 ⟨true,.slice 3,1,24,false,[.slice none 0 0],none⟩,
 ⟨true,.struct [(0,3,1),(1,3,1),(2,3,1),(3,58,1)],4,48,true,[.int .i64 0,.int .i64 0,.int .i64 0,.slice none 0 0],none⟩,
 ⟨true,.struct [(0,3,1),(1,3,1),(2,3,1),(3,58,1)],4,48,true,[.int .i64 0,.int .i64 0,.int .i64 0,.slice none 0 0],none⟩,
 ⟨false,.other,0,0,false,[],none⟩,
 ⟨false,.other,0,0,false,[],none⟩,
 ⟨false,.other,0,0,false,[],none⟩,
 ⟨false,.other,0,0,false,[],none⟩,
 ⟨false,.other,0,0,false,[],none⟩,
 ⟨false,.other,0,0,false,[],none⟩,
 ⟨false,.other,0,0,false,[],none⟩,
 ⟨false,.other,0,0,false,[],none⟩,
 ⟨false,.other,0,0,false,[],none⟩,
 ⟨false,.other,0,0,false,[],none⟩,
 ⟨true,.struct [(0,4,1),(1,36,1)],2,32,true,[.bool false,.slice none 0 0],none⟩,
 ⟨true,.struct [(0,4,1),(1,36,1)],2,32,true,[.bool false,.slice none 0 0],none⟩,
 ⟨false,.other,0,0,false,[],none⟩,
 ⟨false,.other,0,0,false,[],none⟩,
 ⟨false,.other,0,0,false,[],none⟩,
 ⟨false,.other,0,0,false,[],none⟩,
 ⟨false,.other,0,0,false,[],none⟩,
 ⟨false,.other,0,0,false,[],none⟩,
 ⟨false,.other,0,0,false,[],none⟩,
 ⟨false,.other,0,0,false,[],none⟩,
 ⟨false,.other,0,0,false,[],none⟩,
 ⟨false,.other,0,0,false,[],none⟩,
 ⟨false,.other,0,0,false,[],none⟩,
 ⟨false,.other,0,0,false,[],none⟩,
 ⟨false,.other,0,0,false,[],none⟩,
 ⟨false,.other,0,0,false,[],none⟩,
 ⟨false,.other,0,0,false,[],none⟩,
 ⟨false,.other,0,0,false,[],none⟩,
 ⟨false,.other,0,0,false,[],none⟩,
 ⟨false,.other,0,0,false,[],none⟩,
 ⟨false,.other,0,0,false,[],none⟩,
 ⟨false,.other,0,0,false,[],none⟩,
 ⟨false,.other,0,0,false,[],none⟩,
 ⟨false,.other,0,0,false,[],none⟩,
 ⟨true,.slice 107,1,24,false,[.slice none 0 0],none⟩,
 ⟨false,.other,0,0,false,[],none⟩,
 ⟨false,.other,0,0,false,[],none⟩,
 ⟨false,.other,0,0,false,[],none⟩,
 ⟨false,.other,0,0,false,[],none⟩,
 ⟨false,.other,0,0,false,[],none⟩,
 ⟨false,.other,0,0,false,[],none⟩,
 ⟨false,.other,0,0,false,[],none⟩,
 ⟨false,.other,0,0,false,[],none⟩,
 ⟨false,.other,0,0,false,[],none⟩,
 ⟨false,.other,0,0,false,[],none⟩,
 ⟨true,.struct [(0,47,2),(2,47,2),(4,2,1)],5,40,true,[.int .i64 0,.int .i64 0,.int .i64 0,.int .i64 0,.int .i64 0],some [.int .i64,.int .i64,.int .i64,.int .i64,.int .i64]⟩,
 ⟨true,.struct [(0,47,2),(2,47,2),(4,2,1)],5,40,true,[.int .i64 0,.int .i64 0,.int .i64 0,.int .i64 0,.int .i64 0],some [.int .i64,.int .i64,.int .i64,.int .i64,.int .i64]⟩,
 ⟨true,.slice 47,1,24,false,[.slice none 0 0],none⟩,
 ⟨false,.other,0,0,false,[],none⟩,
 ⟨false,.other,0,0,false,[],none⟩,
 ⟨false,.other,0,0,false,[],none⟩,
 ⟨false,.other,0,0,false,[],none⟩,
 ⟨false,.other,0,0,false,[],none⟩,
 ⟨false,.other,0,0,false,[],none⟩,
 ⟨false,.other,0,0,false,[],none⟩,
 ⟨false,.other,0,0,false,[],none⟩,
 ⟨true,.struct [(0,3,1),(1,2,1),(2,3,1),(3,3,1)],4,32,true,[.int .i64 0,.int .i64 0,.int .i64 0,.int .i64 0],some [.int .i64,.int .i64,.int .i64,.int .i64]⟩,
 ⟨true,.struct [(0,3,1),(1,2,1),(2,3,1),(3,3,1)],4,32,true,[.int .i64 0,.int .i64 0,.int .i64 0,.int .i64 0],some [.int .i64,.int .i64,.int .i64,.int .i64]⟩,
 ⟨true,.struct [(0,3,1),(1,2,1),(2,2,1)],3,24,true,[.int .i64 0,.int .i64 0,.int .i64 0],some [.int .i64,.int .i64,.int .i64]⟩,
 ⟨true,.struct [(0,3,1),(1,2,1),(2,2,1)],3,24,true,[.int .i64 0,.int .i64 0,.int .i64 0],some [.int .i64,.int .i64,.int .i64]⟩,
 ⟨false,.other,0,0,false,[],none⟩,
 ⟨true,.slice 2,1,24,false,[.slice none 0 0],none⟩,
 ⟨true,.struct [(0,3,1),(1,2,1),(2,2,1),(3,2,1),(4,122,1)],5,56,true,[.int .i64 0,.int .i64 0,.int .i64 0,.int .i64 0,.slice none 0 0],none⟩,
 ⟨true,.struct [(0,3,1),(1,2,1),(2,2,1),(3,2,1),(4,122,1)],5,56,true,[.int .i64 0,.int .i64 0,.int .i64 0,.int .i64 0,.slice none 0 0],none⟩,
 ⟨true,.struct [(0,3,1),(1,47,2),(3,3,1),(4,2,1),(5,2,1)],6,48,true,[.int .i64 0,.int .i64 0,.int .i64 0,.int .i64 0,.int .i64 0,.int .i64 0],some [.int .i64,.int .i64,.int .i64,.int .i64,.int .i64,.int .i64]⟩,
 ⟨true,.struct [(0,3,1),(1,47,2),(3,3,1),(4,2,1),(5,2,1)],6,48,true,[.int .i64 0,.int .i64 0,.int .i64 0,.int .i64 0,.int .i64 0,.int .i64 0],some [.int .i64,.int .i64,.int .i64,.int .i64,.int .i64,.int .i64]⟩,
 ⟨true,.struct [(0,3,1),(1,47,2),(3,47,2),(5,52,2),(7,2,1),(8,3,1),(9,3,1),(10,3,1)],11,88,true,[.int .i64 0,.int .i64 0,.int .i64 0,.int .i64 0,.int .i64 0,.int .i64 0,.int .i64 0,.int .i64 0,.int .i64 0,.int .i64 0,.int .i64 0],some [.int .i64,.int .i64,.int .i64,.int .i64,.int .i64,.int .i64,.int .i64,.int .i64,.int .i64,.int .i64,.int .i64]⟩,
 ⟨true,.struct [(0,3,1),(1,47,2),(3,47,2),(5,52,2),(7,2,1),(8,3,1),(9,3,1),(10,3,1)],11,88,true,[.int .i64 0,.int .i64 0,.int .i64 0,.int .i64 0,.int .i64 0,.int .i64 0,.int .i64 0,.int .i64 0,.int .i64 0,.int .i64 0,.int .i64 0],some [.int .i64,.int .i64,.int .i64,.int .i64,.int .i64,.int .i64,.int .i64,.int .i64,.int .i64,.int .i64,.int .i64]⟩,
 ⟨true,.ptr 255,1,8,false,[.pointer none],none⟩,
 ⟨false,.other,0,0,false,[],none⟩,
 ⟨true,.struct [(0,129,1)],1,8,true,[.pointer none],none⟩,
 ⟨true,.struct [(0,129,1)],1,8,true,[.pointer none],none⟩,
 ⟨false,.other,0,0,false,[],none⟩,
 ⟨false,.other,0,0,false,[],none⟩,
 ⟨false,.other,0,0,false,[],none⟩,
 ⟨false,.other,0,0,false,[],none⟩,
 ⟨false,.other,0,0,false,[],none⟩,
 ⟨false,.other,0,0,false,[],none⟩,
 ⟨true,.struct [(0,47,2),(2,47,2),(4,4,1)],5,40,true,[.int .i64 0,.int .i64 0,.int .i64 0,.int .i64 0,.bool false],some [.int .i64,.int .i64,.int .i64,.int .i64,.bool]⟩,
 ⟨true,.struct [(0,47,2),(2,47,2),(4,4,1)],5,40,true,[.int .i64 0,.int .i64 0,.int .i64 0,.int .i64 0,.bool false],some [.int .i64,.int .i64,.int .i64,.int .i64,.bool]⟩,
 ⟨false,.other,0,0,false,[],none⟩,
 ⟨true,.struct [(0,47,2),(2,2,1)],3,24,true,[.int .i64 0,.int .i64 0,.int .i64 0],some [.int .i64,.int .i64,.int .i64]⟩,
 ⟨true,.struct [(0,47,2),(2,2,1)],3,24,true,[.int .i64 0,.int .i64 0,.int .i64 0],some [.int .i64,.int .i64,.int .i64]⟩,
 ⟨false,.other,0,0,false,[],none⟩,
 ⟨true,.ptr 262,1,8,false,[.pointer none],none⟩,
 ⟨false,.other,0,0,false,[],none⟩,
 ⟨true,.struct [(0,145,1)],1,8,true,[.pointer none],none⟩,
 ⟨true,.struct [(0,145,1)],1,8,true,[.pointer none],none⟩,
 ⟨false,.other,0,0,false,[],none⟩,
 ⟨false,.other,0,0,false,[],none⟩,
 ⟨true,.ptr 33,1,8,false,[.pointer none],none⟩,
 ⟨false,.other,0,0,false,[],none⟩,
 ⟨false,.other,0,0,false,[],none⟩,
 ⟨false,.other,0,0,false,[],none⟩,
 ⟨false,.other,0,0,false,[],none⟩,
 ⟨false,.other,0,0,false,[],none⟩,
 ⟨false,.other,0,0,false,[],none⟩,
 ⟨false,.other,0,0,false,[],none⟩,
 ⟨false,.other,0,0,false,[],none⟩,
 ⟨false,.other,0,0,false,[],none⟩,
 ⟨false,.other,0,0,false,[],none⟩,
 ⟨false,.other,0,0,false,[],none⟩,
 ⟨false,.other,0,0,false,[],none⟩,
 ⟨false,.other,0,0,false,[],none⟩,
 ⟨false,.other,0,0,false,[],none⟩,
 ⟨false,.other,0,0,false,[],none⟩,
 ⟨false,.other,0,0,false,[],none⟩,
 ⟨false,.other,0,0,false,[],none⟩,
 ⟨false,.other,0,0,false,[],none⟩,
 ⟨false,.other,0,0,false,[],none⟩,
 ⟨false,.other,0,0,false,[],none⟩,
 ⟨false,.other,0,0,false,[],none⟩,
 ⟨false,.other,0,0,false,[],none⟩,
 ⟨false,.other,0,0,false,[],none⟩,
 ⟨false,.other,0,0,false,[],none⟩,
 ⟨false,.other,0,0,false,[],none⟩,
 ⟨false,.other,0,0,false,[],none⟩,
 ⟨false,.other,0,0,false,[],none⟩,
 ⟨false,.other,0,0,false,[],none⟩,
 ⟨false,.other,0,0,false,[],none⟩,
 ⟨false,.other,0,0,false,[],none⟩,
 ⟨false,.other,0,0,false,[],none⟩,
 ⟨false,.other,0,0,false,[],none⟩,
 ⟨false,.other,0,0,false,[],none⟩,
 ⟨false,.other,0,0,false,[],none⟩,
 ⟨false,.other,0,0,false,[],none⟩,
 ⟨false,.other,0,0,false,[],none⟩,
 ⟨false,.other,0,0,false,[],none⟩,
 ⟨false,.other,0,0,false,[],none⟩,
 ⟨false,.other,0,0,false,[],none⟩,
 ⟨false,.other,0,0,false,[],none⟩,
 ⟨false,.other,0,0,false,[],none⟩,
 ⟨false,.other,0,0,false,[],none⟩,
 ⟨false,.other,0,0,false,[],none⟩,
 ⟨false,.other,0,0,false,[],none⟩,
 ⟨false,.other,0,0,false,[],none⟩,
 ⟨false,.other,0,0,false,[],none⟩,
 ⟨false,.other,0,0,false,[],none⟩,
 ⟨false,.other,0,0,false,[],none⟩,
 ⟨false,.other,0,0,false,[],none⟩,
 ⟨false,.other,0,0,false,[],none⟩,
 ⟨false,.other,0,0,false,[],none⟩,
 ⟨false,.other,0,0,false,[],none⟩,
 ⟨false,.other,0,0,false,[],none⟩,
 ⟨false,.other,0,0,false,[],none⟩,
 ⟨false,.other,0,0,false,[],none⟩,
 ⟨false,.other,0,0,false,[],none⟩,
 ⟨false,.other,0,0,false,[],none⟩,
 ⟨false,.other,0,0,false,[],none⟩,
 ⟨false,.other,0,0,false,[],none⟩,
 ⟨false,.other,0,0,false,[],none⟩,
 ⟨false,.other,0,0,false,[],none⟩,
 ⟨false,.other,0,0,false,[],none⟩,
 ⟨false,.other,0,0,false,[],none⟩,
 ⟨false,.other,0,0,false,[],none⟩,
 ⟨false,.other,0,0,false,[],none⟩,
 ⟨false,.other,0,0,false,[],none⟩,
 ⟨false,.other,0,0,false,[],none⟩,
 ⟨false,.other,0,0,false,[],none⟩,
 ⟨false,.other,0,0,false,[],none⟩,
 ⟨false,.other,0,0,false,[],none⟩,
 ⟨false,.other,0,0,false,[],none⟩,
 ⟨false,.other,0,0,false,[],none⟩,
 ⟨false,.other,0,0,false,[],none⟩,
 ⟨false,.other,0,0,false,[],none⟩,
 ⟨false,.other,0,0,false,[],none⟩,
 ⟨false,.other,0,0,false,[],none⟩,
 ⟨false,.other,0,0,false,[],none⟩,
 ⟨false,.other,0,0,false,[],none⟩,
 ⟨false,.other,0,0,false,[],none⟩,
 ⟨false,.other,0,0,false,[],none⟩,
 ⟨false,.other,0,0,false,[],none⟩,
 ⟨false,.other,0,0,false,[],none⟩,
 ⟨false,.other,0,0,false,[],none⟩,
 ⟨false,.other,0,0,false,[],none⟩,
 ⟨false,.other,0,0,false,[],none⟩,
 ⟨false,.other,0,0,false,[],none⟩,
 ⟨false,.other,0,0,false,[],none⟩,
 ⟨false,.other,0,0,false,[],none⟩,
 ⟨false,.other,0,0,false,[],none⟩,
 ⟨true,.ptr 243,1,8,false,[.pointer none],none⟩,
 ⟨true,.struct [(0,33,12),(12,95,1),(13,41,1)],14,304,true,[.int .i64 0,.slice none 0 0,.slice none 0 0,.slice none 0 0,.slice none 0 0,.slice none 0 0,.slice none 0 0,.slice none 0 0,.slice none 0 0,.slice none 0 0,.slice none 0 0,.slice none 0 0,.slice none 0 0,.int .i64 0],none⟩,
 ⟨true,.struct [(0,33,12),(12,95,1),(13,41,1)],14,304,true,[.int .i64 0,.slice none 0 0,.slice none 0 0,.slice none 0 0,.slice none 0 0,.slice none 0 0,.slice none 0 0,.slice none 0 0,.slice none 0 0,.slice none 0 0,.slice none 0 0,.slice none 0 0,.slice none 0 0,.int .i64 0],none⟩,
 ⟨false,.other,0,0,false,[],none⟩,
 ⟨false,.other,0,0,false,[],none⟩,
 ⟨false,.other,0,0,false,[],none⟩,
 ⟨false,.other,0,0,false,[],none⟩,
 ⟨false,.other,0,0,false,[],none⟩,
 ⟨false,.other,0,0,false,[],none⟩,
 ⟨false,.other,0,0,false,[],none⟩,
 ⟨true,.int .u64,1,8,false,[.int .u64 0],some [.int .u64]⟩,
 ⟨false,.other,0,0,false,[],none⟩,
 ⟨false,.other,0,0,false,[],none⟩,
 ⟨true,.struct [(0,4,1),(1,36,1)],2,32,true,[.bool false,.slice none 0 0],none⟩,
 ⟨true,.struct [(0,4,1),(1,36,1)],2,32,true,[.bool false,.slice none 0 0],none⟩,
 ⟨false,.other,0,0,false,[],none⟩,
 ⟨false,.other,0,0,false,[],none⟩,
 ⟨false,.other,0,0,false,[],none⟩,
 ⟨false,.other,0,0,false,[],none⟩,
 ⟨false,.other,0,0,false,[],none⟩,
 ⟨true,.struct [(0,4,1),(1,36,1),(2,41,1)],3,40,true,[.bool false,.slice none 0 0,.int .i64 0],none⟩,
 ⟨true,.struct [(0,4,1),(1,36,1),(2,41,1)],3,40,true,[.bool false,.slice none 0 0,.int .i64 0],none⟩,
 ⟨false,.other,0,0,false,[],none⟩,
 ⟨false,.other,0,0,false,[],none⟩,
 ⟨false,.other,0,0,false,[],none⟩,
 ⟨false,.other,0,0,false,[],none⟩,
 ⟨false,.other,0,0,false,[],none⟩,
 ⟨false,.other,0,0,false,[],none⟩,
 ⟨false,.other,0,0,false,[],none⟩,
 ⟨false,.other,0,0,false,[],none⟩,
 ⟨false,.other,0,0,false,[],none⟩,
 ⟨false,.other,0,0,false,[],none⟩,
 ⟨false,.other,0,0,false,[],none⟩,
 ⟨false,.other,0,0,false,[],none⟩,
 ⟨false,.other,0,0,false,[],none⟩,
 ⟨false,.other,0,0,false,[],none⟩,
 ⟨false,.other,0,0,false,[],none⟩,
 ⟨false,.other,0,0,false,[],none⟩,
 ⟨false,.other,0,0,false,[],none⟩,
 ⟨false,.other,0,0,false,[],none⟩,
 ⟨false,.other,0,0,false,[],none⟩,
 ⟨false,.other,0,0,false,[],none⟩,
 ⟨false,.other,0,0,false,[],none⟩,
 ⟨true,.map 47 4,1,8,false,[.map none],none⟩,
 ⟨true,.struct [(0,33,12),(12,284,1)],13,280,true,[.int .i64 0,.slice none 0 0,.slice none 0 0,.slice none 0 0,.slice none 0 0,.slice none 0 0,.slice none 0 0,.slice none 0 0,.slice none 0 0,.slice none 0 0,.slice none 0 0,.slice none 0 0,.map none],none⟩,
 ⟨true,.struct [(0,33,12),(12,284,1)],13,280,true,[.int .i64 0,.slice none 0 0,.slice none 0 0,.slice none 0 0,.slice none 0 0,.slice none 0 0,.slice none 0 0,.slice none 0 0,.slice none 0 0,.slice none 0 0,.slice none 0 0,.slice none 0 0,.map none],none⟩,
 ⟨false,.other,0,0,false,[],none⟩,
 ⟨false,.other,0,0,false,[],none⟩,
 ⟨false,.other,0,0,false,[],none⟩,
 ⟨false,.other,0,0,false,[],none⟩,
 ⟨false,.other,0,0,false,[],none⟩,
 ⟨false,.other,0,0,false,[],none⟩,
 ⟨false,.other,0,0,false,[],none⟩,
 ⟨false,.other,0,0,false,[],none⟩,
 ⟨false,.other,0,0,false,[],none⟩,
 ⟨false,.other,0,0,false,[],none⟩,
 ⟨false,.other,0,0,false,[],none⟩,
 ⟨false,.other,0,0,false,[],none⟩,
 ⟨false,.other,0,0,false,[],none⟩,
 ⟨false,.other,0,0,false,[],none⟩,
 ⟨false,.other,0,0,false,[],none⟩,
 ⟨false,.other,0,0,false,[],none⟩,
 ⟨false,.other,0,0,false,[],none⟩,
 ⟨false,.other,0,0,false,[],none⟩,
 ⟨false,.other,0,0,false,[],none⟩,
 ⟨false,.other,0,0,false,[],none⟩,
 ⟨false,.other,0,0,false,[],none⟩,
 ⟨false,.other,0,0,false,[],none⟩,
 ⟨true,.slice 48,1,24,false,[.slice none 0 0],none⟩,
 ⟨false,.other,0,0,false,[],none⟩,
 ⟨false,.other,0,0,false,[],none⟩,
 ⟨false,.other,0,0,false,[],none⟩,
 ⟨false,.other,0,0,false,[],none⟩,
 ⟨false,.other,0,0,false,[],none⟩,
 ⟨false,.other,0,0,false,[],none⟩,
 ⟨true,.struct [(0,2,1),(1,251,1)],2,16,true,[.int .i64 0,.int .u64 0],some [.int .i64,.int .u64]⟩,
 ⟨true,.struct [(0,2,1),(1,251,1)],2,16,true,[.int .i64 0,.int .u64 0],some [.int .i64,.int .u64]⟩,
 ⟨false,.other,0,0,false,[],none⟩,
 ⟨false,.other,0,0,false,[],none⟩,
 ⟨false,.other,0,0,false,[],none⟩,
 ⟨false,.other,0,0,false,[],none⟩,
 ⟨false,.other,0,0,false,[],none⟩,
 ⟨false,.other,0,0,false,[],none⟩,
 ⟨false,.other,0,0,false,[],none⟩,
 ⟨false,.other,0,0,false,[],none⟩,
 ⟨false,.other,0,0,false,[],none⟩,
 ⟨false,.other,0,0,false,[],none⟩,
 ⟨false,.other,0,0,false,[],none⟩,
 ⟨false,.other,0,0,false,[],none⟩,
 ⟨false,.other,0,0,false,[],none⟩,
 ⟨false,.other,0,0,false,[],none⟩,
 ⟨false,.other,0,0,false,[],none⟩,
 ⟨false,.other,0,0,false,[],none⟩,
 ⟨false,.other,0,0,false,[],none⟩,
 ⟨false,.other,0,0,false,[],none⟩,
 ⟨false,.other,0,0,false,[],none⟩,
 ⟨false,.other,0,0,false,[],none⟩,
 ⟨false,.other,0,0,false,[],none⟩,
 ⟨false,.other,0,0,false,[],none⟩,
 ⟨false,.other,0,0,false,[],none⟩,
 ⟨false,.other,0,0,false,[],none⟩,
 ⟨false,.other,0,0,false,[],none⟩,
 ⟨false,.other,0,0,false,[],none⟩,
 ⟨true,.slice 317,1,24,false,[.slice none 0 0],none⟩,
 ⟨false,.other,0,0,false,[],none⟩,
 ⟨false,.other,0,0,false,[],none⟩,
 ⟨false,.other,0,0,false,[],none⟩,
 ⟨false,.other,0,0,false,[],none⟩,
 ⟨false,.other,0,0,false,[],none⟩,
 ⟨false,.other,0,0,false,[],none⟩,
 ⟨false,.other,0,0,false,[],none⟩,
 ⟨true,.slice 41,1,24,false,[.slice none 0 0],none⟩,
 ⟨false,.other,0,0,false,[],none⟩,
 ⟨false,.other,0,0,false,[],none⟩,
 ⟨false,.other,0,0,false,[],none⟩,
 ⟨false,.other,0,0,false,[],none⟩,
 ⟨false,.other,0,0,false,[],none⟩,
 ⟨false,.other,0,0,false,[],none⟩,
 ⟨false,.other,0,0,false,[],none⟩,
 ⟨false,.other,0,0,false,[],none⟩,
 ⟨false,.other,0,0,false,[],none⟩,
 ⟨false,.other,0,0,false,[],none⟩,
 ⟨false,.other,0,0,false,[],none⟩,
 ⟨false,.other,0,0,false,[],none⟩,
 ⟨false,.other,0,0,false,[],none⟩,
 ⟨false,.other,0,0,false,[],none⟩,
 ⟨false,.other,0,0,false,[],none⟩,
 ⟨false,.other,0,0,false,[],none⟩,
 ⟨false,.other,0,0,false,[],none⟩,
 ⟨false,.other,0,0,false,[],none⟩,
 ⟨false,.other,0,0,false,[],none⟩,
 ⟨false,.other,0,0,false,[],none⟩,
 ⟨false,.other,0,0,false,[],none⟩,
 ⟨false,.other,0,0,false,[],none⟩,
 ⟨false,.other,0,0,false,[],none⟩,
 ⟨true,.slice 72,1,24,false,[.slice none 0 0],none⟩,
 ⟨false,.other,0,0,false,[],none⟩,
 ⟨false,.other,0,0,false,[],none⟩,
 ⟨false,.other,0,0,false,[],none⟩,
 ⟨true,.struct [(0,251,1),(1,251,1)],2,16,true,[.int .u64 0,.int .u64 0],some [.int .u64,.int .u64]⟩,
 ⟨true,.struct [(0,251,1),(1,251,1)],2,16,true,[.int .u64 0,.int .u64 0],some [.int .u64,.int .u64]⟩,
 ⟨false,.other,0,0,false,[],none⟩,
 ⟨false,.other,0,0,false,[],none⟩,
 ⟨false,.other,0,0,false,[],none⟩,
 ⟨false,.other,0,0,false,[],none⟩,
 ⟨false,.other,0,0,false,[],none⟩,
 ⟨false,.other,0,0,false,[],none⟩,
 ⟨false,.other,0,0,false,[],none⟩,
 ⟨false,.other,0,0,false,[],none⟩,
 ⟨false,.other,0,0,false,[],none⟩,
 ⟨false,.other,0,0,false,[],none⟩,
 ⟨false,.other,0,0,false,[],none⟩,
 ⟨false,.other,0,0,false,[],none⟩,
 ⟨false,.other,0,0,false,[],none⟩,
 ⟨false,.other,0,0,false,[],none⟩,
 ⟨false,.other,0,0,false,[],none⟩,
 ⟨false,.other,0,0,false,[],none⟩,
 ⟨false,.other,0,0,false,[],none⟩,
 ⟨false,.other,0,0,false,[],none⟩,
 ⟨false,.other,0,0,false,[],none⟩,
 ⟨false,.other,0,0,false,[],none⟩,
 ⟨false,.other,0,0,false,[],none⟩,
 ⟨true,.int .u64,1,8,false,[.int .u64 0],some [.int .u64]⟩,
 ⟨true,.struct [(0,2,1),(1,317,2)],3,24,true,[.int .i64 0,.int .i64 0,.int .u64 0],some [.int .i64,.int .i64,.int .u64]⟩,
 ⟨true,.struct [(0,2,1),(1,317,2)],3,24,true,[.int .i64 0,.int .i64 0,.int .u64 0],some [.int .i64,.int .i64,.int .u64]⟩,
 ⟨false,.other,0,0,false,[],none⟩,
 ⟨false,.other,0,0,false,[],none⟩,
 ⟨false,.other,0,0,false,[],none⟩,
 ⟨false,.other,0,0,false,[],none⟩,
 ⟨false,.other,0,0,false,[],none⟩,
 ⟨false,.other,0,0,false,[],none⟩,
 ⟨false,.other,0,0,false,[],none⟩,
 ⟨false,.other,0,0,false,[],none⟩,
 ⟨false,.other,0,0,false,[],none⟩,
 ⟨false,.other,0,0,false,[],none⟩,
 ⟨false,.other,0,0,false,[],none⟩,
 ⟨false,.other,0,0,false,[],none⟩,
 ⟨false,.other,0,0,false,[],none⟩,
 ⟨false,.other,0,0,false,[],none⟩,
 ⟨false,.other,0,0,false,[],none⟩,
 ⟨false,.other,0,0,false,[],none⟩,
 ⟨false,.other,0,0,false,[],none⟩,
 ⟨false,.other,0,0,false,[],none⟩,
 ⟨false,.other,0,0,false,[],none⟩,
 ⟨true,.slice 30,1,24,false,[.slice none 0 0],none⟩,
 ⟨false,.other,0,0,false,[],none⟩,
 ⟨false,.other,0,0,false,[],none⟩,
 ⟨false,.other,0,0,false,[],none⟩,
 ⟨false,.other,0,0,false,[],none⟩,
 ⟨false,.other,0,0,false,[],none⟩,
 ⟨false,.other,0,0,false,[],none⟩,
 ⟨true,.ptr 405,1,8,false,[.pointer none],none⟩,
 ⟨false,.other,0,0,false,[],none⟩,
 ⟨false,.other,0,0,false,[],none⟩,
 ⟨false,.other,0,0,false,[],none⟩,
 ⟨false,.other,0,0,false,[],none⟩,
 ⟨false,.other,0,0,false,[],none⟩,
 ⟨false,.other,0,0,false,[],none⟩,
 ⟨false,.other,0,0,false,[],none⟩,
 ⟨false,.other,0,0,false,[],none⟩,
 ⟨false,.other,0,0,false,[],none⟩,
 ⟨false,.other,0,0,false,[],none⟩,
 ⟨true,.slice 251,1,24,false,[.slice none 0 0],none⟩,
 ⟨false,.other,0,0,false,[],none⟩,
 ⟨false,.other,0,0,false,[],none⟩,
 ⟨false,.other,0,0,false,[],none⟩,
 ⟨false,.other,0,0,false,[],none⟩,
 ⟨false,.other,0,0,false,[],none⟩,
 ⟨false,.other,0,0,false,[],none⟩,
 ⟨false,.other,0,0,false,[],none⟩,
 ⟨false,.other,0,0,false,[],none⟩,
 ⟨false,.other,0,0,false,[],none⟩,
 ⟨true,.slice 457,1,24,false,[.slice none 0 0],none⟩,
 ⟨false,.other,0,0,false,[],none⟩,
 ⟨false,.other,0,0,false,[],none⟩,
 ⟨true,.struct [(0,3,1),(1,2,1),(2,2,1)],3,24,true,[.int .i64 0,.int .i64 0,.int .i64 0],some [.int .i64,.int .i64,.int .i64]⟩,
 ⟨true,.struct [(0,3,1),(1,2,1),(2,2,1)],3,24,true,[.int .i64 0,.int .i64 0,.int .i64 0],some [.int .i64,.int .i64,.int .i64]⟩,
 ⟨false,.other,0,0,false,[],none⟩,
 ⟨false,.other,0,0,false,[],none⟩,
 ⟨false,.other,0,0,false,[],none⟩,
 ⟨false,.other,0,0,false,[],none⟩,
 ⟨true,.int .i64,1,8,false,[.int .i64 0],some [.int .i64]⟩,
 ⟨false,.other,0,0,false,[],none⟩,
 ⟨false,.other,0,0,false,[],none⟩,
 ⟨false,.other,0,0,false,[],none⟩,
 ⟨false,.other,0,0,false,[],none⟩,
 ⟨false,.other,0,0,false,[],none⟩,
 ⟨false,.other,0,0,false,[],none⟩,
 ⟨true,.int .u32,1,4,false,[.int .u32 0],some [.int .u32]⟩,
 ⟨false,.other,0,0,false,[],none⟩,
 ⟨false,.other,0,0,false,[],none⟩,
 ⟨false,.other,0,0,false,[],none⟩,
 ⟨false,.other,0,0,false,[],none⟩,
 ⟨false,.other,0,0,false,[],none⟩,
 ⟨false,.other,0,0,false,[],none⟩,
 ⟨false,.other,0,0,false,[],none⟩,
 ⟨false,.other,0,0,false,[],none⟩,
 ⟨true,.int .u64,1,8,false,[.int .u64 0],some [.int .u64]⟩,
 ⟨false,.other,0,0,false,[],none⟩,
 ⟨false,.other,0,0,false,[],none⟩,
 ⟨false,.other,0,0,false,[],none⟩,
 ⟨true,.ptr 3,1,8,false,[.pointer none],none⟩,
 ⟨false,.other,0,0,false,[],none⟩,
 ⟨false,.other,0,0,false,[],none⟩,
 ⟨false,.other,0,0,false,[],none⟩,
 ⟨false,.other,0,0,false,[],none⟩,
 ⟨false,.other,0,0,false,[],none⟩,
 ⟨false,.other,0,0,false,[],none⟩,
 ⟨true,.ptr 478,1,8,false,[.pointer none],none⟩,
 ⟨false,.other,0,0,false,[],none⟩,
 ⟨false,.other,0,0,false,[],none⟩,
 ⟨false,.other,0,0,false,[],none⟩,
 ⟨false,.other,0,0,false,[],none⟩,
 ⟨false,.other,0,0,false,[],none⟩,
 ⟨false,.other,0,0,false,[],none⟩,
 ⟨true,.ptr 512,1,8,false,[.pointer none],none⟩,
 ⟨false,.other,0,0,false,[],none⟩,
 ⟨false,.other,0,0,false,[],none⟩,
 ⟨false,.other,0,0,false,[],none⟩,
 ⟨false,.other,0,0,false,[],none⟩,
 ⟨false,.other,0,0,false,[],none⟩,
 ⟨false,.other,0,0,false,[],none⟩,
 ⟨false,.other,0,0,false,[],none⟩,
 ⟨false,.other,0,0,false,[],none⟩,
 ⟨false,.other,0,0,false,[],none⟩,
 ⟨true,.ptr 5,1,8,false,[.pointer none],none⟩,
 ⟨false,.other,0,0,false,[],none⟩,
 ⟨false,.other,0,0,false,[],none⟩,
 ⟨false,.other,0,0,false,[],none⟩,
 ⟨false,.other,0,0,false,[],none⟩,
 ⟨true,.struct [(0,9,1)],1,16,true,[.string .empty],some [.str]⟩,
 ⟨true,.struct [(0,9,1)],1,16,true,[.string .empty],some [.str]⟩,
 ⟨false,.other,0,0,false,[],none⟩]
theorem zero4(w:World):(zeroValue 4).run Tryz.prog w=.ok (.bool false) w:=by kernel_rfl
theorem tab_keys:∀p∈keysIn tab,MapOk Tryz.prog p.1 p.2:=by
 have e:keysIn tab=[(47,4)]:=by kernel_rfl
 rw[e]; intro p hp; simp at hp; subst hp; exact⟨keyU,zero4⟩
theorem tab_ok:zas Tryz.prog tab:=tableOk_of (by kernel_rfl) tab_keys
theorem kp:KProg Tryz.prog tab:=⟨tab_ok,by decide +kernel⟩
end Go.Proofs.YtllkmncnmlmefaaGreat
namespace Go.Proofs.YtllkmncnmlmefaaGreat
open Go Go.Vc Go.RowKit
theorem run_sub64'(x y:Nat)(b:Nat)(hb:b≤1)(w:World):((Extern.MathBitsCarry.rows[1]!).2 #[.int .u64 x,.int .u64 y,.int .u64 b]).run Tryz.prog w=
  .ok (.tuple #[.int .u64 (((x+18446744073709551616 - y - b) % 18446744073709551616:Nat):Int),.int .u64 ((if x<y+b then 1 else 0:Nat):Int)]) w:=by
 have:b=0∨b=1:=by omega
 rcases this with rfl|rfl<;>rfl
@[reducible] def tC3:DT:=.pair (.int .u64) (.pair (.int .u64) (.pair (.int .u64) .unit))
@[reducible] def tQ2:QT:=.pair (.v (.int .u64)) (.pair (.v (.int .u64)) .unit)
theorem hL3{E:Env}{x y z:Int}{vs:List Value}(h:hL E (argVs tC3 (x,y,z,())) vs):vs=[.int .u64 x,.int .u64 y,.int .u64 z]:=by
 simp only[argVs,hL,DT.val,DV.h]at h
 obtain⟨_,_,rfl,rfl,_,_,rfl,rfl,_,_,rfl,rfl,rfl⟩:=h
 rfl
theorem q2_h(E:Env)(x y:Int):(tQ2.mk (x,y,()) []).1.h E (.tuple #[.int .u64 x,.int .u64 y]):=by
 simp only[QT.mk,QT.mks,DT.val,DV.h,hL]
 exact⟨#[.int .u64 x,.int .u64 y],rfl,_,_,rfl,rfl,_,_,rfl,rfl,rfl⟩
def add64_k:KC Tryz.prog:=⟨356,fun _=>.es ⟨tC3,tQ2,fun x=>add64 x.1 x.2.1 x.2.2.1⟩,ykq (by
 rintro⟨x,y,c,⟨⟩⟩ q h E vs hv
 replace h:add64 x y c=some q:=h
 unfold add64 at h
 split at h
 ·rename_i hc
  have h:=Option.some.inj h
  subst h
  rw[hL3 hv]
  refine⟨_,fun w=>?_,rfl,fun E=>q2_h E _ _⟩
  rw[run_callFunc_extern Tryz.func356 (by decide +kernel) rfl rfl (e:=add64Entry) (by kernel_rfl)]
  show ((add64Entry #[.int .u64 x,.int .u64 y,.int .u64 c]).run Tryz.prog w).andThen _=_
  rw[run_add64 x y c hc.1 hc.2.1 hc.2.2.1 hc.2.2.2]; rfl
 ·cases h)⟩
def sub64_k:KC Tryz.prog:=⟨400,fun _=>.es ⟨tC3,tQ2,fun x=>sub64 x.1 x.2.1 x.2.2.1⟩,ykq (by
 rintro⟨x,y,b,⟨⟩⟩ q h E vs hv
 replace h:sub64 x y b=some q:=h
 unfold sub64 at h
 split at h
 ·rename_i hc
  have h:=Option.some.inj h
  subst h
  rw[hL3 hv]
  refine⟨_,fun w=>?_,rfl,fun E=>q2_h E _ _⟩
  obtain⟨hx,hy,hy2,hb0,hb⟩:=hc
  obtain⟨x,rfl⟩:=Int.eq_ofNat_of_zero_le hx
  obtain⟨y,rfl⟩:=Int.eq_ofNat_of_zero_le hy
  obtain⟨b,rfl⟩:=Int.eq_ofNat_of_zero_le hb0
  rw[run_callFunc_extern Tryz.func400 (by decide +kernel) rfl rfl (e:=(Extern.MathBitsCarry.rows[1]!).2) (by kernel_rfl)]
  show (((Extern.MathBitsCarry.rows[1]!).2 #[.int .u64 x,.int .u64 y,.int .u64 b]).run Tryz.prog w).andThen _=_
  rw[run_sub64' x y b (by omega) w]
  have e1:(((x+18446744073709551616 - y - b) % 18446744073709551616:Nat):Int)=((x:Int) - y - b) % 18446744073709551616:=by omega
  have e2:((if x<y+b then 1 else 0:Nat):Int)=if (x:Int)<y+b then 1 else 0:=by split<;>split<;>omega
  rw[e1,e2]; rfl
 ·cases h)⟩
end Go.Proofs.YtllkmncnmlmefaaGreat
namespace Go.Vc
open Go Go.RowKit
theorem zwq{P:Program}{t e:TypeId}{size bytes:Nat}(ht:P.underlying t=some (.slice e))(h:(P.info? e).map (fun i=>(i.zero.map (·.cells.size),i.size,i.bytes))=some (some size,size,bytes))(hp:0<size):ElemOk P t e size bytes:=by
 obtain⟨i,hi,h⟩:=Option.map_eq_some_iff.1 h
 simp only[Prod.mk.injEq]at h
 obtain⟨z,hz,hz2⟩:=Option.map_eq_some_iff.1 h.1
 exact⟨ht,⟨i,z,hi,hz,h.2.1,h.2.2,hz2⟩,hp⟩
theorem znc(w:World)(o:Obj)(b:Nat)(hb:b<w.heap.size):(w.alloc o).heap[b]?=w.heap[b]?:=heap_alloc_old w o hb
theorem zyn(g o:Nat):∀(vs:List Value) (i:Nat) (w:World),w.setCells g (o+i) vs=setCells w ⟨g,o,none⟩ i vs
 |[],_,_=>rfl
 |v::vs,i,w=>by
  simp only[World.setCells,setCells,zja]
  rw[Nat.add_assoc,zyn g o vs (i+1)]
theorem zoq{g o b:Nat}{vs:List Value}{w:World}(h:b≠g):(w.setCells g o vs).heap[b]?=w.heap[b]?:=by
 have:=zyn g o vs 0 w
 rw[Nat.add_zero]at this
 rw[this]; exact zif _ _ h vs 0 w
theorem zor{g o:Nat}{vs:List Value}{w:World}{cur:Array Value}{e:TypeId}{fr:Nat×Nat}(h:w.heap[g]?=some (.cells cur e fr)):∃cur',(w.setCells g o vs).heap[g]?=some (.cells cur' e fr)∧cur'.size=cur.size:=by
 have:=zyn g o vs 0 w
 rw[Nat.add_zero]at this
 rw[this]
 have h2:=zot g o vs 0 w cur.toList (by simpa using h)
 exact⟨_,h2,by simp[zmg]⟩
theorem zia(g o:Nat)(vs:List Value)(w:World):(w.setCells g o vs).os=w.os∧(w.setCells g o vs).tape=w.tape∧(w.setCells g o vs).output=w.output∧(w.setCells g o vs).heap.size=w.heap.size:=by
 have:=zyn g o vs 0 w
 rw[Nat.add_zero]at this
 rw[this]
 obtain⟨h1,h2,h3,h4,_⟩:=zll ⟨g,o,none⟩ vs 0 w
 exact⟨h1,h2,h3,h4⟩
theorem rowK{e:TypeId}{k g c n:Nat}{w:World}{cur:Array Value}{xs:List Value}(hg:w.heap[g]?=some (.cells cur e (0,0)))(hs:cur.size=c*k)(hc:∀t u,xs[t]?=some u→w.cell? ⟨g,t,none⟩=some u)(hxl:xs.length=n*k)(hn:n≤c)(hm:c≤maxLen):w.ownsRow 0 e k (.slice (some ⟨g,0,none⟩) n c) n xs:=by
 refine⟨hxl,.inr ⟨g,c,cur,rfl,Nat.zero_le _,hg,hn,hm,hs,?_⟩⟩
 apply List.ext_getElem?
 intro t
 by_cases ht:t<n*k
 ·rw[List.getElem?_take_of_lt ht,Array.getElem?_toList]
  have h1:=hc t _ (List.getElem?_eq_getElem (by omega))
  rw[cell_of_row w g t cur e (0,0) hg]at h1
  rw[List.getElem?_eq_getElem (by omega)]
  exact h1
 ·rw[List.getElem?_eq_none (by simp; omega),List.getElem?_eq_none (by omega)]
theorem DT.hs_drop{U:Nat→Prop}{w:World}{t:DT}{xs:List t.den}{vs:List Value}(h:t.hs U w xs vs)(n:Nat):t.hs U w (xs.drop n) (vs.drop (n*t.size)):=by
 refine⟨by simp[h.1,Nat.sub_mul],fun i x hi=>?_⟩
 rw[List.getElem?_drop]at hi
 have:=h.2 _ x hi
 rw[List.drop_drop,←Nat.add_mul]
 exact this
theorem row_at{e:TypeId}{k n g:Nat}{cur:Array Value}{xs:List Value}{w:World}(hg:w.heap[g]?=some (.cells cur e (0,0)))(h4:cur.toList.take (n*k)=xs):∀t u,xs[t]?=some u→w.cell? ⟨g,t,none⟩=some u:=by
 intro t u ht
 rw[←h4,List.getElem?_take]at ht
 split at ht
 ·rw[cell_of_row w g t cur e (0,0) hg]; simpa using ht
 ·cases ht
theorem oneD0{j:Nat}{p q:DV}{i:Nat}(h:oneD j p i=some q):i=j∧q=p:=by
 unfold oneD at h
 split at h
 ·rename_i hb; simp only[Option.some.injEq]at h; exact⟨Nat.eq_of_beq_eq_true hb,h.symm⟩
 ·cases h
theorem ztn{e:TypeId}{t:DT}{l l':List t.den}{U0:Nat→Prop}{B:Nat→Nat}{A:Asg}{w w':World}{a:Option Addr}{c:Nat}(m:Mem w U0 (Ow B A [] [.own e t l]) B A [] [.own e t l] w)
  (hr:w'.os=w.os∧w'.tape=w.tape∧w'.output=w.output∧w.heap.size≤w'.heap.size) (hk:∀b,b<w.heap.size→(∀ad,(A 0).1=some ad→ad.block≠b)→w'.heap[b]?=w.heap[b]?)
  (ha:∀x,a=some x→(∃ad,(A 0).1=some ad∧ad.block=x.block)∨(w.heap.size≤x.block∧x.block<w'.heap.size))
  (hw:∀U',Later (Us U0 B A [] [.own e t l]) U' w w'→∃xs,w'.ownsRow 0 e t.size (.slice a l'.length c) l'.length xs∧t.hs U' w' l' xs):
  ∃B' A' r pb' rw',Mem w U0 (Ow B A [] [.own e t l]) B' A' pb' rw' w'∧r.h (env U0 B' A' pb' rw' w') (.slice a l'.length c)∧(∀i,live [] i→live pb' i∧B' i=B i)∧pb'=[]∧(r,rw')=(DV.row 0,[DR.own e t l']):=by
 have hblk:∀b,blk B A [] [DR.own e t l] true 0 b↔∃ad,(A 0).1=some ad∧ad.block=b:=fun b=>⟨fun ⟨r,ad,_,_,h3,h4⟩=>⟨ad,h3,h4⟩,fun ⟨ad,h3,h4⟩=>⟨_,ad,rfl,by simp,h3,h4⟩⟩
 obtain⟨m',s,_⟩:=m.putRow (al:=fun _=>true) (j:=0) (f:=oneD 0 .junk) (rw':=[.own e t l']) (e:=e) (t:=t) (l:=l') (a:=a) (c:=c) rfl (fun i hi=>by
   cases i with
   |zero=>exact absurd rfl hi
   |succ i=>rfl)
  (fun i p h=>oneD0 h) (fun h=>by simp[oneD]at h) (fun h=>by simp[oneD]at h) hr (fun b hb hn=>hk b hb fun ad h1 h2=>hn ((hblk b).2 ⟨ad,h1,h2⟩)) (fun x hx=>(ha x hx).imp (fun h=>(hblk _).2 h) id) hw
 refine⟨B,_,.row 0,_,_,m',?_,fun i ⟨b,hb⟩=>(by simp at hb),rfl,rfl⟩
 simp only[DV.h]
 exact⟨e,t,l',rfl,by show _=Value.slice (upd A 0 (a,c) 0).1 _ (upd A 0 (a,c) 0).2; rw[zeb]⟩
end Go.Vc
namespace Go.Proofs.YtllkmncnmlmefaaGreat
open Go Go.Vc
theorem und3:Tryz.prog.underlying 3=some (.int .i64):=by kernel_rfl
theorem zjt:Tryz.prog.follows .mixedOrders=true:=kp.mixed
end Go.Proofs.YtllkmncnmlmefaaGreat

namespace Go.Vc
open Go Go.RowKit Go.Lib
theorem zcy (b : Nat) (vs : List Value) (o : Nat) (w : World) (h : ∀ j, j < vs.length → (w.cell? ⟨b, o + j, none⟩).isSome = true) (k : Nat) (hk : (w.cell? ⟨b, k, none⟩).isSome = true) : ((w.setCells b o vs).cell? ⟨b, k, none⟩).isSome = true := by
  by_cases hin : o ≤ k ∧ k < o + vs.length
  · have := World.cell?_setCells_in b vs o w h (k - o) (by omega)
    rw [show o + (k - o) = k by omega] at this
    rw [this]; rfl
  · rw [World.cell?_setCells_out b vs o w ⟨b, k, none⟩ (fun _ _ => by show k < o ∨ o + vs.length ≤ k; omega)]
    exact hk
theorem zmn {P : Program} (w : World) (t e ty : TypeId) (z : Value) (ht : P.underlying t = some (.slice e)) (hv : ∀ w, (zeroValue e).run P w = .ok z w) (b o n c : Nat) (hn : 0 < n)
    (hc : ∀ j, j < (Builtin.zeroCells z.cells n).toList.length → (w.cell? ⟨b, o + j, none⟩).isSome = true) (hf : ∀ j, j < (Builtin.zeroCells z.cells n).toList.length → w.frozen? ⟨b, o + j, none⟩ = false) (h1 : ∀ v ∈ (Builtin.zeroCells z.cells n).toList, v.oneCell' = true) :
    (Builtin.clear_ #[t] ty #[.slice (some ⟨b, o, none⟩) n c]).run P w = .ok (.tuple #[]) (w.setCells b o (Builtin.zeroCells z.cells n).toList) := by
  have hst := run_storeCells_cells (P := P) b o (Builtin.zeroCells z.cells n).toList 0 w (by simpa using hc) (by simpa using hf) h1
  simp only [Nat.add_zero] at hst
  obtain ⟨m, rfl⟩ : ∃ m, n = m + 1 := ⟨n - 1, by omega⟩
  simp [Builtin.clear_, run_underlying ht, hv, hst]
end Go.Vc
namespace Go.Proofs.YtllkmncnmlmefaaGreat
open Go Go.Vc Go.RowKit Go.Lib Go.Sort Go.Proofs
theorem zea : ElemOk Tryz.prog 29 50 3 40 := zwq (by kernel_rfl) (by kernel_rfl) (by decide)
theorem undPos : Tryz.prog.underlying 29 = some (.slice 50) := by kernel_rfl
def zPos : Value := .agg #[.int .i64 0, .int .i64 0, .slice none 0 0]
theorem zvPos (w : World) : (zeroValue 50).run Tryz.prog w = .ok zPos w := by kernel_rfl
theorem znn (n : Nat) : (Builtin.zeroCells zPos.cells n).toList.length = n * 3 := by simp [zPos, Builtin.zeroCells, Value.cells]
theorem zym (n : Nat) : ∀ v ∈ (Builtin.zeroCells zPos.cells n).toList, v.oneCell' = true := by
  intro v hv
  simp only [zPos, Builtin.zeroCells, Value.cells, Array.toList_map, List.mem_map] at hv
  obtain ⟨k, _, rfl⟩ := hv
  have : k % 3 = 0 ∨ k % 3 = 1 ∨ k % 3 = 2 := by omega
  rcases this with h | h | h <;> simp [h] <;> rfl
set_option maxHeartbeats 4000000 in
set_option maxRecDepth 1000000 in
theorem del_raw (g n c i j : Nat) (us : List Value) (w : World) (hl : us.length = n * 3) (hc : ∀ t u, us[t]? = some u → w.cell? ⟨g, t, none⟩ = some u) (h1 : ∀ u ∈ us, u.oneCell' = true)
    (hf : ∀ t, w.frozen? ⟨g, t, none⟩ = false) (hij : i < j) (hj : j ≤ n) (hn : n ≤ c) (hm : c ≤ 9223372036854775807) :
    Calls Tryz.prog 263 #[.slice (some ⟨g, 0, none⟩) n c, .int .i64 i, .int .i64 j] w fun e w' => e = .returned (.slice (some ⟨g, 0, none⟩) (i + (n - j)) c) ∧
      w' = (w.drew.setCells g (0 + i * 3) (us.drop (j * 3))).setCells g ((i + (n - j)) * 3) (Builtin.zeroCells zPos.cells (n - (i + (n - j)))).toList := by
  obtain ⟨i0, z0, hi0, hz0, hz1, hby, hzs⟩ := zea.info
  have hlen : (us.drop (j * 3)).length = (n - j) * 3 := by rw [List.length_drop, hl, Nat.sub_mul]
  obtain ⟨news, hnews⟩ : ∃ news, news = us.drop (j * 3) := ⟨_, rfl⟩
  rw [← hnews] at hlen ⊢
  have hget : ∀ t u, news[t]? = some u → w.cell? ⟨g, j * 3 + t, none⟩ = some u := fun t u h => hc _ _ (by rw [hnews, List.getElem?_drop] at h; exact h)
  obtain ⟨A, hA, hsrc⟩ : ∃ A : Addr, (if c = j then some (⟨g, 0, none⟩ : Addr) else some ⟨g, j * 3, none⟩) = some A ∧ Hid (∀ t u, news[t]? = some u → w.drew.cell? (A.add t) = some u) := by
    by_cases h : c = j
    · refine ⟨⟨g, 0, none⟩, by simp [h], fun t u hu => ?_⟩
      have h0 : news.length = 0 := by rw [hlen]; have : n - j = 0 := by omega
                                      rw [this, Nat.zero_mul]
      rw [List.length_eq_zero_iff.1 h0] at hu
      simp at hu
    · refine ⟨⟨g, j * 3, none⟩, by simp [h], fun t u hu => ?_⟩
      rw [Addr.add_lit]
      exact hget t u hu
  have s1 : Hid (news.length = (n - j) * 3) := hlen
  have s2 : Hid (∀ u ∈ news, u.oneCell' = true) := fun u hu => h1 u (by rw [hnews] at hu; exact List.mem_of_mem_drop hu)
  have hall : ∀ t, t < n * 3 → (w.cell? ⟨g, t, none⟩).isSome = true := fun t ht => by rw [hc t _ (List.getElem?_eq_getElem (by omega))]; rfl
  have s3 : Hid (∀ t, t < news.length → (w.drew.cell? ⟨g, 0 + i * 3 + t, none⟩).isSome = true ∧ w.drew.frozen? ⟨g, 0 + i * 3 + t, none⟩ = false) := fun t ht => ⟨hall _ (by omega), hf _⟩
  obtain ⟨W1, hW1⟩ : ∃ W1, W1 = w.drew.setCells g (0 + i * 3) news := ⟨_, rfl⟩
  have hs1 : ∀ t, t < n * 3 → (W1.cell? ⟨g, t, none⟩).isSome = true := fun t ht => by
    rw [hW1]
    exact zcy g news (0 + i * 3) w.drew (fun t ht => hall _ (by omega)) _ (hall t ht)
  have hf1 : ∀ t, W1.frozen? ⟨g, t, none⟩ = false := fun t => by rw [hW1, World.frozen?_setCells]; exact hf t
  have hcl : ∀ ty, (Builtin.clear_ #[29] ty #[.slice (some ⟨g, (i + (n - j)) * 3, none⟩) (n - (i + (n - j))) (c - (i + (n - j)))]).run Tryz.prog W1 = .ok (.tuple #[]) (W1.setCells g ((i + (n - j)) * 3) (Builtin.zeroCells zPos.cells (n - (i + (n - j)))).toList) := fun ty => by
    have := zmn W1 29 50 ty zPos undPos zvPos g ((i + (n - j)) * 3) (n - (i + (n - j))) (c - (i + (n - j))) (by omega) (fun t ht => hs1 _ (by rw [znn] at ht; omega)) (fun t _ => hf1 _) (zym _)
    exact this
  obtain ⟨W2, hW2⟩ : ∃ W2, W2 = W1.setCells g ((i + (n - j)) * 3) (Builtin.zeroCells zPos.cells (n - (i + (n - j)))).toList := ⟨_, rfl⟩
  have X : Hid (W1 = w.drew.setCells g (0 + i * 3) news) := hW1
  have mixed := zjt
  have hic : i ≤ c := by omega
  have hjc : j ≤ c := by omega
  rw [← hW1, ← hW2]
  rw [← hW2] at hcl
  clear hW1 hW2 hs1 hf1 hall hget hnews hlen hc hf h1 hl
  go_enter Tryz.func263, Tryz.ntmps263
  go_wp2_with fail
  go_region_law_o (refine step_append_room rfl (.tmp 22) (.tmp 25) 29 rfl 50 i0 3 undPos hi0 hz1 g 0 i c (by simp [Act.eval, Act.put]) A (n - j) (c - j) news (by simp [Act.eval, Act.put]) s1.out hsrc.out s2.out (by omega) s3.out ?_; rw [← X.out])
  go_wp2
  go_ret
  exact ⟨rfl, rfl⟩
end Go.Proofs.YtllkmncnmlmefaaGreat

namespace Go.Vc
open Go Go.RowKit Go.Lib
theorem zmd{P:Program}(w:World)(tS tR e:TypeId)(ht:P.underlying tS=some (.slice e))(size:Nat)(hz:∀w,(Go.sizeOf e).run P w=.ok size w)
  (a b:Addr) (la ca lb cb:Nat) (hne:a.block≠b.block) (u:Value) (j:Nat) (hc:w.cell? (a.add j)=some u) (cur:Array Value) (eb:TypeId) (hb:w.heap[b.block]?=some (.cells cur eb (0,0))):
  (Extern.SlicesOverlaps.overlaps #[tS,tS] #[tR] #[.slice (some a) la ca,.slice (some b) lb cb]).run P w=.ok (.bool false) w:=by
 have hnb:(a.block != b.block)=true:=by simpa using hne
 have hnb':(a.block==b.block)=false:=by simpa using hne
 obtain⟨ca',ea,fa,ha,h0⟩:∃ca' ea fa,w.heap[a.block]?=some (.cells ca' ea fa)∧0<ca'.size:=by
  unfold World.cell? at hc
  rw[zbp]at hc
  split at hc
  ·rename_i c e f h
   refine⟨c,e,f,h,?_⟩
   split at hc
   ·cases hc
   ·have:=(Array.getElem?_eq_some_iff.1 hc).1; omega
  ·cases hc
 have hsa:w.shape? a.block=some (ea,ca'.size):=by simp[World.shape?,ha]
 have hsb:w.shape? b.block=some (eb,cur.size):=by simp[World.shape?,hb]
 have hfb:w.frozen? b=false:=by simp[World.frozen?,hb]
 have hfb2:w.frozen? { block:=b.block,off:=cur.size }=false:=by simp[World.frozen?,hb]
 change Sem.run P (α:=Value) (do
  let some t:=(#[tS,tS]:Array TypeId)[0]? | stuck "slices.overlaps: no parameter types"
  let .slice elem ←underlying t|stuck "slices.overlaps: slice type expected"
  let size ←sizeOf elem
  match (some a:Option Addr),(some b:Option Addr) with
  |some a,some b=>
   if la=0∨lb=0∨size=0 then pure (Value.bool false)
   else if a.block != b.block&&(←frozen a)&&(←frozen b) then unsupported .addressObserved
   else do
    if a.block != b.block then do
     noView a; noView b
     if ←mayBeOne a b then return Value.bool ((←choose (.extern "sameAddr.stringBytes" 2))==1)
    pure (Value.bool (a.block==b.block&&a.off<b.off+lb*size&&b.off<a.off+la*size))
  |_,_=>pure (Value.bool false)) w=_
 by_cases h0':la=0∨lb=0∨size=0
 ·simp[run_underlying ht,hz,h0']
 ·obtain⟨k,hk⟩:∃k,ca'.size=k+1:=⟨ca'.size - 1,by omega⟩
  rw[hk]at hsa
  cases hfa:w.frozen? a<;>cases hfa2:w.frozen? { block:=a.block,off:=k+1 }<;>
   simp[run_underlying ht,hz,h0',hnb,hnb',frozen,noView,viewAt,mayBeOne,stringish,shape,Sem.run,hsa,hsb,hfa,hfb,hfa2,hfb2]
theorem zda{P:Program}(w:World)(dT sT ty elem:TypeId)(i0:TypeInfo)(b o dLen dCap:Nat)(a:Addr)(sLen sCap:Nat)(cs:List Value)
  (hu:P.underlying dT=some (.slice elem)) (hs:P.info? elem=some i0) (m:Nat) (hm:m=Nat.min sLen dLen) (hn:cs.length=m*i0.size)
  (hsrc:∀j v,cs[j]?=some v→w.cell? (a.add j)=some v) (hc:∀j,j<cs.length→(w.cell? ⟨b,o+j,none⟩).isSome=true) (hf:∀j,j<cs.length→w.frozen? ⟨b,o+j,none⟩=false) (h1:∀v∈cs,v.oneCell'=true):
  (Builtin.copy_ #[dT,sT] ty #[.slice (some ⟨b,o,none⟩) dLen dCap,.slice (some a) sLen sCap]).run P w=.ok (goInt m) (w.setCells b o cs):=by
 have hl:=run_loadCells_list (P:=P) w a cs hsrc
 have hst:=run_storeCells_cells (P:=P) b o cs 0 w (by simpa using hc) (by simpa using hf) h1
 subst hm
 simp[Builtin.copy_,run_underlying hu,Builtin.lenOf,Builtin.firstCells,sizeOf,typeInfo,hs,←hn,hl,hst]
end Go.Vc
namespace Go.Proofs.YtllkmncnmlmefaaGreat
open Go Go.Vc Go.RowKit Go.Lib Go.Sort Go.Proofs
theorem szPos(w:World):(Go.sizeOf 50).run Tryz.prog w=.ok 3 w:=by kernel_rfl
set_option maxHeartbeats 4000000 in
set_option maxRecDepth 1000000 in
theorem ztc(g n c:Nat)(x:Addr)(vc:Nat)(vs:List Value)(w:World)(hroom:n+1≤c)(hm:c≤9223372036854775807)(hvl:vs.length=3)
  (hsp:∀t,t<c*3→(w.cell? ⟨g,t,none⟩).isSome=true) (hf:∀t,w.frozen? ⟨g,t,none⟩=false) (hvs:∀t u,vs[t]?=some u→w.cell? (x.add t)=some u) (h1v:∀u∈vs,u.oneCell'=true):
  Calls Tryz.prog 264 #[.slice (some ⟨g,0,none⟩) n c,.int .i64 n,.slice (some x) 1 vc] w fun e w'=>e=.returned (.slice (some ⟨g,0,none⟩) (n+1) c)∧w'=w.setCells g (n*3) vs:=by
 obtain⟨i0,z0,hi0,hz0,hz1,hby,hzs⟩:=zea.info
 have mixed:=zjt
 have hrun:∀ty,(Builtin.append_ #[29,29] ty #[.slice (some ⟨g,0,none⟩) n c,.slice (some x) 1 vc]).run Tryz.prog w=.ok (.slice (some ⟨g,0,none⟩) (n+1) c) (w.setCells g (n*3) vs):=fun ty=>by
  have:=run_append_room_cells (P:=Tryz.prog) (w:=w) 29 ty 50 i0 undPos hi0 g 0 n c x 1 vc vs (by rw[hvl,hz1]) hvs h1v hroom (fun t ht=>hsp _ (by rw[hz1]; omega)) (fun t _=>hf _)
  rwa [hz1,Nat.zero_add]at this
 obtain⟨W2,hW2⟩:∃W2,W2=w.setCells g (n*3) vs:=⟨_,rfl⟩
 rw[←hW2]at hrun ⊢
 clear hW2 hsp hf hvs h1v hvl
 go_enter Tryz.func264,Tryz.ntmps264
 go_wp2_with (at_builtin; refine Lib.wpList_append_run _ rfl _ _ _ _ rfl _ _ rfl rfl _ _ (hrun _) ?_)
 go_ret
 exact⟨rfl,rfl⟩
end Go.Proofs.YtllkmncnmlmefaaGreat

namespace Go.Vc
open Go Go.RowKit Go.Lib
theorem ybq(w:World){P:Program}{o:Oper}{a:Act}{K:Act→World→Prop}{Q:Exit→Act→World→Prop}(d s:Operand)(t t':TypeId)
  (ho:o.op=.call { callee:=.builtin .copy,args := #[d,s],argTypes := #[t,t'] }) (v u:Value) (hd:a.eval d=v) (hs:a.eval s=u) {v':Value} {w':World}
  (hr:(Builtin.copy_ #[t,t'] o.type #[v,u]).run P w=.ok v' w') (h:K (a.put o.dst v') w'):o.wp P a w K Q:=by
 unfold Oper.wp execOp
 simp only[ho,resolve,invoke,builtin,Sem.run_bind,Sem.run_pure,Result.andThen_ok,List.map_toArray,List.map_cons,List.map_nil,hd,hs,hr]
 exact h
theorem zcu(w:World){P:Program}{ops:Array Oper}{rest:List Oper}{o:Oper}{a:Act}{Q:Exit→Act→World→Prop}(hgd:o.guard=none)(d s:Operand)(t t':TypeId)
  (ho:o.op=.call { callee:=.builtin .copy,args := #[d,s],argTypes := #[t,t'] }) (v u:Value) (hd:a.eval d=v) (hs:a.eval s=u) {v':Value} {w':World}
  (hr:(Builtin.copy_ #[t,t'] o.type #[v,u]).run P w=.ok v' w') (h:wpList P ops Q rest (a.put o.dst v') w'):wpList P ops Q (o::rest) a w:=
 wpList_plain hgd fun _ hK=>ybq w d s t t' ho v u hd hs hr (hK _ _ h)
theorem zgj{P:Program}{ops:Array Oper}{o:Oper}{a:Act}{w:World}{K:Act→World→Prop}{Q:Exit→Act→World→Prop}{E:Prop}
  (hg:o.guard=none) (d x:Operand) (dT sT:TypeId) (hop:o.op=Op.call { callee:=Callee.builtin Builtin.copy,args := #[d,x],argTypes := #[dT,sT] })
  (v u:Value) (hd:a.eval d=v) (hx:a.eval x=u) {v':Value} {w':World} (hr:(Builtin.copy_ #[dT,sT] o.type #[v,u]).run P w=.ok v' w') (hK:K (a.put o.dst v') w'):
  if Region.wanted o (yielded ops a.tmps)=true then Oper.wp P o a w K Q else E:=by
 have hw:Region.wanted o (yielded ops a.tmps)=true:=by simp[Region.wanted,hg]
 rw[if_pos hw]
 unfold Oper.wp
 simp[execOp,hop,resolve,invoke,builtin,hd,hx,hr,Result.andThen]
 exact hK
end Go.Vc
namespace Go.Proofs.YtllkmncnmlmefaaGreat
open Go Go.Vc Go.RowKit Go.Lib Go.Sort Go.Proofs
set_option maxHeartbeats 4000000 in
set_option maxRecDepth 1000000 in
theorem yds(g n c i:Nat)(x:Addr)(vc:Nat)(us vs:List Value)(cur:Array Value)(eb:TypeId)(w:World)(hi:i<n)(hroom:n+1≤c)(hm:c≤9223372036854775807)(hul:us.length=n*3)(hvl:vs.length=3)
  (hg:w.heap[g]?=some (.cells cur eb (0,0))) (hx:x.block≠g) (hc:∀t u,us[t]?=some u→w.cell? ⟨g,t,none⟩=some u) (h1:∀u∈us,u.oneCell'=true)
  (hsp:∀t,t<c*3→(w.cell? ⟨g,t,none⟩).isSome=true) (hf:∀t,w.frozen? ⟨g,t,none⟩=false) (hvs:∀t u,vs[t]?=some u→w.cell? (x.add t)=some u) (h1v:∀u∈vs,u.oneCell'=true):
  Calls Tryz.prog 264 #[.slice (some ⟨g,0,none⟩) n c,.int .i64 i,.slice (some x) 1 vc] w fun e w'=>e=.returned (.slice (some ⟨g,0,none⟩) (n+1) c)∧
   w'=(w.drew.setCells g ((i+1)*3) (us.drop (i*3))).setCells g (i*3) vs:=by
 obtain⟨i0,z0,hi0,hz0,hz1,hby,hzs⟩:=zea.info
 have mixed:=zjt
 obtain⟨u0,hu0⟩:∃u,vs[0]?=some u:=⟨vs[0],List.getElem?_eq_getElem (by omega)⟩
 have hov:∀lb cb,(callFunc 344 #[.slice (some x) 1 vc,.slice (some ⟨g,(i+1)*3,none⟩) lb cb]).run Tryz.prog w=.ok (.value (.bool false)) w:=fun lb cb=>by
  rw[run_callFunc_extern Tryz.func344 (by kernel_rfl) (by kernel_rfl) (by kernel_rfl) (e:=Extern.SlicesOverlaps.overlaps #[29,29] #[4]) (by kernel_rfl),
   zmd w 29 4 50 undPos 3 szPos x ⟨g,(i+1)*3,none⟩ 1 vc lb cb hx u0 0 (hvs 0 u0 hu0) cur eb hg]
  rfl
 have hdl:(us.drop (i*3)).length=(n - i)*3:=by rw[List.length_drop,hul,Nat.sub_mul]
 have hcp1:∀ty dc sc,(Builtin.copy_ #[29,29] ty #[.slice (some ⟨g,(i+1)*3,none⟩) (n - i) dc,.slice (some ⟨g,i*3,none⟩) (n+1 - i) sc]).run Tryz.prog w.drew=.ok (goInt (n - i:Nat)) (w.drew.setCells g ((i+1)*3) (us.drop (i*3))):=fun ty dc sc=>
  zda w.drew 29 29 ty 50 i0 g ((i+1)*3) (n - i) dc ⟨g,i*3,none⟩ (n+1 - i) sc (us.drop (i*3)) undPos hi0 (n - i) (by simp only[Nat.min_def]; split<;>omega) (by rw[hdl,hz1])
   (fun t v ht=>by rw[Addr.add_lit]; exact hc _ v (by rwa [List.getElem?_drop]at ht))
   (fun t ht=>hsp _ (by omega)) (fun t _=>hf _) (fun v hv=>h1 v (List.mem_of_mem_drop hv))
 obtain⟨W1,hW1⟩:∃W1,W1=w.drew.setCells g ((i+1)*3) (us.drop (i*3)):=⟨_,rfl⟩
 have hsp1:∀t,t<c*3→(W1.cell? ⟨g,t,none⟩).isSome=true:=fun t ht=>by
  rw[hW1]
  exact zcy g _ _ w.drew (fun t ht=>hsp _ (by omega)) _ (hsp t ht)
 obtain⟨W2,hW2⟩:∃W2,W2=W1.setCells g (i*3) vs:=⟨_,rfl⟩
 have hcp2:∀ty dc,(Builtin.copy_ #[29,29] ty #[.slice (some ⟨g,i*3,none⟩) (n+1 - i) dc,.slice (some x) 1 vc]).run Tryz.prog W1=.ok (goInt (1:Nat)) W2:=fun ty dc=>by
  rw[hW2]
  exact zda W1 29 29 ty 50 i0 g (i*3) (n+1 - i) dc x 1 vc vs undPos hi0 1 (by simp only[Nat.min_def]; split<;>omega) (by rw[hvl,hz1])
   (fun t v ht=>by
    rw[hW1,World.cell?_setCells_out g _ _ _ _ (fun h _=>absurd (by rwa [zbp]at h) hx)]
    exact hvs t v ht)
   (fun t ht=>hsp1 _ (by omega)) (fun t _=>by rw[hW1,World.frozen?_setCells]; exact hf _) h1v
 rw[←hW1,←hW2]
 rw[←hW1]at hcp1
 have hw1:IntKind.i64.wrap ((i:Int)+1)=(i:Int)+1:=by rw[IntKind.wrap_i64]; omega
 have hw2:IntKind.i64.wrap ((n:Int)+1)=(n:Int)+1:=by rw[IntKind.wrap_i64]; omega
 have hb1:(0:Int)≤(i:Int)+1:=by omega
 have hb5:(0:Int)≤(n:Int)+1:=by omega
 have htn:((i:Int)+1).toNat=i+1:=by omega
 have htn2:((n:Int)+1).toNat=n+1:=by omega
 have hb3:(i:Int)≤(n:Int)+1:=by omega
 have hb6:(i:Int)+1≤(n:Int)+1:=by omega
 have hb7:i≤n:=by omega
 have hb2:¬(c=i+1):=by omega
 have hb4:¬(c=i):=by omega
 have hz2:¬((i:Int)=(n:Int)):=by omega
 clear hW1 hW2 hsp1 hsp hf hvs h1v hc h1 hdl hu0 hvl hul
 go_enter Tryz.func264,Tryz.ntmps264
 go_wp2_with (simp only[hov])
 go_region_law_o (refine zgj rfl _ _ 29 29 rfl _ _ (by simp[Act.eval,Act.put]) (by simp[Act.eval,Act.put]) (hcp1 _ _ _) ?_)
 go_wp2_with (at_builtin; refine zcu _ rfl _ _ 29 29 rfl _ _ rfl rfl (hcp2 _ _) ?_)
 go_ret
 exact⟨rfl,rfl⟩
end Go.Proofs.YtllkmncnmlmefaaGreat

namespace Go.Proofs.YtllkmncnmlmefaaGreat
open Go Go.Vc Go.RowKit Go.Lib Go.Sort Go.Proofs
theorem z0Pos{i0:TypeInfo}(h:Tryz.prog.info? 50=some i0):i0.zero=some zPos:=by
 have e:(Tryz.prog.info? 50).bind (fun i=>i.zero)=some zPos:=by kernel_rfl
 rw[h]at e; exact e
set_option maxHeartbeats 4000000 in
set_option maxRecDepth 1000000 in
theorem ztd(a:Option Addr)(n c:Nat)(x:Addr)(vc:Nat)(us vs:List Value)(w:World)(hroom:c<n+1)(hn:n≤c)(hbig:(n+1)*40≤140737488355328)(hul:us.length=n*3)(hvl:vs.length=3)
  (hnil:a=none→n=0) (hsp:∀b,a=some b→b.spot=none) (hc:∀b,a=some b→∀t u,us[t]?=some u→w.cell? (b.add t)=some u)
  (hvs:∀t u,vs[t]?=some u→w.cell? (x.add t)=some u) (h1v:∀u∈vs,u.oneCell'=true):
  Calls Tryz.prog 264 #[.slice a n c,.int .i64 n,.slice (some x) 1 vc] w fun e w'=>e=.returned (.slice (some ⟨w.heap.size,0,none⟩) (n+1) (grownCap w (n+1) c 50))∧
   w'=w.drew.alloc (.cells ((us++vs).toArray++Builtin.zeroCells zPos.cells (grownCap w (n+1) c 50 - (n+1))) 50):=by
 obtain⟨i0,z0,hi0,hz0,hz1,hby,hzs⟩:=zea.info
 have mixed:=zjt
 have hsrc:Src Tryz.prog i0.size 29 (.slice (some x) 1 vc) 1 vs w:=by
  rw[hz1]
  exact Src.ofSlice w undPos x 1 vc vs (by omega) hvs h1v
 have hold:(Builtin.firstCells i0.size n (.slice a n c)).run Tryz.prog w.drew=.ok us.toArray w.drew:=by
  rw[hz1]
  cases a with
  |none=>
   have h0:=hnil rfl
   subst h0
   rw[List.length_eq_zero_iff.1 (by omega:us.length=0)]
   exact run_firstCells_none w.drew 3 0 0 c
  |some b=>exact run_firstCells_some w.drew 3 n b n c us hul (fun j v hj=>hc b rfl j v hj)
 have hrun:∀ty,(Builtin.append_ #[29,29] ty #[.slice a n c,.slice (some x) 1 vc]).run Tryz.prog w=_:=fun ty=>
  run_append_grow_src w 29 29 ty 50 i0 zPos undPos hi0 (z0Pos hi0) a n c us hold (.slice (some x) 1 vc) 1 vs hsrc hroom (by omega) (by rw[hby]; exact growslice_fits hroom hbig)
 obtain⟨W2,hW2⟩:∃W2,W2=w.drew.alloc (.cells ((us++vs).toArray++Builtin.zeroCells zPos.cells (grownCap w (n+1) c 50 - (n+1))) 50):=⟨_,rfl⟩
 obtain⟨C,hC⟩:∃C,C=grownCap w (n+1) c 50:=⟨_,rfl⟩
 rw[←hW2,←hC]at hrun
 rw[←hW2,←hC]
 clear hW2 hC hc hvs h1v hvl hul hold hsrc
 cases a with
 |none=>
  have h0:=hnil rfl
  subst h0
  go_enter Tryz.func264,Tryz.ntmps264
  go_wp2_with (at_builtin; refine Lib.wpList_append_run _ rfl _ _ _ _ rfl _ _ rfl rfl _ _ (hrun _) ?_)
  go_ret
  exact⟨rfl,rfl⟩
 |some b=>
  obtain⟨ab,ao,asp⟩:=b
  have:=hsp _ rfl
  simp only at this
  subst this
  go_enter Tryz.func264,Tryz.ntmps264
  go_wp2_with (at_builtin; refine Lib.wpList_append_run _ rfl _ _ _ _ rfl _ _ rfl rfl _ _ (hrun _) ?_)
  all_goals (go_ret; exact⟨rfl,rfl⟩)
set_option maxHeartbeats 4000000 in
set_option maxRecDepth 1000000 in
theorem ykg(g n c i:Nat)(x:Addr)(vc:Nat)(us vs:List Value)(w:World)(hi:i<n)(hroom:c<n+1)(hn:n≤c)(hm:c≤9223372036854775807)(hbig:(n+1)*40≤140737488355328)(hul:us.length=n*3)(hvl:vs.length=3)
  (hc:∀t u,us[t]?=some u→w.cell? ⟨g,t,none⟩=some u) (h1:∀u∈us,u.oneCell'=true) (hvs:∀t u,vs[t]?=some u→w.cell? (x.add t)=some u) (h1v:∀u∈vs,u.oneCell'=true):
  Calls Tryz.prog 264 #[.slice (some ⟨g,0,none⟩) n c,.int .i64 i,.slice (some x) 1 vc] w fun e w'=>e=.returned (.slice (some ⟨w.heap.size,0,none⟩) (n+1) (grownCap w (n+1) c 50))∧
   w'=(((w.alloc (.cells ((us.take (i*3)).toArray++Builtin.zeroCells zPos.cells (n+1 - i)++Builtin.zeroCells zPos.cells (grownCap w (n+1) c 50 - (n+1))) 50)).drew.setCells w.heap.size (i*3) vs).drew).setCells w.heap.size ((i+1)*3) (us.drop (i*3)):=by
 obtain⟨i0,z0,hi0,hz0,hz1,hby,hzs⟩:=zea.info
 have mixed:=zjt
 have hbw:g<w.heap.size:=block_lt_of_cell (hc 0 _ (List.getElem?_eq_getElem (by omega)))
 have hxw:x.block<w.heap.size:=by have:=block_lt_of_cell (hvs 0 _ (List.getElem?_eq_getElem (by omega))); rwa [zbp]at this
 have htl:(us.take (i*3)).length=i*3:=by rw[List.length_take,hul]; omega
 have hold:(Builtin.firstCells i0.size i (.slice (some ⟨g,0,none⟩) i c)).run Tryz.prog w.drew=.ok (us.take (i*3)).toArray w.drew:=by
  rw[hz1]
  exact run_firstCells_some w.drew 3 i ⟨g,0,none⟩ i c (us.take (i*3)) htl (fun j v hj=>by
   rw[Addr.add_lit,Nat.zero_add]
   rw[List.getElem?_take]at hj
   split at hj
   ·exact hc j v hj
   ·cases hj)
 have hkk:(n:Int)+1 - (i:Int)=((n+1 - i:Nat):Int):=by omega
 have hik:i+(n+1 - i)=n+1:=by omega
 have hrz:∀ty,(Builtin.append_ #[29,3] ty #[.slice (some ⟨g,0,none⟩) i c,.int .i64 ((n:Int)+1 - (i:Int))]).run Tryz.prog w=
   .ok (.slice (some ⟨w.heap.size,0,none⟩) (n+1) (grownCap w (n+1) c 50)) (w.drew.alloc (.cells ((us.take (i*3)).toArray++Builtin.zeroCells zPos.cells (n+1 - i)++Builtin.zeroCells zPos.cells (grownCap w (n+1) c 50 - (n+1))) 50)):=fun ty=>by
  have h:=Lib.run_append_grow_zeros w 29 3 ty 50 i0 zPos .i64 .i64 undPos und3 hi0 (z0Pos hi0) (some ⟨g,0,none⟩) i c (us.take (i*3)) hold (n+1 - i) (by omega) (by omega) (by omega) (by omega) (by rw[hby]; omega) (by rw[hby,hik]; exact growslice_fits hroom hbig)
  rw[hik]at h
  rw[hkk]
  exact h
 obtain⟨G,hG⟩:∃G,G=grownCap w (n+1) c 50:=⟨_,rfl⟩
 obtain⟨ROW,hROW⟩:∃ROW:Array Value,ROW=(us.take (i*3)).toArray++Builtin.zeroCells zPos.cells (n+1 - i)++Builtin.zeroCells zPos.cells (G - (n+1)):=⟨_,rfl⟩
 rw[←hG]at hrz ⊢
 rw[←hROW]at hrz ⊢
 have hzl:∀m:Nat,(Builtin.zeroCells zPos.cells m).size=m*3:=fun m=>by have:=znn m; simpa using this
 have hRl:(n+1)*3≤ROW.size:=by
  rw[hROW,Array.size_append,Array.size_append,hzl,hzl,List.size_toArray,htl]
  omega
 obtain⟨W1,hW1⟩:∃W1,W1=w.drew.alloc (.cells ROW 50):=⟨_,rfl⟩
 rw[←hW1]at hrz
 have hN:∀j,j<(n+1)*3→(W1.cell? ⟨w.heap.size,j,none⟩).isSome=true:=fun j hj=>by
  rw[hW1,World.cell?_alloc_at (w:=w.drew) ROW _ w.heap.size j rfl,Array.getElem?_eq_getElem (by omega)]; rfl
 have hNf:∀j,W1.frozen? ⟨w.heap.size,j,none⟩=false:=fun j=>by rw[hW1]; exact World.frozen?_alloc_at (w:=w.drew) ROW _ w.heap.size j rfl
 have hOb:∀j v,w.cell? ⟨g,j,none⟩=some v→W1.cell? ⟨g,j,none⟩=some v:=fun j v h=>by rw[hW1,World.cell?_alloc_past (w:=w.drew) _ g j hbw]; exact h
 have hOv:∀j v,w.cell? (x.add j)=some v→W1.cell? (x.add j)=some v:=fun j v h=>by
  rw[hW1]
  refine(World.cell?_of_block ?_).trans h
  rw[zbp]
  exact znc w.drew _ x.block hxw
 have hdl:(us.drop (i*3)).length=(n - i)*3:=by rw[List.length_drop,hul,Nat.sub_mul]
 have hcpA:∀(W:World),(∀x,W.cell? x=W1.cell? x)→(∀x,W.frozen? x=W1.frozen? x)→∀ty dc,(Builtin.copy_ #[29,29] ty #[.slice (some ⟨w.heap.size,i*3,none⟩) (n+1 - i) dc,.slice (some x) 1 vc]).run Tryz.prog W=.ok (goInt (1:Nat)) (W.setCells w.heap.size (i*3) vs):=fun W hWc hWf ty dc=>
  zda W 29 29 ty 50 i0 w.heap.size (i*3) (n+1 - i) dc x 1 vc vs undPos hi0 1 (by simp only[Nat.min_def]; split<;>omega) (by rw[hvl,hz1])
   (fun j v hj=>by rw[hWc]; exact hOv _ v (hvs j v hj))
   (fun j hj=>by rw[hWc]; exact hN _ (by omega)) (fun j hj=>by rw[hWf]; exact hNf _) h1v
 have hGn:n+1≤G:=by rw[hG]; exact grownCap_ge w _ _ _
 have hG63:G≤9223372036854775807:=by
  have:=grownCap_le_maxLen w (n+1) c 50 (by unfold maxLen; omega)
  rw[←hG]at this
  unfold maxLen at this
  omega
 have hGi:¬(G=i):=by omega
 have hGim:¬(G=i+1):=by omega
 have hci:¬(c=i):=by omega
 have hbN:g≠w.heap.size:=by omega
 have hcpB:∀(W:World),(∀x,W.cell? x=(W1.setCells w.heap.size (i*3) vs).cell? x)→(∀x,W.frozen? x=(W1.setCells w.heap.size (i*3) vs).frozen? x)→∀ty dc sc,(Builtin.copy_ #[29,29] ty #[.slice (some ⟨w.heap.size,(i+1)*3,none⟩) (n - i) dc,.slice (some ⟨g,i*3,none⟩) (n - i) sc]).run Tryz.prog W=.ok (goInt (n - i:Nat)) (W.setCells w.heap.size ((i+1)*3) (us.drop (i*3))):=fun W hWc hWf ty dc sc=>
  zda W 29 29 ty 50 i0 w.heap.size ((i+1)*3) (n - i) dc ⟨g,i*3,none⟩ (n - i) sc (us.drop (i*3)) undPos hi0 (n - i) (by simp only[Nat.min_def]; split<;>omega) (by rw[hdl,hz1])
   (fun j v hj=>by
    rw[Addr.add_lit,hWc,World.cell?_setCells_out _ _ _ _ _ (fun h _=>absurd h hbN)]
    exact hOb _ v (hc (i*3+j) v (by rwa [List.getElem?_drop]at hj)))
   (fun j hj=>by rw[hWc]; exact zcy _ _ _ _ (fun t ht=>hN _ (by omega)) _ (hN _ (by omega)))
   (fun j hj=>by rw[hWf,World.frozen?_setCells]; exact hNf _) (fun v hv=>h1 v (List.mem_of_mem_drop hv))
 subst hW1
 have hE1:∀x,((w.alloc (.cells ROW 50)).drew).cell? x=(w.drew.alloc (.cells ROW 50)).cell? x:=fun x=>rfl
 have hE2:∀x,((w.alloc (.cells ROW 50)).drew).frozen? x=(w.drew.alloc (.cells ROW 50)).frozen? x:=fun x=>rfl
 have hF1:∀x,(((w.alloc (.cells ROW 50)).drew.setCells w.heap.size (i*3) vs).drew).cell? x=((w.drew.alloc (.cells ROW 50)).setCells w.heap.size (i*3) vs).cell? x:=fun x=>rfl
 have hF2:∀x,(((w.alloc (.cells ROW 50)).drew.setCells w.heap.size (i*3) vs).drew).frozen? x=((w.drew.alloc (.cells ROW 50)).setCells w.heap.size (i*3) vs).frozen? x:=fun x=>rfl
 have hw1:IntKind.i64.wrap ((i:Int)+1)=(i:Int)+1:=by rw[IntKind.wrap_i64]; omega
 have hb1:(0:Int)≤(i:Int)+1:=by omega
 have htn:((i:Int)+1).toNat=i+1:=by omega
 have hb3:(i:Int)≤(n:Int)+1:=by omega
 have hb6:(i:Int)+1≤(n:Int)+1:=by omega
 have hin:i≤n:=by omega
 have hz2:¬((i:Int)=(n:Int)):=by omega
 have hz3:(c:Int)<(n:Int)+1:=by omega
 clear hkk hik hold hROW hG hRl hc hvs h1 h1v hOb hOv hN hNf hzl htl hdl hvl hul
 go_enter Tryz.func264,Tryz.ntmps264
 go_wp2_with (first
  |(at_builtin; refine Lib.wpList_append_run _ rfl _ _ _ _ rfl _ _ rfl rfl _ _ (hrz _) ?_)
  |(at_builtin; refine zcu _ rfl _ _ 29 29 rfl _ _ rfl rfl (hcpA _ hE1 hE2 _ _) ?_)
  |(at_builtin; refine zcu _ rfl _ _ 29 29 rfl _ _ rfl rfl (hcpB _ (fun _=>rfl) (fun _=>rfl) _ _ _) ?_))
 go_region_law_o (refine zgj rfl _ _ 29 29 rfl (.slice (some ⟨w.heap.size,(i+1)*3,none⟩) (n - i) (G - (i+1))) (.slice (some ⟨g,i*3,none⟩) (n - i) (c - i)) (by simp[Act.eval,Act.put]) (by simp[Act.eval,Act.put]) (hcpB _ hF1 hF2 3 (G - (i+1)) (c - i)) ?_)
 go_wp2
 go_ret
 exact⟨rfl,rfl⟩
end Go.Proofs.YtllkmncnmlmefaaGreat
namespace Go.Proofs.YtllkmncnmlmefaaGreat
open Go Go.Vc Go.RowKit Go.Lib
theorem zyj:zjb Tryz.prog 263:=⟨_,Tryz.func263,by decide +kernel,rfl⟩
theorem zla:zjb Tryz.prog 264:=⟨_,Tryz.func264,by decide +kernel,rfl⟩
theorem zqi{v:Value}(h:plainC v=true):v.oneCell'=true:=(zhs h).2
end Go.Proofs.YtllkmncnmlmefaaGreat
namespace Go.Vc
open Go Go.RowKit Go.Lib
theorem zvd{W:World}{g i k n:Nat}{us vs:List Value}(hu:us.length=n*k)(hv:vs.length=k)(hi:i≤n)
  (hA:∀t u,t<i*k→us[t]?=some u→W.cell? ⟨g,t,none⟩=some u) (hB:∀t u,vs[t]?=some u→W.cell? ⟨g,i*k+t,none⟩=some u)
  (hC:∀t u,(us.drop (i*k))[t]?=some u→W.cell? ⟨g,(i+1)*k+t,none⟩=some u):
  ∀t u,(us.take (i*k)++(vs++us.drop (i*k)))[t]?=some u→W.cell? ⟨g,t,none⟩=some u:=by
 intro t u ht
 have hik:i*k≤n*k:=Nat.mul_le_mul_right k hi
 have htl:(us.take (i*k)).length=i*k:=by rw[List.length_take,hu]; omega
 by_cases h1:t<i*k
 ·rw[List.getElem?_append_left (by omega),List.getElem?_take_of_lt h1]at ht
  exact hA t u h1 ht
 ·rw[List.getElem?_append_right (by omega),htl]at ht
  by_cases h2:t - i*k<vs.length
  ·rw[List.getElem?_append_left h2]at ht
   have:=hB _ u ht
   rwa [show i*k+(t - i*k)=t by omega]at this
  ·rw[List.getElem?_append_right (by omega)]at ht
   have:=hC _ u ht
   rw[Nat.add_mul,Nat.one_mul,hv]at this
   rwa [show i*k+k+(t - i*k - k)=t by omega]at this
theorem zzt{k:Nat}{e:TypeId}{t:DT}(hk:t.size=k){l:List t.den}{x:t.den}{U0:Nat→Prop}{B:Nat→Nat}{A:Asg}{w w':World}{g c' i:Nat}{us vs:List Value}{cur:Array Value}
  (m:Mem w U0 (Ow B A [] [.own e t l]) B A [] [.own e t l] w) (hus:t.hs (Us U0 B A [] [.own e t l]) w l us) (hvs:t.h (Us U0 B A [] [.own e t l]) w x vs) (hi:i≤l.length)
  (e1:w'.os=w.os) (e2:w'.tape=w.tape) (e3:w'.output=w.output) (e4:w.heap.size≤w'.heap.size) (e5:∀b,b<w.heap.size→(∀ad,(A 0).1=some ad→ad.block≠b)→w'.heap[b]?=w.heap[b]?) (e6:w.heap.size≤g∨∃ad,(A 0).1=some ad∧ad.block=g)
  (hg:w'.heap[g]?=some (.cells cur e (0,0))) (hs:cur.size=c'*k) (hc:∀n u,(us.take (i*k)++(vs++us.drop (i*k)))[n]?=some u→w'.cell? ⟨g,n,none⟩=some u) (hn:l.length+1≤c') (hm:c'≤maxLen):
  ∃B' A' r pb' rw',Mem w U0 (Ow B A [] [.own e t l]) B' A' pb' rw' w'∧r.h (env U0 B' A' pb' rw' w') (.slice (some ⟨g,0,none⟩) (l.length+1) c')∧(∀i,live [] i→live pb' i∧B' i=B i)∧pb'=[]∧(r,rw')=(DV.row 0,[DR.own e t (l.take i++x::l.drop i)]):=by
 subst hk
 have hel:(l.take i++x::l.drop i).length=l.length+1:=by rw[List.length_append,List.length_cons,List.length_take,List.length_drop]; omega
 have hul:=hus.1
 have hvl:=t.h_len hvs
 rw[←hel]
 refine ztn m ⟨e1,e2,e3,e4⟩ e5 (fun y hy=>?_) fun U' lt=>?_
 ·simp only[Option.some.injEq]at hy; subst hy
  rcases e6 with h|h
  ·exact .inr ⟨h,(Array.getElem?_eq_some_iff.1 hg).1⟩
  ·exact .inl h
 ·have hik:i*t.size≤l.length*t.size:=Nat.mul_le_mul_right t.size hi
  refine⟨us.take (i*t.size)++(vs++us.drop (i*t.size)),rowK hg hs hc ?_ (by omega) hm,?_⟩
  ·rw[List.length_append,List.length_append,List.length_take,List.length_drop,hul,hvl,hel,Nat.succ_mul]; omega
  ·have h2:=DT.hs_app (DT.hs_take (DT.hs_mono lt hus) hi) (DT.hs_app (DT.hs_one (t.mono lt hvs)) (DT.hs_drop (DT.hs_mono lt hus) i))
   simpa using h2
theorem insO_s{α:Type}{by_:Nat}{l:List α}{i:Int}{v:List α}{o:List α×Unit}(h:Go.Proofs.YtllkmncnmlmefaaGreat.insO by_ l i v=some o):∃(a:Nat) (x:α),i=a∧v=[x]∧a≤l.length∧(l.length+1)*by_≤140737488355328∧o=(l.take a++x::l.drop a,()):=by
 unfold Go.Proofs.YtllkmncnmlmefaaGreat.insO at h
 rcases bif_s h with ⟨hc,h⟩|⟨_,h⟩
 ·simp only[Bool.and_eq_true,decide_eq_true_eq]at hc
  obtain⟨⟨h0,h1⟩,h2⟩:=hc
  obtain⟨a,rfl⟩:=Int.eq_ofNat_of_zero_le h0
  split at h
  ·rename_i x _
   have h:=Option.some.inj h
   exact⟨a,x,rfl,rfl,by omega,Nat.le_of_ble_eq_true h2,by rw[←h]; rfl⟩
  ·cases h
 ·cases h
end Go.Vc
namespace Go.Proofs.YtllkmncnmlmefaaGreat
open Go Go.Vc Go.RowKit Go.Lib
end Go.Proofs.YtllkmncnmlmefaaGreat

namespace Go.Proofs.YtllkmncnmlmefaaGreat.Lot
open Go.Proofs.YtllkmncnmlmefaaGreat
open Go Go.Vc Go.RowKit Go.Lib Go.Sort Go.Proofs
theorem zea : ElemOk Tryz.prog 53 57 3 24 := zwq (by kernel_rfl) (by kernel_rfl) (by decide)
theorem undPos : Tryz.prog.underlying 53 = some (.slice 57) := by kernel_rfl
def zPos : Value := .agg #[.int .i64 0, .int .i64 0, .int .i64 0]
theorem zvPos (w : World) : (zeroValue 57).run Tryz.prog w = .ok zPos w := by kernel_rfl
theorem znn (n : Nat) : (Builtin.zeroCells zPos.cells n).toList.length = n * 3 := by simp [zPos, Builtin.zeroCells, Value.cells]
theorem zym (n : Nat) : ∀ v ∈ (Builtin.zeroCells zPos.cells n).toList, v.oneCell' = true := by
  intro v hv
  simp only [zPos, Builtin.zeroCells, Value.cells, Array.toList_map, List.mem_map] at hv
  obtain ⟨k, _, rfl⟩ := hv
  have : k % 3 = 0 ∨ k % 3 = 1 ∨ k % 3 = 2 := by omega
  rcases this with h | h | h <;> simp [h] <;> rfl
set_option maxHeartbeats 4000000 in
set_option maxRecDepth 1000000 in
theorem del_raw (g n c i j : Nat) (us : List Value) (w : World) (hl : us.length = n * 3) (hc : ∀ t u, us[t]? = some u → w.cell? ⟨g, t, none⟩ = some u) (h1 : ∀ u ∈ us, u.oneCell' = true)
    (hf : ∀ t, w.frozen? ⟨g, t, none⟩ = false) (hij : i < j) (hj : j ≤ n) (hn : n ≤ c) (hm : c ≤ 9223372036854775807) :
    Calls Tryz.prog 430 #[.slice (some ⟨g, 0, none⟩) n c, .int .i64 i, .int .i64 j] w fun e w' => e = .returned (.slice (some ⟨g, 0, none⟩) (i + (n - j)) c) ∧
      w' = (w.drew.setCells g (0 + i * 3) (us.drop (j * 3))).setCells g ((i + (n - j)) * 3) (Builtin.zeroCells zPos.cells (n - (i + (n - j)))).toList := by
  obtain ⟨i0, z0, hi0, hz0, hz1, hby, hzs⟩ := zea.info
  have hlen : (us.drop (j * 3)).length = (n - j) * 3 := by rw [List.length_drop, hl, Nat.sub_mul]
  obtain ⟨news, hnews⟩ : ∃ news, news = us.drop (j * 3) := ⟨_, rfl⟩
  rw [← hnews] at hlen ⊢
  have hget : ∀ t u, news[t]? = some u → w.cell? ⟨g, j * 3 + t, none⟩ = some u := fun t u h => hc _ _ (by rw [hnews, List.getElem?_drop] at h; exact h)
  obtain ⟨A, hA, hsrc⟩ : ∃ A : Addr, (if c = j then some (⟨g, 0, none⟩ : Addr) else some ⟨g, j * 3, none⟩) = some A ∧ Hid (∀ t u, news[t]? = some u → w.drew.cell? (A.add t) = some u) := by
    by_cases h : c = j
    · refine ⟨⟨g, 0, none⟩, by simp [h], fun t u hu => ?_⟩
      have h0 : news.length = 0 := by rw [hlen]; have : n - j = 0 := by omega
                                      rw [this, Nat.zero_mul]
      rw [List.length_eq_zero_iff.1 h0] at hu
      simp at hu
    · refine ⟨⟨g, j * 3, none⟩, by simp [h], fun t u hu => ?_⟩
      rw [Addr.add_lit]
      exact hget t u hu
  have s1 : Hid (news.length = (n - j) * 3) := hlen
  have s2 : Hid (∀ u ∈ news, u.oneCell' = true) := fun u hu => h1 u (by rw [hnews] at hu; exact List.mem_of_mem_drop hu)
  have hall : ∀ t, t < n * 3 → (w.cell? ⟨g, t, none⟩).isSome = true := fun t ht => by rw [hc t _ (List.getElem?_eq_getElem (by omega))]; rfl
  have s3 : Hid (∀ t, t < news.length → (w.drew.cell? ⟨g, 0 + i * 3 + t, none⟩).isSome = true ∧ w.drew.frozen? ⟨g, 0 + i * 3 + t, none⟩ = false) := fun t ht => ⟨hall _ (by omega), hf _⟩
  obtain ⟨W1, hW1⟩ : ∃ W1, W1 = w.drew.setCells g (0 + i * 3) news := ⟨_, rfl⟩
  have hs1 : ∀ t, t < n * 3 → (W1.cell? ⟨g, t, none⟩).isSome = true := fun t ht => by
    rw [hW1]
    exact zcy g news (0 + i * 3) w.drew (fun t ht => hall _ (by omega)) _ (hall t ht)
  have hf1 : ∀ t, W1.frozen? ⟨g, t, none⟩ = false := fun t => by rw [hW1, World.frozen?_setCells]; exact hf t
  have hcl : ∀ ty, (Builtin.clear_ #[53] ty #[.slice (some ⟨g, (i + (n - j)) * 3, none⟩) (n - (i + (n - j))) (c - (i + (n - j)))]).run Tryz.prog W1 = .ok (.tuple #[]) (W1.setCells g ((i + (n - j)) * 3) (Builtin.zeroCells zPos.cells (n - (i + (n - j)))).toList) := fun ty => by
    have := zmn W1 53 57 ty zPos undPos zvPos g ((i + (n - j)) * 3) (n - (i + (n - j))) (c - (i + (n - j))) (by omega) (fun t ht => hs1 _ (by rw [znn] at ht; omega)) (fun t _ => hf1 _) (zym _)
    exact this
  obtain ⟨W2, hW2⟩ : ∃ W2, W2 = W1.setCells g ((i + (n - j)) * 3) (Builtin.zeroCells zPos.cells (n - (i + (n - j)))).toList := ⟨_, rfl⟩
  have X : Hid (W1 = w.drew.setCells g (0 + i * 3) news) := hW1
  have mixed := zjt
  have hic : i ≤ c := by omega
  have hjc : j ≤ c := by omega
  rw [← hW1, ← hW2]
  rw [← hW2] at hcl
  clear hW1 hW2 hs1 hf1 hall hget hnews hlen hc hf h1 hl
  go_enter Tryz.func430, Tryz.ntmps430
  go_wp2_with fail
  go_region_law_o (refine step_append_room rfl (.tmp 22) (.tmp 25) 53 rfl 57 i0 3 undPos hi0 hz1 g 0 i c (by simp [Act.eval, Act.put]) A (n - j) (c - j) news (by simp [Act.eval, Act.put]) s1.out hsrc.out s2.out (by omega) s3.out ?_; rw [← X.out])
  go_wp2
  go_ret
  exact ⟨rfl, rfl⟩
end Go.Proofs.YtllkmncnmlmefaaGreat.Lot

namespace Go.Proofs.YtllkmncnmlmefaaGreat.Lot
open Go.Proofs.YtllkmncnmlmefaaGreat
open Go Go.Vc Go.RowKit Go.Lib Go.Sort Go.Proofs
theorem szPos(w:World):(Go.sizeOf 57).run Tryz.prog w=.ok 3 w:=by kernel_rfl
set_option maxHeartbeats 4000000 in
set_option maxRecDepth 1000000 in
theorem ztc(g n c:Nat)(x:Addr)(vc:Nat)(vs:List Value)(w:World)(hroom:n+1≤c)(hm:c≤9223372036854775807)(hvl:vs.length=3)
  (hsp:∀t,t<c*3→(w.cell? ⟨g,t,none⟩).isSome=true) (hf:∀t,w.frozen? ⟨g,t,none⟩=false) (hvs:∀t u,vs[t]?=some u→w.cell? (x.add t)=some u) (h1v:∀u∈vs,u.oneCell'=true):
  Calls Tryz.prog 431 #[.slice (some ⟨g,0,none⟩) n c,.int .i64 n,.slice (some x) 1 vc] w fun e w'=>e=.returned (.slice (some ⟨g,0,none⟩) (n+1) c)∧w'=w.setCells g (n*3) vs:=by
 obtain⟨i0,z0,hi0,hz0,hz1,hby,hzs⟩:=zea.info
 have mixed:=zjt
 have hrun:∀ty,(Builtin.append_ #[53,53] ty #[.slice (some ⟨g,0,none⟩) n c,.slice (some x) 1 vc]).run Tryz.prog w=.ok (.slice (some ⟨g,0,none⟩) (n+1) c) (w.setCells g (n*3) vs):=fun ty=>by
  have:=run_append_room_cells (P:=Tryz.prog) (w:=w) 53 ty 57 i0 undPos hi0 g 0 n c x 1 vc vs (by rw[hvl,hz1]) hvs h1v hroom (fun t ht=>hsp _ (by rw[hz1]; omega)) (fun t _=>hf _)
  rwa [hz1,Nat.zero_add]at this
 obtain⟨W2,hW2⟩:∃W2,W2=w.setCells g (n*3) vs:=⟨_,rfl⟩
 rw[←hW2]at hrun ⊢
 clear hW2 hsp hf hvs h1v hvl
 go_enter Tryz.func431,Tryz.ntmps431
 go_wp2_with (at_builtin; refine Lib.wpList_append_run _ rfl _ _ _ _ rfl _ _ rfl rfl _ _ (hrun _) ?_)
 go_ret
 exact⟨rfl,rfl⟩
end Go.Proofs.YtllkmncnmlmefaaGreat.Lot

namespace Go.Proofs.YtllkmncnmlmefaaGreat.Lot
open Go.Proofs.YtllkmncnmlmefaaGreat
open Go Go.Vc Go.RowKit Go.Lib Go.Sort Go.Proofs
set_option maxHeartbeats 4000000 in
set_option maxRecDepth 1000000 in
theorem yds(g n c i:Nat)(x:Addr)(vc:Nat)(us vs:List Value)(cur:Array Value)(eb:TypeId)(w:World)(hi:i<n)(hroom:n+1≤c)(hm:c≤9223372036854775807)(hul:us.length=n*3)(hvl:vs.length=3)
  (hg:w.heap[g]?=some (.cells cur eb (0,0))) (hx:x.block≠g) (hc:∀t u,us[t]?=some u→w.cell? ⟨g,t,none⟩=some u) (h1:∀u∈us,u.oneCell'=true)
  (hsp:∀t,t<c*3→(w.cell? ⟨g,t,none⟩).isSome=true) (hf:∀t,w.frozen? ⟨g,t,none⟩=false) (hvs:∀t u,vs[t]?=some u→w.cell? (x.add t)=some u) (h1v:∀u∈vs,u.oneCell'=true):
  Calls Tryz.prog 431 #[.slice (some ⟨g,0,none⟩) n c,.int .i64 i,.slice (some x) 1 vc] w fun e w'=>e=.returned (.slice (some ⟨g,0,none⟩) (n+1) c)∧
   w'=(w.drew.setCells g ((i+1)*3) (us.drop (i*3))).setCells g (i*3) vs:=by
 obtain⟨i0,z0,hi0,hz0,hz1,hby,hzs⟩:=zea.info
 have mixed:=zjt
 obtain⟨u0,hu0⟩:∃u,vs[0]?=some u:=⟨vs[0],List.getElem?_eq_getElem (by omega)⟩
 have hov:∀lb cb,(callFunc 446 #[.slice (some x) 1 vc,.slice (some ⟨g,(i+1)*3,none⟩) lb cb]).run Tryz.prog w=.ok (.value (.bool false)) w:=fun lb cb=>by
  rw[run_callFunc_extern Tryz.func446 (by kernel_rfl) (by kernel_rfl) (by kernel_rfl) (e:=Extern.SlicesOverlaps.overlaps #[53,53] #[4]) (by kernel_rfl),
   zmd w 53 4 57 undPos 3 szPos x ⟨g,(i+1)*3,none⟩ 1 vc lb cb hx u0 0 (hvs 0 u0 hu0) cur eb hg]
  rfl
 have hdl:(us.drop (i*3)).length=(n - i)*3:=by rw[List.length_drop,hul,Nat.sub_mul]
 have hcp1:∀ty dc sc,(Builtin.copy_ #[53,53] ty #[.slice (some ⟨g,(i+1)*3,none⟩) (n - i) dc,.slice (some ⟨g,i*3,none⟩) (n+1 - i) sc]).run Tryz.prog w.drew=.ok (goInt (n - i:Nat)) (w.drew.setCells g ((i+1)*3) (us.drop (i*3))):=fun ty dc sc=>
  zda w.drew 53 53 ty 57 i0 g ((i+1)*3) (n - i) dc ⟨g,i*3,none⟩ (n+1 - i) sc (us.drop (i*3)) undPos hi0 (n - i) (by simp only[Nat.min_def]; split<;>omega) (by rw[hdl,hz1])
   (fun t v ht=>by rw[Addr.add_lit]; exact hc _ v (by rwa [List.getElem?_drop]at ht))
   (fun t ht=>hsp _ (by omega)) (fun t _=>hf _) (fun v hv=>h1 v (List.mem_of_mem_drop hv))
 obtain⟨W1,hW1⟩:∃W1,W1=w.drew.setCells g ((i+1)*3) (us.drop (i*3)):=⟨_,rfl⟩
 have hsp1:∀t,t<c*3→(W1.cell? ⟨g,t,none⟩).isSome=true:=fun t ht=>by
  rw[hW1]
  exact zcy g _ _ w.drew (fun t ht=>hsp _ (by omega)) _ (hsp t ht)
 obtain⟨W2,hW2⟩:∃W2,W2=W1.setCells g (i*3) vs:=⟨_,rfl⟩
 have hcp2:∀ty dc,(Builtin.copy_ #[53,53] ty #[.slice (some ⟨g,i*3,none⟩) (n+1 - i) dc,.slice (some x) 1 vc]).run Tryz.prog W1=.ok (goInt (1:Nat)) W2:=fun ty dc=>by
  rw[hW2]
  exact zda W1 53 53 ty 57 i0 g (i*3) (n+1 - i) dc x 1 vc vs undPos hi0 1 (by simp only[Nat.min_def]; split<;>omega) (by rw[hvl,hz1])
   (fun t v ht=>by
    rw[hW1,World.cell?_setCells_out g _ _ _ _ (fun h _=>absurd (by rwa [zbp]at h) hx)]
    exact hvs t v ht)
   (fun t ht=>hsp1 _ (by omega)) (fun t _=>by rw[hW1,World.frozen?_setCells]; exact hf _) h1v
 rw[←hW1,←hW2]
 rw[←hW1]at hcp1
 have hw1:IntKind.i64.wrap ((i:Int)+1)=(i:Int)+1:=by rw[IntKind.wrap_i64]; omega
 have hw2:IntKind.i64.wrap ((n:Int)+1)=(n:Int)+1:=by rw[IntKind.wrap_i64]; omega
 have hb1:(0:Int)≤(i:Int)+1:=by omega
 have hb5:(0:Int)≤(n:Int)+1:=by omega
 have htn:((i:Int)+1).toNat=i+1:=by omega
 have htn2:((n:Int)+1).toNat=n+1:=by omega
 have hb3:(i:Int)≤(n:Int)+1:=by omega
 have hb6:(i:Int)+1≤(n:Int)+1:=by omega
 have hb7:i≤n:=by omega
 have hb2:¬(c=i+1):=by omega
 have hb4:¬(c=i):=by omega
 have hz2:¬((i:Int)=(n:Int)):=by omega
 clear hW1 hW2 hsp1 hsp hf hvs h1v hc h1 hdl hu0 hvl hul
 go_enter Tryz.func431,Tryz.ntmps431
 go_wp2_with (simp only[hov])
 go_region_law_o (refine zgj rfl _ _ 53 53 rfl _ _ (by simp[Act.eval,Act.put]) (by simp[Act.eval,Act.put]) (hcp1 _ _ _) ?_)
 go_wp2_with (at_builtin; refine zcu _ rfl _ _ 53 53 rfl _ _ rfl rfl (hcp2 _ _) ?_)
 go_ret
 exact⟨rfl,rfl⟩
end Go.Proofs.YtllkmncnmlmefaaGreat.Lot

namespace Go.Proofs.YtllkmncnmlmefaaGreat.Lot
open Go.Proofs.YtllkmncnmlmefaaGreat
open Go Go.Vc Go.RowKit Go.Lib Go.Sort Go.Proofs
theorem z0Pos{i0:TypeInfo}(h:Tryz.prog.info? 57=some i0):i0.zero=some zPos:=by
 have e:(Tryz.prog.info? 57).bind (fun i=>i.zero)=some zPos:=by kernel_rfl
 rw[h]at e; exact e
set_option maxHeartbeats 4000000 in
set_option maxRecDepth 1000000 in
theorem ztd(a:Option Addr)(n c:Nat)(x:Addr)(vc:Nat)(us vs:List Value)(w:World)(hroom:c<n+1)(hn:n≤c)(hbig:(n+1)*24≤140737488355328)(hul:us.length=n*3)(hvl:vs.length=3)
  (hnil:a=none→n=0) (hsp:∀b,a=some b→b.spot=none) (hc:∀b,a=some b→∀t u,us[t]?=some u→w.cell? (b.add t)=some u)
  (hvs:∀t u,vs[t]?=some u→w.cell? (x.add t)=some u) (h1v:∀u∈vs,u.oneCell'=true):
  Calls Tryz.prog 431 #[.slice a n c,.int .i64 n,.slice (some x) 1 vc] w fun e w'=>e=.returned (.slice (some ⟨w.heap.size,0,none⟩) (n+1) (grownCap w (n+1) c 57))∧
   w'=w.drew.alloc (.cells ((us++vs).toArray++Builtin.zeroCells zPos.cells (grownCap w (n+1) c 57 - (n+1))) 57):=by
 obtain⟨i0,z0,hi0,hz0,hz1,hby,hzs⟩:=zea.info
 have mixed:=zjt
 have hsrc:Src Tryz.prog i0.size 53 (.slice (some x) 1 vc) 1 vs w:=by
  rw[hz1]
  exact Src.ofSlice w undPos x 1 vc vs (by omega) hvs h1v
 have hold:(Builtin.firstCells i0.size n (.slice a n c)).run Tryz.prog w.drew=.ok us.toArray w.drew:=by
  rw[hz1]
  cases a with
  |none=>
   have h0:=hnil rfl
   subst h0
   rw[List.length_eq_zero_iff.1 (by omega:us.length=0)]
   exact run_firstCells_none w.drew 3 0 0 c
  |some b=>exact run_firstCells_some w.drew 3 n b n c us hul (fun j v hj=>hc b rfl j v hj)
 have hrun:∀ty,(Builtin.append_ #[53,53] ty #[.slice a n c,.slice (some x) 1 vc]).run Tryz.prog w=_:=fun ty=>
  run_append_grow_src w 53 53 ty 57 i0 zPos undPos hi0 (z0Pos hi0) a n c us hold (.slice (some x) 1 vc) 1 vs hsrc hroom (by omega) (by rw[hby]; exact growslice_fits hroom hbig)
 obtain⟨W2,hW2⟩:∃W2,W2=w.drew.alloc (.cells ((us++vs).toArray++Builtin.zeroCells zPos.cells (grownCap w (n+1) c 57 - (n+1))) 57):=⟨_,rfl⟩
 obtain⟨C,hC⟩:∃C,C=grownCap w (n+1) c 57:=⟨_,rfl⟩
 rw[←hW2,←hC]at hrun
 rw[←hW2,←hC]
 clear hW2 hC hc hvs h1v hvl hul hold hsrc
 cases a with
 |none=>
  have h0:=hnil rfl
  subst h0
  go_enter Tryz.func431,Tryz.ntmps431
  go_wp2_with (at_builtin; refine Lib.wpList_append_run _ rfl _ _ _ _ rfl _ _ rfl rfl _ _ (hrun _) ?_)
  go_ret
  exact⟨rfl,rfl⟩
 |some b=>
  obtain⟨ab,ao,asp⟩:=b
  have:=hsp _ rfl
  simp only at this
  subst this
  go_enter Tryz.func431,Tryz.ntmps431
  go_wp2_with (at_builtin; refine Lib.wpList_append_run _ rfl _ _ _ _ rfl _ _ rfl rfl _ _ (hrun _) ?_)
  all_goals (go_ret; exact⟨rfl,rfl⟩)
set_option maxHeartbeats 4000000 in
set_option maxRecDepth 1000000 in
theorem ykg(g n c i:Nat)(x:Addr)(vc:Nat)(us vs:List Value)(w:World)(hi:i<n)(hroom:c<n+1)(hn:n≤c)(hm:c≤9223372036854775807)(hbig:(n+1)*24≤140737488355328)(hul:us.length=n*3)(hvl:vs.length=3)
  (hc:∀t u,us[t]?=some u→w.cell? ⟨g,t,none⟩=some u) (h1:∀u∈us,u.oneCell'=true) (hvs:∀t u,vs[t]?=some u→w.cell? (x.add t)=some u) (h1v:∀u∈vs,u.oneCell'=true):
  Calls Tryz.prog 431 #[.slice (some ⟨g,0,none⟩) n c,.int .i64 i,.slice (some x) 1 vc] w fun e w'=>e=.returned (.slice (some ⟨w.heap.size,0,none⟩) (n+1) (grownCap w (n+1) c 57))∧
   w'=(((w.alloc (.cells ((us.take (i*3)).toArray++Builtin.zeroCells zPos.cells (n+1 - i)++Builtin.zeroCells zPos.cells (grownCap w (n+1) c 57 - (n+1))) 57)).drew.setCells w.heap.size (i*3) vs).drew).setCells w.heap.size ((i+1)*3) (us.drop (i*3)):=by
 obtain⟨i0,z0,hi0,hz0,hz1,hby,hzs⟩:=zea.info
 have mixed:=zjt
 have hbw:g<w.heap.size:=block_lt_of_cell (hc 0 _ (List.getElem?_eq_getElem (by omega)))
 have hxw:x.block<w.heap.size:=by have:=block_lt_of_cell (hvs 0 _ (List.getElem?_eq_getElem (by omega))); rwa [zbp]at this
 have htl:(us.take (i*3)).length=i*3:=by rw[List.length_take,hul]; omega
 have hold:(Builtin.firstCells i0.size i (.slice (some ⟨g,0,none⟩) i c)).run Tryz.prog w.drew=.ok (us.take (i*3)).toArray w.drew:=by
  rw[hz1]
  exact run_firstCells_some w.drew 3 i ⟨g,0,none⟩ i c (us.take (i*3)) htl (fun j v hj=>by
   rw[Addr.add_lit,Nat.zero_add]
   rw[List.getElem?_take]at hj
   split at hj
   ·exact hc j v hj
   ·cases hj)
 have hkk:(n:Int)+1 - (i:Int)=((n+1 - i:Nat):Int):=by omega
 have hik:i+(n+1 - i)=n+1:=by omega
 have hrz:∀ty,(Builtin.append_ #[53,3] ty #[.slice (some ⟨g,0,none⟩) i c,.int .i64 ((n:Int)+1 - (i:Int))]).run Tryz.prog w=
   .ok (.slice (some ⟨w.heap.size,0,none⟩) (n+1) (grownCap w (n+1) c 57)) (w.drew.alloc (.cells ((us.take (i*3)).toArray++Builtin.zeroCells zPos.cells (n+1 - i)++Builtin.zeroCells zPos.cells (grownCap w (n+1) c 57 - (n+1))) 57)):=fun ty=>by
  have h:=Lib.run_append_grow_zeros w 53 3 ty 57 i0 zPos .i64 .i64 undPos und3 hi0 (z0Pos hi0) (some ⟨g,0,none⟩) i c (us.take (i*3)) hold (n+1 - i) (by omega) (by omega) (by omega) (by omega) (by rw[hby]; omega) (by rw[hby,hik]; exact growslice_fits hroom hbig)
  rw[hik]at h
  rw[hkk]
  exact h
 obtain⟨G,hG⟩:∃G,G=grownCap w (n+1) c 57:=⟨_,rfl⟩
 obtain⟨ROW,hROW⟩:∃ROW:Array Value,ROW=(us.take (i*3)).toArray++Builtin.zeroCells zPos.cells (n+1 - i)++Builtin.zeroCells zPos.cells (G - (n+1)):=⟨_,rfl⟩
 rw[←hG]at hrz ⊢
 rw[←hROW]at hrz ⊢
 have hzl:∀m:Nat,(Builtin.zeroCells zPos.cells m).size=m*3:=fun m=>by have:=znn m; simpa using this
 have hRl:(n+1)*3≤ROW.size:=by
  rw[hROW,Array.size_append,Array.size_append,hzl,hzl,List.size_toArray,htl]
  omega
 obtain⟨W1,hW1⟩:∃W1,W1=w.drew.alloc (.cells ROW 57):=⟨_,rfl⟩
 rw[←hW1]at hrz
 have hN:∀j,j<(n+1)*3→(W1.cell? ⟨w.heap.size,j,none⟩).isSome=true:=fun j hj=>by
  rw[hW1,World.cell?_alloc_at (w:=w.drew) ROW _ w.heap.size j rfl,Array.getElem?_eq_getElem (by omega)]; rfl
 have hNf:∀j,W1.frozen? ⟨w.heap.size,j,none⟩=false:=fun j=>by rw[hW1]; exact World.frozen?_alloc_at (w:=w.drew) ROW _ w.heap.size j rfl
 have hOb:∀j v,w.cell? ⟨g,j,none⟩=some v→W1.cell? ⟨g,j,none⟩=some v:=fun j v h=>by rw[hW1,World.cell?_alloc_past (w:=w.drew) _ g j hbw]; exact h
 have hOv:∀j v,w.cell? (x.add j)=some v→W1.cell? (x.add j)=some v:=fun j v h=>by
  rw[hW1]
  refine(World.cell?_of_block ?_).trans h
  rw[zbp]
  exact znc w.drew _ x.block hxw
 have hdl:(us.drop (i*3)).length=(n - i)*3:=by rw[List.length_drop,hul,Nat.sub_mul]
 have hcpA:∀(W:World),(∀x,W.cell? x=W1.cell? x)→(∀x,W.frozen? x=W1.frozen? x)→∀ty dc,(Builtin.copy_ #[53,53] ty #[.slice (some ⟨w.heap.size,i*3,none⟩) (n+1 - i) dc,.slice (some x) 1 vc]).run Tryz.prog W=.ok (goInt (1:Nat)) (W.setCells w.heap.size (i*3) vs):=fun W hWc hWf ty dc=>
  zda W 53 53 ty 57 i0 w.heap.size (i*3) (n+1 - i) dc x 1 vc vs undPos hi0 1 (by simp only[Nat.min_def]; split<;>omega) (by rw[hvl,hz1])
   (fun j v hj=>by rw[hWc]; exact hOv _ v (hvs j v hj))
   (fun j hj=>by rw[hWc]; exact hN _ (by omega)) (fun j hj=>by rw[hWf]; exact hNf _) h1v
 have hGn:n+1≤G:=by rw[hG]; exact grownCap_ge w _ _ _
 have hG63:G≤9223372036854775807:=by
  have:=grownCap_le_maxLen w (n+1) c 57 (by unfold maxLen; omega)
  rw[←hG]at this
  unfold maxLen at this
  omega
 have hGi:¬(G=i):=by omega
 have hGim:¬(G=i+1):=by omega
 have hci:¬(c=i):=by omega
 have hbN:g≠w.heap.size:=by omega
 have hcpB:∀(W:World),(∀x,W.cell? x=(W1.setCells w.heap.size (i*3) vs).cell? x)→(∀x,W.frozen? x=(W1.setCells w.heap.size (i*3) vs).frozen? x)→∀ty dc sc,(Builtin.copy_ #[53,53] ty #[.slice (some ⟨w.heap.size,(i+1)*3,none⟩) (n - i) dc,.slice (some ⟨g,i*3,none⟩) (n - i) sc]).run Tryz.prog W=.ok (goInt (n - i:Nat)) (W.setCells w.heap.size ((i+1)*3) (us.drop (i*3))):=fun W hWc hWf ty dc sc=>
  zda W 53 53 ty 57 i0 w.heap.size ((i+1)*3) (n - i) dc ⟨g,i*3,none⟩ (n - i) sc (us.drop (i*3)) undPos hi0 (n - i) (by simp only[Nat.min_def]; split<;>omega) (by rw[hdl,hz1])
   (fun j v hj=>by
    rw[Addr.add_lit,hWc,World.cell?_setCells_out _ _ _ _ _ (fun h _=>absurd h hbN)]
    exact hOb _ v (hc (i*3+j) v (by rwa [List.getElem?_drop]at hj)))
   (fun j hj=>by rw[hWc]; exact zcy _ _ _ _ (fun t ht=>hN _ (by omega)) _ (hN _ (by omega)))
   (fun j hj=>by rw[hWf,World.frozen?_setCells]; exact hNf _) (fun v hv=>h1 v (List.mem_of_mem_drop hv))
 subst hW1
 have hE1:∀x,((w.alloc (.cells ROW 57)).drew).cell? x=(w.drew.alloc (.cells ROW 57)).cell? x:=fun x=>rfl
 have hE2:∀x,((w.alloc (.cells ROW 57)).drew).frozen? x=(w.drew.alloc (.cells ROW 57)).frozen? x:=fun x=>rfl
 have hF1:∀x,(((w.alloc (.cells ROW 57)).drew.setCells w.heap.size (i*3) vs).drew).cell? x=((w.drew.alloc (.cells ROW 57)).setCells w.heap.size (i*3) vs).cell? x:=fun x=>rfl
 have hF2:∀x,(((w.alloc (.cells ROW 57)).drew.setCells w.heap.size (i*3) vs).drew).frozen? x=((w.drew.alloc (.cells ROW 57)).setCells w.heap.size (i*3) vs).frozen? x:=fun x=>rfl
 have hw1:IntKind.i64.wrap ((i:Int)+1)=(i:Int)+1:=by rw[IntKind.wrap_i64]; omega
 have hb1:(0:Int)≤(i:Int)+1:=by omega
 have htn:((i:Int)+1).toNat=i+1:=by omega
 have hb3:(i:Int)≤(n:Int)+1:=by omega
 have hb6:(i:Int)+1≤(n:Int)+1:=by omega
 have hin:i≤n:=by omega
 have hz2:¬((i:Int)=(n:Int)):=by omega
 have hz3:(c:Int)<(n:Int)+1:=by omega
 clear hkk hik hold hROW hG hRl hc hvs h1 h1v hOb hOv hN hNf hzl htl hdl hvl hul
 go_enter Tryz.func431,Tryz.ntmps431
 go_wp2_with (first
  |(at_builtin; refine Lib.wpList_append_run _ rfl _ _ _ _ rfl _ _ rfl rfl _ _ (hrz _) ?_)
  |(at_builtin; refine zcu _ rfl _ _ 53 53 rfl _ _ rfl rfl (hcpA _ hE1 hE2 _ _) ?_)
  |(at_builtin; refine zcu _ rfl _ _ 53 53 rfl _ _ rfl rfl (hcpB _ (fun _=>rfl) (fun _=>rfl) _ _ _) ?_))
 go_region_law_o (refine zgj rfl _ _ 53 53 rfl (.slice (some ⟨w.heap.size,(i+1)*3,none⟩) (n - i) (G - (i+1))) (.slice (some ⟨g,i*3,none⟩) (n - i) (c - i)) (by simp[Act.eval,Act.put]) (by simp[Act.eval,Act.put]) (hcpB _ hF1 hF2 3 (G - (i+1)) (c - i)) ?_)
 go_wp2
 go_ret
 exact⟨rfl,rfl⟩
end Go.Proofs.YtllkmncnmlmefaaGreat.Lot

namespace Go.Proofs.YtllkmncnmlmefaaGreat.Lot
open Go.Proofs.YtllkmncnmlmefaaGreat
open Go Go.Vc Go.RowKit Go.Lib
theorem zyj:zjb Tryz.prog 430:=⟨_,Tryz.func430,by decide +kernel,rfl⟩
theorem zla:zjb Tryz.prog 431:=⟨_,Tryz.func431,by decide +kernel,rfl⟩
theorem zqi{v:Value}(h:plainC v=true):v.oneCell'=true:=(zhs h).2
theorem ydq:LSok Tryz.prog 430 ⟨[],[.row 57 tL0,.v (.int .i64),.v (.int .i64)],[],.own 57 tL0,fun z=>zmy z.1 z.2.1 z.2.2.1⟩:=by
 rintro⟨l,i,j,⟨⟩⟩ o ho U0 B A vs w m hv
 obtain⟨i,j,rfl,rfl,hij,hj,rfl⟩:=delO_s (show delO l i j=some o from ho)
 have hv:hL (env U0 B A [] [.own 57 tL0 l] w) [.row 0,.int .i64 i,.int .i64 j] vs:=hv
 have m:Mem w U0 (Ow B A [] [.own 57 tL0 l]) B A [] [.own 57 tL0 l] w:=m
 show CallsX Tryz.prog 430 vs.toArray w fun v w'=>∃B' A' r pb' rw',Mem w U0 (Ow B A [] [.own 57 tL0 l]) B' A' pb' rw' w'∧r.h (env U0 B' A' pb' rw' w') v∧(∀i,live [] i→live pb' i∧B' i=B i)∧pb'=[]∧(r,rw')=(DV.row 0,[DR.own 57 tL0 (l.take i++l.drop j)])
 simp only[hL,DV.h]at hv
 obtain⟨_,_,rfl,⟨e,t,l2,hj2,rfl⟩,_,_,rfl,rfl,_,_,rfl,rfl,rfl⟩:=hv
 have hj2:some (DR.own 57 tL0 l)=some (.own e t l2):=hj2
 simp only[Option.some.injEq,DR.own.injEq]at hj2
 obtain⟨rfl,rfl,hl2⟩:=hj2
 cases hl2
 obtain⟨us,⟨hxl,ho⟩,hxs⟩:=m.row 0 57 tL0 l rfl
 rcases ho with ⟨hn,hx⟩|⟨g,cap,cur,heq,hbase,hg,hn1,hn2,hn3,hn4⟩
 ·simp only[Value.slice.injEq]at hn; omega
 simp only[Value.slice.injEq]at heq
 obtain⟨hA0,_,hc⟩:=heq
 have hxl:us.length=l.length*3:=hxl
 have hn3:cur.size=cap*3:=hn3
 have hn4:cur.toList.take (l.length*3)=us:=hn4
 have hcc:=row_at hg hn4
 have h1:∀u∈us,u.oneCell'=true:=fun u hu=>zqi (DT.hs_plain hxs u hu)
 have hf:∀t,w.frozen? ⟨g,t,none⟩=false:=fun t=>by simp[World.frozen?,hg]
 have hm:cap≤9223372036854775807:=by rw[zbc]at hn2; exact hn2
 change CallsX Tryz.prog 430 #[Value.slice (A 0).1 l.length (A 0).2,_,_] w _
 rw[hA0,hc]
 refine⟨.inl ⟨zyj,(del_raw g l.length cap i j us w hxl hcc h1 hf hij hj hn1 hm).mono fun e w' ⟨he,hw⟩=>⟨_,he,?_⟩⟩⟩
 obtain⟨cur1,hg1,hs1⟩:=zor (o:=0+i*3) (vs:=us.drop (j*3)) (w:=w.drew) hg
 obtain⟨cur2,hg2,hs2⟩:=zor (o:=(i+(l.length - j))*3) (vs:=(Builtin.zeroCells zPos.cells (l.length - (i+(l.length - j)))).toList) hg1
 obtain⟨a1,a2,a3,a4⟩:=zia g (0+i*3) (us.drop (j*3)) w.drew
 obtain⟨b1,b2,b3,b4⟩:=zia g ((i+(l.length - j))*3) (Builtin.zeroCells zPos.cells (l.length - (i+(l.length - j)))).toList (w.drew.setCells g (0+i*3) (us.drop (j*3)))
 have hel:(l.take i++l.drop j).length=i+(l.length - j):=by rw[List.length_append,List.length_take,List.length_drop]; omega
 rw[←hel]
 subst hw
 refine ztn m ⟨b1.trans a1,b2.trans a2,b3.trans a3,by rw[b4,a4]; exact Nat.le_refl _⟩ (fun b hb hn=>?_) (fun x hx=>?_) fun U' lt=>?_
 ·have hne:b≠g:=fun h=>hn _ hA0 h.symm
  rw[zoq hne,zoq hne]; rfl
 ·simp only[Option.some.injEq]at hx; subst hx
  exact .inl ⟨_,hA0,rfl⟩
 ·have hdl:(us.drop (j*3)).length=(l.length - j)*3:=by rw[List.length_drop,hxl,Nat.sub_mul]
  have htl:(us.take (i*3)).length=i*3:=by rw[List.length_take,hxl]; omega
  refine⟨us.take (i*3)++us.drop (j*3),rowK hg2 (by rw[hs2,hs1,hn3]; rfl) (fun t u ht=>?_) (by rw[List.length_append,htl,hdl,hel,←Nat.add_mul]; rfl) (by omega) hn2,DT.hs_app (DT.hs_take (DT.hs_mono lt hxs) (by omega)) (DT.hs_drop (DT.hs_mono lt hxs) j)⟩
  have hlen:t<i*3+(l.length - j)*3:=by have:=(List.getElem?_eq_some_iff.1 ht).1; rw[List.length_append,htl,hdl]at this; exact this
  rw[World.cell?_setCells_out g _ _ _ _ (fun _ _=>by show t<(i+(l.length - j))*3∨_; omega)]
  by_cases h3:t<i*3
  ·rw[List.getElem?_append_left (by omega),List.getElem?_take_of_lt h3]at ht
   rw[World.cell?_setCells_out g _ _ _ _ (fun _ _=>by show t<0+i*3∨_; omega)]
   exact hcc t u ht
  ·rw[List.getElem?_append_right (by omega),htl]at ht
   have h4:t - i*3<(us.drop (j*3)).length:=by omega
   have:=World.cell?_setCells_in g (us.drop (j*3)) (0+i*3) w.drew (fun q hq=>by
    show (w.cell? _).isSome=true
    rw[hcc _ _ (List.getElem?_eq_getElem (by omega))]; rfl) (t - i*3) h4
   rw[show 0+i*3+(t - i*3)=t by omega]at this
   rw[this,←ht,List.getElem?_eq_getElem h4]
def ygg:KC Tryz.prog:=⟨430,fun _=>.ls ⟨[],[.row 57 tL0,.v (.int .i64),.v (.int .i64)],[],.own 57 tL0,fun z=>zmy z.1 z.2.1 z.2.2.1⟩,ydq⟩
end Go.Proofs.YtllkmncnmlmefaaGreat.Lot

namespace Go.Proofs.YtllkmncnmlmefaaGreat.Lot
open Go.Proofs.YtllkmncnmlmefaaGreat
open Go Go.Vc Go.RowKit Go.Lib
theorem ydp:LSok Tryz.prog 431 ⟨[],[.row 57 tL0,.v (.int .i64),.v (.slc tL0)],[],.own 57 tL0,fun z=>zmx z.1 z.2.1 z.2.2.1⟩:=by
 rintro⟨els,i,v,⟨⟩⟩ o ho U0 B A vs0 w m hv
 obtain⟨i,y,rfl,rfl,hi,hbig,rfl⟩:=insO_s (show insO 24 els i v=some o from ho)
 have hv:hL (env U0 B A [] [.own 57 tL0 els] w) [.row 0,.int .i64 i,.sl tL0 [y]] vs0:=hv
 have m:Mem w U0 (Ow B A [] [.own 57 tL0 els]) B A [] [.own 57 tL0 els] w:=m
 show CallsX Tryz.prog 431 vs0.toArray w fun v w'=>∃B' A' r pb' rw',Mem w U0 (Ow B A [] [.own 57 tL0 els]) B' A' pb' rw' w'∧r.h (env U0 B' A' pb' rw' w') v∧(∀i,live [] i→live pb' i∧B' i=B i)∧pb'=[]∧(r,rw')=(DV.row 0,[DR.own 57 tL0 (els.take i++y::els.drop i)])
 simp only[hL,DV.h]at hv
 obtain⟨_,_,rfl,⟨e,t,l2,hj2,rfl⟩,_,_,rfl,rfl,_,_,rfl,⟨av,vc,hsv,_,_,hel0⟩,rfl⟩:=hv
 have hj2:some (DR.own 57 tL0 els)=some (.own e t l2):=hj2
 simp only[Option.some.injEq,DR.own.injEq]at hj2
 obtain⟨rfl,rfl,hl2⟩:=hj2
 cases hl2
 simp only[List.cons.injEq,and_true]at hsv
 subst hsv
 obtain⟨vs,hvs,hat⟩:=hel0 0 y rfl
 have hvs:tL0.h (Us U0 B A [] [.own 57 tL0 els]) w y vs:=hvs
 have hvl:vs.length=3:=tL0.h_len hvs
 have h1v:∀u∈vs,u.oneCell'=true:=fun u hu=>zqi (tL0.h_one hvs u hu)
 obtain⟨x,rfl,hxU,hxw⟩:∃x,av=some x∧¬Us U0 B A [] [.own 57 tL0 els] x.block∧x.block<w.heap.size:=by
  obtain⟨x,h1,h2,h3,_⟩:=hat 0 vs[0] (List.getElem?_eq_getElem (by omega))
  exact⟨x,h1,h2,h3⟩
 have hcv:∀t u,vs[t]?=some u→w.cell? (x.add t)=some u:=fun t u ht=>by
  obtain⟨x',h1,_,_,h4⟩:=hat t u ht
  simp only[Option.some.injEq]at h1; subst h1
  have h4:w.cell? (x.add (0*tL0.size+t))=some u:=h4
  rwa [Nat.zero_mul,Nat.zero_add]at h4
 obtain⟨us,⟨hxl,ho⟩,hus⟩:=m.row 0 57 tL0 els rfl
 have hxl:us.length=els.length*3:=hxl
 have h1:∀u∈us,u.oneCell'=true:=fun u hu=>zqi (DT.hs_plain hus u hu)
 change CallsX Tryz.prog 431 #[Value.slice (A 0).1 els.length (A 0).2,_,_] w _
 have hzl:∀m:Nat,(Builtin.zeroCells zPos.cells m).size=m*3:=fun m=>by have:=znn m; simpa using this
 generalize hA1:(A 0).1=a at*
 generalize hA2:(A 0).2=c at*
 have grow:(∀b,a=some b→b.spot=none)→(a=none→els.length=0)→(∀b,a=some b→∀t u,us[t]?=some u→w.cell? (b.add t)=some u)→els.length≤c→c<els.length+1→i=els.length→
   CallsX Tryz.prog 431 #[Value.slice a els.length c,.int .i64 (i:Int),.slice (some x) 1 vc] w fun v w'=>∃B' A' r pb' rw',Mem w U0 (Ow B A [] [.own 57 tL0 els]) B' A' pb' rw' w'∧r.h (env U0 B' A' pb' rw' w') v∧(∀i,live [] i→live pb' i∧B' i=B i)∧pb'=[]∧(r,rw')=(DV.row 0,[DR.own 57 tL0 (els.take i++y::els.drop i)]):=by
  intro hsp hnil hc hnc hroom hie
  subst hie
  refine⟨.inl ⟨zla,(ztd a els.length c x vc us vs w hroom hnc hbig hxl hvl hnil hsp hc hcv h1v).mono fun e w' ⟨he,hw⟩=>⟨_,he,?_⟩⟩⟩
  have hC:=grownCap_ge w (els.length+1) c 57
  have hC2:=grownCap_le_maxLen w (els.length+1) c 57 (by rw[zbc]; omega)
  rw[hw]
  generalize grownCap w (els.length+1) c 57=C at*
  refine zzt (k:=3) rfl (us:=us) (vs:=vs) m hus hvs hi rfl rfl rfl (by simp) (fun b hb _=>znc w.drew _ b hb) (.inl (Nat.le_refl _)) (heap_alloc_new w.drew _) ?_ ?_ hC hC2
  ·rw[Array.size_append,hzl,List.size_toArray,List.length_append,hxl,hvl]; omega
  ·have hcell:∀t u,(us++vs)[t]?=some u→(w.drew.alloc (.cells ((us++vs).toArray++Builtin.zeroCells zPos.cells (C - (els.length+1))) 57)).cell? ⟨w.heap.size,t,none⟩=some u:=fun t u ht=>by
    have hlt:=(List.getElem?_eq_some_iff.1 ht).1
    rw[World.cell?_alloc_at (w:=w.drew) _ _ w.heap.size t rfl,Array.getElem?_append_left (by simpa using hlt),List.getElem?_toArray]
    exact ht
   rw[←hxl,List.take_length,List.drop_length,List.append_nil]
   exact hcell
 rcases ho with ⟨he,hn⟩|⟨g,cap,cur,heq,hbase,hg,hn1,hn2,hn3,hn4⟩
 ·simp only[Value.slice.injEq]at he
  obtain⟨rfl,_,rfl⟩:=he
  refine grow (by simp) (fun _=>hn) (by simp) (by omega) (by omega) (by omega)
 simp only[Value.slice.injEq]at heq
 obtain⟨rfl,_,rfl⟩:=heq
 have hn3:cur.size=c*3:=hn3
 have hn4:cur.toList.take (els.length*3)=us:=hn4
 have hgl:g<w.heap.size:=(Array.getElem?_eq_some_iff.1 hg).1
 have hxg:x.block≠g:=fun e=>hxU (.inr ⟨true,0,_,_,rfl,by simp,hA1,e.symm⟩)
 have hc:∀t u,us[t]?=some u→w.cell? ⟨g,t,none⟩=some u:=fun t u ht=>by
  have ht':t<us.length:=(List.getElem?_eq_some_iff.1 ht).1
  have e1:(cur.toList.take (els.length*3))[t]?=us[t]?:=by rw[hn4]
  rw[List.getElem?_take_of_lt (by omega),ht,Array.getElem?_toList]at e1
  simp[World.cell?,hg,e1]
 have hsp:∀t,t<c*3→(w.cell? ⟨g,t,none⟩).isSome=true:=fun t ht=>by
  simp[World.cell?,hg,hn3,ht]
 have hf:∀t,w.frozen? ⟨g,t,none⟩=false:=fun t=>by simp[World.frozen?,hg]
 have hm:c≤9223372036854775807:=by rw[zbc]at hn2; exact hn2
 by_cases hroom:els.length+1≤c
 ·by_cases hie:i=els.length
  ·subst hie
   refine⟨.inl ⟨zla,(ztc g els.length c x vc vs w hroom hm hvl hsp hf hcv h1v).mono fun e w' ⟨he,hw⟩=>⟨_,he,?_⟩⟩⟩
   obtain⟨cur1,hg1,hs1⟩:=zor (o:=els.length*3) (vs:=vs) (w:=w) hg
   obtain⟨a1,a2,a3,a4⟩:=zia g (els.length*3) vs w
   rw[hw]
   refine zzt (k:=3) rfl (us:=us) (vs:=vs) m hus hvs hi a1 a2 a3 (by rw[a4]; exact Nat.le_refl _) (fun b hb hn=>zoq (fun h=>hn _ hA1 h.symm)) (.inr ⟨_,hA1,rfl⟩) hg1 (by rw[hs1,hn3]) ?_ hroom hn2
   refine zvd hxl hvl (Nat.le_refl _) (fun t u ht hu=>?_) (fun t u hu=>?_) (fun t u hu=>?_)
   ·rw[World.cell?_setCells_out g _ _ _ _ (fun _ _=>.inl ht)]; exact hc t u hu
   ·have h4:=(List.getElem?_eq_some_iff.1 hu).1
    have:=World.cell?_setCells_in g vs (els.length*3) w (fun q hq=>hsp _ (by omega)) t h4
    rw[this,←hu,List.getElem?_eq_getElem h4]
   ·rw[List.drop_eq_nil_of_le (by omega)]at hu; simp at hu
  ·have hlt:i<els.length:=by omega
   refine⟨.inl ⟨zla,(yds g els.length c i x vc us vs cur 57 w hlt hroom hm hxl hvl hg hxg hc h1 hsp hf hcv h1v).mono fun e w' ⟨he,hw⟩=>⟨_,he,?_⟩⟩⟩
   obtain⟨cur1,hg1,hs1⟩:=zor (o:=(i+1)*3) (vs:=us.drop (i*3)) (w:=w.drew) hg
   obtain⟨cur2,hg2,hs2⟩:=zor (o:=i*3) (vs:=vs) hg1
   obtain⟨a1,a2,a3,a4⟩:=zia g ((i+1)*3) (us.drop (i*3)) w.drew
   obtain⟨b1,b2,b3,b4⟩:=zia g (i*3) vs (w.drew.setCells g ((i+1)*3) (us.drop (i*3)))
   have hdl:(us.drop (i*3)).length=(els.length - i)*3:=by rw[List.length_drop,hxl,Nat.sub_mul]
   have hsp1:∀t,t<c*3→((w.drew.setCells g ((i+1)*3) (us.drop (i*3))).cell? ⟨g,t,none⟩).isSome=true:=fun t ht=>
    zcy g _ _ w.drew (fun t ht=>hsp _ (by omega)) _ (hsp t ht)
   rw[hw]
   refine zzt (k:=3) rfl (us:=us) (vs:=vs) m hus hvs hi (b1.trans a1) (b2.trans a2) (b3.trans a3) (by rw[b4,a4]; exact Nat.le_refl _) (fun b hb hn=>?_) (.inr ⟨_,hA1,rfl⟩) hg2 (by rw[hs2,hs1,hn3]) ?_ hroom hn2
   ·have hne:b≠g:=fun h=>hn _ hA1 h.symm
    rw[zoq hne,zoq hne]; rfl
   ·refine zvd hxl hvl hi (fun t u ht hu=>?_) (fun t u hu=>?_) (fun t u hu=>?_)
    ·rw[World.cell?_setCells_out g _ _ _ _ (fun _ _=>.inl ht),World.cell?_setCells_out g _ _ _ _ (fun _ _=>.inl (by show t<(i+1)*3; omega))]
     exact hc t u hu
    ·have h4:=(List.getElem?_eq_some_iff.1 hu).1
     have:=World.cell?_setCells_in g vs (i*3) (w.drew.setCells g ((i+1)*3) (us.drop (i*3))) (fun q hq=>hsp1 _ (by omega)) t h4
     rw[this,←hu,List.getElem?_eq_getElem h4]
    ·have h4:=(List.getElem?_eq_some_iff.1 hu).1
     rw[World.cell?_setCells_out g _ _ _ _ (fun _ _=>.inr (by show i*3+vs.length≤(i+1)*3+t; omega))]
     have:=World.cell?_setCells_in g (us.drop (i*3)) ((i+1)*3) w.drew (fun q hq=>hsp _ (by omega)) t h4
     rw[this,←hu,List.getElem?_eq_getElem h4]
 ·by_cases hie:i=els.length
  ·refine grow (fun b hb=>by cases hb; rfl) (by simp) (fun b hb t u hu=>?_) hn1 (by omega) hie
   cases hb
   rw[Addr.add_lit,Nat.zero_add]
   exact hc t u hu
  ·have hlt:i<els.length:=by omega
   refine⟨.inl ⟨zla,(ykg g els.length c i x vc us vs w hlt (by omega) hn1 hm hbig hxl hvl hc h1 hcv h1v).mono fun e w' ⟨he,hw⟩=>⟨_,he,?_⟩⟩⟩
   have hC:=grownCap_ge w (els.length+1) c 57
   have hC2:=grownCap_le_maxLen w (els.length+1) c 57 (by rw[zbc]; omega)
   rw[hw]
   generalize grownCap w (els.length+1) c 57=C at*
   generalize hROW:(us.take (i*3)).toArray++Builtin.zeroCells zPos.cells (els.length+1 - i)++Builtin.zeroCells zPos.cells (C - (els.length+1))=ROW
   have htl:(us.take (i*3)).length=i*3:=by rw[List.length_take,hxl]; omega
   have hRs:ROW.size=C*3:=by rw[←hROW,Array.size_append,Array.size_append,hzl,hzl,List.size_toArray,htl]; omega
   have hRt:∀t,t<i*3→ROW[t]?=us[t]?:=fun t ht=>by
    rw[←hROW,Array.append_assoc,Array.getElem?_append_left (by rw[List.size_toArray]; omega),List.getElem?_toArray,List.getElem?_take_of_lt ht]
   have hg0:(w.alloc (.cells ROW 57)).drew.heap[w.heap.size]?=some (.cells ROW 57 (0,0)):=heap_alloc_new w _
   obtain⟨cur1,hg1,hs1⟩:=zor (o:=i*3) (vs:=vs) hg0
   have hg1':((w.alloc (.cells ROW 57)).drew.setCells w.heap.size (i*3) vs).drew.heap[w.heap.size]?=some (.cells cur1 57 (0,0)):=hg1
   obtain⟨cur2,hg2,hs2⟩:=zor (o:=(i+1)*3) (vs:=us.drop (i*3)) hg1'
   obtain⟨a1,a2,a3,a4⟩:=zia w.heap.size (i*3) vs (w.alloc (.cells ROW 57)).drew
   obtain⟨b1,b2,b3,b4⟩:=zia w.heap.size ((i+1)*3) (us.drop (i*3)) ((w.alloc (.cells ROW 57)).drew.setCells w.heap.size (i*3) vs).drew
   have hdl:(us.drop (i*3)).length=(els.length - i)*3:=by rw[List.length_drop,hxl,Nat.sub_mul]
   have hcell0:∀t,(w.alloc (.cells ROW 57)).drew.cell? ⟨w.heap.size,t,none⟩=ROW[t]?:=fun t=>World.cell?_alloc_at (w:=w) ROW _ w.heap.size t rfl
   have hsp0:∀t,t<C*3→((w.alloc (.cells ROW 57)).drew.cell? ⟨w.heap.size,t,none⟩).isSome=true:=fun t ht=>by
    rw[hcell0,Array.getElem?_eq_getElem (by omega)]; rfl
   have hsp1:∀t,t<C*3→(((w.alloc (.cells ROW 57)).drew.setCells w.heap.size (i*3) vs).drew.cell? ⟨w.heap.size,t,none⟩).isSome=true:=fun t ht=>
    zcy w.heap.size _ _ (w.alloc (.cells ROW 57)).drew (fun t ht=>hsp0 _ (by omega)) _ (hsp0 t ht)
   refine zzt (k:=3) rfl (us:=us) (vs:=vs) m hus hvs hi (b1.trans a1) (b2.trans a2) (b3.trans a3) (by rw[b4]; show _≤(World.setCells _ _ _ _).heap.size; rw[a4]; simp[World.drew]) (fun b hb hn=>?_) (.inl (Nat.le_refl _)) hg2 (by rw[hs2,hs1,hRs]) ?_ hC hC2
   ·have hne:b≠w.heap.size:=by omega
    rw[zoq hne]
    show ((w.alloc (.cells ROW 57)).drew.setCells w.heap.size (i*3) vs).heap[b]?=_
    rw[zoq hne]
    exact znc w _ b hb
   ·refine zvd hxl hvl hi (fun t u ht hu=>?_) (fun t u hu=>?_) (fun t u hu=>?_)
    ·rw[World.cell?_setCells_out _ _ _ _ _ (fun _ _=>.inl (by show t<(i+1)*3; omega))]
     show ((w.alloc (.cells ROW 57)).drew.setCells w.heap.size (i*3) vs).cell? _=_
     rw[World.cell?_setCells_out _ _ _ _ _ (fun _ _=>.inl ht),hcell0,hRt t ht]
     exact hu
    ·have h4:=(List.getElem?_eq_some_iff.1 hu).1
     rw[World.cell?_setCells_out _ _ _ _ _ (fun _ _=>.inl (by show i*3+t<(i+1)*3; omega))]
     show ((w.alloc (.cells ROW 57)).drew.setCells w.heap.size (i*3) vs).cell? _=_
     have:=World.cell?_setCells_in w.heap.size vs (i*3) (w.alloc (.cells ROW 57)).drew (fun q hq=>hsp0 _ (by omega)) t h4
     rw[this,←hu,List.getElem?_eq_getElem h4]
    ·have h4:=(List.getElem?_eq_some_iff.1 hu).1
     have:=World.cell?_setCells_in w.heap.size (us.drop (i*3)) ((i+1)*3) ((w.alloc (.cells ROW 57)).drew.setCells w.heap.size (i*3) vs).drew (fun q hq=>hsp1 _ (by omega)) t h4
     rw[this,←hu,List.getElem?_eq_getElem h4]
def ygf:KC Tryz.prog:=⟨431,fun _=>.ls ⟨[],[.row 57 tL0,.v (.int .i64),.v (.slc tL0)],[],.own 57 tL0,fun z=>zmx z.1 z.2.1 z.2.2.1⟩,ydp⟩
end Go.Proofs.YtllkmncnmlmefaaGreat.Lot

namespace Go.Vc
open Go Go.RowKit Go.Sort Go.Proofs
theorem ygu {enc : Value → Value} {w : World} {g n : Nat} {os : Array Obj} {cur : Array Value} {e : TypeId} {fr : Nat × Nat} (F : Array Value) (hb : w.heap[g]? = some (.cells cur e fr)) :
    (grow (putRow id (Sort.ahead w n) g 0 F) os).heap[g]? = some (.cells (putCells id 0 F cur) e fr) := by
  have hg : g < w.heap.size := (Array.getElem?_eq_some_iff.1 hb).1
  rw [heap_grow_old _ _ (by simpa using hg)]
  simp [putRow, mapBlock, Sort.ahead, Array.getElem?_modify, hb, onCells]
theorem zxk {w : World} {g n : Nat} {os : Array Obj} (F : Array Value) {k : Nat} (hk : k < w.heap.size) (hne : k ≠ g) :
    (grow (putRow id (Sort.ahead w n) g 0 F) os).heap[k]? = w.heap[k]? := by
  rw [heap_grow_old _ _ (by simpa using hk)]
  have : g ≠ k := fun e => hne e.symm
  simp [putRow, mapBlock, Sort.ahead, Array.getElem?_modify, this]
theorem zxd (cur F : Array Value) (h : F.size ≤ cur.size) : (putCells id 0 F cur).toList.take F.size = F.toList := by
  apply List.ext_getElem?
  intro j
  by_cases hj : j < F.size
  · rw [List.getElem?_take_of_lt hj, Array.getElem?_toList]
    simp [putCells, hj, show j < cur.size by omega]
  · rw [List.getElem?_take_eq_none (by omega), List.getElem?_eq_none (by simp; omega)]
theorem zsf {α : Type} {enc : α → List Value} {k : Nat} (hk : ∀ x, (enc x).length = k) : ∀ (l : List α), (l.flatMap enc).length = l.length * k ∧ ∀ i x, l[i]? = some x → ((l.flatMap enc).drop (i * k)).take k = enc x
  | [] => ⟨by simp, fun i x h => by simp at h⟩
  | y :: l => by
    obtain ⟨h1, h2⟩ := zsf hk l
    refine ⟨by rw [List.flatMap_cons, List.length_append, hk, h1, List.length_cons, Nat.succ_mul]; omega, fun i x h => ?_⟩
    rw [List.flatMap_cons]
    cases i with
    | zero => simp at h; subst h; rw [Nat.zero_mul, List.drop_zero, List.take_append_of_le_length (by rw [hk]; exact Nat.le_refl _), List.take_of_length_le (by rw [hk]; exact Nat.le_refl _)]
    | succ i =>
      rw [Nat.succ_mul, Nat.add_comm, List.drop_append, List.drop_of_length_le (by rw [hk]; omega), List.nil_append, hk, show k + i * k - k = i * k by omega]
      exact h2 i x (by simpa using h)
theorem zyk {α : Type} [Inhabited α] (enc : α → List Value) (k : Nat) (hk : ∀ x, (enc x).length = k) (l : List α) : (flatK enc k l.toArray).toList = l.flatMap enc := by
  obtain ⟨hl, h2⟩ := zsf hk l
  apply List.ext_getElem?
  intro t
  rw [Array.getElem?_toList]
  by_cases ht : t < l.length * k
  · have k0 : 0 < k := by rcases Nat.eq_zero_or_pos k with h | h; · subst h; simp at ht
                          · exact h
    have hq : t / k < l.length := (Nat.div_lt_iff_lt_mul k0).2 ht
    have h1 : (flatK enc k l.toArray)[t]? = some ((enc l.toArray[t / k]!)[t % k]!) := by
      have := get_flatK enc k l.toArray t (by simpa using ht)
      rw [← this]; simp [ht]
    rw [h1]
    have h3 : l.toArray[t / k]! = l[t / k] := by simp [hq]
    rw [h3]
    have h4 : t % k < (enc l[t / k]).length := by rw [hk]; exact Nat.mod_lt _ k0
    have h5 := h2 (t / k) l[t / k] (List.getElem?_eq_getElem hq)
    have h6 : (enc l[t / k])[t % k]? = (l.flatMap enc)[t / k * k + t % k]? := by
      rw [← h5, List.getElem?_take_of_lt (Nat.mod_lt _ k0), List.getElem?_drop]
    rw [show t / k * k + t % k = t by rw [Nat.mul_comm]; exact Nat.div_add_mod t k] at h6
    rw [← h6, List.getElem?_eq_getElem h4]
    exact congrArg some (getElem!_pos (enc l[t / k]) (t % k) h4)
  · rw [List.getElem?_eq_none (by rw [hl]; omega)]
    simp; omega
theorem putSelf {e : TypeId} {t : DT} {l l' : List t.den} {U0 L : Nat → Prop} {B : Nat → Nat} {A : Asg} {w w' : World} (m : Mem w U0 L B A [] [.own e t l] w) (hll : l'.length = l.length)
    (hr : w'.os = w.os ∧ w'.tape = w.tape ∧ w'.output = w.output ∧ w.heap.size ≤ w'.heap.size) (hk : ∀ b, b < w.heap.size → (∀ ad, (A 0).1 = some ad → ad.block ≠ b) → w'.heap[b]? = w.heap[b]?)
    (hw : ∀ U', Later (Us U0 B A [] [.own e t l]) U' w w' → ∃ xs, w'.ownsRow 0 e t.size (.slice (A 0).1 l'.length (A 0).2) l'.length xs ∧ t.hs U' w' l' xs) : Mem w U0 L B A [] [.own e t l'] w' := by
  have hblk : ∀ b, blk B A [] [DR.own e t l] true 0 b ↔ ∃ ad, (A 0).1 = some ad ∧ ad.block = b := fun b => ⟨fun ⟨r, ad, _, _, h3, h4⟩ => ⟨ad, h3, h4⟩, fun ⟨ad, h3, h4⟩ => ⟨_, ad, rfl, by simp, h3, h4⟩⟩
  obtain ⟨m', _, _⟩ := m.putRow (al := fun _ => true) (j := 0) (f := noF) (rw' := [.own e t l']) (e := e) (t := t) (l := l') (a := (A 0).1) (c := (A 0).2) rfl (fun i hi => by
      cases i with
      | zero => exact absurd rfl hi
      | succ i => rfl)
    (fun i p h => by cases h) (fun _ e2 t2 l2 h => by
      simp only [List.getElem?_cons_zero, Option.some.injEq, DR.own.injEq] at h
      obtain ⟨rfl, rfl, h⟩ := h
      cases h
      exact ⟨l', rfl, hll, rfl⟩) (fun _ d h => by simp at h) hr (fun b hb hn => hk b hb fun ad h1 h2 => hn ((hblk b).2 ⟨ad, h1, h2⟩)) (fun x hx => .inl ((hblk _).2 ⟨x, hx, rfl⟩)) hw
  have e0 : upd A 0 ((A 0).1, (A 0).2) = A := zuf A 0
  rw [e0] at m'
  exact m'
theorem sort_mu {P : Program} {g q : FuncId} {e : TypeId} {t : DT} [Inhabited t.den] {enc : t.den → List Value} (henc : ∀ x, (enc x).length = t.size) (h1 : ∀ x, ∀ v ∈ enc x, v.oneCell' = true)
    (hh : ∀ (U : Nat → Prop) (w : World) (x : t.den) (us : List Value), t.h U w x us ↔ us = enc x)
    {srt : List t.den → Option (List t.den)} (hsl : ∀ l l', srt l = some l' → l'.length = l.length) (hf : zjb P g) (hq : Nat.ble 1000000 q = false)
    (hnone : ∀ p cap w, Calls P g #[.slice p 0 cap, .func (.func q) #[] #[]] w fun e w' => e = .returned (.tuple #[]) ∧ w' = w)
    (hcall : ∀ blk off cap (l l' : List t.den) w, srt l = some l' → HoldsK enc t.size w blk off l.toArray → blk < w.heap.size →
      Calls P g #[.slice (some ⟨blk, off, none⟩) l.length cap, .func (.func q) #[] #[]] w fun e w' => e = .returned (.tuple #[]) ∧ ∃ n os, w' = sortWorldK enc t.size w blk off n l'.toArray os) :
    MUok P g ⟨e, t, [.fn q []], fun l _ => srt l⟩ := by
  intro l z l' hl'
  have hl' : srt l = some l' := hl'
  have hll := hsl l l' hl'
  refine ⟨hll, fun U0 B A vs w m hv => ?_⟩
  have hv : hL (env U0 B A [] [.own e t l] w) [.row 0, .fn q []] vs := hv
  simp only [hL, DV.h] at hv
  obtain ⟨_, _, rfl, ⟨e2, t2, l2, hj2, rfl⟩, _, _, rfl, ⟨cs, rfl, hcs⟩, rfl⟩ := hv
  have hj2 : some (DR.own e t l) = some (.own e2 t2 l2) := hj2
  simp only [Option.some.injEq, DR.own.injEq] at hj2
  obtain ⟨rfl, rfl, hl2⟩ := hj2
  cases hl2
  have hcs0 : cs = #[] := Array.toList_inj.1 hcs
  subst hcs0
  rw [fnV_f hq]
  obtain ⟨us, ⟨hxl, ho⟩, hxs⟩ := m.row 0 e t l rfl
  change CallsX P g #[Value.slice (A 0).1 l.length (A 0).2, _] w _
  rcases Nat.eq_zero_or_pos l.length with h0 | hp
  · have e0 : l = [] := List.eq_nil_of_length_eq_zero h0
    have e1 : l' = [] := List.eq_nil_of_length_eq_zero (by rw [hll, h0])
    subst e0 e1
    refine ⟨.inl ⟨hf, (hnone _ _ w).mono fun e' w' ⟨he, hw⟩ => ⟨_, he, rfl, ?_⟩⟩⟩
    subst hw; exact m
  · rcases ho with ⟨_, hn⟩ | ⟨b, cap, cur, heq, hbase, hg, hn1, hn2, hn3, hn4⟩
    · omega
    simp only [Value.slice.injEq] at heq
    obtain ⟨hA0, _, hc⟩ := heq
    have hgl : b < w.heap.size := (Array.getElem?_eq_some_iff.1 hg).1
    have hus : us = l.flatMap enc := by
      apply List.ext_getElem?
      intro j
      obtain ⟨f1, f2⟩ := zsf henc l
      by_cases hj : j < l.length * t.size
      · have k0 : 0 < t.size := by rcases Nat.eq_zero_or_pos t.size with h | h; · rw [h] at hj; simp at hj
                                   · exact h
        have hq : j / t.size < l.length := (Nat.div_lt_iff_lt_mul k0).2 hj
        have g1 := (hh _ _ _ _).1 (hxs.2 (j / t.size) _ (List.getElem?_eq_getElem hq))
        have g2 := f2 (j / t.size) _ (List.getElem?_eq_getElem hq)
        have ej : j / t.size * t.size + j % t.size = j := by rw [Nat.mul_comm]; exact Nat.div_add_mod j _
        have := congrArg (fun l : List Value => l[j % t.size]?) (g1.trans g2.symm)
        simp only [List.getElem?_take_of_lt (Nat.mod_lt _ k0), List.getElem?_drop, ej] at this
        exact this
      · rw [List.getElem?_eq_none (by rw [hxl]; omega), List.getElem?_eq_none (by rw [f1]; omega)]
    have hfl := zyk enc t.size henc l
    have hfs : (flatK enc t.size l.toArray).size = l.length * t.size := by simp
    have hH : HoldsK enc t.size w b 0 l.toArray := by
      intro j hj
      rw [hfs] at hj
      refine ⟨?_, by simp [World.frozen?, hg]⟩
      have e1 : (cur.toList.take (l.length * t.size))[j]? = (l.flatMap enc)[j]? := by rw [hn4, hus]
      rw [List.getElem?_take_of_lt hj, ← hfl, Array.getElem?_toList, Array.getElem?_toList] at e1
      simp only [World.cell?, hg, Nat.zero_add, Option.isSome_none, Bool.false_eq_true, if_false, e1]
      rw [getElem!_pos (flatK enc t.size l.toArray) j (by rw [hfs]; exact hj), Array.getElem?_eq_getElem (by rw [hfs]; exact hj)]
      rfl
    rw [hA0, hc]
    refine ⟨.inl ⟨hf, (hcall b 0 cap l l' w hl' hH hgl).mono fun e' w' ⟨he, n, os', hw⟩ => ⟨_, he, rfl, ?_⟩⟩⟩
    subst hw
    have hgs : (flatK enc t.size l'.toArray).size = l'.length * t.size := by simp
    refine putSelf m hll ⟨rfl, rfl, rfl, by simp [sortWorldK, putRowK]⟩ (fun b' hb hn => zxk _ hb fun e => hn _ hA0 e.symm) fun U' lt => ⟨l'.flatMap enc, ⟨(zsf henc l').1, .inr ⟨b, cap, _, ?_, hbase, ygu (enc := id) _ hg, by rw [hll]; exact hn1, hn2, by simp [putCells, hn3], ?_⟩⟩, (zsf henc l').1, fun i x hx => (hh _ _ _ _).2 ((zsf henc l').2 i x hx)⟩
    · rw [hA0, hc]
    · rw [← zyk enc t.size henc, ← hgs]
      exact zxd cur _ (by rw [hgs, hn3, hll]; exact Nat.mul_le_mul_right _ hn1)
end Go.Vc
namespace Go.Proofs.YtllkmncnmlmefaaGreat
open Go Go.Vc Go.RowKit Go.Sort Go.Proofs Go.Shelf
def lessU(x y:Int×Int):Bool:=if x.1=y.1 then decide (x.2<y.2) else decide (x.1<y.1)
set_option maxRecDepth 100000 in
theorem less_w(x y:Int×Int)(W:World):Calls Tryz.prog 304 #[.agg #[.int .i64 x.1,.int .i64 x.2],.agg #[.int .i64 y.1,.int .i64 y.2]] W fun e w'=>e=.returned (.bool (lessU x y))∧∃q os',w'=grow (W.drewN q) os':=by
 by_cases h:x.1=y.1
 ·have e:lessU x y=decide (x.2<y.2):=by simp[lessU,h]
  rw[e]
  clear e
  go_enter Tryz.func304,Tryz.ntmps304
  go_wp2
  go_ret
  exact⟨rfl,0,_,by rw[alloc_eq_grow,alloc_eq_grow,grow_grow]; rfl⟩
 ·have e:lessU x y=decide (x.1<y.1):=by simp[lessU,h]
  rw[e]
  clear e
  go_enter Tryz.func304,Tryz.ntmps304
  go_wp2
  go_ret
  exact⟨rfl,0,_,by rw[alloc_eq_grow,alloc_eq_grow,grow_grow]; rfl⟩
def cmpU(x y:Int×Int):Int:=if lessU x y=true then -1 else if lessU y x=true then 1 else 0
theorem zwd(W:World)(q1 q2:Nat)(o1 o2:Array Obj):grow ((grow (W.drewN q1) o1).drewN q2) o2=grow (W.drewN (q1+q2)) (o1++o2):=by
 simp[grow,World.drewN,Array.append_assoc,Nat.add_assoc]
theorem alloc_drew(W:World)(o:Obj):W.alloc o=grow (W.drewN 0) #[o]:=by rw[alloc_eq_grow]; rfl
theorem yeg(W:World)(a b:Array Value)(s t:TypeId)(q:Nat)(os:Array Obj)(j:Nat):(grow (((W.alloc (.cells a s)).alloc (.cells b t)).drewN q) os).cell? ⟨W.heap.size,j,none⟩=a[j]?:=by
 have h:(grow (((W.alloc (.cells a s)).alloc (.cells b t)).drewN q) os).heap[W.heap.size]?=some (.cells a s):=by
  rw[heap_grow_old _ _ (by simp[World.drewN]; try omega)]
  show ((W.heap.push _).push _)[W.heap.size]?=_
  simp[Array.getElem?_push]
 simp[World.cell?,h]
theorem yef(W:World)(a b:Array Value)(s t:TypeId)(q:Nat)(os:Array Obj)(j:Nat):(grow (((W.alloc (.cells a s)).alloc (.cells b t)).drewN q) os).cell? ⟨W.heap.size+1,j,none⟩=b[j]?:=by
 have h:(grow (((W.alloc (.cells a s)).alloc (.cells b t)).drewN q) os).heap[W.heap.size+1]?=some (.cells b t):=by
  rw[heap_grow_old _ _ (by simp[World.drewN]; try omega)]
  show ((W.heap.push _).push _)[W.heap.size+1]?=_
  rw[Array.getElem?_push]; simp
 simp[World.cell?,h]
def G2(W w':World):Prop:=∃q os',w'=grow (W.drewN q) os'
theorem G2.c0{W w':World}{a b:Array Value}{s t:TypeId}(h:G2 ((W.alloc (.cells a s)).alloc (.cells b t)) w')(j:Nat):w'.cell? ⟨W.heap.size,j,none⟩=a[j]?:=by
 obtain⟨q,os,rfl⟩:=h; exact yeg W a b s t q os j
theorem G2.c1{W w':World}{a b:Array Value}{s t:TypeId}(h:G2 ((W.alloc (.cells a s)).alloc (.cells b t)) w')(j:Nat):w'.cell? ⟨W.heap.size+1,j,none⟩=b[j]?:=by
 obtain⟨q,os,rfl⟩:=h; exact yef W a b s t q os j
theorem G2.trans{a b c:World}(h:G2 a b)(h':G2 b c):G2 a c:=by
 obtain⟨q,os,rfl⟩:=h; obtain⟨q',os',rfl⟩:=h'; exact⟨_,_,zwd _ _ _ _ _⟩
theorem G2.alloc(W:World)(o:Obj):G2 W (W.alloc o):=⟨0,_,alloc_drew W o⟩
set_option maxRecDepth 100000 in
theorem order_w(x y:Int×Int)(W:World):Calls Tryz.prog 403 #[.agg #[.int .i64 x.1,.int .i64 x.2],.agg #[.int .i64 y.1,.int .i64 y.2]] W fun e w'=>e=.returned (.int .i64 (cmpU x y))∧G2 W w':=by
 obtain⟨x1,x2⟩:=x
 obtain⟨y1,y2⟩:=y
 have h1:∀a b c d W,Calls Tryz.prog 304 #[.agg #[.int .i64 a,.int .i64 b],.agg #[.int .i64 c,.int .i64 d]] W fun e w'=>e=.returned (.bool (lessU (a,b) (c,d)))∧G2 W w':=fun a b c d W=>less_w (a,b) (c,d) W
 have hc:cmpU (x1,x2) (y1,y2)=if lessU (x1,x2) (y1,y2)=true then -1 else if lessU (y1,y2) (x1,x2)=true then 1 else 0:=rfl
 rw[hc]; clear hc
 generalize hf:lessU=f at h1
 clear hf
 cases hp:f (x1,x2) (y1,y2) with
 |false=>
  cases hq:f (y1,y2) (x1,x2) with
  |false=>
   go_enter Tryz.func403,Tryz.ntmps403
   go_wp2_with (go_at_call 304; refine(h1 _ _ _ _ _).mono ?_; rintro e w' ⟨rfl,hw⟩; first|(have k0:=hw.c0 0; have k1:=hw.c0 1; have k2:=hw.c1 0; have k3:=hw.c1 1; have hw1:=hw)|skip)
   go_ret
   exact⟨rfl,(((G2.alloc _ _).trans (G2.alloc _ _)).trans hw1).trans hw⟩
  |true=>
   go_enter Tryz.func403,Tryz.ntmps403
   go_wp2_with (go_at_call 304; refine(h1 _ _ _ _ _).mono ?_; rintro e w' ⟨rfl,hw⟩; first|(have k0:=hw.c0 0; have k1:=hw.c0 1; have k2:=hw.c1 0; have k3:=hw.c1 1; have hw1:=hw)|skip)
   go_ret
   exact⟨rfl,(((G2.alloc _ _).trans (G2.alloc _ _)).trans hw1).trans hw⟩
 |true=>
  go_enter Tryz.func403,Tryz.ntmps403
  go_wp2_with (go_at_call 304; (refine(h1 _ _ _ _ _).mono ?_; rintro e w' ⟨rfl,hw⟩))
  go_ret
  exact⟨rfl,((G2.alloc _ _).trans (G2.alloc _ _)).trans hw⟩
def Tryz.sortU_ren:Go.Shelf.Ren:=⟨fun|6=>402|15=>424|14=>423|28=>443|29=>444|20=>435|21=>436|22=>437|23=>438|24=>439|25=>440|26=>441|27=>442|46=>451|47=>452|48=>453|49=>454|50=>455|57=>466|n=>n,fun|22=>108|24=>47|25=>428|3=>3|39=>403|0=>0|53=>469|55=>251|4=>4|46=>463|45=>462|50=>302|5=>5|9=>9|66=>478|70=>482|76=>489|77=>490|n=>n,fun n=>n⟩
theorem Tryz.sortU:SlLaysF0.n6 Tryz.prog Tryz.sortU_ren where
 mixed:=by kernel_rfl
 f6:=⟨Tryz.f402.name,by decide +kernel,Tryz.func402.trans (congrArg some (by kernel_rfl))⟩
 f14:=⟨Tryz.f423.name,by decide +kernel,Tryz.func423.trans (congrArg some (by kernel_rfl))⟩
 f15:=Tryz.func424.trans (congrArg some (by kernel_rfl))
 f20:=⟨Tryz.f435.name,by decide +kernel,Tryz.func435.trans (congrArg some (by kernel_rfl))⟩
 f21:=⟨Tryz.f436.name,by decide +kernel,Tryz.func436.trans (congrArg some (by kernel_rfl))⟩
 f22:=⟨Tryz.f437.name,by decide +kernel,Tryz.func437.trans (congrArg some (by kernel_rfl))⟩
 f23:=⟨Tryz.f438.name,by decide +kernel,Tryz.func438.trans (congrArg some (by kernel_rfl))⟩
 f24:=⟨Tryz.f439.name,by decide +kernel,Tryz.func439.trans (congrArg some (by kernel_rfl))⟩
 f25:=⟨Tryz.f440.name,by decide +kernel,Tryz.func440.trans (congrArg some (by kernel_rfl))⟩
 f26:=⟨Tryz.f441.name,by decide +kernel,Tryz.func441.trans (congrArg some (by kernel_rfl))⟩
 f27:=⟨Tryz.f442.name,by decide +kernel,Tryz.func442.trans (congrArg some (by kernel_rfl))⟩
 f28:=Tryz.func443.trans (congrArg some (by kernel_rfl))
 f29:=Tryz.func444.trans (congrArg some (by kernel_rfl))
 f46:=⟨Tryz.f451.name,by decide +kernel,Tryz.func451.trans (congrArg some (by kernel_rfl))⟩
 f47:=Tryz.func452.trans (congrArg some (by kernel_rfl))
 f48:=Tryz.func453.trans (congrArg some (by kernel_rfl))
 f49:=⟨Tryz.f454.name,by decide +kernel,Tryz.func454.trans (congrArg some (by kernel_rfl))⟩
 f50:=⟨Tryz.f455.name,by decide +kernel,Tryz.func455.trans (congrArg some (by kernel_rfl))⟩
 f57:=⟨Tryz.f466.name,by decide +kernel,Tryz.func466.trans (congrArg some (by kernel_rfl))⟩
 t0:=Tryz.underlying0
 a0:=Tryz.isAgg0
 z0:=Tryz.sizeOf0
 v0:=Tryz.zeroValue0
 t3:=Tryz.underlying3
 a3:=Tryz.isAgg3
 z3:=Tryz.sizeOf3
 v3:=Tryz.zeroValue3
 t4:=Tryz.underlying4
 a4:=Tryz.isAgg4
 z4:=Tryz.sizeOf4
 v4:=Tryz.zeroValue4
 t5:=Tryz.underlying5
 a5:=Tryz.isAgg5
 z5:=Tryz.sizeOf5
 v5:=Tryz.zeroValue5
 t9:=Tryz.underlying9
 a9:=Tryz.isAgg9
 z9:=Tryz.sizeOf9
 v9:=Tryz.zeroValue9
 t22:=Tryz.underlying108
 a22:=Tryz.isAgg108
 z22:=Tryz.sizeOf108
 v22:=Tryz.zeroValue108
 t25:=Tryz.underlying428
 a25:=Tryz.isAgg428
 z25:=Tryz.sizeOf428
 v25:=Tryz.zeroValue428
 t39:=Tryz.underlying403
 a39:=Tryz.isAgg403
 z39:=Tryz.sizeOf403
 v39:=Tryz.zeroValue403
 t45:=Tryz.underlying462
 a45:=Tryz.isAgg462
 z45:=Tryz.sizeOf462
 v45:=Tryz.zeroValue462
 t46:=Tryz.underlying463
 a46:=Tryz.isAgg463
 z46:=Tryz.sizeOf463
 v46:=Tryz.zeroValue463
 t50:=Tryz.underlying302
 a50:=Tryz.isAgg302
 z50:=Tryz.sizeOf302
 v50:=Tryz.zeroValue302
 t53:=Tryz.underlying469
 a53:=Tryz.isAgg469
 z53:=Tryz.sizeOf469
 v53:=Tryz.zeroValue469
 t55:=Tryz.underlying251
 a55:=Tryz.isAgg251
 z55:=Tryz.sizeOf251
 v55:=Tryz.zeroValue251
 t66:=Tryz.underlying478
 a66:=Tryz.isAgg478
 z66:=Tryz.sizeOf478
 v66:=Tryz.zeroValue478
 t70:=Tryz.underlying482
 a70:=Tryz.isAgg482
 z70:=Tryz.sizeOf482
 v70:=Tryz.zeroValue482
 t76:=Tryz.underlying489
 a76:=Tryz.isAgg489
 z76:=Tryz.sizeOf489
 v76:=Tryz.zeroValue489
 t77:=Tryz.underlying490
 a77:=Tryz.isAgg490
 z77:=Tryz.sizeOf490
 v77:=Tryz.zeroValue490
theorem ltU(x y:Int×Int):ltOf cmpU x y=lessU x y:=by
 unfold ltOf cmpU
 cases h:lessU x y
 ·cases lessU y x<;>simp
 ·simp
theorem ydr(x y:Int×Int):lessU x y=true↔x.1<y.1∨(x.1=y.1∧x.2<y.2):=by
 unfold lessU
 split
 ·rename_i h; simp[h]
 ·rename_i h; simp[h]
theorem yam(x y:Int×Int):lessU x y=false↔y.1<x.1∨(x.1=y.1∧y.2≤x.2):=by
 rw[←Bool.not_eq_true,ydr]; omega
theorem swoU:SWO (ltOf cmpU) where
 irrefl x:=by rw[ltU,yam]; omega
 trans x y z h1 h2:=by rw[ltU,ydr]at *; omega
 ntrans x y z h1 h2:=by rw[ltU,yam]at *; omega
theorem totU(x y:Int×Int)(h1:ltOf cmpU x y=false)(h2:ltOf cmpU y x=false):x=y:=by
 rw[ltU,yam]at*
 exact Prod.ext (by omega) (by omega)
def cmpK(x y:KU2):Int:=cmpU (x.1,x.2.1) (y.1,y.2.1)
theorem ltK(x y:KU2):ltOf cmpK x y=lessU (x.1,x.2.1) (y.1,y.2.1):=ltU (x.1,x.2.1) (y.1,y.2.1)
theorem swoK:SWO (ltOf cmpK) where
 irrefl x:=swoU.irrefl (x.1,x.2.1)
 trans x y z h1 h2:=swoU.trans (x.1,x.2.1) (y.1,y.2.1) (z.1,z.2.1) h1 h2
 ntrans x y z h1 h2:=swoU.ntrans (x.1,x.2.1) (y.1,y.2.1) (z.1,z.2.1) h1 h2
theorem totK(x y:KU2)(h1:ltOf cmpK x y=false)(h2:ltOf cmpK y x=false):x=y:=by
 have:=totU (x.1,x.2.1) (y.1,y.2.1) h1 h2
 simp only[Prod.mk.injEq]at this
 exact Prod.ext this.1 (Prod.ext this.2 rfl)
theorem zsb(x y:KU2):leK x y=true↔(!(ltOf cmpK) y x)=true:=by
 rw[ltK,Bool.not_eq_true',yam]
 simp only[leK,Bool.or_eq_true,Bool.and_eq_true,decide_eq_true_eq,beq_iff_eq]
 omega
theorem srtK_merge(l:List KU2):l.mergeSort (fun x y=>!(ltOf cmpK) y x)=srtK l:=
 List.Perm.eq_of_pairwise (le:=fun a b=>(!(ltOf cmpK) b a)=true) (fun a b _ _ h1 h2=>totK a b (by simpa using h2) (by simpa using h1))
  (List.pairwise_mergeSort (fun a b c h1 h2=>(zsb a c).1 (leK_tr ((zsb a b).2 h1) ((zsb b c).2 h2))) (fun a b=>by
   rw[Bool.or_eq_true,←zsb,←zsb]
   cases h:leK a b with
   |true=>exact .inl rfl
   |false=>exact .inr (leK_tot h)) l) ((zza l).imp fun h=>(zsb _ _).1 h) ((List.mergeSort_perm l _).trans (zml l).symm)
def encK(x:KU2):List Value:=[.int .i64 x.1,.int .i64 x.2.1]
theorem encK1(x:KU2):∀v∈encK x,v.oneCell'=true:=by
 intro v hv; simp[encK]at hv; rcases hv with rfl|rfl<;>rfl
theorem orderK_w(x y:KU2)(W:World):Calls Tryz.prog 403 #[.agg (encK x).toArray,.agg (encK y).toArray] W fun e w'=>e=.returned (.int .i64 (cmpK x y))∧G2 W w':=order_w (x.1,x.2.1) (y.1,y.2.1) W
theorem call162(blk off cap:Nat)(d:Array KU2)(w:World)(hH:HoldsK encK 2 w blk off d)(hblk:blk<w.heap.size)(hsz:d.size<4611686018427387904):
  Calls Tryz.prog 402 #[.slice (some ⟨blk,off,none⟩) d.size cap,.func (.func 403) #[] #[]] w fun e w'=>e=.returned (.tuple #[])∧∃n os,w'=sortWorldK encK 2 w blk off n (srtK d.toList).toArray os:=by
 rw[←srtK_merge]
 exact AnyQ.slices_SortFunc_total Tryz.sortU 2 (fun w=>by kernel_rfl) (fun w=>by kernel_rfl) encK (fun _=>rfl) encK1 cmpK swoK 403 #[] blk off cap d w (enters_of Tryz.func403 (by kernel_rfl) rfl) (fun _ _ _ _ x y=>orderK_w x y _) hH hblk hsz totK
theorem zxq{l l':List KU2}(h:zlh l=some l'):l.length<4611686018427387904∧l'=srtK l:=by
 unfold zlh at h
 rcases bif_s h with ⟨h1,h2⟩|⟨_,h2⟩
 ·exact⟨Nat.le_of_ble_eq_true h1,(Option.some.inj h2).symm⟩
 ·cases h2
def unitsort_k:KC Tryz.prog:=⟨402,fun _=>.mu ⟨47,tU0,[.fn 403 []],fun l _=>zlh l⟩,sort_mu (enc:=encK) (fun _=>rfl) encK1 (fun U w x us=>by
  simp only[DT.h]
  constructor
  ·rintro⟨us1,us2,rfl,rfl,us3,us4,rfl,rfl,rfl⟩; rfl
  ·rintro rfl; exact⟨_,_,rfl,rfl,_,_,rfl,rfl,rfl⟩) (fun l l' h=>by rw[(zxq h).2]; exact(zml l).length_eq) ⟨_,Tryz.func402,by decide +kernel,rfl⟩ (by decide +kernel)
  (fun p cap w=>AnyF.slices_SortFunc_none Tryz.sortU p cap _ w)
  (fun blk off cap l l' w h hH hb=>by
   obtain⟨h1,rfl⟩:=zxq h
   have:=call162 blk off cap l.toArray w hH hb (by simpa using h1)
   simp only[List.size_toArray]at this
   exact this)⟩
end Go.Proofs.YtllkmncnmlmefaaGreat
namespace Go.Proofs.YtllkmncnmlmefaaGreat
open Go Go.Vc Go.RowKit Go.Shelf
def Tryz.growF_ren:Go.Shelf.Ren:=⟨fun|4=>401|n=>n,fun|22=>30|25=>143|3=>3|4=>4|9=>9|20=>20|0=>0|n=>n,fun n=>n⟩
theorem Tryz.growF:Lays8.n4 Tryz.prog Tryz.growF_ren where
 mixed:=by kernel_rfl
 f4:=⟨Tryz.f401.name,by decide +kernel,Tryz.func401.trans (congrArg some (by kernel_rfl))⟩
 t0:=Tryz.underlying0
 a0:=Tryz.isAgg0
 z0:=Tryz.sizeOf0
 v0:=Tryz.zeroValue0
 t3:=Tryz.underlying3
 a3:=Tryz.isAgg3
 z3:=Tryz.sizeOf3
 v3:=Tryz.zeroValue3
 t4:=Tryz.underlying4
 a4:=Tryz.isAgg4
 z4:=Tryz.sizeOf4
 v4:=Tryz.zeroValue4
 t9:=Tryz.underlying9
 a9:=Tryz.isAgg9
 z9:=Tryz.sizeOf9
 v9:=Tryz.zeroValue9
 t20:=Tryz.underlying20
 a20:=Tryz.isAgg20
 z20:=Tryz.sizeOf20
 v20:=Tryz.zeroValue20
 t22:=Tryz.underlying30
 a22:=Tryz.isAgg30
 z22:=Tryz.sizeOf30
 v22:=Tryz.zeroValue30
end Go.Proofs.YtllkmncnmlmefaaGreat
namespace Go.Proofs.YtllkmncnmlmefaaGreat
open Go Go.Vc Go.RowKit Go.Lib Go.Shelf
theorem growO_s{l:List F0'}{n:Int}{o:List F0'×Unit}(h:growO l n=some o):∃k:Nat,n=k∧(l.length+k)*24≤140737488355328∧o=(l,()):=by
 unfold growO at h
 rcases bif_s h with ⟨hc,h⟩|⟨_,h⟩
 ·simp only[Bool.and_eq_true,decide_eq_true_eq]at hc
  have h9:=Option.some.inj h
  obtain⟨k,rfl⟩:=Int.eq_ofNat_of_zero_le hc.1
  exact⟨k,rfl,by omega,h9.symm⟩
 ·cases h
theorem elemOkFl:ElemOk Tryz.prog 30 143 3 24:=zwq (by kernel_rfl) (by kernel_rfl) (by decide)
theorem zyi:zjb Tryz.prog 401:=⟨_,Tryz.func401,by decide +kernel,rfl⟩
theorem grow_ok:LSok Tryz.prog 401 ⟨[],[.row 143 tF0,.v (.int .i64)],[],.own 143 tF0,fun z=>growO z.1 z.2.1⟩:=by
 rintro⟨l,n,⟨⟩⟩ o ho U0 B A vs w m hv
 obtain⟨n,rfl,hbig,rfl⟩:=growO_s (show growO l n=some o from ho)
 have hv:hL (env U0 B A [] [.own 143 tF0 l] w) [.row 0,.int .i64 n] vs:=hv
 have m:Mem w U0 (Ow B A [] [.own 143 tF0 l]) B A [] [.own 143 tF0 l] w:=m
 show CallsX Tryz.prog 401 vs.toArray w fun v w'=>∃B' A' r pb' rw',Mem w U0 (Ow B A [] [.own 143 tF0 l]) B' A' pb' rw' w'∧r.h (env U0 B' A' pb' rw' w') v∧(∀i,live [] i→live pb' i∧B' i=B i)∧pb'=[]∧(r,rw')=(DV.row 0,[DR.own 143 tF0 l])
 simp only[hL,DV.h]at hv
 obtain⟨_,_,rfl,⟨e,t,l2,hj2,rfl⟩,_,_,rfl,rfl,rfl⟩:=hv
 have hj2:some (DR.own 143 tF0 l)=some (.own e t l2):=hj2
 simp only[Option.some.injEq,DR.own.injEq]at hj2
 obtain⟨rfl,rfl,hl2⟩:=hj2
 cases hl2
 obtain⟨us,ho,hxs⟩:=m.row 0 143 tF0 l rfl
 change CallsX Tryz.prog 401 #[Value.slice (A 0).1 l.length (A 0).2,_] w _
 have hoo:=ho
 obtain⟨hxl,ho⟩:=ho
 have hxl:us.length=l.length*3:=hxl
 obtain⟨i0,z,hi0,hz0,hs1,hby,hzs⟩:=elemOkFl.info
 have hcs:∃cs:List Value,cs.length=(A 0).2*3∧((A 0).1=none→(A 0).2=0)∧(∀a,(A 0).1=some a→∀j v,cs[j]?=some v→w.cell? (a.add j)=some v)∧cs.take (l.length*3)=us∧l.length≤(A 0).2∧(A 0).2≤maxLen:=by
  rcases ho with ⟨hn,hx⟩|⟨g,cap,cur,heq,hbase,hg,hn1,hn2,hn3,hn4⟩
  ·simp only[Value.slice.injEq]at hn
   obtain⟨e1,e2,e3⟩:=hn
   have hu0:us=[]:=List.length_eq_zero_iff.1 (by rw[hxl,e2])
   exact⟨[],by rw[e3]; rfl,fun _=>e3,fun a _ j v h=>by simp at h,by rw[hu0]; simp,by omega,by rw[e3]; exact Nat.zero_le _⟩
  ·simp only[Value.slice.injEq]at heq
   obtain⟨e1,_,e3⟩:=heq
   refine⟨cur.toList,by rw[Array.length_toList,e3]; exact hn3,fun h=>(by rw[e1]at h; cases h),fun a ha j v hv=>?_,hn4,by rw[e3]; exact hn1,by rw[e3]; exact hn2⟩
   rw[e1]at ha; simp only[Option.some.injEq]at ha; subst ha
   rw[Addr.add_lit,Nat.zero_add,cell_of_row w g j cur 143 (0,0) hg]
   simpa using hv
 obtain⟨cs,c1,c2,c3,c4,c5,c6⟩:=hcs
 by_cases hroom:l.length+n≤(A 0).2
 ·refine⟨.inl ⟨zyi,(Any8.slices_Grow_room Tryz.growF (A 0).1 l.length (A 0).2 n w c5 (by rw[zbc]at c6; exact c6) (by omega) hroom).mono fun e w' ⟨he,hw⟩=>⟨_,he,?_⟩⟩⟩
  subst hw
  exact ztn m ⟨rfl,rfl,rfl,Nat.le_refl _⟩ (fun _ _ _=>rfl) (fun x hx=>.inl ⟨x,hx,rfl⟩) fun U' lt=>⟨us,hoo,DT.hs_mono lt hxs⟩
 ·refine⟨.inl ⟨zyi,(Any8.slices_Grow_grow Tryz.growF i0 z hi0 hz0 (by rw[hs1]; decide) (A 0).1 l.length (A 0).2 n cs w c5 (by omega) (by rw[hby]; omega) (by omega) (by rw[hs1]; exact c1) c2 c3).mono fun e w' ⟨he,hw⟩=>⟨_,he,?_⟩⟩⟩
  subst hw
  have hg1:=grownCap_ge w (l.length+n) (A 0).2 143
  have hg2:=grownCap_le_maxLen w (l.length+n) (A 0).2 143 (by rw[zbc]; omega)
  refine ztn m ⟨rfl,rfl,rfl,by simp⟩ (fun b hb _=>znc w.drew _ b hb) (fun x hx=>.inr (by simp only[Option.some.injEq]at hx; subst hx; exact⟨Nat.le_refl _,by simp⟩)) fun U' lt=>⟨us,rowK (heap_alloc_new w.drew _) ?_ (fun t u ht=>?_) hxl (Nat.le_trans (Nat.le_add_right _ _) hg1) hg2,DT.hs_mono lt hxs⟩
  ·have e9:∀G c m:Nat,m≤G→c≤m→c+(m - c)+(G - m)=G:=fun G c m h1 h2=>by omega
   have:=e9 (grownCap w (l.length+n) (A 0).2 143) (A 0).2 (l.length+n) hg1 (by omega)
   rw[Array.size_append,Array.size_append,size_zeroCells,size_zeroCells,hzs,List.size_toArray,c1,←Nat.add_mul,←Nat.add_mul]
   exact congrArg (· * 3) this
  ·rw[World.cell?_alloc_at (w:=w.drew) _ _ w.heap.size t rfl]
   have h1:cs[t]?=some u:=by
    rw[←c4,List.getElem?_take]at ht
    split at ht
    ·exact ht
    ·cases ht
   have h2:=(List.getElem?_eq_some_iff.1 h1).1
   rw[Array.getElem?_append_left (by rw[Array.size_append,List.size_toArray]; omega),Array.getElem?_append_left (by rw[List.size_toArray]; exact h2)]
   simpa using h1
def grow_k:KC Tryz.prog:=⟨401,fun _=>.ls ⟨[],[.row 143 tF0,.v (.int .i64)],[],.own 143 tF0,fun z=>growO z.1 z.2.1⟩,grow_ok⟩
end Go.Proofs.YtllkmncnmlmefaaGreat
namespace Go.Proofs.YtllkmncnmlmefaaGreat
open Go Go.Vc Go.RowKit
end Go.Proofs.YtllkmncnmlmefaaGreat

namespace Go.Proofs.YtllkmncnmlmefaaGreat
open Go Go.Vc Go.RowKit Go.Sort Go.Proofs Go.Shelf
def cmp2(x y:Int):Int:=if x<y then -1 else if y<x then 1 else 0
set_option maxRecDepth 100000 in
theorem ygd(x:Int)(W:World):Calls Tryz.prog 465 #[.int .i64 x] W fun e w'=>e=.returned (.bool false)∧w'=W:=by
 go_enter Tryz.func465,Tryz.ntmps465
 go_wp2
 go_ret
 exact⟨rfl,rfl⟩
set_option maxRecDepth 100000 in
theorem nan_w(x:Int)(W:World):Calls Tryz.prog 426 #[.int .i64 x] W fun e w'=>e=.returned (.bool false)∧w'=W:=by
 go_enter Tryz.func426,Tryz.ntmps426
 go_wp2
 go_ret
 exact⟨rfl,rfl⟩
set_option maxRecDepth 100000 in
theorem yhg(x y:Int)(W:World):Calls Tryz.prog 450 #[.int .i64 x,.int .i64 y] W fun e w'=>e=.returned (.int .i64 (cmp2 x y))∧w'=W:=by
 unfold cmp2
 by_cases h:x<y
 ·rw[if_pos h]
  go_enter Tryz.func450,Tryz.ntmps450
  go_wp2_with (go_at_call 465; (refine(ygd _ _).mono ?_; rintro e w' ⟨rfl,rfl⟩))
  go_ret
  exact⟨rfl,rfl⟩
 ·rw[if_neg h]
  by_cases h2:y<x
  ·rw[if_pos h2]
   go_enter Tryz.func450,Tryz.ntmps450
   go_wp2_with (go_at_call 465; (refine(ygd _ _).mono ?_; rintro e w' ⟨rfl,rfl⟩))
   go_ret
   exact⟨rfl,rfl⟩
  ·rw[if_neg h2]
   go_enter Tryz.func450,Tryz.ntmps450
   go_wp2_with (go_at_call 465; (refine(ygd _ _).mono ?_; rintro e w' ⟨rfl,rfl⟩))
   go_ret
   exact⟨rfl,rfl⟩
set_option maxRecDepth 100000 in
theorem compare_w(x y:Int)(W:World):Calls Tryz.prog 410 #[.int .i64 x,.int .i64 y] W fun e w'=>e=.returned (.int .i64 (cmp2 x y))∧w'=W:=by
 unfold cmp2
 by_cases h:x<y
 ·rw[if_pos h]
  go_enter Tryz.func410,Tryz.ntmps410
  go_wp2_with (go_at_call 426; (refine(nan_w _ _).mono ?_; rintro e w' ⟨rfl,rfl⟩))
  go_ret
  exact⟨rfl,rfl⟩
 ·rw[if_neg h]
  by_cases h2:y<x
  ·rw[if_pos h2]
   go_enter Tryz.func410,Tryz.ntmps410
   go_wp2_with (go_at_call 426; (refine(nan_w _ _).mono ?_; rintro e w' ⟨rfl,rfl⟩))
   go_ret
   exact⟨rfl,rfl⟩
  ·rw[if_neg h2]
   go_enter Tryz.func410,Tryz.ntmps410
   go_wp2_with (go_at_call 426; (refine(nan_w _ _).mono ?_; rintro e w' ⟨rfl,rfl⟩))
   go_ret
   exact⟨rfl,rfl⟩
def or2(a b:Int):Int:=if a=0 then b else a
set_option maxRecDepth 100000 in
set_option maxHeartbeats 2000000 in
theorem or_00(W:World)(bl:Nat)(h0:W.cell? ⟨bl,0,none⟩=some (.int .i64 0))(h1:W.cell? ⟨bl,1,none⟩=some (.int .i64 0)):Calls Tryz.prog 409 #[.slice (some ⟨bl,0,none⟩) 2 2] W fun e w'=>e=.returned (.int .i64 0)∧w'=W:=by
 go_enter Tryz.func409,Tryz.ntmps409
 go_wp2
 go_rounds 3
 repeat (apply_assumption; go_wp2; try (rw[rounds_succ]; go_wp2))
 go_ret
 exact⟨rfl,rfl⟩
set_option maxRecDepth 100000 in
set_option maxHeartbeats 2000000 in
theorem or_0b{b:Int}(hb:b≠0)(W:World)(bl:Nat)(h0:W.cell? ⟨bl,0,none⟩=some (.int .i64 0))(h1:W.cell? ⟨bl,1,none⟩=some (.int .i64 b)):Calls Tryz.prog 409 #[.slice (some ⟨bl,0,none⟩) 2 2] W fun e w'=>e=.returned (.int .i64 b)∧w'=W:=by
 go_enter Tryz.func409,Tryz.ntmps409
 go_wp2
 go_rounds 3
 go_ret
 exact⟨rfl,rfl⟩
set_option maxRecDepth 100000 in
set_option maxHeartbeats 2000000 in
theorem or_a{a b:Int}(ha:a≠0)(W:World)(bl:Nat)(h0:W.cell? ⟨bl,0,none⟩=some (.int .i64 a))(h1:W.cell? ⟨bl,1,none⟩=some (.int .i64 b)):Calls Tryz.prog 409 #[.slice (some ⟨bl,0,none⟩) 2 2] W fun e w'=>e=.returned (.int .i64 a)∧w'=W:=by
 go_enter Tryz.func409,Tryz.ntmps409
 go_wp2
 go_rounds 3
 go_ret
 exact⟨rfl,rfl⟩
theorem or_w(a b:Int)(W:World)(bl:Nat)(h0:W.cell? ⟨bl,0,none⟩=some (.int .i64 a))(h1:W.cell? ⟨bl,1,none⟩=some (.int .i64 b)):Calls Tryz.prog 409 #[.slice (some ⟨bl,0,none⟩) 2 2] W fun e w'=>e=.returned (.int .i64 (or2 a b))∧w'=W:=by
 unfold or2
 by_cases h:a=0
 ·rw[if_pos h]; subst h
  by_cases h2:b=0
  ·subst h2; exact or_00 W bl h0 h1
  ·exact or_0b h2 W bl h0 h1
 ·rw[if_neg h]; exact or_a h W bl h0 h1
theorem ykr(W:World)(a:Array Value)(s:TypeId)(j:Nat):(W.alloc (.cells a s)).cell? ⟨W.heap.size,j,none⟩=a[j]?:=by
 have h:(W.alloc (.cells a s)).heap[W.heap.size]?=some (.cells a s):=by
  show (W.heap.push _)[W.heap.size]?=_
  rw[Array.getElem?_push]; simp
 unfold World.cell?
 simp only[h]
 rfl
theorem G2.drew(W:World):G2 W W.drew:=⟨1,#[],by simp only[grow,World.drewN,World.drew,Array.append_empty]⟩
def cmpQ(x y:Int×Int×Int):Int:=or2 (cmp2 y.2.2 x.2.2) (cmp2 x.1 y.1)
set_option maxRecDepth 100000 in
theorem ahead_w(x y:Int×Int×Int)(W:World):Calls Tryz.prog 434 #[.agg #[.int .i64 x.1,.int .i64 x.2.1,.int .i64 x.2.2],.agg #[.int .i64 y.1,.int .i64 y.2.1,.int .i64 y.2.2]] W fun e w'=>e=.returned (.int .i64 (cmpQ x y))∧G2 W w':=by
 obtain⟨x1,x2,x3⟩:=x
 obtain⟨y1,y2,y3⟩:=y
 have hc:cmpQ (x1,x2,x3) (y1,y2,y3)=or2 (cmp2 y3 x3) (cmp2 x1 y1):=rfl
 rw[hc]; clear hc
 have c1:=yhg
 have c2:=compare_w
 have c3:=or_w
 generalize cmp2=f at c1 c2
 generalize or2=g at c3
 go_enter Tryz.func434,Tryz.ntmps434
 go_wp2
 have hG:G2 W (World.drew ((W.alloc (.cells #[.int .i64 x1,.int .i64 x2,.int .i64 x3] 457)).alloc (.cells #[.int .i64 y1,.int .i64 y2,.int .i64 y3] 457))):=((G2.alloc _ _).trans (G2.alloc _ _)).trans (G2.drew _)
 have hb:∀j,(World.drew ((W.alloc (.cells #[.int .i64 x1,.int .i64 x2,.int .i64 x3] 457)).alloc (.cells #[.int .i64 y1,.int .i64 y2,.int .i64 y3] 457))).cell? ⟨W.heap.size,j,none⟩ = #[Value.int .i64 x1,.int .i64 x2,.int .i64 x3][j]?:=fun j=>yeg W _ _ _ _ 1 #[] j
 have hb':∀j,(World.drew ((W.alloc (.cells #[.int .i64 x1,.int .i64 x2,.int .i64 x3] 457)).alloc (.cells #[.int .i64 y1,.int .i64 y2,.int .i64 y3] 457))).cell? ⟨W.heap.size+1,j,none⟩ = #[Value.int .i64 y1,.int .i64 y2,.int .i64 y3][j]?:=fun j=>yef W _ _ _ _ 1 #[] j
 generalize ((W.alloc (.cells #[.int .i64 x1,.int .i64 x2,.int .i64 x3] 457)).alloc (.cells #[.int .i64 y1,.int .i64 y2,.int .i64 y3] 457))=X at*
 refine wp_region_still_tail 10 (by kernel_rfl) (by kernel_rfl) ?_
 have eD:({ heap:=X.heap,tape:=X.tape,drawn:=X.drawn+1,os:=X.os,output:=X.output }:World)=X.drew:=rfl
 rw[eD]
 clear eD
 generalize X.drew=V at*
 have a0:=hb 0
 have a2:=hb 2
 have b0:=hb' 0
 have b2:=hb' 2
 clear hb hb'
 simp only[List.take_succ_cons,List.take_zero,List.drop_succ_cons,List.drop_zero]
 repeat still_step
 still_call (c1 _ _ _)
 repeat still_step
 still_call (c2 _ _ _)
 refine wpStill_nil ?_
 go_wp2_with (go_at_call 409; (refine(c3 (f y3 x3) (f x1 y1) _ _ ?_ ?_).mono ?_; rotate_right; rintro e w' ⟨rfl,rfl⟩))
 ·go_ret
  exact⟨rfl,hG.trans (G2.alloc _ _)⟩
 ·exact ykr V _ _ 0
 ·exact ykr V _ _ 1
def Tryz.sortQ_ren:Go.Shelf.Ren:=⟨fun|6=>433|15=>424|14=>449|28=>443|29=>444|20=>457|21=>458|22=>459|23=>460|24=>461|25=>462|26=>463|27=>464|46=>468|47=>452|48=>453|49=>469|50=>470|57=>471|n=>n,fun|22=>453|24=>457|25=>459|3=>3|39=>403|0=>0|53=>469|55=>251|4=>4|46=>463|45=>462|50=>302|5=>5|9=>9|66=>478|70=>482|76=>489|77=>490|n=>n,fun n=>n⟩
theorem Tryz.sortQ:SlLaysF0.n6 Tryz.prog Tryz.sortQ_ren where
 mixed:=by kernel_rfl
 f6:=⟨Tryz.f433.name,by decide +kernel,Tryz.func433.trans (congrArg some (by kernel_rfl))⟩
 f14:=⟨Tryz.f449.name,by decide +kernel,Tryz.func449.trans (congrArg some (by kernel_rfl))⟩
 f15:=Tryz.func424.trans (congrArg some (by kernel_rfl))
 f20:=⟨Tryz.f457.name,by decide +kernel,Tryz.func457.trans (congrArg some (by kernel_rfl))⟩
 f21:=⟨Tryz.f458.name,by decide +kernel,Tryz.func458.trans (congrArg some (by kernel_rfl))⟩
 f22:=⟨Tryz.f459.name,by decide +kernel,Tryz.func459.trans (congrArg some (by kernel_rfl))⟩
 f23:=⟨Tryz.f460.name,by decide +kernel,Tryz.func460.trans (congrArg some (by kernel_rfl))⟩
 f24:=⟨Tryz.f461.name,by decide +kernel,Tryz.func461.trans (congrArg some (by kernel_rfl))⟩
 f25:=⟨Tryz.f462.name,by decide +kernel,Tryz.func462.trans (congrArg some (by kernel_rfl))⟩
 f26:=⟨Tryz.f463.name,by decide +kernel,Tryz.func463.trans (congrArg some (by kernel_rfl))⟩
 f27:=⟨Tryz.f464.name,by decide +kernel,Tryz.func464.trans (congrArg some (by kernel_rfl))⟩
 f28:=Tryz.func443.trans (congrArg some (by kernel_rfl))
 f29:=Tryz.func444.trans (congrArg some (by kernel_rfl))
 f46:=⟨Tryz.f468.name,by decide +kernel,Tryz.func468.trans (congrArg some (by kernel_rfl))⟩
 f47:=Tryz.func452.trans (congrArg some (by kernel_rfl))
 f48:=Tryz.func453.trans (congrArg some (by kernel_rfl))
 f49:=⟨Tryz.f469.name,by decide +kernel,Tryz.func469.trans (congrArg some (by kernel_rfl))⟩
 f50:=⟨Tryz.f470.name,by decide +kernel,Tryz.func470.trans (congrArg some (by kernel_rfl))⟩
 f57:=⟨Tryz.f471.name,by decide +kernel,Tryz.func471.trans (congrArg some (by kernel_rfl))⟩
 t0:=Tryz.underlying0
 a0:=Tryz.isAgg0
 z0:=Tryz.sizeOf0
 v0:=Tryz.zeroValue0
 t3:=Tryz.underlying3
 a3:=Tryz.isAgg3
 z3:=Tryz.sizeOf3
 v3:=Tryz.zeroValue3
 t4:=Tryz.underlying4
 a4:=Tryz.isAgg4
 z4:=Tryz.sizeOf4
 v4:=Tryz.zeroValue4
 t5:=Tryz.underlying5
 a5:=Tryz.isAgg5
 z5:=Tryz.sizeOf5
 v5:=Tryz.zeroValue5
 t9:=Tryz.underlying9
 a9:=Tryz.isAgg9
 z9:=Tryz.sizeOf9
 v9:=Tryz.zeroValue9
 t22:=Tryz.underlying453
 a22:=Tryz.isAgg453
 z22:=Tryz.sizeOf453
 v22:=Tryz.zeroValue453
 t25:=Tryz.underlying459
 a25:=Tryz.isAgg459
 z25:=Tryz.sizeOf459
 v25:=Tryz.zeroValue459
 t39:=Tryz.underlying403
 a39:=Tryz.isAgg403
 z39:=Tryz.sizeOf403
 v39:=Tryz.zeroValue403
 t45:=Tryz.underlying462
 a45:=Tryz.isAgg462
 z45:=Tryz.sizeOf462
 v45:=Tryz.zeroValue462
 t46:=Tryz.underlying463
 a46:=Tryz.isAgg463
 z46:=Tryz.sizeOf463
 v46:=Tryz.zeroValue463
 t50:=Tryz.underlying302
 a50:=Tryz.isAgg302
 z50:=Tryz.sizeOf302
 v50:=Tryz.zeroValue302
 t53:=Tryz.underlying469
 a53:=Tryz.isAgg469
 z53:=Tryz.sizeOf469
 v53:=Tryz.zeroValue469
 t55:=Tryz.underlying251
 a55:=Tryz.isAgg251
 z55:=Tryz.sizeOf251
 v55:=Tryz.zeroValue251
 t66:=Tryz.underlying478
 a66:=Tryz.isAgg478
 z66:=Tryz.sizeOf478
 v66:=Tryz.zeroValue478
 t70:=Tryz.underlying482
 a70:=Tryz.isAgg482
 z70:=Tryz.sizeOf482
 v70:=Tryz.zeroValue482
 t76:=Tryz.underlying489
 a76:=Tryz.isAgg489
 z76:=Tryz.sizeOf489
 v76:=Tryz.zeroValue489
 t77:=Tryz.underlying490
 a77:=Tryz.isAgg490
 z77:=Tryz.sizeOf490
 v77:=Tryz.zeroValue490
def cmpR(x y:KQ3):Int:=cmpQ (x.1,x.2.1,x.2.2.1) (y.1,y.2.1,y.2.2.1)
theorem ltR(x y:KQ3):ltOf cmpR x y=true↔y.2.2.1<x.2.2.1∨(x.2.2.1=y.2.2.1∧x.1<y.1):=by
 unfold ltOf cmpR cmpQ or2 cmp2
 simp only[decide_eq_true_eq]
 repeat' split
 all_goals omega
theorem ltR_f(x y:KQ3):ltOf cmpR x y=false↔x.2.2.1<y.2.2.1∨(x.2.2.1=y.2.2.1∧y.1≤x.1):=by
 rw[←Bool.not_eq_true,ltR]; omega
theorem swoR:SWO (ltOf cmpR) where
 irrefl x:=by rw[ltR_f]; omega
 trans x y z h1 h2:=by rw[ltR]at *; omega
 ntrans x y z h1 h2:=by rw[ltR_f]at *; omega
def encQ(x:KQ3):List Value:=[.int .i64 x.1,.int .i64 x.2.1,.int .i64 x.2.2.1]
theorem encQ1(x:KQ3):∀v∈encQ x,v.oneCell'=true:=by
 intro v hv; simp[encQ]at hv; rcases hv with rfl|rfl|rfl<;>rfl
theorem aheadR_w(x y:KQ3)(W:World):Calls Tryz.prog 434 #[.agg (encQ x).toArray,.agg (encQ y).toArray] W fun e w'=>e=.returned (.int .i64 (cmpR x y))∧G2 W w':=ahead_w (x.1,x.2.1,x.2.2.1) (y.1,y.2.1,y.2.2.1) W
theorem call433(blk off cap:Nat)(l l':List KQ3)(w:World)(h:zgy l=some l')(hH:HoldsK encQ 3 w blk off l.toArray)(hblk:blk<w.heap.size):
  Calls Tryz.prog 433 #[.slice (some ⟨blk,off,none⟩) l.length cap,.func (.func 434) #[] #[]] w fun e w'=>e=.returned (.tuple #[])∧∃n os,w'=sortWorldK encQ 3 w blk off n l'.toArray os:=by
 obtain⟨h1,h2,rfl⟩:=zvb h
 have hh:=AnyQ.slices_SortFunc Tryz.sortQ 3 (fun w=>by kernel_rfl) (fun w=>by kernel_rfl) encQ (fun _=>rfl) encQ1 cmpR swoR 434 #[] blk off cap l.toArray w (enters_of Tryz.func434 (by kernel_rfl) rfl) (fun _ _ _ _ x y=>aheadR_w x y _) hH hblk (by simpa using h1)
 simp only[List.size_toArray]at hh
 refine hh.mono fun _ _ ⟨he,d',n,os,hp,hs,hw⟩=>⟨he,n,os,?_⟩
 rw[hw]
 congr 1
 obtain⟨hsz,_,hperm⟩:=hp
 have hsz':d'.size=l.length:=by simpa using hsz
 have e1:d'.extract 0 l.length=d':=by rw[←hsz']; exact Array.extract_size
 have e2:l.toArray.extract 0 l.length=l.toArray:=by simp
 rw[e1,e2]at hperm
 have:=srtQ_eq ((yaq l).1 h2) (l':=d'.toList) hperm (by
  rw[List.pairwise_iff_getElem]
  intro i j hi hj hij
  have hi':i<d'.size:=by simpa using hi
  have hj':j<d'.size:=by simpa using hj
  have:=hs i j (Nat.zero_le _) hij (by omega)
  rw[getElem!_pos d' j hj',getElem!_pos d' i hi',ltR_f]at this
  rw[zpj,Array.getElem_toList,Array.getElem_toList]
  omega)
 rw[←this]
def yfs:KC Tryz.prog:=⟨433,fun _=>.mu ⟨457,tQ0,[.fn 434 []],fun l _=>zgy l⟩,sort_mu (enc:=encQ) (fun _=>rfl) encQ1 (fun U w x us=>by
  simp only[DT.h]
  constructor
  ·rintro⟨us1,us2,rfl,rfl,us3,us4,rfl,rfl,us5,us6,rfl,rfl,rfl⟩; rfl
  ·rintro rfl; exact⟨_,_,rfl,rfl,_,_,rfl,rfl,_,_,rfl,rfl,rfl⟩) (fun l l' h=>by rw[(zvb h).2.2]; exact(zdt l).length_eq) ⟨_,Tryz.func433,by decide +kernel,rfl⟩ (by decide +kernel)
  (fun p cap w=>AnyF.slices_SortFunc_none Tryz.sortQ p cap _ w)
  (fun blk off cap l l' w h hH hb=>by
   have h0:tQ0.size=3:=rfl
   rw[h0]at hH ⊢
   have:=call433 blk off cap l l' w h hH hb
   exact this)⟩
end Go.Proofs.YtllkmncnmlmefaaGreat