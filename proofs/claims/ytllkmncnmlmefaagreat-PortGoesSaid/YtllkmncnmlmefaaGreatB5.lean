import Derived.Test.YtllkmncnmlmefaaGreatB4
import Derived.Lib.SliceRun
import Derived.Lib.SlicesDelete
import Derived.Lib.Overlaps
import Derived.Lib.AppendZerosOnto
import Derived.Laws.Externs
import Derived.Laws.IdiomCopy
import Derived.Laws.NewBlocks
import Derived.Deep.RegionLaw
import Derived.Shelf.RegionOpenPlain
import Derived.WalkKit
namespace Go.Proofs.YtllkmncnmlmefaaGreat
open Go Go.Vc Go.RowKit Go.Sort
def ltA(a b:U0'):Prop:=a.1<b.1∨(a.1=b.1∧a.2.1<b.2.1)
instance (a b:U0'):Decidable (ltA a b):=by unfold ltA; infer_instance
instance:DecidableEq U0':=inferInstanceAs (DecidableEq (Int×Int×Unit))
theorem extA{a b:U0'}(h1:a.1=b.1)(h2:a.2.1=b.2.1):a=b:=by
 obtain⟨a1,a2,⟨⟩⟩:=a; obtain⟨b1,b2,⟨⟩⟩:=b; simp only at h1 h2; subst h1 h2; rfl
theorem zcd(a:U0'):¬ltA a a:=by unfold ltA; omega
theorem ltA_tr{a b c:U0'}(h1:ltA a b)(h2:ltA b c):ltA a c:=by unfold ltA at *; omega
theorem znq{a b:U0'}(h1:¬ltA a b)(h2:¬ltA b a):a=b:=by
 unfold ltA at *; exact extA (by omega) (by omega)
theorem ltA_as{a b:U0'}(h1:ltA a b)(h2:ltA b a):False:=zcd a (ltA_tr h1 h2)
abbrev SrtA(l:List U0'):Prop:=l.Pairwise ltA
theorem srt_ext:∀{l m:List U0'},SrtA l→SrtA m→(∀x,x∈l↔x∈m)→l=m
 |[],[],_,_,_=>rfl
 |[],b::m,_,_,h=>absurd ((h b).2 (by simp)) (by simp)
 |a::l,[],_,_,h=>absurd ((h a).1 (by simp)) (by simp)
 |a::l,b::m,hl,hm,h=>by
  obtain⟨h1,h2⟩:=List.pairwise_cons.1 hl
  obtain⟨h3,h4⟩:=List.pairwise_cons.1 hm
  have hab:a=b:=by
   rcases List.mem_cons.1 ((h a).1 (by simp)) with e|e
   ·exact e
   ·rcases List.mem_cons.1 ((h b).2 (by simp)) with e'|e'
    ·exact e'.symm
    ·exact(ltA_as (h1 b e') (h3 a e)).elim
  subst hab
  rw[srt_ext h2 h4 λx=>?_]
  constructor
  ·intro hx
   rcases List.mem_cons.1 ((h x).1 (List.mem_cons_of_mem _ hx)) with rfl|e
   ·exact(zcd _ (h1 _ hx)).elim
   ·exact e
  ·intro hx
   rcases List.mem_cons.1 ((h x).2 (List.mem_cons_of_mem _ hx)) with rfl|e
   ·exact(zcd _ (h3 _ hx)).elim
   ·exact e
theorem yhd:∀(l ks:List (Int×Int)) (x:Int×Int),x∈l.foldl addU ks↔x∈ks∨x∈l
 |[],ks,x=>by simp
 |y::l,ks,x=>by
  rw[List.foldl_cons,yhd l]
  unfold addU
  split
  ·rename_i hy
   constructor
   ·rintro(h|h)
    ·exact .inl h
    ·exact .inr (by simp[h])
   ·rintro(h|h)
    ·exact .inl h
    ·rcases List.mem_cons.1 h with rfl|h
     ·exact .inl hy
     ·exact .inr h
  ·simp only[List.mem_append,List.mem_cons,List.not_mem_nil,or_false]
   constructor
   ·rintro((h|h)|h)<;>simp[h]
   ·rintro(h|h|h)<;>simp[h]
theorem uniq_nd:∀(l ks:List (Int×Int)),ks.Nodup→(l.foldl addU ks).Nodup
 |[],ks,h=>h
 |y::l,ks,h=>by
  rw[List.foldl_cons]
  refine uniq_nd l _ ?_
  unfold addU
  split
  ·exact h
  ·rename_i hy
   exact List.nodup_append.2 ⟨h,by simp,λa ha b hb=>by simp at hb; subst hb; rintro rfl; exact hy ha⟩
theorem ylj(l:List F0')(u:U0'):u∈zci l↔∃x∈l,x.1=u:=by
 unfold zci
 rw[List.mem_map]
 constructor
 ·rintro⟨y,hy,rfl⟩
  have hy:=(List.mergeSort_perm _ _).subset hy
  rcases (yhd _ [] y).1 hy with h|h
  ·cases h
  ·obtain⟨x,hx,rfl⟩:=List.mem_map.1 h
   exact⟨x,hx,extA rfl rfl⟩
 ·rintro⟨x,hx,rfl⟩
  refine⟨(x.1.1,x.1.2.1),(List.mergeSort_perm _ _).symm.subset ((yhd _ [] _).2 (.inr (List.mem_map.2 ⟨x,hx,rfl⟩))),extA rfl rfl⟩
theorem yau(l:List F0'):SrtA (zci l):=by
 unfold zci SrtA
 rw[List.pairwise_map]
 have h1:=zvx (uniqU (l.map λx=>(x.1.1,x.1.2.1)))
 have h2:(srtU (uniqU (l.map λx=>(x.1.1,x.1.2.1)))).Nodup:=(List.mergeSort_perm _ _).nodup_iff.2 (uniq_nd _ [] (by simp))
 refine List.Pairwise.imp_of_mem (λ{a b} _ _ h=>?_) (h1.and h2)
 obtain⟨h3,h4⟩:=h
 rw[ltU,Bool.not_eq_true',zwv]at h3
 unfold ltA ofU
 simp only
 by_cases e1:a.1=b.1
 ·have:a.2≠b.2:=λe2=>h4 (Prod.ext e1 e2)
  omega
 ·omega
def lowU(u:U0')(l:List U0'):List U0':=l.filter λx=>decide (ltA x u)
def highU(u:U0')(l:List U0'):List U0':=l.filter λx=>!decide (ltA x u)
theorem ysj:∀{l:List U0'},SrtA l→∀u,l.take (lowU u l).length=lowU u l∧l.drop (lowU u l).length=highU u l
 |[],_,u=>by simp[lowU,highU]
 |a::l,h,u=>by
  obtain⟨h1,h2⟩:=List.pairwise_cons.1 h
  obtain⟨e1,e2⟩:=ysj h2 u
  by_cases ha:ltA a u
  ·have p1:lowU u (a::l)=a::lowU u l:=by simp[lowU,ha]
   have p2:highU u (a::l)=highU u l:=by simp[highU,ha]
   rw[p1,p2]; simp[e1,e2]
  ·have hall:∀x∈l,¬ltA x u:=λx hx hxu=>ha (ltA_tr (h1 x hx) hxu)
   have p1:lowU u (a::l)=[]:=by
    unfold lowU; rw[List.filter_eq_nil_iff]
    intro x hx
    rcases List.mem_cons.1 hx with rfl|hx
    ·simp[ha]
    ·simp[hall x hx]
   have p2:highU u (a::l)=a::l:=by
    unfold highU; rw[List.filter_eq_self]
    intro x hx
    rcases List.mem_cons.1 hx with rfl|hx
    ·simp[ha]
    ·simp[hall x hx]
   rw[p1,p2]; simp
theorem low_step{l:List U0'}(h:SrtA l)(u:U0')(i:Nat)(hi:i<l.length):(lowU u (l.take (i+1))).length=if ltA l[i] u then i+1 else (lowU u (l.take i)).length:=by
 have e:l.take (i+1)=l.take i++[l[i]]:=by simp
 rw[e]
 unfold lowU
 rw[List.filter_append,List.length_append]
 by_cases hu:ltA l[i] u
 ·have hall:(l.take i).filter (λx=>decide (ltA x u))=l.take i:=by
   rw[List.filter_eq_self]
   intro x hx
   have hs:=h
   rw[←List.take_append_drop i l]at hs
   have:=(List.pairwise_append.1 hs).2.2 x hx l[i] (List.mem_of_getElem? (i:=0) (by rw[List.getElem?_drop]; simp[hi]))
   simp[ltA_tr this hu]
  rw[hall]; simp[hu]; omega
 ·simp[hu]
def insA(u:U0')(l:List U0'):List U0':=if u∈l then l else lowU u l++u::highU u l
theorem insA_mem(u:U0')(l:List U0')(x:U0'):x∈insA u l↔x=u∨x∈l:=by
 unfold insA lowU highU
 split
 ·rename_i h
  constructor
  ·exact .inr
  ·rintro(rfl|h')<;>assumption
 ·simp only[List.mem_append,List.mem_filter,List.mem_cons,decide_eq_true_eq,Bool.not_eq_true',decide_eq_false_iff_not]
  constructor
  ·rintro(h|h|h)
   ·exact .inr h.1
   ·exact .inl h
   ·exact .inr h.1
  ·rintro(h|h)
   ·exact .inr (.inl h)
   ·by_cases hx:ltA x u
    ·exact .inl ⟨h,hx⟩
    ·exact .inr (.inr ⟨h,hx⟩)
theorem insA_srt{u:U0'}{l:List U0'}(h:SrtA l):SrtA (insA u l):=by
 unfold insA
 split
 ·exact h
 ·rename_i hu
  refine List.pairwise_append.2 ⟨h.filter _,List.pairwise_cons.2 ⟨λx hx=>?_,h.filter _⟩,λa ha b hb=>?_⟩
  ·unfold highU at hx
   simp only[List.mem_filter,Bool.not_eq_true',decide_eq_false_iff_not]at hx
   by_cases hux:ltA u x
   ·exact hux
   ·exact absurd (znq hux hx.2▸hx.1) hu
  ·unfold lowU at ha
   simp only[List.mem_filter,decide_eq_true_eq]at ha
   rcases List.mem_cons.1 hb with rfl|hb
   ·exact ha.2
   ·unfold highU at hb
    simp only[List.mem_filter,Bool.not_eq_true',decide_eq_false_iff_not]at hb
    by_cases hub:ltA u b
    ·exact ltA_tr ha.2 hub
    ·exact absurd (znq hub hb.2▸hb.1) hu
theorem ypw:∀(l:List F0') (acc:List U0'),SrtA acc→SrtA (l.foldl (λa x=>insA x.1 a) acc)∧∀u,u∈l.foldl (λa x=>insA x.1 a) acc↔u∈acc∨∃x∈l,x.1=u
 |[],acc,h=>⟨h,λu=>by simp⟩
 |x::l,acc,h=>by
  obtain⟨h1,h2⟩:=ypw l (insA x.1 acc) (insA_srt h)
  refine⟨h1,λu=>?_⟩
  rw[List.foldl_cons,h2,insA_mem]
  constructor
  ·rintro((rfl|h)|⟨y,hy,e⟩)
   ·exact .inr ⟨x,by simp,rfl⟩
   ·exact .inl h
   ·exact .inr ⟨y,by simp[hy],e⟩
  ·rintro(h|⟨y,hy,e⟩)
   ·exact .inl (.inr h)
   ·rcases List.mem_cons.1 hy with rfl|hy
    ·exact .inl (.inl e.symm)
    ·exact .inr ⟨y,hy,e⟩
theorem ynm(l:List F0'):l.foldl (λa x=>insA x.1 a) []=zci l:=by
 obtain⟨h1,h2⟩:=ypw l [] List.Pairwise.nil
 exact srt_ext h1 (yau l) λu=>by rw[h2,ylj]; simp
end Go.Proofs.YtllkmncnmlmefaaGreat
namespace Go.Vc
open Go Go.RowKit
variable {β:Type} {r:β}
theorem loop_ok{X:Type}{f:X→(X→Option β)→Option β}(μ:X→Nat)(R:X→Prop)(g:X→Option β)
  (h:∀z,R z→∀again:X→Option β,(∀z',R z'→μ z'<μ z→again z'=g z')→f z again=g z):∀(n:Nat) (z:X),R z→μ z<n→loopF n f z=g z
 |0,z,_,hm=>by omega
 |n+1,z,hz,hm=>h z hz _ λz' hz' hm'=>loop_ok μ R g h n z' hz' (by omega)
theorem zdm{X:Type}{f:X→(X→Option β)→Option β}(μ:X→Nat)(R:X→Prop)(g:X→Option β){z:X}(hz:R z)(hm:μ z<18446744073709551616)
  (h:∀z,R z→∀again:X→Option β,(∀z',R z'→μ z'<μ z→again z'=g z')→f z again=g z):stdW.loop f z=g z:=
 loop_ok μ R g h FU z hz (by rw[FU_eq]; exact hm)
theorem both_eq(a:Option β):bothF a a=a:=by unfold bothF; exact if_pos rfl
theorem idx_eq{α:Type}{l:List α}{i:Nat}(h:i<l.length)(K:α→Option β):idxF l (i:Int) K=K l[i]:=by
 unfold idxF
 rw[Int.toNat_natCast,List.getElem?_eq_getElem h]
 simp
theorem nz_eq{b:Int}(h:b≠0)(K:Option β):nzF b K=K:=by unfold nzF; simp[h]
theorem nn_eq{b:Int}(h:0≤b)(K:Option β):nnF b K=K:=by unfold nnF; simp[h]
theorem ybh{n b:Nat}(h:n≤281474976710656)(h2:n*b≤140737488355328)(K:Option β):roomF n b K=K:=by unfold roomF; simp[h,h2]
theorem bnd_eq{i:Int}{n:Nat}(h:0≤i)(h2:i≤n)(K:Nat→Option β):bndF i n K=K i.toNat:=by unfold bndF; simp[h,h2]
theorem yps{X:Type}(k:X→Option β)(f:(X→Option β)→Option β):joinF k f=f k:=rfl
theorem yjn{e:Bool}{f:Bool→Option β}{b:Option β}(h0:f false=b)(h1:e=true→f true=b):nilF e f=b:=by
 unfold nilF
 cases e
 ·exact h0
 ·simp only[cond_true]; rw[h0,h1 rfl,both_eq]
end Go.Vc

namespace Go.Vc
open Go Go.RowKit
abbrev BigT:=Bool × List Int × Unit
theorem zjk {α:Type} (l:List α) (i:Nat) (h:i < l.length):l.drop i=l[i] :: l.drop (i + 1):=List.drop_eq_getElem_cons h
def bitsOf (n:Nat):List Int:=if h:n=0 then [] else ((n % 2:Nat):Int) :: bitsOf (n / 2)
termination_by n
decreasing_by omega
theorem bits0:bitsOf 0=[]:=by rw [bitsOf];rfl
theorem bitsS {n:Nat} (h:n ≠ 0):bitsOf n=((n % 2:Nat):Int) :: bitsOf (n / 2):=by rw [bitsOf];simp [h]
def valB:List Int→Nat
  | [] => 0
  | x :: l => x.toNat + 2 * valB l
def bitL (l:List Int):Prop:=∀ x ∈ l,x=0∨x=1
def Nrm (l:List Int):Prop:=bitsOf (valB l)=l
theorem zgt (n:Nat):valB (bitsOf n)=n:=by
  induction n using Nat.strongRecOn with
  | ind n ih =>
    by_cases h:n=0
    · subst h;rw [bits0];rfl
    · rw [bitsS h,valB,ih (n / 2) (by omega)];omega
theorem yjl (n:Nat):Nrm (bitsOf n):=by unfold Nrm;rw [zgt]
theorem ydv (n:Nat):bitL (bitsOf n):=by
  induction n using Nat.strongRecOn with
  | ind n ih =>
    by_cases h:n=0
    · subst h;rw [bits0];intro x hx;cases hx
    · rw [bitsS h];intro x hx
      rcases List.mem_cons.1 hx with rfl | hx
      · omega
      · exact ih (n / 2) (by omega) x hx
theorem Nrm.bits {l:List Int} (h:Nrm l):bitL l:=h ▸ ydv _
theorem zvi (k:Nat):∀ n,n < 2 ^ k→(bitsOf n).length≤k:=by
  induction k with
  | zero => intro n h;have:n=0:=by simp at h;exact h
            subst this;rw [bits0];simp
  | succ k ih => intro n h;by_cases h0:n=0
                 · subst h0;rw [bits0];simp
                 · rw [bitsS h0];have:=ih (n / 2) (by rw [Nat.pow_succ] at h;omega);simp;omega
theorem zgd {xs:List Int} {i x:Nat} (h:xs.drop i=bitsOf x) (hi:i < xs.length):xs[i]=((x % 2:Nat):Int)∧xs.drop (i + 1)=bitsOf (x / 2)∧x ≠ 0:=by
  have hx:x ≠ 0:=by rintro rfl;rw [bits0] at h;have:=congrArg List.length h;simp at this;omega
  rw [zjk xs i hi,bitsS hx] at h
  exact ⟨(List.cons.inj h).1,(List.cons.inj h).2,hx⟩
theorem zqr {xs:List Int} {i x:Nat} (h:xs.drop i=bitsOf x) (hi:¬ i < xs.length):x=0:=by
  by_cases h0:x=0
  · exact h0
  · rw [bitsS h0,List.drop_eq_nil_of_le (by omega)] at h;cases h
theorem yae {xs:List Int} {i x:Nat} (h:xs.drop i=bitsOf x):xs.drop (i + 1)=bitsOf (x / 2):=by
  by_cases hi:i < xs.length
  · exact (zgd h hi).2.1
  · rw [zqr h hi,List.drop_eq_nil_of_le (by omega)];exact bits0.symm
theorem yhc:∀ (a b:List Int),valB (a ++ b)=valB a + 2 ^ a.length * valB b
  | [],b => by simp [valB]
  | x :: a,b => by simp only [List.cons_append,valB,yhc a b,List.length_cons,Nat.pow_succ,Nat.mul_add];rw [← Nat.mul_assoc 2,Nat.mul_comm 2 (2 ^ a.length)];omega
theorem zvu:∀ (a:List Int),bitL a→valB a < 2 ^ a.length
  | [],_ => by simp [valB]
  | x :: a,h => by
    have h1:=zvu a λy hy => h y (by simp [hy])
    have:=h x (by simp)
    simp only [valB,List.length_cons,Nat.pow_succ];omega
theorem nrm_of:∀ (l:List Int),bitL l→(∀ h:l ≠ [],l.getLast h=1)→Nrm l∧(l ≠ []→valB l ≠ 0)
  | [],_,_ => ⟨bits0,λh => absurd rfl h⟩
  | x :: l,h,hl => by
    have hx:=h x (by simp)
    have ih:=nrm_of l (λy hy => h y (by simp [hy])) (λhn => by have:=hl (by simp);rwa [List.getLast_cons hn] at this)
    have hv:valB (x :: l) ≠ 0:=by
      by_cases hn:l=[]
      · subst hn;have:=hl (by simp);simp at this;subst this;simp [valB]
      · have:=ih.2 hn;simp only [valB];omega
    refine ⟨?_,λ_ => hv⟩
    unfold Nrm;rw [bitsS hv]
    have h2:valB (x :: l) / 2=valB l:=by simp only [valB];omega
    have h3:((valB (x :: l) % 2:Nat):Int)=x:=by simp only [valB];omega
    rw [h2,h3,ih.1]
theorem bits_top:∀ (n:Nat),n ≠ 0→2 ^ ((bitsOf n).length - 1)≤n:=by
  intro n
  induction n using Nat.strongRecOn with
  | ind n ih =>
    intro h;rw [bitsS h]
    by_cases h2:n / 2=0
    · rw [h2,bits0];simp;omega
    · have h3:=ih (n / 2) (by omega) h2
      have h4:(bitsOf (n / 2)).length ≠ 0:=by rw [bitsS h2];simp
      have h5:(bitsOf (n / 2)).length=(bitsOf (n / 2)).length - 1 + 1:=by omega
      simp only [List.length_cons,Nat.add_sub_cancel]
      rw [h5,Nat.pow_succ];omega
theorem nrm_len {xs ys:List Int} (hx:Nrm xs) (hy:Nrm ys) (h:xs.length < ys.length):valB xs < valB ys:=by
  have h1:=zvu xs hx.bits
  have h2:valB ys ≠ 0:=by intro h0;unfold Nrm at hy;rw [h0,bits0] at hy;subst hy;simp at h
  have h3:=bits_top _ h2
  unfold Nrm at hy;rw [hy] at h3
  have:=Nat.pow_le_pow_right (n:=2) (by omega) (show xs.length≤ys.length - 1 by omega)
  omega
theorem zvt (xs:List Int) (i:Nat) (h:i≤xs.length):valB xs=valB (xs.take i) + 2 ^ i * valB (xs.drop i):=by
  have:=yhc (xs.take i) (xs.drop i)
  rw [List.take_append_drop,List.length_take,Nat.min_eq_left h] at this
  exact this
theorem zij (xs:List Int) (i:Nat) (h:i < xs.length):valB (xs.take (i + 1))=valB (xs.take i) + 2 ^ i * (xs[i]).toNat:=by
  rw [show xs.take (i + 1)=xs.take i ++ [xs[i]] by simp,yhc]
  simp [valB,Nat.min_eq_left (Nat.le_of_lt h)]
theorem ydu {xs:List Int} (h:bitL xs) (i:Nat):bitL (xs.take i):=λx hx => h x (List.mem_of_mem_take hx)
theorem valB_cmp {xs ys:List Int} (hx:bitL xs) (hy:bitL ys) {i:Nat} (h1:i < xs.length) (h2:i < ys.length) (hd:xs.drop (i + 1)=ys.drop (i + 1)) (hn:xs[i] ≠ ys[i]):decide (valB xs < valB ys)=decide (xs[i] < ys[i]):=by
  rw [zvt xs (i + 1) (by omega),zvt ys (i + 1) (by omega),hd,zij xs i h1,zij ys i h2]
  have b1:=zvu _ (ydu hx i);have b2:=zvu _ (ydu hy i)
  rw [List.length_take,Nat.min_eq_left (by omega)] at b1 b2
  rcases hx _ (List.getElem_mem h1) with e1 | e1 <;> rcases hy _ (List.getElem_mem h2) with e2 | e2 <;> rw [e1,e2] at hn ⊢ <;> first | exact absurd rfl hn | (simp;omega)
def bitsK:Nat→Nat→List Int
  | 0,_ => []
  | k + 1,n => ((n % 2:Nat):Int) :: bitsK k (n / 2)
theorem bitL_K:∀ k n,bitL (bitsK k n)
  | 0,_ => by intro x hx;cases hx
  | k + 1,n => by
    intro x hx;rcases List.mem_cons.1 hx with rfl | hx
    · omega
    · exact bitL_K k _ x hx
theorem valB_K:∀ k n,n < 2 ^ k→valB (bitsK k n)=n
  | 0,n,h => by simp at h;subst h;rfl
  | k + 1,n,h => by rw [bitsK,valB,valB_K k (n / 2) (by rw [Nat.pow_succ] at h;omega)];omega
theorem len_K:∀ k n,(bitsK k n).length=k
  | 0,_ => rfl
  | k + 1,n => by rw [bitsK,List.length_cons,len_K k]
theorem u8_add (a b:Nat) (h:a + b < 256):IntKind.u8.wrap ((a:Int) + (b:Int))=((a + b:Nat):Int):=by
  have:(a:Int) + b=((a + b:Nat):Int):=by omega
  rw [this];simp only [IntKind.wrap,IntKind.signed,IntKind.bits];simp;omega
theorem u8_is (a:Nat) (h:a < 256):IntKind.u8.wrap (a:Int)=(a:Int):=by simp only [IntKind.wrap,IntKind.signed,IntKind.bits];simp;omega
theorem u8_half (a:Nat) (h:a < 256):IntKind.u8.wrap ((a:Int).tdiv 2)=((a / 2:Nat):Int):=by
  rw [Int.tdiv_eq_ediv_of_nonneg (by omega),show (a:Int) / 2=((a / 2:Nat):Int) by omega,u8_is _ (by omega)]
theorem yjo (a:Nat):((a:Int).tmod 2)=((a % 2:Nat):Int):=by rw [Int.tmod_eq_emod_of_nonneg (by omega)];omega
theorem sum_step {x y c:Nat} {A:Nat} {s:List Int} (h:bitsOf A=s ++ bitsOf (x + y + c)) (hn:x + y ≠ 0):bitsOf A=(s ++ [((((c + x % 2 + y % 2:Nat)) % 2:Nat):Int)]) ++ bitsOf (x / 2 + y / 2 + (c + x % 2 + y % 2) / 2):=by
  rw [h,bitsS (show x + y + c ≠ 0 by omega),List.append_assoc,List.singleton_append,show (x + y + c) % 2=(c + x % 2 + y % 2) % 2 by omega,show (x + y + c) / 2=x / 2 + y / 2 + (c + x % 2 + y % 2) / 2 by omega]
def bigS (g:Bool) (n:Nat):BigT:=(g && decide (0 < n),bitsOf n,())
def big (z:Int):BigT:=(decide (z < 0),bitsOf z.natAbs,())
def bv (x:BigT):Int:=if x.1 then -(valB x.2.1:Int) else valB x.2.1
theorem bv_big (z:Int):bv (big z)=z:=by unfold bv big;simp only [zgt,decide_eq_true_eq];split <;> omega
def Nb (x:BigT):Prop:=x=big (bv x)
theorem nb_big (z:Int):Nb (big z):=by unfold Nb;rw [bv_big]
theorem K_step {L i x y c:Nat} {D:Nat} {s:List Int} (h:bitsK L D=s ++ bitsK (L - i) (x - y - c)) (hi:i < L) (hc:c≤1) (hle:y + c≤x) :
    bitsK L D=(s ++ [(((x % 2 + 2 - (c + y % 2)) % 2:Nat):Int)]) ++ bitsK (L - (i + 1)) (x / 2 - y / 2 - (if x % 2 + 2 - (c + y % 2) < 2 then 1 else 0)):=by
  rw [h,show L - i=(L - (i + 1)) + 1 by omega,bitsK,List.append_assoc,List.singleton_append]
  have h1:(x - y - c) % 2=(x % 2 + 2 - (c + y % 2)) % 2:=by omega
  have h2:(x - y - c) / 2=x / 2 - y / 2 - (if x % 2 + 2 - (c + y % 2) < 2 then 1 else 0):=by split <;> omega
  rw [h1,h2]
theorem K_le {x y c:Nat} (hc:c≤1) (hle:y + c≤x):y / 2 + (if x % 2 + 2 - (c + y % 2) < 2 then 1 else 0)≤x / 2:=by split <;> omega
theorem u8_dif (e:Int) (x t:Nat) (he:e=((x % 2:Nat):Int)) (ht:t≤2):IntKind.u8.wrap ((IntKind.u8.wrap ((e) + (2))) - ((t:Nat):Int))=((x % 2 + 2 - t:Nat):Int):=by
  subst he
  rw [show (((x % 2:Nat):Int)) + (2)=((x % 2 + 2:Nat):Int) by omega,u8_is _ (by omega),show ((x % 2 + 2:Nat):Int) - ((t:Nat):Int)=((x % 2 + 2 - t:Nat):Int) by omega,u8_is _ (by omega)]
theorem less_len {xs ys:List Int} (hx:Nrm xs) (hy:Nrm ys) (h:¬ xs.length=ys.length):decide (valB xs < valB ys)=decide ((xs.length:Int) < (ys.length:Int)):=by
  rcases Nat.lt_or_gt_of_ne h with h | h
  · have:=nrm_len hx hy h;rw [decide_eq_true this,decide_eq_true (by omega)]
  · have:=nrm_len hy hx h;rw [decide_eq_false (by omega),decide_eq_false (by omega)]
theorem zdz (i:Nat) (h:0 < i) (h2:i≤maxLen):IntKind.i64.wrap (((i:Int)) - (1))=((i - 1:Nat):Int):=by
  rw [zap] at h2;rw [IntWalk.i64_in _ (by omega)];omega
theorem trim_nrm {xs:List Int} {i:Nat} (h:bitL xs) (hi:i≤xs.length) (hl:i=0∨∃ h:i - 1 < xs.length,¬ xs[i - 1]=0):Nrm (xs.take i)∧(i ≠ 0→valB (xs.take i) ≠ 0):=by
  rcases hl with rfl | ⟨hl,hn⟩
  · exact ⟨by simp only [List.take_zero];exact bits0,λh => absurd rfl h⟩
  · have h0:=nrm_of (xs.take i) (ydu h i) λhne => by
      rw [List.getLast_eq_getElem]
      have:(xs.take i).length - 1=i - 1:=by rw [List.length_take];omega
      simp only [this,List.getElem_take]
      rcases h _ (List.getElem_mem hl) with e | e
      · exact absurd e hn
      · exact e
    refine ⟨h0.1,λhi0 => h0.2 λhe => ?_⟩
    have:=congrArg List.length he;rw [List.length_take,List.length_nil] at this;omega
theorem trim_eq {g:Bool} {xs:List Int} {i:Nat} (h:bitL xs) (hi:i≤xs.length) (hv:valB (xs.take i)=valB xs) (hl:i=0∨∃ h:i - 1 < xs.length,¬ xs[i - 1]=0):bigS g (valB xs)=(g && decide ((0:Int) < (i:Int)),xs.take i,()):=by
  obtain ⟨h1,h2⟩:=trim_nrm h hi hl
  unfold bigS;rw [← hv,h1]
  congr 2
  by_cases h0:i=0
  · subst h0;rfl
  · have:=h2 h0;rw [decide_eq_true (by omega),decide_eq_true (by omega)]
theorem bigS_t (n:Nat):bigS true n=big (-(n:Int)):=by unfold bigS big;rw [Int.natAbs_neg];congr 1;simp
theorem bigS_f (n:Nat):bigS false n=big (n:Int):=by unfold bigS big;congr 1
theorem nb_nrm {x:BigT} (h:Nb x):Nrm x.2.1:=by rw [h];exact yjl _
theorem bv_t {x:BigT} (h:x.1=true):bv x = -(valB x.2.1:Int):=by simp [bv,h]
theorem bv_f {x:BigT} (h:x.1=false):bv x=(valB x.2.1:Int):=by simp [bv,h]
theorem ykw (g:Bool) (n:Nat):bigS g n=big (if g=true then -(n:Int) else n):=by cases g <;> simp [bigS_t,bigS_f]
theorem add_same {x y:BigT} (h:x.1=y.1):big (bv x + bv y)=bigS x.1 (valB (bitsOf (valB x.2.1 + valB y.2.1))):=by
  rw [zgt,ykw];congr 1
  cases hx:x.1 <;> rw [hx] at h
  · rw [bv_f hx,bv_f h.symm];simp
  · rw [bv_t hx,bv_t h.symm];simp;omega
theorem K_val {a b:List Int} (h:Nrm a):valB (bitsK a.length (valB a - valB b))=valB a - valB b:=valB_K _ _ (by have:=zvu a h.bits;omega)
theorem add_less {x y:BigT} (hy:Nrm y.2.1) (h:¬ x.1=y.1) (hl:valB x.2.1 < valB y.2.1):big (bv x + bv y)=bigS y.1 (valB (bitsK y.2.1.length (valB y.2.1 - valB x.2.1))):=by
  rw [K_val hy,ykw];congr 1
  cases hx:x.1 <;> cases hyn:y.1 <;> rw [hx,hyn] at h
  · exact absurd rfl h
  · rw [bv_f hx,bv_t hyn];simp;omega
  · rw [bv_t hx,bv_f hyn];simp;omega
  · exact absurd rfl h
theorem add_more {x y:BigT} (hx0:Nrm x.2.1) (h:¬ x.1=y.1) (hl:¬ valB x.2.1 < valB y.2.1):big (bv x + bv y)=bigS x.1 (valB (bitsK x.2.1.length (valB x.2.1 - valB y.2.1))):=by
  rw [K_val hx0,ykw];congr 1
  cases hx:x.1 <;> cases hyn:y.1 <;> rw [hx,hyn] at h
  · exact absurd rfl h
  · rw [bv_f hx,bv_t hyn];simp;omega
  · rw [bv_t hx,bv_f hyn];simp;omega
  · exact absurd rfl h
theorem neg_is (x:BigT):big (-(bv x))=bigS (!(x.1)) (valB x.2.1):=by
  rw [ykw];congr 1
  cases hx:x.1
  · rw [bv_f hx];simp
  · rw [bv_t hx];simp
theorem neg_len {x:BigT} (h:Nb x):(big (-(bv x))).2.1.length=x.2.1.length:=by
  have h1:=congrArg (λz => z.2.1.length) h
  simp only [big] at h1 ⊢;rw [Int.natAbs_neg,← h1]
theorem len_big (z:Int) (h:z.natAbs < 2 ^ 200):(big z).2.1.length≤200:=zvi 200 _ h
def cmpI (x y:BigT):Int:=if bv x - bv y=0 then 0 else if bv x - bv y < 0 then -1 else 1
theorem yto (z:Int):(big z).2.1.length=0↔z=0:=by
  constructor
  · intro h
    have:(big z).2.1=[]:=List.length_eq_zero_iff.1 h
    have h1:=congrArg valB this;simp only [big,zgt] at h1;simp only [valB] at h1;omega
  · rintro rfl;simp [big,bits0]
theorem u64_id (z:Int) (h:0≤z∧z < 18446744073709551616):IntKind.u64.wrap z=z:=by simp only [IntKind.wrap,IntKind.signed,IntKind.bits];simp;omega
theorem of_neg {z:Int} (h:z < 0) (h2 : -9223372036854775808≤z):IntKind.u64.wrap (IntKind.i64.wrap (0 - (IntKind.i64.wrap ((z) + (1))))) = -(z + 1):=by
  rw [IntWalk.i64_in (z + 1) (by omega),IntWalk.i64_in _ (by omega),u64_id _ (by omega)];omega
theorem of_negB {z:Int} (h:z < 0) (h2 : -9223372036854775808≤z) {n:Int} (hn:n = -(z + 1)):big z=(true,bitsOf (valB (bigS false n.toNat).2.1 + valB [1]),()):=by
  have h1:valB (bigS false n.toNat).2.1=n.toNat:=zgt _
  have h3:valB [1]=1:=rfl
  rw [h1,h3];unfold big
  rw [decide_eq_true h,show z.natAbs=n.toNat + 1 by omega]
theorem nrm1:Nrm [1]:=by unfold Nrm;show bitsOf 1=[1];rw [bitsS (by omega),bits0];rfl
theorem yjz(i:Nat)(h:i<9223372036854775807):IntKind.i64.wrap ((i:Int)+1)=((i+1:Nat):Int):=by rw[IntWalk.i64_in _ (by omega)]; omega
theorem u64_half(a:Nat)(h:a<18446744073709551616):IntKind.u64.wrap ((a:Int).tdiv 2)=((a / 2:Nat):Int):=by
 rw[Int.tdiv_eq_ediv_of_nonneg (by omega),show (a:Int) / 2=((a / 2:Nat):Int) by omega]; exact u64_id _ (by omega)
noncomputable def natW(W:Wd)(u:Int):Option BigT:=
 W.loop (λ(z1:Int×List (Int)×Unit) again2=>
 W.cnd (decide (0<z1.1)) (W.nz 2 (W.room (z1.2.1.length+((IntKind.u8.wrap (Int.tmod z1.1 2))::[]).length) 1 (W.nz 2 ((again2 ((IntKind.u64.wrap (Int.tdiv z1.1 2)),((z1.2.1++((IntKind.u8.wrap (Int.tmod z1.1 2))::[])),())))))))
  (some (false,(z1.2.1,()))))
 (u,([],()))
theorem nat_is(u:Nat)(hu:u<18446744073709551616):natW stdW u=some (bigS false u):=by
 unfold natW
 have:=zdm (β:=BigT) (f:=λ(z1:Int×List (Int)×Unit) again2=>
  stdW.cnd (decide (0<z1.1)) (stdW.nz 2 (stdW.room (z1.2.1.length+((IntKind.u8.wrap (Int.tmod z1.1 2))::[]).length) 1 (stdW.nz 2 ((again2 ((IntKind.u64.wrap (Int.tdiv z1.1 2)),((z1.2.1++((IntKind.u8.wrap (Int.tmod z1.1 2))::[])),())))))))
   (some (false,(z1.2.1,())))) (z:=((u:Int),([],()))) (λz=>z.1.toNat) (λz=>0≤z.1∧z.1<18446744073709551616∧z.2.1.length+(bitsOf z.1.toNat).length≤64) (λz=>some (false,z.2.1++bitsOf z.1.toNat,()))
  (by simp only[List.length_nil,Nat.zero_add,Int.toNat_natCast]; exact⟨by omega,by omega,zvi 64 _ (by omega)⟩) (by simpa using hu) ?_
 ·rw[this]; simp[bigS]
 ·rintro⟨a,s,⟨⟩⟩ ⟨h0,h1,h2⟩ again ha
  obtain⟨n,rfl⟩:=Int.eq_ofNat_of_zero_le h0
  simp only[Int.toNat_natCast]at h2 ha h1 ⊢
  by_cases hn:n=0
  ·subst hn; simp[bits0]
  ·have hd:decide ((0:Int)<(n:Int))=true:=decide_eq_true (by omega)
   rw[bitsS hn]at h2 ⊢
   simp only[List.length_cons]at h2
   rw[hd]
   simp only[cond_true]
   rw[nz_eq (by omega),ybh (by simp; omega) (by simp; omega),nz_eq (by omega),u64_half n (by omega),yjo,u8_is _ (by omega)]
   rw[ha _ (by simp only[Int.toNat_natCast,List.length_append,List.length_singleton]; exact⟨by omega,by omega,by omega⟩) (by simp only[Int.toNat_natCast]; omega)]
   simp only[Int.toNat_natCast,List.append_assoc,List.singleton_append]
noncomputable def plusW(W:Wd)(a:List Int)(b:List Int):Option (List Int):=
 W.loop (λ(z1:Int×Int×List (Int)×Unit) again2=>
 W.join (λ(z3:List (Int)×Unit)=>
  W.join (λ(z4:Int×List (Int)×Unit)=>
  W.join (λ(z5:Int×List (Int)×Unit)=>W.nz 2 (W.room (z5.2.1.length+((Int.tmod z5.1 2)::[]).length) 1 (W.nz 2 ((again2 ((IntKind.u8.wrap (Int.tdiv z5.1 2)),((IntKind.i64.wrap (z1.2.1+1)),((z5.2.1++((Int.tmod z5.1 2)::[])),()))))))))
   λk6=>
   W.cnd (decide (z1.2.1<(b.length:Int))) (W.idx b z1.2.1 λx7=>(k6 ((IntKind.u8.wrap (z4.1+x7)),(z4.2.1,()))))
   ((k6 (z4.1,(z4.2.1,())))))
  λk8=>
  W.cnd (decide (z1.2.1<(a.length:Int))) (W.idx a z1.2.1 λx9=>(k8 ((IntKind.u8.wrap (z1.1+x9)),(z3.1,()))))
   ((k8 (z1.1,(z3.1,())))))
  λk10=>
  W.cnd (decide (z1.2.1<(a.length:Int))) ((k10 (z1.2.2.1,())))
  (
  W.cnd (decide (z1.2.1<(b.length:Int))) ((k10 (z1.2.2.1,())))
   (
   W.join (λ(z11:List (Int)×Unit)=>some z11.1)
   λk12=>
   W.cnd (decide (0<z1.1)) (W.room (z1.2.2.1.length+(z1.1::[]).length) 1 ((k12 ((z1.2.2.1++(z1.1::[])),()))))
    ((k12 (z1.2.2.1,()))))))
 (0,(0,([],())))
theorem plus_is{xs ys:List Int}(hx:Nrm xs)(hy:Nrm ys)(lx:xs.length≤1000)(ly:ys.length≤1000):plusW stdW xs ys=some (bitsOf (valB xs+valB ys)):=by
 unfold plusW
 refine(zdm (λz=>2001 - z.2.1.toNat) (λz=>∃(i x y c:Nat) (s:List Int),z=((c:Int),(i:Int),s,())∧xs.drop i=bitsOf x∧ys.drop i=bitsOf y∧c≤1∧bitsOf (valB xs+valB ys)=s++bitsOf (x+y+c)∧s.length=i∧i≤1000)
  (λ_=>some (bitsOf (valB xs+valB ys))) ⟨0,valB xs,valB ys,0,[],rfl,(by rw[List.drop_zero]; exact hx.symm),(by rw[List.drop_zero]; exact hy.symm),by omega,by simp,rfl,by omega⟩ (by simp) ?_)
 rintro _ ⟨i,x,y,c,s,rfl,hdx,hdy,hc,hsum,hsl,hi⟩ again ha
 simp only[yps]
 have go:∀(u v:Nat),(x % 2=u)→(y % 2=v)→(i<xs.length∨i<ys.length)→nzF 2 (roomF (s.length+[Int.tmod ((c+u+v:Nat):Int) 2].length) 1 (nzF 2 (again (IntKind.u8.wrap (Int.tdiv ((c+u+v:Nat):Int) 2),IntKind.i64.wrap ((i:Int)+1),s++[Int.tmod ((c+u+v:Nat):Int) 2],()))))=some (bitsOf (valB xs+valB ys)):=by
  intro u v hu hv hlt
  have hn:x+y≠0:=by
   rcases hlt with h|h
   ·have:=(zgd hdx h).2.2; omega
   ·have:=(zgd hdy h).2.2; omega
  rw[nz_eq (by omega),ybh (by simp; omega) (by simp; omega),nz_eq (by omega),u8_half _ (by omega),yjo,yjz i (by omega)]
  refine ha _ ⟨i+1,x / 2,y / 2,(c+x % 2+y % 2) / 2,s++[(((c+x % 2+y % 2) % 2:Nat):Int)],?_,yae hdx,yae hdy,by omega,?_,by simp[hsl],by omega⟩ (by show 2001 - ((i+1:Nat):Int).toNat<2001 - ((i:Nat):Int).toNat; omega)
  ·subst hu; subst hv; rfl
  ·subst hu; subst hv; exact sum_step hsum hn
 by_cases h1:i<xs.length
 ·have d1:decide ((i:Int)<(xs.length:Int))=true:=decide_eq_true (by omega)
  simp only[d1,cond_true]
  rw[idx_eq h1,(zgd hdx h1).1]
  by_cases h2:i<ys.length
  ·have d2:decide ((i:Int)<(ys.length:Int))=true:=decide_eq_true (by omega)
   simp only[d2,cond_true]
   rw[idx_eq h2,(zgd hdy h2).1,u8_add c _ (by omega),u8_add _ _ (by omega)]
   exact go _ _ rfl rfl (.inl h1)
  ·have d2:decide ((i:Int)<(ys.length:Int))=false:=decide_eq_false (by omega)
   simp only[d2,cond_false]
   rw[u8_add c _ (by omega)]
   have:=go (x % 2) 0 rfl (by rw[zqr hdy h2]) (.inl h1)
   simpa using this
 ·have d1:decide ((i:Int)<(xs.length:Int))=false:=decide_eq_false (by omega)
  simp only[d1,cond_false]
  by_cases h2:i<ys.length
  ·have d2:decide ((i:Int)<(ys.length:Int))=true:=decide_eq_true (by omega)
   simp only[d2,cond_true]
   rw[idx_eq h2,(zgd hdy h2).1,u8_add c _ (by omega)]
   have:=go 0 (y % 2) (by rw[zqr hdx h1]) rfl (.inr h2)
   simpa using this
  ·have d2:decide ((i:Int)<(ys.length:Int))=false:=decide_eq_false (by omega)
   simp only[d2,cond_false]
   rw[hsum,zqr hdx h1,zqr hdy h2]
   by_cases h3:c=0
   ·subst h3; simp[bits0]
   ·have:c=1:=by omega
    subst this
    rw[ybh (by simp; omega) (by simp; omega)]
    simp[bitsS,bits0]
noncomputable def lessW(W:Wd)(a:List Int)(b:List Int):Option Bool:=
 W.cnd ((a.length:Int) != (b.length:Int)) (some (decide ((a.length:Int)<(b.length:Int))))
 (
 W.loop (λ(z1:Int×Unit) again2=>
  W.cnd (decide (0<z1.1)) (W.idx a (IntKind.i64.wrap (z1.1 - 1)) λx3=>W.idx b (IntKind.i64.wrap (z1.1 - 1)) λx4=>
  W.cnd (x3 != x4) (W.idx a (IntKind.i64.wrap (z1.1 - 1)) λx5=>W.idx b (IntKind.i64.wrap (z1.1 - 1)) λx6=>some (decide (x5<x6)))
   ((again2 ((IntKind.i64.wrap (z1.1 - 1)),()))))
  (some false))
  ((a.length:Int),()))
theorem less_is{xs ys:List Int}(hx:Nrm xs)(hy:Nrm ys)(lx:xs.length≤1000)(ly:ys.length≤1000):lessW stdW xs ys=some (decide (valB xs<valB ys)):=by
 unfold lessW
 by_cases hl:xs.length=ys.length
 ·have e0:((xs.length:Int) != (ys.length:Int))=false:=by simp[hl]
  simp only[e0,cond_false]
  refine(zdm (λz=>z.1.toNat) (λz=>∃i:Nat,z=((i:Int),())∧i≤xs.length∧xs.drop i=ys.drop i) (λ_=>some (decide (valB xs<valB ys))) ⟨xs.length,rfl,Nat.le_refl _,by rw[List.drop_eq_nil_of_le (Nat.le_refl _),List.drop_eq_nil_of_le (by omega)]⟩ (by simp only[Int.toNat_natCast]; omega) ?_)
  rintro _ ⟨i,rfl,hi,hd⟩ again ha
  by_cases h0:i=0
  ·subst h0
   rw[List.drop_zero,List.drop_zero]at hd
   subst hd
   simp
  ·have d0:decide ((0:Int)<(i:Int))=true:=decide_eq_true (by omega)
   simp only[d0,cond_true]
   have hm:i - 1<xs.length:=by omega
   have hm':i - 1<ys.length:=by omega
   have he:i - 1+1=i:=by omega
   rw[zdz i (by omega) (by rw[zap]; omega),idx_eq hm,idx_eq hm']
   by_cases hq:xs[i - 1]=ys[i - 1]
   ·have e1:(xs[i - 1] != ys[i - 1])=false:=by simp[hq]
    rw[e1]
    simp only[cond_false]
    refine ha _ ⟨i - 1,rfl,by omega,?_⟩ (by show ((i - 1:Nat):Int).toNat<(i:Int).toNat; omega)
    rw[zjk xs _ hm,zjk ys _ hm',hq,he,hd]
   ·have e1:(xs[i - 1] != ys[i - 1])=true:=by simp[hq]
    rw[e1]
    simp only[cond_true]
    rw[idx_eq hm,idx_eq hm',valB_cmp hx.bits hy.bits hm hm' (by rw[he]; exact hd) hq]
 ·have e0:((xs.length:Int) != (ys.length:Int))=true:=by simp; omega
  simp only[e0,cond_true]
  rw[less_len hx hy hl]
noncomputable def minusW(W:Wd)(a:List Int)(b:List Int):Option (List Int):=
 W.loop (λ(z1:Int×Int×List (Int)×Unit) again2=>
 W.cnd (decide (z1.2.1<(a.length:Int))) (
  W.join (λ(z3:Int×List (Int)×Unit)=>W.idx a z1.2.1 λx4=>
  W.join (λ(z5:Int×List (Int)×Unit)=>W.nz 2 (W.room (z5.2.1.length+((Int.tmod (IntKind.u8.wrap ((IntKind.u8.wrap (x4+2)) - z3.1)) 2)::[]).length) 1 ((again2 (z5.1,((IntKind.i64.wrap (z1.2.1+1)),((z5.2.1++((Int.tmod (IntKind.u8.wrap ((IntKind.u8.wrap (x4+2)) - z3.1)) 2)::[])),())))))))
   λk6=>
   W.cnd (decide ((IntKind.u8.wrap ((IntKind.u8.wrap (x4+2)) - z3.1))<2)) ((k6 (1,(z3.2.1,()))))
   ((k6 (0,(z3.2.1,())))))
  λk7=>
  W.cnd (decide (z1.2.1<(b.length:Int))) (W.idx b z1.2.1 λx8=>(k7 ((IntKind.u8.wrap (z1.1+x8)),(z1.2.2.1,()))))
   ((k7 (z1.1,(z1.2.2.1,())))))
  (some z1.2.2.1))
 (0,(0,([],())))
theorem minus_is{xs ys:List Int}(hx:Nrm xs)(hy:Nrm ys)(lx:xs.length≤1000)(hle0:valB ys≤valB xs):minusW stdW xs ys=some (bitsK xs.length (valB xs - valB ys)):=by
 unfold minusW
 refine(zdm (λz=>2001 - z.2.1.toNat) (λz=>∃(i x y c:Nat) (s:List Int),z=((c:Int),(i:Int),s,())∧xs.drop i=bitsOf x∧ys.drop i=bitsOf y∧c≤1∧y+c≤x∧bitsK xs.length (valB xs - valB ys)=s++bitsK (xs.length - i) (x - y - c)∧s.length=i∧i≤xs.length)
  (λ_=>some (bitsK xs.length (valB xs - valB ys))) ⟨0,valB xs,valB ys,0,[],rfl,(by rw[List.drop_zero]; exact hx.symm),(by rw[List.drop_zero]; exact hy.symm),by omega,by omega,by simp,rfl,by omega⟩ (by simp) ?_)
 rintro _ ⟨i,x,y,c,s,rfl,hdx,hdy,hc,hle,hsum,hsl,hi⟩ again ha
 simp only[yps]
 by_cases h1:i<xs.length
 ·have d1:decide ((i:Int)<(xs.length:Int))=true:=decide_eq_true (by omega)
  simp only[d1,cond_true]
  have go:∀(t:Nat),t=c+y % 2→(idxF xs (i:Int) λx4=>bif decide (IntKind.u8.wrap (IntKind.u8.wrap (x4+2) - (t:Int))<2) then
    (nzF 2 (roomF (s.length+[Int.tmod (IntKind.u8.wrap (IntKind.u8.wrap (x4+2) - (t:Int))) 2].length) 1 (again (1,IntKind.i64.wrap ((i:Int)+1),s++[Int.tmod (IntKind.u8.wrap (IntKind.u8.wrap (x4+2) - (t:Int))) 2],())))) else
    (nzF 2 (roomF (s.length+[Int.tmod (IntKind.u8.wrap (IntKind.u8.wrap (x4+2) - (t:Int))) 2].length) 1 (again (0,IntKind.i64.wrap ((i:Int)+1),s++[Int.tmod (IntKind.u8.wrap (IntKind.u8.wrap (x4+2) - (t:Int))) 2],())))))=some (bitsK xs.length (valB xs - valB ys)):=by
   intro t ht
   rw[idx_eq h1,u8_dif _ x t (zgd hdx h1).1 (by omega),yjo,yjz i (by omega)]
   have st:=K_step hsum h1 hc hle
   rw[←ht]at st
   have kl:=K_le (x:=x) (y:=y) hc hle
   rw[←ht]at kl
   have fin:∀c':Nat,c'=(if x % 2+2 - t<2 then 1 else 0)→nzF 2 (roomF (s.length+[(((x % 2+2 - t) % 2:Nat):Int)].length) 1 (again ((c':Int),((i+1:Nat):Int),s++[(((x % 2+2 - t) % 2:Nat):Int)],())))=some (bitsK xs.length (valB xs - valB ys)):=by
    intro c' hc'
    rw[nz_eq (by omega),ybh (by simp; omega) (by simp; omega)]
    refine ha _ ⟨i+1,x / 2,y / 2,c',s++[(((x % 2+2 - t) % 2:Nat):Int)],rfl,yae hdx,yae hdy,by rw[hc']; split<;>omega,by rw[hc']; exact kl,by rw[hc']; exact st,by simp[hsl],by omega⟩ (by show 2001 - ((i+1:Nat):Int).toNat<2001 - ((i:Nat):Int).toNat; omega)
   by_cases h2:x % 2+2 - t<2
   ·have d2:decide (((x % 2+2 - t:Nat):Int)<2)=true:=decide_eq_true (by omega)
    rw[d2]; exact fin 1 (by rw[if_pos h2])
   ·have d2:decide (((x % 2+2 - t:Nat):Int)<2)=false:=decide_eq_false (by omega)
    rw[d2]; exact fin 0 (by rw[if_neg h2])
  by_cases h2:i<ys.length
  ·have d2:decide ((i:Int)<(ys.length:Int))=true:=decide_eq_true (by omega)
   simp only[d2,cond_true]
   rw[idx_eq h2,(zgd hdy h2).1,u8_add c _ (by omega)]
   exact go _ rfl
  ·have d2:decide ((i:Int)<(ys.length:Int))=false:=decide_eq_false (by omega)
   simp only[d2,cond_false]
   exact go c (by rw[zqr hdy h2]; simp)
 ·have d1:decide ((i:Int)<(xs.length:Int))=false:=decide_eq_false (by omega)
  simp only[d1,cond_false]
  rw[hsum,show xs.length - i=0 by omega]
  simp[bitsK]
noncomputable def trimW(W:Wd)(neg:Bool)(b:List Int):Option BigT:=
 W.join (λ(z1:Int×Unit)=>
 W.cnd neg (W.bnd z1.1 b.length λh2=>some ((decide (0<z1.1)),((b.take h2),())))
  (W.bnd z1.1 b.length λh3=>some (false,((b.take h3),()))))
 λk4=>
 W.loop (λ(z5:Int×Unit) again6=>
  W.cnd (decide (0<z5.1)) (W.idx b (IntKind.i64.wrap (z5.1 - 1)) λx7=>
  W.cnd (x7==0) ((again6 ((IntKind.i64.wrap (z5.1 - 1)),())))
   ((k4 z5)))
  ((k4 z5)))
  ((b.length:Int),())
theorem trim_is{g:Bool}{xs:List Int}(h:bitL xs)(lx:xs.length≤1000):trimW stdW g xs=some (bigS g (valB xs)):=by
 unfold trimW
 simp only[yps]
 refine(zdm (λz=>z.1.toNat) (λz=>∃i:Nat,z=((i:Int),())∧i≤xs.length∧valB (xs.take i)=valB xs) (λ_=>some (bigS g (valB xs))) ⟨xs.length,rfl,Nat.le_refl _,by rw[List.take_length]⟩ (by simp only[Int.toNat_natCast]; omega) ?_)
 rintro _ ⟨i,rfl,hi,hv⟩ again ha
 have out:(i=0∨∃h:i - 1<xs.length,¬xs[i - 1]=0)→(bif g then bndF (i:Int) xs.length λh2=>some (decide ((0:Int)<(i:Int)),xs.take h2,()) else bndF (i:Int) xs.length λh3=>some (false,xs.take h3,()))=some (bigS g (valB xs)):=by
  intro hl
  rw[bnd_eq (by omega) (by omega),bnd_eq (by omega) (by omega),Int.toNat_natCast,trim_eq h hi hv hl]
  cases g<;>rfl
 by_cases h0:i=0
 ·have d0:decide ((0:Int)<(i:Int))=false:=decide_eq_false (by omega)
  rw[d0]at out ⊢
  exact out (.inl h0)
 ·have d0:decide ((0:Int)<(i:Int))=true:=decide_eq_true (by omega)
  rw[d0]at out ⊢
  have hm:i - 1<xs.length:=by omega
  simp only[cond_true]
  rw[zdz i (by omega) (by rw[zap]; omega),idx_eq hm]
  by_cases hq:xs[i - 1]=0
  ·have e1:(xs[i - 1]==0)=true:=by simp[hq]
   rw[e1]
   simp only[cond_true]
   refine ha _ ⟨i - 1,rfl,by omega,?_⟩ (by show ((i - 1:Nat):Int).toNat<(i:Int).toNat; omega)
   have:=zij xs (i - 1) hm
   rw[show i - 1+1=i by omega,hv,hq]at this
   simpa using this.symm
  ·have e1:(xs[i - 1]==0)=false:=by simp[hq]
   rw[e1]
   simp only[cond_false]
   exact out (.inr ⟨hm,hq⟩)
end Go.Vc
namespace Go.Vc
open Go Go.RowKit Go.Lib
theorem zev (b : Nat) (vs : List Value) (o : Nat) (w : World) (h : ∀ j, j < vs.length → (w.cell? ⟨b, o + j, none⟩).isSome = true) (k : Nat) (hk : (w.cell? ⟨b, k, none⟩).isSome = true) : ((w.setCells b o vs).cell? ⟨b, k, none⟩).isSome = true := by
  by_cases hin : o ≤ k ∧ k < o + vs.length
  · have := World.cell?_setCells_in b vs o w h (k - o) (by omega)
    rw [show o + (k - o) = k by omega] at this
    rw [this]; rfl
  · rw [World.cell?_setCells_out b vs o w ⟨b, k, none⟩ (λ_ _ => by show k < o ∨ o + vs.length ≤ k; omega)]
    exact hk
theorem ybd {P : Program} (w : World) (t e ty : TypeId) (z : Value) (ht : P.underlying t = some (.slice e)) (hv : ∀ w, (zeroValue e).run P w = .ok z w) (b o n c : Nat) (hn : 0 < n)
    (hc : ∀ j, j < (Builtin.zeroCells z.cells n).toList.length → (w.cell? ⟨b, o + j, none⟩).isSome = true) (hf : ∀ j, j < (Builtin.zeroCells z.cells n).toList.length → w.frozen? ⟨b, o + j, none⟩ = false) (h1 : ∀ v ∈ (Builtin.zeroCells z.cells n).toList, v.oneCell' = true) :
    (Builtin.clear_ #[t] ty #[.slice (some ⟨b, o, none⟩) n c]).run P w = .ok (.tuple #[]) (w.setCells b o (Builtin.zeroCells z.cells n).toList) := by
  have hst := run_storeCells_cells (P := P) b o (Builtin.zeroCells z.cells n).toList 0 w (by simpa using hc) (by simpa using hf) h1
  simp only [Nat.add_zero] at hst
  obtain ⟨m, rfl⟩ : ∃ m, n = m + 1 := ⟨n - 1, by omega⟩
  simp [Builtin.clear_, run_underlying ht, hv, hst]
end Go.Vc
namespace Go.Proofs.YtllkmncnmlmefaaGreat
open Go Go.Vc Go.RowKit Go.Lib Go.Sort Go.Proofs
theorem znz : ElemOk Tryz.prog 29 50 3 40 := ydi (by kernel_rfl) (by kernel_rfl) (by decide)
theorem undPos : Tryz.prog.underlying 29 = some (.slice 50) := by kernel_rfl
def zPos : Value := .agg #[.int .i64 0, .int .i64 0, .slice none 0 0]
theorem zvPos (w : World) : (zeroValue 50).run Tryz.prog w = .ok zPos w := by kernel_rfl
theorem ygq (n : Nat) : (Builtin.zeroCells zPos.cells n).toList.length = n * 3 := by simp [zPos, Builtin.zeroCells, Value.cells]
theorem zPos_one (n : Nat) : ∀ v ∈ (Builtin.zeroCells zPos.cells n).toList, v.oneCell' = true := by
  intro v hv
  simp only [zPos, Builtin.zeroCells, Value.cells, Array.toList_map, List.mem_map] at hv
  obtain ⟨k, _, rfl⟩ := hv
  have : k % 3 = 0 ∨ k % 3 = 1 ∨ k % 3 = 2 := by omega
  rcases this with h | h | h <;> simp [h] <;> rfl
set_option maxHeartbeats 4000000 in
set_option maxRecDepth 1000000 in
theorem del_raw (g n c i j : Nat) (us : List Value) (w : World) (hl : us.length = n * 3) (hc : ∀ t u, us[t]? = some u → w.cell? ⟨g, t, none⟩ = some u) (h1 : ∀ u ∈ us, u.oneCell' = true)
    (hf : ∀ t, w.frozen? ⟨g, t, none⟩ = false) (hij : i < j) (hj : j ≤ n) (hn : n ≤ c) (_ : c ≤ 9223372036854775807) :
    Calls Tryz.prog 263 #[.slice (some ⟨g, 0, none⟩) n c, .int .i64 i, .int .i64 j] w λe w' => e = .returned (.slice (some ⟨g, 0, none⟩) (i + (n - j)) c) ∧
      w' = (w.drew.setCells g (0 + i * 3) (us.drop (j * 3))).setCells g ((i + (n - j)) * 3) (Builtin.zeroCells zPos.cells (n - (i + (n - j)))).toList := by
  obtain ⟨i0, z0, hi0, hz0, hz1, hby, hzs⟩ := znz.info
  have hlen : (us.drop (j * 3)).length = (n - j) * 3 := by rw [List.length_drop, hl, Nat.sub_mul]
  obtain ⟨news, hnews⟩ : ∃ news, news = us.drop (j * 3) := ⟨_, rfl⟩
  rw [← hnews] at hlen ⊢
  have hget : ∀ t u, news[t]? = some u → w.cell? ⟨g, j * 3 + t, none⟩ = some u := λt u h => hc _ _ (by rw [hnews, List.getElem?_drop] at h; exact h)
  obtain ⟨A, hA, hsrc⟩ : ∃ A : Addr, (if c = j then some (⟨g, 0, none⟩ : Addr) else some ⟨g, j * 3, none⟩) = some A ∧ Hid (∀ t u, news[t]? = some u → w.drew.cell? (A.add t) = some u) := by
    by_cases h : c = j
    · refine ⟨⟨g, 0, none⟩, by simp [h], λt u hu => ?_⟩
      have h0 : news.length = 0 := by rw [hlen]; have : n - j = 0 := by omega
                                      rw [this, Nat.zero_mul]
      rw [List.length_eq_zero_iff.1 h0] at hu
      simp at hu
    · refine ⟨⟨g, j * 3, none⟩, by simp [h], λt u hu => ?_⟩
      rw [Addr.add_lit]
      exact hget t u hu
  have s1 : Hid (news.length = (n - j) * 3) := hlen
  have s2 : Hid (∀ u ∈ news, u.oneCell' = true) := λu hu => h1 u (by rw [hnews] at hu; exact List.mem_of_mem_drop hu)
  have hall : ∀ t, t < n * 3 → (w.cell? ⟨g, t, none⟩).isSome = true := λt ht => by rw [hc t _ (List.getElem?_eq_getElem (by omega))]; rfl
  have s3 : Hid (∀ t, t < news.length → (w.drew.cell? ⟨g, 0 + i * 3 + t, none⟩).isSome = true ∧ w.drew.frozen? ⟨g, 0 + i * 3 + t, none⟩ = false) := λt ht => ⟨hall _ (by omega), hf _⟩
  obtain ⟨W1, hW1⟩ : ∃ W1, W1 = w.drew.setCells g (0 + i * 3) news := ⟨_, rfl⟩
  have hs1 : ∀ t, t < n * 3 → (W1.cell? ⟨g, t, none⟩).isSome = true := λt ht => by
    rw [hW1]
    exact zev g news (0 + i * 3) w.drew (λt ht => hall _ (by omega)) _ (hall t ht)
  have hf1 : ∀ t, W1.frozen? ⟨g, t, none⟩ = false := λt => by rw [hW1, World.frozen?_setCells]; exact hf t
  have hcl : ∀ ty, (Builtin.clear_ #[29] ty #[.slice (some ⟨g, (i + (n - j)) * 3, none⟩) (n - (i + (n - j))) (c - (i + (n - j)))]).run Tryz.prog W1 = .ok (.tuple #[]) (W1.setCells g ((i + (n - j)) * 3) (Builtin.zeroCells zPos.cells (n - (i + (n - j)))).toList) := λty => by
    have := ybd W1 29 50 ty zPos undPos zvPos g ((i + (n - j)) * 3) (n - (i + (n - j))) (c - (i + (n - j))) (by omega) (λt ht => hs1 _ (by rw [ygq] at ht; omega)) (λt _ => hf1 _) (zPos_one _)
    exact this
  obtain ⟨W2, hW2⟩ : ∃ W2, W2 = W1.setCells g ((i + (n - j)) * 3) (Builtin.zeroCells zPos.cells (n - (i + (n - j)))).toList := ⟨_, rfl⟩
  have X : Hid (W1 = w.drew.setCells g (0 + i * 3) news) := hW1
  have mixed := zwq
  have hic : i ≤ c := by omega
  have hjc : j ≤ c := by omega
  rw [← hW1, ← hW2]
  rw [← hW2] at hcl
  clear hW1 hW2 hs1 hf1 hall hget hnews hlen hc hf h1 hl
  go_enter Tryz.func263, Tryz.ntmps263
  go_wp2_with fail
  go_region_law_o (refine step_append_room rfl (.tmp 22) (.tmp 25) 29 rfl 50 i0 3 undPos hi0 hz1 g 0 i c (by simp [Act.eval, Act.put]) A (n - j) (c - j) news (by simp [Act.eval, Act.put]) s1.out hsrc.out s2.out (by omega) s3.out ?_; rw [← X.out])
  go_wp2
  go_ret
  exact ⟨rfl, rfl⟩
end Go.Proofs.YtllkmncnmlmefaaGreat

namespace Go.Vc
open Go Go.RowKit Go.Lib
theorem zyr{P:Program}(w:World)(tS tR e:TypeId)(ht:P.underlying tS=some (.slice e))(size:Nat)(hz:∀w,(Go.sizeOf e).run P w=.ok size w)
  (a b:Addr) (la ca lb cb:Nat) (hne:a.block≠b.block) (u:Value) (j:Nat) (hc:w.cell? (a.add j)=some u) (cur:Array Value) (eb:TypeId) (hb:w.heap[b.block]?=some (.cells cur eb (0,0))):
  (Extern.SlicesOverlaps.overlaps #[tS,tS] #[tR] #[.slice (some a) la ca,.slice (some b) lb cb]).run P w=.ok (.bool false) w:=by
 have hnb:(a.block != b.block)=true:=by simpa using hne
 have hnb':(a.block==b.block)=false:=by simpa using hne
 obtain⟨ca',ea,fa,ha,h0⟩:∃ca' ea fa,w.heap[a.block]?=some (.cells ca' ea fa)∧0<ca'.size:=by
  unfold World.cell? at hc
  rw[zbs]at hc
  split at hc
  ·rename_i c e f h
   refine⟨c,e,f,h,?_⟩
   split at hc
   ·cases hc
   ·have:=(Array.getElem?_eq_some_iff.1 hc).1; omega
  ·cases hc
 have hsa:w.shape? a.block=some (ea,ca'.size):=by simp[World.shape?,ha]
 have hsb:w.shape? b.block=some (eb,cur.size):=by simp[World.shape?,hb]
 have hfb:w.frozen? b=false:=by simp[World.frozen?,hb]
 have hfb2:w.frozen? { block:=b.block,off:=cur.size }=false:=by simp[World.frozen?,hb]
 change Sem.run P (α:=Value) (do
  let some t:=(#[tS,tS]:Array TypeId)[0]? | stuck "slices.overlaps: no parameter types"
  let .slice elem ←underlying t|stuck "slices.overlaps: slice type expected"
  let size ←sizeOf elem
  match (some a:Option Addr),(some b:Option Addr) with
  |some a,some b=>
   if la=0∨lb=0∨size=0 then pure (Value.bool false)
   else if a.block != b.block&&(←frozen a)&&(←frozen b) then unsupported .addressObserved
   else do
    if a.block != b.block then do
     noView a; noView b
     if ←mayBeOne a b then return Value.bool ((←choose (.extern "sameAddr.stringBytes" 2))==1)
    pure (Value.bool (a.block==b.block&&a.off<b.off+lb*size&&b.off<a.off+la*size))
  |_,_=>pure (Value.bool false)) w=_
 by_cases h0':la=0∨lb=0∨size=0
 ·simp[run_underlying ht,hz,h0']
 ·obtain⟨k,hk⟩:∃k,ca'.size=k+1:=⟨ca'.size - 1,by omega⟩
  rw[hk]at hsa
  cases hfa:w.frozen? a<;>cases hfa2:w.frozen? { block:=a.block,off:=k+1 }<;>
   simp[run_underlying ht,hz,h0',hnb,hnb',frozen,noView,viewAt,mayBeOne,stringish,shape,Sem.run,hsa,hsb,hfa,hfb,hfa2,hfb2]
theorem zgi{P:Program}(w:World)(dT sT ty elem:TypeId)(i0:TypeInfo)(b o dLen dCap:Nat)(a:Addr)(sLen sCap:Nat)(cs:List Value)
  (hu:P.underlying dT=some (.slice elem)) (hs:P.info? elem=some i0) (m:Nat) (hm:m=Nat.min sLen dLen) (hn:cs.length=m*i0.size)
  (hsrc:∀j v,cs[j]?=some v→w.cell? (a.add j)=some v) (hc:∀j,j<cs.length→(w.cell? ⟨b,o+j,none⟩).isSome=true) (hf:∀j,j<cs.length→w.frozen? ⟨b,o+j,none⟩=false) (h1:∀v∈cs,v.oneCell'=true):
  (Builtin.copy_ #[dT,sT] ty #[.slice (some ⟨b,o,none⟩) dLen dCap,.slice (some a) sLen sCap]).run P w=.ok (goInt m) (w.setCells b o cs):=by
 have hl:=run_loadCells_list (P:=P) w a cs hsrc
 have hst:=run_storeCells_cells (P:=P) b o cs 0 w (by simpa using hc) (by simpa using hf) h1
 subst hm
 simp[Builtin.copy_,run_underlying hu,Builtin.lenOf,Builtin.firstCells,sizeOf,typeInfo,hs,←hn,hl,hst]
end Go.Vc
namespace Go.Proofs.YtllkmncnmlmefaaGreat
open Go Go.Vc Go.RowKit Go.Lib Go.Sort Go.Proofs
theorem szPos(w:World):(Go.sizeOf 50).run Tryz.prog w=.ok 3 w:=by kernel_rfl
set_option maxHeartbeats 4000000 in
set_option maxRecDepth 1000000 in
theorem ynn(g n c:Nat)(x:Addr)(vc:Nat)(vs:List Value)(w:World)(hroom:n+1≤c)(hm:c≤9223372036854775807)(hvl:vs.length=3)
  (hsp:∀t,t<c*3→(w.cell? ⟨g,t,none⟩).isSome=true) (hf:∀t,w.frozen? ⟨g,t,none⟩=false) (hvs:∀t u,vs[t]?=some u→w.cell? (x.add t)=some u) (h1v:∀u∈vs,u.oneCell'=true):
  Calls Tryz.prog 264 #[.slice (some ⟨g,0,none⟩) n c,.int .i64 n,.slice (some x) 1 vc] w λe w'=>e=.returned (.slice (some ⟨g,0,none⟩) (n+1) c)∧w'=w.setCells g (n*3) vs:=by
 obtain⟨i0,z0,hi0,hz0,hz1,hby,hzs⟩:=znz.info
 have mixed:=zwq
 have hrun:∀ty,(Builtin.append_ #[29,29] ty #[.slice (some ⟨g,0,none⟩) n c,.slice (some x) 1 vc]).run Tryz.prog w=.ok (.slice (some ⟨g,0,none⟩) (n+1) c) (w.setCells g (n*3) vs):=λty=>by
  have:=run_append_room_cells (P:=Tryz.prog) (w:=w) 29 ty 50 i0 undPos hi0 g 0 n c x 1 vc vs (by rw[hvl,hz1]) hvs h1v hroom (λt ht=>hsp _ (by rw[hz1]; omega)) (λt _=>hf _)
  rwa [hz1,Nat.zero_add]at this
 obtain⟨W2,hW2⟩:∃W2,W2=w.setCells g (n*3) vs:=⟨_,rfl⟩
 rw[←hW2]at hrun ⊢
 clear hW2 hsp hf hvs h1v hvl
 go_enter Tryz.func264,Tryz.ntmps264
 go_wp2_with (at_builtin; refine Lib.wpList_append_run _ rfl _ _ _ _ rfl _ _ rfl rfl _ _ (hrun _) ?_)
 go_ret
 exact⟨rfl,rfl⟩
end Go.Proofs.YtllkmncnmlmefaaGreat

namespace Go.Vc
open Go Go.RowKit Go.Lib
theorem yle(w:World){P:Program}{o:Oper}{a:Act}{K:Act→World→Prop}{Q:Exit→Act→World→Prop}(d s:Operand)(t t':TypeId)
  (ho:o.op=.call { callee:=.builtin .copy,args := #[d,s],argTypes := #[t,t'] }) (v u:Value) (hd:a.eval d=v) (hs:a.eval s=u) {v':Value} {w':World}
  (hr:(Builtin.copy_ #[t,t'] o.type #[v,u]).run P w=.ok v' w') (h:K (a.put o.dst v') w'):o.wp P a w K Q:=by
 unfold Oper.wp execOp
 simp only[ho,resolve,invoke,builtin,Sem.run_bind,Sem.run_pure,Result.andThen_ok,List.map_toArray,List.map_cons,List.map_nil,hd,hs,hr]
 exact h
theorem zgf(w:World){P:Program}{ops:Array Oper}{rest:List Oper}{o:Oper}{a:Act}{Q:Exit→Act→World→Prop}(hgd:o.guard=none)(d s:Operand)(t t':TypeId)
  (ho:o.op=.call { callee:=.builtin .copy,args := #[d,s],argTypes := #[t,t'] }) (v u:Value) (hd:a.eval d=v) (hs:a.eval s=u) {v':Value} {w':World}
  (hr:(Builtin.copy_ #[t,t'] o.type #[v,u]).run P w=.ok v' w') (h:wpList P ops Q rest (a.put o.dst v') w'):wpList P ops Q (o::rest) a w:=
 wpList_plain hgd λ_ hK=>yle w d s t t' ho v u hd hs hr (hK _ _ h)
theorem zre{P:Program}{ops:Array Oper}{o:Oper}{a:Act}{w:World}{K:Act→World→Prop}{Q:Exit→Act→World→Prop}{E:Prop}
  (hg:o.guard=none) (d x:Operand) (dT sT:TypeId) (hop:o.op=Op.call { callee:=Callee.builtin Builtin.copy,args := #[d,x],argTypes := #[dT,sT] })
  (v u:Value) (hd:a.eval d=v) (hx:a.eval x=u) {v':Value} {w':World} (hr:(Builtin.copy_ #[dT,sT] o.type #[v,u]).run P w=.ok v' w') (hK:K (a.put o.dst v') w'):
  if Region.wanted o (yielded ops a.tmps)=true then Oper.wp P o a w K Q else E:=by
 have hw:Region.wanted o (yielded ops a.tmps)=true:=by simp[Region.wanted,hg]
 rw[if_pos hw]
 unfold Oper.wp
 simp[execOp,hop,resolve,invoke,builtin,hd,hx,hr,Result.andThen]
 exact hK
end Go.Vc
namespace Go.Proofs.YtllkmncnmlmefaaGreat
open Go Go.Vc Go.RowKit Go.Lib Go.Sort Go.Proofs
set_option maxHeartbeats 4000000 in
set_option maxRecDepth 1000000 in
theorem ins_shift(g n c i:Nat)(x:Addr)(vc:Nat)(us vs:List Value)(cur:Array Value)(eb:TypeId)(w:World)(hi:i<n)(hroom:n+1≤c)(hm:c≤9223372036854775807)(hul:us.length=n*3)(hvl:vs.length=3)
  (hg:w.heap[g]?=some (.cells cur eb (0,0))) (hx:x.block≠g) (hc:∀t u,us[t]?=some u→w.cell? ⟨g,t,none⟩=some u) (h1:∀u∈us,u.oneCell'=true)
  (hsp:∀t,t<c*3→(w.cell? ⟨g,t,none⟩).isSome=true) (hf:∀t,w.frozen? ⟨g,t,none⟩=false) (hvs:∀t u,vs[t]?=some u→w.cell? (x.add t)=some u) (h1v:∀u∈vs,u.oneCell'=true):
  Calls Tryz.prog 264 #[.slice (some ⟨g,0,none⟩) n c,.int .i64 i,.slice (some x) 1 vc] w λe w'=>e=.returned (.slice (some ⟨g,0,none⟩) (n+1) c)∧
   w'=(w.drew.setCells g ((i+1)*3) (us.drop (i*3))).setCells g (i*3) vs:=by
 obtain⟨i0,z0,hi0,hz0,hz1,hby,hzs⟩:=znz.info
 have mixed:=zwq
 obtain⟨u0,hu0⟩:∃u,vs[0]?=some u:=⟨vs[0],List.getElem?_eq_getElem (by omega)⟩
 have hov:∀lb cb,(callFunc 344 #[.slice (some x) 1 vc,.slice (some ⟨g,(i+1)*3,none⟩) lb cb]).run Tryz.prog w=.ok (.value (.bool false)) w:=λlb cb=>by
  rw[run_callFunc_extern Tryz.func344 (by kernel_rfl) (by kernel_rfl) (by kernel_rfl) (e:=Extern.SlicesOverlaps.overlaps #[29,29] #[4]) (by kernel_rfl),
   zyr w 29 4 50 undPos 3 szPos x ⟨g,(i+1)*3,none⟩ 1 vc lb cb hx u0 0 (hvs 0 u0 hu0) cur eb hg]
  rfl
 have hdl:(us.drop (i*3)).length=(n - i)*3:=by rw[List.length_drop,hul,Nat.sub_mul]
 have hcp1:∀ty dc sc,(Builtin.copy_ #[29,29] ty #[.slice (some ⟨g,(i+1)*3,none⟩) (n - i) dc,.slice (some ⟨g,i*3,none⟩) (n+1 - i) sc]).run Tryz.prog w.drew=.ok (goInt (n - i:Nat)) (w.drew.setCells g ((i+1)*3) (us.drop (i*3))):=λty dc sc=>
  zgi w.drew 29 29 ty 50 i0 g ((i+1)*3) (n - i) dc ⟨g,i*3,none⟩ (n+1 - i) sc (us.drop (i*3)) undPos hi0 (n - i) (by simp only[Nat.min_def]; split<;>omega) (by rw[hdl,hz1])
   (λt v ht=>by rw[Addr.add_lit]; exact hc _ v (by rwa [List.getElem?_drop]at ht))
   (λt ht=>hsp _ (by omega)) (λt _=>hf _) (λv hv=>h1 v (List.mem_of_mem_drop hv))
 obtain⟨W1,hW1⟩:∃W1,W1=w.drew.setCells g ((i+1)*3) (us.drop (i*3)):=⟨_,rfl⟩
 have hsp1:∀t,t<c*3→(W1.cell? ⟨g,t,none⟩).isSome=true:=λt ht=>by
  rw[hW1]
  exact zev g _ _ w.drew (λt ht=>hsp _ (by omega)) _ (hsp t ht)
 obtain⟨W2,hW2⟩:∃W2,W2=W1.setCells g (i*3) vs:=⟨_,rfl⟩
 have hcp2:∀ty dc,(Builtin.copy_ #[29,29] ty #[.slice (some ⟨g,i*3,none⟩) (n+1 - i) dc,.slice (some x) 1 vc]).run Tryz.prog W1=.ok (goInt (1:Nat)) W2:=λty dc=>by
  rw[hW2]
  exact zgi W1 29 29 ty 50 i0 g (i*3) (n+1 - i) dc x 1 vc vs undPos hi0 1 (by simp only[Nat.min_def]; split<;>omega) (by rw[hvl,hz1])
   (λt v ht=>by
    rw[hW1,World.cell?_setCells_out g _ _ _ _ (λh _=>absurd (by rwa [zbs]at h) hx)]
    exact hvs t v ht)
   (λt ht=>hsp1 _ (by omega)) (λt _=>by rw[hW1,World.frozen?_setCells]; exact hf _) h1v
 rw[←hW1,←hW2]
 rw[←hW1]at hcp1
 have hw1:IntKind.i64.wrap ((i:Int)+1)=(i:Int)+1:=by rw[IntKind.wrap_i64]; omega
 have hw2:IntKind.i64.wrap ((n:Int)+1)=(n:Int)+1:=by rw[IntKind.wrap_i64]; omega
 have hb1:(0:Int)≤(i:Int)+1:=by omega
 have hb5:(0:Int)≤(n:Int)+1:=by omega
 have htn:((i:Int)+1).toNat=i+1:=by omega
 have htn2:((n:Int)+1).toNat=n+1:=by omega
 have hb3:(i:Int)≤(n:Int)+1:=by omega
 have hb6:(i:Int)+1≤(n:Int)+1:=by omega
 have hb7:i≤n:=by omega
 have hb2:¬(c=i+1):=by omega
 have hb4:¬(c=i):=by omega
 have hz2:¬((i:Int)=(n:Int)):=by omega
 clear hW1 hW2 hsp1 hsp hf hvs h1v hc h1 hdl hu0 hvl hul
 go_enter Tryz.func264,Tryz.ntmps264
 go_wp2_with (simp only[hov])
 go_region_law_o (refine zre rfl _ _ 29 29 rfl _ _ (by simp[Act.eval,Act.put]) (by simp[Act.eval,Act.put]) (hcp1 _ _ _) ?_)
 go_wp2_with (at_builtin; refine zgf _ rfl _ _ 29 29 rfl _ _ rfl rfl (hcp2 _ _) ?_)
 go_ret
 exact⟨rfl,rfl⟩
end Go.Proofs.YtllkmncnmlmefaaGreat

namespace Go.Proofs.YtllkmncnmlmefaaGreat
open Go Go.Vc Go.RowKit Go.Lib Go.Sort Go.Proofs
theorem z0Pos{i0:TypeInfo}(h:Tryz.prog.info? 50=some i0):i0.zero=some zPos:=by
 have e:(Tryz.prog.info? 50).bind (λi=>i.zero)=some zPos:=by kernel_rfl
 rw[h]at e; exact e
set_option maxHeartbeats 4000000 in
set_option maxRecDepth 1000000 in
theorem yno(a:Option Addr)(n c:Nat)(x:Addr)(vc:Nat)(us vs:List Value)(w:World)(hroom:c<n+1)(hn:n≤c)(hbig:(n+1)*40≤140737488355328)(hul:us.length=n*3)(hvl:vs.length=3)
  (hnil:a=none→n=0) (hsp:∀b,a=some b→b.spot=none) (hc:∀b,a=some b→∀t u,us[t]?=some u→w.cell? (b.add t)=some u)
  (hvs:∀t u,vs[t]?=some u→w.cell? (x.add t)=some u) (h1v:∀u∈vs,u.oneCell'=true):
  Calls Tryz.prog 264 #[.slice a n c,.int .i64 n,.slice (some x) 1 vc] w λe w'=>e=.returned (.slice (some ⟨w.heap.size,0,none⟩) (n+1) (grownCap w (n+1) c 50))∧
   w'=w.drew.alloc (.cells ((us++vs).toArray++Builtin.zeroCells zPos.cells (grownCap w (n+1) c 50 - (n+1))) 50):=by
 obtain⟨i0,z0,hi0,hz0,hz1,hby,hzs⟩:=znz.info
 have mixed:=zwq
 have hsrc:Src Tryz.prog i0.size 29 (.slice (some x) 1 vc) 1 vs w:=by
  rw[hz1]
  exact Src.ofSlice w undPos x 1 vc vs (by omega) hvs h1v
 have hold:(Builtin.firstCells i0.size n (.slice a n c)).run Tryz.prog w.drew=.ok us.toArray w.drew:=by
  rw[hz1]
  cases a with
  |none=>
   have h0:=hnil rfl
   subst h0
   rw[List.length_eq_zero_iff.1 (by omega:us.length=0)]
   exact run_firstCells_none w.drew 3 0 0 c
  |some b=>exact run_firstCells_some w.drew 3 n b n c us hul (λj v hj=>hc b rfl j v hj)
 have hrun:∀ty,(Builtin.append_ #[29,29] ty #[.slice a n c,.slice (some x) 1 vc]).run Tryz.prog w=_:=λty=>
  run_append_grow_src w 29 29 ty 50 i0 zPos undPos hi0 (z0Pos hi0) a n c us hold (.slice (some x) 1 vc) 1 vs hsrc hroom (by omega) (by rw[hby]; exact growslice_fits hroom hbig)
 obtain⟨W2,hW2⟩:∃W2,W2=w.drew.alloc (.cells ((us++vs).toArray++Builtin.zeroCells zPos.cells (grownCap w (n+1) c 50 - (n+1))) 50):=⟨_,rfl⟩
 obtain⟨C,hC⟩:∃C,C=grownCap w (n+1) c 50:=⟨_,rfl⟩
 rw[←hW2,←hC]at hrun
 rw[←hW2,←hC]
 clear hW2 hC hc hvs h1v hvl hul hold hsrc
 cases a with
 |none=>
  have h0:=hnil rfl
  subst h0
  go_enter Tryz.func264,Tryz.ntmps264
  go_wp2_with (at_builtin; refine Lib.wpList_append_run _ rfl _ _ _ _ rfl _ _ rfl rfl _ _ (hrun _) ?_)
  go_ret
  exact⟨rfl,rfl⟩
 |some b=>
  obtain⟨ab,ao,asp⟩:=b
  have:=hsp _ rfl
  simp only at this
  subst this
  go_enter Tryz.func264,Tryz.ntmps264
  go_wp2_with (at_builtin; refine Lib.wpList_append_run _ rfl _ _ _ _ rfl _ _ rfl rfl _ _ (hrun _) ?_)
  all_goals (go_ret; exact⟨rfl,rfl⟩)
set_option maxHeartbeats 4000000 in
set_option maxRecDepth 1000000 in
theorem ins_grow(g n c i:Nat)(x:Addr)(vc:Nat)(us vs:List Value)(w:World)(hi:i<n)(hroom:c<n+1)(hn:n≤c)(hm:c≤9223372036854775807)(hbig:(n+1)*40≤140737488355328)(hul:us.length=n*3)(hvl:vs.length=3)
  (hc:∀t u,us[t]?=some u→w.cell? ⟨g,t,none⟩=some u) (h1:∀u∈us,u.oneCell'=true) (hvs:∀t u,vs[t]?=some u→w.cell? (x.add t)=some u) (h1v:∀u∈vs,u.oneCell'=true):
  Calls Tryz.prog 264 #[.slice (some ⟨g,0,none⟩) n c,.int .i64 i,.slice (some x) 1 vc] w λe w'=>e=.returned (.slice (some ⟨w.heap.size,0,none⟩) (n+1) (grownCap w (n+1) c 50))∧
   w'=(((w.alloc (.cells ((us.take (i*3)).toArray++Builtin.zeroCells zPos.cells (n+1 - i)++Builtin.zeroCells zPos.cells (grownCap w (n+1) c 50 - (n+1))) 50)).drew.setCells w.heap.size (i*3) vs).drew).setCells w.heap.size ((i+1)*3) (us.drop (i*3)):=by
 obtain⟨i0,z0,hi0,hz0,hz1,hby,hzs⟩:=znz.info
 have mixed:=zwq
 have hbw:g<w.heap.size:=block_lt_of_cell (hc 0 _ (List.getElem?_eq_getElem (by omega)))
 have hxw:x.block<w.heap.size:=by have:=block_lt_of_cell (hvs 0 _ (List.getElem?_eq_getElem (by omega))); rwa [zbs]at this
 have htl:(us.take (i*3)).length=i*3:=by rw[List.length_take,hul]; omega
 have hold:(Builtin.firstCells i0.size i (.slice (some ⟨g,0,none⟩) i c)).run Tryz.prog w.drew=.ok (us.take (i*3)).toArray w.drew:=by
  rw[hz1]
  exact run_firstCells_some w.drew 3 i ⟨g,0,none⟩ i c (us.take (i*3)) htl (λj v hj=>by
   rw[Addr.add_lit,Nat.zero_add]
   rw[List.getElem?_take]at hj
   split at hj
   ·exact hc j v hj
   ·cases hj)
 have hkk:(n:Int)+1 - (i:Int)=((n+1 - i:Nat):Int):=by omega
 have hik:i+(n+1 - i)=n+1:=by omega
 have hrz:∀ty,(Builtin.append_ #[29,3] ty #[.slice (some ⟨g,0,none⟩) i c,.int .i64 ((n:Int)+1 - (i:Int))]).run Tryz.prog w=
   .ok (.slice (some ⟨w.heap.size,0,none⟩) (n+1) (grownCap w (n+1) c 50)) (w.drew.alloc (.cells ((us.take (i*3)).toArray++Builtin.zeroCells zPos.cells (n+1 - i)++Builtin.zeroCells zPos.cells (grownCap w (n+1) c 50 - (n+1))) 50)):=λty=>by
  have h:=Lib.run_append_grow_zeros w 29 3 ty 50 i0 zPos .i64 .i64 undPos und3 hi0 (z0Pos hi0) (some ⟨g,0,none⟩) i c (us.take (i*3)) hold (n+1 - i) (by omega) (by omega) (by omega) (by omega) (by rw[hby]; omega) (by rw[hby,hik]; exact growslice_fits hroom hbig)
  rw[hik]at h
  rw[hkk]
  exact h
 obtain⟨G,hG⟩:∃G,G=grownCap w (n+1) c 50:=⟨_,rfl⟩
 obtain⟨ROW,hROW⟩:∃ROW:Array Value,ROW=(us.take (i*3)).toArray++Builtin.zeroCells zPos.cells (n+1 - i)++Builtin.zeroCells zPos.cells (G - (n+1)):=⟨_,rfl⟩
 rw[←hG]at hrz ⊢
 rw[←hROW]at hrz ⊢
 have hzl:∀m:Nat,(Builtin.zeroCells zPos.cells m).size=m*3:=λm=>by have:=ygq m; simpa using this
 have hRl:(n+1)*3≤ROW.size:=by
  rw[hROW,Array.size_append,Array.size_append,hzl,hzl,List.size_toArray,htl]
  omega
 obtain⟨W1,hW1⟩:∃W1,W1=w.drew.alloc (.cells ROW 50):=⟨_,rfl⟩
 rw[←hW1]at hrz
 have hN:∀j,j<(n+1)*3→(W1.cell? ⟨w.heap.size,j,none⟩).isSome=true:=λj hj=>by
  rw[hW1,World.cell?_alloc_at (w:=w.drew) ROW _ w.heap.size j rfl,Array.getElem?_eq_getElem (by omega)]; rfl
 have hNf:∀j,W1.frozen? ⟨w.heap.size,j,none⟩=false:=λj=>by rw[hW1]; exact World.frozen?_alloc_at (w:=w.drew) ROW _ w.heap.size j rfl
 have hOb:∀j v,w.cell? ⟨g,j,none⟩=some v→W1.cell? ⟨g,j,none⟩=some v:=λj v h=>by rw[hW1,World.cell?_alloc_past (w:=w.drew) _ g j hbw]; exact h
 have hOv:∀j v,w.cell? (x.add j)=some v→W1.cell? (x.add j)=some v:=λj v h=>by
  rw[hW1]
  refine(World.cell?_of_block ?_).trans h
  rw[zbs]
  exact zcm w.drew _ x.block hxw
 have hdl:(us.drop (i*3)).length=(n - i)*3:=by rw[List.length_drop,hul,Nat.sub_mul]
 have hcpA:∀(W:World),(∀x,W.cell? x=W1.cell? x)→(∀x,W.frozen? x=W1.frozen? x)→∀ty dc,(Builtin.copy_ #[29,29] ty #[.slice (some ⟨w.heap.size,i*3,none⟩) (n+1 - i) dc,.slice (some x) 1 vc]).run Tryz.prog W=.ok (goInt (1:Nat)) (W.setCells w.heap.size (i*3) vs):=λW hWc hWf ty dc=>
  zgi W 29 29 ty 50 i0 w.heap.size (i*3) (n+1 - i) dc x 1 vc vs undPos hi0 1 (by simp only[Nat.min_def]; split<;>omega) (by rw[hvl,hz1])
   (λj v hj=>by rw[hWc]; exact hOv _ v (hvs j v hj))
   (λj hj=>by rw[hWc]; exact hN _ (by omega)) (λj hj=>by rw[hWf]; exact hNf _) h1v
 have hGn:n+1≤G:=by rw[hG]; exact grownCap_ge w _ _ _
 have hG63:G≤9223372036854775807:=by
  have:=grownCap_le_maxLen w (n+1) c 50 (by unfold maxLen; omega)
  rw[←hG]at this
  unfold maxLen at this
  omega
 have hGi:¬(G=i):=by omega
 have hGim:¬(G=i+1):=by omega
 have hci:¬(c=i):=by omega
 have hbN:g≠w.heap.size:=by omega
 have hcpB:∀(W:World),(∀x,W.cell? x=(W1.setCells w.heap.size (i*3) vs).cell? x)→(∀x,W.frozen? x=(W1.setCells w.heap.size (i*3) vs).frozen? x)→∀ty dc sc,(Builtin.copy_ #[29,29] ty #[.slice (some ⟨w.heap.size,(i+1)*3,none⟩) (n - i) dc,.slice (some ⟨g,i*3,none⟩) (n - i) sc]).run Tryz.prog W=.ok (goInt (n - i:Nat)) (W.setCells w.heap.size ((i+1)*3) (us.drop (i*3))):=λW hWc hWf ty dc sc=>
  zgi W 29 29 ty 50 i0 w.heap.size ((i+1)*3) (n - i) dc ⟨g,i*3,none⟩ (n - i) sc (us.drop (i*3)) undPos hi0 (n - i) (by simp only[Nat.min_def]; split<;>omega) (by rw[hdl,hz1])
   (λj v hj=>by
    rw[Addr.add_lit,hWc,World.cell?_setCells_out _ _ _ _ _ (λh _=>absurd h hbN)]
    exact hOb _ v (hc (i*3+j) v (by rwa [List.getElem?_drop]at hj)))
   (λj hj=>by rw[hWc]; exact zev _ _ _ _ (λt ht=>hN _ (by omega)) _ (hN _ (by omega)))
   (λj hj=>by rw[hWf,World.frozen?_setCells]; exact hNf _) (λv hv=>h1 v (List.mem_of_mem_drop hv))
 subst hW1
 have hE1:∀x,((w.alloc (.cells ROW 50)).drew).cell? x=(w.drew.alloc (.cells ROW 50)).cell? x:=λx=>rfl
 have hE2:∀x,((w.alloc (.cells ROW 50)).drew).frozen? x=(w.drew.alloc (.cells ROW 50)).frozen? x:=λx=>rfl
 have hF1:∀x,(((w.alloc (.cells ROW 50)).drew.setCells w.heap.size (i*3) vs).drew).cell? x=((w.drew.alloc (.cells ROW 50)).setCells w.heap.size (i*3) vs).cell? x:=λx=>rfl
 have hF2:∀x,(((w.alloc (.cells ROW 50)).drew.setCells w.heap.size (i*3) vs).drew).frozen? x=((w.drew.alloc (.cells ROW 50)).setCells w.heap.size (i*3) vs).frozen? x:=λx=>rfl
 have hw1:IntKind.i64.wrap ((i:Int)+1)=(i:Int)+1:=by rw[IntKind.wrap_i64]; omega
 have hb1:(0:Int)≤(i:Int)+1:=by omega
 have htn:((i:Int)+1).toNat=i+1:=by omega
 have hb3:(i:Int)≤(n:Int)+1:=by omega
 have hb6:(i:Int)+1≤(n:Int)+1:=by omega
 have hin:i≤n:=by omega
 have hz2:¬((i:Int)=(n:Int)):=by omega
 have hz3:(c:Int)<(n:Int)+1:=by omega
 clear hkk hik hold hROW hG hRl hc hvs h1 h1v hOb hOv hN hNf hzl htl hdl hvl hul
 go_enter Tryz.func264,Tryz.ntmps264
 go_wp2_with (first
  |(at_builtin; refine Lib.wpList_append_run _ rfl _ _ _ _ rfl _ _ rfl rfl _ _ (hrz _) ?_)
  |(at_builtin; refine zgf _ rfl _ _ 29 29 rfl _ _ rfl rfl (hcpA _ hE1 hE2 _ _) ?_)
  |(at_builtin; refine zgf _ rfl _ _ 29 29 rfl _ _ rfl rfl (hcpB _ (λ_=>rfl) (λ_=>rfl) _ _ _) ?_))
 go_region_law_o (refine zre rfl _ _ 29 29 rfl (.slice (some ⟨w.heap.size,(i+1)*3,none⟩) (n - i) (G - (i+1))) (.slice (some ⟨g,i*3,none⟩) (n - i) (c - i)) (by simp[Act.eval,Act.put]) (by simp[Act.eval,Act.put]) (hcpB _ hF1 hF2 3 (G - (i+1)) (c - i)) ?_)
 go_wp2
 go_ret
 exact⟨rfl,rfl⟩
end Go.Proofs.YtllkmncnmlmefaaGreat
namespace Go.Vc
open Go Go.RowKit
def DT.okD:(t:DT)→t.den→Prop
 | .int k,n=>(Lit.int k n).wf=true
 | .bool,_=>True
 | .str,s=>s.size≤maxLen
 | .slc t,l=>(∀x∈l,t.okD x)∧l.length≤maxLen
 | .unit,_=>True
 | .pair a b,x=>a.okD x.1∧b.okD x.2
theorem wf_i64{n:Int}(h:(Lit.int .i64 n).wf=true) : -9223372036854775808≤n∧n≤9223372036854775807:=by
 simp[Lit.wf,IntKind.min,IntKind.max,IntKind.signed,IntKind.bits]at h; omega
theorem Ctx.turn2{V w w':World}{U0:Nat→Prop}{L bs:List Nat}{o o':Own}{os:List Own}{G:List (Value×R)}(H:Ctx V U0 L bs (o::os) G w)(hb:∀b∈bs,b<w.heap.size)
  (h1:w'.os=w.os) (h2:w'.tape=w.tape) (h3:w'.output=w.output) (h4:w.heap.size≤w'.heap.size) (h5:∀b,b<w.heap.size→b∉o.bl→w'.heap[b]?=w.heap[b]?)
  (h6:∀b∈o'.bl,w.heap.size≤b∨b∈o.bl) (h7:o'.bl.Nodup) (h8:Later (Us U0 bs (o::os)) (Us U0 bs (o'::os)) w w'→o'.h (Us U0 bs (o'::os)) w'):Ctx V U0 L bs (o'::os) G w':=by
 have hol:∀b∈o.bl,b<w.heap.size:=λb hb=>H.ltOwn (by rw[ownBl]; exact List.mem_append.2 (.inl hb))
 have hos:∀b∈ownBl os,b<w.heap.size:=λb hb=>H.ltOwn (by rw[ownBl]; exact List.mem_append.2 (.inr hb))
 have hnd:=List.nodup_append.1 H.nd
 have hnd2:=List.nodup_append.1 (show (o.bl++ownBl os).Nodup from hnd.2.1)
 have l:Later (Us U0 bs (o::os)) (Us U0 bs (o'::os)) w w':=by
  refine⟨λb hb hn=>h5 b hb λhm=>hn (.inr (.inr (by rw[ownBl]; exact List.mem_append.2 (.inl hm)))),h4,λb hb h=>?_⟩
  rcases h with h|h|h
  ·exact .inl h
  ·exact .inr (.inl h)
  ·rw[ownBl]at h
   rcases List.mem_append.1 h with h|h
   ·rcases h6 b h with h'|h'
    ·omega
    ·exact .inr (.inr (by rw[ownBl]; exact List.mem_append.2 (.inl h')))
   ·exact .inr (.inr (by rw[ownBl]; exact List.mem_append.2 (.inr h)))
 refine⟨h1.trans H.os_,h2.trans H.tape,h3.trans H.output,Nat.le_trans H.size h4,λb hb hL=>?_,H.low,λb hb=>?_,H.u0,?_,λx hx=>?_,H.facts.mono l⟩
 ·rw[h5 b (Nat.lt_of_lt_of_le hb H.size) λhm=>?_]
  ·exact H.same b hb hL
  ·rcases H.lowo b (by rw[ownBl]; exact List.mem_append.2 (.inl hm)) with h|h
   ·omega
   ·exact hL h
 ·rw[ownBl]at hb
  rcases List.mem_append.1 hb with hb|hb
  ·rcases h6 b hb with h|h
   ·exact .inl (Nat.le_trans H.size h)
   ·exact H.lowo b (by rw[ownBl]; exact List.mem_append.2 (.inl h))
  ·exact H.lowo b (by rw[ownBl]; exact List.mem_append.2 (.inr hb))
 ·show (bs++(o'.bl++ownBl os)).Nodup
  refine List.nodup_append.2 ⟨hnd.1,List.nodup_append.2 ⟨h7,hnd2.2.1,λx hx y hy e=>?_⟩,λx hx y hy e=>?_⟩
  ·subst e
   rcases h6 x hx with h|h
   ·have:=hos x hy; omega
   ·exact hnd2.2.2 x h x hy rfl
  ·subst e
   rcases List.mem_append.1 hy with hy|hy
   ·rcases h6 x hy with h|h
    ·have:=hb x hx; omega
    ·exact hnd.2.2 x hx x (List.mem_append.2 (.inl h)) rfl
   ·exact hnd.2.2 x hx x (List.mem_append.2 (.inr hy)) rfl
 ·rcases List.mem_cons.1 hx with rfl|hx
  ·exact h8 l
  ·refine x.mono (H.own x (List.mem_cons_of_mem _ hx)) l λb hb=>h5 b (x.lt (H.own x (List.mem_cons_of_mem _ hx)) b hb) λhm=>?_
   exact hnd2.2.2 b hm b (zcv.2 ⟨x,hx,hb⟩) rfl
theorem CtL.one{P:Program}{f:FuncId}{e k:Nat}{els:List (List R)}{las:List LA}{q:QR}(hla:∀{U w vs ars},laH U w [] las vs ars→ars=[])
  (h:∀(U:Nat→Prop) (w:World) (a:Option Addr) (c:Nat) (vs:List Value),Ctx w U (oblk a) [] [Own.row e k a c els] [] w→(∀b∈oblk a,¬U b)→laH (Us U [] [Own.row e k a c els]) w [] las vs []→
   CallsX P f (Value.slice a els.length c::vs).toArray w λv w'=>∃os,Ctx w U (oblk a) [] os [] w'∧q.h (Us U [] os) w' v os):
  CtL P f (.row e k els::las) [] (.q q) []:=by
 intro U w vs bl uss oss ars hbl H hU hlb hl
 have hbl0:bl=[]:=List.eq_nil_of_length_eq_zero (by simpa using hbl)
 subst hbl0
 simp only[lbH]at hlb
 obtain⟨rfl,rfl⟩:=hlb
 simp only[laH]at hl
 obtain⟨v,vs',o,ars',rfl,rfl,ho,hl⟩:=hl
 have h0:=hla hl
 subst h0
 simp only[QR.h]at ho
 obtain⟨a,c,rfl,rfl⟩:=ho
 have e1:objs [] ([]:List LB) []++(([]:List (List Own)).flatten++([Own.row e k a c els]++[]))=[Own.row e k a c els]:=rfl
 have e2:([]:List Nat)++ownBl (([]:List (List Own)).flatten++([Own.row e k a c els]++[]))=oblk a:=by simp[ownBl,Own.row]
 rw[e1]at H hl
 rw[e2]at H hU
 refine(h U w a c vs' H hU hl).mono λv w' ⟨os,H',hq⟩=>⟨[],[],os,?_,⟨rfl,rfl⟩,?_⟩
 ·rw[e2]; simpa[objs]using H'
 ·simpa[objs,lqH]using hq
end Go.Vc
namespace Go.Proofs.YtllkmncnmlmefaaGreat
open Go Go.Vc Go.RowKit Go.Lib
theorem hasBody122:zmy Tryz.prog 263:=⟨_,Tryz.func263,by decide +kernel,rfl⟩
theorem zqn:zmy Tryz.prog 264:=⟨_,Tryz.func264,by decide +kernel,rfl⟩
theorem del_ctL(els:List (List R))(i j:Int)(h0:0≤i)(hij:i<j)(hj:j≤els.length):
  CtL Tryz.prog 263 [.row 50 3 els,.r (.val (.int .i64 i)),.r (.val (.int .i64 j))] [] (.q (.own 50 3 (els.take i.toNat++els.drop j.toNat))) []:=by
 obtain⟨i,rfl⟩:=Int.eq_ofNat_of_zero_le h0
 obtain⟨j,rfl⟩:=Int.eq_ofNat_of_zero_le (by omega:0≤j)
 have hij:i<j:=by omega
 have hj:j≤els.length:=by omega
 simp only[Int.toNat_natCast]
 refine CtL.one (λh=>?_) λU w a c vs H hU hl=>?_
 ·simp only[laH]at h
  obtain⟨_,_,_,_,_,_,_,_,_,h⟩:=h
  exact h
 ·simp only[laH,R.h]at hl
  obtain⟨_,_,rfl,rfl,_,_,rfl,rfl,rfl,_⟩:=hl
  obtain⟨us,ho,hus,h1,hk⟩:=H.own _ (List.mem_singleton.2 rfl)
  obtain⟨hxl,ho⟩:=ho
  rcases ho with ⟨_,hn⟩|⟨g,cap,cur,heq,hbase,hg,hn1,hn2,hn3,hn4⟩
  ·omega
  simp only[Value.slice.injEq]at heq
  obtain⟨rfl,_,rfl⟩:=heq
  have hgl:g<w.heap.size:=(Array.getElem?_eq_some_iff.1 hg).1
  have hc:∀t u,us[t]?=some u→w.cell? ⟨g,t,none⟩=some u:=λt u ht=>by
   have ht':t<us.length:=(List.getElem?_eq_some_iff.1 ht).1
   have e1:(cur.toList.take (els.length*3))[t]?=us[t]?:=by rw[hn4]
   rw[List.getElem?_take_of_lt (by omega),ht,Array.getElem?_toList]at e1
   simp[World.cell?,hg,e1]
  have hf:∀t,w.frozen? ⟨g,t,none⟩=false:=λt=>by simp[World.frozen?,hg]
  have hm:c≤9223372036854775807:=by rw[zap]at hn2; exact hn2
  refine⟨.inl ⟨hasBody122,(del_raw g els.length c i j us w hxl hc h1 hf hij hj hn1 hm).mono λe w' ⟨he,hw⟩=>⟨_,he,?_⟩⟩⟩
  obtain⟨cur1,hg1,hs1⟩:=zjr (o:=0+i*3) (vs:=us.drop (j*3)) (w:=w.drew) hg
  obtain⟨cur2,hg2,hs2⟩:=zjr (o:=(i+(els.length - j))*3) (vs:=(Builtin.zeroCells zPos.cells (els.length - (i+(els.length - j)))).toList) hg1
  obtain⟨a1,a2,a3,a4⟩:=zeq g (0+i*3) (us.drop (j*3)) w.drew
  obtain⟨b1,b2,b3,b4⟩:=zeq g ((i+(els.length - j))*3) (Builtin.zeroCells zPos.cells (els.length - (i+(els.length - j)))).toList (w.drew.setCells g (0+i*3) (us.drop (j*3)))
  have hel:(els.take i++els.drop j).length=i+(els.length - j):=by rw[List.length_append,List.length_take,List.length_drop]; omega
  have hkk:∀l∈els.take i++els.drop j,l.length=3:=λl hl=>(List.mem_append.1 hl).elim (λh=>hk l (List.mem_of_mem_take h)) λh=>hk l (List.mem_of_mem_drop h)
  have hdl:(us.drop (j*3)).length=(els.length - j)*3:=by rw[List.length_drop,hxl,Nat.sub_mul]
  have htl:(us.take (i*3)).length=i*3:=by rw[List.length_take,hxl]; omega
  refine⟨[Own.row 50 3 (some ⟨g,0,none⟩) c (els.take i++els.drop j)],?_,?_⟩
  ·have H0:Ctx w U (oblk (some ⟨g,0,none⟩)) [] (Own.row 50 3 (some ⟨g,0,none⟩) c els::[]) [] w:=H
   rw[hw]
   refine H0.turn2 (by simp) (b1.trans a1) (b2.trans a2) (b3.trans a3) (by rw[b4,a4]; exact Nat.le_refl _) (λb hb hn=>?_) (λb hb=>.inr hb) (by simp[Own.row,oblk]) λl=>?_
   ·have hne:b≠g:=by simpa[Own.row,oblk]using hn
    rw[zii hne,zii hne]; rfl
   ·refine rowH hg2 (by rw[hs2,hs1,hn3]) (xs:=us.take (i*3)++us.drop (j*3)) (λt u ht=>?_) ?_ (λu hu=>(List.mem_append.1 hu).elim (λh=>h1 u (List.mem_of_mem_take h)) λh=>h1 u (List.mem_of_mem_drop h)) hkk ?_ (by omega) hn2
    ·have hlen:t<i*3+(els.length - j)*3:=by have:=(List.getElem?_eq_some_iff.1 ht).1; rw[List.length_append,htl,hdl]at this; exact this
     rw[World.cell?_setCells_out g _ _ _ _ (λ_ _=>by show t<(i+(els.length - j))*3∨_; omega)]
     by_cases h3:t<i*3
     ·rw[List.getElem?_append_left (by omega),List.getElem?_take_of_lt h3]at ht
      rw[World.cell?_setCells_out g _ _ _ _ (λ_ _=>by show t<0+i*3∨_; omega)]
      exact hc t u ht
     ·rw[List.getElem?_append_right (by omega),htl]at ht
      have h4:t - i*3<(us.drop (j*3)).length:=by omega
      have:=World.cell?_setCells_in g (us.drop (j*3)) (0+i*3) w.drew (λq hq=>by
       show (w.cell? _).isSome=true
       rw[hc _ _ (List.getElem?_eq_getElem (by omega))]; rfl) (t - i*3) h4
      rw[show 0+i*3+(t - i*3)=t by omega]at this
      rw[this,←ht,List.getElem?_eq_getElem h4]
    ·rw[List.flatten_append,ydf hk i (by omega),ynw hk j hj]
     exact zda (zbk l _ (zje _ hus)) (zbk l _ (zqa _ hus))
    ·rw[List.length_append,htl,hdl,hel,Nat.add_mul]
  ·simp only[QR.h]
   exact⟨_,_,by rw[hel],rfl⟩
end Go.Proofs.YtllkmncnmlmefaaGreat
namespace Go.Vc
open Go Go.RowKit Go.Lib
theorem ydn{U:Nat→Prop}{w:World}{x:Addr}:∀{rs:List R} {off:Nat},cellsH U w (some x) off rs→∃us,listH U w rs us∧(∀u∈us,u.oneCell'=true)∧∀t u,us[t]?=some u→w.cell? (x.add (off+t))=some u
 |[],off,_=>⟨[],by simp[listH],by simp,by simp⟩
 |r::rs,off,h=>by
  simp only[cellsH]at h
  obtain⟨⟨y,u,hy,_,_,hc,h1,hr⟩,h⟩:=h
  cases hy
  obtain⟨us,h2,h3,h4⟩:=ydn h
  refine⟨u::us,by simp only[listH]; exact⟨u,us,rfl,hr,h2⟩,λv hv=>?_,λt v ht=>?_⟩
  ·rcases List.mem_cons.1 hv with rfl|hv
   ·exact h1
   ·exact h3 v hv
  ·cases t with
   |zero=>simp only[List.getElem?_cons_zero,Option.some.injEq]at ht; subst ht; simpa using hc
   |succ t=>
    have:=h4 t v (by simpa using ht)
    rwa [show off+1+t=off+(t+1) by omega]at this
theorem ybw{W:World}{g i k n:Nat}{us vs:List Value}(hu:us.length=n*k)(hv:vs.length=k)(hi:i≤n)
  (hA:∀t u,t<i*k→us[t]?=some u→W.cell? ⟨g,t,none⟩=some u) (hB:∀t u,vs[t]?=some u→W.cell? ⟨g,i*k+t,none⟩=some u)
  (hC:∀t u,(us.drop (i*k))[t]?=some u→W.cell? ⟨g,(i+1)*k+t,none⟩=some u):
  ∀t u,(us.take (i*k)++(vs++us.drop (i*k)))[t]?=some u→W.cell? ⟨g,t,none⟩=some u:=by
 intro t u ht
 have hik:i*k≤n*k:=Nat.mul_le_mul_right k hi
 have htl:(us.take (i*k)).length=i*k:=by rw[List.length_take,hu]; omega
 by_cases h1:t<i*k
 ·rw[List.getElem?_append_left (by omega),List.getElem?_take_of_lt h1]at ht
  exact hA t u h1 ht
 ·rw[List.getElem?_append_right (by omega),htl]at ht
  by_cases h2:t - i*k<vs.length
  ·rw[List.getElem?_append_left h2]at ht
   have:=hB _ u ht
   rwa [show i*k+(t - i*k)=t by omega]at this
  ·rw[List.getElem?_append_right (by omega)]at ht
   have:=hC _ u ht
   rw[Nat.add_mul,Nat.one_mul,hv]at this
   rwa [show i*k+k+(t - i*k - k)=t by omega]at this
theorem Ctx.putOne{w w':World}{U0:Nat→Prop}{a:Option Addr}{e k c g c' i:Nat}{els:List (List R)}{v:List R}{us vs:List Value}{cur:Array Value}
  (H:Ctx w U0 (oblk a) [] [Own.row e k a c els] [] w) (hus:listH (Us U0 [] [Own.row e k a c els]) w els.flatten us) (h1:∀u∈us,u.oneCell'=true) (hk:∀l∈els,l.length=k)
  (hvs:listH (Us U0 [] [Own.row e k a c els]) w v vs) (h1v:∀u∈vs,u.oneCell'=true) (hv:v.length=k) (hi:i≤els.length)
  (e1:w'.os=w.os) (e2:w'.tape=w.tape) (e3:w'.output=w.output) (e4:w.heap.size≤w'.heap.size) (e5:∀b,b<w.heap.size→b∉oblk a→w'.heap[b]?=w.heap[b]?) (e6:w.heap.size≤g∨g∈oblk a)
  (hg:w'.heap[g]?=some (.cells cur e (0,0))) (hs:cur.size=c'*k) (hc:∀t u,(us.take (i*k)++(vs++us.drop (i*k)))[t]?=some u→w'.cell? ⟨g,t,none⟩=some u) (hn:els.length+1≤c') (hm:c'≤maxLen):
  ∃os,Ctx w U0 (oblk a) [] os [] w'∧(QR.own e k (els.take i++v::els.drop i)).h (Us U0 [] os) w' (.slice (some ⟨g,0,none⟩) (els.length+1) c') os:=by
 have hul:us.length=els.length*k:=by rw[zbf hus,zgm hk]
 have hvl:vs.length=k:=by rw[zbf hvs,hv]
 have hel:(els.take i++v::els.drop i).length=els.length+1:=by rw[List.length_append,List.length_cons,List.length_take,List.length_drop]; omega
 have hkk:∀l∈els.take i++v::els.drop i,l.length=k:=λl hl=>by
  rcases List.mem_append.1 hl with h|h
  ·exact hk l (List.mem_of_mem_take h)
  ·rcases List.mem_cons.1 h with rfl|h
   ·exact hv
   ·exact hk l (List.mem_of_mem_drop h)
 refine⟨[Own.row e k (some ⟨g,0,none⟩) c' (els.take i++v::els.drop i)],?_,?_⟩
 ·have H0:Ctx w U0 (oblk a) [] (Own.row e k a c els::[]) [] w:=H
  refine H0.turn2 (by simp) e1 e2 e3 e4 e5 (λb hb=>?_) (by simp[Own.row,oblk]) λl=>?_
  ·simp only[Own.row,oblk,List.mem_singleton]at hb
   subst hb; exact e6
  ·refine rowH hg hs (xs:=us.take (i*k)++(vs++us.drop (i*k))) hc ?_ (λu hu=>?_) hkk ?_ (by omega) hm
   ·rw[List.flatten_append,List.flatten_cons,ydf hk i hi,ynw hk i hi]
    exact zda (zbk l _ (zje _ hus)) (zda (zbk l _ hvs) (zbk l _ (zqa _ hus)))
   ·rcases List.mem_append.1 hu with h|h
    ·exact h1 u (List.mem_of_mem_take h)
    ·rcases List.mem_append.1 h with h|h
     ·exact h1v u h
     ·exact h1 u (List.mem_of_mem_drop h)
   ·have hik:i*k≤els.length*k:=Nat.mul_le_mul_right k hi
    rw[List.length_append,List.length_append,List.length_take,List.length_drop,hul,hvl,hel,Nat.succ_mul]; omega
 ·simp only[QR.h]
  exact⟨_,_,by rw[hel],rfl⟩
end Go.Vc
namespace Go.Proofs.YtllkmncnmlmefaaGreat
open Go Go.Vc Go.RowKit Go.Lib
theorem ins_ctL(els:List (List R))(v:List R)(i:Int)(h0:0≤i)(hi:i≤els.length)(hv:v.length=3)(hbig:(els.length+1)*40≤140737488355328):
  CtL Tryz.prog 264 [.row 50 3 els,.r (.val (.int .i64 i)),.r (.sl 3 [v])] [] (.q (.own 50 3 (els.take i.toNat++v::els.drop i.toNat))) []:=by
 obtain⟨i,rfl⟩:=Int.eq_ofNat_of_zero_le h0
 have hi:i≤els.length:=by omega
 simp only[Int.toNat_natCast]
 refine CtL.one (λh=>?_) λU w a c vs0 H hU hl=>?_
 ·simp only[laH]at h
  obtain⟨_,_,_,_,_,_,_,_,_,h⟩:=h
  exact h
 ·simp only[laH,R.h]at hl
  obtain⟨_,_,rfl,rfl,_,_,rfl,⟨av,vc,rfl,_,_,hrow⟩,rfl,_⟩:=hl
  simp only[rowsH]at hrow
  obtain⟨_,hcl,_⟩:=hrow
  obtain⟨x,hxU,hxw,hcl⟩:∃x,¬Us U [] [Own.row 50 3 a c els] x.block∧x.block<w.heap.size∧av=some x∧cellsH (Us U [] [Own.row 50 3 a c els]) w (some x) 0 v:=by
   cases v with
   |nil=>simp at hv
   |cons r rs=>
    have hcl2:=hcl
    simp only[cellsH]at hcl
    obtain⟨⟨x,u,rfl,h1,h2,_⟩,_⟩:=hcl
    exact⟨x,h1,h2,rfl,hcl2⟩
  obtain⟨rfl,hcl⟩:=hcl
  obtain⟨vs,hvs,h1v,hcv⟩:=ydn hcl
  simp only[Nat.zero_add]at hcv
  have hvl:vs.length=3:=by rw[zbf hvs,hv]
  obtain⟨us,ho,hus,h1,hk⟩:=H.own _ (List.mem_singleton.2 rfl)
  obtain⟨hxl,ho⟩:=ho
  have hzl:∀m:Nat,(Builtin.zeroCells zPos.cells m).size=m*3:=λm=>by have:=ygq m; simpa using this
  have grow:(∀b,a=some b→b.spot=none)→(a=none→els.length=0)→(∀b,a=some b→∀t u,us[t]?=some u→w.cell? (b.add t)=some u)→els.length≤c→c<els.length+1→i=els.length→
    CallsX Tryz.prog 264 (Value.slice a els.length c::[Value.int .i64 (i:Int),.slice (some x) 1 vc]).toArray w λv_1 w'=>∃os,Ctx w U (oblk a) [] os [] w'∧(QR.own 50 3 (els.take i++v::els.drop i)).h (Us U [] os) w' v_1 os:=by
   intro hsp hnil hc hnc hroom hie
   subst hie
   refine⟨.inl ⟨zqn,(yno a els.length c x vc us vs w hroom hnc hbig hxl hvl hnil hsp hc hcv h1v).mono λe w' ⟨he,hw⟩=>⟨_,he,?_⟩⟩⟩
   have hC:=grownCap_ge w (els.length+1) c 50
   have hC2:=grownCap_le_maxLen w (els.length+1) c 50 (by rw[zap]; omega)
   rw[hw]
   generalize grownCap w (els.length+1) c 50=C at*
   refine Ctx.putOne (us:=us) (vs:=vs) H hus h1 hk hvs h1v hv hi rfl rfl rfl (by simp) (λb hb _=>zcm w.drew _ b hb) (.inl (Nat.le_refl _)) (heap_alloc_new w.drew _) ?_ ?_ hC hC2
   ·rw[Array.size_append,hzl,List.size_toArray,List.length_append,hxl,hvl]; omega
   ·have hcell:∀t u,(us++vs)[t]?=some u→(w.drew.alloc (.cells ((us++vs).toArray++Builtin.zeroCells zPos.cells (C - (els.length+1))) 50)).cell? ⟨w.heap.size,t,none⟩=some u:=λt u ht=>by
     have hlt:=(List.getElem?_eq_some_iff.1 ht).1
     rw[World.cell?_alloc_at (w:=w.drew) _ _ w.heap.size t rfl,Array.getElem?_append_left (by simpa using hlt),List.getElem?_toArray]
     exact ht
    rw[←hxl,List.take_length,List.drop_length,List.append_nil]
    exact hcell
  rcases ho with ⟨he,hn⟩|⟨g,cap,cur,heq,hbase,hg,hn1,hn2,hn3,hn4⟩
  ·simp only[Value.slice.injEq]at he
   obtain⟨rfl,_,rfl⟩:=he
   refine grow (by simp) (λ_=>hn) (by simp) (by omega) (by omega) (by omega)
  simp only[Value.slice.injEq]at heq
  obtain⟨rfl,_,rfl⟩:=heq
  have hgl:g<w.heap.size:=(Array.getElem?_eq_some_iff.1 hg).1
  have hxg:x.block≠g:=λe=>hxU (.inr (.inr (by rw[e]; simp[ownBl,Own.row,oblk])))
  have hc:∀t u,us[t]?=some u→w.cell? ⟨g,t,none⟩=some u:=λt u ht=>by
   have ht':t<us.length:=(List.getElem?_eq_some_iff.1 ht).1
   have e1:(cur.toList.take (els.length*3))[t]?=us[t]?:=by rw[hn4]
   rw[List.getElem?_take_of_lt (by omega),ht,Array.getElem?_toList]at e1
   simp[World.cell?,hg,e1]
  have hsp:∀t,t<c*3→(w.cell? ⟨g,t,none⟩).isSome=true:=λt ht=>by
   simp[World.cell?,hg,hn3,ht]
  have hf:∀t,w.frozen? ⟨g,t,none⟩=false:=λt=>by simp[World.frozen?,hg]
  have hm:c≤9223372036854775807:=by rw[zap]at hn2; exact hn2
  by_cases hroom:els.length+1≤c
  ·by_cases hie:i=els.length
   ·subst hie
    refine⟨.inl ⟨zqn,(ynn g els.length c x vc vs w hroom hm hvl hsp hf hcv h1v).mono λe w' ⟨he,hw⟩=>⟨_,he,?_⟩⟩⟩
    obtain⟨cur1,hg1,hs1⟩:=zjr (o:=els.length*3) (vs:=vs) (w:=w) hg
    obtain⟨a1,a2,a3,a4⟩:=zeq g (els.length*3) vs w
    rw[hw]
    refine Ctx.putOne (us:=us) (vs:=vs) H hus h1 hk hvs h1v hv hi a1 a2 a3 (by rw[a4]; exact Nat.le_refl _) (λb hb hn=>zii (by simpa[oblk]using hn)) (.inr (by simp[oblk])) hg1 (by rw[hs1,hn3]) ?_ hroom hn2
    refine ybw hxl hvl (Nat.le_refl _) (λt u ht hu=>?_) (λt u hu=>?_) (λt u hu=>?_)
    ·rw[World.cell?_setCells_out g _ _ _ _ (λ_ _=>.inl ht)]; exact hc t u hu
    ·have h4:=(List.getElem?_eq_some_iff.1 hu).1
     have:=World.cell?_setCells_in g vs (els.length*3) w (λq hq=>hsp _ (by omega)) t h4
     rw[this,←hu,List.getElem?_eq_getElem h4]
    ·rw[List.drop_eq_nil_of_le (by omega)]at hu; simp at hu
   ·have hlt:i<els.length:=by omega
    refine⟨.inl ⟨zqn,(ins_shift g els.length c i x vc us vs cur 50 w hlt hroom hm hxl hvl hg hxg hc h1 hsp hf hcv h1v).mono λe w' ⟨he,hw⟩=>⟨_,he,?_⟩⟩⟩
    obtain⟨cur1,hg1,hs1⟩:=zjr (o:=(i+1)*3) (vs:=us.drop (i*3)) (w:=w.drew) hg
    obtain⟨cur2,hg2,hs2⟩:=zjr (o:=i*3) (vs:=vs) hg1
    obtain⟨a1,a2,a3,a4⟩:=zeq g ((i+1)*3) (us.drop (i*3)) w.drew
    obtain⟨b1,b2,b3,b4⟩:=zeq g (i*3) vs (w.drew.setCells g ((i+1)*3) (us.drop (i*3)))
    have hdl:(us.drop (i*3)).length=(els.length - i)*3:=by rw[List.length_drop,hxl,Nat.sub_mul]
    have hsp1:∀t,t<c*3→((w.drew.setCells g ((i+1)*3) (us.drop (i*3))).cell? ⟨g,t,none⟩).isSome=true:=λt ht=>
     zev g _ _ w.drew (λt ht=>hsp _ (by omega)) _ (hsp t ht)
    rw[hw]
    refine Ctx.putOne (us:=us) (vs:=vs) H hus h1 hk hvs h1v hv hi (b1.trans a1) (b2.trans a2) (b3.trans a3) (by rw[b4,a4]; exact Nat.le_refl _) (λb hb hn=>?_) (.inr (by simp[oblk])) hg2 (by rw[hs2,hs1,hn3]) ?_ hroom hn2
    ·have hne:b≠g:=by simpa[oblk]using hn
     rw[zii hne,zii hne]; rfl
    ·refine ybw hxl hvl hi (λt u ht hu=>?_) (λt u hu=>?_) (λt u hu=>?_)
     ·rw[World.cell?_setCells_out g _ _ _ _ (λ_ _=>.inl ht),World.cell?_setCells_out g _ _ _ _ (λ_ _=>.inl (by show t<(i+1)*3; omega))]
      exact hc t u hu
     ·have h4:=(List.getElem?_eq_some_iff.1 hu).1
      have:=World.cell?_setCells_in g vs (i*3) (w.drew.setCells g ((i+1)*3) (us.drop (i*3))) (λq hq=>hsp1 _ (by omega)) t h4
      rw[this,←hu,List.getElem?_eq_getElem h4]
     ·have h4:=(List.getElem?_eq_some_iff.1 hu).1
      rw[World.cell?_setCells_out g _ _ _ _ (λ_ _=>.inr (by show i*3+vs.length≤(i+1)*3+t; omega))]
      have:=World.cell?_setCells_in g (us.drop (i*3)) ((i+1)*3) w.drew (λq hq=>hsp _ (by omega)) t h4
      rw[this,←hu,List.getElem?_eq_getElem h4]
  ·by_cases hie:i=els.length
   ·refine grow (λb hb=>by cases hb; rfl) (by simp) (λb hb t u hu=>?_) hn1 (by omega) hie
    cases hb
    rw[Addr.add_lit,Nat.zero_add]
    exact hc t u hu
   ·have hlt:i<els.length:=by omega
    refine⟨.inl ⟨zqn,(ins_grow g els.length c i x vc us vs w hlt (by omega) hn1 hm hbig hxl hvl hc h1 hcv h1v).mono λe w' ⟨he,hw⟩=>⟨_,he,?_⟩⟩⟩
    have hC:=grownCap_ge w (els.length+1) c 50
    have hC2:=grownCap_le_maxLen w (els.length+1) c 50 (by rw[zap]; omega)
    rw[hw]
    generalize grownCap w (els.length+1) c 50=C at*
    generalize hROW:(us.take (i*3)).toArray++Builtin.zeroCells zPos.cells (els.length+1 - i)++Builtin.zeroCells zPos.cells (C - (els.length+1))=ROW
    have htl:(us.take (i*3)).length=i*3:=by rw[List.length_take,hxl]; omega
    have hRs:ROW.size=C*3:=by rw[←hROW,Array.size_append,Array.size_append,hzl,hzl,List.size_toArray,htl]; omega
    have hRt:∀t,t<i*3→ROW[t]?=us[t]?:=λt ht=>by
     rw[←hROW,Array.append_assoc,Array.getElem?_append_left (by rw[List.size_toArray]; omega),List.getElem?_toArray,List.getElem?_take_of_lt ht]
    have hg0:(w.alloc (.cells ROW 50)).drew.heap[w.heap.size]?=some (.cells ROW 50 (0,0)):=heap_alloc_new w _
    obtain⟨cur1,hg1,hs1⟩:=zjr (o:=i*3) (vs:=vs) hg0
    have hg1':((w.alloc (.cells ROW 50)).drew.setCells w.heap.size (i*3) vs).drew.heap[w.heap.size]?=some (.cells cur1 50 (0,0)):=hg1
    obtain⟨cur2,hg2,hs2⟩:=zjr (o:=(i+1)*3) (vs:=us.drop (i*3)) hg1'
    obtain⟨a1,a2,a3,a4⟩:=zeq w.heap.size (i*3) vs (w.alloc (.cells ROW 50)).drew
    obtain⟨b1,b2,b3,b4⟩:=zeq w.heap.size ((i+1)*3) (us.drop (i*3)) ((w.alloc (.cells ROW 50)).drew.setCells w.heap.size (i*3) vs).drew
    have hdl:(us.drop (i*3)).length=(els.length - i)*3:=by rw[List.length_drop,hxl,Nat.sub_mul]
    have hcell0:∀t,(w.alloc (.cells ROW 50)).drew.cell? ⟨w.heap.size,t,none⟩=ROW[t]?:=λt=>World.cell?_alloc_at (w:=w) ROW _ w.heap.size t rfl
    have hsp0:∀t,t<C*3→((w.alloc (.cells ROW 50)).drew.cell? ⟨w.heap.size,t,none⟩).isSome=true:=λt ht=>by
     rw[hcell0,Array.getElem?_eq_getElem (by omega)]; rfl
    have hsp1:∀t,t<C*3→(((w.alloc (.cells ROW 50)).drew.setCells w.heap.size (i*3) vs).drew.cell? ⟨w.heap.size,t,none⟩).isSome=true:=λt ht=>
     zev w.heap.size _ _ (w.alloc (.cells ROW 50)).drew (λt ht=>hsp0 _ (by omega)) _ (hsp0 t ht)
    refine Ctx.putOne (us:=us) (vs:=vs) H hus h1 hk hvs h1v hv hi (b1.trans a1) (b2.trans a2) (b3.trans a3) (by rw[b4]; show _≤(World.setCells _ _ _ _).heap.size; rw[a4]; simp[World.drew]) (λb hb hn=>?_) (.inl (Nat.le_refl _)) hg2 (by rw[hs2,hs1,hRs]) ?_ hC hC2
    ·have hne:b≠w.heap.size:=by omega
     rw[zii hne]
     show ((w.alloc (.cells ROW 50)).drew.setCells w.heap.size (i*3) vs).heap[b]?=_
     rw[zii hne]
     exact zcm w _ b hb
    ·refine ybw hxl hvl hi (λt u ht hu=>?_) (λt u hu=>?_) (λt u hu=>?_)
     ·rw[World.cell?_setCells_out _ _ _ _ _ (λ_ _=>.inl (by show t<(i+1)*3; omega))]
      show ((w.alloc (.cells ROW 50)).drew.setCells w.heap.size (i*3) vs).cell? _=_
      rw[World.cell?_setCells_out _ _ _ _ _ (λ_ _=>.inl ht),hcell0,hRt t ht]
      exact hu
     ·have h4:=(List.getElem?_eq_some_iff.1 hu).1
      rw[World.cell?_setCells_out _ _ _ _ _ (λ_ _=>.inl (by show i*3+t<(i+1)*3; omega))]
      show ((w.alloc (.cells ROW 50)).drew.setCells w.heap.size (i*3) vs).cell? _=_
      have:=World.cell?_setCells_in w.heap.size vs (i*3) (w.alloc (.cells ROW 50)).drew (λq hq=>hsp0 _ (by omega)) t h4
      rw[this,←hu,List.getElem?_eq_getElem h4]
     ·have h4:=(List.getElem?_eq_some_iff.1 hu).1
      have:=World.cell?_setCells_in w.heap.size (us.drop (i*3)) ((i+1)*3) ((w.alloc (.cells ROW 50)).drew.setCells w.heap.size (i*3) vs).drew (λq hq=>hsp1 _ (by omega)) t h4
      rw[this,←hu,List.getElem?_eq_getElem h4]
end Go.Proofs.YtllkmncnmlmefaaGreat

namespace Go.Proofs.YtllkmncnmlmefaaGreat
open Go Go.Vc Go.RowKit
@[reducible] def tP0:DT:=(.pair tU0 (.pair (.slc tU0) .unit))
def delO(l:List tP0.den)(i j:Int):Option (List tP0.den×Unit):=if 0≤i∧i<j∧j≤l.length then some (l.take i.toNat++l.drop j.toNat,()) else none
def insO(l:List tP0.den)(i:Int)(v:List tP0.den):Option (List tP0.den×Unit):=
 if 0≤i∧i≤l.length∧(l.length+1)*40≤140737488355328 then (match v with|[x]=>some (l.take i.toNat++x::l.drop i.toNat,())|_=>none) else none
noncomputable def delete_s:LS:=⟨[.row 50 tP0,.v (.int .i64),.v (.int .i64)],[],[],.q (.own 50 tP0),λz=>delO z.2.2.1 z.1 z.2.1⟩
noncomputable def insert_s:LS:=⟨[.row 50 tP0,.v (.int .i64),.v (.slc tP0)],[],[],.q (.own 50 tP0),λz=>insO z.2.2.1 z.1 z.2.1⟩
theorem delete_ok:ECok Tryz.prog 263 (.ls delete_s):=by
 refine⟨rfl,rfl,rfl,λz o h=>?_⟩
 replace h:delO z.2.2.1 z.1 z.2.1=some o:=h
 unfold delO at h
 split at h
 ·rename_i hc
  have h:=Option.some.inj h
  subst h
  have:=del_ctL (z.2.2.1.map λx=>tP0.enc x) z.1 z.2.1 hc.1 hc.2.1 (by rw[List.length_map]; exact hc.2.2)
  rw[←List.map_take,←List.map_drop,←List.map_append]at this
  exact this
 ·cases h
theorem insert_ok:ECok Tryz.prog 264 (.ls insert_s):=by
 refine⟨rfl,rfl,rfl,λz o h=>?_⟩
 replace h:insO z.2.2.1 z.1 z.2.1=some o:=h
 unfold insO at h
 split at h
 ·rename_i hc
  obtain⟨i,v,l,u⟩:=z
  simp only at h hc
  split at h
  ·rename_i x
   have h:=Option.some.inj h
   subst h
   have:=ins_ctL (l.map λx=>tP0.enc x) (tP0.enc x) i hc.1 (by rw[List.length_map]; exact hc.2.1) rfl (by rw[List.length_map]; exact hc.2.2)
   rw[←List.map_take,←List.map_drop]at this
   have e:(l.take i.toNat).map (λx=>tP0.enc x)++tP0.enc x::(l.drop i.toNat).map (λx=>tP0.enc x)=(l.take i.toNat++x::l.drop i.toNat).map λx=>tP0.enc x:=by rw[List.map_append,List.map_cons]
   rw[e]at this
   exact this
  ·cases h
 ·cases h
end Go.Proofs.YtllkmncnmlmefaaGreat