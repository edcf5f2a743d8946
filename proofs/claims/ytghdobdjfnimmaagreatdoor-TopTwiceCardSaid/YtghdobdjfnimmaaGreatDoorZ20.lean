import Derived.Test.YtghdobdjfnimmaaGreatDoorZ17
set_option maxRecDepth 100000
set_option maxHeartbeats 0
set_option linter.all false
namespace Go.Proofs.YtghdobdjfnimmaaGreatDoor
open Go.Proofs.Tryz
section
open Go.RowKit Go Go.Shelf Go.Lib Go.Sort
section
variable{α:Type}[Inhabited α]{c:α->Array Yv}{sz base:Nat}{e:Yw}{w w':Yu}{g n cap:Nat}{L L':List α}
theorem rQ(d:∀x,(c x).size=sz)(k:0<sz){t:Nat}(i:t<L.length*sz):(cC c L)[t]? =some ((flatK (λx=>(c x).toList) sz L.toArray)[t]!):=by
 rw[get_flatK _ _ _ _ (by simpa using i)];have f:t/sz<L.length:=Nat.div_lt_of_lt_mul (by rw[Xs];exact i);have a:t%sz<sz:=Nat.mod_lt _ k;have m:L[t/sz]? =some L[t/sz]:=Ve f;have h:=i6 d m a;rw[Xs,XZ]at h;rw[h];have j:L.toArray[t/sz]! =L[t/sz]:=by simp[f]
 have b:t%sz<(c L[t/sz]).toList.length:=by rw[VW,d];exact a
 have l:(c L[t/sz]).toList[t%sz]! =(c L[t/sz]).toList[t%sz]:=getElem!_pos (c L[t/sz]).toList (t%sz) b;rw[j,l,VV (by rw[d];exact a)];simp
theorem rC(i:∀x,(c x).size=sz)(f:0<sz)(h:Row w base e sz c (.slice (some ⟨g,0,none⟩) n cap) L):HoldsK (λx=>(c x).toList) sz w g 0 L.toArray:=by
 intro j b;have a:j<L.length*sz:=by simpa using b
 refine⟨?_,h.frozen _⟩;have d:=h.cells (g:=g) rfl j _ (rQ i f a);simpa[d6]using d
theorem pt(B:∀x,(c x).size=sz)(I:0<sz)(h:Row w base e sz c (.slice (some ⟨g,0,none⟩) n cap) L)(r:L'.length=L.length){m:Nat}{os:Array Obj}
  (d:w'=sortWorldK (λx=>(c x).toList) sz w g 0 m L'.toArray os):Row w' base e sz c (.slice (some ⟨g,0,none⟩) n cap) L'/\w.grownBy w' (some g):=by
 obtain⟨cur,D,f,H,y,-⟩:=h.blk;have J:g<w.heap.size:=ai.lt D;have F:L.length*sz<=cur.size:=by rw[f];exact Xh _ y
 have a:∀k,k<w.heap.size->k≠g->w'.heap[k]? =w.heap[k]?:=λk q b=>by
  rw[d];unfold sortWorldK;rw[Yq _ _ (by simpa[putRowK]using q)];show((Sort.ahead w m).heap.modify g _)[k]? =_;rw[WO,Vf (V1 b)]
  rfl
 have j:ai w' g e (putCells id 0 (flatK (λx=>(c x).toList) sz L'.toArray) cur):=by
  show w'.heap[g]? =_;rw[d];unfold sortWorldK;rw[Yq _ _ (by simpa[putRowK]using J)];show((Sort.ahead w m).heap.modify g _)[g]? =_;rw[WO,Vh rfl,show(Sort.ahead w m).heap[g]? =some (.cells cur e (0,0))from D]
  rfl
 have s:w.grownBy w' (some g):=by
  refine⟨by rw[d];rfl,by rw[d];rfl,by rw[d];rfl,?_,λk q b=>a k q λe=>b (by rw[e])⟩;rw[d];show w.heap.size<=((Sort.ahead w m).heap.modify g _++os).size;rw[Array.size_append,Array.size_modify];exact Wa _ _
 refine⟨?_,s⟩;have bQ:(putCells id 0 (flatK (λx=>(c x).toList) sz L'.toArray) cur).toList.take (L'.length*sz)=cC c L':=by
  apply List.ext_getElem?;intro t;by_cases l:t<L'.length*sz
  ·rw[VU,Vh l,VK]
   unfold putCells;rw[Xc,VV (by rw[r]at l;omega),WE,Vh (by simp;omega),rQ B I l];simp
  ·rw[VU,Vf l,XM (by rw[bN B];omega)]
 obtain⟨O,o⟩:=h;rcases o with⟨o,-⟩|⟨P,C,G,M,z,N,p,v,E,K⟩
 ·cases o
 ·injection M with i A u
  injection i with i;injection i with i _ _;subst i u;refine⟨bN B L',.inr ⟨g,cap,_,by rw[r,A],z,j,by rw[r];exact p,v,?_,bQ⟩⟩;show(putCells _ _ _ _).size=_;unfold putCells;rw[Array.size_mapIdx,f]
end
end
section
open Go.RowKit Go Go.Lib
theorem P2(x:Int)(w:Yu):Yt 79 #[.int .i64 x] w λe w'=>e=.returned (.bool false)/\w'=w:=by
 go_enter func79,ntmps79;go_wp2_with fail;go_ret;exact⟨by simp,rfl⟩
theorem P0(x:Int)(w:Yu):Yt 80 #[.int .u64 x] w λe w'=>e=.returned (.bool false)/\w'=w:=by
 go_enter func80,ntmps80;go_wp2_with fail;go_ret;exact⟨by simp,rfl⟩
theorem Qe(x y:Int)(w:Yu):Yt 57 #[.int .i64 x,.int .i64 y] w λe w'=>e=.returned (.int .i64 (Lib.compareInt x y))/\w'=w:=by
 go_enter func57,ntmps57;go_wp2_with (go_at_call 79;refine(P2 _ _).mono ?_;rintro e w' ⟨rfl,a⟩;rw[a])
 all_goals (go_ret;refine⟨?_,rfl⟩;unfold Lib.compareInt;(repeat' split)<;>first|rfl|(exfalso;omega))
theorem ET(x y:Int)(w:Yu):Yt 58 #[.int .u64 x,.int .u64 y] w λe w'=>e=.returned (.int .i64 (Lib.compareInt x y))/\w'=w:=by
 go_enter func58,ntmps58;go_wp2_with (go_at_call 80;refine(P0 _ _).mono ?_;rintro e w' ⟨rfl,a⟩;rw[a])
 all_goals (go_ret;refine⟨?_,rfl⟩;unfold Lib.compareInt;(repeat' split)<;>first|rfl|(exfalso;omega))
theorem SJ(a b:Int)(g:Nat)(w:Yu)(u:w.cell? ⟨g,0,none⟩=some (.int .i64 a))(t:w.cell? ⟨g,1,none⟩=some (.int .i64 b))(y:w.frozen? ⟨g,0,none⟩=false)(q:w.frozen? ⟨g,1,none⟩=false):
  Yt 56 #[.slice (some ⟨g,0,none⟩) 2 2] w λe w'=>e=.returned (.int .i64 (if a=0 then b else a))/\w'=w:=by
 go_enter func56,ntmps56;go_wp2_with fail
 go_loop [8] (λi=>∃k:Nat,k<=2/\i=.int .i64 k/\(k=0\/a=0)/\(k<=1\/b=0)) (λi=>2-(intOf i).toNat)
 case atStart=>exact⟨0,by omega,rfl,by omega,by omega⟩
 case round=>
  obtain⟨k,o,rfl,x,r⟩:=hrel;have p:∀j:Nat,(⟨g,0+j*1,none⟩:Addr)=⟨g,j,none⟩:=λj=>by simp
  by_cases m:k=0
  ·subst m
   by_cases d:a=0
   ·subst d
    go_wp2_with fail
    go_round
    case rel=>exact⟨1,by omega,rfl,by simp,by simp⟩
    case measure=>simp[intOf]
   ·have h:(a==0)=false:=by simpa using d
    have v:=U9 d;clear d;go_wp2_with fail;go_ret;exact⟨by simp,rfl⟩
  by_cases l:k=1
  ·subst l
   obtain rfl:a=0:=by omega
   by_cases f:b=0
   ·subst f
    go_wp2_with fail
    go_round
    case rel=>exact⟨2,by omega,rfl,by simp,by simp⟩
    case measure=>simp[intOf]
   ·have h:(b==0)=false:=by simpa using f
    have s:=U9 f;clear f;go_wp2_with fail;go_ret;exact⟨by simp,rfl⟩
  obtain rfl:k=2:=by omega
  obtain rfl:a=0:=by omega
  obtain rfl:b=0:=by omega
  go_wp2_with fail;go_ret;exact⟨by simp,rfl⟩
def MH(x y:gF):Int:=if Lib.compareInt x.o y.o=0 then Lib.compareInt x.r y.r else Lib.compareInt x.o y.o
theorem tu(x y:gF):Go.Proofs.ltOf MH x y= !uU y x:=by
 unfold Go.Proofs.ltOf MH Lib.compareInt uU;by_cases b:x.o<y.o
 ·simp[b];omega
 ·by_cases f:y.o<x.o
  ·simp[b,f]
  ·have d:x.o=y.o:=by omega
   by_cases a:x.r<y.r
   ·simp[d,a]
   ·by_cases h:y.r<x.r<;>simp[d,a,h]<;>omega
theorem GE:Go.Sort.SWO (Go.Proofs.ltOf MH) where
 irrefl x:=by rw[tu];simp[uU]
 trans x y z h1 h2:=by rw[tu]at*;simp[uU]at*;omega
 ntrans x y z h1 h2:=by rw[tu]at*;simp[uU]at*;omega
theorem yy{w w':Yu}(h:Ys w w')(b:w.drawn<=w'.drawn):∃q a,w'=Go.Sort.grow (w.drewN q) a:=by
 obtain⟨p,f⟩:=Go.regrown_of_below h;refine⟨w'.drawn-w.drawn,p.os,?_⟩;rw[f];rw[f]at b;have:p.d=w.drawn+(p.d-w.drawn):=by
  have:w.drawn<=p.d:=b;omega
 show Go.Sort.grow {w with drawn:=p.d} p.os=Go.Sort.grow {w with drawn:=w.drawn+(p.d-w.drawn)} p.os;rw[<-this]
theorem Sx(x y:gF)(w:Yu):Yt 55 #[.agg (eu x),.agg (eu y)] w λe w'=>e=.returned (.int .i64 (MH x y))/\∃q k,w'=Go.Sort.grow (w.drewN q) k:=by
 have s:=U9 λW=>Qe x.o y.o W
 have l:=U9 λW=>ET x.r y.r W
 have p:MH x y=if Lib.compareInt x.o y.o=0 then Lib.compareInt x.r y.r else Lib.compareInt x.o y.o:=rfl;rw[p];clear p;generalize Lib.compareInt x.o y.o=a at s⊢;generalize Lib.compareInt x.r y.r=b at l⊢;have j:=λ(g:Nat) (W:Yu) D H C J=>SJ a b g W D H C J
 generalize (if a=0 then b else a)=c at j⊢;replace j:=U9 j;go_enter func55,ntmps55;go_upto_region 1 with fail;have i:bF w _ _:=((bF.nil w).push (t:=85) (cs:=eu x) rfl).push (t:=85) (cs:=eu y) (g:=w.heap.size+1) (by simp);have u:=i.rules;have v:=i.lts;generalize m:(w.alloc _).alloc _=W0 at i u v⊢;have z:=U9 (show w.drawn<=W0.drawn by rw[<-m];exact Vc _);have A:=U9 i;obtain⟨G,F,B,E,-⟩:=u;obtain⟨K,I,-⟩:=v;clear m i;refine gG 10 (by kernel_rfl) (by simp) (by kernel_rfl) (by kernel_rfl) (by kernel_rfl) (by kernel_rfl) ?_;simp only[U4,U5,U6,U7]
 iterate 10 (go_big_quiet_step (first|(go_at_call 57;with_reducible exact(s.o _).mono λ_ _ h=>⟨h.1,_,h.2⟩)|(go_at_call 58;with_reducible exact(l.o _).mono λ_ _ h=>⟨h.1,_,h.2⟩)))
 refine Xm ?_;rintro _ ⟨nq,rfl⟩;have d:=U9 (A.o.drewN nq);have f:=U9 (show w.drawn<=(W0.drewN nq).drawn from Vi z.o (Wa _ _));generalize W0.drewN nq=W2 at d f⊢;clear A z G F B E K I;go_wp2_with fail;refine(j.o _ _ ?_ ?_ ?_ ?_).mono ?_
 ·rw[(ai.new _ _ _).cell];rfl
 ·rw[(ai.new _ _ _).cell];rfl
 ·exact(ai.new _ _ _).frozen _
 ·exact(ai.new _ _ _).frozen _
 rintro r M ⟨rfl,rfl⟩;go_wp2_with fail;go_ret;exact⟨rfl,yy ((Vd _ _).trans d.o.below|>.alloc d.o.below.size _) f.o⟩
theorem ub{α:Type}[Inhabited α]{lt:α->α->Bool}{d:Array α}(h:Go.Sort.SortedIn lt 0 d.size d):d.toList.Pairwise λa b=>lt b a=false:=by
 rw[List.pairwise_iff_getElem];intro i j l f k;have:=h i j (VX _) k (by simpa using f);simp only[VW]at l f;rw[getElem!_pos d i l,getElem!_pos d j f]at this;simpa using this
theorem lu{α:Type}[Inhabited α]{d a:Array α}(h:Go.Sort.PermIn 0 d.size d a):d.toList.Perm a.toList/\a.size=d.size:=by
 obtain⟨f,-,b⟩:=h;refine⟨?_,f⟩;have i:d.extract 0 d.size=d:=by simp
 have j:a.extract 0 d.size=a:=by rw[<-f];simp
 rw[i,j]at b;exact b.symm
end
section
open Go.RowKit Go
theorem mH{α:Type}{le:α->α->Bool}:∀{L M:List α},L.Perm M->L.Pairwise (λa b=>le a b=true)->M.Pairwise (λa b=>le a b=true)->(∀a∈L,∀b∈L,le a b=true->le b a=true->a=b)->L=M
 |[],M,hp,_,_,_=>hp.nil_eq.symm▸rfl
 |a::L,M,hp,hl,hm,ha=>by
  cases M with
  |nil=>exact absurd hp.length_eq (by simp)
  |cons b M=>
   have e:a=b:=by
    have h1:a∈b::M:=hp.subset Vp;have h2:b∈a::L:=hp.symm.subset Vp;rcases Vy.1 h1 with h1|h1
    ·exact h1
    rcases Vy.1 h2 with h2|h2
    ·exact h2.symm
    exact ha a Vp b (VA _ h2) ((Wk.1 hl).1 b h2) ((Wk.1 hm).1 a h1)
   subst e;rw[mH (List.Perm.cons_inv hp) (Wk.1 hl).2 (Wk.1 hm).2 λx f y d=>ha x (VA _ f) y (VA _ d)]
theorem AA(a b c:gF):uU a b=true->uU b c=true->uU a c=true:=by
 unfold uU;simp only[Wx,Vo,VC];omega
theorem AB(a b:gF):(uU a b||uU b a)=true:=by
 unfold uU;simp only[Wx,Vo,VC];omega
theorem AJ{m:az}(h:∀x∈m.gr,x.1=(x.2.o,x.2.r))(z:jH m.gr){G:List gF}(p:(m.gr.map (·.2)).Perm G)(u:G.Pairwise λa b=>uU a b=true):G=bh m:=by
 refine(mH (le:=uU) ((WF _ _).trans p) (List.pairwise_mergeSort AA AB _) u λa s b t k i=>?_).symm;have f:=(WF _ _).subset s;have d:=(WF _ _).subset t;obtain⟨x,l,rfl⟩:=VJ.1 f;obtain⟨y,j,rfl⟩:=VJ.1 d;have e:x=y:=z.eq l j (by
  rw[h x l,h y j];unfold uU at k i;simp only[Wx,Vo,VC]at k i;have q:x.2.o=y.2.o:=by omega
  have v:x.2.r=y.2.r:=by omega
  rw[q,v])
 rw[e]
instance:Inhabited gF:=⟨⟨0,0,0,0,0⟩⟩
theorem Lz{w:Yu}{base:Nat}{v:Yv}{G:List gF}(h:iH w base v G)(F:G.length<=1000000):Yt 54 #[v,.func (.func 55) #[] #[]] w λr w'=>r=.returned (.tuple #[])/\∃k,iH w' base v k/\G.Perm k/\k.Pairwise (λa b=>uU a b=true)/\w.grownBy w' v.ownBlock:=by
 have q:∀args w,(callFunc 55 args).run prog w=.ok (.enter 55 args) w:=enters_of func55 (by kernel_rfl) rfl;have j:∀l off size W,Go.Proofs.CmpLays prog 55 #[] (λx=>(eu x).toList) 5 MH l off size W:=λ_ _ _ _ _ _ _ _ x y=>Sx x y _
 rcases Ye G.length with h0|h0
 ·have:G=[]:=Wg.1 h0
  subst this;obtain⟨A,cap,rfl,-,-⟩:=h.sl;refine(Yb pl A cap _ w).mono ?_;rintro r w' ⟨rfl,rfl⟩;exact⟨rfl,[],h,List.Perm.nil,List.Pairwise.nil,⟨rfl,rfl,rfl,Vc _,λ_ _ _=>rfl⟩⟩
 obtain⟨g,cap,rfl,I,H,E,m⟩:=h.sl_pos h0;have f:=AnyQ.slices_SortFunc pl 5 isAgg85 sizeOf85 (λx=>(eu x).toList) (λ_=>rfl) (λx v D=>pW x v D) MH GE 55 #[] g 0 cap G.toArray w q (j g 0 G.toArray.size w) (rC eL (by decide) h) m (by simp;omega);change Yt 54 _ _ _ at f;refine Xi f ?_;rintro r w' ⟨rfl,i,n,os,s,B,t⟩;obtain⟨u,o⟩:=lu (d:=G.toArray) (by simpa using s);have z:i.toList.length=G.length:=by simpa using o
 obtain⟨p,C⟩:=pt (L':=i.toList) eL (by decide) h z (by simpa using t);refine⟨rfl,i.toList,p,u,?_,C⟩;have e:i.size=G.toArray.size:=o;have:=ub (d:=i) (by rw[e];exact B);refine this.imp λ{a b} hab=>?_
 rw[tu]at hab;simpa using hab
end
