import Derived.Deep.Cut
import Derived.Deep.CutRange
import Derived.Test.YtemcfhlbmhbjeaaGreatDoorZ07
set_option maxRecDepth 100000
set_option maxHeartbeats 0
set_option linter.all false
namespace Go.Proofs.YtemcfhlbmhbjeaaGreatDoor
open Go.Proofs.Tryz
variable{d d1:Array Int}{w:D}{g n i hi f r b j s:Nat}{cur:Array H}
open Go Go.RowKit
section
open Go.Sort
abbrev AZ:Int->H:=Value.int .u64
def dG(w:D)(g:Nat)(cur:Array H)(d:Array Int):Prop:=M w g 31 (putCells AZ 0 d cur)
section
variable{w w' w'':D}{g:Nat}{cur:Array H}{d:Array Int}
def dG.cell(h:dG w g cur d)(a:d.size<=cur.size){t:Nat}(c:t<d.size):w.cell? (I g t)=some (q d[t]!):=by rw[M.cell h];unfold putCells;rw[vH,oZ V,pX,av ⟨gM _,V⟩,Nat.sub_zero]
def dG.set1(h:dG w g cur d)(hi:i<d.size)(x:Int):dG (w.setCell (I g i) (q x)) g cur (d.setIfInBounds i x):=by have a:=M.set_ h i (q x);have c:=putCells_set AZ 0 d cur i x hi;rw[cA]at c;rw[c]at a;exact a
def dG.swp(h:dG w g cur d)(hi:i<d.size)(a:j<d.size):dG ((w.setCell (I g i) (q d[j]!)).setCell (I g j) (q d[i]!)) g cur (Sort.swp d i j):=
 (h.set1 hi _).set1 (az a) _
def aY(w:D)(g:Nat)(cur:Array H)(a:Array Int)(w':D):Prop:=dG w' g cur a/\aa (aR g) w w'
def aY.refl(h:dG w g cur d):aY w g cur d w:=⟨h,aa.refl⟩
def aY.trans{a:Array Int}(h:aY w g cur d1 w')(c:aY w' g cur a w''):aY w g cur a w'':=⟨c.1,h.2.trans c.2⟩
def aY.drewN(h:aY w g cur d1 w')(n:Nat):aY w g cur d1 (w'.drewN n):=⟨h.1,h.2.trans (aa.drewN n)⟩
def aY.swp(h:aY w g cur d1 w')(n:Nat)(hi:i<d1.size)(a:j<d1.size):aY w g cur (Sort.swp d1 i j) (((w'.drewN n).setCell (I g i) (q d1[j]!)).setCell (I g j) (q d1[i]!)):=
 ⟨dG.swp (w:=w'.drewN n) h.1 hi a,(h.2.trans (aa.drewN n)).trans ((aa.set (F:=aR g) (I g i) (show aR g g from O) _).trans (aa.set (F:=aR g) (I g j) (show aR g g from O) _))⟩
def aY.swp0(h:aY w g cur d1 w')(hi:i<d1.size)(c:j<d1.size):aY w g cur (Sort.swp d1 i j) (((w'.setCell (I g i) (q d1[j]!)).setCell (I g j) (q d1[i]!)).drew):=by have a:=h.swp 0 hi c;exact⟨a.1,a.2.trans aa.drew⟩
def aY.fam(h:aY w g cur d1 w')(a:d1.size<=cur.size){G:Nat->Int}(e:∀t,G t=d1[t]!):(∀t,t<d1.size->w'.cell? (I g t)=some (q (G t)))/\∀t,w'.frozen? (I g t)=false:=
 ⟨λt c=>by rw[e];exact h.1.cell a c,λt=>M.frozen h.1 t⟩
end
def XV(x:Int)(w:D):Calls prog 92 #[q x] w λe a=>e=.returned (.bool false)/\a=w:=by go_wp2;go_ret;exact⟨ah,O⟩
def gC(x y:Int)(w:D):Calls prog 99 #[q x,q y] w λe a=>e=.returned (.bool (ltInt x y))/\a=w:=by go_in;go_wp2_with (go_at_call 92;apply(XV _ _).mono;rintro e a ⟨rfl,c⟩;rw[c]);go_ret;exact⟨O,O⟩
section
def U7(a j:Nat)(d:Array Int)(h:a<j)(e:ltInt d[j]! d[j-1]! =true):insInner ltInt a j d=insInner ltInt a (j-1) (Sort.swp d j (j-1)):=by
 cases j with
 |zero=>omega
 |succ k=>have c:ltInt d[k+1]! d[k]! =true:=e;show insInner ltInt a (k+1) d=insInner ltInt a k (Sort.swp d (k+1) k);rw[insInner,av (by simp[h,c])]
def U8(a j:Nat)(d:Array Int)(h:j<=a\/ltInt d[j]! d[j-1]! =false):insInner ltInt a j d=d:=by
 cases j with
 |zero=>rw[insInner]
 |succ k=>rw[insInner,al];intro c;simp only[bZ,eN]at c;rcases h with h|h;omega;have e:ltInt d[k+1]! d[k]! =false:=h;rw[e]at c;cases c.2
end
def XW(h:dG w g cur d)(hs:d.size<=cur.size)(hz:d.size<=1000000)(c a b:Nat)(α:a<=b)(hb:b<=d.size):
  Calls prog 93 #[bh g d.size c,Z a,Z b] w λe w'=>e=.returned (.tuple #[])/\aY w g cur (insertionSort ltInt d a b) w':=by
 have A:=aB h hs;clear h hs;go_wp2;go_loopw [6] (λR wr=>∃(i:Nat) (p:Array Int),R=Z i/\a<i/\i<=b+1/\p.size=d.size/\aY w g cur p wr/\insOuter ltInt a b i p=insOuter ltInt a b (a+1) d) (λR _=>b+1-(intOf R).toNat)
 ·exact⟨a+1,d,by go_num,V,V,O,aY.refl A.o.1,O⟩
 obtain⟨i,p,rfl,η,β,F,y,T⟩:=hrel;have bl:=aB y T;clear T y;go_wp2_with fail
 ·go_loopw [7] (λJ P=>∃(j:Nat) (k:Array Int),J=Z j/\a<=j/\j<=i/\k.size=d.size/\aY w g cur k P/\insInner ltInt a j k=insInner ltInt a i p) (λJ _=>(intOf J).toNat)
  exact⟨i,p,O,V,ao _,F,bl.o.1,O⟩;obtain⟨j,k,rfl,ζ,γ,v,u,X⟩:=hrel;have E:i<b:=by assumption
  obtain⟨G,Q⟩:∃G:Nat->Int,∀t,G t=k[t]!:=⟨λt=>k[t]!,λ_=>rfl⟩;obtain⟨m,δ⟩:=u.fam (aA A.o.2) Q;rw[v]at m;have l:=cQ u Q X v;clear u Q X;have x:=U (λ(hx:j<=a\/ltInt k[j]! k[j-1]! =false) (W:D) (hW:aY w g cur k W)=>(show∃B dk',Z ((i:Int)+1)=Z (B:Nat)/\a<B/\B<=b+1/\dk'.size=d.size/\aY w g cur dk' W/\insOuter ltInt a b B dk'=insOuter ltInt a b (a+1) d from
   ⟨i+1,k,by go_num,V,V,l.o.2.2.2,hW,by rw[<-bl.o.2,insOuter.eq_def ltInt a b i p,av E,<-l.o.2.2.1,U8 _ _ _ hx]⟩))
  go_wp2_with fail;by_cases K:a<j
  ·have θ:=m j V;have ε:=m (j-1) V;clear m;go_quiet (first|(go_at_call 99;refine eE (gC _ _ _)));go_wp2_with fail
   ·have L:ltInt (G j) (G (j-1))=true:=by assumption
    go_region
    all_goals go_wp2
    go_roundw;refine⟨j-1,Sort.swp k j (j-1),by congr 1;omega,V,V,by simp[Sort.swp,v],?_,?_⟩;rw[l.o.2.1,l.o.2.1];exact l.o.1.swp _ V V;rw[<-l.o.2.2.1,U7 a j k K (by rw[<-l.o.2.1,<-l.o.2.1];exact L)];simp[intOf];omega
   have L:ltInt (G j) (G (j-1))=false:=by assumption
   go_roundw;exact x.o (jk (by rw[<-l.o.2.1,<-l.o.2.1];exact L)) _ (l.o.1.drewN nq);simp[intOf];omega
  go_quiet (first|(go_at_call 99;refine eE (gC _ _ _)));go_wp2;go_roundw;exact x.o (gO V) _ (l.o.1.drewN nq);simp[intOf];omega
 have C:¬i<b:=by assumption
 go_end0;exact⟨O,by unfold insertionSort;rw[<-bl.o.2,insOuter.eq_def ltInt a b i p,al C];exact bl.o.1⟩
def kK(hi f r:Nat)(d:Array Int):Nat:=if 2*r+1+1<hi/\ltInt d[f+(2*r+1)]! d[f+(2*r+1)+1]! =true then 2*r+2 else 2*r+1
def DK(h:hi<=2*r+1):siftDown ltInt hi f r d=d:=by rw[siftDown.eq_def,dif_pos h]
def Uy(h:2*r+1<hi):kK hi f r d<hi/\r<kK hi f r d:=by unfold kK;split<;>omega
def zG(h:2*r+1<hi)(c:ltInt d[f+r]! d[f+kK hi f r d]! =false):siftDown ltInt hi f r d=d:=by rw[siftDown.eq_def,dif_neg V];unfold kK at c;by_cases a:2*r+1+1<hi/\ltInt d[f+(2*r+1)]! d[f+(2*r+1)+1]! =true;rw[av a]at c;rw[av (by simp[a.1,a.2]),av (by rw[c];rfl)];rw[al a]at c;rw[al (az a),av (by rw[c];rfl)]
def zH(h:2*r+1<hi)(c:ltInt d[f+r]! d[f+kK hi f r d]! =true):siftDown ltInt hi f r d=siftDown ltInt hi f (kK hi f r d) (Sort.swp d (f+r) (f+kK hi f r d)):=by rw[siftDown.eq_def,dif_neg V];unfold kK at c⊢;by_cases a:2*r+1+1<hi/\ltInt d[f+(2*r+1)]! d[f+(2*r+1)+1]! =true;rw[av a]at c⊢;rw[av (by simp[a.1,a.2]),al (by rw[c];decide),dif_pos V];rw[al a]at c⊢;rw[al (az a),al (by rw[c];decide)]
def VR(h:dG w g cur d)(hs:d.size<=cur.size)(hz:d.size<=1000000)(c K hi f:Nat)(X:K<=hi)(hf:f+hi<=d.size):
  Calls prog 128 #[bh g d.size c,Z K,Z hi,Z f] w λe w'=>e=.returned (.tuple #[])/\aY w g cur (siftDown ltInt hi f K d) w':=by
 have J:=aB h hs;clear h hs;go_wp2;go_loopw [8] (λR wr=>∃(r:Nat) (v:Array Int),R=Z r/\r<=hi/\v.size=d.size/\aY w g cur v wr/\siftDown ltInt hi f r v=siftDown ltInt hi f K d) (λR _=>hi-(intOf R).toNat);exact⟨K,d,O,X,O,aY.refl J.o.1,O⟩;obtain⟨r,v,rfl,hr,x,C,Q⟩:=hrel;have bl:=aP C Q x;by_cases F:2*r+1<hi
 ·obtain⟨G,T⟩:∃G:Nat->Int,∀t,G t=v[t]!:=⟨λt=>v[t]!,λ_=>rfl⟩;obtain⟨k,u⟩:=C.fam (aA J.o.2) T;rw[x]at k;have p:=U T;have α:=cP ((hi:Int)<=2*(r:Int)+1);have γ:=k (f+(2*r+1)) V;clear Q C T;go_upto_region 3 with fail;by_cases h2:2*r+1+1<hi
  ·have P:=cO (2*(r:Int)+1+1<(hi:Int));have β:=k (f+(2*r+1)+1) V;go_quiet (first|(go_at_call 99;refine eE (gC _ _ _)));go_wp2_with fail
   ·have E:ltInt (G (f+(2*r+1))) (G (f+(2*r+1)+1))=true:=by assumption
    have a:kK hi f r v=2*r+1+1:=by unfold kK;rw[av ⟨h2,by rw[<-p.o,<-p.o];exact E⟩]
    have A:=U a;clear a;have l:=k (f+r) V;have m:=k (f+(2*r+1+1)) V;have B:=U (bl.o.1.drewN nq);have l:(wr.drewN nq).cell? (I g (f+r))=some (q (G (f+r))):=l;have m:(wr.drewN nq).cell? (I g (f+(2*r+1+1)))=some (q (G (f+(2*r+1+1)))):=m;have u:∀t,(wr.drewN nq).frozen? (I g t)=false:=u;generalize wr.drewN nq=W at B l m u⊢;clear k;go_quiet (first|(go_at_call 99;refine eE (gC _ _ _)));go_wp2_with fail
    ·have y:ltInt (G (f+r)) (G (f+(2*r+1+1)))=false:=by simp_all
     refine eu (sG O _ _ _) O ?_;exact⟨O,by rw[<-bl.o.2.1,zG F (by rw[A.o,<-p.o,<-p.o];exact y)];exact B.o.drewN nq⟩
    have y:ltInt (G (f+r)) (G (f+(2*r+1+1)))=true:=by simp_all
    go_region
    all_goals go_wp2
    go_roundw;refine⟨2*r+1+1,Sort.swp v (f+r) (f+(2*r+1+1)),by congr 1,V,by simp[Sort.swp,x],?_,?_⟩;rw[p.o,p.o];exact B.o.swp _ V V;have e:=zH F (by rw[A.o,<-p.o,<-p.o];exact y);rw[A.o]at e;rw[<-bl.o.2.1,e];simp[intOf];omega
   have E:ltInt (G (f+(2*r+1))) (G (f+(2*r+1)+1))=false:=by assumption
   have a:kK hi f r v=2*r+1:=by unfold kK;rw[al λL=>by rw[<-p.o,<-p.o,E]at L;cases L.2]
   have A:=U a;clear a;have l:=k (f+r) V;have m:=k (f+(2*r+1)) V;have B:=U (bl.o.1.drewN nq);have l:(wr.drewN nq).cell? (I g (f+r))=some (q (G (f+r))):=l;have m:(wr.drewN nq).cell? (I g (f+(2*r+1)))=some (q (G (f+(2*r+1)))):=m;have u:∀t,(wr.drewN nq).frozen? (I g t)=false:=u;generalize wr.drewN nq=W at B l m u⊢;clear k;go_quiet (first|(go_at_call 99;refine eE (gC _ _ _)));go_wp2_with fail
   ·have y:ltInt (G (f+r)) (G (f+(2*r+1)))=false:=by simp_all
    refine eu (sG O _ _ _) O ?_;exact⟨O,by rw[<-bl.o.2.1,zG F (by rw[A.o,<-p.o,<-p.o];exact y)];exact B.o.drewN nq⟩
   have y:ltInt (G (f+r)) (G (f+(2*r+1)))=true:=by simp_all
   go_region
   all_goals go_wp2
   go_roundw;refine⟨2*r+1,Sort.swp v (f+r) (f+(2*r+1)),by congr 1,V,by simp[Sort.swp,x],?_,?_⟩;rw[p.o,p.o];exact B.o.swp _ V V;have e:=zH F (by rw[A.o,<-p.o,<-p.o];exact y);rw[A.o]at e;rw[<-bl.o.2.1,e];simp[intOf];omega
  have P:=cP (2*(r:Int)+1+1<(hi:Int));go_quiet (first|(go_at_call 99;refine eE (gC _ _ _)));go_wp2_with fail;have a:kK hi f r v=2*r+1:=by unfold kK;rw[al λL=>h2 L.1]
  have A:=U a;clear a;have l:=k (f+r) V;have m:=k (f+(2*r+1)) V;have B:=U (bl.o.1.drewN nq);have l:(wr.drewN nq).cell? (I g (f+r))=some (q (G (f+r))):=l;have m:(wr.drewN nq).cell? (I g (f+(2*r+1)))=some (q (G (f+(2*r+1)))):=m;have u:∀t,(wr.drewN nq).frozen? (I g t)=false:=u;generalize wr.drewN nq=W at B l m u⊢;clear k;go_quiet (first|(go_at_call 99;refine eE (gC _ _ _)));go_wp2_with fail
  ·have y:ltInt (G (f+r)) (G (f+(2*r+1)))=false:=by simp_all
   refine eu (sG O _ _ _) O ?_;exact⟨O,by rw[<-bl.o.2.1,zG F (by rw[A.o,<-p.o,<-p.o];exact y)];exact B.o.drewN nq⟩
  have y:ltInt (G (f+r)) (G (f+(2*r+1)))=true:=by simp_all
  go_region
  all_goals go_wp2
  go_roundw;refine⟨2*r+1,Sort.swp v (f+r) (f+(2*r+1)),by congr 1,V,by simp[Sort.swp,x],?_,?_⟩;rw[p.o,p.o];exact B.o.swp _ V V;have e:=zH F (by rw[A.o,<-p.o,<-p.o];exact y);rw[A.o]at e;rw[<-bl.o.2.1,e];simp[intOf];omega
 clear Q C;go_wp2_with fail
 all_goals go_end0
 exact⟨O,by rw[<-bl.o.2.1,DK V];exact bl.o.1⟩
def FR(h:dG w g cur d)(o:d.size<=cur.size)(p:d.size=n)(t:n<=1000000)(c a hi f:Nat)(k:a<=hi)(l:f+hi<=n):
  Calls prog 128 #[bh g n c,Z a,Z hi,Z f] w λe m=>e=.returned (.tuple #[])/\aY w g cur (siftDown ltInt hi f a d) m:=by
 subst p;exact VR h o t c a hi f k l
def o9(d:Array Int)(i j:Nat):(Sort.swp d i j).size=d.size:=by simp[Sort.swp]
def DL:∀{d:Array Int},(siftDown ltInt hi f r d).size=d.size:=by
 have key:∀(n r:Nat) (d:Array Int),hi-r<=n->(siftDown ltInt hi f r d).size=d.size:=by
  intro n
  induction n with
  |zero=>intro r d h;rw[DK V]
  |succ n ih=>
   intro r d h;by_cases a:2*r+1<hi
   ·have e:=Uy (f:=f) (d:=d) a;cases c:ltInt d[f+r]! d[f+kK hi f r d]! with
    |false=>rw[zG a c]
    |true=>rw[zH a c,ih _ _ V,o9]
   rw[DK V]
 exact λ{d}=>key _ r d (ao _)
def VL(h:dG w g cur d)(hs:d.size<=cur.size)(hz:d.size<=1000000)(c a b:Nat)(β:a<=b)(hb:b<=d.size):
  Calls prog 94 #[bh g d.size c,Z a,Z b] w λe w'=>e=.returned (.tuple #[])/\aY w g cur (heapSort ltInt d a b) w':=by
 have K:=aB h hs;obtain⟨m,hm⟩:∃m,b=a+m:=⟨b-a,V⟩;have hq:((m:Int)-1).tdiv 2=(((m-1)/2:Nat):Int):=by
  cases m with
  |zero=>rfl
  |succ m=>rw[bU (((m+1:Nat):Int)-1=(m:Int)),vw V];omega
 have ζ:(b:Int)-(a:Int)=(m:Int):=V;have HD:=U (show heapSort ltInt d a b=heapPop ltInt a m (heapBuild ltInt m a ((m-1)/2+1) d)from by unfold heapSort;rw[hm,Nat.add_sub_cancel_left]);obtain⟨p,T⟩:=aM ((m-1)/2);have ι:p<=m:=V;rw[T]at hq HD;have hb:a+m<=d.size:=V;clear h hs β T hm;go_wp2;go_loopw [9] (λv wr=>∃(k:Nat) (A:Array Int),v=Z ((k:Int)-1)/\k<=p+1/\A.size=d.size/\aY w g cur A wr/\heapBuild ltInt m a k A=heapBuild ltInt m a (p+1) d) (λv _=>(intOf v+1).toNat)
 ·exact⟨p+1,d,by first|(congr 1;omega)|congr 1,ao _,rfl,aY.refl K.o.1,rfl⟩
 obtain⟨k,A,rfl,hk,B,l,J⟩:=hrel;cases k with
 |succ k=>have α:((k+1:Nat):Int)-1=(k:Int):=V;have C:=U (FR l.1 (aA K.o.2) B hz c k m a V hb);have bl:=aP l J B;clear l J;go_wp2_with fail;apply C.o.mono;rintro e w2 ⟨rfl,L⟩;have Q:=U L;clear L;go_wp2;go_roundw;exact⟨k,siftDown ltInt m a k A,O,V,DL.trans B,bl.o.1.trans Q.o,bl.o.2.1⟩;simp[intOf]
 |zero=>
  have bl:=aP l (show A=heapBuild ltInt m a (p+1) d from J) B;clear l J;generalize hx:((0:Nat):Int)-1=x;have θ:=cP (0<=x);clear hx;go_wp2;go_loopw [10] (λv wr=>∃(k:Nat) (u:Array Int),v=Z ((k:Int)-1)/\k<=m/\u.size=d.size/\aY w g cur u wr/\heapPop ltInt a k u=heapPop ltInt a m A) (λv _=>(intOf v+1).toNat);exact⟨m,A,O,ao _,bl.o.2.2,bl.o.1,O⟩;obtain⟨k,u,rfl,δ,R,l,J⟩:=hrel;cases k with
  |succ k=>
   have α:((k+1:Nat):Int)-1=(k:Int):=V;obtain⟨G,hG⟩:∃G:Nat->Int,∀t,G t=u[t]!:=⟨λt=>u[t]!,λ_=>rfl⟩;obtain⟨E,η⟩:=l.fam (aA K.o.2) hG;rw[R]at E;have ε:=E a V;have κ:=E (a+k) V;have y:=cQ l hG J R;have CF:=U (λ(W:D) (F:aY w g cur (Sort.swp u a (a+k)) W)=>show Calls prog 128 #[bh g d.size c,Z 0,Z k,Z a] W λe w'=>e=.returned (.tuple #[])/\aY W g cur (siftDown ltInt k a 0 (Sort.swp u a (a+k))) w' from FR F.1 (by rw[o9];have:=K.o.2;omega) ((o9 _ _ _).trans R) hz c 0 k a (gM _) V);clear l J hG E;go_upto_region 10 with fail;have P:∀W,aY w g cur (siftDown ltInt k a 0 (Sort.swp u a (a+k))) W->heapPop ltInt a k (siftDown ltInt k a 0 (Sort.swp u a (a+k)))=heapPop ltInt a m A:=λW _=>y.o.2.2.1;replace P:=U P;by_cases γ:k=0
   ·subst γ;go_region
    all_goals go_wp2_with fail
    have F:aY w g cur (Sort.swp u a (a+0)) ((wr.setCell (I g a) (q (G a))).setCell (I g a) (q (G a))).drew:=by rw[y.o.2.1];exact y.o.1.swp0 V V
    apply(CF.o _ F).mono;rintro e w2 ⟨rfl,L⟩;have Q:=U (F.trans L);clear L F;go_wp2;go_roundw;exact⟨0,_,O,V,(DL.trans (o9 _ _ _)).trans y.o.2.2.2,Q.o,P.o _ Q.o⟩;simp[intOf]
   go_region
   all_goals go_wp2_with fail
   have F:aY w g cur (Sort.swp u a (a+k)) ((wr.setCell (I g a) (q (G (a+k)))).setCell (I g (a+k)) (q (G a))).drew:=by rw[y.o.2.1,y.o.2.1];exact y.o.1.swp0 V V
   apply(CF.o _ F).mono;rintro e w2 ⟨rfl,L⟩;have Q:=U (F.trans L);clear L F;go_wp2;go_roundw;exact⟨k,_,O,V,(DL.trans (o9 _ _ _)).trans y.o.2.2.2,Q.o,P.o _ Q.o⟩;simp[intOf]
  |zero=>have y:=aB l (show u=heapPop ltInt a m A from J);clear l J;go_wp2;go_end0;exact⟨O,by rw[HD.o,<-bl.o.2.1,<-y.o.2];exact y.o.1⟩
def dG.mod{w':D}{F:Nat->Prop}(h:dG w g cur d)(m:aa F w w')(hF:¬F g):dG w' g cur d:=m.blk h hF
def rO(w:D)(s n m:Nat)(w':D):Prop:=∃a:Nat,n<=a/\a<=m/\M w' s 3 #[Z a]/\aa (aR s) w w'
def EX(h:dG w g cur d)(L:d.size<=cur.size)(l:M w s 3 #[Z n])(Q:n<=100)(R:d.size<=1000000)(c a b:Nat)(B:a<d.size)(m:b<d.size):
  Calls prog 148 #[bh g d.size c,Z a,Z b,N s] w λe A=>∃x y:Nat,e=.returned (.tuple #[Z x,Z y])/\((x=a/\y=b)\/(x=b/\y=a))/\rO w s n (n+1) A:=by
 obtain⟨G,u⟩:∃G:Nat->Int,∀t,G t=d[t]!:=⟨λt=>d[t]!,λ_=>rfl⟩;obtain⟨k,P⟩:=(aY.refl h).fam L u;have C:=k a B;have v:=k b m;have K:w.cell? (I s 0)=some (Z n):=by rw[l.cell];rfl
 have E:w.frozen? (I s 0)=false:=l.frozen 0;have p:=U l;clear k l h u;go_wp2;go_quiet (first|(go_at_call 99;refine eE (gC _ _ _)));go_wp2_with fail
 ·go_ret2;refine⟨b,a,O,.inr ⟨O,O⟩,n+1,V,V,?_,?_⟩;have J:=M.set_ (w:=w.drewN nq) p.o 0 (Z ((n:Int)+1));exact J;exact(aa.drewN nq).trans (aa.set (F:=aR s) (I s 0) (show aR s s from O) _)
 go_ret2;exact⟨a,b,O,.inl ⟨O,O⟩,n,ao _,V,p.o,aa.drewN nq⟩
def EK(h:dG w g cur d)(X:d.size<=cur.size)(hb:M w s 3 #[Z n])(F:g≠s)(hn:n<=50)(W:d.size<=1000000)(c i j k:Nat)(hi:i<d.size)(hj:j<d.size)(hk:k<d.size):
  Calls prog 132 #[bh g d.size c,Z i,Z j,Z k,N s] w λe w'=>∃x:Nat,e=.returned (Z x)/\(x=i\/x=j\/x=k)/\rO w s n (n+3) w':=by
 have C1:=U (EX h X hb V W c i j hi hj);have α:=U h;clear h hb;go_in;go_wp2_with fail;apply C1.o.mono;rintro e w1 ⟨x1,Q,rfl,T,n1,m,G,u,a⟩;have hy:Q=i\/Q=j:=V;have E:x1=i\/x1=j:=V;have R:=α.o.mod a F;have C2:=U (EX R X u V W c Q k V hk);have y:=js R a m G E hy;clear R a m G u C1 T E hy;go_wp2_with fail;apply C2.o.mono;rintro e w2 ⟨L,y2,rfl,P,n2,B,C,A,l⟩;have E:L=i\/L=j\/L=k:=aA y.o.2.2.2.2.2;have h2:=y.o.1.mod l F;have e1:=y.o.2.2.2.2.1;have e2:=y.o.2.2.2.1;have C3:=U (EX h2 X A V W c x1 L V V);have H2:=iA l B C E e1;clear h2 l B C A C2 P E e1 e2;go_wp2_with fail;apply C3.o.mono;rintro e w3 ⟨x3,y3,rfl,p,n3,t,J,K,v⟩;have H3:=iA v t J p K;clear p t J K v C3;go_wp2;go_ret;obtain⟨-,q1,q2,q3,q4,q5⟩:=y.o;obtain⟨p1,p2,p3,p4,p5⟩:=H2.o;obtain⟨r1,r2,r3,r4,r5⟩:=H3.o;exact⟨y3,O,V,n3,V,V,r5,(q1.trans p1).trans r1⟩
def Tw(h:dG w g cur d)(hs:d.size<=cur.size)(hz:d.size<=1000000)(c a l:Nat)(hl:8<=l)(α:l<50)(ε:a+l<=d.size)(P:b=a+l):
  Calls prog 96 #[bh g d.size c,Z a,Z b] w λe X=>∃(x:Nat) (t:Int),e=.returned (.tuple #[Z x,Z t])/\a<=x/\x<b/\(t=0\/t=1)/\S w X:=by
 have e1:(b:Int)-(a:Int)=(l:Int):=V;have e2:(l:Int).tdiv 4=((l/4:Nat):Int):=by rw[vw V];omega
 obtain⟨k,Q⟩:=aM (l/4);rw[Q]at e2;have C:4*k<=l/\2<=k:=V;have T:k<=12:=V;have γ:=M.lt h;have K:S w (w.alloc (.cells #[Z 0] 3)):=(aq _ _).alloc (ao _) _;have R:=U (EK (n:=0) (dG.mod h (aa.of_below (F:=bC) K) (λh=>h)) hs (M.new w _ _) V V hz c (a+k) (a+k*2) (a+k*3) V V V);have A:=aP C P K;clear h P Q C K;go_in;go_wp2_with fail;apply R.o.mono;rintro e L ⟨x,rfl,hx,E,J,δ,v,m⟩;obtain⟨⟨W,k2⟩,k3,G⟩:=A.o;have u:a<=x/\x<b:=V;have β:L.cell? (I w.heap.size 0)=some (Z E):=by rw[v.cell];rfl
 have B:S w L:=G.trans ⟨m.os,m.tape,m.output,cF m.size G.size,λj hj=>m.block j (aA G.size) λe=>by have e:j=w.heap.size:=e;omega⟩;have p:=aB u B;clear W k2 k3 G hx u B v m J R A;by_cases y:E=0
 ·subst y;go_wp2;go_ret2;exact⟨x,1,O,p.o.1.1,p.o.1.2,.inr O,p.o.2⟩
 have d1:((E:Int)==0)=false:=az y;have d2:((E:Int)==12)=false:=by simp;omega
 go_wp2;go_ret2;exact⟨x,0,O,p.o.1.1,p.o.1.2,.inl O,p.o.2⟩
def aar(d:Array Int)(a:Nat):SortedIn ltInt a (a+1) d:=λi j c e h=>V
def ZZ{a:Nat}(h:SortedIn ltInt a i d)(o:a<i)(c:ltInt d[i]! d[i-1]! =false):SortedIn ltInt a (i+1) d:=λx y e k p=>by
 unfold ltInt at c;rw[vE]at c;by_cases l:y=i
 ·subst l;unfold ltInt;rw[vE];by_cases m:x=y-1;subst m;exact c;have:=h x (y-1) e V V;unfold ltInt at this;rw[vE]at this;omega
 exact h x y e k V
def Oy(h:dG w g cur d)(hs:d.size<=cur.size)(hz:d.size<=1000000)(c a l:Nat)(J:1<=l)(E:l<50)(R:a+l<=d.size)(hb:b=a+l):
  Calls prog 98 #[bh g d.size c,Z a,Z b] w λe w'=>∃r:Bool,e=.returned (.bool r)/\(r=true->SortedIn ltInt a b d)/\S w w':=by
 obtain⟨G,P⟩:∃G:Nat->Int,∀t,G t=d[t]!:=⟨λt=>d[t]!,λ_=>rfl⟩;obtain⟨u,y⟩:=(aY.refl h).fam hs P;have e1:=cO ((b:Int)-(a:Int)<50);have HC:=U u;have X:=U P;have HF:=U y;have δ:b<=d.size:=V;have β:a<b:=V;clear h u P hb y R J E;go_wp2;go_loopw [7,8] (λv7 v8 wr=>v7=Z ((a+1:Nat):Int)/\v8=Z 0/\wr=w) (λ_ _ _=>0)
 ·exact⟨by go_num,O,O⟩
 obtain⟨rfl,rfl,rfl⟩:=hrel;go_wp2;go_loopw [7] (λv wx=>∃(i n:Nat),v=Z i/\a<i/\i<=b/\SortedIn ltInt a i d/\wx=wr.drewN n) (λv _=>b-(intOf v).toNat);exact⟨a+1,0,O,V,V,aar d a,O⟩;obtain⟨i,n,rfl,Q,γ,B,rfl⟩:=hrel;have HS:=U B;clear B;have C:S wr (wr.drewN n):=j7 (aq _ _) n;have m:∀t,t<d.size->(wr.drewN n).cell? (I g t)=some (q (G t)):=HC.o;have A:∀t,(wr.drewN n).frozen? (I g t)=false:=HF.o;have L:=U (λk=>show(wr.drewN n).drewN k=wr.drewN (n+k)by simp[World.drewN,gQ]);by_cases α:i<b
 ·have T:=m i V;have K:=m (i-1) V;have F:=cO ((i:Int)<(b:Int));have p:=U C;clear m C;generalize hW:wr.drewN n=W at p T K A L⊢;clear hW;go_upto_region 5 with fail;go_quiet (first|(go_at_call 99;refine eE (gC _ _ _)));go_wp2_with fail
  ·have J:ltInt (G i) (G (i-1))=false:=by simp_all
   go_roundw
   ·exact⟨i+1,n+nq,by go_num,V,V,ZZ HS.o Q (by rw[<-X.o,<-X.o];exact J),L.o nq⟩
   simp[intOf];omega
  refine eu (results_tmp O _ _ _) O ?_;exact⟨false,O,(λh=>aK h),p.o.trans ((j7 (aq _ _) nq).mono p.o.size)⟩
 have F:=cP ((i:Int)<(b:Int));have p:=U C;have x:i=b:=V;subst x;clear m C;generalize wr.drewN n=W at p A L⊢;go_upto_region 5 with fail;go_quiet (first|(go_at_call 99;refine eE (gC _ _ _)));go_wp2_with fail;refine eu (results_tmp O _ _ _) O ?_;exact⟨true,O,(λ_=>HS.o),p.o.trans ((j7 (aq _ _) nq).mono p.o.size)⟩
section
variable{p:Int->Bool}{d:Array Int}{i j:Nat}
def AE(h:i<=j)(a:p d[i]! =true):scanUp p d j i=scanUp p d j (i+1):=by rw[scanUp.eq_def,av (by simp[h,a])]
def uY(h:¬(i<=j/\p d[i]! =true)):scanUp p d j i=i:=by rw[scanUp.eq_def,al (az h)]
def AT(h:i<=j)(c:1<=j)(a:p d[j]! =true):scanDown p d i j=scanDown p d i (j-1):=by
 cases j with
 |zero=>omega
 |succ j=>show scanDown p d i (j+1)=scanDown p d i j;rw[scanDown,av (by simp[h,a])]
def uX(h:¬(i<=j/\p d[j]! =true)):scanDown p d i j=j:=by
 cases j with
 |zero=>rw[scanDown]
 |succ j=>rw[scanDown,al (az h)]
end
def Fr(d:Array Int)(a b c:Nat)(e:Sort.swp d a c=d1)(hi:scanUp (λx=>ltInt x d1[a]!) d1 (b-1) (a+1)=i)(h:scanDown (λx=> !ltInt x d1[a]!) d1 i (b-1)=j):
  partition ltInt d a b c=if i>j then(j,true,Sort.swp d1 j a)else((partLoop ltInt a (i+1) (j-1) (Sort.swp d1 i j)).1,false,Sort.swp (partLoop ltInt a (i+1) (j-1) (Sort.swp d1 i j)).2 (partLoop ltInt a (i+1) (j-1) (Sort.swp d1 i j)).1 a):=by
 unfold partition;rw[e];simp only[hi,h]
def VT(h:dG w g cur d)(hs:d.size<=cur.size)(hz:d.size<=1000000)(c a b p:Nat)(hap:a<=p)(hpb:p<b)(hbd:b<=d.size):
  Calls prog 101 #[bh g d.size c,Z a,Z b,Z p] w λe w'=>e=.returned (.tuple #[Z (partition ltInt d a b p).1,.bool (partition ltInt d a b p).2.1])/\aY w g cur (partition ltInt d a b p).2.2 w':=by
 obtain⟨d1,χ⟩:=aM (Sort.swp d a p);have δ:d1.size=d.size:=by rw[<-χ,o9]
 have Ω:d.size=d.size:=O;have Q:=aB h hs;have H0:=U (aY.refl h);have f:=U χ;have hb1:(b:Int)-1=((b-1:Nat):Int):=V;clear h hs χ;go_in;obtain⟨G,u⟩:∃G:Nat->Int,∀t,G t=d[t]!:=⟨λt=>d[t]!,λ_=>rfl⟩;obtain⟨k,A⟩:=H0.o.fam (aA Q.o.2) u;rw[Ω]at k;have L:=k a V;have P:=k p V;have T:=U u;clear k u;go_upto_region 1 with fail;go_cut []from 12 to 25 (λB=>aY w g cur (Sort.swp d a p) B)
 case first=>
  by_cases ε:a=p
  ·subst ε;go_region
   all_goals go_wp2
   go_meet;rw[T.o];exact H0.o.swp0 V V
  go_region
  all_goals go_wp2
  go_meet;rw[T.o,T.o];exact H0.o.swp0 V V
 have HS:=U hcut;clear hcut L P A;rw[f.o]at HS;obtain⟨C,ι⟩:=aM (scanUp (λx=>ltInt x d1[a]!) d1 (b-1) (a+1));obtain⟨F,κ⟩:=aM (scanDown (λx=> !ltInt x d1[a]!) d1 C (b-1));have hi1g:a+1<=C:=by rw[<-ι];exact scanUp_ge _ _ _ _
 have hj1l:F<=(b-1):=by rw[<-κ];exact scanDown_le _ _ _ _
 have φ:C<=F->C<F:=λγ=>by
  have f1:=(scanUp_spec (λx=>ltInt x d1[a]!) d1 (b-1) _ (a+1) O).2.2.2;have f2:=(scanDown_spec (λx=> !ltInt x d1[a]!) d1 C (b-1)).2.2.2;rw[ι]at f1;rw[κ]at f2;by_cases s:C=F
  ·have g1:=f1 V;have g2:=f2 γ V;rw[<-s]at g2;rw[g1]at g2;cases g2
  omega
 have H1:=U ι;have G1:=U κ;clear ι κ;go_upto_block 0 with fail;go_cut [10]from 30 to 45 (λv B=>v=Z C/\aY w g cur d1 B)
 case first=>
  go_wp2;go_loopw [10] (λv B=>∃i:Nat,v=Z i/\(a+1)<=i/\(i<=(b-1)+1\/i=(a+1))/\aY w g cur d1 B/\scanUp (λx=>ltInt x d1[a]!) d1 (b-1) i=C) (λv _=>(b-1)+1-(intOf v).toNat)
  ·exact⟨(a+1),by first|rfl|go_num|(congr 1;omega),ao _,jk rfl,HS.o,H1.o⟩
  obtain⟨i,rfl,W,n,R,y⟩:=hrel;obtain⟨G,u⟩:∃G:Nat->Int,∀t,G t=d1[t]!:=⟨λt=>d1[t]!,λ_=>rfl⟩;obtain⟨k,A⟩:=R.fam (aA Q.o.2) u;rw[δ]at k;have X:=k a V;have l:=aP R u y;by_cases E:i<=(b-1)
  ·have σ:=k i V;have α:=cO ((i:Int)<=((b-1):Int));clear k R u y;go_upto_region 3 with fail;go_quiet (first|(go_at_call 99;refine eE (gC _ _ _)));go_wp2_with fail
   ·have hl:ltInt (G i) (G a)=true:=by simp_all
    go_roundw
    ·exact⟨i+1,by first|rfl|go_num|(congr 1;omega),V,gO V,l.o.1.drewN nq,by rw[<-l.o.2.2,<-AE E (by show ltInt d1[i]! d1[a]! =true;rw[<-l.o.2.1,<-l.o.2.1];rw[hl])]⟩
    simp[intOf];omega
   have hl:ltInt (G i) (G a)=false:=by simp_all
   go_meet;exact⟨by rw[<-l.o.2.2,uY (λhc=>by have W:ltInt d1[i]! d1[a]! =true:=hc.2;rw[<-l.o.2.1,<-l.o.2.1]at W;rw[hl]at W;cases W)],l.o.1.drewN nq⟩
  have α:=cP ((i:Int)<=((b-1):Int));clear k R u y X;go_upto_region 3 with fail;go_quiet (first|(go_at_call 99;refine eE (gC _ _ _)));go_wp2;go_meet;exact⟨by rw[<-l.o.2.2,uY (λhc=>E hc.1)],l.o.1.drewN nq⟩
 obtain⟨rfl,Θ⟩:=hcut;have HA:=U Θ;clear Θ HS;go_upto_block 2 with fail;go_cut [11]from 46 to 62 (λv B=>v=Z F/\aY w g cur d1 B)
 case first=>
  go_wp2;go_loopw [11] (λv B=>∃j:Nat,v=Z j/\j<=(b-1)/\aY w g cur d1 B/\scanDown (λx=> !ltInt x d1[a]!) d1 C j=F) (λv _=>(intOf v).toNat)
  ·exact⟨(b-1),by first|rfl|go_num|(congr 1;omega),ao _,HA.o,G1.o⟩
  obtain⟨j,rfl,n,R,y⟩:=hrel;obtain⟨G,u⟩:∃G:Nat->Int,∀t,G t=d1[t]!:=⟨λt=>d1[t]!,λ_=>rfl⟩;obtain⟨k,A⟩:=R.fam (aA Q.o.2) u;rw[δ]at k;have X:=k a V;have l:=aP R u y;by_cases E:C<=j
  ·have σ:=k j V;have α:=cO ((C:Int)<=(j:Int));clear k R u y;go_upto_region 5 with fail;go_quiet (first|(go_at_call 99;refine eE (gC _ _ _)));go_wp2_with fail
   ·have hl:ltInt (G j) (G a)=false:=by simp_all
    go_roundw
    ·exact⟨j-1,by first|rfl|go_num|(congr 1;omega),V,l.o.1.drewN nq,by rw[<-l.o.2.2,<-AT E V (by show(!ltInt d1[j]! d1[a]!)=true;rw[<-l.o.2.1,<-l.o.2.1];rw[hl];rfl)]⟩
    simp[intOf];omega
   have hl:ltInt (G j) (G a)=true:=by simp_all
   go_meet;exact⟨by rw[<-l.o.2.2,uX (λhc=>by have W:(!ltInt d1[j]! d1[a]!)=true:=hc.2;rw[<-l.o.2.1,<-l.o.2.1]at W;rw[hl]at W;cases W)],l.o.1.drewN nq⟩
  have α:=cP ((C:Int)<=(j:Int));clear k R u y X;go_upto_region 5 with fail;go_quiet (first|(go_at_call 99;refine eE (gC _ _ _)));go_wp2;go_meet;exact⟨by rw[<-l.o.2.2,uX (λhc=>E hc.1)],l.o.1.drewN nq⟩
 obtain⟨rfl,Δ⟩:=hcut;have HB:=U Δ;clear Δ HA;by_cases r:C>F
 ·have ν:=cO ((F:Int)<(C:Int));obtain⟨G,u⟩:∃G:Nat->Int,∀t,G t=d1[t]!:=⟨λt=>d1[t]!,λ_=>rfl⟩;obtain⟨k,A⟩:=HB.o.fam (aA Q.o.2) u;rw[δ]at k;have L:=k F V;have P:=k a V;have T:=U u;clear k u;go_upto_region 8 with fail;go_cut []from 66 to 79 (λB=>aY w g cur (Sort.swp d1 F a) B)
  case first=>
   by_cases ε:F=a
   ·subst ε;go_region
    all_goals go_wp2
    go_meet;rw[T.o];exact HB.o.swp0 V V
   go_region
   all_goals go_wp2
   go_meet;rw[T.o,T.o];exact HB.o.swp0 V V
  have HS:=U hcut;clear hcut L P A;go_wp2;go_ret2;have e:=Fr d a b p f.o H1.o G1.o;rw[av r]at e;rw[e];exact⟨O,HS.o⟩
 have ν:=cP ((F:Int)<(C:Int));have Ψ:=φ V;obtain⟨G,u⟩:∃G:Nat->Int,∀t,G t=d1[t]!:=⟨λt=>d1[t]!,λ_=>rfl⟩;obtain⟨k,A⟩:=HB.o.fam (aA Q.o.2) u;rw[δ]at k;have L:=k C V;have P:=k F V;have T:=U u;clear k u;go_upto_region 10 with fail;go_cut []from 81 to 94 (λB=>aY w g cur (Sort.swp d1 C F) B)
 case first=>
  go_region
  all_goals go_wp2
  go_meet;rw[T.o,T.o];exact HB.o.swp0 V V
 have HS:=U hcut;clear hcut L P A;go_wp2;go_loopw [10,11] (λυ π B=>∃(i j:Nat) (m:Array Int),υ=Z i/\π=Z j/\a<i/\j<b/\m.size=d.size/\aY w g cur m B/\partLoop ltInt a i j m=partLoop ltInt a (C+1) (F-1) (Sort.swp d1 C F)) (λυ π _=>(intOf π+1-intOf υ).toNat)
 ·exact⟨C+1,F-1,Sort.swp d1 C F,by first|rfl|(congr 1;omega),by first|rfl|(congr 1;omega),V,V,(o9 _ _ _).trans δ,HS.o,rfl⟩
 obtain⟨oi,oj,m,rfl,rfl,hai,hjb,ζ,ω,Φ⟩:=hrel;have HK:=U ω;have HP:=U Φ;clear ω Φ;obtain⟨J,θ⟩:=aM (scanUp (λx=>ltInt x m[a]!) m oj (oi));obtain⟨K,μ⟩:=aM (scanDown (λx=> !ltInt x m[a]!) m J oj);have hi2g:oi<=J:=by rw[<-θ];exact scanUp_ge _ _ _ _
 have hj2l:K<=oj:=by rw[<-μ];exact scanDown_le _ _ _ _
 have τ:J<=K->J<K:=λγ=>by
  have f1:=(scanUp_spec (λx=>ltInt x m[a]!) m oj _ (oi) O).2.2.2;have f2:=(scanDown_spec (λx=> !ltInt x m[a]!) m J oj).2.2.2;rw[θ]at f1;rw[μ]at f2;by_cases s:J=K
  ·have g1:=f1 V;have g2:=f2 γ V;rw[<-s]at g2;rw[g1]at g2;cases g2
  omega
 have H2:=U θ;have G2:=U μ;clear θ μ;have ξ:=partLoop_eq (lt:=ltInt) a oi oj m;rw[H2.o,G2.o]at ξ;replace ξ:=U ξ;go_upto_block 6 with fail;go_cut [10]from 99 to 114 (λv B=>v=Z J/\aY w g cur m B)
 case first=>
  go_wp2;go_loopw [10] (λv B=>∃i:Nat,v=Z i/\oi<=i/\(i<=oj+1\/i=oi)/\aY w g cur m B/\scanUp (λx=>ltInt x m[a]!) m oj i=J) (λv _=>oj+1-(intOf v).toNat)
  ·exact⟨oi,by first|rfl|go_num|(congr 1;omega),ao _,jk rfl,HK.o,H2.o⟩
  obtain⟨i,rfl,W,n,R,y⟩:=hrel;obtain⟨G,u⟩:∃G:Nat->Int,∀t,G t=m[t]!:=⟨λt=>m[t]!,λ_=>rfl⟩;obtain⟨k,A⟩:=R.fam (aA Q.o.2) u;rw[ζ]at k;have X:=k a V;have l:=aP R u y;by_cases E:i<=oj
  ·have σ:=k i V;have α:=cO ((i:Int)<=(oj:Int));clear k R u y;go_upto_region 13 with fail;go_quiet (first|(go_at_call 99;refine eE (gC _ _ _)));go_wp2_with fail
   ·have hl:ltInt (G i) (G a)=true:=by simp_all
    go_roundw
    ·exact⟨i+1,by first|rfl|go_num|(congr 1;omega),V,gO V,l.o.1.drewN nq,by rw[<-l.o.2.2,<-AE E (by show ltInt m[i]! m[a]! =true;rw[<-l.o.2.1,<-l.o.2.1];rw[hl])]⟩
    simp[intOf];omega
   have hl:ltInt (G i) (G a)=false:=by simp_all
   go_meet;exact⟨by rw[<-l.o.2.2,uY (λhc=>by have W:ltInt m[i]! m[a]! =true:=hc.2;rw[<-l.o.2.1,<-l.o.2.1]at W;rw[hl]at W;cases W)],l.o.1.drewN nq⟩
  have α:=cP ((i:Int)<=(oj:Int));clear k R u y X;go_upto_region 13 with fail;go_quiet (first|(go_at_call 99;refine eE (gC _ _ _)));go_wp2;go_meet;exact⟨by rw[<-l.o.2.2,uY (λhc=>E hc.1)],l.o.1.drewN nq⟩
 obtain⟨rfl,Ξ⟩:=hcut;have HK3:=U Ξ;clear Ξ;go_upto_block 8 with fail;go_cut [11]from 115 to 131 (λv B=>v=Z K/\aY w g cur m B)
 case first=>
  go_wp2;go_loopw [11] (λv B=>∃j:Nat,v=Z j/\j<=oj/\aY w g cur m B/\scanDown (λx=> !ltInt x m[a]!) m J j=K) (λv _=>(intOf v).toNat)
  ·exact⟨oj,by first|rfl|go_num|(congr 1;omega),ao _,HK3.o,G2.o⟩
  obtain⟨j,rfl,n,R,y⟩:=hrel;obtain⟨G,u⟩:∃G:Nat->Int,∀t,G t=m[t]!:=⟨λt=>m[t]!,λ_=>rfl⟩;obtain⟨k,A⟩:=R.fam (aA Q.o.2) u;rw[ζ]at k;have X:=k a V;have l:=aP R u y;by_cases E:J<=j
  ·have σ:=k j V;have α:=cO ((J:Int)<=(j:Int));clear k R u y;go_upto_region 15 with fail;go_quiet (first|(go_at_call 99;refine eE (gC _ _ _)));go_wp2_with fail
   ·have hl:ltInt (G j) (G a)=false:=by simp_all
    go_roundw
    ·exact⟨j-1,by first|rfl|go_num|(congr 1;omega),V,l.o.1.drewN nq,by rw[<-l.o.2.2,<-AT E V (by show(!ltInt m[j]! m[a]!)=true;rw[<-l.o.2.1,<-l.o.2.1];rw[hl];rfl)]⟩
    simp[intOf];omega
   have hl:ltInt (G j) (G a)=true:=by simp_all
   go_meet;exact⟨by rw[<-l.o.2.2,uX (λhc=>by have W:(!ltInt m[j]! m[a]!)=true:=hc.2;rw[<-l.o.2.1,<-l.o.2.1]at W;rw[hl]at W;cases W)],l.o.1.drewN nq⟩
  have α:=cP ((J:Int)<=(j:Int));clear k R u y X;go_upto_region 15 with fail;go_quiet (first|(go_at_call 99;refine eE (gC _ _ _)));go_wp2;go_meet;exact⟨by rw[<-l.o.2.2,uX (λhc=>E hc.1)],l.o.1.drewN nq⟩
 obtain⟨rfl,Γ⟩:=hcut;replace Γ:=U Γ;by_cases γ:J<=K
 ·have ν:=cP ((K:Int)<(J:Int));have Ψ:=τ γ;have HN:=U (λ(_:J<=K)=>show partLoop ltInt a (J+1) (K-1) (Sort.swp m J K)=partLoop ltInt a (C+1) (F-1) (Sort.swp d1 C F)from by rw[<-HP.o,ξ.o,al V]);obtain⟨G,u⟩:∃G:Nat->Int,∀t,G t=m[t]!:=⟨λt=>m[t]!,λ_=>rfl⟩;obtain⟨k,A⟩:=Γ.o.fam (aA Q.o.2) u;rw[ζ]at k;have L:=k J V;have P:=k K V;have T:=U u;clear k u;go_upto_region 18 with fail;go_cut []from 135 to 148 (λB=>aY w g cur (Sort.swp m J K) B)
  case first=>
   go_region
   all_goals go_wp2
   go_meet;rw[T.o,T.o];exact Γ.o.swp0 V V
  have HS:=U hcut;clear hcut L P A;go_wp2;go_roundw
  ·exact⟨J+1,K-1,Sort.swp m J K,by first|rfl|(congr 1;omega),by first|rfl|(congr 1;omega),V,V,(o9 _ _ _).trans ζ,HS.o,HN.o γ⟩
  simp[intOf];omega
 have ν:=cO ((K:Int)<(J:Int));have HE:=U (show partLoop ltInt a (C+1) (F-1) (Sort.swp d1 C F)=(K,m)from by rw[<-HP.o,ξ.o,av V]);obtain⟨G,u⟩:∃G:Nat->Int,∀t,G t=m[t]!:=⟨λt=>m[t]!,λ_=>rfl⟩;obtain⟨k,A⟩:=Γ.o.fam (aA Q.o.2) u;rw[ζ]at k;have L:=k K V;have P:=k a V;have T:=U u;clear k u;go_upto_region 21 with fail;go_cut []from 153 to 166 (λB=>aY w g cur (Sort.swp m K a) B)
 case first=>
  by_cases ε:K=a
  ·subst ε;go_region
   all_goals go_wp2
   go_meet;rw[T.o];exact Γ.o.swp0 V V
  go_region
  all_goals go_wp2
  go_meet;rw[T.o,T.o];exact Γ.o.swp0 V V
 have HS:=U hcut;clear hcut L P A;go_wp2;go_ret2;have e:=Fr d a b p f.o H1.o G1.o;rw[al V,HE.o]at e;rw[e];exact⟨O,HS.o⟩
def Q8(h:dG w g cur d)(hs:d.size<=cur.size)(hz:d.size<=1000000)(c a b p:Nat)(Ψ:a<=p)(Ξ:p<b)(s:b<=d.size):
  Calls prog 100 #[bh g d.size c,Z a,Z b,Z p] w λe w'=>e=.returned (Z (partitionEqual ltInt d a b p).1)/\aY w g cur (partitionEqual ltInt d a b p).2 w':=by
 obtain⟨d1,η⟩:=aM (Sort.swp d a p);have υ:d1.size=d.size:=by rw[<-η,o9]
 have ψ:d.size=d.size:=O;have T:=aB h hs;have H0:=U (aY.refl h);have HD:=U η;have n:(b:Int)-1=((b-1:Nat):Int):=V;clear h hs η;go_in;obtain⟨G,y⟩:∃G:Nat->Int,∀t,G t=d[t]!:=⟨λt=>d[t]!,λ_=>rfl⟩;obtain⟨k,J⟩:=H0.o.fam (aA T.o.2) y;rw[ψ]at k;have δ:=k a V;have ζ:=k p V;have HG:=U y;clear k y;go_upto_region 1 with fail;go_cut []from 11 to 24 (λE=>aY w g cur (Sort.swp d a p) E)
 case first=>
  by_cases φ:a=p
  ·subst φ;go_region
   all_goals go_wp2
   go_meet;rw[HG.o];exact H0.o.swp0 V V
  go_region
  all_goals go_wp2
  go_meet;rw[HG.o,HG.o];exact H0.o.swp0 V V
 have HS:=U hcut;clear hcut δ ζ J;rw[HD.o]at HS;go_wp2;go_loopw [9,10] (λα ι E=>∃(i j:Nat) (l:Array Int),α=Z i/\ι=Z j/\a<i/\j<b/\l.size=d.size/\aY w g cur l E/\partEqLoop ltInt a i j l=partEqLoop ltInt a (a+1) (b-1) d1) (λα ι _=>(intOf ι+1-intOf α).toNat)
 ·exact⟨a+1,b-1,d1,by first|rfl|(congr 1;omega),by first|rfl|(congr 1;omega),V,V,υ,HS.o,rfl⟩
 obtain⟨oi,C,l,rfl,rfl,Ω,Φ,P,σ,ν⟩:=hrel;have HK:=U σ;have HP:=U ν;clear σ ν;obtain⟨m,L⟩:=aM (scanUp (λx=> !ltInt l[a]! x) l C (oi));obtain⟨A,R⟩:=aM (scanDown (λx=>ltInt l[a]! x) l m C);have Δ:oi<=m:=by rw[<-L];exact scanUp_ge _ _ _ _
 have Γ:A<=C:=by rw[<-R];exact scanDown_le _ _ _ _
 have κ:m<=A->m<A:=λQ=>by
  have f1:=(scanUp_spec (λx=> !ltInt l[a]! x) l C _ (oi) O).2.2.2;have f2:=(scanDown_spec (λx=>ltInt l[a]! x) l m C).2.2.2;rw[L]at f1;rw[R]at f2;by_cases f:m=A
  ·have g1:=f1 V;have g2:=f2 Q V;rw[<-f]at g2;rw[g2]at g1;cases g1
  omega
 have H2:=U L;have G2:=U R;clear L R;have β:=partEqLoop_eq (lt:=ltInt) a oi C l;rw[H2.o,G2.o]at β;replace β:=U β;go_upto_block 2 with fail;go_cut [9]from 29 to 45 (λv E=>v=Z m/\aY w g cur l E)
 case first=>
  go_wp2;go_loopw [9] (λv E=>∃i:Nat,v=Z i/\oi<=i/\(i<=C+1\/i=oi)/\aY w g cur l E/\scanUp (λx=> !ltInt l[a]! x) l C i=m) (λv _=>C+1-(intOf v).toNat)
  ·exact⟨oi,by first|rfl|go_num|(congr 1;omega),ao _,jk rfl,HK.o,H2.o⟩
  obtain⟨i,rfl,W,h2,K,B⟩:=hrel;obtain⟨G,y⟩:∃G:Nat->Int,∀t,G t=l[t]!:=⟨λt=>l[t]!,λ_=>rfl⟩;obtain⟨k,J⟩:=K.fam (aA T.o.2) y;rw[P]at k;have γ:=k a V;have u:=aP K y B;by_cases F:i<=C
  ·have χ:=k i V;have X:=cO ((i:Int)<=(C:Int));clear k K y B;go_upto_region 3 with fail;go_quiet (first|(go_at_call 99;refine eE (gC _ _ _)));go_wp2_with fail
   ·have hl:ltInt (G a) (G i)=false:=by simp_all
    go_roundw
    ·exact⟨i+1,by first|rfl|go_num|(congr 1;omega),V,gO V,u.o.1.drewN nq,by rw[<-u.o.2.2,<-AE F (by show(!ltInt l[a]! l[i]!)=true;rw[<-u.o.2.1,<-u.o.2.1];rw[hl];rfl)]⟩
    simp[intOf];omega
   have hl:ltInt (G a) (G i)=true:=by simp_all
   go_meet;exact⟨by rw[<-u.o.2.2,uY (λhc=>by have W:(!ltInt l[a]! l[i]!)=true:=hc.2;rw[<-u.o.2.1,<-u.o.2.1]at W;rw[hl]at W;cases W)],u.o.1.drewN nq⟩
  have X:=cP ((i:Int)<=(C:Int));clear k K y B γ;go_upto_region 3 with fail;go_quiet (first|(go_at_call 99;refine eE (gC _ _ _)));go_wp2;go_meet;exact⟨by rw[<-u.o.2.2,uY (λhc=>F hc.1)],u.o.1.drewN nq⟩
 obtain⟨rfl,ξ⟩:=hcut;replace ξ:=U ξ;go_upto_block 4 with fail;go_cut [10]from 46 to 61 (λv E=>v=Z A/\aY w g cur l E)
 case first=>
  go_wp2;go_loopw [10] (λv E=>∃j:Nat,v=Z j/\j<=C/\aY w g cur l E/\scanDown (λx=>ltInt l[a]! x) l m j=A) (λv _=>(intOf v).toNat)
  ·exact⟨C,by first|rfl|go_num|(congr 1;omega),ao _,ξ.o,G2.o⟩
  obtain⟨j,rfl,h2,K,B⟩:=hrel;obtain⟨G,y⟩:∃G:Nat->Int,∀t,G t=l[t]!:=⟨λt=>l[t]!,λ_=>rfl⟩;obtain⟨k,J⟩:=K.fam (aA T.o.2) y;rw[P]at k;have γ:=k a V;have u:=aP K y B;by_cases F:m<=j
  ·have χ:=k j V;have X:=cO ((m:Int)<=(j:Int));clear k K y B;go_upto_region 5 with fail;go_quiet (first|(go_at_call 99;refine eE (gC _ _ _)));go_wp2_with fail
   ·have hl:ltInt (G a) (G j)=true:=by simp_all
    go_roundw
    ·exact⟨j-1,by first|rfl|go_num|(congr 1;omega),V,u.o.1.drewN nq,by rw[<-u.o.2.2,<-AT F V (by show ltInt l[a]! l[j]! =true;rw[<-u.o.2.1,<-u.o.2.1];rw[hl])]⟩
    simp[intOf];omega
   have hl:ltInt (G a) (G j)=false:=by simp_all
   go_meet;exact⟨by rw[<-u.o.2.2,uX (λhc=>by have W:ltInt l[a]! l[j]! =true:=hc.2;rw[<-u.o.2.1,<-u.o.2.1]at W;rw[hl]at W;cases W)],u.o.1.drewN nq⟩
  have X:=cP ((m:Int)<=(j:Int));clear k K y B γ;go_upto_region 5 with fail;go_quiet (first|(go_at_call 99;refine eE (gC _ _ _)));go_wp2;go_meet;exact⟨by rw[<-u.o.2.2,uX (λhc=>F hc.1)],u.o.1.drewN nq⟩
 obtain⟨rfl,μ⟩:=hcut;replace μ:=U μ;by_cases Q:m<=A
 ·have τ:=cP ((A:Int)<(m:Int));have Θ:=κ Q;have HN:=U (λ(_:m<=A)=>show partEqLoop ltInt a (m+1) (A-1) (Sort.swp l m A)=partEqLoop ltInt a (a+1) (b-1) d1 from by rw[<-HP.o,β.o,al V]);obtain⟨G,y⟩:∃G:Nat->Int,∀t,G t=l[t]!:=⟨λt=>l[t]!,λ_=>rfl⟩;obtain⟨k,J⟩:=μ.o.fam (aA T.o.2) y;rw[P]at k;have δ:=k m V;have ζ:=k A V;have HG:=U y;clear k y;go_upto_region 8 with fail;go_cut []from 65 to 78 (λE=>aY w g cur (Sort.swp l m A) E)
  case first=>
   go_region
   all_goals go_wp2
   go_meet;rw[HG.o,HG.o];exact μ.o.swp0 V V
  have HS:=U hcut;clear hcut δ ζ J;go_wp2;go_roundw
  ·exact⟨m+1,A-1,Sort.swp l m A,by first|rfl|(congr 1;omega),by first|rfl|(congr 1;omega),V,V,(o9 _ _ _).trans P,HS.o,HN.o Q⟩
  simp[intOf];omega
 have τ:=cO ((A:Int)<(m:Int));have r:=U (show partEqLoop ltInt a (a+1) (b-1) d1=(m,l)from by rw[<-HP.o,β.o,av V]);go_wp2;go_ret;have e:partitionEqual ltInt d a b p=(m,l):=by unfold partitionEqual;rw[HD.o];exact r.o
 rw[e];exact⟨O,μ.o⟩
end
section
open Go.Shelf
def yM:Go.Shelf.Ren:=⟨λ|6=>63|15=>70|14=>90|28=>102|29=>103|20=>120|21=>121|22=>122|23=>123|24=>124|25=>125|26=>126|27=>127|46=>145|47=>129|48=>130|49=>146|50=>147|57=>160|n=>n,λ|22=>35|24=>119|25=>194|3=>3|39=>179|0=>0|53=>230|55=>31|4=>4|46=>223|45=>222|50=>227|5=>5|9=>9|66=>270|70=>274|76=>295|77=>296|n=>n,λ|n=>n⟩
def wU:Go.Proofs.SlLaysF0.n6 prog yM:={
 mixed:=Y
 f6:=⟨Tryz.f63.name,ai,func63.trans (bH some Y)⟩
 f14:=⟨Tryz.f90.name,ai,func90.trans (bH some Y)⟩
 f15:=func70.trans (bH some Y)
 f20:=⟨Tryz.f120.name,ai,func120.trans (bH some Y)⟩
 f21:=⟨Tryz.f121.name,ai,func121.trans (bH some Y)⟩
 f22:=⟨Tryz.f122.name,ai,func122.trans (bH some Y)⟩
 f23:=⟨Tryz.f123.name,ai,func123.trans (bH some Y)⟩
 f24:=⟨Tryz.f124.name,ai,func124.trans (bH some Y)⟩
 f25:=⟨Tryz.f125.name,ai,func125.trans (bH some Y)⟩
 f26:=⟨Tryz.f126.name,ai,func126.trans (bH some Y)⟩
 f27:=⟨Tryz.f127.name,ai,func127.trans (bH some Y)⟩
 f28:=func102.trans (bH some Y)
 f29:=func103.trans (bH some Y)
 f46:=⟨Tryz.f145.name,ai,func145.trans (bH some Y)⟩
 f47:=func129.trans (bH some Y)
 f48:=func130.trans (bH some Y)
 f49:=⟨Tryz.f146.name,ai,func146.trans (bH some Y)⟩
 f50:=⟨Tryz.f147.name,ai,func147.trans (bH some Y)⟩
 f57:=⟨Tryz.f160.name,ai,func160.trans (bH some Y)⟩
 t0:=underlying0
 a0:=isAgg0
 z0:=sizeOf0
 v0:=zeroValue0
 t3:=underlying3
 a3:=isAgg3
 z3:=sizeOf3
 v3:=zeroValue3
 t4:=underlying4
 a4:=isAgg4
 z4:=sizeOf4
 v4:=zeroValue4
 t5:=underlying5
 a5:=isAgg5
 z5:=sizeOf5
 v5:=zeroValue5
 t9:=underlying9
 a9:=isAgg9
 z9:=sizeOf9
 v9:=zeroValue9
 t22:=underlying35
 a22:=isAgg35
 z22:=sizeOf35
 v22:=zeroValue35
 t25:=underlying194
 a25:=isAgg194
 z25:=sizeOf194
 v25:=zeroValue194
 t39:=underlying179
 a39:=isAgg179
 z39:=sizeOf179
 v39:=zeroValue179
 t45:=underlying222
 a45:=isAgg222
 z45:=sizeOf222
 v45:=zeroValue222
 t46:=underlying223
 a46:=isAgg223
 z46:=sizeOf223
 v46:=zeroValue223
 t50:=underlying227
 a50:=isAgg227
 z50:=sizeOf227
 v50:=zeroValue227
 t53:=underlying230
 a53:=isAgg230
 z53:=sizeOf230
 v53:=zeroValue230
 t55:=underlying31
 a55:=isAgg31
 z55:=sizeOf31
 v55:=zeroValue31
 t66:=underlying270
 a66:=isAgg270
 z66:=sizeOf270
 v66:=zeroValue270
 t70:=underlying274
 a70:=isAgg274
 z70:=sizeOf274
 v70:=zeroValue274
 t76:=underlying295
 a76:=isAgg295
 z76:=sizeOf295
 v76:=zeroValue295
 t77:=underlying296
 a77:=isAgg296
 z77:=sizeOf296
 v77:=zeroValue296}
def aat:Go.Shelf.Ren:=⟨λ|6=>294|15=>70|14=>307|28=>102|29=>103|20=>317|21=>318|22=>319|23=>320|24=>321|25=>322|26=>323|27=>324|46=>328|47=>129|48=>130|49=>329|50=>330|57=>332|n=>n,λ|22=>233|24=>292|25=>413|3=>3|39=>179|0=>0|53=>230|55=>31|4=>4|46=>223|45=>222|50=>227|5=>5|9=>9|66=>270|70=>274|76=>295|77=>296|n=>n,λ|n=>n⟩
def FZ:Go.Proofs.SlLaysF0.n6 prog aat:={
 mixed:=Y
 f6:=⟨Tryz.f294.name,ai,func294.trans (bH some Y)⟩
 f14:=⟨Tryz.f307.name,ai,func307.trans (bH some Y)⟩
 f15:=func70.trans (bH some Y)
 f20:=⟨Tryz.f317.name,ai,func317.trans (bH some Y)⟩
 f21:=⟨Tryz.f318.name,ai,func318.trans (bH some Y)⟩
 f22:=⟨Tryz.f319.name,ai,func319.trans (bH some Y)⟩
 f23:=⟨Tryz.f320.name,ai,func320.trans (bH some Y)⟩
 f24:=⟨Tryz.f321.name,ai,func321.trans (bH some Y)⟩
 f25:=⟨Tryz.f322.name,ai,func322.trans (bH some Y)⟩
 f26:=⟨Tryz.f323.name,ai,func323.trans (bH some Y)⟩
 f27:=⟨Tryz.f324.name,ai,func324.trans (bH some Y)⟩
 f28:=func102.trans (bH some Y)
 f29:=func103.trans (bH some Y)
 f46:=⟨Tryz.f328.name,ai,func328.trans (bH some Y)⟩
 f47:=func129.trans (bH some Y)
 f48:=func130.trans (bH some Y)
 f49:=⟨Tryz.f329.name,ai,func329.trans (bH some Y)⟩
 f50:=⟨Tryz.f330.name,ai,func330.trans (bH some Y)⟩
 f57:=⟨Tryz.f332.name,ai,func332.trans (bH some Y)⟩
 t0:=underlying0
 a0:=isAgg0
 z0:=sizeOf0
 v0:=zeroValue0
 t3:=underlying3
 a3:=isAgg3
 z3:=sizeOf3
 v3:=zeroValue3
 t4:=underlying4
 a4:=isAgg4
 z4:=sizeOf4
 v4:=zeroValue4
 t5:=underlying5
 a5:=isAgg5
 z5:=sizeOf5
 v5:=zeroValue5
 t9:=underlying9
 a9:=isAgg9
 z9:=sizeOf9
 v9:=zeroValue9
 t22:=underlying233
 a22:=isAgg233
 z22:=sizeOf233
 v22:=zeroValue233
 t25:=underlying413
 a25:=isAgg413
 z25:=sizeOf413
 v25:=zeroValue413
 t39:=underlying179
 a39:=isAgg179
 z39:=sizeOf179
 v39:=zeroValue179
 t45:=underlying222
 a45:=isAgg222
 z45:=sizeOf222
 v45:=zeroValue222
 t46:=underlying223
 a46:=isAgg223
 z46:=sizeOf223
 v46:=zeroValue223
 t50:=underlying227
 a50:=isAgg227
 z50:=sizeOf227
 v50:=zeroValue227
 t53:=underlying230
 a53:=isAgg230
 z53:=sizeOf230
 v53:=zeroValue230
 t55:=underlying31
 a55:=isAgg31
 z55:=sizeOf31
 v55:=zeroValue31
 t66:=underlying270
 a66:=isAgg270
 z66:=sizeOf270
 v66:=zeroValue270
 t70:=underlying274
 a70:=isAgg274
 z70:=sizeOf274
 v70:=zeroValue274
 t76:=underlying295
 a76:=isAgg295
 z76:=sizeOf295
 v76:=zeroValue295
 t77:=underlying296
 a77:=isAgg296
 z77:=sizeOf296
 v77:=zeroValue296}
def JJ:Go.Shelf.Ren:=⟨λ|6=>291|15=>70|14=>304|28=>102|29=>103|20=>309|21=>310|22=>311|23=>312|24=>313|25=>314|26=>315|27=>316|46=>325|47=>129|48=>130|49=>326|50=>327|57=>331|n=>n,λ|22=>393|24=>336|25=>410|3=>3|39=>179|0=>0|53=>230|55=>31|4=>4|46=>223|45=>222|50=>227|5=>5|9=>9|66=>270|70=>274|76=>295|77=>296|n=>n,λ|n=>n⟩
def FM:Go.Proofs.SlLaysF.n6 prog JJ:={
 mixed:=Y
 f6:=⟨Tryz.f291.name,ai,func291.trans (bH some Y)⟩
 f14:=⟨Tryz.f304.name,ai,func304.trans (bH some Y)⟩
 f15:=func70.trans (bH some Y)
 f20:=⟨Tryz.f309.name,ai,func309.trans (bH some Y)⟩
 f21:=⟨Tryz.f310.name,ai,func310.trans (bH some Y)⟩
 f22:=⟨Tryz.f311.name,ai,func311.trans (bH some Y)⟩
 f23:=⟨Tryz.f312.name,ai,func312.trans (bH some Y)⟩
 f24:=⟨Tryz.f313.name,ai,func313.trans (bH some Y)⟩
 f25:=⟨Tryz.f314.name,ai,func314.trans (bH some Y)⟩
 f26:=⟨Tryz.f315.name,ai,func315.trans (bH some Y)⟩
 f27:=⟨Tryz.f316.name,ai,func316.trans (bH some Y)⟩
 f28:=func102.trans (bH some Y)
 f29:=func103.trans (bH some Y)
 f46:=⟨Tryz.f325.name,ai,func325.trans (bH some Y)⟩
 f47:=func129.trans (bH some Y)
 f48:=func130.trans (bH some Y)
 f49:=⟨Tryz.f326.name,ai,func326.trans (bH some Y)⟩
 f50:=⟨Tryz.f327.name,ai,func327.trans (bH some Y)⟩
 f57:=⟨Tryz.f331.name,ai,func331.trans (bH some Y)⟩
 t0:=underlying0
 a0:=isAgg0
 z0:=sizeOf0
 v0:=zeroValue0
 t3:=underlying3
 a3:=isAgg3
 z3:=sizeOf3
 v3:=zeroValue3
 t4:=underlying4
 a4:=isAgg4
 z4:=sizeOf4
 v4:=zeroValue4
 t5:=underlying5
 a5:=isAgg5
 z5:=sizeOf5
 v5:=zeroValue5
 t9:=underlying9
 a9:=isAgg9
 z9:=sizeOf9
 v9:=zeroValue9
 t22:=underlying393
 a22:=isAgg393
 z22:=sizeOf393
 v22:=zeroValue393
 a24:=isAgg336
 z24:=sizeOf336
 t25:=underlying410
 a25:=isAgg410
 z25:=sizeOf410
 v25:=zeroValue410
 t39:=underlying179
 a39:=isAgg179
 z39:=sizeOf179
 v39:=zeroValue179
 t45:=underlying222
 a45:=isAgg222
 z45:=sizeOf222
 v45:=zeroValue222
 t46:=underlying223
 a46:=isAgg223
 z46:=sizeOf223
 v46:=zeroValue223
 t50:=underlying227
 a50:=isAgg227
 z50:=sizeOf227
 v50:=zeroValue227
 t53:=underlying230
 a53:=isAgg230
 z53:=sizeOf230
 v53:=zeroValue230
 t55:=underlying31
 a55:=isAgg31
 z55:=sizeOf31
 v55:=zeroValue31
 t66:=underlying270
 a66:=isAgg270
 z66:=sizeOf270
 v66:=zeroValue270
 t70:=underlying274
 a70:=isAgg274
 z70:=sizeOf274
 v70:=zeroValue274
 t76:=underlying295
 a76:=isAgg295
 z76:=sizeOf295
 v76:=zeroValue295
 t77:=underlying296
 a77:=isAgg296
 z77:=sizeOf296
 v77:=zeroValue296}
end
section
open Go.Sort
def VU{c X:Nat}(k:X<18446744073709551616)(o:w.cell? (I c 0)=some (q X))(l:w.frozen? (I c 0)=false):
  Calls prog 130 #[N c] w λe m=>∃a:Nat,e=.returned (q a)/\a<18446744073709551616/\m=(w.setCell (I c 0) (q a)).drewN 3:=
 (AnyF.xorshift_Next (P:=prog) (ρ:=yM) {wU with} c 0 X k w o l).mono λ_ _ h=>⟨xorNextN X,h.1,xorNextN_lt X k,h.2⟩
def XT(k:0<n)(l:n<=1000000)(w:D):Calls prog 129 #[Z n] w λe c=>∃a:Nat,e=.returned (q a)/\1<=a/\a<=2*n/\w=c:=
 (AnyF.nextPowerOfTwo (P:=prog) (ρ:=yM) {wU with} n V w).mono λ_ _ h=>⟨1<<<bitsLen n,h.1,by rw[Nat.one_shiftLeft];exact Nat.two_pow_pos _,by rw[Nat.one_shiftLeft];exact two_pow_bitsLen_le k,h.2.symm⟩
def A8(c:n<=1000000)(w:D):Calls prog 70 #[q n] w λe a=>∃k:Nat,e=.returned (Z k)/\k<=62/\w=a:=by have h:=Any.bits_Len (SlLaysF0.n15.bits (P:=prog) (ρ:=yM) {wU with}) (n:Int) w V V;rw[yy,bitLen_eq _ V]at h;exact h.mono λ_ _ h=>⟨bitsLen n,h.1,(bitsLen_le_iff n 62).2 V,h.2.symm⟩
def Ty(h:dG w g cur d)(hs:d.size<=cur.size)(hz:d.size<=1000000)(c a l:Nat)(hl:12<l)(δ:a+l<=d.size)(hb:b=a+l):
  Calls prog 95 #[bh g d.size c,Z a,Z b] w λe w'=>e=.returned (.tuple #[])/\∃d',PermIn a b d d'/\aY w g cur d' w':=by
 have e1:(b:Int)-(a:Int)=(l:Int):=V;have e2:(l:Int).tdiv 4=((l/4:Nat):Int):=by rw[vw V];omega
 obtain⟨B,hq⟩:=aM (l/4);rw[hq]at e2;have ε:4*B<=l/\3<=B:=V;have Θ:B<=1000000:=V;have ν:l<=1000000:=V;have J:=iA h hs ε hb δ;have ψ:=M.lt h;have CP:=U λw=>XT (n:=l) V V w;clear h hs hb hq ε δ;go_in;go_wp2_with fail;apply(CP.o _).mono;rintro e w1 ⟨L,rfl,σ,χ,rfl⟩;have B0:M (w.alloc (.cells #[q (l:Int)] 270)) w.heap.size 270 #[q (l:Int)]:=M.new _ _ _;have S0:aY w g cur d (w.alloc (.cells #[q (l:Int)] 270)):=⟨M.alloc J.o.1 _,aa.alloc _⟩;have H0:=aB S0 B0;obtain⟨o,ho⟩:∃o:Nat,o=a+B*2-1:=⟨_,O⟩;have φ:(a:Int)+(B:Int)*2-1=(o:Int):=aA J.o.2.2.1.2;have Δ:(a:Int)+(B:Int)*2+1=(o:Int)+2:=V;have ω:o<=1000000:=aA J.o.2.2;have κ:a<=o/\o+2<a+l:=aA J.o.2.2;clear S0 B0 CP ho;generalize w.alloc (.cells #[q (l:Int)] 270)=W0 at H0⊢;go_wp2;go_loopw [9] (λv wr=>∃(t X:Nat) (K:Array Int),v=Z ((o:Int)+t)/\t<=3/\X<18446744073709551616/\PermIn a b d K/\aY w g cur K wr/\M wr w.heap.size 270 #[q X]) (λv _=>o+3-(intOf v).toNat);exact⟨0,l,d,ah,V,V,permIn_refl _ _ _,H0.o.1,H0.o.2⟩;obtain⟨t,X,K,rfl,ht,hX,hp,hS,hB⟩:=hrel;have T:=aP hp hS hB;by_cases Γ:t<3
 ·have hd:=cO ((o:Int)+(t:Int)<=(o:Int)+2);have CN:=U (VU hX (by rw[hB.cell];rfl) (hB.frozen 0));clear hp hS hB;go_wp2_with fail;apply CN.o.mono;rintro e w2 ⟨x,rfl,hY,α⟩;obtain⟨m,hO⟩:∃m:Nat,m=x&&&(L-1):=⟨_,O⟩;have lO:m<=L-1:=by rw[hO];exact Nat.and_le_right
  have μ:bits .and .u64 (x:Int) ((L:Int)-1)=(m:Int):=by rw[bU (((L:Int)-1)=((L-1:Nat):Int)),bits_and_u64_nat _ _ hY V,hO]
  have S2:aY w g cur K w2:=by rw[α];refine⟨(M.far T.o.2.1.1 (p:=(I w.heap.size 0)) (by show g≠w.heap.size;omega) _:_),T.o.2.1.2.trans' (G:=λk=>k=w.heap.size) ?_ ?_⟩;exact(aa.set (F:=λk=>k=w.heap.size) (I w.heap.size 0) O _).trans (aa.drewN 3);intro k hk e;have e:k=w.heap.size:=e;omega
  have B2:M w2 w.heap.size 270 #[q x]:=by rw[α];exact M.set_ T.o.2.2 0 (q x)
  have γ:K.size=d.size:=T.o.1.1;obtain⟨G,hG⟩:∃G:Nat->Int,∀t,G t=K[t]!:=⟨λt=>K[t]!,λ_=>rfl⟩;obtain⟨E,τ⟩:=S2.fam (aA J.o.2) hG;rw[γ]at E;have u:=iA S2 B2 hG hY γ;have R:=U J.o.2.2;clear S2 B2 α hG hO CN;by_cases υ:l<=m
  ·have η:=cO ((l:Int)<=(m:Int));obtain⟨y,ι⟩:=aM (m-l);have ξ:(m:Int)-(l:Int)=(y:Int):=V;have π:y<l:=V;clear ι;have hy:a+(y)<d.size:=aA R.o;have hx:o+t<d.size:=aA R.o;have ζ:=E (o+t) hx;have θ:=E (a+(y)) hy;have HS:∀W,aY w g cur (Sort.swp K (o+t) (a+(y))) W->M W w.heap.size 270 #[q x]->∃(t' X:Nat) (Q:Array Int),Z ((o:Int)+t+1)=Z ((o:Int)+t')/\t'<=3/\X<18446744073709551616/\PermIn a b d Q/\aY w g cur Q W/\M W w.heap.size 270 #[q X]:=λW h1 h2=>⟨t+1,x,_,by congr 1<;>omega,V,u.o.2.2.2.1,rp _ _ _ a b T.o.1 (swp_permIn K a b _ _ V (aA R.o) V (aA R.o) (by rw[u.o.2.2.2.2];have:=R.o;omega)),h1,h2⟩;have P:=U HS;clear HS E;have C:∀(p:Addr) (v:H) (W:D),p.block=g->M W w.heap.size 270 #[q x]->M (W.setCell p v) w.heap.size 270 #[q x]:=λp v W e h=>h.far (by rw[e];omega) v;have A:=U C;clear C;by_cases β:o+t=a+(y)
   ·go_upto_region 10 with fail;go_region
    all_goals go_wp2
    go_roundw;refine P.o _ ?_ (A.o _ _ _ O (A.o _ _ _ O u.o.2.1));rw[u.o.2.2.1,β];exact u.o.1.swp0 (by rw[u.o.2.2.2.2];omega) (by rw[u.o.2.2.2.2];omega);simp[intOf];omega
   go_upto_region 10 with fail;go_region
   all_goals go_wp2
   go_roundw;refine P.o _ ?_ (A.o _ _ _ O (A.o _ _ _ O u.o.2.1));rw[u.o.2.2.1,u.o.2.2.1];exact u.o.1.swp0 (by rw[u.o.2.2.2.2];omega) (by rw[u.o.2.2.2.2];omega);simp[intOf];omega
  have η:=cP ((l:Int)<=(m:Int));have hy:a+(m)<d.size:=aA R.o;have hx:o+t<d.size:=aA R.o;have ζ:=E (o+t) hx;have θ:=E (a+(m)) hy;have HS:∀W,aY w g cur (Sort.swp K (o+t) (a+(m))) W->M W w.heap.size 270 #[q x]->∃(t' X:Nat) (Q:Array Int),Z ((o:Int)+t+1)=Z ((o:Int)+t')/\t'<=3/\X<18446744073709551616/\PermIn a b d Q/\aY w g cur Q W/\M W w.heap.size 270 #[q X]:=λW h1 h2=>⟨t+1,x,_,by congr 1<;>omega,V,u.o.2.2.2.1,rp _ _ _ a b T.o.1 (swp_permIn K a b _ _ V (aA R.o) V (aA R.o) (by rw[u.o.2.2.2.2];have:=R.o;omega)),h1,h2⟩;have P:=U HS;clear HS E;have C:∀(p:Addr) (v:H) (W:D),p.block=g->M W w.heap.size 270 #[q x]->M (W.setCell p v) w.heap.size 270 #[q x]:=λp v W e h=>h.far (by rw[e];omega) v;have A:=U C;clear C;by_cases β:o+t=a+(m)
  ·go_upto_region 10 with fail;go_region
   all_goals go_wp2
   go_roundw;refine P.o _ ?_ (A.o _ _ _ O (A.o _ _ _ O u.o.2.1));rw[u.o.2.2.1,β];exact u.o.1.swp0 (by rw[u.o.2.2.2.2];omega) (by rw[u.o.2.2.2.2];omega);simp[intOf];omega
  go_upto_region 10 with fail;go_region
  all_goals go_wp2
  go_roundw;refine P.o _ ?_ (A.o _ _ _ O (A.o _ _ _ O u.o.2.1));rw[u.o.2.2.1,u.o.2.2.1];exact u.o.1.swp0 (by rw[u.o.2.2.2.2];omega) (by rw[u.o.2.2.2.2];omega);simp[intOf];omega
 obtain rfl:t=3:=V;have hd:=cP ((o:Int)+((3:Nat):Int)<=(o:Int)+2);go_wp2;go_end0;exact⟨O,K,T.o.1,T.o.2.1⟩
structure kp(a b:Nat)(d:Array Int)(a' b':Nat)(dk:Array Int):Prop where
 sz:dk.size=d.size
 ha:a<=a'
 hm:a'<=b'
 hb:b'<=b
 bel:Go.Sort.Below ltInt a' b' dk
 go:∀R,PermIn a' b' dk R->SortedIn ltInt a' b' R->PermIn a b d R/\SortedIn ltInt a b R
section
variable{a b a' b':Nat}{d dk dj:Array Int}
def kp.start(c:a<=b)(h:Go.Sort.Below ltInt a b d):kp a b d a b d:=⟨O,ao _,c,ao _,h,λ_ e k=>⟨e,k⟩⟩
def kp.perm(h:kp a b d a' b' dk)(k:b<=d.size)(c:PermIn a' b' dk dj):kp a b d a' b' dj:=
 ⟨c.1.trans h.sz,h.ha,h.hm,h.hb,Go.Sort.Below.perm h.bel (cF h.sz h.hb) c,λR e l=>h.go R (rp _ _ _ _ _ c e) l⟩
def kp.eq(h:kp a b d a' b' dk)(A:b<=d.size)(x:0<a'){p:Nat}(c:a'<=p)(e:p<b')(t:ltInt dk[a'-1]! dk[p]! =false):
  a'<(partitionEqual ltInt dk a' b' p).1/\kp a b d (partitionEqual ltInt dk a' b' p).1 b' (partitionEqual ltInt dk a' b' p).2:=by
 obtain⟨m,u,y,v,o⟩:=round_eq swo_ltInt (partitionEqual_holds (lt:=ltInt)) x c e (cF h.sz h.hb) h.bel t (rfl:partitionEqual ltInt dk a' b' p=(_,_));exact⟨m,y.trans h.sz,aZ h.ha (Nat.le_of_lt m),u,h.hb,v,λR l k=>h.go R (o R l k).1 (o R l k).2⟩
def kp.part(h:kp a b d a' b' dk)(P:b<=d.size){p:Nat}(u:a'<=p)(v:p<b'):∃m K c,partition ltInt dk a' b' p=(m,K,c)/\a'<=m/\m<b'/\c.size=d.size/\Go.Sort.Below ltInt a' m c/\Go.Sort.Below ltInt (m+1) b' c/\
  (∀L,PermIn a' m c L->SortedIn ltInt a' m L->kp a b d (m+1) b' L)/\(∀L,PermIn (m+1) b' c L->SortedIn ltInt (m+1) b' L->kp a b d a' m L):=by
 have x:b'<=dk.size:=cF h.sz h.hb;obtain⟨B,C,y,E,G,J,F⟩:=round_part swo_ltInt (partition_holds (lt:=ltInt)) u v x h.bel (rfl:partition ltInt dk a' b' p=(_,_,_));refine⟨_,_,_,O,B,C,y.trans h.sz,E,G,λL o A=>?_,λL o A=>?_⟩;obtain⟨t,l⟩:=J L o A;exact⟨o.1.trans (y.trans h.sz),aA h.ha,V,h.hb,t,λR e k=>h.go R (l R e k).1 (l R e k).2⟩;obtain⟨t,l⟩:=F L o A;exact⟨o.1.trans (y.trans h.sz),h.ha,B,aA h.hb,t,λR e k=>h.go R (l R e k).1 (l R e k).2⟩
end
def Ew(h:dG w g cur d)(m:d.size<=cur.size)(l:M w s 3 #[Z n])(a:g≠s)(u:n<=50)(v:d.size<=1000000)(c i:Nat)(hi:i+2<d.size):
  Calls prog 131 #[bh g d.size c,Z ((i:Int)+1),N s] w λe k=>∃x:Nat,e=.returned (Z x)/\i<=x/\x<=i+2/\rO w s n (n+3) k:=by
 have C:=U (EK h m l a u v c i (i+1) (i+2) V V V);rw[bU (((i+1:Nat):Int)=(i:Int)+1),bU (((i+2:Nat):Int)=(i:Int)+1+1)]at C;have A:IntKind.i64.wrap (i:Int)=i:=bS _ V;have B:IntKind.i64.wrap ((i:Int)+1+1)=(i:Int)+1+1:=bS _ V;clear h l m;go_in;go_wp2_with fail;apply C.o.mono;rintro e k ⟨x,rfl,y,p⟩;have t:=U p;go_wp2;go_ret;exact⟨x,O,V,V,t.o⟩
def rO.next{w':D}{m:Nat}(h:dG w g cur d)(a:g≠s)(p:rO w s n m w'):dG w' g cur d/\∃k:Nat,n<=k/\k<=m/\M w' s 3 #[Z k]/\aa (aR s) w w':=by obtain⟨k,l,e,o,c⟩:=p;exact⟨h.mod c a,k,l,e,o,c⟩
def Ox(h:dG w g cur d)(hs:d.size<=cur.size)(T:d.size=50)(c:Nat):
  Calls prog 96 #[bh g d.size c,Z 0,Z 50] w λe w'=>∃(x:Nat) (t:Int),e=.returned (.tuple #[Z x,Z t])/\x<50/\(t=0\/t=1\/t=2)/\S w w':=by
 have α:=M.lt h;have P:S w (w.alloc (.cells #[Z 0] 3)):=(aq _ _).alloc (ao _) _;have L:=dG.mod h (aa.of_below (F:=bC) P) (λh=>h);have a:g≠w.heap.size:=V;have W:=U (Ew (n:=0) L hs (M.new w _ _) a V V c 11 V);have e4:Int.tdiv 50 4=12:=ai;have l:=aB L P;have k:=U T;have X:=U hs;rw[T]at W⊢;clear h L P α T hs;go_in;go_wp2_with fail;apply W.o.mono;rintro e w1 ⟨x1,rfl,a1,b1,G⟩;obtain⟨Q,n1,p1,q1,B1,M1⟩:=rO.next l.o.1 a G;have K:=U (Ew Q X.o B1 a V (aA k.o) c 23 (aA k.o));rw[k.o]at K;have H1:=aB Q M1;clear Q B1 M1 G W;go_wp2_with fail;apply K.o.mono;rintro e w2 ⟨x2,rfl,a2,b2,B⟩;obtain⟨J,n2,p2,q2,B2,M2⟩:=rO.next H1.o.1 a B;have C3:=U (Ew J X.o B2 a V (aA k.o) c 35 (aA k.o));rw[k.o]at C3;have H2:=aB J (H1.o.2.trans M2);clear J B2 M2 B K;go_wp2_with fail;apply C3.o.mono;rintro e w3 ⟨x3,rfl,a3,b3,u⟩;obtain⟨h3,n3,p3,q3,B3,M3⟩:=rO.next H2.o.1 a u;have R:=U (EK h3 X.o B3 a V (aA k.o) c x1 x2 x3 (aA k.o) (aA k.o) (aA k.o));rw[k.o]at R;have H3:=U (H2.o.2.trans M3);clear h3 B3 M3 u C3;go_wp2_with fail;apply R.o.mono;rintro e w4 ⟨x,rfl,hx,y,p4,q4,B4,M4⟩;have v:x<50:=V;have β:w4.cell? (I w.heap.size 0)=some (Z y):=by rw[B4.cell];rfl
 have m:=H3.o.trans M4;have E:S w w4:=l.o.2.trans ⟨m.os,m.tape,m.output,cF m.size l.o.2.size,λj hj=>m.block j (aA l.o.2.size) λe=>by have e:j=w.heap.size:=e;omega⟩;have p:=aB v E;clear hx v E B4 M4 m R l H3 a1 a2 a3 b1 b2 b3;by_cases C:y=0
 ·subst C;go_wp2;go_ret2;exact⟨x,1,O,p.o.1,.inr (.inl O),p.o.2⟩
 have d1:((y:Int)==0)=false:=az C;by_cases A:y=12
 ·subst A;go_wp2;go_ret2;exact⟨x,2,O,p.o.1,.inr (.inr O),p.o.2⟩
 have d2:((y:Int)==12)=false:=by simp;omega
 go_wp2;go_ret2;exact⟨x,0,O,p.o.1,.inl O,p.o.2⟩
def Tv(h:dG w g cur d)(E:d.size<=cur.size)(C:d.size=50)(c:Nat):
  Calls prog 97 #[bh g d.size c,Z 0,Z 50] w λe J=>e=.returned (.tuple #[])/\∃R,aY w g cur R J/\PermIn 0 50 d R:=by
 have W:=U (aY.refl h);have T:=U E;rw[C];clear h E;go_wp2;go_loopw [6,7] (λv Q wr=>∃(k:Nat) (R:Array Int),k<=25/\v=Z k/\Q=Z (49-(k:Int))/\aY w g cur R wr/\PermIn 0 50 d R) (λv _ _=>25-(intOf v).toNat);exact⟨0,d,V,O,O,W.o,permIn_refl _ _ _⟩;obtain⟨k,R,hk,rfl,rfl,m,p⟩:=hrel;have hR:R.size=50:=p.1.trans C;by_cases F:k<25
 ·have A:=cO ((k:Int)<49-(k:Int));obtain⟨G,y⟩:∃G:Nat->Int,∀t,G t=R[t]!:=⟨λt=>R[t]!,λ_=>rfl⟩;obtain⟨a,P⟩:=m.fam (aA T.o) y;have K:=a k V;have x:=a (49-k) V;have B:49-(k:Int)=((49-k:Nat):Int):=V;have u:k≠49-k:=V;obtain⟨j,X⟩:=aM (49-k);rw[X]at x B u;have L:j<50:=V;rw[B]at A⊢;have l:=cQ y m p hR;clear a y m p;go_upto_region 3 with fail;go_region
  all_goals go_wp2_with fail
  all_goals go_roundw
  case rel=>refine⟨k+1,Sort.swp R k j,V,by go_num,by first|(congr 1;omega)|go_num,?_,rp _ _ _ _ _ l.o.2.2.1 (swp_permIn R 0 50 k j V V V V V)⟩;rw[l.o.1,l.o.1];exact l.o.2.1.swp0 V V
  simp[intOf];omega
 obtain rfl:k=25:=V;have A:decide (((25:Nat):Int)<49-((25:Nat):Int))=false:=ai;have l:=aB m p;go_wp2;go_end0;exact⟨O,R,l.o.1,l.o.2⟩
def Q9(h:dG w g cur d)(hs:d.size<=cur.size)(hz:d.size=50)(c:Nat):
  Calls prog 98 #[bh g d.size c,Z 0,Z 50] w λe w'=>∃(r:Bool) (R:Array Int),e=.returned (.bool r)/\aY w g cur R w'/\PermIn 0 50 d R:=by
 have HS:=U (aY.refl h);have HZ:=U hz;rw[hz];have β:∀(R:Array Int) (W:D),aY w g cur R W->PermIn 0 50 d R->∃G:Nat->Int,(∀t,G t=R[t]!)/\(∀t,t<50->W.cell? (I g t)=some (q (G t)))/\∀t,W.frozen? (I g t)=false:=λR W hW m=>by have hR:R.size=50:=m.1.trans hz;obtain⟨h1,h2⟩:=hW.fam (G:=λt=>R[t]!) V (λ_=>rfl);exact⟨_,λ_=>rfl,λt ht=>h1 t V,h2⟩
 have sw:∀(R:Array Int) (i j:Nat),PermIn 0 50 d R->i<50->j<50->PermIn 0 50 d (Sort.swp R i j):=λR i j m hi hj=>rp _ _ _ _ _ m (swp_permIn R 0 50 i j V hi V hj (by rw[m.1,hz];exact ao _));have Q:=U β;have HW:=U sw;have κ:IntKind.i64.wrap 50=50:=ai;clear h hs hz β sw;go_wp2;go_loopw [7,8] (λv7 v8 wr=>∃(i s:Nat) (R:Array Int),v7=Z i/\v8=Z s/\1<=i/\i<=50/\s<=5/\aY w g cur R wr/\PermIn 0 50 d R) (λ_ v8 _=>5-(intOf v8).toNat);exact⟨1,0,d,O,O,V,V,V,HS.o,permIn_refl _ _ _⟩;obtain⟨i0,s,R,rfl,rfl,X,α,θ,l,m⟩:=hrel;have F:=aB l m;clear l m;obtain⟨wo,rfl⟩:∃wo:D,wo=wr:=⟨_,O⟩;by_cases hs:s<5
 ·have ε:=cO ((s:Int)<5);have es:IntKind.i64.wrap ((s:Int)+1)=(s:Int)+1:=bS _ V;go_wp2;go_loopw [7] (λv u=>∃i:Nat,v=Z i/\1<=i/\i<=50/\aY w g cur R u) (λv _=>50-(intOf v).toNat);exact⟨i0,O,X,α,F.o.1⟩;obtain⟨i,rfl,X,α,l⟩:=hrel;have H1:=U l;clear l;by_cases ζ:i<50
  ·have δ:=cO ((i:Int)<50);have ei:IntKind.i64.wrap ((i:Int)+1)=(i:Int)+1:=bS _ V;have em:IntKind.i64.wrap ((i:Int)-1)=(i:Int)-1:=bS _ V;go_upto_region 5 with fail;go_cut [32]from 17 to 31 (λv u=>(∃k:Bool,v=.bool k)/\aY w g cur R u)
   case first=>obtain⟨G,p,a,B⟩:=Q.o _ _ H1.o F.o.2;have C:=a i V;have E:=a (i-1) V;clear a p;go_quiet (first|(go_at_call 99;refine eE (gC _ _ _)));go_wp2;go_meet;exact⟨⟨_,O⟩,aY.drewN H1.o nq⟩
   obtain⟨⟨k,rfl⟩,l⟩:=hcut;have H2:=U l;clear l;cases k with
   |true=>
    go_wp2;go_roundw
    ·exact⟨i+1,by go_num,V,V,H2.o⟩
    simp[intOf];omega
   |false=>
    have η:((i:Int)==50)=false:=by rw[fH];omega
    go_upto_region 11 with fail;go_cut []from 42 to 57 (λu=>aY w g cur (Sort.swp R i (i-1)) u)
    case first=>
     obtain⟨G,p,a,B⟩:=Q.o _ _ H2.o F.o.2;have C:=a i V;have E:=a (i-1) V;have K:=U p;have L:=U (show R.size=50 from(F.o.2).1.trans HZ.o);clear a p;go_region
     all_goals go_wp2
     go_meet;rw[K.o,K.o];exact aY.swp0 H2.o (aA L.o) (aA L.o)
    have H3:=aB hcut (HW.o R i (i-1) F.o.2 V V);clear hcut;generalize Sort.swp R i (i-1)=R1 at H3;go_upto_if 61 with fail;go_cut [9]from 62 to 94 (λ_ u=>∃y,aY w g cur y u/\PermIn 0 50 d y)
    case first=>
     by_cases h2:2<=i
     ·have P:=cO ((2:Int)<=(i:Int));go_wp2;go_loopw [9] (λv u=>∃(j:Nat) (y:Array Int),v=Z j/\j<50/\aY w g cur y u/\PermIn 0 50 d y) (λv _=>(intOf v).toNat)
      ·exact⟨i-1,R1,by first|rfl|(congr 1;omega)|go_num,V,H3.o.1,H3.o.2⟩
      obtain⟨j,y,rfl,hj,l,m⟩:=hrel;have x:=aB l m;clear l m;by_cases γ:1<=j
      ·have T:=cO ((1:Int)<=(j:Int));have ej:IntKind.i64.wrap ((j:Int)-1)=(j:Int)-1:=bS _ V;go_upto_region 16 with fail;go_cut [78]from 68 to 77 (λv u=>(∃k:Bool,v=.bool k)/\aY w g cur y u)
       case first=>obtain⟨G,p,a,B⟩:=Q.o _ _ x.o.1 x.o.2;have C:=a j V;have E:=a (j-1) V;clear a p;go_quiet (first|(go_at_call 99;refine eE (gC _ _ _)));go_wp2;go_meet;exact⟨⟨_,O⟩,aY.drewN x.o.1 nq⟩
       obtain⟨⟨k,rfl⟩,l⟩:=hcut;have A:=U l;clear l;cases k with
       |true=>go_wp2;go_meet;exact⟨y,A.o,x.o.2⟩
       |false=>
        obtain⟨G,p,a,B⟩:=Q.o _ _ A.o x.o.2;have C:=a j V;have E:=a (j-1) V;have K:=U p;have L:=U (show y.size=50 from(x.o.2).1.trans HZ.o);clear a p;go_upto_region 17 with fail;go_region
        all_goals go_wp2
        go_roundw
        ·refine⟨j-1,Sort.swp y j (j-1),by first|rfl|(congr 1;omega)|go_num,V,?_,HW.o _ _ _ x.o.2 V V⟩;rw[K.o,K.o];exact aY.swp0 A.o (aA L.o) (aA L.o)
        simp[intOf];omega
      have T:=cP ((1:Int)<=(j:Int));go_wp2;go_meet;exact⟨y,x.o.1,x.o.2⟩
     have P:=cP ((2:Int)<=(i:Int));go_wp2;go_meet;exact⟨R1,H3.o.1,H3.o.2⟩
    obtain⟨y,l,m⟩:=hcut;have x:=aB l m;clear l m;have eq:IntKind.i64.wrap (50-(i:Int))=50-(i:Int):=bS _ V;go_upto_if 98 with fail;by_cases h2:i<=48
    ·have P:=cO ((2:Int)<=50-(i:Int));go_wp2;go_loopw [10] (λv u=>∃(j:Nat) (J:Array Int),v=Z j/\1<=j/\j<=50/\aY w g cur J u/\PermIn 0 50 d J) (λv _=>50-(intOf v).toNat)
     ·exact⟨i+1,y,by first|rfl|(congr 1;omega)|go_num,V,V,x.o.1,x.o.2⟩
     obtain⟨j,J,rfl,ι,hj,l,m⟩:=hrel;have A:=aB l m;clear l m;by_cases γ:j<50
     ·have T:=cO ((j:Int)<50);have ej:IntKind.i64.wrap ((j:Int)+1)=(j:Int)+1:=bS _ V;have ek:IntKind.i64.wrap ((j:Int)-1)=(j:Int)-1:=bS _ V;go_upto_region 22 with fail;go_cut [116]from 106 to 115 (λv u=>(∃k:Bool,v=.bool k)/\aY w g cur J u)
      case first=>obtain⟨G,p,a,B⟩:=Q.o _ _ A.o.1 A.o.2;have C:=a j V;have E:=a (j-1) V;clear a p;go_quiet (first|(go_at_call 99;refine eE (gC _ _ _)));go_wp2;go_meet;exact⟨⟨_,O⟩,aY.drewN A.o.1 nq⟩
      obtain⟨⟨k,rfl⟩,l⟩:=hcut;have H6:=U l;clear l;cases k with
      |true=>
       go_wp2;go_roundw
       ·exact⟨i,s+1,J,O,by go_num,V,V,V,H6.o,A.o.2⟩
       simp[intOf];omega
      |false=>
       obtain⟨G,p,a,B⟩:=Q.o _ _ H6.o A.o.2;have C:=a j V;have E:=a (j-1) V;have K:=U p;have L:=U (show J.size=50 from(A.o.2).1.trans HZ.o);clear a p;go_upto_region 23 with fail;go_region
       all_goals go_wp2
       go_roundw
       ·refine⟨j+1,Sort.swp J j (j-1),by go_num,V,V,?_,HW.o _ _ _ A.o.2 V V⟩;rw[K.o,K.o];exact aY.swp0 H6.o (aA L.o) (aA L.o)
       simp[intOf];omega
     have T:=cP ((j:Int)<50);go_wp2;go_roundw
     ·exact⟨i,s+1,J,O,by go_num,V,V,V,A.o.1,A.o.2⟩
     simp[intOf];omega
    have P:=cP ((2:Int)<=50-(i:Int));go_wp2;go_roundw
    ·exact⟨i,s+1,y,O,by go_num,V,V,V,x.o.1,x.o.2⟩
    simp[intOf];omega
  obtain rfl:i=50:=V;have δ:decide (((50:Nat):Int)<50)=false:=ai;obtain⟨G,p,a,B⟩:=Q.o _ _ H1.o F.o.2;clear a p;go_upto_region 5 with fail;go_quiet (first|(go_at_call 99;refine eE (gC _ _ _)));go_wp2_with fail;refine eu (results_tmp O _ _ _) O ?_;exact⟨true,R,O,H1.o.drewN nq,F.o.2⟩
 obtain rfl:s=5:=V;have ε:decide (((5:Nat):Int)<5)=false:=ai;go_wp2;go_ret;exact⟨false,R,O,F.o.1,F.o.2⟩
def Q7(h:dG w g cur d)(A:d.size<=cur.size)(G:d.size<=1000000)(c a l:Nat)(C:8<=l)(k:l<50\/(a=0/\l=50/\d.size=50))(y:a+l<=d.size)(F:b=a+l):
  Calls prog 96 #[bh g d.size c,Z a,Z b] w λe m=>∃(x:Nat) (t:Int),e=.returned (.tuple #[Z x,Z t])/\a<=x/\x<b/\(t=0\/t=1\/(t=2/\l=50))/\S w m:=by
 rcases k with k|⟨rfl,rfl,B⟩;exact(Tw h A G c a l C k y F).mono λe m ⟨x,t,u,o,v,p,E⟩=>⟨x,t,u,o,v,p.imp id .inl,E⟩;obtain rfl:b=50:=V;exact(Ox h A B c).mono λe m ⟨x,t,u,o,v,p⟩=>⟨x,t,u,gM _,o,v.imp id λh=>h.imp id λh=>⟨h,O⟩,p⟩
def Tx(h:dG w g cur d)(v:d.size<=cur.size)(C:d.size<=1000000)(c a l:Nat)(y:1<=l)(k:l<50\/(a=0/\l=50/\d.size=50))(u:a+l<=d.size)(B:b=a+l):
  Calls prog 98 #[bh g d.size c,Z a,Z b] w λe o=>∃(r:Bool) (R:Array Int),e=.returned (.bool r)/\aY w g cur R o/\PermIn a b d R/\(r=true->l<50->SortedIn ltInt a b R):=by
 rcases k with k|⟨rfl,rfl,x⟩;exact(Oy h v C c a l y k u B).mono λe o ⟨r,t,p,m⟩=>⟨r,d,t,⟨dG.mod h (aa.of_below (F:=bC) m) (λh=>h),aa.of_below m⟩,permIn_refl _ _ _,λA _=>p A⟩;obtain rfl:b=50:=V;exact(Q9 h v x c).mono λe o ⟨r,R,t,p,m⟩=>⟨r,R,t,p,m,λ_ h=>absurd h (sJ 50)⟩
def QA(w:D)(g:Nat)(cur:Array H)(a b:Nat)(d:Array Int)(e:Ending)(w':D):Prop:=e=.returned (.tuple #[])/\∃R,aY w g cur R w'/\PermIn a b d R/\(b-a<50->SortedIn ltInt a b R)
def GI(hs:n<=cur.size)(hz:n<=1000)(c:Nat):∀(ι a b l:Nat) (d:Array Int) (w:D),b-a<ι->(b-a<50\/(a=0/\b=50/\n=50))->dG w g cur d->d.size=n->a<=b->b<=n->l<=100->Go.Sort.Below ltInt a b d->
  Calls prog 69 #[bh g n c,Z a,Z b,Z l] w (QA w g cur a b d):=by
 intro ι
 induction ι with
 |zero=>intro a b l d w h;exact absurd h (Nat.not_lt_zero _)
 |succ ι ih=>
  intro a b l d w hN h50 h hn hab hbn hl μ;have IH:=U ih;have k:=iA h hn μ hs hz;clear ih h hn μ hs;go_wp2;go_loopw [1,2,3,8,9] (λv1 v2 v3 v8 v9 wr=>∃(p y l':Nat) (wb wp:Bool) (dk:Array Int),v1=Z p/\v2=Z y/\v3=Z l'/\v8=.bool wb/\v9=.bool wp/\l'<=100/\kp a b d p y dk/\aY w g cur dk wr/\(y-p=50->PermIn a b d dk)) (λv1 v2 _ _ _ _=>(intOf v2-intOf v1).toNat);exact⟨a,b,l,true,true,d,O,O,O,O,O,hl,kp.start hab k.o.2.2.1,aY.refl k.o.1,λ_=>permIn_refl _ _ _⟩;obtain⟨p,y,l',wb,wp,dk,rfl,rfl,rfl,rfl,rfl,hl',hL,hS,hP⟩:=hrel;have HP:=U hP;clear hP;obtain⟨m,hm⟩:=aM (y-p);have hba:(y:Int)-(p:Int)=(m:Int):=aA hL.hm;have ζ:dk.size=n:=hL.sz.trans k.o.2.1;have hA:=hL.ha;have hM:=hL.hm;have hB:=hL.hb;by_cases h12:m<=12
  ·have i:=cO ((m:Int)<=12);have C:=U (XW hS.1 (aA k.o.2.2.2.1) V c p y hM V);rw[ζ]at C;have HL:=aB hL hS;clear hL hS;go_wp2_with fail;apply C.o.mono;rintro e w2 ⟨rfl,h2⟩;have A:=U h2;clear h2 C;go_wp2_with fail;refine eu (sG O _ _ _) O ?_;have hh:=insertionSort_holds (lt:=ltInt) swo_ltInt dk p y hM V;exact⟨O,_,HL.o.2.trans A.o,(HL.o.1.go _ hh.1 hh.2).1,λ_=>(HL.o.1.go _ hh.1 hh.2).2⟩
  have i:=cP ((m:Int)<=12);by_cases Γ:l'=0
  ·subst Γ;have C:=U (VL hS.1 (aA k.o.2.2.2.1) V c p y hM V);rw[ζ]at C;have HL:=aB hL hS;clear hL hS;go_wp2_with fail;apply C.o.mono;rintro e w2 ⟨rfl,h2⟩;have A:=U h2;clear h2 C;go_wp2_with fail;refine eu (sG O _ _ _) O ?_;have hh:=heapSort_holds (lt:=ltInt) swo_ltInt dk p y hM V;exact⟨O,_,HL.o.2.trans A.o,(HL.o.1.go _ hh.1 hh.2).1,λ_=>(HL.o.1.go _ hh.1 hh.2).2⟩
  have hl0d:((l':Int)==0)=false:=az Γ;have C8:=U (Ty hS.1 (aA k.o.2.2.2.1) V c p m V V (bU (y=p+m)));rw[ζ]at C8;have HL:=aB hL hS;clear hL hS;go_upto_if 35 with fail;go_cut [3]from 36 to 41 (λv wx=>∃(l2:Nat) (J:Array Int),v=Z l2/\l2<=100/\kp a b d p y J/\aY w g cur J wx/\(m=50->PermIn a b d J))
  case first=>
   cases wb with
   |true=>go_wp2;go_meet;exact⟨l',dk,O,hl',HL.o.1,HL.o.2,λe=>HP.o (hm.trans e)⟩
   |false=>go_wp2_with fail;apply C8.o.mono;rintro e w2 ⟨rfl,J,hp2,h2⟩;have A:=aB hp2 h2;clear hp2 h2;go_wp2;go_meet;exact⟨l'-1,J,by first|rfl|(congr 1;omega),V,HL.o.1.perm (aA k.o.2.1) A.o.1,HL.o.2.trans A.o.2,λe=>rp _ _ _ _ _ (HP.o (hm.trans e)) (by rw[bU (a=p),bU (b=y)];exact A.o.1)⟩
  obtain⟨l2,J,rfl,δ,τ,ψ,hP2⟩:=hcut;have u:J.size=n:=τ.sz.trans k.o.2.1;have χ:=U (Q7 ψ.1 (aA k.o.2.2.2.1) V c p m V V V (bU (y=p+m)));rw[u]at χ;have A:=aP τ ψ hP2;have CR:=U (λW (aeO:dG W g cur J)=>Tv (d:=J) aeO (aA k.o.2.2.2.1));have Φ:=U u;clear τ ψ C8 HL ζ HP hP2;go_wp2_with fail;apply χ.o.mono;rintro e w3 ⟨x,t,rfl,P,L,ht,υ⟩;have S3:aY w g cur J w3:=⟨dG.mod A.o.2.1.1 (aa.of_below (F:=bC) υ) λh=>h,A.o.2.1.2.trans (aa.of_below υ)⟩;have H3:=U S3;clear υ S3 χ;go_upto_if 50 with fail;go_cut [11,12]from 51 to 60 (λv11 v12 wx=>∃(x':Nat) (t':Int) (d3:Array Int),v11=Z x'/\v12=Z t'/\p<=x'/\x'<y/\(t'=0\/t'=1)/\kp a b d p y d3/\aY w g cur d3 wx/\(m=50->PermIn a b d d3))
  case first=>
   rcases ht with rfl|rfl|⟨rfl,h50m⟩
   ·go_wp2;go_meet;exact⟨x,0,J,O,O,P,L,.inl O,A.o.1,H3.o,A.o.2.2⟩
   ·go_wp2;go_meet;exact⟨x,1,J,O,O,P,L,.inr O,A.o.1,H3.o,A.o.2.2⟩
   have ea:p=0:=V;have eb:y=50:=V;have ea0:a=0:=V;have eb0:b=50:=V;subst ea eb ea0 eb0;have en:n=50:=V;have σ:=U (CR.o _ H3.o.1 (Φ.o.trans en) c);rw[Φ.o]at σ;have ex:IntKind.i64.wrap (49-(x:Int))=49-(x:Int):=bS _ V;have ex2:IntKind.i64.wrap (x:Int)=(x:Int):=bS _ V;clear en h50m;go_wp2_with fail;apply σ.o.mono;rintro e w4 ⟨rfl,R4,h4,α⟩;have T:=aB h4 α;clear h4 α σ;go_wp2;go_meet;exact⟨49-x,1,R4,by first|rfl|(congr 1;omega),rfl,V,V,.inr rfl,A.o.1.perm (aA k.o.2.1) T.o.2,H3.o.trans T.o.1,λe=>rp _ _ _ _ _ (A.o.2.2 e) T.o.2⟩
  case rest=>
  obtain⟨x',t',d3,rfl,rfl,P,L,ht,ξ,Q,hP3⟩:=hcut;have u:d3.size=n:=ξ.sz.trans k.o.2.1;have A:=aP ξ Q hP3;have H3:=U Q;clear ξ Q hP3;generalize x'=x at P L⊢;generalize t'=t at ht⊢;generalize d3=J at A H3 u⊢;obtain⟨κ,hz2⟩:=aM ((wb&&(wp&&(t==1))));have HZ:=U hz2;clear hz2;go_upto_region 15 with fail;go_cut [68]from 61 to 67 (λv wx=>v=.bool κ/\aY w g cur J wx)
  case first=>
   cases wb<;>cases wp<;>rcases ht with rfl|rfl
   all_goals
    go_wp2;go_meet;exact⟨by rw[<-HZ.o];rfl,H3.o⟩
  case rest=>
  obtain⟨rfl,Q⟩:=hcut;have π:=U (Tx Q.1 (aA k.o.2.2.2.1) V c p m V V V (bU (y=p+m)));rw[u]at π;have H3:=U Q;clear Q;go_upto_if 68 with fail;go_cut []from 69 to 72 (λwx=>∃d4,kp a b d p y d4/\aY w g cur d4 wx)
  case first=>
   cases κ with
   |false=>go_wp2;go_meet;exact⟨J,A.o.1,H3.o⟩
   |true=>
    go_wp2_with fail;apply π.o.mono;rintro e w4 ⟨r,R,rfl,hS4,α,hr⟩;have T:=aP hS4 α hr;clear hr hS4 α;cases r with
    |true=>
     go_wp2_with fail;refine eu (sG O _ _ _) O ?_;by_cases h5:m<50
     ·have hq:=A.o.1.go R T.o.2.1 (T.o.2.2 (by first|trivial|rfl) h5);exact⟨O,R,H3.o.trans T.o.1,hq.1,λ_=>hq.2⟩
     have e5:m=50:=V;have ea:p=a:=V;have eb:y=b:=V;exact⟨O,R,H3.o.trans T.o.1,rp _ _ _ _ _ (A.o.2.2 e5) (by rw[<-ea,<-eb];exact T.o.2.1),λh=>V⟩
    |false=>go_wp2;go_meet;exact⟨R,A.o.1.perm (aA k.o.2.1) T.o.2.1,H3.o.trans T.o.1⟩
  obtain⟨d4,ν,hcut⟩:=hcut;have A:=aB ν hcut;have u:d4.size=n:=ν.sz.trans k.o.2.1;clear ν;generalize d4=J at A u hcut⊢;have T:=U hcut;clear π H3;obtain⟨G,hG⟩:∃G:Nat->Int,∀t,G t=J[t]!:=⟨λt=>J[t]!,λ_=>rfl⟩;obtain⟨θ,hfw⟩:=hcut.fam (aA k.o.2.2.2.1) hG;rw[u]at θ;have hcx:=θ x V;have Δ:=θ (p-1) V;obtain⟨B,Ω⟩:=aM ((decide (0<p)&& !ltInt (G (p-1)) (G x)));have HB:=aB Ω hG;clear θ hcut Ω hG;go_upto_region 17 with fail;go_cut [87]from 73 to 86 (λv wx=>v=.bool B/\aY w g cur J wx)
  case first=>
   by_cases ha0:0<p
   ·have hd0:=cO ((0:Int)<(p:Int));go_quiet (first|(go_at_call 99;refine eE (gC _ _ _)));go_wp2;go_meet;exact⟨by rw[<-HB.o.1,fa ha0];rfl,T.o.drewN nq⟩
   have hd0:=cP ((0:Int)<(p:Int));clear Δ;go_quiet (first|(go_at_call 99;refine eE (gC _ _ _)));go_wp2;go_meet;exact⟨by rw[<-HB.o.1,fO ha0];rfl,T.o.drewN nq⟩
  obtain⟨rfl,X⟩:=hcut;have hb5:b<=d.size:=by rw[k.o.2.1];exact hbn
  clear hcx Δ hfw;cases B with
  |true=>have η:=HB.o.1;rw[bZ,eN,ua,HB.o.2,HB.o.2]at η;have hE:=A.o.1.eq hb5 η.1 P L η.2;have ε:=U (Q8 X.1 (aA k.o.2.2.2.1) V c p y x P L V);rw[u]at ε;have H5:=aB X hE;have hlt:=hE.1;have hle:=hE.2.hm;generalize (partitionEqual ltInt J p y x).1=E at ε H5 hlt hle;clear X hE η;go_wp2_with fail;apply ε.o.mono;rintro e w6 ⟨rfl,h6⟩;have H6:=U h6;clear h6 ε;go_wp2;go_roundw;exact⟨E,y,l2,wb,wp,_,O,O,O,O,O,δ,H5.o.2.2,H5.o.1.trans H6.o,λe=>V⟩;simp[intOf];omega
  |false=>
   obtain⟨E,ap,d4,s,hm1,hm2,ω,j,Ψ,Ξ,hgr⟩:=A.o.1.part hb5 P L;have φ:=U (VT X.1 (aA k.o.2.2.2.1) V c p y x P L V);rw[u,s]at φ;have H5:=js X ω j Ψ Ξ hgr;clear X j Ψ Ξ hgr s;have em8:(m:Int).tdiv 8=((m/8:Nat):Int):=by rw[vw V];omega
   obtain⟨q8,Θ⟩:=aM (m/8);rw[Θ]at em8;have hq8l:q8<=50:=V;clear Θ;obtain⟨ll,hll⟩:∃ll:Nat,E-p=ll:=⟨_,O⟩;obtain⟨rl,hrl⟩:∃rl:Nat,y-E=rl:=⟨_,O⟩;have ell:(E:Int)-(p:Int)=(ll:Int):=V;have erl:(y:Int)-(E:Int)=(rl:Int):=V;go_wp2_with fail;apply φ.o.mono;rintro e w6 ⟨rfl,h6⟩;have H6:=U (H5.o.1.trans h6);clear h6 φ;by_cases hlr:ll<rl
   ·have f:=cO ((ll:Int)<(rl:Int));have γ:=U (IH.o p E l2 d4 w6 V V H6.o.1 (by rw[ω];exact k.o.2.1) V V δ H5.o.2.2.1);go_wp2_with fail;apply γ.o.mono;rintro e w7 ⟨rfl,R7,h7,β,K⟩;replace K:=K V;have H7:=aP h7 β K;clear h7 β K γ;go_wp2;go_roundw
    ·exact⟨E+1,y,l2,_,ap,R7,by first|rfl|(congr 1;omega),rfl,rfl,rfl,rfl,δ,H5.o.2.2.2.2.1 _ H7.o.2.1 H7.o.2.2,H6.o.trans H7.o.1,λe=>V⟩
    simp[intOf];omega
   have f:=cP ((ll:Int)<(rl:Int));have γ:=U (IH.o (E+1) y l2 d4 w6 V V H6.o.1 (by rw[ω];exact k.o.2.1) V V δ H5.o.2.2.2.1);go_wp2_with fail;apply γ.o.mono;rintro e w7 ⟨rfl,R7,h7,β,K⟩;replace K:=K V;have H7:=aP h7 β K;clear h7 β K γ;go_wp2;go_roundw;exact⟨p,E,l2,_,ap,R7,O,O,O,O,O,δ,H5.o.2.2.2.2.2 _ H7.o.2.1 H7.o.2.2,H6.o.trans H7.o.1,λe=>V⟩;simp[intOf];omega
def Tb(w:D)(g:Nat)(cur:Array H)(a b:Nat)(d:Array Int)(e:Ending)(w':D):Prop:=e=.returned (.tuple #[])/\∃R,aY w g cur R w'/\PermIn a b d R/\SortedIn ltInt a b R
def XU(B:n<=cur.size)(E:n<50)(c:Nat):∀(k a b l:Nat) (d:Array Int) (w:D),b-a<k->dG w g cur d->d.size=n->a<=b->b<=n->l<=100->Go.Sort.Below ltInt a b d->
  Calls prog 69 #[bh g n c,Z a,Z b,Z l] w (Tb w g cur a b d):=
 λk a b l d w u h p A t v o=>(GI B V c k a b l d w u (.inl V) h p A t v o).mono λe C ⟨r,R,x,y,m⟩=>⟨r,R,x,y,m V⟩
def nu(L:List Int):List Int:=L.mergeSort λa b=>decide (a<=b)
def Pe{L:List Int}{R:Array Int}(k:PermIn 0 L.toArray.size L.toArray R)(l:SortedIn ltInt 0 L.toArray.size R):R.toList=nu L:=by have h:=sorted_unique_holds (lt:=ltInt) swo_ltInt (λx y c a=>by unfold ltInt at c a;simp at c a;omega) L.toArray R k l;rw[h];unfold nu;congr 1;funext x y;unfold ltInt;by_cases e:y<x;rw[fa e,fO V];rfl;rw[fO e,fa V];rfl
section
variable{w w':D}{base g n cap:Nat}{L:List Int}
def Gd(h:gI w base (bh g n cap) L):∃cur:Array H,dG w g cur L.toArray/\L.toArray.size<=cur.size/\∀W (R:Array Int),dG W g cur R->R.size=L.length->gI W base (bh g n cap) R.toList:=by
 obtain⟨cur,T,m,u,β,-⟩:=h.blk;have X:(cZ mq L).length=L.length:=by rw[lF kV];omega
 have a:∀(k:List Int) (t:Nat) (x:Int),k[t]? =some x->(cZ mq k)[t]? =some (q x):=λk t x F=>by have:=uy kV F (j:=0) V;rw[iP,oU]at this;exact this
 have A:L.length<=cur.size:=by rw[m];omega
 refine⟨cur,?_,az A,λW R hR l=>?_⟩
 ·have e:putCells AZ 0 L.toArray cur=cur:=by
   apply Array.ext_getElem?;intro t;unfold putCells;rw[vH];by_cases c:t<cur.size
   ·rw[oZ c,pX];by_cases B:t<L.length;rw[av ⟨gM _,az B⟩,Nat.sub_zero];have F:L[t]? =some L[t]:=bY B;have y:=a L t _ F;rw[<-u,kw,av V,i5,oZ c]at y;rw[y];simp[B];rw[al aQ]
   rw[kQ V];rfl
  unfold dG;rw[e];exact T
 obtain⟨y,p⟩:=h;rcases p with⟨p,-⟩|⟨g',K,Q,hs,G,γ,v,E,P,α⟩
 ·cases p
 injection hs with o J C;injection o with o;injection o with o _ _;subst o C;refine⟨lF kV _,.inr ⟨g,cap,_,by rw[lW,l,J],G,hR,by rw[lW,l];exact v,E,?_,?_⟩⟩;show(putCells _ _ _ _).size=_;unfold putCells;rw[Array.size_mapIdx,m];apply yz;intro t;rw[lW,iP];by_cases c:t<R.size;rw[kw,av c,i5];unfold putCells;rw[vH,oZ V,pX,av ⟨gM _,V⟩,Nat.sub_zero];rw[a R.toList t R[t] (by rw[i5,oZ c])];simp[c];rw[kw,al c,tQ (by rw[lF kV,lW];omega)]
end
def VV(A:Option Addr)(c:Nat)(w:D):Calls prog 93 #[.slice A 0 c,Z 0,Z 0] w λe a=>e=.returned (.tuple #[])/\w=a:=by go_wp2;go_loopw [6] (λh wr=>h=Z 1/\w=wr) (λ_ _=>0);exact⟨O,O⟩;obtain⟨rfl,rfl⟩:=hrel;go_wp2;go_end0;exact⟨O,O⟩
def VS(A:Option Addr)(c k:Nat)(w:D):Calls prog 69 #[.slice A 0 c,Z 0,Z 0,Z k] w λe a=>e=.returned (.tuple #[])/\w=a:=by have C:=U (VV A c);go_wp2;go_loopw [1,2,3,8,9] (λm l h t p wr=>m=Z 0/\l=Z 0/\h=Z k/\t=.bool true/\p=.bool true/\w=wr) (λ_ _ _ _ _ _=>0);exact⟨O,O,O,O,O,O⟩;obtain⟨rfl,rfl,rfl,rfl,rfl,rfl⟩:=hrel;go_wp2_with fail;apply(C.o _).mono;rintro e u ⟨rfl,rfl⟩;go_wp2_with fail;refine eu (sG O _ _ _) O ?_;exact⟨O,O⟩
def GV{base:Nat}{v:H}{L:List Int}(h:gI w base v L)(hn:L.length<=49):Calls prog 57 #[v] w λr P=>r=.returned (.tuple #[])/\gI P base v (nu L)/\w.grownBy P v.ownBlock:=by
 rcases yu L.length with h0|h0
 ·have:L=[]:=tS.1 h0;subst this;obtain⟨A,c,rfl,-,-⟩:=h.sl;have l:=U h;have G:=U (A8 (n:=0) V);have J:=U (VS A c);clear h;go_in;go_wp2_with fail;apply(G.o _).mono;rintro e K ⟨k,rfl,u,rfl⟩;go_wp2_with fail;apply(J.o k _).mono;rintro e K ⟨rfl,rfl⟩;go_wp2;go_end0;exact⟨O,by rw[show nu []=[]from by simp[nu]];exact l.o,⟨O,O,O,ao _,λ_ _ _=>rfl⟩⟩
 obtain⟨g,E,rfl,hc,hm,hg,F⟩:=h.sl_pos h0;obtain⟨cur,W,x,a⟩:=Gd h;obtain⟨n,t⟩:=aM (L.length);have p:L.toArray.size=n:=az t;have l:=aP x a t;have J:=U λk w (h:dG w g cur L.toArray) (u:k<=62)=>XU (g:=g) (n:=n) (cur:=cur) V V E (n+1) 0 n k L.toArray w V h p (gM _) (ao _) V (.inl O);have G:=U λw=>A8 (n:=n) V w;have HS:=U W;have X:n<=49:=V;rw[t];clear h hn h0 hc hm hg F W x a t;go_in;go_wp2_with fail;apply(G.o _).mono;rintro e K ⟨k,rfl,u,rfl⟩;go_wp2_with fail;apply(J.o k _ HS.o u).mono;rintro e K ⟨rfl,R,Q,T,B⟩;have y:=aP Q T B;clear Q T B;go_wp2;go_end0;have e:R.toList=nu L:=Pe (by rw[p];exact y.o.2.1) (by rw[p];exact y.o.2.2);refine⟨O,by rw[<-e,<-l.o.2.2];exact l.o.2.1 _ R y.o.1.1 (by rw[y.o.2.1.1,p,l.o.2.2]),?_⟩;have m:=y.o.1.2;exact⟨m.os,m.tape,m.output,m.size,λk u C=>m.block k u λe=>C (by rw[show k=g from e];rfl)⟩
end
