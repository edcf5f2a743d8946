import Derived.Deep.Cut
import Derived.Deep.CutRange
import Derived.Test.YtghdobdjfnimmaaGreatDoorZ10
set_option maxRecDepth 100000
set_option maxHeartbeats 0
set_option linter.all false
namespace Go.Proofs.YtghdobdjfnimmaaGreatDoor
open Go.Proofs.Tryz
variable{d d1:Array Int}{w:Yu}{g i n hi f r j b:Nat}{cur:Array Yv}
section
open Go.RowKit Go Go.Sort
abbrev JY:Int->Yv:=Value.int .u64
def SB(w:Yu)(g:Nat)(cur:Array Yv)(d:Array Int):Prop:=ai w g 32 (putCells JY 0 d cur)
section
variable{w w' w'':Yu}{g:Nat}{cur:Array Yv}{d:Array Int}
theorem SB.cell(h:SB w g cur d)(c:d.size<=cur.size){t:Nat}(e:t<d.size):w.cell? ⟨g,t,none⟩=some (.int .u64 d[t]!):=by
 rw[ai.cell h];unfold putCells;rw[Xc,VV (by omega),WE,Vh ⟨VX _,by omega⟩,Nat.sub_zero]
theorem SB.set1(h:SB w g cur d)(hi:i<d.size)(x:Int):SB (w.setCell ⟨g,i,none⟩ (.int .u64 x)) g cur (d.setIfInBounds i x):=by
 have c:=ai.set_ h i (.int .u64 x);have e:=putCells_set JY 0 d cur i x hi;rw[Vk]at e;rw[e]at c;exact c
theorem SB.swp(h:SB w g cur d)(hi:i<d.size)(c:j<d.size):SB ((w.setCell ⟨g,i,none⟩ (.int .u64 d[j]!)).setCell ⟨g,j,none⟩ (.int .u64 d[i]!)) g cur (Sort.swp d i j):=
 (h.set1 hi _).set1 (by simpa using c) _
def dX(w:Yu)(g:Nat)(cur:Array Yv)(c:Array Int)(w':Yu):Prop:=SB w' g cur c/\ah (cj g) w w'
theorem dX.refl(h:SB w g cur d):dX w g cur d w:=⟨h,ah.refl⟩
theorem dX.trans{c:Array Int}(h:dX w g cur d1 w')(e:dX w' g cur c w''):dX w g cur c w'':=⟨e.1,h.2.trans e.2⟩
theorem dX.drewN(h:dX w g cur d1 w')(n:Nat):dX w g cur d1 (w'.drewN n):=⟨h.1,h.2.trans (ah.drewN n)⟩
theorem dX.swp(h:dX w g cur d1 w')(n:Nat)(hi:i<d1.size)(c:j<d1.size):dX w g cur (Sort.swp d1 i j) (((w'.drewN n).setCell ⟨g,i,none⟩ (.int .u64 d1[j]!)).setCell ⟨g,j,none⟩ (.int .u64 d1[i]!)):=
 ⟨SB.swp (w:=w'.drewN n) h.1 hi c,(h.2.trans (ah.drewN n)).trans ((ah.set (F:=cj g) ⟨g,i,none⟩ (show cj g g from rfl) _).trans (ah.set (F:=cj g) ⟨g,j,none⟩ (show cj g g from rfl) _))⟩
theorem dX.swp0(h:dX w g cur d1 w')(hi:i<d1.size)(e:j<d1.size):dX w g cur (Sort.swp d1 i j) (((w'.setCell ⟨g,i,none⟩ (.int .u64 d1[j]!)).setCell ⟨g,j,none⟩ (.int .u64 d1[i]!)).drew):=by
 have c:=h.swp 0 hi e;exact⟨c.1,c.2.trans ah.drew⟩
theorem dX.fam(h:dX w g cur d1 w')(c:d1.size<=cur.size){G:Nat->Int}(k:∀t,G t=d1[t]!):(∀t,t<d1.size->w'.cell? ⟨g,t,none⟩=some (.int .u64 (G t)))/\∀t,w'.frozen? ⟨g,t,none⟩=false:=
 ⟨λt e=>by rw[k];exact h.1.cell c e,λt=>ai.frozen h.1 t⟩
end
theorem Rp(x:Int)(w:Yu):Yt 80 #[.int .u64 x] w λe w'=>e=.returned (.bool false)/\w'=w:=by
 go_enter func80,ntmps80;go_wp2_with fail;go_ret;exact⟨by simp,rfl⟩
theorem ec(x y:Int)(w:Yu):Yt 131 #[.int .u64 x,.int .u64 y] w λe w'=>e=.returned (.bool (ltInt x y))/\w'=w:=by
 go_enter func131,ntmps131;go_wp2_with (go_at_call 80;refine(Rp _ _).mono ?_;rintro e w' ⟨rfl,c⟩;rw[c]);go_ret;exact⟨rfl,rfl⟩
section
theorem Lj(a j:Nat)(d:Array Int)(h:a<j)(e:ltInt d[j]! d[j-1]! =true):insInner ltInt a j d=insInner ltInt a (j-1) (Sort.swp d j (j-1)):=by
 cases j with
 |zero=>omega
 |succ k=>
  have c:ltInt d[k+1]! d[k]! =true:=e;show insInner ltInt a (k+1) d=insInner ltInt a k (Sort.swp d (k+1) k);rw[insInner,Vh (by simp[h,c])]
theorem Lk(a j:Nat)(d:Array Int)(h:j<=a\/ltInt d[j]! d[j-1]! =false):insInner ltInt a j d=d:=by
 cases j with
 |zero=>rw[insInner]
 |succ k=>
  rw[insInner,Vf];intro c;simp only[Vo,VC]at c;rcases h with h|h
  ·omega
  ·have e:ltInt d[k+1]! d[k]! =false:=h
   rw[e]at c;cases c.2
end
theorem Rq(h:SB w g cur d)(K:d.size<=cur.size)(Y:d.size<=1000000)(c a b:Nat)(M:a<=b)(X:b<=d.size):
  Yt 125 #[.slice (some ⟨g,0,none⟩) d.size c,.int .i64 a,.int .i64 b] w λe w'=>e=.returned (.tuple #[])/\dX w g cur (insertionSort ltInt d a b) w':=by
 have H:=U9 (Vb h K);clear h K;go_enter func125,ntmps125;go_wp2_with fail
 go_loopw [6] (λF wr=>∃(i:Nat) (dk:Array Int),F=.int .i64 i/\a<i/\i<=b+1/\dk.size=d.size/\dX w g cur dk wr/\insOuter ltInt a b i dk=insOuter ltInt a b (a+1) d) (λF _=>b+1-(intOf F).toNat)
 case atStart=>exact⟨a+1,d,by go_num,by omega,by omega,rfl,dX.refl H.o.1,rfl⟩
 case round=>
  obtain⟨i,dk,rfl,U,O,z,u,I⟩:=hrel;have HO:=U9 (Vb u I);clear I u;go_wp2_with fail
  ·go_loopw [7] (λA D=>∃(j:Nat) (dj:Array Int),A=.int .i64 j/\a<=j/\j<=i/\dj.size=d.size/\dX w g cur dj D/\insInner ltInt a j dj=insInner ltInt a i dk) (λA _=>(intOf A).toNat)
   case atStart=>exact⟨i,dk,rfl,by omega,Vc _,z,HO.o.1,rfl⟩
   case round=>
    obtain⟨j,dj,rfl,S,P,q,m,J⟩:=hrel;have y:i<b:=by assumption
    obtain⟨G,E⟩:∃G:Nat->Int,∀t,G t=dj[t]!:=⟨λt=>dj[t]!,λ_=>rfl⟩;obtain⟨l,Q⟩:=m.fam (by have:=H.o.2;omega) E;rw[q]at l;have k:=U9 (Vb m (Vb E (Vb J q)));clear m E J;have s:=U9 (λ(T:j<=a\/ltInt dj[j]! dj[j-1]! =false) (W:Yu) (N:dX w g cur dj W)=>(show∃v dk',Value.int .i64 ((i:Int)+1)=.int .i64 (v:Nat)/\a<v/\v<=b+1/\dk'.size=d.size/\dX w g cur dk' W/\insOuter ltInt a b v dk'=insOuter ltInt a b (a+1) d from
     ⟨i+1,dj,by go_num,by omega,by omega,k.o.2.2.2,N,by rw[<-HO.o.2,insOuter.eq_def ltInt a b i dk,Vh y,<-k.o.2.2.1,Lk _ _ _ T]⟩))
    go_wp2_with fail;by_cases B:a<j
    ·have V:=l j (by omega)
     have R:=l (j-1) (by omega);clear l;go_quiet (first|(go_at_call 131;refine Vu (ec _ _ _)));go_wp2_with fail
     ·have C:ltInt (G j) (G (j-1))=true:=by assumption
      go_region
      all_goals go_wp2_with fail
      go_roundw
      case rel=>
       refine⟨j-1,Sort.swp dj j (j-1),by congr 1;omega,by omega,by omega,by simp[Sort.swp,q],?_,?_⟩
       ·rw[k.o.2.1,k.o.2.1]
        exact k.o.1.swp _ (by omega) (by omega)
       ·rw[<-k.o.2.2.1,Lj a j dj B (by rw[<-k.o.2.1,<-k.o.2.1];exact C)]
      case measure=>simp[intOf];omega
     ·have C:ltInt (G j) (G (j-1))=false:=by assumption
      go_roundw
      case rel=>exact s.o (Vr (by rw[<-k.o.2.1,<-k.o.2.1];exact C)) _ (k.o.1.drewN nq)
      case measure=>simp[intOf];omega
    ·go_quiet (first|(go_at_call 131;refine Vu (ec _ _ _)))
     go_wp2_with fail;go_roundw
     case rel=>exact s.o (Vs (by omega)) _ (k.o.1.drewN nq)
     case measure=>simp[intOf];omega
  ·have x:¬i<b:=by assumption
   go_end0
   exact⟨rfl,by unfold insertionSort;rw[<-HO.o.2,insOuter.eq_def ltInt a b i dk,Vf x];exact HO.o.1⟩
def wi(hi f r:Nat)(d:Array Int):Nat:=if 2*r+1+1<hi/\ltInt d[f+(2*r+1)]! d[f+(2*r+1)+1]! =true then 2*r+2 else 2*r+1
theorem mX(h:hi<=2*r+1):siftDown ltInt hi f r d=d:=by rw[siftDown.eq_def,dif_pos h]
theorem K9(h:2*r+1<hi):wi hi f r d<hi/\r<wi hi f r d:=by
 unfold wi;split<;>omega
theorem oH(h:2*r+1<hi)(e:ltInt d[f+r]! d[f+wi hi f r d]! =false):siftDown ltInt hi f r d=d:=by
 rw[siftDown.eq_def,dif_neg (by omega)];unfold wi at e;by_cases c:2*r+1+1<hi/\ltInt d[f+(2*r+1)]! d[f+(2*r+1)+1]! =true
 ·rw[Vh c]at e
  rw[Vh (by simp[c.1,c.2]),Vh (by rw[e];rfl)]
 ·rw[Vf c]at e
  rw[Vf (by simpa using c),Vh (by rw[e];rfl)]
theorem oI(h:2*r+1<hi)(e:ltInt d[f+r]! d[f+wi hi f r d]! =true):siftDown ltInt hi f r d=siftDown ltInt hi f (wi hi f r d) (Sort.swp d (f+r) (f+wi hi f r d)):=by
 rw[siftDown.eq_def,dif_neg (by omega)];unfold wi at e⊢;by_cases c:2*r+1+1<hi/\ltInt d[f+(2*r+1)]! d[f+(2*r+1)+1]! =true
 ·rw[Vh c]at e⊢
  rw[Vh (by simp[c.1,c.2]),Vf (by rw[e];decide),dif_pos (by omega)]
 ·rw[Vf c]at e⊢
  rw[Vf (by simpa using c),Vf (by rw[e];decide)]
theorem NQ(h:SB w g cur d)(O:d.size<=cur.size)(S:d.size<=1000000)(c D hi f:Nat)(M:D<=hi)(T:f+hi<=d.size):
  Yt 137 #[.slice (some ⟨g,0,none⟩) d.size c,.int .i64 D,.int .i64 hi,.int .i64 f] w λe w'=>e=.returned (.tuple #[])/\dX w g cur (siftDown ltInt hi f D d) w':=by
 have H:=U9 (Vb h O);clear h O;go_enter func137,ntmps137;go_wp2_with fail
 go_loopw [8] (λJ wr=>∃(r:Nat) (dk:Array Int),J=.int .i64 r/\r<=hi/\dk.size=d.size/\dX w g cur dk wr/\siftDown ltInt hi f r dk=siftDown ltInt hi f D d) (λJ _=>hi-(intOf J).toNat)
 case atStart=>exact⟨D,d,rfl,M,rfl,dX.refl H.o.1,rfl⟩
 case round=>
  obtain⟨r,dk,rfl,U,v,A,I⟩:=hrel;have HO:=U9 (Vb A (Vb I v));by_cases C:2*r+1<hi
  ·obtain⟨G,K⟩:∃G:Nat->Int,∀t,G t=dk[t]!:=⟨λt=>dk[t]!,λ_=>rfl⟩
   obtain⟨l,u⟩:=A.fam (by have:=H.o.2;omega) K;rw[v]at l;have s:=U9 K;have P:decide ((hi:Int)<=2*(r:Int)+1)=false:=Vj (by omega);have R:=l (f+(2*r+1)) (by omega);clear I A K;go_upto_region 3 with fail;by_cases N:2*r+1+1<hi
   ·have F:decide (2*(r:Int)+1+1<(hi:Int))=true:=Vg (by omega)
    have Q:=l (f+(2*r+1)+1) (by omega);go_quiet (first|(go_at_call 131;refine Vu (ec _ _ _)));go_wp2_with fail
    ·have B:ltInt (G (f+(2*r+1))) (G (f+(2*r+1)+1))=true:=by assumption
     have k:wi hi f r dk=2*r+1+1:=by
      unfold wi;rw[Vh ⟨N,by rw[<-s.o,<-s.o];exact B⟩]
     have y:=U9 k;clear k;have m:=l (f+r) (by omega);have q:=l (f+(2*r+1+1)) (by omega);have z:=U9 (HO.o.1.drewN nq);have m:(wr.drewN nq).cell? ⟨g,f+r,none⟩=some (.int .u64 (G (f+r))):=m;have q:(wr.drewN nq).cell? ⟨g,f+(2*r+1+1),none⟩=some (.int .u64 (G (f+(2*r+1+1)))):=q;have u:∀t,(wr.drewN nq).frozen? ⟨g,t,none⟩=false:=u;generalize wr.drewN nq=W at z m q u⊢;clear l;go_quiet (first|(go_at_call 131;refine Vu (ec _ _ _)));go_wp2_with fail
     ·have x:ltInt (G (f+r)) (G (f+(2*r+1+1)))=false:=by simp_all
      refine VF (XO rfl _ _ _) rfl ?_;exact⟨rfl,by rw[<-HO.o.2.1,oH C (by rw[y.o,<-s.o,<-s.o];exact x)];exact z.o.drewN nq⟩
     ·have x:ltInt (G (f+r)) (G (f+(2*r+1+1)))=true:=by simp_all
      go_region
      all_goals go_wp2_with fail
      go_roundw
      case rel=>
       refine⟨2*r+1+1,Sort.swp dk (f+r) (f+(2*r+1+1)),by congr 1,by omega,by simp[Sort.swp,v],?_,?_⟩
       ·rw[s.o,s.o]
        exact z.o.swp _ (by omega) (by omega)
       ·have e:=oI C (by rw[y.o,<-s.o,<-s.o];exact x)
        rw[y.o]at e;rw[<-HO.o.2.1,e]
      case measure=>simp[intOf];omega
    ·have B:ltInt (G (f+(2*r+1))) (G (f+(2*r+1)+1))=false:=by assumption
     have k:wi hi f r dk=2*r+1:=by
      unfold wi;rw[Vf λE=>by rw[<-s.o,<-s.o,B]at E;cases E.2]
     have y:=U9 k;clear k;have m:=l (f+r) (by omega);have q:=l (f+(2*r+1)) (by omega);have z:=U9 (HO.o.1.drewN nq);have m:(wr.drewN nq).cell? ⟨g,f+r,none⟩=some (.int .u64 (G (f+r))):=m;have q:(wr.drewN nq).cell? ⟨g,f+(2*r+1),none⟩=some (.int .u64 (G (f+(2*r+1)))):=q;have u:∀t,(wr.drewN nq).frozen? ⟨g,t,none⟩=false:=u;generalize wr.drewN nq=W at z m q u⊢;clear l;go_quiet (first|(go_at_call 131;refine Vu (ec _ _ _)));go_wp2_with fail
     ·have x:ltInt (G (f+r)) (G (f+(2*r+1)))=false:=by simp_all
      refine VF (XO rfl _ _ _) rfl ?_;exact⟨rfl,by rw[<-HO.o.2.1,oH C (by rw[y.o,<-s.o,<-s.o];exact x)];exact z.o.drewN nq⟩
     ·have x:ltInt (G (f+r)) (G (f+(2*r+1)))=true:=by simp_all
      go_region
      all_goals go_wp2_with fail
      go_roundw
      case rel=>
       refine⟨2*r+1,Sort.swp dk (f+r) (f+(2*r+1)),by congr 1,by omega,by simp[Sort.swp,v],?_,?_⟩
       ·rw[s.o,s.o]
        exact z.o.swp _ (by omega) (by omega)
       ·have e:=oI C (by rw[y.o,<-s.o,<-s.o];exact x)
        rw[y.o]at e;rw[<-HO.o.2.1,e]
      case measure=>simp[intOf];omega
   ·have F:decide (2*(r:Int)+1+1<(hi:Int))=false:=Vj (by omega)
    go_quiet (first|(go_at_call 131;refine Vu (ec _ _ _)));go_wp2_with fail;have k:wi hi f r dk=2*r+1:=by
     unfold wi;rw[Vf λE=>N E.1]
    have y:=U9 k;clear k;have m:=l (f+r) (by omega);have q:=l (f+(2*r+1)) (by omega);have z:=U9 (HO.o.1.drewN nq);have m:(wr.drewN nq).cell? ⟨g,f+r,none⟩=some (.int .u64 (G (f+r))):=m;have q:(wr.drewN nq).cell? ⟨g,f+(2*r+1),none⟩=some (.int .u64 (G (f+(2*r+1)))):=q;have u:∀t,(wr.drewN nq).frozen? ⟨g,t,none⟩=false:=u;generalize wr.drewN nq=W at z m q u⊢;clear l;go_quiet (first|(go_at_call 131;refine Vu (ec _ _ _)));go_wp2_with fail
    ·have x:ltInt (G (f+r)) (G (f+(2*r+1)))=false:=by simp_all
     refine VF (XO rfl _ _ _) rfl ?_;exact⟨rfl,by rw[<-HO.o.2.1,oH C (by rw[y.o,<-s.o,<-s.o];exact x)];exact z.o.drewN nq⟩
    ·have x:ltInt (G (f+r)) (G (f+(2*r+1)))=true:=by simp_all
     go_region
     all_goals go_wp2_with fail
     go_roundw
     case rel=>
      refine⟨2*r+1,Sort.swp dk (f+r) (f+(2*r+1)),by congr 1,by omega,by simp[Sort.swp,v],?_,?_⟩
      ·rw[s.o,s.o]
       exact z.o.swp _ (by omega) (by omega)
      ·have e:=oI C (by rw[y.o,<-s.o,<-s.o];exact x)
       rw[y.o]at e;rw[<-HO.o.2.1,e]
     case measure=>simp[intOf];omega
  ·clear I A
   go_wp2_with fail
   all_goals go_end0
   exact⟨rfl,by rw[<-HO.o.2.1,mX (by omega)];exact HO.o.1⟩
theorem BR(h:SB w g cur d)(o:d.size<=cur.size)(q:d.size=n)(s:n<=1000000)(c k hi f:Nat)(l:k<=hi)(m:f+hi<=n):
  Yt 137 #[.slice (some ⟨g,0,none⟩) n c,.int .i64 k,.int .i64 hi,.int .i64 f] w λe w'=>e=.returned (.tuple #[])/\dX w g cur (siftDown ltInt hi f k d) w':=by
 subst q;exact NQ h o s c k hi f l m
theorem eH(d:Array Int)(i j:Nat):(Sort.swp d i j).size=d.size:=by simp[Sort.swp]
theorem mY:∀{d:Array Int},(siftDown ltInt hi f r d).size=d.size:=by
 have key:∀(n r:Nat) (d:Array Int),hi-r<=n->(siftDown ltInt hi f r d).size=d.size:=by
  intro n
  induction n with
  |zero=>intro r d h;rw[mX (by omega)]
  |succ n ih=>
   intro r d h;by_cases c:2*r+1<hi
   ·have k:=K9 (f:=f) (d:=d) c
    cases e:ltInt d[f+r]! d[f+wi hi f r d]! with
    |false=>rw[oH c e]
    |true=>rw[oI c e,ih _ _ (by omega),eH]
   ·rw[mX (by omega)]
 exact λ{d}=>key _ r d (Vc _)
theorem NW(h:SB w g cur d)(S:d.size<=cur.size)(Q:d.size<=1000000)(c a b:Nat)(M:a<=b)(P:b<=d.size):
  Yt 126 #[.slice (some ⟨g,0,none⟩) d.size c,.int .i64 a,.int .i64 b] w λe w'=>e=.returned (.tuple #[])/\dX w g cur (heapSort ltInt d a b) w':=by
 have H:=U9 (Vb h S);obtain⟨m,T⟩:∃m,b=a+m:=⟨b-a,by omega⟩;have hq:((m:Int)-1).tdiv 2=(((m-1)/2:Nat):Int):=by
  cases m with
  |zero=>rfl
  |succ m=>rw[show((m+1:Nat):Int)-1=(m:Int)by omega,WJ (by omega)];omega
 have Z:(b:Int)-(a:Int)=(m:Int):=by omega
 have V:=U9 (show heapSort ltInt d a b=heapPop ltInt a m (heapBuild ltInt m a ((m-1)/2+1) d)from by unfold heapSort;rw[T,Nat.add_sub_cancel_left]);obtain⟨q,I⟩:∃q,(m-1)/2=q:=⟨_,rfl⟩;have δ:q<=m:=by omega
 rw[I]at hq V;have P:a+m<=d.size:=by omega
 clear h S M I T;go_enter func126,ntmps126;go_wp2_with fail
 go_loopw [9] (λv wr=>∃(k:Nat) (dk:Array Int),v=.int .i64 ((k:Int)-1)/\k<=q+1/\dk.size=d.size/\dX w g cur dk wr/\heapBuild ltInt m a k dk=heapBuild ltInt m a (q+1) d) (λv _=>(intOf v+1).toNat)
 case atStart=>exact⟨q+1,d,by first|(congr 1;omega)|congr 1,Vc _,rfl,dX.refl H.o.1,rfl⟩
 case round=>
  obtain⟨k,dk,rfl,hk,u,l,A⟩:=hrel;cases k with
  |succ k=>
   have K:((k+1:Nat):Int)-1=(k:Int):=by omega
   have C:=U9 (BR l.1 (by have:=H.o.2;omega) u Q c k m a (by omega) P);have HO:=U9 (Vb l (Vb A u));clear l A;go_wp2_with fail;refine C.o.mono ?_;rintro e U ⟨rfl,B⟩;have E:=U9 B;clear B;go_wp2_with fail;go_roundw
   case rel=>exact⟨k,siftDown ltInt m a k dk,rfl,by omega,mY.trans u,HO.o.1.trans E.o,HO.o.2.1⟩
   case measure=>simp[intOf]
  |zero=>
   have HO:=U9 (Vb l (Vb (show dk=heapBuild ltInt m a (q+1) d from A) u));clear l A;generalize hx:((0:Nat):Int)-1=x;have γ:x<0:=by omega
   have β:decide (0<=x)=false:=Vj (by omega);clear hx;go_wp2_with fail
   go_loopw [10] (λv wr=>∃(k:Nat) (dj:Array Int),v=.int .i64 ((k:Int)-1)/\k<=m/\dj.size=d.size/\dX w g cur dj wr/\heapPop ltInt a k dj=heapPop ltInt a m dk) (λv _=>(intOf v+1).toNat)
   case atStart=>exact⟨m,dk,rfl,Vc _,HO.o.2.2,HO.o.1,rfl⟩
   case round=>
    obtain⟨k,dj,rfl,X,F,l,A⟩:=hrel;cases k with
    |succ k=>
     have K:((k+1:Nat):Int)-1=(k:Int):=by omega
     obtain⟨G,O⟩:∃G:Nat->Int,∀t,G t=dj[t]!:=⟨λt=>dj[t]!,λ_=>rfl⟩;obtain⟨y,α⟩:=l.fam (by have:=H.o.2;omega) O;rw[F]at y;have Y:=y a (by omega);have ε:=y (a+k) (by omega);have s:=U9 (Vb l (Vb O (Vb A F)));have R:=U9 (λ(W:Yu) (z:dX w g cur (Sort.swp dj a (a+k)) W)=>show Yt 137 #[.slice (some ⟨g,0,none⟩) d.size c,.int .i64 0,.int .i64 k,.int .i64 a] W λe w'=>e=.returned (.tuple #[])/\dX W g cur (siftDown ltInt k a 0 (Sort.swp dj a (a+k))) w' from BR z.1 (by rw[eH];have:=H.o.2;omega) ((eH _ _ _).trans F) Q c 0 k a (VX _) (by omega));clear l A O y;go_upto_region 10 with fail;have D:∀W,dX w g cur (siftDown ltInt k a 0 (Sort.swp dj a (a+k))) W->heapPop ltInt a k (siftDown ltInt k a 0 (Sort.swp dj a (a+k)))=heapPop ltInt a m dk:=λW _=>s.o.2.2.1
     have J:=U9 D;clear D;by_cases N:k=0
     ·subst N
      go_region
      all_goals go_wp2_with fail
      have z:dX w g cur (Sort.swp dj a (a+0)) ((wr.setCell ⟨g,a,none⟩ (.int .u64 (G a))).setCell ⟨g,a,none⟩ (.int .u64 (G a))).drew:=by
       rw[s.o.2.1];exact s.o.1.swp0 (by omega) (by omega)
      refine(R.o _ z).mono ?_;rintro e U ⟨rfl,B⟩;have E:=U9 (z.trans B);clear B z;go_wp2_with fail;go_roundw
      case rel=>
       exact⟨0,_,rfl,by omega,(mY.trans (eH _ _ _)).trans s.o.2.2.2,E.o,J.o _ E.o⟩
      case measure=>simp[intOf]
     ·go_region
      all_goals go_wp2_with fail
      have z:dX w g cur (Sort.swp dj a (a+k)) ((wr.setCell ⟨g,a,none⟩ (.int .u64 (G (a+k)))).setCell ⟨g,a+k,none⟩ (.int .u64 (G a))).drew:=by
       rw[s.o.2.1,s.o.2.1];exact s.o.1.swp0 (by omega) (by omega)
      refine(R.o _ z).mono ?_;rintro e U ⟨rfl,B⟩;have E:=U9 (z.trans B);clear B z;go_wp2_with fail;go_roundw
      case rel=>exact⟨k,_,rfl,by omega,(mY.trans (eH _ _ _)).trans s.o.2.2.2,E.o,J.o _ E.o⟩
      case measure=>simp[intOf]
    |zero=>
     have s:=U9 (Vb l (show dj=heapPop ltInt a m dk from A));clear l A;go_wp2_with fail
     go_end0
     exact⟨rfl,by rw[V.o,<-HO.o.2.1,<-s.o.2];exact s.o.1⟩
theorem SB.mod{w':Yu}{F:Nat->Prop}(h:SB w g cur d)(m:ah F w w')(hF:¬F g):SB w' g cur d:=m.blk h hF
def JG(w:Yu)(s n m:Nat)(w':Yu):Prop:=∃m':Nat,n<=m'/\m'<=m/\ai w' s 3 #[.int .i64 m']/\ah (cj s) w w'
theorem wF{s:Nat}(h:SB w g cur d)(E:d.size<=cur.size)(l:ai w s 3 #[.int .i64 n])(I:n<=100)(J:d.size<=1000000)(c a b:Nat)(z:a<d.size)(m:b<d.size):
  Yt 141 #[.slice (some ⟨g,0,none⟩) d.size c,.int .i64 a,.int .i64 b,Yr s] w λe w'=>∃x y:Nat,e=.returned (.tuple #[.int .i64 x,.int .i64 y])/\((x=a/\y=b)\/(x=b/\y=a))/\JG w s n (n+1) w':=by
 obtain⟨G,u⟩:∃G:Nat->Int,∀t,G t=d[t]!:=⟨λt=>d[t]!,λ_=>rfl⟩;obtain⟨k,H⟩:=(dX.refl h).fam E u;have A:=k a z;have v:=k b m;have D:w.cell? ⟨s,0,none⟩=some (.int .i64 n):=by rw[l.cell];rfl
 have B:w.frozen? ⟨s,0,none⟩=false:=l.frozen 0;have q:=U9 l;clear k l h u;go_enter func141,ntmps141;go_wp2_with fail;go_quiet (first|(go_at_call 131;refine Vu (ec _ _ _)));go_wp2_with fail
 ·go_ret2
  refine⟨b,a,rfl,.inr ⟨rfl,rfl⟩,n+1,by omega,by omega,?_,?_⟩
  ·have C:=ai.set_ (w:=w.drewN nq) q.o 0 (.int .i64 ((n:Int)+1))
   exact C
  ·exact(ah.drewN nq).trans (ah.set (F:=cj s) ⟨s,0,none⟩ (show cj s s from rfl) _)
 ·go_ret2
  exact⟨a,b,rfl,.inl ⟨rfl,rfl⟩,n,Vc _,by omega,q.o,ah.drewN nq⟩
theorem FX{s:Nat}(h:SB w g cur d)(P:d.size<=cur.size)(S:ai w s 3 #[.int .i64 n])(E:g≠s)(hn:n<=50)(O:d.size<=1000000)(c i j k:Nat)(hi:i<d.size)(hj:j<d.size)(hk:k<d.size):
  Yt 139 #[.slice (some ⟨g,0,none⟩) d.size c,.int .i64 i,.int .i64 j,.int .i64 k,Yr s] w λe w'=>∃x:Nat,e=.returned (.int .i64 x)/\(x=i\/x=j\/x=k)/\JG w s n (n+3) w':=by
 have U:=U9 (wF h P S (by omega) O c i j hi hj);have H:=U9 h;clear h S;go_enter func139,ntmps139;go_wp2_with fail;refine U.o.mono ?_;rintro e w1 ⟨x1,K,rfl,N,n1,q,F,v,l⟩;have T:K=i\/K=j:=by omega
 have D:x1=i\/x1=j:=by omega
 have M:=H.o.mod l E;have R:=U9 (wF M P v (by omega) O c K k (by omega) hk);have z:=U9 (Vb M (Vb l (Vb q (Vb F (Vb D T)))));clear M l q F v U N D T;go_wp2_with fail;refine R.o.mono ?_;rintro e w2 ⟨x2,y2,rfl,J,n2,B,C,A,m⟩;have D:x2=i\/x2=j\/x2=k:=by have:=z.o.2.2.2.2.2;omega
 have Q:=z.o.1.mod m E;have W:=z.o.2.2.2.2.1;have e2:=z.o.2.2.2.1;have V:=U9 (wF Q P A (by omega) O c x1 x2 (by omega) (by omega));have H2:=U9 (Vb m (Vb B (Vb C (Vb D W))));clear Q m B C A R J D W e2;go_wp2_with fail;refine V.o.mono ?_;rintro e w3 ⟨x3,y3,rfl,t,Y,u,G,I,y⟩;have Z:=U9 (Vb y (Vb u (Vb G (Vb t I))));clear t u G I y V;go_wp2_with fail;go_ret;obtain⟨-,q1,q2,q3,q4,q5⟩:=z.o;obtain⟨p1,p2,p3,p4,p5⟩:=H2.o;obtain⟨X,r2,r3,r4,r5⟩:=Z.o;exact⟨y3,rfl,by omega,Y,by omega,by omega,r5,(q1.trans p1).trans X⟩
theorem J4(h:SB w g cur d)(U:d.size<=cur.size)(R:d.size<=1000000)(c a l:Nat)(hl:8<=l)(N:l<50)(Y:a+l<=d.size)(G:b=a+l):
  Yt 128 #[.slice (some ⟨g,0,none⟩) d.size c,.int .i64 a,.int .i64 b] w λe w'=>∃(x:Nat) (t:Int),e=.returned (.tuple #[.int .i64 x,.int .i64 t])/\a<=x/\x<b/\(t=0\/t=1)/\Ys w w':=by
 have e1:(b:Int)-(a:Int)=(l:Int):=by omega
 have Q:(l:Int).tdiv 4=((l/4:Nat):Int):=by rw[WJ (by omega)];omega
 obtain⟨q,I⟩:∃q,l/4=q:=⟨_,rfl⟩;rw[I]at Q;have u:4*q<=l/\2<=q:=by omega
 have K:q<=12:=by omega
 have T:=ai.lt h;have E:Ys w (w.alloc (.cells #[.int .i64 0] 3)):=(Vd _ _).alloc (Vc _) _;have J:=U9 (FX (n:=0) (SB.mod h (ah.of_below (F:=cM) E) (λh=>h)) U (ai.new w _ _) (by omega) (by omega) R c (a+q) (a+q*2) (a+q*3) (by omega) (by omega) (by omega));have H:=U9 (Vb u (Vb G E));clear h G I u E;go_enter func128,ntmps128;go_wp2_with fail;refine J.o.mono ?_;rintro e D ⟨x,rfl,V,A,C,X,m,k⟩;obtain⟨⟨M,W⟩,O,B⟩:=H.o;have v:a<=x/\x<b:=by omega
 have S:D.cell? ⟨w.heap.size,0,none⟩=some (.int .i64 A):=by rw[m.cell];rfl
 have P:D.frozen? ⟨w.heap.size,0,none⟩=false:=m.frozen 0;have z:Ys w D:=B.trans ⟨k.os,k.tape,k.output,by have:=k.size;have:=B.size;omega,λj hj=>k.block j (by have:=B.size;omega) λe=>by have e:j=w.heap.size:=e;omega⟩;have s:=U9 (Vb v z);clear M W O B V v z m k C J H;by_cases y:A=0
 ·subst y
  go_wp2_with fail;go_ret2;exact⟨x,1,rfl,s.o.1.1,s.o.1.2,.inr rfl,s.o.2⟩
 ·have d1:((A:Int)==0)=false:=by simpa using y
  have Z:((A:Int)==12)=false:=by simp;omega
  go_wp2_with fail;go_ret2;exact⟨x,0,rfl,s.o.1.1,s.o.1.2,.inl rfl,s.o.2⟩
theorem wC(d:Array Int)(a:Nat):SortedIn ltInt a (a+1) d:=λi j c e h=>by omega
theorem ua{a:Nat}(h:SortedIn ltInt a i d)(o:a<i)(c:ltInt d[i]! d[i-1]! =false):SortedIn ltInt a (i+1) d:=λx y e k q=>by
 unfold ltInt at c;rw[decide_eq_false_iff_not]at c;by_cases l:y=i
 ·subst l
  unfold ltInt;rw[decide_eq_false_iff_not];by_cases m:x=y-1
  ·subst m;exact c
  ·have:=h x (y-1) e (by omega) (by omega)
   unfold ltInt at this;rw[decide_eq_false_iff_not]at this;omega
 ·exact h x y e k (by omega)
theorem BS(h:SB w g cur d)(Y:d.size<=cur.size)(hz:d.size<=1000000)(c a l:Nat)(D:1<=l)(B:l<50)(J:a+l<=d.size)(R:b=a+l):
  Yt 130 #[.slice (some ⟨g,0,none⟩) d.size c,.int .i64 a,.int .i64 b] w λe w'=>∃r:Bool,e=.returned (.bool r)/\(r=true->SortedIn ltInt a b d)/\Ys w w':=by
 obtain⟨G,H⟩:∃G:Nat->Int,∀t,G t=d[t]!:=⟨λt=>d[t]!,λ_=>rfl⟩;obtain⟨s,x⟩:=(dX.refl h).fam Y H;have e1:decide ((b:Int)-(a:Int)<50)=true:=Vg (by omega);have X:=U9 s;have N:=U9 H;have S:=U9 x;have Z:b<=d.size:=by omega
 have Q:a<b:=by omega
 clear h s H R x J D B;go_enter func130,ntmps130;go_wp2_with fail
 go_loopw [7,8] (λV v8 wr=>V=.int .i64 ((a+1:Nat):Int)/\v8=.int .i64 0/\wr=w) (λ_ _ _=>0)
 case atStart=>exact⟨by go_num,rfl,rfl⟩
 case round=>
  obtain⟨rfl,rfl,rfl⟩:=hrel;go_wp2_with fail
  go_loopw [7] (λv U=>∃(i n:Nat),v=.int .i64 i/\a<i/\i<=b/\SortedIn ltInt a i d/\U=wr.drewN n) (λv _=>b-(intOf v).toNat)
  case atStart=>exact⟨a+1,0,rfl,by omega,by omega,wC d a,rfl⟩
  case round=>
   obtain⟨i,n,rfl,I,T,z,rfl⟩:=hrel;have O:=U9 z;clear z;have A:Ys wr (wr.drewN n):=bC (Vd _ _) n;have m:∀t,t<d.size->(wr.drewN n).cell? ⟨g,t,none⟩=some (.int .u64 (G t)):=X.o;have y:∀t,(wr.drewN n).frozen? ⟨g,t,none⟩=false:=S.o;have F:=U9 (λk=>show(wr.drewN n).drewN k=wr.drewN (n+k)by simp[World.drewN,VO]);by_cases P:i<b
   ·have K:=m i (by omega)
    have E:=m (i-1) (by omega);have C:decide ((i:Int)<(b:Int))=true:=Vg (by omega);have q:=U9 A;clear m A;generalize M:wr.drewN n=W at q K E y F⊢;have HW:=U9 M;clear M;go_upto_region 5 with fail;go_quiet (first|(go_at_call 131;refine Vu (ec _ _ _)));go_wp2_with fail
    ·have D:ltInt (G i) (G (i-1))=false:=by simp_all
     go_roundw
     case rel=>exact⟨i+1,n+nq,by go_num,by omega,by omega,ua O.o I (by rw[<-N.o,<-N.o];exact D),F.o nq⟩
     case measure=>simp[intOf];omega
    ·refine VF (results_tmp rfl _ _ _) rfl ?_
     exact⟨false,rfl,(λh=>by cases h),q.o.trans ((bC (Vd _ _) nq).mono q.o.size)⟩
   ·have C:decide ((i:Int)<(b:Int))=false:=Vj (by omega)
    have q:=U9 A;have u:i=b:=by omega
    subst u;clear m A;generalize wr.drewN n=W at q y F⊢;go_upto_region 5 with fail;go_quiet (first|(go_at_call 131;refine Vu (ec _ _ _)));go_wp2_with fail;refine VF (results_tmp rfl _ _ _) rfl ?_;exact⟨true,rfl,(λ_=>O.o),q.o.trans ((bC (Vd _ _) nq).mono q.o.size)⟩
section
variable{p:Int->Bool}{d:Array Int}{i j:Nat}
theorem BC(h:i<=j)(c:p d[i]! =true):scanUp p d j i=scanUp p d j (i+1):=by rw[scanUp.eq_def,Vh (by simp[h,c])]
theorem ro(h:¬(i<=j/\p d[i]! =true)):scanUp p d j i=i:=by rw[scanUp.eq_def,Vf (by simpa using h)]
theorem EB(h:i<=j)(e:1<=j)(c:p d[j]! =true):scanDown p d i j=scanDown p d i (j-1):=by
 cases j with
 |zero=>omega
 |succ j=>
  show scanDown p d i (j+1)=scanDown p d i j;rw[scanDown,Vh (by simp[h,c])]
theorem rW(h:¬(i<=j/\p d[j]! =true)):scanDown p d i j=j:=by
 cases j with
 |zero=>rw[scanDown]
 |succ j=>rw[scanDown,Vf (by simpa using h)]
end
theorem yB(d:Array Int)(a b c:Nat)(e:Sort.swp d a c=d1)(hi:scanUp (λx=>ltInt x d1[a]!) d1 (b-1) (a+1)=i)(h:scanDown (λx=> !ltInt x d1[a]!) d1 i (b-1)=j):
  partition ltInt d a b c=if i>j then(j,true,Sort.swp d1 j a)else((partLoop ltInt a (i+1) (j-1) (Sort.swp d1 i j)).1,false,Sort.swp (partLoop ltInt a (i+1) (j-1) (Sort.swp d1 i j)).2 (partLoop ltInt a (i+1) (j-1) (Sort.swp d1 i j)).1 a):=by
 unfold partition;rw[e];simp only[hi,h]
theorem NS(h:SB w g cur d)(hs:d.size<=cur.size)(hz:d.size<=1000000)(c a b p:Nat)(hap:a<=p)(Ξ:p<b)(Ψ:b<=d.size):
  Yt 133 #[.slice (some ⟨g,0,none⟩) d.size c,.int .i64 a,.int .i64 b,.int .i64 p] w λe w'=>e=.returned (.tuple #[.int .i64 (partition ltInt d a b p).1,.bool (partition ltInt d a b p).2.1])/\dX w g cur (partition ltInt d a b p).2.2 w':=by
 obtain⟨d1,ι⟩:∃x,Sort.swp d a p=x:=⟨_,rfl⟩;have S:d1.size=d.size:=by rw[<-ι,eH]
 have φ:d.size=d.size:=rfl;have H:=U9 (Vb h hs);have H0:=U9 (dX.refl h);have HD:=U9 ι;have hb1:(b:Int)-1=((b-1:Nat):Int):=by omega
 clear h hs ι;go_enter func133,ntmps133;obtain⟨G,m⟩:∃G:Nat->Int,∀t,G t=d[t]!:=⟨λt=>d[t]!,λ_=>rfl⟩;obtain⟨k,s⟩:=H0.o.fam (by have:=H.o.2;omega) m;rw[φ]at k;have E:=k a (by omega);have F:=k p (by omega);have J:=U9 m;clear k m;go_upto_region 1 with fail
 go_cut []from 12 to 25 (λu=>dX w g cur (Sort.swp d a p) u)
 case first=>
  by_cases T:a=p
  ·subst T
   go_region
   all_goals go_wp2_with fail
   go_meet;rw[J.o];exact H0.o.swp0 (by omega) (by omega)
  ·go_region
   all_goals go_wp2_with fail
   go_meet;rw[J.o,J.o];exact H0.o.swp0 (by omega) (by omega)
 case rest=>
  have U:=U9 hcut;clear hcut E F s;rw[HD.o]at U;obtain⟨y,Y⟩:∃z,scanUp (λx=>ltInt x d1[a]!) d1 (b-1) (a+1)=z:=⟨_,rfl⟩;obtain⟨B,Z⟩:∃z,scanDown (λx=> !ltInt x d1[a]!) d1 y (b-1)=z:=⟨_,rfl⟩;have Θ:a+1<=y:=by rw[<-Y];exact scanUp_ge _ _ _ _
  have ω:B<=(b-1):=by rw[<-Z];exact scanDown_le _ _ _ _
  have θ:y<=B->y<B:=λR=>by
   have f1:=(scanUp_spec (λx=>ltInt x d1[a]!) d1 (b-1) _ (a+1) rfl).2.2.2;have f2:=(scanDown_spec (λx=> !ltInt x d1[a]!) d1 y (b-1)).2.2.2;rw[Y]at f1;rw[Z]at f2;by_cases he:y=B
   ·have g1:=f1 (by omega)
    have g2:=f2 R (by omega);rw[<-he]at g2;rw[g1]at g2;cases g2
   ·omega
  have H1:=U9 Y;have G1:=U9 Z;clear Y Z;go_upto_block 0 with fail
  go_cut [10]from 30 to 45 (λv u=>v=.int .i64 y/\dX w g cur d1 u)
  case first=>
   go_wp2_with fail
   go_loopw [10] (λv u=>∃i:Nat,v=.int .i64 i/\(a+1)<=i/\(i<=(b-1)+1\/i=(a+1))/\dX w g cur d1 u/\scanUp (λx=>ltInt x d1[a]!) d1 (b-1) i=y) (λv _=>(b-1)+1-(intOf v).toNat)
   case atStart=>exact⟨(a+1),by first|rfl|go_num|(congr 1;omega),Vc _,Vr rfl,U.o,H1.o⟩
   case round=>
    obtain⟨i,rfl,K,h2,I,q⟩:=hrel;obtain⟨G,m⟩:∃G:Nat->Int,∀t,G t=d1[t]!:=⟨λt=>d1[t]!,λ_=>rfl⟩;obtain⟨k,s⟩:=I.fam (by have:=H.o.2;omega) m;rw[S]at k;have M:=k a (by omega);have l:=U9 (Vb I (Vb m q));by_cases A:i<=(b-1)
    ·have ε:=k i (by omega)
     have O:decide ((i:Int)<=((b-1):Int))=true:=Vg (by omega);clear k I m q;go_upto_region 3 with fail;go_quiet (first|(go_at_call 131;refine Vu (ec _ _ _)));go_wp2_with fail
     ·have P:ltInt (G i) (G a)=true:=by simp_all
      go_roundw
      case rel=>exact⟨i+1,by first|rfl|go_num|(congr 1;omega),by omega,Vs (by omega),l.o.1.drewN nq,by rw[<-l.o.2.2,<-BC A (by show ltInt d1[i]! d1[a]! =true;rw[<-l.o.2.1,<-l.o.2.1];rw[P])]⟩
      case measure=>simp[intOf];omega
     ·have P:ltInt (G i) (G a)=false:=by simp_all
      go_meet;exact⟨by rw[<-l.o.2.2,ro (λN=>by have K:ltInt d1[i]! d1[a]! =true:=N.2;rw[<-l.o.2.1,<-l.o.2.1]at K;rw[P]at K;cases K)],l.o.1.drewN nq⟩
    ·have O:decide ((i:Int)<=((b-1):Int))=false:=Vj (by omega)
     clear k I m q M;go_upto_region 3 with fail;go_quiet (first|(go_at_call 131;refine Vu (ec _ _ _)));go_wp2_with fail;go_meet;exact⟨by rw[<-l.o.2.2,ro (λN=>A N.1)],l.o.1.drewN nq⟩
  case rest=>
   obtain⟨rfl,π⟩:=hcut;have HA:=U9 π;clear π U;go_upto_block 2 with fail
   go_cut [11]from 46 to 62 (λv u=>v=.int .i64 B/\dX w g cur d1 u)
   case first=>
    go_wp2_with fail
    go_loopw [11] (λv u=>∃j:Nat,v=.int .i64 j/\j<=(b-1)/\dX w g cur d1 u/\scanDown (λx=> !ltInt x d1[a]!) d1 y j=B) (λv _=>(intOf v).toNat)
    case atStart=>exact⟨(b-1),by first|rfl|go_num|(congr 1;omega),Vc _,HA.o,G1.o⟩
    case round=>
     obtain⟨j,rfl,h2,I,q⟩:=hrel;obtain⟨G,m⟩:∃G:Nat->Int,∀t,G t=d1[t]!:=⟨λt=>d1[t]!,λ_=>rfl⟩;obtain⟨k,s⟩:=I.fam (by have:=H.o.2;omega) m;rw[S]at k;have M:=k a (by omega);have l:=U9 (Vb I (Vb m q));by_cases A:y<=j
     ·have ε:=k j (by omega)
      have O:decide ((y:Int)<=(j:Int))=true:=Vg (by omega);clear k I m q;go_upto_region 5 with fail;go_quiet (first|(go_at_call 131;refine Vu (ec _ _ _)));go_wp2_with fail
      ·have P:ltInt (G j) (G a)=false:=by simp_all
       go_roundw
       case rel=>exact⟨j-1,by first|rfl|go_num|(congr 1;omega),by omega,l.o.1.drewN nq,by rw[<-l.o.2.2,<-EB A (by omega) (by show(!ltInt d1[j]! d1[a]!)=true;rw[<-l.o.2.1,<-l.o.2.1];rw[P];rfl)]⟩
       case measure=>simp[intOf];omega
      ·have P:ltInt (G j) (G a)=true:=by simp_all
       go_meet;exact⟨by rw[<-l.o.2.2,rW (λN=>by have K:(!ltInt d1[j]! d1[a]!)=true:=N.2;rw[<-l.o.2.1,<-l.o.2.1]at K;rw[P]at K;cases K)],l.o.1.drewN nq⟩
     ·have O:decide ((y:Int)<=(j:Int))=false:=Vj (by omega)
      clear k I m q M;go_upto_region 5 with fail;go_quiet (first|(go_at_call 131;refine Vu (ec _ _ _)));go_wp2_with fail;go_meet;exact⟨by rw[<-l.o.2.2,rW (λN=>A N.1)],l.o.1.drewN nq⟩
   case rest=>
    obtain⟨rfl,ξ⟩:=hcut;have HB:=U9 ξ;clear ξ HA;by_cases χ:y>B
    ·have β:decide ((B:Int)<(y:Int))=true:=Vg (by omega)
     obtain⟨G,m⟩:∃G:Nat->Int,∀t,G t=d1[t]!:=⟨λt=>d1[t]!,λ_=>rfl⟩;obtain⟨k,s⟩:=HB.o.fam (by have:=H.o.2;omega) m;rw[S]at k;have E:=k B (by omega);have F:=k a (by omega);have J:=U9 m;clear k m;go_upto_region 8 with fail
     go_cut []from 66 to 79 (λu=>dX w g cur (Sort.swp d1 B a) u)
     case first=>
      by_cases T:B=a
      ·subst T
       go_region
       all_goals go_wp2_with fail
       go_meet;rw[J.o];exact HB.o.swp0 (by omega) (by omega)
      ·go_region
       all_goals go_wp2_with fail
       go_meet;rw[J.o,J.o];exact HB.o.swp0 (by omega) (by omega)
     case rest=>
      have U:=U9 hcut;clear hcut E F s;go_wp2_with fail;go_ret2;have e:=yB d a b p HD.o H1.o G1.o;rw[Vh χ]at e;rw[e];exact⟨rfl,U.o⟩
    ·have β:decide ((B:Int)<(y:Int))=false:=Vj (by omega)
     have υ:=θ (by omega);obtain⟨G,m⟩:∃G:Nat->Int,∀t,G t=d1[t]!:=⟨λt=>d1[t]!,λ_=>rfl⟩;obtain⟨k,s⟩:=HB.o.fam (by have:=H.o.2;omega) m;rw[S]at k;have E:=k y (by omega);have F:=k B (by omega);have J:=U9 m;clear k m;go_upto_region 10 with fail
     go_cut []from 81 to 94 (λu=>dX w g cur (Sort.swp d1 y B) u)
     case first=>
      go_region
      all_goals go_wp2_with fail
      go_meet;rw[J.o,J.o];exact HB.o.swp0 (by omega) (by omega)
     case rest=>
      have U:=U9 hcut;clear hcut E F s;go_wp2_with fail
      go_loopw [10,11] (λη δ u=>∃(i j:Nat) (dk:Array Int),η=.int .i64 i/\δ=.int .i64 j/\a<i/\j<b/\dk.size=d.size/\dX w g cur dk u/\partLoop ltInt a i j dk=partLoop ltInt a (y+1) (B-1) (Sort.swp d1 y B)) (λη δ _=>(intOf δ+1-intOf η).toNat)
      case atStart=>exact⟨y+1,B-1,Sort.swp d1 y B,by first|rfl|(congr 1;omega),by first|rfl|(congr 1;omega),by omega,by omega,(eH _ _ _).trans S,U.o,rfl⟩
      case round=>
       obtain⟨oi,Q,dk,rfl,rfl,Φ,Ω,V,μ,τ⟩:=hrel;have HK:=U9 μ;have HP:=U9 τ;clear μ τ;obtain⟨C,X⟩:∃z,scanUp (λx=>ltInt x dk[a]!) dk Q (oi)=z:=⟨_,rfl⟩;obtain⟨D,α⟩:∃z,scanDown (λx=> !ltInt x dk[a]!) dk C Q=z:=⟨_,rfl⟩;have Γ:oi<=C:=by rw[<-X];exact scanUp_ge _ _ _ _
       have Δ:D<=Q:=by rw[<-α];exact scanDown_le _ _ _ _
       have ζ:C<=D->C<D:=λR=>by
        have f1:=(scanUp_spec (λx=>ltInt x dk[a]!) dk Q _ (oi) rfl).2.2.2;have f2:=(scanDown_spec (λx=> !ltInt x dk[a]!) dk C Q).2.2.2;rw[X]at f1;rw[α]at f2;by_cases he:C=D
        ·have g1:=f1 (by omega)
         have g2:=f2 R (by omega);rw[<-he]at g2;rw[g1]at g2;cases g2
        ·omega
       have H2:=U9 X;have G2:=U9 α;clear X α;have γ:=partLoop_eq (lt:=ltInt) a oi Q dk;rw[H2.o,G2.o]at γ;have κ:=U9 γ;clear γ;go_upto_block 6 with fail
       go_cut [10]from 99 to 114 (λv u=>v=.int .i64 C/\dX w g cur dk u)
       case first=>
        go_wp2_with fail
        go_loopw [10] (λv u=>∃i:Nat,v=.int .i64 i/\oi<=i/\(i<=Q+1\/i=oi)/\dX w g cur dk u/\scanUp (λx=>ltInt x dk[a]!) dk Q i=C) (λv _=>Q+1-(intOf v).toNat)
        case atStart=>exact⟨oi,by first|rfl|go_num|(congr 1;omega),Vc _,Vr rfl,HK.o,H2.o⟩
        case round=>
         obtain⟨i,rfl,K,h2,I,q⟩:=hrel;obtain⟨G,m⟩:∃G:Nat->Int,∀t,G t=dk[t]!:=⟨λt=>dk[t]!,λ_=>rfl⟩;obtain⟨k,s⟩:=I.fam (by have:=H.o.2;omega) m;rw[V]at k;have M:=k a (by omega);have l:=U9 (Vb I (Vb m q));by_cases A:i<=Q
         ·have ε:=k i (by omega)
          have O:decide ((i:Int)<=(Q:Int))=true:=Vg (by omega);clear k I m q;go_upto_region 13 with fail;go_quiet (first|(go_at_call 131;refine Vu (ec _ _ _)));go_wp2_with fail
          ·have P:ltInt (G i) (G a)=true:=by simp_all
           go_roundw
           case rel=>exact⟨i+1,by first|rfl|go_num|(congr 1;omega),by omega,Vs (by omega),l.o.1.drewN nq,by rw[<-l.o.2.2,<-BC A (by show ltInt dk[i]! dk[a]! =true;rw[<-l.o.2.1,<-l.o.2.1];rw[P])]⟩
           case measure=>simp[intOf];omega
          ·have P:ltInt (G i) (G a)=false:=by simp_all
           go_meet;exact⟨by rw[<-l.o.2.2,ro (λN=>by have K:ltInt dk[i]! dk[a]! =true:=N.2;rw[<-l.o.2.1,<-l.o.2.1]at K;rw[P]at K;cases K)],l.o.1.drewN nq⟩
         ·have O:decide ((i:Int)<=(Q:Int))=false:=Vj (by omega)
          clear k I m q M;go_upto_region 13 with fail;go_quiet (first|(go_at_call 131;refine Vu (ec _ _ _)));go_wp2_with fail;go_meet;exact⟨by rw[<-l.o.2.2,ro (λN=>A N.1)],l.o.1.drewN nq⟩
       case rest=>
        obtain⟨rfl,σ⟩:=hcut;have ψ:=U9 σ;clear σ;go_upto_block 8 with fail
        go_cut [11]from 115 to 131 (λv u=>v=.int .i64 D/\dX w g cur dk u)
        case first=>
         go_wp2_with fail
         go_loopw [11] (λv u=>∃j:Nat,v=.int .i64 j/\j<=Q/\dX w g cur dk u/\scanDown (λx=> !ltInt x dk[a]!) dk C j=D) (λv _=>(intOf v).toNat)
         case atStart=>exact⟨Q,by first|rfl|go_num|(congr 1;omega),Vc _,ψ.o,G2.o⟩
         case round=>
          obtain⟨j,rfl,h2,I,q⟩:=hrel;obtain⟨G,m⟩:∃G:Nat->Int,∀t,G t=dk[t]!:=⟨λt=>dk[t]!,λ_=>rfl⟩;obtain⟨k,s⟩:=I.fam (by have:=H.o.2;omega) m;rw[V]at k;have M:=k a (by omega);have l:=U9 (Vb I (Vb m q));by_cases A:C<=j
          ·have ε:=k j (by omega)
           have O:decide ((C:Int)<=(j:Int))=true:=Vg (by omega);clear k I m q;go_upto_region 15 with fail;go_quiet (first|(go_at_call 131;refine Vu (ec _ _ _)));go_wp2_with fail
           ·have P:ltInt (G j) (G a)=false:=by simp_all
            go_roundw
            case rel=>exact⟨j-1,by first|rfl|go_num|(congr 1;omega),by omega,l.o.1.drewN nq,by rw[<-l.o.2.2,<-EB A (by omega) (by show(!ltInt dk[j]! dk[a]!)=true;rw[<-l.o.2.1,<-l.o.2.1];rw[P];rfl)]⟩
            case measure=>simp[intOf];omega
           ·have P:ltInt (G j) (G a)=true:=by simp_all
            go_meet;exact⟨by rw[<-l.o.2.2,rW (λN=>by have K:(!ltInt dk[j]! dk[a]!)=true:=N.2;rw[<-l.o.2.1,<-l.o.2.1]at K;rw[P]at K;cases K)],l.o.1.drewN nq⟩
          ·have O:decide ((C:Int)<=(j:Int))=false:=Vj (by omega)
           clear k I m q M;go_upto_region 15 with fail;go_quiet (first|(go_at_call 131;refine Vu (ec _ _ _)));go_wp2_with fail;go_meet;exact⟨by rw[<-l.o.2.2,rW (λN=>A N.1)],l.o.1.drewN nq⟩
        case rest=>
         obtain⟨rfl,ν⟩:=hcut;have W:=U9 ν;clear ν;by_cases R:C<=D
         ·have β:decide ((D:Int)<(C:Int))=false:=Vj (by omega)
          have υ:=ζ R;have HN:=U9 (λ(_:C<=D)=>show partLoop ltInt a (C+1) (D-1) (Sort.swp dk C D)=partLoop ltInt a (y+1) (B-1) (Sort.swp d1 y B)from by rw[<-HP.o,κ.o,Vf (by omega)]);obtain⟨G,m⟩:∃G:Nat->Int,∀t,G t=dk[t]!:=⟨λt=>dk[t]!,λ_=>rfl⟩;obtain⟨k,s⟩:=W.o.fam (by have:=H.o.2;omega) m;rw[V]at k;have E:=k C (by omega);have F:=k D (by omega);have J:=U9 m;clear k m;go_upto_region 18 with fail
          go_cut []from 135 to 148 (λu=>dX w g cur (Sort.swp dk C D) u)
          case first=>
           go_region
           all_goals go_wp2_with fail
           go_meet;rw[J.o,J.o];exact W.o.swp0 (by omega) (by omega)
          case rest=>
           have U:=U9 hcut;clear hcut E F s;go_wp2_with fail;go_roundw
           case rel=>exact⟨C+1,D-1,Sort.swp dk C D,by first|rfl|(congr 1;omega),by first|rfl|(congr 1;omega),by omega,by omega,(eH _ _ _).trans V,U.o,HN.o R⟩
           case measure=>simp[intOf];omega
         ·have β:decide ((D:Int)<(C:Int))=true:=Vg (by omega)
          have HE:=U9 (show partLoop ltInt a (y+1) (B-1) (Sort.swp d1 y B)=(D,dk)from by rw[<-HP.o,κ.o,Vh (by omega)]);obtain⟨G,m⟩:∃G:Nat->Int,∀t,G t=dk[t]!:=⟨λt=>dk[t]!,λ_=>rfl⟩;obtain⟨k,s⟩:=W.o.fam (by have:=H.o.2;omega) m;rw[V]at k;have E:=k D (by omega);have F:=k a (by omega);have J:=U9 m;clear k m;go_upto_region 21 with fail
          go_cut []from 153 to 166 (λu=>dX w g cur (Sort.swp dk D a) u)
          case first=>
           by_cases T:D=a
           ·subst T
            go_region
            all_goals go_wp2_with fail
            go_meet;rw[J.o];exact W.o.swp0 (by omega) (by omega)
           ·go_region
            all_goals go_wp2_with fail
            go_meet;rw[J.o,J.o];exact W.o.swp0 (by omega) (by omega)
          case rest=>
           have U:=U9 hcut;clear hcut E F s;go_wp2_with fail;go_ret2;have e:=yB d a b p HD.o H1.o G1.o;rw[Vf (by omega),HE.o]at e;rw[e];exact⟨rfl,U.o⟩
theorem FW(h:SB w g cur d)(hs:d.size<=cur.size)(hz:d.size<=1000000)(c a b p:Nat)(υ:a<=p)(σ:p<b)(ψ:b<=d.size):
  Yt 132 #[.slice (some ⟨g,0,none⟩) d.size c,.int .i64 a,.int .i64 b,.int .i64 p] w λe w'=>e=.returned (.int .i64 (partitionEqual ltInt d a b p).1)/\dX w g cur (partitionEqual ltInt d a b p).2 w':=by
 obtain⟨d1,U⟩:∃x,Sort.swp d a p=x:=⟨_,rfl⟩;have η:d1.size=d.size:=by rw[<-U,eH]
 have κ:d.size=d.size:=rfl;have H:=U9 (Vb h hs);have H0:=U9 (dX.refl h);have HD:=U9 U;have χ:(b:Int)-1=((b-1:Nat):Int):=by omega
 clear h hs U;go_enter func132,ntmps132;obtain⟨G,q⟩:∃G:Nat->Int,∀t,G t=d[t]!:=⟨λt=>d[t]!,λ_=>rfl⟩;obtain⟨k,C⟩:=H0.o.fam (by have:=H.o.2;omega) q;rw[κ]at k;have Q:=k a (by omega);have T:=k p (by omega);have Z:=U9 q;clear k q;go_upto_region 1 with fail
 go_cut []from 11 to 24 (λA=>dX w g cur (Sort.swp d a p) A)
 case first=>
  by_cases θ:a=p
  ·subst θ
   go_region
   all_goals go_wp2_with fail
   go_meet;rw[Z.o];exact H0.o.swp0 (by omega) (by omega)
  ·go_region
   all_goals go_wp2_with fail
   go_meet;rw[Z.o,Z.o];exact H0.o.swp0 (by omega) (by omega)
 case rest=>
  have HS:=U9 hcut;clear hcut Q T C;rw[HD.o]at HS;go_wp2_with fail
  go_loopw [9,10] (λN W A=>∃(i j:Nat) (dk:Array Int),N=.int .i64 i/\W=.int .i64 j/\a<i/\j<b/\dk.size=d.size/\dX w g cur dk A/\partEqLoop ltInt a i j dk=partEqLoop ltInt a (a+1) (b-1) d1) (λN W _=>(intOf W+1-intOf N).toNat)
  case atStart=>exact⟨a+1,b-1,d1,by first|rfl|(congr 1;omega),by first|rfl|(congr 1;omega),by omega,by omega,η,HS.o,rfl⟩
  case round=>
   obtain⟨S,y,dk,rfl,rfl,φ,τ,F,ε,β⟩:=hrel;have HK:=U9 ε;have HP:=U9 β;clear ε β;obtain⟨l,E⟩:∃z,scanUp (λx=> !ltInt dk[a]! x) dk y (S)=z:=⟨_,rfl⟩;obtain⟨s,J⟩:∃z,scanDown (λx=>ltInt dk[a]! x) dk l y=z:=⟨_,rfl⟩;have ξ:S<=l:=by rw[<-E];exact scanUp_ge _ _ _ _
   have ν:s<=y:=by rw[<-J];exact scanDown_le _ _ _ _
   have Y:l<=s->l<s:=λI=>by
    have f1:=(scanUp_spec (λx=> !ltInt dk[a]! x) dk y _ (S) rfl).2.2.2;have f2:=(scanDown_spec (λx=>ltInt dk[a]! x) dk l y).2.2.2;rw[E]at f1;rw[J]at f2;by_cases he:l=s
    ·have g1:=f1 (by omega)
     have g2:=f2 I (by omega);rw[<-he]at g2;rw[g2]at g1;cases g1
    ·omega
   have H2:=U9 E;have G2:=U9 J;clear E J;have O:=partEqLoop_eq (lt:=ltInt) a S y dk;rw[H2.o,G2.o]at O;have δ:=U9 O;clear O;go_upto_block 2 with fail
   go_cut [9]from 29 to 45 (λv A=>v=.int .i64 l/\dX w g cur dk A)
   case first=>
    go_wp2_with fail
    go_loopw [9] (λv A=>∃i:Nat,v=.int .i64 i/\S<=i/\(i<=y+1\/i=S)/\dX w g cur dk A/\scanUp (λx=> !ltInt dk[a]! x) dk y i=l) (λv _=>y+1-(intOf v).toNat)
    case atStart=>exact⟨S,by first|rfl|go_num|(congr 1;omega),Vc _,Vr rfl,HK.o,H2.o⟩
    case round=>
     obtain⟨i,rfl,K,h2,D,u⟩:=hrel;obtain⟨G,q⟩:∃G:Nat->Int,∀t,G t=dk[t]!:=⟨λt=>dk[t]!,λ_=>rfl⟩;obtain⟨k,C⟩:=D.fam (by have:=H.o.2;omega) q;rw[F]at k;have P:=k a (by omega);have m:=U9 (Vb D (Vb q u));by_cases B:i<=y
     ·have ι:=k i (by omega)
      have M:decide ((i:Int)<=(y:Int))=true:=Vg (by omega);clear k D q u;go_upto_region 3 with fail;go_quiet (first|(go_at_call 131;refine Vu (ec _ _ _)));go_wp2_with fail
      ·have V:ltInt (G a) (G i)=false:=by simp_all
       go_roundw
       case rel=>exact⟨i+1,by first|rfl|go_num|(congr 1;omega),by omega,Vs (by omega),m.o.1.drewN nq,by rw[<-m.o.2.2,<-BC B (by show(!ltInt dk[a]! dk[i]!)=true;rw[<-m.o.2.1,<-m.o.2.1];rw[V];rfl)]⟩
       case measure=>simp[intOf];omega
      ·have V:ltInt (G a) (G i)=true:=by simp_all
       go_meet;exact⟨by rw[<-m.o.2.2,ro (λX=>by have K:(!ltInt dk[a]! dk[i]!)=true:=X.2;rw[<-m.o.2.1,<-m.o.2.1]at K;rw[V]at K;cases K)],m.o.1.drewN nq⟩
     ·have M:decide ((i:Int)<=(y:Int))=false:=Vj (by omega)
      clear k D q u P;go_upto_region 3 with fail;go_quiet (first|(go_at_call 131;refine Vu (ec _ _ _)));go_wp2_with fail;go_meet;exact⟨by rw[<-m.o.2.2,ro (λX=>B X.1)],m.o.1.drewN nq⟩
   case rest=>
    obtain⟨rfl,γ⟩:=hcut;have μ:=U9 γ;clear γ;go_upto_block 4 with fail
    go_cut [10]from 46 to 61 (λv A=>v=.int .i64 s/\dX w g cur dk A)
    case first=>
     go_wp2_with fail
     go_loopw [10] (λv A=>∃j:Nat,v=.int .i64 j/\j<=y/\dX w g cur dk A/\scanDown (λx=>ltInt dk[a]! x) dk l j=s) (λv _=>(intOf v).toNat)
     case atStart=>exact⟨y,by first|rfl|go_num|(congr 1;omega),Vc _,μ.o,G2.o⟩
     case round=>
      obtain⟨j,rfl,h2,D,u⟩:=hrel;obtain⟨G,q⟩:∃G:Nat->Int,∀t,G t=dk[t]!:=⟨λt=>dk[t]!,λ_=>rfl⟩;obtain⟨k,C⟩:=D.fam (by have:=H.o.2;omega) q;rw[F]at k;have P:=k a (by omega);have m:=U9 (Vb D (Vb q u));by_cases B:l<=j
      ·have ι:=k j (by omega)
       have M:decide ((l:Int)<=(j:Int))=true:=Vg (by omega);clear k D q u;go_upto_region 5 with fail;go_quiet (first|(go_at_call 131;refine Vu (ec _ _ _)));go_wp2_with fail
       ·have V:ltInt (G a) (G j)=true:=by simp_all
        go_roundw
        case rel=>exact⟨j-1,by first|rfl|go_num|(congr 1;omega),by omega,m.o.1.drewN nq,by rw[<-m.o.2.2,<-EB B (by omega) (by show ltInt dk[a]! dk[j]! =true;rw[<-m.o.2.1,<-m.o.2.1];rw[V])]⟩
        case measure=>simp[intOf];omega
       ·have V:ltInt (G a) (G j)=false:=by simp_all
        go_meet;exact⟨by rw[<-m.o.2.2,rW (λX=>by have K:ltInt dk[a]! dk[j]! =true:=X.2;rw[<-m.o.2.1,<-m.o.2.1]at K;rw[V]at K;cases K)],m.o.1.drewN nq⟩
      ·have M:decide ((l:Int)<=(j:Int))=false:=Vj (by omega)
       clear k D q u P;go_upto_region 5 with fail;go_quiet (first|(go_at_call 131;refine Vu (ec _ _ _)));go_wp2_with fail;go_meet;exact⟨by rw[<-m.o.2.2,rW (λX=>B X.1)],m.o.1.drewN nq⟩
    case rest=>
     obtain⟨rfl,α⟩:=hcut;have R:=U9 α;clear α;by_cases I:l<=s
     ·have ζ:decide ((s:Int)<(l:Int))=false:=Vj (by omega)
      have π:=Y I;have HN:=U9 (λ(_:l<=s)=>show partEqLoop ltInt a (l+1) (s-1) (Sort.swp dk l s)=partEqLoop ltInt a (a+1) (b-1) d1 from by rw[<-HP.o,δ.o,Vf (by omega)]);obtain⟨G,q⟩:∃G:Nat->Int,∀t,G t=dk[t]!:=⟨λt=>dk[t]!,λ_=>rfl⟩;obtain⟨k,C⟩:=R.o.fam (by have:=H.o.2;omega) q;rw[F]at k;have Q:=k l (by omega);have T:=k s (by omega);have Z:=U9 q;clear k q;go_upto_region 8 with fail
      go_cut []from 65 to 78 (λA=>dX w g cur (Sort.swp dk l s) A)
      case first=>
       go_region
       all_goals go_wp2_with fail
       go_meet;rw[Z.o,Z.o];exact R.o.swp0 (by omega) (by omega)
      case rest=>
       have HS:=U9 hcut;clear hcut Q T C;go_wp2_with fail;go_roundw
       case rel=>exact⟨l+1,s-1,Sort.swp dk l s,by first|rfl|(congr 1;omega),by first|rfl|(congr 1;omega),by omega,by omega,(eH _ _ _).trans F,HS.o,HN.o I⟩
       case measure=>simp[intOf];omega
     ·have ζ:decide ((s:Int)<(l:Int))=true:=Vg (by omega)
      have HE:=U9 (show partEqLoop ltInt a (a+1) (b-1) d1=(l,dk)from by rw[<-HP.o,δ.o,Vh (by omega)]);go_wp2_with fail;go_ret;have e:partitionEqual ltInt d a b p=(l,dk):=by unfold partitionEqual;rw[HD.o];exact HE.o
      rw[e];exact⟨rfl,R.o⟩
end
section
open Go.Shelf
def je:Go.Shelf.Ren:=⟨λ|6=>54|15=>78|14=>77|28=>102|29=>103|20=>94|21=>95|22=>96|23=>97|24=>98|25=>99|26=>100|27=>101|46=>116|47=>117|48=>118|49=>119|50=>120|57=>134|n=>n,λ|22=>36|24=>85|25=>180|3=>3|39=>143|0=>0|53=>245|55=>32|4=>4|46=>238|45=>237|50=>242|5=>5|9=>9|66=>259|70=>263|76=>273|77=>274|n=>n,λ|n=>n⟩
theorem pl:Go.Proofs.SlLaysF0.n6 prog je:={
 mixed:=by kernel_rfl
 f6:=⟨Tryz.f54.name,by decide,func54.trans (Vt some (by kernel_rfl))⟩
 f14:=⟨Tryz.f77.name,by decide,func77.trans (Vt some (by kernel_rfl))⟩
 f15:=func78.trans (Vt some (by kernel_rfl))
 f20:=⟨Tryz.f94.name,by decide,func94.trans (Vt some (by kernel_rfl))⟩
 f21:=⟨Tryz.f95.name,by decide,func95.trans (Vt some (by kernel_rfl))⟩
 f22:=⟨Tryz.f96.name,by decide,func96.trans (Vt some (by kernel_rfl))⟩
 f23:=⟨Tryz.f97.name,by decide,func97.trans (Vt some (by kernel_rfl))⟩
 f24:=⟨Tryz.f98.name,by decide,func98.trans (Vt some (by kernel_rfl))⟩
 f25:=⟨Tryz.f99.name,by decide,func99.trans (Vt some (by kernel_rfl))⟩
 f26:=⟨Tryz.f100.name,by decide,func100.trans (Vt some (by kernel_rfl))⟩
 f27:=⟨Tryz.f101.name,by decide,func101.trans (Vt some (by kernel_rfl))⟩
 f28:=func102.trans (Vt some (by kernel_rfl))
 f29:=func103.trans (Vt some (by kernel_rfl))
 f46:=⟨Tryz.f116.name,by decide,func116.trans (Vt some (by kernel_rfl))⟩
 f47:=func117.trans (Vt some (by kernel_rfl))
 f48:=func118.trans (Vt some (by kernel_rfl))
 f49:=⟨Tryz.f119.name,by decide,func119.trans (Vt some (by kernel_rfl))⟩
 f50:=⟨Tryz.f120.name,by decide,func120.trans (Vt some (by kernel_rfl))⟩
 f57:=⟨Tryz.f134.name,by decide,func134.trans (Vt some (by kernel_rfl))⟩
 t0:=underlying0
 a0:=isAgg0
 z0:=sizeOf0
 v0:=zeroValue0
 t3:=underlying3
 a3:=isAgg3
 z3:=sizeOf3
 v3:=zeroValue3
 t4:=underlying4
 a4:=isAgg4
 z4:=sizeOf4
 v4:=zeroValue4
 t5:=underlying5
 a5:=isAgg5
 z5:=sizeOf5
 v5:=zeroValue5
 t9:=underlying9
 a9:=isAgg9
 z9:=sizeOf9
 v9:=zeroValue9
 t22:=underlying36
 a22:=isAgg36
 z22:=sizeOf36
 v22:=zeroValue36
 t25:=underlying180
 a25:=isAgg180
 z25:=sizeOf180
 v25:=zeroValue180
 t39:=underlying143
 a39:=isAgg143
 z39:=sizeOf143
 v39:=zeroValue143
 t45:=underlying237
 a45:=isAgg237
 z45:=sizeOf237
 v45:=zeroValue237
 t46:=underlying238
 a46:=isAgg238
 z46:=sizeOf238
 v46:=zeroValue238
 t50:=underlying242
 a50:=isAgg242
 z50:=sizeOf242
 v50:=zeroValue242
 t53:=underlying245
 a53:=isAgg245
 z53:=sizeOf245
 v53:=zeroValue245
 t55:=underlying32
 a55:=isAgg32
 z55:=sizeOf32
 v55:=zeroValue32
 t66:=underlying259
 a66:=isAgg259
 z66:=sizeOf259
 v66:=zeroValue259
 t70:=underlying263
 a70:=isAgg263
 z70:=sizeOf263
 v70:=zeroValue263
 t76:=underlying273
 a76:=isAgg273
 z76:=sizeOf273
 v76:=zeroValue273
 t77:=underlying274
 a77:=isAgg274
 z77:=sizeOf274
 v77:=zeroValue274}
def wE:Go.Shelf.Ren:=⟨λ|6=>263|15=>78|14=>276|28=>102|29=>103|20=>286|21=>287|22=>288|23=>289|24=>290|25=>291|26=>292|27=>293|46=>297|47=>117|48=>118|49=>298|50=>299|57=>301|n=>n,λ|22=>182|24=>234|25=>384|3=>3|39=>143|0=>0|53=>245|55=>32|4=>4|46=>238|45=>237|50=>242|5=>5|9=>9|66=>259|70=>263|76=>273|77=>274|n=>n,λ|n=>n⟩
theorem BV:Go.Proofs.SlLaysF0.n6 prog wE:={
 mixed:=by kernel_rfl
 f6:=⟨Tryz.f263.name,by decide,func263.trans (Vt some (by kernel_rfl))⟩
 f14:=⟨Tryz.f276.name,by decide,func276.trans (Vt some (by kernel_rfl))⟩
 f15:=func78.trans (Vt some (by kernel_rfl))
 f20:=⟨Tryz.f286.name,by decide,func286.trans (Vt some (by kernel_rfl))⟩
 f21:=⟨Tryz.f287.name,by decide,func287.trans (Vt some (by kernel_rfl))⟩
 f22:=⟨Tryz.f288.name,by decide,func288.trans (Vt some (by kernel_rfl))⟩
 f23:=⟨Tryz.f289.name,by decide,func289.trans (Vt some (by kernel_rfl))⟩
 f24:=⟨Tryz.f290.name,by decide,func290.trans (Vt some (by kernel_rfl))⟩
 f25:=⟨Tryz.f291.name,by decide,func291.trans (Vt some (by kernel_rfl))⟩
 f26:=⟨Tryz.f292.name,by decide,func292.trans (Vt some (by kernel_rfl))⟩
 f27:=⟨Tryz.f293.name,by decide,func293.trans (Vt some (by kernel_rfl))⟩
 f28:=func102.trans (Vt some (by kernel_rfl))
 f29:=func103.trans (Vt some (by kernel_rfl))
 f46:=⟨Tryz.f297.name,by decide,func297.trans (Vt some (by kernel_rfl))⟩
 f47:=func117.trans (Vt some (by kernel_rfl))
 f48:=func118.trans (Vt some (by kernel_rfl))
 f49:=⟨Tryz.f298.name,by decide,func298.trans (Vt some (by kernel_rfl))⟩
 f50:=⟨Tryz.f299.name,by decide,func299.trans (Vt some (by kernel_rfl))⟩
 f57:=⟨Tryz.f301.name,by decide,func301.trans (Vt some (by kernel_rfl))⟩
 t0:=underlying0
 a0:=isAgg0
 z0:=sizeOf0
 v0:=zeroValue0
 t3:=underlying3
 a3:=isAgg3
 z3:=sizeOf3
 v3:=zeroValue3
 t4:=underlying4
 a4:=isAgg4
 z4:=sizeOf4
 v4:=zeroValue4
 t5:=underlying5
 a5:=isAgg5
 z5:=sizeOf5
 v5:=zeroValue5
 t9:=underlying9
 a9:=isAgg9
 z9:=sizeOf9
 v9:=zeroValue9
 t22:=underlying182
 a22:=isAgg182
 z22:=sizeOf182
 v22:=zeroValue182
 t25:=underlying384
 a25:=isAgg384
 z25:=sizeOf384
 v25:=zeroValue384
 t39:=underlying143
 a39:=isAgg143
 z39:=sizeOf143
 v39:=zeroValue143
 t45:=underlying237
 a45:=isAgg237
 z45:=sizeOf237
 v45:=zeroValue237
 t46:=underlying238
 a46:=isAgg238
 z46:=sizeOf238
 v46:=zeroValue238
 t50:=underlying242
 a50:=isAgg242
 z50:=sizeOf242
 v50:=zeroValue242
 t53:=underlying245
 a53:=isAgg245
 z53:=sizeOf245
 v53:=zeroValue245
 t55:=underlying32
 a55:=isAgg32
 z55:=sizeOf32
 v55:=zeroValue32
 t66:=underlying259
 a66:=isAgg259
 z66:=sizeOf259
 v66:=zeroValue259
 t70:=underlying263
 a70:=isAgg263
 z70:=sizeOf263
 v70:=zeroValue263
 t76:=underlying273
 a76:=isAgg273
 z76:=sizeOf273
 v76:=zeroValue273
 t77:=underlying274
 a77:=isAgg274
 z77:=sizeOf274
 v77:=zeroValue274}
def ph:Go.Shelf.Ren:=⟨λ|6=>260|15=>78|14=>273|28=>102|29=>103|20=>278|21=>279|22=>280|23=>281|24=>282|25=>283|26=>284|27=>285|46=>294|47=>117|48=>118|49=>295|50=>296|57=>300|n=>n,λ|22=>362|24=>302|25=>381|3=>3|39=>143|0=>0|53=>245|55=>32|4=>4|46=>238|45=>237|50=>242|5=>5|9=>9|66=>259|70=>263|76=>273|77=>274|n=>n,λ|n=>n⟩
theorem BT:Go.Proofs.SlLaysF.n6 prog ph:={
 mixed:=by kernel_rfl
 f6:=⟨Tryz.f260.name,by decide,func260.trans (Vt some (by kernel_rfl))⟩
 f14:=⟨Tryz.f273.name,by decide,func273.trans (Vt some (by kernel_rfl))⟩
 f15:=func78.trans (Vt some (by kernel_rfl))
 f20:=⟨Tryz.f278.name,by decide,func278.trans (Vt some (by kernel_rfl))⟩
 f21:=⟨Tryz.f279.name,by decide,func279.trans (Vt some (by kernel_rfl))⟩
 f22:=⟨Tryz.f280.name,by decide,func280.trans (Vt some (by kernel_rfl))⟩
 f23:=⟨Tryz.f281.name,by decide,func281.trans (Vt some (by kernel_rfl))⟩
 f24:=⟨Tryz.f282.name,by decide,func282.trans (Vt some (by kernel_rfl))⟩
 f25:=⟨Tryz.f283.name,by decide,func283.trans (Vt some (by kernel_rfl))⟩
 f26:=⟨Tryz.f284.name,by decide,func284.trans (Vt some (by kernel_rfl))⟩
 f27:=⟨Tryz.f285.name,by decide,func285.trans (Vt some (by kernel_rfl))⟩
 f28:=func102.trans (Vt some (by kernel_rfl))
 f29:=func103.trans (Vt some (by kernel_rfl))
 f46:=⟨Tryz.f294.name,by decide,func294.trans (Vt some (by kernel_rfl))⟩
 f47:=func117.trans (Vt some (by kernel_rfl))
 f48:=func118.trans (Vt some (by kernel_rfl))
 f49:=⟨Tryz.f295.name,by decide,func295.trans (Vt some (by kernel_rfl))⟩
 f50:=⟨Tryz.f296.name,by decide,func296.trans (Vt some (by kernel_rfl))⟩
 f57:=⟨Tryz.f300.name,by decide,func300.trans (Vt some (by kernel_rfl))⟩
 t0:=underlying0
 a0:=isAgg0
 z0:=sizeOf0
 v0:=zeroValue0
 t3:=underlying3
 a3:=isAgg3
 z3:=sizeOf3
 v3:=zeroValue3
 t4:=underlying4
 a4:=isAgg4
 z4:=sizeOf4
 v4:=zeroValue4
 t5:=underlying5
 a5:=isAgg5
 z5:=sizeOf5
 v5:=zeroValue5
 t9:=underlying9
 a9:=isAgg9
 z9:=sizeOf9
 v9:=zeroValue9
 t22:=underlying362
 a22:=isAgg362
 z22:=sizeOf362
 v22:=zeroValue362
 a24:=isAgg302
 z24:=sizeOf302
 t25:=underlying381
 a25:=isAgg381
 z25:=sizeOf381
 v25:=zeroValue381
 t39:=underlying143
 a39:=isAgg143
 z39:=sizeOf143
 v39:=zeroValue143
 t45:=underlying237
 a45:=isAgg237
 z45:=sizeOf237
 v45:=zeroValue237
 t46:=underlying238
 a46:=isAgg238
 z46:=sizeOf238
 v46:=zeroValue238
 t50:=underlying242
 a50:=isAgg242
 z50:=sizeOf242
 v50:=zeroValue242
 t53:=underlying245
 a53:=isAgg245
 z53:=sizeOf245
 v53:=zeroValue245
 t55:=underlying32
 a55:=isAgg32
 z55:=sizeOf32
 v55:=zeroValue32
 t66:=underlying259
 a66:=isAgg259
 z66:=sizeOf259
 v66:=zeroValue259
 t70:=underlying263
 a70:=isAgg263
 z70:=sizeOf263
 v70:=zeroValue263
 t76:=underlying273
 a76:=isAgg273
 z76:=sizeOf273
 v76:=zeroValue273
 t77:=underlying274
 a77:=isAgg274
 z77:=sizeOf274
 v77:=zeroValue274}
end
section
open Go.RowKit Go Go.Sort
theorem NT{c X:Nat}(k:X<18446744073709551616)(l:w.cell? ⟨c,0,none⟩=some (.int .u64 X))(m:w.frozen? ⟨c,0,none⟩=false):
  Yt 118 #[Yr c] w λe w'=>∃Y:Nat,e=.returned (.int .u64 Y)/\Y<18446744073709551616/\w'=(w.setCell ⟨c,0,none⟩ (.int .u64 Y)).drewN 3:=
 (AnyF.xorshift_Next (P:=prog) (ρ:=je) {pl with} c 0 X k w l m).mono λ_ _ h=>⟨xorNextN X,h.1,xorNextN_lt X k,h.2⟩
theorem Rm(c:0<n)(k:n<=1000000)(w:Yu):Yt 117 #[.int .i64 n] w λe w'=>∃M:Nat,e=.returned (.int .u64 M)/\1<=M/\M<=2*n/\w=w':=
 (AnyF.nextPowerOfTwo (P:=prog) (ρ:=je) {pl with} n (by omega) w).mono λ_ _ h=>⟨1<<<bitsLen n,h.1,by rw[Nat.one_shiftLeft];exact Nat.two_pow_pos _,by rw[Nat.one_shiftLeft];exact two_pow_bitsLen_le c,h.2.symm⟩
theorem NU(c:n<=1000000)(w:Yu):Yt 78 #[.int .u64 n] w λe w'=>∃k:Nat,e=.returned (.int .i64 k)/\k<=62/\w=w':=by
 have h:=Any.bits_Len (SlLaysF0.n15.bits (P:=prog) (ρ:=je) {pl with}) (n:Int) w (by omega) (by omega);rw[Yn,bitLen_eq _ (by omega)]at h;exact h.mono λ_ _ h=>⟨bitsLen n,h.1,(bitsLen_le_iff n 62).2 (by omega),h.2.symm⟩
theorem J5(h:SB w g cur d)(hs:d.size<=cur.size)(hz:d.size<=1000000)(c a l:Nat)(hl:12<l)(K:a+l<=d.size)(hb:b=a+l):
  Yt 127 #[.slice (some ⟨g,0,none⟩) d.size c,.int .i64 a,.int .i64 b] w λe w'=>e=.returned (.tuple #[])/\∃d',PermIn a b d d'/\dX w g cur d' w':=by
 have e1:(b:Int)-(a:Int)=(l:Int):=by omega
 have e2:(l:Int).tdiv 4=((l/4:Nat):Int):=by rw[WJ (by omega)];omega
 obtain⟨q,hq⟩:∃q,l/4=q:=⟨_,rfl⟩;rw[hq]at e2;have N:4*q<=l/\3<=q:=by omega
 have τ:q<=1000000:=by omega
 have δ:l<=1000000:=by omega
 have H:=U9 (Vb h (Vb hs (Vb N (Vb hb K))));have ν:=ai.lt h;have CP:=U9 λw=>Rm (n:=l) (by omega) (by omega) w
 have hu:(l:Int)%18446744073709551616=l:=by omega
 clear h hs hb hq N K;go_enter func127,ntmps127;go_wp2_with fail;refine(CP.o _).mono ?_;rintro e w1 ⟨M,rfl,η,μ,rfl⟩;have B0:ai (w.alloc (.cells #[.int .u64 (l:Int)] 259)) w.heap.size 259 #[.int .u64 (l:Int)]:=ai.new _ _ _;have S0:dX w g cur d (w.alloc (.cells #[.int .u64 (l:Int)] 259)):=⟨ai.alloc H.o.1 _,ah.alloc _⟩;have Q:=U9 (Vb S0 B0);obtain⟨o,ho⟩:∃o:Nat,o=a+q*2-1:=⟨_,rfl⟩;have κ:(a:Int)+(q:Int)*2-1=(o:Int):=by have:=H.o.2.2.1.2;omega
 have σ:(a:Int)+(q:Int)*2+1=(o:Int)+2:=by omega
 have ξ:o<=1000000:=by have:=H.o.2.2;omega
 have β:a<=o/\o+2<a+l:=by have:=H.o.2.2;omega
 clear S0 B0 CP ho;generalize w.alloc (.cells #[.int .u64 (l:Int)] 259)=W0 at Q⊢;go_wp2_with fail
 go_loopw [9] (λv wr=>∃(t X:Nat) (dk:Array Int),v=.int .i64 ((o:Int)+t)/\t<=3/\X<18446744073709551616/\PermIn a b d dk/\dX w g cur dk wr/\ai wr w.heap.size 259 #[.int .u64 X]) (λv _=>o+3-(intOf v).toNat)
 case atStart=>exact⟨0,l,d,by simp,by omega,by omega,permIn_refl _ _ _,Q.o.1,Q.o.2⟩
 case round=>
  obtain⟨t,X,dk,rfl,ht,hX,hp,hS,P⟩:=hrel;have C:=U9 (Vb hp (Vb hS P));by_cases π:t<3
  ·have hd:decide ((o:Int)+(t:Int)<=(o:Int)+2)=true:=Vg (by omega)
   have CN:=U9 (NT hX (by rw[P.cell];rfl) (P.frozen 0));clear hp hS P;go_wp2_with fail;refine CN.o.mono ?_;rintro e w2 ⟨Y,rfl,hY,D⟩;obtain⟨O,Z⟩:∃O:Nat,O=Y&&&(M-1):=⟨_,rfl⟩;have lO:O<=M-1:=by rw[Z];exact Nat.and_le_right
   have γ:bits .and .u64 (Y:Int) ((M:Int)-1)=(O:Int):=by
    rw[show((M:Int)-1)=((M-1:Nat):Int)by omega,bits_and_u64_nat _ _ hY (by omega),Z]
   have S2:dX w g cur dk w2:=by
    rw[D];refine⟨(ai.far C.o.2.1.1 (p:=⟨w.heap.size,0,none⟩) (by show g≠w.heap.size;omega) _:_),C.o.2.1.2.trans' (G:=λk=>k=w.heap.size) ?_ ?_⟩
    ·exact(ah.set (F:=λk=>k=w.heap.size) ⟨w.heap.size,0,none⟩ rfl _).trans (ah.drewN 3)
    ·intro k hk e
     have e:k=w.heap.size:=e;omega
   have B2:ai w2 w.heap.size 259 #[.int .u64 Y]:=by
    rw[D];exact ai.set_ C.o.2.2 0 (.int .u64 Y)
   have J:dk.size=d.size:=C.o.1.1;obtain⟨G,hG⟩:∃G:Nat->Int,∀t,G t=dk[t]!:=⟨λt=>dk[t]!,λ_=>rfl⟩;obtain⟨x,θ⟩:=S2.fam (by have:=H.o.2;omega) hG;rw[J]at x;have m:=U9 (Vb S2 (Vb B2 (Vb hG (Vb hY J))));have B:=U9 H.o.2.2;clear S2 B2 D hG Z CN;by_cases ι:l<=O
   ·have T:decide ((l:Int)<=(O:Int))=true:=Vg (by omega)
    obtain⟨y,α⟩:∃y,O-l=y:=⟨_,rfl⟩;have ε:(O:Int)-(l:Int)=(y:Int):=by omega
    have ζ:y<l:=by omega
    clear α;have hy:a+(y)<d.size:=by have:=B.o;omega
    have hx:o+t<d.size:=by have:=B.o;omega
    have S:=x (o+t) hx;have U:=x (a+(y)) hy;have I:∀W,dX w g cur (Sort.swp dk (o+t) (a+(y))) W->ai W w.heap.size 259 #[.int .u64 Y]->∃(t' X:Nat) (A:Array Int),Value.int .i64 ((o:Int)+t+1)=.int .i64 ((o:Int)+t')/\t'<=3/\X<18446744073709551616/\PermIn a b d A/\dX w g cur A W/\ai W w.heap.size 259 #[.int .u64 X]:=λW V R=>
     ⟨t+1,Y,_,by congr 1<;>omega,by omega,m.o.2.2.2.1,permIn_trans _ _ _ a b C.o.1 (swp_permIn dk a b _ _ (by omega) (by have:=B.o;omega) (by omega) (by have:=B.o;omega) (by rw[m.o.2.2.2.2];have:=B.o;omega)),V,R⟩
    have z:=U9 I;clear I x;have u:∀(p:Addr) (v:Yv) (W:Yu),p.block=g->ai W w.heap.size 259 #[.int .u64 Y]->ai (W.setCell p v) w.heap.size 259 #[.int .u64 Y]:=λp v W e h=>h.far (by rw[e];omega) v
    have s:=U9 u;clear u;by_cases E:o+t=a+(y)
    ·go_upto_region 10 with fail
     go_region
     all_goals go_wp2_with fail
     go_roundw
     case rel=>
      refine z.o _ ?_ (s.o _ _ _ rfl (s.o _ _ _ rfl m.o.2.1));rw[m.o.2.2.1,E];exact m.o.1.swp0 (by rw[m.o.2.2.2.2];omega) (by rw[m.o.2.2.2.2];omega)
     case measure=>simp[intOf];omega
    ·go_upto_region 10 with fail
     go_region
     all_goals go_wp2_with fail
     go_roundw
     case rel=>
      refine z.o _ ?_ (s.o _ _ _ rfl (s.o _ _ _ rfl m.o.2.1));rw[m.o.2.2.1,m.o.2.2.1];exact m.o.1.swp0 (by rw[m.o.2.2.2.2];omega) (by rw[m.o.2.2.2.2];omega)
     case measure=>simp[intOf];omega
   ·have T:decide ((l:Int)<=(O:Int))=false:=Vj (by omega)
    have hy:a+(O)<d.size:=by have:=B.o;omega
    have hx:o+t<d.size:=by have:=B.o;omega
    have S:=x (o+t) hx;have U:=x (a+(O)) hy;have I:∀W,dX w g cur (Sort.swp dk (o+t) (a+(O))) W->ai W w.heap.size 259 #[.int .u64 Y]->∃(t' X:Nat) (A:Array Int),Value.int .i64 ((o:Int)+t+1)=.int .i64 ((o:Int)+t')/\t'<=3/\X<18446744073709551616/\PermIn a b d A/\dX w g cur A W/\ai W w.heap.size 259 #[.int .u64 X]:=λW V R=>
     ⟨t+1,Y,_,by congr 1<;>omega,by omega,m.o.2.2.2.1,permIn_trans _ _ _ a b C.o.1 (swp_permIn dk a b _ _ (by omega) (by have:=B.o;omega) (by omega) (by have:=B.o;omega) (by rw[m.o.2.2.2.2];have:=B.o;omega)),V,R⟩
    have z:=U9 I;clear I x;have u:∀(p:Addr) (v:Yv) (W:Yu),p.block=g->ai W w.heap.size 259 #[.int .u64 Y]->ai (W.setCell p v) w.heap.size 259 #[.int .u64 Y]:=λp v W e h=>h.far (by rw[e];omega) v
    have s:=U9 u;clear u;by_cases E:o+t=a+(O)
    ·go_upto_region 10 with fail
     go_region
     all_goals go_wp2_with fail
     go_roundw
     case rel=>
      refine z.o _ ?_ (s.o _ _ _ rfl (s.o _ _ _ rfl m.o.2.1));rw[m.o.2.2.1,E];exact m.o.1.swp0 (by rw[m.o.2.2.2.2];omega) (by rw[m.o.2.2.2.2];omega)
     case measure=>simp[intOf];omega
    ·go_upto_region 10 with fail
     go_region
     all_goals go_wp2_with fail
     go_roundw
     case rel=>
      refine z.o _ ?_ (s.o _ _ _ rfl (s.o _ _ _ rfl m.o.2.1));rw[m.o.2.2.1,m.o.2.2.1];exact m.o.1.swp0 (by rw[m.o.2.2.2.2];omega) (by rw[m.o.2.2.2.2];omega)
     case measure=>simp[intOf];omega
  ·obtain rfl:t=3:=by omega
   have hd:decide ((o:Int)+((3:Nat):Int)<=(o:Int)+2)=false:=Vj (by omega);go_wp2_with fail
   go_end0
   exact⟨rfl,dk,C.o.1,C.o.2.1⟩
structure yb(a b:Nat)(d:Array Int)(a' b':Nat)(dk:Array Int):Prop where
 sz:dk.size=d.size
 ha:a<=a'
 hm:a'<=b'
 hb:b'<=b
 bel:Go.Sort.Below ltInt a' b' dk
 go:∀R,PermIn a' b' dk R->SortedIn ltInt a' b' R->PermIn a b d R/\SortedIn ltInt a b R
section
variable{a b a' b':Nat}{d dk dj:Array Int}
theorem yb.start(c:a<=b)(h:Go.Sort.Below ltInt a b d):yb a b d a b d:=⟨rfl,Vc _,c,Vc _,h,λ_ e k=>⟨e,k⟩⟩
theorem yb.perm(h:yb a b d a' b' dk)(k:b<=d.size)(c:PermIn a' b' dk dj):yb a b d a' b' dj:=
 ⟨c.1.trans h.sz,h.ha,h.hm,h.hb,Go.Sort.Below.perm h.bel (by have:=h.sz;have:=h.hb;omega) c,λR e l=>h.go R (permIn_trans _ _ _ _ _ c e) l⟩
theorem yb.eq(h:yb a b d a' b' dk)(x:b<=d.size)(u:0<a'){p:Nat}(c:a'<=p)(e:p<b')(q:ltInt dk[a'-1]! dk[p]! =false):
  a'<(partitionEqual ltInt dk a' b' p).1/\yb a b d (partitionEqual ltInt dk a' b' p).1 b' (partitionEqual ltInt dk a' b' p).2:=by
 obtain⟨m,s,v,t,o⟩:=round_eq swo_ltInt (partitionEqual_holds (lt:=ltInt)) u c e (by have:=h.sz;have:=h.hb;omega) h.bel q (rfl:partitionEqual ltInt dk a' b' p=(_,_));exact⟨m,v.trans h.sz,Vi h.ha (Nat.le_of_lt m),s,h.hb,t,λR l k=>h.go R (o R l k).1 (o R l k).2⟩
theorem yb.part(h:yb a b d a' b' dk)(F:b<=d.size){p:Nat}(s:a'<=p)(t:p<b'):∃m E c,partition ltInt dk a' b' p=(m,E,c)/\a'<=m/\m<b'/\c.size=d.size/\Go.Sort.Below ltInt a' m c/\Go.Sort.Below ltInt (m+1) b' c/\
  (∀L,PermIn a' m c L->SortedIn ltInt a' m L->yb a b d (m+1) b' L)/\(∀L,PermIn (m+1) b' c L->SortedIn ltInt (m+1) b' L->yb a b d a' m L):=by
 have u:b'<=dk.size:=by have:=h.sz;have:=h.hb;omega
 obtain⟨y,z,v,A,C,D,B⟩:=round_part swo_ltInt (partition_holds (lt:=ltInt)) s t u h.bel (rfl:partition ltInt dk a' b' p=(_,_,_));refine⟨_,_,_,rfl,y,z,v.trans h.sz,A,C,λL o x=>?_,λL o x=>?_⟩
 ·obtain⟨q,l⟩:=D L o x
  exact⟨o.1.trans (v.trans h.sz),by have:=h.ha;omega,by omega,h.hb,q,λR e k=>h.go R (l R e k).1 (l R e k).2⟩
 ·obtain⟨q,l⟩:=B L o x
  exact⟨o.1.trans (v.trans h.sz),h.ha,y,by have:=h.hb;omega,q,λR e k=>h.go R (l R e k).1 (l R e k).2⟩
end
def Ia(w:Yu)(g:Nat)(cur:Array Yv)(a b:Nat)(d:Array Int)(e:Ending)(w':Yu):Prop:=e=.returned (.tuple #[])/\∃R,dX w g cur R w'/\PermIn a b d R/\SortedIn ltInt a b R
theorem Rn(hs:n<=cur.size)(hz:n<50)(c:Nat):∀(N a b l:Nat) (d:Array Int) (w:Yu),b-a<N->SB w g cur d->d.size=n->a<=b->b<=n->l<=100->Go.Sort.Below ltInt a b d->
  Yt 115 #[.slice (some ⟨g,0,none⟩) n c,.int .i64 a,.int .i64 b,.int .i64 l] w (Ia w g cur a b d):=by
 intro N
 induction N with
 |zero=>intro a b l d w h;exact absurd h (Nat.not_lt_zero _)
 |succ N ih=>
  intro a b l d w hN h hn hab hbn hl X;have IH:=U9 ih;have H:=U9 (Vb h (Vb hn (Vb X (Vb hs hz))));clear ih h hn X hs;go_enter func115,ntmps115;go_wp2_with fail
  go_loopw [1,2,3,8,9] (λv1 v2 v3 v8 v9 wr=>∃(a' b' l':Nat) (wb wp:Bool) (dk:Array Int),v1=.int .i64 a'/\v2=.int .i64 b'/\v3=.int .i64 l'/\v8=.bool wb/\v9=.bool wp/\l'<=100/\yb a b d a' b' dk/\dX w g cur dk wr) (λv1 v2 _ _ _ _=>(intOf v2-intOf v1).toNat)
  case atStart=>exact⟨a,b,l,true,true,d,rfl,rfl,rfl,rfl,rfl,hl,yb.start hab H.o.2.2.1,dX.refl H.o.1⟩
  case round=>
   obtain⟨a',b',l',wb,wp,dk,rfl,rfl,rfl,rfl,rfl,hl',J,V⟩:=hrel;obtain⟨m,hm⟩:∃m,b'-a'=m:=⟨_,rfl⟩;have hba:(b':Int)-(a':Int)=(m:Int):=by have:=J.hm;omega
   have R:dk.size=n:=J.sz.trans H.o.2.1;have hA:=J.ha;have hM:=J.hm;have hB:=J.hb;by_cases h12:m<=12
   ·have τ:decide ((m:Int)<=12)=true:=Vg (by omega)
    have C:=U9 (Rq V.1 (by have:=H.o.2.2.2.1;omega) (by omega) c a' b' hM (by omega));rw[R]at C;have K:=U9 (Vb J V);clear J V;go_wp2_with fail;refine C.o.mono ?_;rintro e w2 ⟨rfl,Z⟩;have A:=U9 Z;clear Z C;go_wp2_with fail;refine VF (XO rfl _ _ _) rfl ?_;have hh:=insertionSort_holds (lt:=ltInt) swo_ltInt dk a' b' hM (by omega);exact⟨rfl,_,K.o.2.trans A.o,K.o.1.go _ hh.1 hh.2⟩
   ·have τ:decide ((m:Int)<=12)=false:=Vj (by omega)
    by_cases ι:l'=0
    ·subst ι
     have C:=U9 (NW V.1 (by have:=H.o.2.2.2.1;omega) (by omega) c a' b' hM (by omega));rw[R]at C;have K:=U9 (Vb J V);clear J V;go_wp2_with fail;refine C.o.mono ?_;rintro e w2 ⟨rfl,Z⟩;have A:=U9 Z;clear Z C;go_wp2_with fail;refine VF (XO rfl _ _ _) rfl ?_;have hh:=heapSort_holds (lt:=ltInt) swo_ltInt dk a' b' hM (by omega);exact⟨rfl,_,K.o.2.trans A.o,K.o.1.go _ hh.1 hh.2⟩
    ·have hl0d:((l':Int)==0)=false:=by simpa using ι
     have C8:=U9 (J5 V.1 (by have:=H.o.2.2.2.1;omega) (by omega) c a' m (by omega) (by omega) (show b'=a'+m by omega));rw[R]at C8;have K:=U9 (Vb J V);clear J V;go_upto_if 35 with fail
     go_cut [3]from 36 to 41 (λv wx=>∃(Y:Nat) (u:Array Int),v=.int .i64 Y/\Y<=100/\yb a b d a' b' u/\dX w g cur u wx)
     case first=>
      cases wb with
      |true=>
       go_wp2_with fail;go_meet;exact⟨l',dk,rfl,hl',K.o.1,K.o.2⟩
      |false=>
       go_wp2_with fail;refine C8.o.mono ?_;rintro e w2 ⟨rfl,u,χ,Z⟩;have A:=U9 (Vb χ Z);clear χ Z;go_wp2_with fail;go_meet;exact⟨l'-1,u,by first|rfl|(congr 1;omega),by omega,K.o.1.perm (by have:=H.o.2.1;omega) A.o.1,K.o.2.trans A.o.2⟩
     case rest=>
      obtain⟨Y,u,rfl,I,γ,η⟩:=hcut;have s:u.size=n:=γ.sz.trans H.o.2.1;have ζ:=U9 (J4 η.1 (by have:=H.o.2.2.2.1;omega) (by omega) c a' m (by omega) (by omega) (by omega) (show b'=a'+m by omega));rw[s]at ζ;have A:=U9 (Vb γ η);clear γ η C8 K R;go_wp2_with fail;refine ζ.o.mono ?_;rintro e w3 ⟨x,t,rfl,U,O,ht,δ⟩;have S3:dX w g cur u w3:=⟨SB.mod A.o.2.1 (ah.of_below (F:=cM) δ) λh=>h,A.o.2.2.trans (ah.of_below δ)⟩;have H3:=U9 S3;clear δ S3 ζ;have td:(t==2)=false:=by rcases ht with rfl|rfl<;>rfl
      obtain⟨z,ψ⟩:∃z,(wb&&(wp&&(t==1)))=z:=⟨_,rfl⟩;have HZ:=U9 ψ;clear ψ;go_upto_region 15 with fail
      go_cut [68]from 61 to 67 (λv wx=>v=.bool z/\dX w g cur u wx)
      case first=>
       cases wb<;>cases wp<;>rcases ht with rfl|rfl
       all_goals
        go_wp2_with fail;go_meet;exact⟨by rw[<-HZ.o];rfl,H3.o⟩
      case rest=>
      obtain⟨rfl,β⟩:=hcut;have α:=U9 (BS β.1 (by have:=H.o.2.2.2.1;omega) (by omega) c a' m (by omega) (by omega) (by omega) (show b'=a'+m by omega));rw[s]at α;have H3:=U9 β;clear β;go_upto_if 68 with fail
      go_cut []from 69 to 72 (λwx=>dX w g cur u wx)
      case first=>
       cases z with
       |false=>
        go_wp2_with fail;go_meet;exact H3.o
       |true=>
        go_wp2_with fail;refine α.o.mono ?_;rintro e w4 ⟨r,rfl,hr,Θ⟩;have W:=U9 (Vb hr Θ);clear hr Θ;cases r with
        |true=>
         go_wp2_with fail;refine VF (XO rfl _ _ _) rfl ?_;exact⟨rfl,u,H3.o.trans ⟨SB.mod H3.o.1 (ah.of_below (F:=cM) W.o.2) (λh=>h),ah.of_below W.o.2⟩,A.o.1.go _ (permIn_refl _ _ _) (W.o.1 (by first|trivial|rfl))⟩
        |false=>
         go_wp2_with fail;go_meet;exact H3.o.trans ⟨SB.mod H3.o.1 (ah.of_below (F:=cM) W.o.2) (λh=>h),ah.of_below W.o.2⟩
      case rest=>
       have W:=U9 hcut;clear α H3;obtain⟨G,hG⟩:∃G:Nat->Int,∀t,G t=u[t]!:=⟨λt=>u[t]!,λ_=>rfl⟩;obtain⟨T,Φ⟩:=hcut.fam (by have:=H.o.2.2.2.1;omega) hG;rw[s]at T;have Ξ:=T x (by omega);have κ:=T (a'-1) (by omega);obtain⟨B,π⟩:∃B,(decide (0<a')&& !ltInt (G (a'-1)) (G x))=B:=⟨_,rfl⟩;have HB:=U9 (Vb π hG);clear T hcut π hG;go_upto_region 17 with fail
       go_cut [87]from 73 to 86 (λv wx=>v=.bool B/\dX w g cur u wx)
       case first=>
        by_cases Γ:0<a'
        ·have hd0:decide ((0:Int)<(a':Int))=true:=Vg (by omega)
         go_quiet (first|(go_at_call 131;refine Vu (ec _ _ _)));go_wp2_with fail;go_meet;exact⟨by rw[<-HB.o.1,Vg Γ];rfl,W.o.drewN nq⟩
        ·have hd0:decide ((0:Int)<(a':Int))=false:=Vj (by omega)
         clear κ;go_quiet (first|(go_at_call 131;refine Vu (ec _ _ _)));go_wp2_with fail;go_meet;exact⟨by rw[<-HB.o.1,Vj Γ];rfl,W.o.drewN nq⟩
       case rest=>
        obtain⟨rfl,y⟩:=hcut;have ω:b<=d.size:=by rw[H.o.2.1];exact hbn
        clear Ξ κ Φ;cases B with
        |true=>
         have S:=HB.o.1;rw[Vo,VC,Yk,HB.o.2,HB.o.2]at S;have hE:=A.o.1.eq ω S.1 U O S.2;have Q:=U9 (FW y.1 (by have:=H.o.2.2.2.1;omega) (by omega) c a' b' x U O (by omega));rw[s]at Q;have P:=U9 (Vb y hE);have Ψ:=hE.1;have hle:=hE.2.hm;generalize (partitionEqual ltInt u a' b' x).1=k at Q P Ψ hle;clear y hE S;go_wp2_with fail;refine Q.o.mono ?_;rintro e w6 ⟨rfl,h6⟩;have H6:=U9 h6;clear h6 Q;go_wp2_with fail;go_roundw
         case rel=>exact⟨k,b',Y,wb,wp,_,rfl,rfl,rfl,rfl,rfl,I,P.o.2.2,P.o.1.trans H6.o⟩
         case measure=>simp[intOf];omega
        |false=>
         obtain⟨k,ap,d4,φ,hm1,hm2,θ,υ,ξ,ν,Δ⟩:=A.o.1.part ω U O;have ε:=U9 (NS y.1 (by have:=H.o.2.2.2.1;omega) (by omega) c a' b' x U O (by omega));rw[s,φ]at ε;have P:=U9 (Vb y (Vb θ (Vb υ (Vb ξ (Vb ν Δ)))));clear y υ ξ ν Δ φ;have Ω:(m:Int).tdiv 8=((m/8:Nat):Int):=by rw[WJ (by omega)];omega
         obtain⟨q8,μ⟩:∃q,m/8=q:=⟨_,rfl⟩;rw[μ]at Ω;have hq8l:q8<=50:=by have:=H.o.2.2.2.2;omega
         clear μ;obtain⟨ll,hll⟩:∃ll:Nat,k-a'=ll:=⟨_,rfl⟩;obtain⟨rl,hrl⟩:∃rl:Nat,b'-k=rl:=⟨_,rfl⟩;have ell:(k:Int)-(a':Int)=(ll:Int):=by omega
         have erl:(b':Int)-(k:Int)=(rl:Int):=by omega
         go_wp2_with fail;refine ε.o.mono ?_;rintro e w6 ⟨rfl,h6⟩;have H6:=U9 (P.o.1.trans h6);clear h6 ε;by_cases hlr:ll<rl
         ·have σ:decide ((ll:Int)<(rl:Int))=true:=Vg (by omega)
          have E:=U9 (IH.o a' k Y d4 w6 (by omega) H6.o.1 (by rw[θ];exact H.o.2.1) (by omega) (by omega) I P.o.2.2.1);go_wp2_with fail;refine E.o.mono ?_;rintro e w7 ⟨rfl,R7,h7,D,M⟩;have H7:=U9 (Vb h7 (Vb D M));clear h7 D M E;go_wp2_with fail;go_roundw
          case rel=>exact⟨k+1,b',Y,_,ap,R7,by first|rfl|(congr 1;omega),rfl,rfl,rfl,rfl,I,P.o.2.2.2.2.1 _ H7.o.2.1 H7.o.2.2,H6.o.trans H7.o.1⟩
          case measure=>simp[intOf];omega
         ·have σ:decide ((ll:Int)<(rl:Int))=false:=Vj (by omega)
          have E:=U9 (IH.o (k+1) b' Y d4 w6 (by omega) H6.o.1 (by rw[θ];exact H.o.2.1) (by omega) (by omega) I P.o.2.2.2.1);go_wp2_with fail;refine E.o.mono ?_;rintro e w7 ⟨rfl,R7,h7,D,M⟩;have H7:=U9 (Vb h7 (Vb D M));clear h7 D M E;go_wp2_with fail;go_roundw
          case rel=>exact⟨a',k,Y,_,ap,R7,rfl,rfl,rfl,rfl,rfl,I,P.o.2.2.2.2.2 _ H7.o.2.1 H7.o.2.2,H6.o.trans H7.o.1⟩
          case measure=>simp[intOf];omega
def jM(L:List Int):List Int:=L.mergeSort λa b=>decide (a<=b)
theorem BU{L:List Int}{R:Array Int}(l:PermIn 0 L.toArray.size L.toArray R)(m:SortedIn ltInt 0 L.toArray.size R):R.toList=jM L:=by
 have h:=sorted_unique_holds (lt:=ltInt) swo_ltInt (λx y e c=>by unfold ltInt at e c;simp at e c;omega) L.toArray R l m;rw[h];unfold jM;congr 1;funext x y;unfold ltInt;by_cases k:y<x
 ·rw[Vg k,Vj (by omega)];rfl
 ·rw[Vj k,Vg (by omega)];rfl
section
variable{w w':Yu}{base g n cap:Nat}{L:List Int}
theorem Kf(h:ij w base (.slice (some ⟨g,0,none⟩) n cap) L):∃cur:Array Yv,SB w g cur L.toArray/\L.toArray.size<=cur.size/\∀W (R:Array Int),SB W g cur R->R.size=L.length->ij W base (.slice (some ⟨g,0,none⟩) n cap) R.toList:=by
 obtain⟨cur,I,m,s,O,-⟩:=h.blk;have J:(cC o4 L).length=L.length:=by rw[bN cY];omega
 have c:∀(M:List Int) (t:Nat) (x:Int),M[t]? =some x->(cC o4 M)[t]? =some (.int .u64 x):=λM t x C=>by
  have:=i6 cY C (j:=0) (by omega);rw[V3,Yc]at this;exact this
 have y:L.length<=cur.size:=by rw[m];omega
 refine⟨cur,?_,by simpa using y,λW R Q l=>?_⟩
 ·have e:putCells JY 0 L.toArray cur=cur:=by
   apply Array.ext_getElem?;intro t;unfold putCells;rw[Xc];by_cases k:t<cur.size
   ·rw[VV k,WE]
    by_cases z:t<L.length
    ·rw[Vh ⟨VX _,by simpa using z⟩,Nat.sub_zero]
     have C:L[t]? =some L[t]:=Ve z;have v:=c L t _ C;rw[<-s,VU,Vh (by omega),VK,VV k]at v;rw[v];simp[z]
    ·rw[Vf (by simp;omega)]
   ·rw[VP (by omega)];rfl
  unfold SB;rw[e];exact I
 ·obtain⟨v,q⟩:=h
  rcases q with⟨q,-⟩|⟨S,F,H,N,D,P,u,B,G,K⟩
  ·cases q
  ·injection N with o E A
   injection o with o;injection o with o _ _;subst o A;refine⟨bN cY _,.inr ⟨g,cap,_,by rw[VW,l,E],D,Q,by rw[VW,l];exact u,B,?_,?_⟩⟩
   ·show(putCells _ _ _ _).size=_
    unfold putCells;rw[Array.size_mapIdx,m]
   ·apply List.ext_getElem?
    intro t;rw[VW,V3];by_cases k:t<R.size
    ·rw[VU,Vh k,VK]
     unfold putCells;rw[Xc,VV (by omega),WE,Vh ⟨VX _,by omega⟩,Nat.sub_zero];rw[c R.toList t R[t] (by rw[VK,VV k])];simp[k]
    ·rw[VU,Vf k,XM (by rw[bN cY,VW];omega)]
end
theorem NV(A:Option Addr)(c:Nat)(w:Yu):Yt 125 #[.slice A 0 c,.int .i64 0,.int .i64 0] w λe w'=>e=.returned (.tuple #[])/\w=w':=by
 go_enter func125,ntmps125;go_wp2_with fail
 go_loopw [6] (λh wr=>h=.int .i64 1/\w=wr) (λ_ _=>0)
 case atStart=>exact⟨rfl,rfl⟩
 case round=>
  obtain⟨rfl,rfl⟩:=hrel;go_wp2_with fail
  go_end0
  exact⟨rfl,rfl⟩
theorem NR(A:Option Addr)(c k:Nat)(w:Yu):Yt 115 #[.slice A 0 c,.int .i64 0,.int .i64 0,.int .i64 k] w λe w'=>e=.returned (.tuple #[])/\w=w':=by
 have C:=U9 (NV A c);go_enter func115,ntmps115;go_wp2_with fail
 go_loopw [1,2,3,8,9] (λv1 v2 v3 l h wr=>v1=.int .i64 0/\v2=.int .i64 0/\v3=.int .i64 k/\l=.bool true/\h=.bool true/\w=wr) (λ_ _ _ _ _ _=>0)
 case atStart=>exact⟨rfl,rfl,rfl,rfl,rfl,rfl⟩
 case round=>
  obtain⟨rfl,rfl,rfl,rfl,rfl,rfl⟩:=hrel;go_wp2_with fail;refine(C.o _).mono ?_;rintro e m ⟨rfl,rfl⟩;go_wp2_with fail;refine VF (XO rfl _ _ _) rfl ?_;exact⟨rfl,rfl⟩
theorem NJ{base:Nat}{v:Yv}{L:List Int}(h:ij w base v L)(N:L.length<=49):Yt 93 #[v] w λr w'=>r=.returned (.tuple #[])/\ij w' base v (jM L)/\w.grownBy w' v.ownBlock:=by
 rcases Ye L.length with h0|h0
 ·have:L=[]:=Wg.1 h0
  subst this;obtain⟨A,c,rfl,-,-⟩:=h.sl;have H:=U9 h;have C:=U9 (NU (n:=0) (by omega));have D:=U9 (NR A c);clear h;go_enter func93,ntmps93;go_wp2_with fail;refine(C.o _).mono ?_;rintro e E ⟨k,rfl,t,rfl⟩;go_wp2_with fail;refine(D.o k _).mono ?_;rintro e E ⟨rfl,rfl⟩;go_wp2_with fail
  go_end0
  exact⟨rfl,by rw[show jM []=[]from by simp[jM]];exact H.o,⟨rfl,rfl,rfl,Vc _,λ_ _ _=>rfl⟩⟩
 ·obtain⟨g,cap,rfl,P,O,K,B⟩:=h.sl_pos h0
  obtain⟨cur,I,u,l⟩:=Kf h;obtain⟨n,s⟩:∃n,L.length=n:=⟨_,rfl⟩;have q:L.toArray.size=n:=by simpa using s
  have H:=U9 (Vb u (Vb l s));have D:=U9 λk w (h:SB w g cur L.toArray) (t:k<=62)=>Rn (g:=g) (n:=n) (cur:=cur) (by omega) (by omega) cap (n+1) 0 n k L.toArray w (by omega) h q (VX _) (Vc _) (by omega) (.inl rfl)
  have C:=U9 λw=>NU (n:=n) (by omega) w
  have M:=U9 I;have J:n<=49:=by omega
  rw[s];clear h N h0 P O K B I u l s;go_enter func93,ntmps93;go_wp2_with fail;refine(C.o _).mono ?_;rintro e E ⟨k,rfl,t,rfl⟩;go_wp2_with fail;refine(D.o k _ M.o t).mono ?_;rintro e E ⟨rfl,R,F,G,y⟩;have x:=U9 (Vb F (Vb G y));clear F G y;go_wp2_with fail
  go_end0
  have e:R.toList=jM L:=BU (by rw[q];exact x.o.2.1) (by rw[q];exact x.o.2.2);refine⟨rfl,by rw[<-e,<-H.o.2.2];exact H.o.2.1 _ R x.o.1.1 (by rw[x.o.2.1.1,q,H.o.2.2]),?_⟩;have m:=x.o.1.2;exact⟨m.os,m.tape,m.output,m.size,λk t z=>m.block k t λe=>z (by rw[show k=g from e];rfl)⟩
end
