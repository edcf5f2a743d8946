import Derived.Test.YtghdobdjfnimmaaGreatDoorZ12
set_option maxRecDepth 100000
set_option maxHeartbeats 0
set_option linter.all false
namespace Go.Proofs.YtghdobdjfnimmaaGreatDoor
open Go.Proofs.Tryz
variable{m:az}{a:cJ}
section
open Go.RowKit Go
theorem vy{α:Type}{p:α->Bool}{x:α}:∀{L:List α},x∈L->p x=true->(∀y∈L,p y=true->y=x)->L.find? p=some x
 |[],h,_,_=>by cases h
 |y::L,h,hp,hu=>by
  by_cases b:p y=true
  ·rw[List.find?_cons_of_pos b,hu y Vp b]
  ·rw[List.find?_cons_of_neg b]
   refine vy ?_ hp λz c=>hu z (VA _ c)
   rcases Vy.1 h with rfl|h
   ·exact absurd hp b
   ·exact h
theorem nR{g:gF}:g∈bh m↔∃k,(k,g)∈m.gr:=by
 unfold bh;rw[(WF _ _).mem_iff,VJ];exact⟨λ⟨x,b,e⟩=>⟨x.1,by rw[<-e];exact b⟩,λ⟨k,h⟩=>⟨_,h,rfl⟩⟩
theorem sd(e:m.ok)(n:jH m.gr){i:Int}{g:gF}{k:Int×Int}(v:a.r≠0)(u:a.k=3\/a.k=4)(d:(k,g)∈m.gr)(f:lG i a g=true)(s:(rq a g||nk a g)=true):dg (bh m) i a=(true,0):=by
 unfold dg;rw[Vf (by omega)];rw[vy (x:=g) (nR.2 ⟨k,d⟩) f ?_]
 ·simp only[s,We]
 ·intro y c j
  obtain⟨k',c⟩:=nR.1 c;unfold lG at f j;simp only[Vo,Wx,VC]at f j;have p:=(e.gk _ d).1;have t:=(e.gk _ c).1;have l:g.o=y.o:=f.1.trans j.1.symm;rcases f.2 with h1|h1<;>rcases j.2 with h2|h2
  ·have q:k=k':=by
    rw[show k=(g.o,g.r)from p,show k'=(y.o,y.r)from t,l,h1,h2]
   have:=n.eq d c q;injection this with _ h;exact h.symm
  ·exact absurd (h1.trans h2.symm) (e.gu _ d _ c l (by show y.b≠0;omega)).1
  ·exact absurd (h2.trans h1.symm) (e.gu _ c _ d l.symm (by show g.b≠0;omega)).1
  ·have:=(e.gu _ d _ c l (by show y.b≠0;omega)).2 (h1.trans h2.symm)
   injection this with _ h;exact h.symm
theorem rD(J:m.ok){i:Nat}(O:i<6)(hk:a.k=3\/a.k=4)(y:(bE m (dB m i a)).1=0->a.r≠0)(s:jH (cH m i a).2.2.gr)(v:(cH m i a).2.2.ok)(t:(cH m i a).2.1=0):
  cH (cH m i a).2.2 i a=(Ev.zero,0,(cH m i a).2.2):=by
 have key:dg (bh (cH m i a).2.2) ((i:Int)+1) a=(true,0):=by
  unfold cH at s v t⊢;split at s
  ·rename_i x
   rw[Vh x]at t⊢;exact Prod.ext x t
  ·rename_i x
   rw[Vf x]at v t⊢;split at s
   ·rename_i c
    rw[Vh c]at v⊢;obtain⟨e,E⟩:∃e,dB m i a=e:=⟨_,rfl⟩;have A:e.o=(i:Int)+1/\e.k=a.k/\e.n=a.n/\e.a=a.a/\e.r=a.r/\e.f=a.f:=by rw[<-E];exact⟨rfl,rfl,rfl,rfl,rfl,rfl⟩
    obtain⟨D,N,L,M,w,H⟩:=A;have y:=y c;rw[E]at c s v⊢;have F:bE m e=cX m e:=by
     unfold bE at c⊢;split<;>rename_i l
     ·rw[Vh l]at c;exact absurd c (by simp)
     ·rw[Vf l]at c
      split<;>rename_i j
      ·rw[Vh j]at c;exact absurd c (by simp)
      ·rw[Vf j]at c
       split<;>rename_i p
       ·rw[Vh p]at c;exact absurd c (by simp)
       ·rw[Vf p]at c
        split<;>rename_i B
        ·rw[Vh B]at c;exact absurd c (by simp)
        ·rfl
    have d:(cz m e).2.gr=(cX m e).2.gr:=by unfold cz;rw[Vh c,F]
    rw[F]at c;rcases hk with hk|hk
    ·have q:cX m e=hU m e:=by unfold cX;rw[Vf (by omega),Vf (by omega),Vh (by omega)]
     rw[q]at c d;have u:((e.o,e.r),(⟨e.o,e.r,e.n,e.a,0⟩:gF))∈(cz m e).2.gr:=by
      rw[d];unfold hU at c⊢;split<;>rename_i l
      ·rw[Vh l]at c;exact absurd c (by simp)
      ·rw[Vf l]at c
       split<;>rename_i j
       ·rw[Vh j]at c;exact absurd c (by simp)
       ·rw[Vf j]at c
        split<;>rename_i p
        ·rw[Vh p]at c;exact absurd c p
        ·exact ew.2 (.inl rfl)
     exact sd v s y (.inl hk) u (by simp[lG,D,w]) (by simp[rq,hk,L,M,w])
    ·have q:cX m e=ie m e:=by unfold cX;rw[Vf (by omega),Vf (by omega),Vf (by omega),Vh (by omega)]
     rw[q]at c d;have I:∃g,lk m.gr (e.o,e.f)=some g/\((e.o,e.f),{g with b:=e.r})∈(cz m e).2.gr:=by
      rw[d];unfold ie at c⊢;split<;>rename_i l
      ·rw[Vh l]at c;exact absurd c (by simp)
      ·rw[Vf l]at c
       split<;>rename_i j
       ·rw[Vh j]at c;exact absurd c (by simp)
       ·rw[Vf j]at c
        split<;>rename_i p
        ·rw[Vh p]at c;exact absurd c p
        ·have B:(lk m.gr (e.o,e.f)).isSome=true:=by
          cases h:(lk m.gr (e.o,e.f)).isSome with
          |true=>rfl
          |false=>exact absurd (.inl h) j
         obtain⟨g,u⟩:=V6.1 B;refine⟨g,u,ew.2 (.inl ?_)⟩;unfold az.g;rw[u]
         rfl
     obtain⟨g,u,C⟩:=I;have z:=(J.gk _ (bK u)).1;injection z with G K;exact sd v s y (.inr hk) C (by simp only[lG,Vo,Wx,VC];exact⟨by rw[<-D];exact G.symm,.inr w⟩) (by simp only[nk,Vo,Wx,VC];exact .inr ⟨hk,w,by rw[<-H];exact K.symm⟩)
   ·rename_i c
    rw[Vf c]at t;exact absurd t c
 generalize (cH m i a).2.2=m' at key⊢;unfold cH;rw[key,Vh rfl]
theorem yw{i:Nat}(hk:a.k=3\/a.k=4)(h:(bE m (dB m i a)).1=0):a.r≠0:=by
 have c:aX (dB m i a)=true:=by
  cases e:aX (dB m i a)with
  |true=>rfl
  |false=>unfold bE at h;rw[Vh e]at h;exact absurd h (by simp)
 have b:bU (dB m i a)=true:=by unfold aX at c;simp only[Vo]at c;exact c.2.1
 have d:(dB m i a).k=a.k:=rfl;have f:(dB m i a).r=a.r:=rfl;unfold bU at b;rw[d,f]at b;rcases hk with hk|hk
 ·rw[Vf (by omega),Vf (by omega),Vh hk]at b
  simp only[Vo,VC]at b;omega
 ·rw[Vf (by omega),Vf (by omega),Vf (by omega),Vh hk]at b
  simp only[Vo,VC]at b;omega
end
