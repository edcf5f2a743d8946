import Derived.Test.YtghdobdjfnimmaaGreatDoorZ26
import Derived.Test.YtghdobdjfnimmaaGreatDoorZ27
set_option maxRecDepth 100000
set_option maxHeartbeats 0
set_option linter.all false
namespace Go.Proofs.YtghdobdjfnimmaaGreatDoor
open Go.Proofs.Tryz
variable{w w' w'':Yu}{n k r g base c B:Nat}{v:Yv}{t:Yw}{A:Option Addr}{a:cJ}{now:Int}{inn:Nat->Bool}{kn:av}
section
open Go.RowKit Go
def Nf(a b:Nat):Nat->Prop:=λk=>k=a\/k=b
structure UT(a b c d e f:Nat->Prop):Prop where
 ab:iB a b
 ac:iB a c
 ad:iB a d
 ae:iB a e
 af:iB a f
 bc:iB b c
 bd:iB b d
 be:iB b e
 bf:iB b f
 cd:iB c d
 ce:iB c e
 cf:iB c f
 de:iB d e
 df:iB d f
 ef:iB e f
structure gI where
 L:LB
 m:az
 base:Nat
 b:Nat
 v:Nat->Yv
 Ls:Nat->List It
 lk:av
 c:Nat
 h:Nat
 hm:Nat
 H:List Ev
 bp:Nat
 f:Nat->Int
 dm:Nat
 mb:Nat
 D:List (Int×Option Nat)
 FD:Nat->Prop
def gI.F(R:gI)(r:Nat):Nat->Prop:=λk=>k=r\/R.L.mem k\/nI R.b R.v k\/Nf R.h R.hm k\/k=R.bp\/R.FD k
def eG(R:gI)(k:Nat):Array Yv:=#[.int .i64 ((k:Int)+1),Yr R.L.b,Yr R.b,Yr R.h,Yr R.bp,Yr R.dm]
structure bV(w:Yu)(r k:Nat)(R:gI)(n:Nat):Prop where
 blk:ai w r 142 (eG R k)
 led:dD w R.L R.m
 ok:R.m.ok
 log:gv w R.base R.b R.v R.Ls R.lk R.c
 bs:R.base<=w.heap.size
 hold:HO w R.h R.hm R.H
 hok:(∀e∈R.H,e.ok)/\R.H.length<=64
 peer:Ni w R.bp R.f
 pok:xY R.f
 dem:fo w R.FD R.dm R.mb R.D
 ap:UT (cj r) R.L.mem (nI R.b R.v) (Nf R.h R.hm) (cj R.bp) R.FD
 cn:R.c<=n
 sn:fD R.m.kn<=n
 k6:k<6
section
variable{w w':Yu}{r k n:Nat}{R:gI}{G:Nat->Prop}
theorem bV.inh(h:bV w r k R n):tP (R.F r) w:=λk hk=>by
 rcases hk with rfl|hk|hk|hk|rfl|hk
 ·exact h.blk.lt
 ·exact h.led.lt k hk
 ·exact h.log.lt k hk
 ·rcases hk with rfl|rfl
  ·exact h.hold.blk.lt
  ·exact h.hold.map.lt
 ·exact ai.lt h.peer
 ·exact h.dem.inh k hk
theorem bV.mod(h:bV w r k R n)(m:ah G w w')(d:iB (R.F r) G):bV w' r k R n where
 blk:=m.blk h.blk λb=>d r (.inl rfl) b
 led:=h.led.mod m λk e b=>d k (.inr (.inl e)) b
 ok:=h.ok
 log:=h.log.mod m λk e b=>d k (.inr (.inr (.inl e))) b
 bs:=Vi h.bs m.size
 hold:=⟨m.blk h.hold.blk λb=>d _ (.inr (.inr (.inr (.inl (.inl rfl))))) b,h.hold.map.same (m.block _ h.hold.map.lt λb=>d _ (.inr (.inr (.inr (.inl (.inr rfl))))) b)⟩
 hok:=h.hok
 peer:=m.blk h.peer λb=>d _ (.inr (.inr (.inr (.inr (.inl rfl))))) b
 pok:=h.pok
 dem:=h.dem.mod m λk e b=>d k (.inr (.inr (.inr (.inr (.inr e))))) b
 ap:=h.ap
 cn:=h.cn
 sn:=h.sn
 k6:=h.k6
theorem bV.call(h:bV w r k R n)(b:Ys w w'):bV w' r k R n:=h.mod (ah.of_below (F:=cM) b) λ_ _ h=>h
theorem bV.more(h:bV w r k R n){n':Nat}(b:n<=n'):bV w r k R n':=⟨h.blk,h.led,h.ok,h.log,h.bs,h.hold,h.hok,h.peer,h.pok,h.dem,h.ap,Vi h.cn b,by have:=h.sn;omega,h.k6⟩
end
theorem eZ{A B:Nat->Prop}(d:∀k,A k->k<n)(e:∀k,B k->n<=k):iB A B:=λk a b=>by
 have:=d k a;have:=e k b;omega
theorem Oj(n k:Nat)(h1:1<=n)(h6:n<=6)(hk:k<6)(w:Yu):Yt 31 #[.int .i64 n,.int .i64 ((k:Int)+1)] w λx w'=>∃r R,x=.returned (.tuple #[Yr r,.int .i64 0])/\bV w' r k R 0/\R.m=iV n/\(∀j,R.F r j->w.heap.size<=j)/\Ys w w':=by
 have C1:=U9 (Pq n h1 h6 w);have C2:=U9 Pk;have C3:=U9 iY;have C4:=U9 Pj;have C5:=U9 PS;have k0:¬((k:Int)+1<1):=by omega
 have k1:¬(6<(k:Int)+1):=by omega
 go_enter func31,ntmps31;go_wp2_with fail;refine C1.o.mono ?_;rintro x l ⟨L,rfl,hL,N,Y⟩;have O:=U9 (Vb hL (Vb N Y));clear hL N Y C1;go_wp2_with fail;refine(C2.o _).mono ?_;rintro x w2 ⟨rfl,hG,S⟩;have T:=U9 (Vb hG S);clear hG S C2;go_wp2_with fail;refine(C3.o _).mono ?_;rintro x f ⟨u,rfl,h,hm,rfl,hO,I,J,α⟩;have d:=U9 (Vb hO (Vb I (Vb J α)));clear hO I J α C3;go_wp2_with fail;refine(C4.o _).mono ?_;rintro x w4 ⟨rfl,hP,X⟩;have C:=U9 (Vb hP X);clear hP X C4;go_wp2_with fail;refine(C5.o _).mono ?_;rintro x p ⟨dm,mb,rfl,hD,M⟩;have q:=U9 (Vb hD M);clear hD M C5;go_wp2_with fail;go_ret2;have z1:=O.o.2.2.size;have z2:=T.o.2.size;have z3:=d.o.2.2.2.size;have z4:=C.o.2.size;have z5:=q.o.2.size;have D:Ys p (p.alloc (.cells #[.int .i64 ((k:Int)+1),Yr L.b,Yr l.heap.size,Yr h,Yr f.heap.size,Yr dm] 142)):=(Vd _ _).alloc (Vc _) _;have V:=O.o.1.lt;have l2:=T.o.1.blk.lt;have l3:=d.o.1.blk.lt;have β:=d.o.1.map.lt;have l4:f.heap.size<w4.heap.size:=ai.lt C.o.1;have l5:=q.o.1.inh;have H:∀j,nI l.heap.size (λ_=>.slice none 0 0) j->j=l.heap.size:=λj hj=>by
  rcases hj with hj|⟨i,_,hj⟩
  ·exact hj
  ·cases hj
 refine⟨p.heap.size,⟨L,iV n,l.heap.size,l.heap.size,λ_=>.slice none 0 0,λ_=>[],av.zero,0,h,hm,[],f.heap.size,λ_=>0,dm,mb,[],λj=>w4.heap.size<=j/\j<p.heap.size⟩,rfl,?_,rfl,λj hj=>?_,((((O.o.2.2.trans (T.o.2.mono z1)).trans (d.o.2.2.2.mono (by omega))).trans (C.o.2.mono (by omega))).trans (q.o.2.mono (by omega))).trans (D.mono (by omega))⟩
 ·refine⟨ai.new _ _ _,(((((O.o.1.call T.o.2).call d.o.2.2.2).call C.o.2).call q.o.2).call D),yF n,((((T.o.1.call d.o.2.2.2).call C.o.2).call q.o.2).call D),?_,(((d.o.1.call C.o.2).call q.o.2).call D),⟨(λe he=>by cases he),VX _⟩,(ai.call (ai.call C.o.1 q.o.2) D),λi _=>⟨show(0:Int)<=0 by decide,show(0:Int)<=18446744073709551615 by decide⟩,q.o.1.call D,?_,Vc _,show fD av.zero<=0 by decide,hk⟩
  ·exact Nat.le_trans (show l.heap.size<=p.heap.size by omega) D.size
  ·refine⟨?_,?_,?_,?_,?_,?_,?_,?_,?_,?_,?_,?_,?_,?_,?_⟩
   ·exact(eZ (n:=l.heap.size) V λj e=>by have e:j=p.heap.size:=e;omega).symm
   ·exact(eZ (n:=w2.heap.size) (λj e=>by have:=H j e;omega) λj e=>by have e:j=p.heap.size:=e;omega).symm
   ·exact(eZ (n:=f.heap.size) (λj e=>by rcases e with rfl|rfl<;>assumption) λj e=>by have e:j=p.heap.size:=e;omega).symm
   ·exact(eZ (n:=w4.heap.size) (λj e=>by have e:j=f.heap.size:=e;omega) λj e=>by have e:j=p.heap.size:=e;omega).symm
   ·exact(eZ (n:=p.heap.size) (λj e=>e.2) λj e=>by have e:j=p.heap.size:=e;omega).symm
   ·exact eZ (n:=l.heap.size) V λj e=>by have:=H j e;omega
   ·exact eZ (n:=l.heap.size) V λj e=>by rcases e with rfl|rfl<;>have:=d.o.2.1<;>have:=d.o.2.2.1<;>omega
   ·exact eZ (n:=l.heap.size) V λj e=>by have e:j=f.heap.size:=e;omega
   ·exact eZ (n:=l.heap.size) V λj e=>by have:=e.1;omega
   ·exact eZ (n:=w2.heap.size) (λj e=>by have:=H j e;omega) λj e=>by rcases e with rfl|rfl<;>have:=d.o.2.1<;>have:=d.o.2.2.1<;>omega
   ·exact eZ (n:=w2.heap.size) (λj e=>by have:=H j e;omega) λj e=>by have e:j=f.heap.size:=e;omega
   ·exact eZ (n:=w2.heap.size) (λj e=>by have:=H j e;omega) λj e=>by have:=e.1;omega
   ·exact eZ (n:=f.heap.size) (λj e=>by rcases e with rfl|rfl<;>assumption) λj e=>by have e:j=f.heap.size:=e;omega
   ·exact eZ (n:=f.heap.size) (λj e=>by rcases e with rfl|rfl<;>assumption) λj e=>by have:=e.1;omega
   ·exact eZ (n:=w4.heap.size) (λj e=>by have e:j=f.heap.size:=e;omega) λj e=>e.1
 ·rcases hj with rfl|hj|hj|hj|rfl|hj
  ·omega
  ·exact O.o.2.1 j hj
  ·have:=H j hj;omega
  ·rcases hj with rfl|rfl
   ·have:=d.o.2.1;omega
   ·have:=d.o.2.2.1;omega
  ·show w.heap.size<=f.heap.size;omega
  ·have:=hj.1;omega
def fl(w:Yu)(r k:Nat)(R:gI)(n:Nat)(m':az)(w':Yu):Prop:=∃R',bV w' r k R' n/\(R'.m=m'/\R'.H=R.H)/\ah (R.F r) w w'/\∀j,R'.F r j->R.F r j\/w.heap.size<=j
section
variable{w w' w'':Yu}{r k n n':Nat}{R:gI}{m' m'':az}
theorem fl.same(h:bV w r k R n)(b:Ys w w')(e:n<=n'):fl w r k R n' R.m w':=⟨R,(h.call b).more e,⟨rfl,rfl⟩,ah.of_below b,λj d=>.inl d⟩
theorem fl.trans{R1:gI}(i:ah (R.F r) w w')(d:∀j,R1.F r j->R.F r j\/w.heap.size<=j)(h:fl w' r k R1 n m'' w'')(p:R1.H=R.H:=by rfl):fl w r k R n m'' w'':=by
 obtain⟨l,q,f,C,m⟩:=h;have D:=i.size;refine⟨l,q,⟨f.1,f.2.trans p⟩,i.trans' C λj e b=>?_,λj e=>?_⟩
 ·rcases d j b with h|h
  ·exact h
  ·omega
 ·rcases m j e with h|h
  ·exact d j h
  ·exact .inr (by omega)
theorem bV.led_(h:bV w r k R n)(i:dD w' R.L m')(e:m'.ok)(m:ah R.L.mem w w')(p:n<=n')(l:fD m'.kn<=n'):bV w' r k {R with m:=m'} n':=by
 have d:=h.ap;exact⟨m.blk h.blk λb=>d.ab r rfl b,i,e,h.log.mod m λj b f=>d.bc j f b,Vi h.bs m.size,⟨m.blk h.hold.blk λb=>d.bd _ b (.inl rfl),h.hold.map.same (m.block _ h.hold.map.lt λb=>d.bd _ b (.inr rfl))⟩,h.hok,m.blk h.peer λb=>d.be _ b rfl,h.pok,h.dem.mod m λj b f=>d.bf j f b,d,Vi h.cn p,l,h.k6⟩
theorem bV.setLog(h:bV w r k R n)(H:oc w w' R.base R.b R.v R.c)(M:n<=n')(I:R.c+1<=n'):fl w r k R n' R.m w':=by
 obtain⟨q,i,l,C,J,N,m,p⟩:=H;have f:=h.inh;have d:=h.ap;have iY:∀{G:Nat->Prop},iB (nI R.b R.v) G->(∀j,G j->j<w.heap.size)->iB (nI R.b q) G:=λD L j hj e=>by
  rcases p j hj with h1|h1
  ·exact D j h1 e
  ·have:=L j e;omega
 refine⟨{R with v:=q,Ls:=i,lk:=l,c:=C},?_,⟨rfl,rfl⟩,m.mono λj hj=>.inr (.inr (.inl hj)),λj hj=>?_⟩
 ·exact⟨m.blk h.blk λhj=>d.ac r rfl hj,h.led.mod m λj hj e=>d.bc j hj e,h.ok,J,Vi h.bs m.size,⟨m.blk h.hold.blk λhj=>d.cd _ hj (.inl rfl),h.hold.map.same (m.block _ h.hold.map.lt λhj=>d.cd _ hj (.inr rfl))⟩,h.hok,m.blk h.peer λhj=>d.ce _ hj rfl,h.pok,h.dem.mod m λj hj e=>d.cf j e hj,
   ⟨d.ab,(iY d.ac.symm λj hj=>f j (.inl hj)).symm,d.ad,d.ae,d.af,(iY d.bc.symm λj hj=>f j (.inr (.inl hj))).symm,d.bd,d.be,d.bf,iY d.cd λj hj=>f j (.inr (.inr (.inr (.inl hj)))),iY d.ce λj hj=>f j (.inr (.inr (.inr (.inr (.inl hj))))),iY d.cf λj hj=>f j (.inr (.inr (.inr (.inr (.inr hj))))),d.de,d.df,d.ef⟩,
   by show C<=n';omega,by have:=h.sn;show fD R.m.kn<=n';omega,h.k6⟩
 ·rcases hj with hj|hj|hj|hj|hj|hj
  ·exact .inl (.inl hj)
  ·exact .inl (.inr (.inl hj))
  ·rcases p j hj with h1|h1
   ·exact .inl (.inr (.inr (.inl h1)))
   ·exact .inr h1
  ·exact .inl (.inr (.inr (.inr (.inl hj))))
  ·exact .inl (.inr (.inr (.inr (.inr (.inl hj)))))
  ·exact .inl (.inr (.inr (.inr (.inr (.inr hj)))))
theorem bV.hold_(h:bV w r k R n){i:List Ev}(p:HO w' R.h R.hm i)(m:ah (cj R.hm) w w')(l:(∀e∈i,e.ok)/\i.length<=64):bV w' r k {R with H:=i} n:=by
 have d:=h.ap;have m:ah (Nf R.h R.hm) w w':=m.mono λj b=>.inr b
 exact⟨m.blk h.blk λb=>d.ad r rfl b,h.led.mod m λj b f=>d.bd j b f,h.ok,h.log.mod m λj b f=>d.cd j b f,Vi h.bs m.size,p,l,m.blk h.peer λb=>d.de _ b rfl,h.pok,h.dem.mod m λj b f=>d.df j f b,d,h.cn,h.sn,h.k6⟩
theorem bV.setPeer(h:bV w r k R n){i:Nat->Int}(p:Ni w' R.bp i)(l:xY i)(m:ah (cj R.bp) w w'):fl w r k R n R.m w':=by
 have d:=h.ap;refine⟨{R with f:=i},?_,⟨rfl,rfl⟩,m.mono λj b=>.inr (.inr (.inr (.inr (.inl b)))),λj b=>.inl b⟩;exact⟨m.blk h.blk λb=>d.ae r rfl b,h.led.mod m λj b e=>d.be j b e,h.ok,h.log.mod m λj b e=>d.ce j b e,Vi h.bs m.size,⟨m.blk h.hold.blk λb=>d.de _ (.inl rfl) b,h.hold.map.same (m.block _ h.hold.map.lt λb=>d.de _ (.inr rfl) b)⟩,h.hok,p,l,h.dem.mod m λj b e=>d.ef j e b,d,h.cn,h.sn,h.k6⟩
theorem bV.setDem(h:bV w r k R n){l:List (Int×Option Nat)}{d:Nat->Prop}(q:fo w' d R.dm R.mb l)(m:ah R.FD w w')(i:∀j,d j->R.FD j\/w.heap.size<=j):fl w r k R n R.m w':=by
 have f:=h.inh;have b:=h.ap;have iY:∀{G:Nat->Prop},iB G R.FD->(∀j,G j->j<w.heap.size)->iB G d:=λp C j e hj=>by
  rcases i j hj with h1|h1
  ·exact p j e h1
  ·have:=C j e;omega
 refine⟨{R with D:=l,FD:=d},?_,⟨rfl,rfl⟩,m.mono λj hj=>.inr (.inr (.inr (.inr (.inr hj)))),λj hj=>?_⟩
 ·exact⟨m.blk h.blk λhj=>b.af r rfl hj,h.led.mod m λj hj e=>b.bf j hj e,h.ok,h.log.mod m λj hj e=>b.cf j hj e,Vi h.bs m.size,⟨m.blk h.hold.blk λhj=>b.df _ (.inl rfl) hj,h.hold.map.same (m.block _ h.hold.map.lt λhj=>b.df _ (.inr rfl) hj)⟩,h.hok,m.blk h.peer λhj=>b.ef _ rfl hj,h.pok,q,
   ⟨b.ab,b.ac,b.ad,b.ae,iY b.af λj hj=>f j (.inl hj),b.bc,b.bd,b.be,iY b.bf λj hj=>f j (.inr (.inl hj)),b.cd,b.ce,iY b.cf λj hj=>f j (.inr (.inr (.inl hj))),b.de,iY b.df λj hj=>f j (.inr (.inr (.inr (.inl hj)))),iY b.ef λj hj=>f j (.inr (.inr (.inr (.inr (.inl hj)))))⟩,h.cn,h.sn,h.k6⟩
 ·rcases hj with hj|hj|hj|hj|hj|hj
  ·exact .inl (.inl hj)
  ·exact .inl (.inr (.inl hj))
  ·exact .inl (.inr (.inr (.inl hj)))
  ·exact .inl (.inr (.inr (.inr (.inl hj))))
  ·exact .inl (.inr (.inr (.inr (.inr (.inl hj)))))
  ·rcases i j hj with h1|h1
   ·exact .inl (.inr (.inr (.inr (.inr (.inr h1)))))
   ·exact .inr h1
end
theorem dh.call'(h:dh w)(b:Ys w w'):dh w':=h.call b h.lt.1 h.lt.2
theorem yu{R:gI}(h:bV w r k R n)(hn:n+1<=900000)(hT:dh w){e:Ev}(he:e.ok):Yt 52 #[Yr r,.agg (ao e)] w λx w'=>x=.returned (.int .i64 (cz R.m e).1)/\fl w r k R (n+1) (cz R.m e).2 w':=by
 have D0:Ys w (w.alloc (.cells (ao e) 53)):=(Vd _ _).alloc (Vc _) _;have I:aD (w.alloc (.cells (ao e) 53)) [(w.heap.size,53,ao e),(r,142,eG R k)]:=(aD.cons h.blk aD.nil).push rfl;have z0:(w.alloc (.cells (ao e) 53)).heap.size=w.heap.size+1:=by simp
 generalize hW:w.alloc (.cells (ao e) 53)=W0 at D0 I z0;have d:=U9 (Vb h (Vb I (Vb D0 (Vb hT he))));have HF:=U9 (λ(W:Yu) (h:Ys W0 W)=>Vb (I.call h).rules (Vb (I.call h).lts (dz (I.call h).head)));clear h D0 I hT he;go_enter func52,ntmps52;go_wp2_with fail;refine aP 5 (by kernel_rfl) (by simp) (by decide+kernel) (by decide+kernel) (by decide+kernel) (by decide+kernel) ?_;simp only[U4,U5,U6,U7]
 iterate 5
  first
  |refine dx rfl ?_;apply aA
   ·intro _ ρ q p l W hb;have hq:=HF.o W hb;simp[execOp,go_sem,q,p,l,hq,eG]<;>exact rfl
  |refine aw (λ_=>rfl) ?_
  simp only[UW,UX,UY,UZ]
 refine aH ?_;intro _ W1 D _;have X:=d.o.2.2.1.trans (D.mono d.o.2.2.1.size);have R1:=d.o.1.call X;have CA:=U9 (DJ R1.led R1.ok (d.o.2.2.2.1.call' X) e d.o.2.2.2.2);have B1:=d.o.2.1.call D;have i:=U9 (Vb X (Vb R1 B1));clear D X R1 B1 HF;go_wp2_with fail;refine CA.o.mono ?_;rintro x W2 ⟨rfl,hl,Y⟩;have J:∀j,R.L.mem j->j<w.heap.size:=λj b=>d.o.1.inh j (.inr (.inl b))
 have S2:=i.o.2.1.led_ hl (r8 i.o.2.1.ok d.o.2.2.2.2) Y (XV n) (by have:=r9 i.o.2.1.ok d.o.2.2.2.2;have:=i.o.2.1.sn;omega);have S:=i.o.2.2.mod Y ⟨λb=>by have:=J _ b;omega,λb=>d.o.1.ap.ab r rfl b,trivial⟩;have H2:=U9 (Vb S2 (Vb S (Y.mono (G:=R.F r) λj b=>.inr (.inl b))));have O:=U9 (λ(W:Yu) (h:Ys W2 W)=>Vb (S.call h).rules (Vb (S.call h).lts (dz (S.call h).head)));obtain⟨e1,C⟩:∃x,(cz R.m e).1=x:=⟨_,rfl⟩;have T:=U9 C;rw[C];clear hl Y J S2 S CA C;by_cases hz:e1=0
 ·subst hz
  go_wp2_with fail;refine aP 5 (by kernel_rfl) (by simp) (by decide+kernel) (by decide+kernel) (by decide+kernel) (by decide+kernel) ?_;simp only[U4,U5,U6,U7]
  iterate 5
   first
   |refine dx rfl ?_;apply aA
    ·intro _ ρ q p l W hb;have hq:=O.o W hb;simp[execOp,go_sem,q,p,l,hq,eG]<;>exact rfl
   |refine aw (λ_=>rfl) ?_
   simp only[UW,UX,UY,UZ]
  refine aH ?_;intro _ W3 H _;have α:=U9 H;have V:=H2.o.1.call H;have M:=i.o.2.1.cn;have CG:=U9 (Ps V.log (by show R.c+1<=900000;omega) V.bs d.o.2.2.2.2);have N:=U9 (Vb V M);clear H V O M;go_wp2_with fail;refine CG.o.mono ?_;rintro x W4 ⟨⟨nn,rfl⟩,f⟩;have S4:=N.o.1.setLog (n':=n+1) f (Vc _) (by have:=N.o.2;show R.c+1<=n+1;omega);have HS:=U9 S4;clear S4 f CG;go_wp2_with fail;go_ret;have β:ah (R.F r) W1 W3:=H2.o.2.2.call α.o;exact⟨by rw[T.o];rfl,fl.trans (R1:=R) (ah.of_below i.o.1) (λj b=>.inl b) (fl.trans (R1:={R with m:=(cz R.m e).2}) β (λj b=>.inl b) HS.o)⟩
 ·have γ:(e1==0)=false:=by simpa using hz
  go_wp2_with fail;go_ret;exact⟨by rw[T.o];rfl,fl.trans (R1:=R) (ah.of_below i.o.1) (λj b=>.inl b) ⟨_,H2.o.1,⟨rfl,rfl⟩,H2.o.2.2,λj b=>.inl b⟩⟩
theorem iZ(x:Ev)(W:Yu):∃b,(eR 53 (Yr W.heap.size) (.agg (ao x))).run prog (W.alloc (.cells (ao Ev.zero) 53))=.ok .skip b/\ai b W.heap.size 53 (ao x)/\Ys W b/\b.heap.size=W.heap.size+1:=by
 have d:ai (W.alloc (.cells (ao Ev.zero) 53)) W.heap.size 53 (ao Ev.zero):=ai.new _ _ _;exact⟨_,fE d rfl x,ax d (ao x),(aM _ _ _).below ((Vd _ _).alloc (Vc _) _) (Vc _) (λ_ h=>by cases h),by simp[World.setRow]⟩
def nD(w:Yu)(r k:Nat)(R:gI)(n:Nat)(w':Yu):Prop:=∃R',bV w' r k R' n/\ah (R.F r) w w'/\∀j,R'.F r j->R.F r j\/w.heap.size<=j
theorem fl.weak{R:gI}{m':az}(h:fl w r k R n m' w'):nD w r k R n w':=by
 obtain⟨R',b,-,e,d⟩:=h;exact⟨R',b,e,d⟩
theorem nD.start{R:gI}(h:bV w r k R n):nD w r k R n w:=⟨R,h,ah.refl,λj b=>.inl b⟩
theorem nD.call{R:gI}(h:nD w r k R n w')(b:Ys w' w''):nD w r k R n w'':=by
 obtain⟨R',d,f,e⟩:=h;exact⟨R',d.call b,f.call b,e⟩
theorem nD.trans{R R1:gI}(f:ah (R.F r) w w')(d:∀j,R1.F r j->R.F r j\/w.heap.size<=j)(h:nD w' r k R1 n w''):nD w r k R n w'':=by
 obtain⟨i,m,p,l⟩:=h;have q:=f.size;refine⟨i,m,f.trans' p λj e b=>?_,λj e=>?_⟩
 ·rcases d j b with h|h
  ·exact h
  ·omega
 ·rcases l j e with h|h
  ·exact d j h
  ·exact .inr (by omega)
theorem dh.mod{F:Nat->Prop}(h:dh w)(m:ah F w w')(e:¬F 1)(f:¬F 0):dh w':=
 ⟨λi u b=>by rw[World.cell?_of_block (a:=⟨1,i,none⟩) (m.block _ h.lt.1 e)];exact h.k i u b,λi u b=>by rw[World.cell?_of_block (a:=⟨0,i,none⟩) (m.block _ h.lt.2 f)];exact h.d i u b⟩
structure tz(F:Nat->Prop):Prop where
 k:¬F 1
 d:¬F 0
theorem Cd{R:gI}(h:bV w r k R n)(hT:dh w)(N:tz (R.F r)){L:List Ev}(hR:dr w base v L)(hL:∀e∈L,e.ok)(hn:n+L.length<=900000)(J:∀g,v.ownBlock=some g->¬R.F r g):
  Yt 34 #[Yr r,v] w λx w'=>∃e:Int,x=.returned (.int .i64 e)/\nD w r k R (n+L.length) w'/\(L=[]->e=0/\fl w r k R n R.m w'):=by
 obtain⟨A,c,rfl,ν,γ⟩:=hR.sl;have θ:c<=9223372036854775807:=γ;have l:=U9 (Vb h (Vb hT (Vb N (Vb hR (Vb hL J)))));clear h hT N hR hL J;go_enter func34,ntmps34;go_wp2_with fail
 go_loopw [12] (λi wr=>∃j:Nat,j<=L.length/\i=.int .i64 j/\nD w r k R (n+j) wr/\(j=0->wr=w)) (λi _=>L.length-(intOf i).toNat)
 case atStart=>exact⟨0,by omega,rfl,nD.start l.o.1,λ_=>rfl⟩
 case round=>
  obtain⟨j,hj,rfl,hW,D⟩:=hrel;by_cases q:j<L.length
  ·have hd:decide ((j:Int)<L.length)=true:=Vg (by omega)
   obtain⟨y,hy⟩:∃y,L[j]? =some y:=⟨L[j],Ve q⟩;obtain⟨R1,C,f,V⟩:=hW;obtain⟨g,cap,hs,M,β,δ,ε⟩:=l.o.2.2.2.1.sl_pos (by omega);obtain⟨rfl,α⟩:A=some ⟨g,0,none⟩/\c=cap:=by injection hs with a b c;exact⟨a,c⟩
   have p:=f.row l.o.2.2.2.1 l.o.2.2.2.2.2;have O:=p.rng dO hy;have μ:=aY (P:=prog) O underlying53 rfl (bY y);obtain⟨W3,η,Y,X,z3⟩:=iZ y wr;have ζ:=dz Y;have T:=(l.o.2.1.mod f l.o.2.2.1.k l.o.2.2.1.d).call' X;have ι:g<wr.heap.size:=Vq ε f.size;have CA:=U9 (yu (C.call X) (by omega) T (l.o.2.2.2.2.1 y (Vn hy)));have H:=U9 (Vb f (Vb V (Vb X C)));obtain⟨q3,f3⟩:=Y.rules;have l3:=Y.lt;clear C f V p O T hs M β α hy Y X D δ;go_wp2_with fail;refine CA.o.mono ?_;rintro x W4 ⟨rfl,I⟩;obtain⟨e1,S⟩:∃x,(cz R1.m y).1=x:=⟨_,rfl⟩;have H4:=U9 (nD.trans (R1:=R1) (H.o.1.call H.o.2.2.1) H.o.2.1 (fl.weak I|>λh=>by
    obtain⟨R2,k1,k2,k3⟩:=h;exact⟨R2,k1,k2,k3⟩))
   rw[S];clear I CA S;by_cases D:e1=0
   ·subst D
    go_wp2_with fail;go_roundw
    case rel=>exact⟨j+1,by omega,by go_num,H4.o,λh=>by omega⟩
    case measure=>simp[intOf];omega
   ·have κ:(e1==0)=false:=by simpa using D
    go_wp2_with fail;go_ret;obtain⟨R2,k1,k2,k3⟩:=H4.o;exact⟨e1,rfl,⟨R2,k1.more (by omega),k2,k3⟩,λh=>by rw[h]at q;simp at q⟩
  ·obtain rfl:j=L.length:=by omega
   have hd:decide ((L.length:Int)<L.length)=false:=Vj (by omega);have H:=U9 (Vb hW D);clear hW D;go_wp2_with fail;go_ret;exact⟨0,rfl,H.o.1,λh=>⟨rfl,by rw[H.o.2 (by rw[h];rfl)];exact fl.same l.o.1 (Vd _ _) (Vc _)⟩⟩
theorem cR.mod{Z:List Yw}{F:Nat->Prop}{b:Yu}(h:cR Z F B b w)(hF:∀k,¬F k):ah (λk=>B<=k) b w:=
 ⟨h.os,h.tape,h.output,h.size,λk d e=>by
  rcases h.block k d with h1|⟨h1,-⟩|h1
  ·exact h1
  ·exact absurd h1 e
  ·exact absurd h1 (hF k)⟩
theorem Ev.zero_ok:Ev.zero.ok:=⟨by decide,by decide,av.ok_zero,by decide,by decide,by decide,by decide,by decide,by decide⟩
theorem ir{m:az}(b:m.ok)(d:k<6)(e:a.ok):(cH m k a).2.2.ok/\fD (cH m k a).2.2.kn<=fD m.kn+1/\(cH m k a).1.ok:=by
 unfold cH;split
 ·exact⟨b,by show fD m.kn<=_;omega,Ev.zero_ok⟩
 ·split
  ·exact⟨r8 b (mM b d e),r9 b (mM b d e),mM b d e⟩
  ·exact⟨b,by show fD m.kn<=_;omega,Ev.zero_ok⟩
theorem fl.row{wo:Yu}{R Ro:gI}{m':az}(h:fl w r k R n m' w')(l:ah (Ro.F r) wo w)(e:∀j,R.F r j->Ro.F r j\/wo.heap.size<=j)(D:¬R.F r g)(M:g<w.heap.size)(J:wo.heap.size<=g)(f:Fr w' w'' g none)(q:R.H=Ro.H:=by rfl):fl wo r k Ro n m' w'':=by
 obtain⟨R',C,m,I,p⟩:=h;have i:ah (cj g) w' w'':=ah.of_fr1 f rfl;have L:=l.size;refine⟨R',C.mod i λj d b=>?_,⟨m.1,m.2.trans q⟩,(l.trans' I λj d hF=>?_).trans' i λj d b=>?_,λj d=>?_⟩
 ·have b:j=g:=b
  subst b;rcases p j d with h|h
  ·exact D h
  ·omega
 ·rcases e j hF with h|h
  ·exact h
  ·omega
 ·have b:j=g:=b
  omega
 ·rcases p j d with h|h
  ·exact e j h
  ·exact .inr (by omega)
theorem Ce{R:gI}(h:bV w r k R n)(hn:n+1<=900000)(hT:dh w)(ha:a.ok):
  Yt 213 #[Yr r,.agg (cQ a)] w λx w'=>x=.returned (zN (cH R.m k a))/\fl w r k R (n+1) (cH R.m k a).2.2 w':=by
 have D0:Ys w ((w.alloc (.cells (cQ a) 42)).alloc (.cells (ao Ev.zero) 53)):=((Vd _ _).alloc (by simp<;>omega) _).alloc (by simp<;>omega) _;have B0:aD ((w.alloc (.cells (cQ a) 42)).alloc (.cells (ao Ev.zero) 53)) [(w.heap.size+1,53,ao Ev.zero),(w.heap.size,42,cQ a),(r,142,eG R k)]:=((aD.cons h.blk aD.nil).push (g:=w.heap.size) rfl).push (g:=w.heap.size+1) (by simp);have z0:((w.alloc (.cells (cQ a) 42)).alloc (.cells (ao Ev.zero) 53)).heap.size=w.heap.size+2:=by simp
 obtain⟨S,α⟩:∃S,S=(w.alloc (.cells (cQ a) 42)).alloc (.cells (ao Ev.zero) 53):=⟨_,rfl⟩;rw[<-α]at D0 B0 z0;have HW:=U9 α;have HQ:=ir h.ok h.k6 ha;have R0:=h.call D0;have H:∀j,R.L.mem j->j<w.heap.size:=λj i=>h.inh j (.inr (.inl i))
 have l:¬R.L.mem (w.heap.size+1)/\¬R.L.mem w.heap.size/\¬R.L.mem r:=⟨λi=>by have:=H _ i;omega,λi=>by have:=H _ i;omega,λi=>h.ap.ab r rfl i⟩;have HF:=U9 (λ(X:Yu) (C:ah R.L.mem S X)=>And.intro (B0.mod C ⟨l.1,l.2.1,l.2.2,trivial⟩).rules (And.intro (B0.mod C ⟨l.1,l.2.1,l.2.2,trivial⟩).lts (pQ (B0.mod C ⟨l.1,l.2.1,l.2.2,trivial⟩).drop.head)));have CA:=U9 (λ(X:Yu) (C:Ys S X)=>Sy (R0.led.call C) h.ok ((hT.call' D0).call' C) (by have:=h.sn;omega) h.k6 ha);have γ:=U9 (show∀j,R.L.mem j->j<S.heap.size from λj i=>by have:=H j i;omega);have HI:=U9 h.inh;have I:=U9 (And.intro R0 (And.intro B0 (And.intro D0 (And.intro H (And.intro l z0)))));clear h hT ha B0 D0 R0 α H l z0;generalize cH R.m k a=q at HQ CA⊢;obtain⟨E,er,m'⟩:=q;have N:=U9 HQ;clear HQ;dsimp only at CA N⊢;go_enter func213,ntmps213;go_wp2_with fail;generalize hg:(w.alloc _).alloc _=X0;obtain rfl:S=X0:=HW.o.trans hg;clear HW hg;refine ay [53] R.L.mem 9 γ.o (by kernel_rfl) (by kernel_rfl) ?_
 iterate 9
  first
  |refine bT rfl ?_;apply aA
   ·intro _ ρ f e d W C;have hq:=HF.o W C;simp[execOp,go_sem,f,e,d,hq,eG]<;>exact rfl
  |refine al (λ_=>rfl) ?_
  |refine bM (by kernel_rfl) rfl ?_;apply aA
   ·intro u ρ f e d w;simp[execOp,go_sem,f,e,d,eG]<;>exact rfl
  simp only[UW,UX,UY,UZ]
 refine bP (λ_=>rfl) rfl 233 (λ_=>#[Yr R.L.b,.int .i64 ((k:Int)+1),.agg (cQ a)]) (λ_:Unit=>.tuple #[.agg (ao E),.int .i64 er]) () (λY r Y'=>dD Y' R.L m') (λ_ w=>by simp[execOp,go_sem]<;>rfl) (λ_ Y C=>?ca2) ?_
 case ca2=>
  refine(CA.o Y C).mono ?_;rintro r Y' ⟨rfl,h1,h2⟩;exact⟨(),rfl,h1,h2⟩
 simp only[UW,UX,UY,UZ]
 iterate 3
  first
  |refine bT rfl ?_;apply aA
   ·intro _ ρ f e d W C;have hq:=HF.o W C;simp[execOp,go_sem,f,e,d,hq,eG]<;>exact rfl
  |refine al (λ_=>rfl) ?_
  |refine bM (by kernel_rfl) rfl ?_;apply aA
   ·intro u ρ f e d w;simp[execOp,go_sem,f,e,d,eG]<;>exact rfl
  simp only[UW,UX,UY,UZ]
 refine eW (λ_=>rfl) 53 (ao Ev.zero) (λ_ _=>by simp[execOp,go_sem]<;>exact rfl) ?_;simp only[UW,UX,UY,UZ];refine cZ (λ_=>rfl) 13 53 53 14 _ _ rfl (by decide) rfl (by simp) γ.o _ _ _ (λ_=>rfl) (λ_=>rfl) (λ_=>by repeat (first|exact Vs ⟨rfl,rfl,rfl⟩|apply Vr)) (bY Ev.zero) (λ_=>rfl) (λ_=>kz _) ?_;simp only[UW,UX,UY,UZ]
 iterate 1
  first
  |refine bT rfl ?_;apply aA
   ·intro _ ρ f e d W C;have hq:=HF.o W C;simp[execOp,go_sem,f,e,d,hq,eG]<;>exact rfl
  |refine al (λ_=>rfl) ?_
  |refine bM (by kernel_rfl) rfl ?_;apply aA
   ·intro u ρ f e d w;simp[execOp,go_sem,f,e,d,eG]<;>exact rfl
  simp only[UW,UX,UY,UZ]
 refine aK (by kernel_rfl) ?_;rintro⟨⟨_,_⟩,p⟩ V hC hR;replace hC:ah R.L.mem S V:=hC;dsimp only;simp only[U0,U1,U2,U3,Nat.reduceAdd,Nat.zero_add]at hR;obtain⟨w1,w2,-,-,g3,g4⟩:=bJ (hR 9 _ _ (by repeat (first|exact Or.inl ⟨rfl,rfl,rfl⟩|apply Or.inr))) rfl;obtain⟨g,v,hx,n6,B6⟩:∃g v,[p,Value.agg (ao E)]=[Yr g,v]/\S.heap.size<=g/\ai V g 53 (Value.toArr v):=hR 14 _ _ (by repeat (first|exact Or.inl ⟨rfl,rfl,rfl⟩|apply Or.inr));injection hx with h6 β;injection β with β;subst h6 β;replace B6:ai V g 53 (ao E):=B6;have L1:dD V R.L m':=g3.mod (g4.mod λ_ h=>h.1 rfl) λj i C=>by have:=γ.o j i;omega
 have R1:=I.o.1.led_ L1 N.o.1 hC (XV n) (by have:=N.o.2.1;have:=I.o.1.sn;omega);have B1:aD V [(g,53,ao E),(w.heap.size+1,53,ao Ev.zero),(w.heap.size,42,cQ a),(r,142,eG R k)]:=aD.cons B6 (I.o.2.1.mod hC ⟨I.o.2.2.2.2.1.1,I.o.2.2.2.2.1.2.1,I.o.2.2.2.2.1.2.2,trivial⟩);have M1:ah (R.F r) w V:=(ah.of_below I.o.2.2.1).trans (hC.mono (G:=R.F r) λj i=>.inr (.inl i));have D:=U9 (Vb R1 (Vb B1 (Vb M1 n6)));clear hC hR g3 g4 n6 B6 L1 R1 B1 M1 HF CA;have ζ:=dz D.o.2.1.head;have M:∀j,w.heap.size<=j->¬R.F r j:=λj i hF=>by have:=HI.o j hF;omega
 by_cases hz:E=Ev.zero
 ·have δ:decide (E=Ev.zero)=true:=by simp[hz]
  have η:=fE D.o.2.1.drop.head rfl E;have HX:=U9 (Vb (ax D.o.2.1.drop.head (ao E)) (fl.row (wo:=w) (Ro:=R) (fl.same D.o.1 (Vd _ _) (Vc _)) D.o.2.2.1 (λj i=>.inl i) (M (w.heap.size+1) (by omega)) D.o.2.1.drop.head.lt (by omega) (aM V (w.heap.size+1) (ao E))));clear M;subst hz;go_wp2_with fail;refine cP (s:=4) (u:=5) results213 rfl rfl HX.o.1 underlying53 rfl (bY _) rfl ?_;exact⟨rfl,HX.o.2⟩
 ·have δ:decide (E=Ev.zero)=false:=by simp[hz]
  have J:=U9 M;have ε:=U9 (λ(W:Yu) (h:Ys V W)=>Vb (D.o.2.1.call h).rules (Vb (D.o.2.1.call h).lts (dz (D.o.2.1.call h).head)));clear M;go_wp2_with fail;refine aP 5 (by kernel_rfl) (by simp) (by decide+kernel) (by decide+kernel) (by decide+kernel) (by decide+kernel) ?_;simp only[U4,U5,U6,U7]
  iterate 5
   first
   |refine dx rfl ?_;apply aA
    ·intro _ ρ f e d W C;have hq:=ε.o W C;simp[execOp,go_sem,f,e,d,hq,eG]<;>exact rfl
   |refine aw (λ_=>rfl) ?_
   simp only[UW,UX,UY,UZ]
  refine aH ?_;intro _ W3 O _;have R3:=D.o.1.call O;have B3:=D.o.2.1.call O;have M3:=D.o.2.2.1.call O;have CG:=U9 (Ps R3.log (by have:=I.o.1.cn;show R.c+1<=900000;omega) R3.bs N.o.2.2);have H3:=U9 (Vb R3 (Vb B3 M3));clear O R3 B3 M3 ε ζ;go_wp2_with fail;refine CG.o.mono ?_;rintro x W4 ⟨⟨nn,rfl⟩,T⟩;have S4:=H3.o.1.setLog (n':=n+1) T (Vc _) (by have:=I.o.1.cn;show R.c+1<=n+1;omega);obtain⟨v',θ,ι,c',-,-,ml,-⟩:=T;have B4:=H3.o.2.1.mod ml ⟨λi=>J.o g (by have:=D.o.2.2.2;have:=I.o.2.2.1.size;omega) (.inr (.inr (.inl i))),λi=>J.o (w.heap.size+1) (by omega) (.inr (.inr (.inl i))),λi=>J.o w.heap.size (by omega) (.inr (.inr (.inl i))),λi=>I.o.1.ap.ac r rfl i,trivial⟩;have ζ:=dz B4.head;have η:=fE B4.drop.head rfl E;have HX:=U9 (Vb (ax B4.drop.head (ao E)) (fl.row (wo:=w) (Ro:=R) S4 H3.o.2.2 (λj i=>.inl i) (J.o (w.heap.size+1) (by omega)) H3.o.2.1.drop.head.lt (by omega) (aM W4 (w.heap.size+1) (ao E))));clear S4 ml B4 CG δ;go_wp2_with fail;refine cP (s:=4) (u:=5) results213 rfl rfl HX.o.1 underlying53 rfl (bY _) rfl ?_;exact⟨rfl,HX.o.2⟩
theorem tO.path_u{T:List (Int×Int)}(h:tO T)(x:Int):∀y∈aC T x,aT y:=λy e=>by
 have b:=iU e;cases d:lk T y with
 |none=>rw[d]at b;cases b
 |some p=>exact(h.rg _ (bK d)).1
theorem tO.path_le{T:List (Int×Int)}(h:tO T)(x:Int):(aC T x).length<=1000:=by
 have:=dV T x;have:=h.le;omega
theorem Rt{R:gI}(h:bV w r k R n)(hn:n+1<=900000)(hT:dh w)(ha:a.ok)(ν:aT now):
  Yt 197 #[Yr r,.agg (cQ a),.int .u64 now] w λx w'=>x=.returned (zN (cH R.m k a))/\fl w r k R (n+1) (cH R.m k a).2.2 w':=by
 have D0:Ys w ((w.alloc (.cells (cQ a) 42)).alloc (.cells (ao Ev.zero) 53)):=((Vd _ _).alloc (by simp<;>omega) _).alloc (by simp<;>omega) _;have B0:aD ((w.alloc (.cells (cQ a) 42)).alloc (.cells (ao Ev.zero) 53)) [(w.heap.size+1,53,ao Ev.zero),(w.heap.size,42,cQ a)]:=(aD.nil.push (g:=w.heap.size) rfl).push (g:=w.heap.size+1) (by simp);have z0:((w.alloc (.cells (cQ a) 42)).alloc (.cells (ao Ev.zero) 53)).heap.size=w.heap.size+2:=by simp
 obtain⟨W0,O⟩:∃W0,W0=(w.alloc (.cells (cQ a) 42)).alloc (.cells (ao Ev.zero) 53):=⟨_,rfl⟩;rw[<-O]at D0 B0 z0;have HW:=U9 O;have HI:=U9 h.inh;have HQ:=U9 (ir h.ok h.k6 ha);have R0:=h.call D0;have CA:=U9 (Ce R0 hn (hT.call' D0) ha);have κ:=pQ B0.drop.head;have HA:=U9 ha;have HH:=U9 (And.intro R0 (And.intro B0 (And.intro D0 (And.intro ν z0))));rw[O]at κ;clear h hT ha B0 D0 R0 O z0;generalize cH R.m k a=q at HQ CA⊢;obtain⟨E,er,m'⟩:=q;dsimp only[zN]at HQ CA⊢;go_enter func197,ntmps197;go_wp2_with fail;generalize hg:(w.alloc _).alloc _=X0;obtain rfl:W0=X0:=HW.o.trans hg;clear HW hg κ;refine CA.o.mono ?_;rintro x W1 ⟨rfl,R1,μ,υ,γ,ι⟩;have ψ:=HH.o.2.2.2.2;have S:∀j,w.heap.size<=j->¬R.F r j:=λj f hF=>by have:=HI.o j hF;omega
 have θ:∀j,w.heap.size<=j->j<w.heap.size+2->¬R1.F r j:=λj f Γ hF=>by
  rcases ι j hF with h|h
  ·exact S j f h
  ·omega
 have B1:=HH.o.2.1.mod γ ⟨S (w.heap.size+1) (by omega),S w.heap.size (by omega),trivial⟩;have ξ:=fE B1.head rfl E;have M1:ah (R.F r) w W1:=(ah.of_below HH.o.2.2.1).trans γ;have fr:=aM W1 (w.heap.size+1) (ao E);have R2:=μ.mod (ah.of_fr1 (F:=cj (w.heap.size+1)) fr rfl) λj f I=>by
  have I:j=w.heap.size+1:=I;exact θ j (by omega) (by omega) f
 have M2:ah (R.F r) w (W1.setRow (w.heap.size+1) (ao E)):=M1.trans' (ah.of_fr1 (F:=cj (w.heap.size+1)) fr rfl) λj f I=>by have I:j=w.heap.size+1:=I;omega
 have B2:=B1.row (by exact⟨by omega,trivial⟩) (ao E);have l:=U9 (show∃T,T=W1.setRow (w.heap.size+1) (ao E)from⟨_,rfl⟩);obtain⟨T,ζ⟩:=l.o;rw[<-ζ]at R2 M2 B2;have l:=U9 ζ;have d:=U9 (Vb R2 (Vb M2 (Vb B2 (Vb θ (Vb ι υ)))));clear fr M1 B1 θ S ι υ γ μ R2 M2 B2 ζ CA;have σ:=U9 (show∀(W:Yu),Ys T W->fl w r k R (n+1) m' (W.setRow (w.heap.size+1) (ao E))from λW i=>by
  have χ:=i.size;have hl:=d.o.2.2.1.head.lt;have fr:=aM W (w.heap.size+1) (ao E);refine⟨R1,(d.o.1.call i).mod (ah.of_fr1 (F:=cj (w.heap.size+1)) fr rfl) λj f I=>?_,d.o.2.2.2.2.2,(d.o.2.1.call i).trans' (ah.of_fr1 (F:=cj (w.heap.size+1)) fr rfl) λj f I=>?_,λj f=>?_⟩
  ·have I:j=w.heap.size+1:=I
   exact d.o.2.2.2.1 j (by omega) (by omega) f
  ·have I:j=w.heap.size+1:=I
   omega
  ·rcases d.o.2.2.2.2.1 j f with h|h
   ·exact .inl h
   ·exact .inr (by omega))
 have ε:=dz d.o.2.2.1.head;have β:=fE d.o.2.2.1.head rfl E;have HB:=U9 (ax d.o.2.2.1.head (ao E));have π:=d.o.2.2.1.rules;have τ:=d.o.2.2.1.lts;rw[l.o]at ε β π τ;by_cases hz:er=11
 ·subst hz
  by_cases ω:a.k=3
  ·go_wp2_with fail
   rw[<-l.o];have B3:aD T [(r,142,eG R1 k),(w.heap.size+1,53,ao E),(w.heap.size,42,cQ a)]:=aD.cons d.o.1.blk d.o.2.2.1;have HF:=U9 (λ(X:Yu) (i:ah cM T X)=>Vb (B3.call i.no).rules (B3.call i.no).lts);have HN:=d.o.1.led;have V:=d.o.1.ok;have CL:=U9 (λ(X:Yu) (i:ah cM T X)=>Pp (HN.call i.no) V (x:=a.n) HA.o.n d.o.1.k6 a.a (V.tr.path_u _) (V.tr.path_le _));clear ε β π τ ξ HN V;refine ay [] cM 18 (λ_ h=>h.elim) (by kernel_rfl) (by kernel_rfl) ?_
   iterate 12
    first
    |refine bT rfl ?_;apply aA
     ·intro _ ρ J D H W i;have hq:=HF.o W i;simp[execOp,go_sem,J,D,H,hq,eG,cQ]<;>exact rfl
    |refine al (λ_=>rfl) ?_
    |refine bM (by kernel_rfl) rfl ?_;apply aA
     ·intro u ρ J D H w;simp[execOp,go_sem,J,D,H,eG,cQ]<;>exact rfl
    simp only[UW,UX,UY,UZ]
   refine dM (λ_=>rfl) (Vm rfl) 214 (λ_=>#[Yr R1.L.b,.int .i64 ((k:Int)+1),.int .u64 a.n,.int .i64 a.a]) (λp:Int×Int=>.tuple #[.int .u64 p.1,.int .i64 p.2]) (0,0) (λ_ v _=>∃p:Int×Int,v=.tuple #[.int .u64 p.1,.int .i64 p.2]/\aT p.1) (λ_ w=>by simp[execOp,go_sem]<;>rfl) (λ_ Y i=>?ca2) ?_
   case ca2=>
    refine(CL.o Y i).mono ?_;rintro r Y' ⟨M,N,rfl,h1,h2⟩;exact⟨(M,N),rfl,⟨(M,N),rfl,h1⟩,h2⟩
   simp only[UW,UX,UY,UZ]
   iterate 5
    refine bH rfl ?_;simp only[UW,UX,UY,UZ]
   refine aK (by kernel_rfl) ?_;rintro⟨_,M,N⟩ W3 C hR;replace C:Ys T W3:=C;simp only[U0,U1,U2,U3,Nat.reduceAdd,Vk]at hR;obtain⟨w1,w2,-,-,⟨⟨x1,x2⟩,hv,hx⟩,-⟩:=bJ (hR 12 _ _ (by repeat (first|exact Vs ⟨rfl,rfl,rfl⟩|apply Vr))) rfl;obtain⟨rfl,rfl⟩:M=x1/\N=x2:=by simpa using hv
   have R3:=d.o.1.call C;have B4:=B3.call C;have φ:=U9 (λ(W:Yu) (h:Ys W3 W)=>And.intro (B4.call h).rules (B4.call h).lts);have H3:=U9 (And.intro R3 (And.intro B4 (And.intro C hx)));clear hR hv hx C R3 B4 B3 HF CL w1 w2;dsimp only;go_wp2_with fail;refine aP 8 (by kernel_rfl) (by simp) (by decide+kernel) (by decide+kernel) (by decide+kernel) (by decide+kernel) ?_;simp only[U4,U5,U6,U7]
   iterate 8
    first
    |refine dx rfl ?_;apply aA
     ·intro _ ρ J D H W i;have hq:=φ.o W i;simp[execOp,go_sem,J,D,H,hq,eG,cQ]<;>exact rfl
    |refine aw (λ_=>rfl) ?_
    simp only[UW,UX,UY,UZ]
   refine aH ?_;intro _ W4 α _;have R4:=H3.o.1.call α;have B4:=H3.o.2.1.call α;have CP:=U9 (PR R4.dem H3.o.2.2.2 HA.o.a HH.o.2.2.2.1);have H4:=U9 (Vb R4 (Vb B4 (H3.o.2.2.1.trans (α.mono H3.o.2.2.1.size))));clear α R4 B4 φ;go_wp2_with fail;refine CP.o.mono ?_;rintro x W5 ⟨⟨e,rfl⟩,D',hD,η⟩;have S5:=H4.o.1.setDem hD η λj f=>f.imp id (·.1)
   have δ:∀j,w.heap.size<=j->j<w.heap.size+2->¬R1.FD j:=λj h1 h2 f=>d.o.2.2.2.1 j h1 h2 (.inr (.inr (.inr (.inr (.inr f)))))
   have B5:=H4.o.2.1.drop.mod η ⟨δ (w.heap.size+1) (by omega) (by omega),δ w.heap.size (by omega) (by omega),trivial⟩;have ε:=dz B5.head;have ξ:=fE B5.head rfl E;have HX:=U9 (Vb (ax B5.head (ao E)) (fl.row (wo:=w) (Ro:=R) S5 (d.o.2.1.call H4.o.2.2) (λj f=>(d.o.2.2.2.2.1 j f).imp id λh=>by omega) (d.o.2.2.2.1 _ (by omega) (by omega)) H4.o.2.1.drop.head.lt (by omega) (aM W5 (w.heap.size+1) (ao E)) d.o.2.2.2.2.2.2));clear S5 δ B5 hD η CP;go_wp2_with fail;refine cP (s:=6) (u:=7) results197 rfl rfl HX.o.1 underlying53 rfl (bY _) rfl ?_;exact⟨rfl,by rw[<-d.o.2.2.2.2.2.1];exact HX.o.2⟩
  ·go_wp2_with fail
   rw[<-l.o];refine cP (s:=6) (u:=7) results197 rfl rfl HB.o underlying53 rfl (bY _) rfl ?_;exact⟨rfl,σ.o T (Vd _ _)⟩
 ·go_wp2_with fail
  rw[<-l.o];refine cP (s:=6) (u:=7) results197 rfl rfl HB.o underlying53 rfl (bY _) rfl ?_;exact⟨rfl,σ.o T (Vd _ _)⟩
theorem BY(x y:Int):od (iE x y):=by
 unfold iE od;split
 ·omega
 ·omega
theorem Row.lit{α:Type}{c:α->Array Yv}{sz:Nat}{x:α}(d:(c x).size=sz)(f:ai w g t (c x))(e:base<=g):Row w base t sz c (.slice (some ⟨g,0,none⟩) 1 1) [x]:=by
 have b:(cC c [x])=(c x).toList:=vw ..;refine⟨?_,.inr ⟨g,1,c x,rfl,e,f,Vc _,by decide,by omega,?_⟩⟩
 ·rw[b];simp[d]
 ·rw[b,V4 (by simp[d])]
def Nl(w:Yu)(r k:Nat)(R:gI)(n c:Nat)(x:Ending)(w':Yu):Prop:=∃u L,x=.returned u/\dr w' w.heap.size u L/\L.length<=c/\(∀e∈L,e.ok)/\nD w r k R (n+c) w'
structure Mc.ok(x:Mc):Prop where
 f:od x.f
 d:x.d.ok
 n:aT x.n
 a:od x.a
theorem Ol{R:gI}(h:bV w r k R n)(hn:n+1<=900000)(hT:dh w){x:Mc}(hx:x.ok):
  Yt 228 #[Yr r,.agg (aR x)] w (Nl w r k R n 1):=by
 have Y:Ys w (w.alloc (.cells (aR x) 297)):=(Vd _ _).alloc (Vc _) _;have T:aD (w.alloc (.cells (aR x) 297)) [(w.heap.size,297,aR x),(r,142,eG R k)]:=(aD.cons h.blk aD.nil).push rfl;obtain⟨H,M⟩:∃H,H=w.alloc (.cells (aR x) 297):=⟨_,rfl⟩;rw[<-M]at Y T;have HW:=U9 M;have R0:=h.call Y;obtain⟨s,hs⟩:∃s,iE (dF (R.m.r x.n) k) x.a=s:=⟨_,rfl⟩;have V:od s:=hs▸BY _ _;obtain⟨lo,N⟩:∃lo,dF (R.m.r x.n) k=lo:=⟨_,rfl⟩;rw[N]at hs;have CL:=U9 (λ(X:Yu) (p:ah cM H X)=>N▸oO (R0.led.call p.no) hx.n k h.k6);have CS:=U9 (λ(X:Yu) (_:ah cM H X)=>(hs▸(Mw lo x.a X).mono λr w' h=>⟨h.1,by rw[h.2];exact Vd _ _⟩:Yt 252 #[.int .i64 lo,.int .i64 x.a] X λr w'=>r=.returned (.int .i64 s)/\Ys X w'));have HF:=U9 (λ(X:Yu) (p:ah cM H X)=>Vb (T.call p.no).rules (T.call p.no).lts);have C:=U9 (Vb h (Vb R0 (Vb T (Vb Y (Vb (hT.call' Y) (Vb hx V))))));clear h hT hx T Y R0 M hs N V;go_enter func228,ntmps228;go_wp2_with fail;generalize hg:w.alloc _=X0;obtain rfl:H=X0:=HW.o.trans hg;clear HW hg;refine ay [] cM 15 (λ_ h=>h.elim) (by kernel_rfl) (by kernel_rfl) ?_
 iterate 10
  first
  |refine bT rfl ?_;apply aA
   ·intro _ ρ i e d W p;have S:=HF.o W p;simp[execOp,go_sem,i,e,d,S,eG]<;>exact rfl
  |refine al (λ_=>rfl) ?_
  |refine bM (by kernel_rfl) rfl ?_;apply aA
   ·intro u ρ i e d w;simp[execOp,go_sem,i,e,d,eG]<;>exact rfl
  simp only[UW,UX,UY,UZ]
 refine cU (λ_=>rfl) (Vm rfl) 164 (λ_=>#[Yr R.L.b,.int .i64 ((k:Int)+1),.int .u64 x.n]) _ (λ_ w=>by simp[execOp,go_sem]<;>rfl) (λ_ X hX=>CL.o X hX) ?_;simp only[UW,UX,UY,UZ]
 iterate 2
  first
  |refine bT rfl ?_;apply aA
   ·intro _ ρ i e d W p;have S:=HF.o W p;simp[execOp,go_sem,i,e,d,S,eG]<;>exact rfl
  |refine al (λ_=>rfl) ?_
  |refine bM (by kernel_rfl) rfl ?_;apply aA
   ·intro u ρ i e d w;simp[execOp,go_sem,i,e,d,eG]<;>exact rfl
  simp only[UW,UX,UY,UZ]
 refine cU (λ_=>rfl) (Vm rfl) 252 (λ_=>#[.int .i64 lo,.int .i64 x.a]) _ (λ_ w=>by simp[execOp,go_sem]<;>rfl) (λ_ X hX=>CS.o X hX) ?_;simp only[UW,UX,UY,UZ]
 iterate 1
  first
  |refine bT rfl ?_;apply aA
   ·intro _ ρ i e d W p;have S:=HF.o W p;simp[execOp,go_sem,i,e,d,S,eG]<;>exact rfl
  |refine al (λ_=>rfl) ?_
  |refine bM (by kernel_rfl) rfl ?_;apply aA
   ·intro u ρ i e d w;simp[execOp,go_sem,i,e,d,eG]<;>exact rfl
  simp only[UW,UX,UY,UZ]
 refine aK (by kernel_rfl) ?_;rintro _ W1 l-;replace l:Ys H W1:=l;have J:=C.o.2.2.2.1.trans (l.mono C.o.2.2.2.1.size);have D:=U9 (Vb (C.o.2.2.1.call l) (Vb J (Vb (C.o.1.call J) (C.o.2.2.2.2.1.call' l))));obtain⟨q0,f0,q1,f1,-⟩:=D.o.1.rules;obtain⟨l0,l1,-⟩:=D.o.1.lts;clear CL CS HF l J;by_cases hz:s=0
 ·subst hz
  go_wp2_with fail;go_ret;exact⟨_,[],rfl,Row.nil,by simp,by simp,nD.call (nD.start (C.o.1.more (XV n))|>λh=>h) D.o.2.1⟩
 ·have β:(s==0)=false:=by simpa using hz
  have I:cJ.ok ⟨5,x.n,x.f,s,0,0⟩:=⟨show U8 5 by decide,C.o.2.2.2.2.2.1.n,C.o.2.2.2.2.2.1.f,C.o.2.2.2.2.2.2,show xU 0 by decide,show xU 0 by decide⟩;have CD:=U9 (Ce D.o.2.2.1 hn D.o.2.2.2 I);have HQ:=U9 (ir D.o.2.2.1.ok D.o.2.2.1.k6 I);generalize cH R.m k ⟨5,x.n,x.f,s,0,0⟩=q at CD HQ;obtain⟨E,er,m'⟩:=q;dsimp only[zN]at CD HQ;clear I;go_wp2_with fail;refine CD.o.mono ?_;rintro y W2 ⟨rfl,O⟩;have HT:=U9 (nD.trans (R1:=R) (ah.of_below D.o.2.1) (λj hj=>.inl hj) O.weak);obtain⟨W3,α,B3,D3,z3⟩:=iZ E W2;have δ:=dz B3;have H3:=U9 (And.intro B3 D3);clear CD O B3 D3;by_cases he:er=0
  ·subst he
   go_wp2_with fail;go_ret;have B4:ai (W3.alloc (.cells (ao E) 53)) (W2.heap.size+1) 53 (ao E):=by rw[<-z3];exact ai.new _ _ _
   have γ:w.heap.size<=W2.heap.size:=by obtain⟨R',-,m,-⟩:=HT.o;exact m.size
   exact⟨_,[E],rfl,Row.lit (dO E) B4 (by omega),by simp,by simpa using HQ.o.2.2,(HT.o.call H3.o.2).call ((Vd _ _).alloc (Vc _) _)⟩
  ·go_wp2_with fail
   go_ret;exact⟨_,[],rfl,Row.nil,by simp,by simp,HT.o.call H3.o.2⟩
theorem DD(kn:av){L:List Ev}{e:Ev}(i:e.ok)(h:(∀x∈L,x.ok)/\L.length<=64):(∀x∈mC kn L e,x.ok)/\(mC kn L e).length<=64:=by
 obtain⟨h,f⟩:=h;unfold mC;split
 ·rename_i b
  refine⟨λx hx=>?_,?_⟩
  ·rcases Vw.1 hx with hx|hx
   ·exact h x hx
   ·obtain rfl:=VH.1 hx;exact i
  ·have:¬64<=L.length:=λd=>by
    unfold iX at b;rw[Vh d]at b;split at b
    ·split at b<;>exact absurd b (by decide)
    ·exact absurd b (by decide)
   simp;omega
 ·exact⟨h,f⟩
theorem az.ok.knle{m:az}(h:m.ok){n:Int}(b:fD m.kn<=n)(q:n<=1000000):∀k,k<6->0<=m.kn.get k/\m.kn.get k<=1000000:=by
 have l:=(h.kn 0 (by decide)).1;have i:=(h.kn 1 (by decide)).1;have p:=(h.kn 2 (by decide)).1;have d:=(h.kn 3 (by decide)).1;have f:=(h.kn 4 (by decide)).1;have e:=(h.kn 5 (by decide)).1;have b:m.kn.get 0+m.kn.get 1+m.kn.get 2+m.kn.get 3+m.kn.get 4+m.kn.get 5<=n:=b;exact λk j=>av.six (P:=λk=>0<=m.kn.get k/\m.kn.get k<=1000000) ⟨l,by omega⟩ ⟨i,by omega⟩ ⟨p,by omega⟩ ⟨d,by omega⟩ ⟨f,by omega⟩ ⟨e,by omega⟩ k j
theorem nG.le{v:av}{L L':List Ev}(h:nG v L L')(b:(∀x∈L,x.ok)/\L.length<=64):((∀x∈L',x.ok)/\L'.length<=64)/\((eU v L).getD Ev.zero).ok/\L'.length+(eU v L).isSome.toNat<=L.length:=by
 have l:(L.filter λe=> !dJ v e).length<=L.length:=List.length_filter_le _ _;have j:=b.2;unfold nG at h;cases i:eU v L with
 |none=>
  rw[i]at h;have f:=h.length_eq;exact⟨⟨λx d=>b.1 x (Xb.1 (h.mem_iff.2 d)).1,by omega⟩,Ev.zero_ok,by simp;omega⟩
 |some e=>
  rw[i]at h;have f:=h.length_eq;rw[VB]at f;exact⟨⟨λx d=>b.1 x (Xb.1 (h.mem_iff.2 (VA _ d))).1,by omega⟩,b.1 e (Xb.1 (h.mem_iff.2 Vp)).1,by simp;omega⟩
def yc(w:Yu)(r k:Nat)(R:gI)(n:Nat)(w':Yu):Prop:=∃R',bV w' r k R' n/\R'.m=R.m/\ah (R.F r) w w'/\∀j,R'.F r j->R.F r j\/w.heap.size<=j
theorem yc.start{R:gI}(h:bV w r k R n)(b:Ys w w'):yc w r k R n w':=⟨R,h.call b,rfl,ah.of_below b,λ_ d=>.inl d⟩
theorem ah.hold{W:Yu}{k n:Nat}{R R1:gI}(e:ah (R.F r) w W)(d:∀j,R1.F r j->R.F r j\/w.heap.size<=j)(f:ah (cj R1.hm) W w'):ah (R.F r) w w':=e.trans' f λj i b=>by
 have b:j=R1.hm:=b;rcases d j (.inr (.inr (.inr (.inl (.inr b)))))with h|h
 ·exact h
 ·omega
theorem yc.put{W:Yu}{R R1:gI}(q:ah (R.F r) w W)(i:∀j,R1.F r j->R.F r j\/w.heap.size<=j)(h:bV W r k R1 n){d:List Ev}(p:HO w' R1.h R1.hm d)(f:ah (cj R1.hm) W w')(b:(∀e∈d,e.ok)/\d.length<=64)(l:R1.m=R.m):yc w r k R n w':=
 ⟨_,h.hold_ p f b,l,ah.hold (k:=k) (n:=n) q i f,i⟩
def Tl(w:Yu)(r k:Nat)(R:gI)(n gk:Nat)(v p b:Yv)(wr:Yu):Prop:=
 ∃(R1:gI) (x:Ev) (bb:Bool) (g a:Nat) (d:List Ev),p=.pointer (some ⟨g,0,none⟩)/\b=.bool bb/\dr wr w.heap.size v d/\(∀e∈d,e.ok)/\d.length<=a/\ai wr g 53 (ao x)/\x.ok/\w.heap.size<=g/\
  bV wr r k R1 (n+a)/\ah (R.F r) w wr/\(∀j,R1.F r j->R.F r j\/w.heap.size<=j)/\(¬R1.F r g)/\(∀q,v.ownBlock=some q->¬R1.F r q/\q≠g)/\gk=R1.H.length+bb.toNat/\a+gk<=64
section
variable{P:Program}
theorem vg{id:Nat}{a:Act}{Q:Exit->Act->Yu->Prop}{l:List Oper}(n:Nat)(Z:List Yw)(F:Nat->Prop)(c:Nat)(hF:∀k,F k->k<w.heap.size)(M:P.follows .mixedOrders=true)(X:n<=l.length)
  (N:jz .any l.toArray n=true) (q:Region.lexB .any (l.take n).toArray=true)
  (h:gY P (l.take n).toArray Z F w c [] (λE D Y=>∀w',gC F w (decide (c<(l.take n).length)) w'->(∀k xs u,Y k xs u->gR Z F w c E k xs u w')->wpAny P .any l.toArray Q (l.drop n).length (aO n 0 (Array.replicate l.length false)) D w') (l.take n) Unit (λ_=>a) (λ_ _ _ _=>False)):(Code.region id l.toArray true).wp P Q a w:=by
 obtain⟨E,I,h⟩:=h;have h:=h ();refine WV M ?_;simp only[Region.lexB,Vo]at q;have V:=jb (P:=P) (c:=c) (C:=gC F w) (T:=gT P (l.take n).toArray E) (R:=gR Z F w c E) (S:=gS Z F w c E) (md:=.any) (xC _ _ _) q.1 (l.take n) 0 (Array.replicate (l.take n).length false) a (λ_ _ _=>False) (by simp) (by simpa using q.2) h;have O:wpAny P .any (l.take n).toArray (oA Q (λa w=>wpAny P .any l.toArray Q (l.drop n).length (aO n 0 (Array.replicate l.length false)) a w)) (l.take n).length (Array.replicate (l.take n).length false) a w.drew:=
  eQ (c:=c) (C:=gC F w) (T:=gT P (l.take n).toArray E) (R:=gR Z F w c E) (S:=gS Z F w c E) (λ_ J=>pX J λ_=>rfl) (tc hF I)
   (λD F' w' f p d=>d w' (by simpa using f) p) _ _ _ (λ_ _ _=>False) _ (by simp) (λj o _ b=>by rw[bB]at b;cases b) (λ_ _ _ d=>False.elim d) (by rw[bB];exact(Vd _ _).drew) (λ_ _ _ d=>False.elim d) V
 have L:(l.take n).length=n:=by simp;omega
 have H:=ff (n:=n) (m:=(l.drop n).length) X N (λ_ _ h=>h) (l.take n).length (Array.replicate (l.take n).length false) (Array.replicate l.length false) a w.drew (by simp;omega) (by simp)
  (λi hi=>by rw[bB,bB]) (λi _=>bB _ _) (λj o _ b=>by rw[bB]at b;cases b) (by simp) O
 have e:(l.take n).length+(l.drop n).length=l.length:=by rw[<-Vl,Wf]
 rw[e]at H;simpa using H
theorem wq{Q:Exit->Act->Yu->Prop}{a:Act}{l:List Oper}(k:Nat){b:Array Bool}(hF:eP .any l.toArray (l.drop k).length k b=true)(d:(Region.ready .any l.toArray (aO (l.drop k).length k b)).isEmpty=true)
  (h:wpList P l.toArray Q (l.drop k) a w):wpAny P .any l.toArray Q (l.drop k).length b a w:=
 fh (P:=P) (md:=.any) (Q:=Q) (K:=λa w=>Q .normal a w) (l.drop k).length k b (l.drop k) a w 0 (λa w e=>⟨by simpa using d,e⟩) rfl (λj _=>by simp) hF (by rw[iT];exact h)
end
def Tm(w:Yu)(r k:Nat)(R:gI)(h N g:Nat)(x:Ev)(c:Nat)(v:Yv)(f:Yu):Prop:=
 ∃d b,dr f w.heap.size v b/\(∀e∈b,e.ok)/\b.length<=c/\ai f g 53 (ao x)/\bV f r k d N/\ah (R.F r) w f/\(∀q,v.ownBlock=some q->¬d.F r q/\q≠g)/\(∀j,d.F r j->R.F r j\/w.heap.size<=j)/\d.H.length=h
theorem Kd{R:gI}(h:bV w r k R n)(hn:n+64<=900000)(hT:dh w)(hTN:tz (R.F r)){x:Mc}{L:List Ev}(hR:dr w 0 x.s L)(hL:∀e∈L,e.ok)(hap:∀g,x.s.ownBlock=some g->¬R.F r g):
  Yt 227 #[Yr r,.agg (aR x)] w (Nl w r k R n 64):=by
 have D0:Ys w (w.alloc (.cells (aR x) 297)):=(Below.refl _ _).alloc (Nat.le_refl _) _;have B0:ai (w.alloc (.cells (aR x) 297)) w.heap.size 297 (aR x):=ai.new _ _ _;obtain⟨W0,hW0⟩:∃W0,W0=w.alloc (.cells (aR x) 297):=⟨_,rfl⟩;obtain⟨xk,xf,xt,xd,xs,xn,xa⟩:=x;dsimp only at hR hap;obtain⟨A,c,rfl,hc1,hc2⟩:=hR.sl;have hcm:c<=9223372036854775807:=hc2;obtain⟨q0,f0⟩:=B0.rules;have l0:=B0.lt;have HH:=U9 (And.intro h (And.intro hT (And.intro hTN (And.intro hR (And.intro hL (And.intro hap D0))))));have HW:=U9 hW0;clear h hT hTN hR hL hap B0 D0;go_enter func227,ntmps227;go_wp2_with fail;rw[<-hW0]
 go_loopw [12] (λi wr=>∃j:Nat,j<=L.length/\i=.int .i64 j/\yc w r k R n wr) (λi _=>L.length-(intOf i).toNat)
 case atStart=>exact⟨0,by omega,rfl,by rw[hW0];exact yc.start HH.o.1 HH.o.2.2.2.2.2.2⟩
 case round=>
  obtain⟨j,O,rfl,hW⟩:=hrel;obtain⟨R1,N,σ,ζ,ω⟩:=hW;by_cases hlt:j<L.length
  ·have hd:decide ((j:Int)<L.length)=true:=Vg (by omega)
   obtain⟨y,hy⟩:∃y,L[j]? =some y:=⟨L[j],Ve hlt⟩;obtain⟨g,cap,hs,hcap,hmx,hgb,τ⟩:=HH.o.2.2.2.1.sl_pos (by omega);obtain⟨rfl,hcc⟩:A=some ⟨g,0,none⟩/\c=cap:=by injection hs with a b c;exact⟨a,c⟩
   have V:=ζ.row HH.o.2.2.2.1 HH.o.2.2.2.2.2.1;have hrd:=V.rng dO hy;have π:=aY (P:=prog) hrd underlying53 rfl (bY y);have hyo:=HH.o.2.2.2.2.1 y (Vn hy);obtain⟨W3,hst3,B3,D3,z3⟩:=iZ y wr;have R3:=N.call D3;have hg2:g<wr.heap.size:=Vq τ ζ.size;have B4:aD W3 [(wr.heap.size,53,ao y),(r,142,eG R1 k)]:=aD.cons B3 (aD.cons R3.blk aD.nil);have HF:=U9 (λ(X:Yu) (D:ah cM W3 X)=>Vb (B4.call D.no).rules (Vb (B4.call D.no).lts (dz (B4.call D.no).head)));have CK:=U9 (λ(X:Yu) (D:ah cM W3 X)=>tg (R3.led.call D.no));have HX:=U9 (Vb ζ (Vb ω (Vb D3 (Vb R3 (Vb σ hyo)))));obtain⟨q3,f3⟩:=B3.rules;have l3:=B3.lt;clear N ζ ω V hrd hs hcap hmx hcc hy B3 D3 hgb R3 B4 σ hyo;go_wp2_with fail;refine eO 10 [] cM 10 (λ_ h=>h.elim) (by kernel_rfl) (by simp) (by decide+kernel) (by kernel_rfl) (by decide+kernel) (by kernel_rfl) ?_;simp only[U4,U5,U6,U7]
   iterate 8
    first
    |refine bT rfl ?_;apply aA
     ·intro _ ρ C f l W D;have I:=HF.o W D;simp[execOp,go_sem,C,f,l,I,eG]<;>exact rfl
    |refine al (λ_=>rfl) ?_
    |refine bM (by kernel_rfl) rfl ?_;apply aA
     ·intro u ρ C f l w;simp[execOp,go_sem,C,f,l,eG]<;>exact rfl
    simp only[UW,UX,UY,UZ]
   refine cU (λ_=>rfl) (Vm rfl) 250 (λ_=>#[Yr R1.L.b]) _ (λ_ w=>by simp[execOp,go_sem]<;>rfl) (λ_ X hX=>CK.o X hX) ?_;simp only[UW,UX,UY,UZ]
   iterate 1
    first
    |refine bT rfl ?_;apply aA
     ·intro _ ρ C f l W D;have I:=HF.o W D;simp[execOp,go_sem,C,f,l,I,eG]<;>exact rfl
    |refine al (λ_=>rfl) ?_
    |refine bM (by kernel_rfl) rfl ?_;apply aA
     ·intro u ρ C f l w;simp[execOp,go_sem,C,f,l,eG]<;>exact rfl
    simp only[UW,UX,UY,UZ]
   refine aK (by kernel_rfl) ?_;rintro _ W5 ν-;replace ν:Ys W3 W5:=ν;have R5:=HX.o.2.2.2.1.call ν;have CP:=U9 (bQ R5.hold R1.m.kn y HX.o.2.2.2.2.2);have H5:=U9 (Vb R5 (HX.o.2.2.1.trans (ν.mono HX.o.2.2.1.size)));clear HF CK ν R5;go_wp2_with fail;refine CP.o.mono ?_;rintro z W6 ⟨rfl,hp1,hp2⟩;have HS:=U9 (yc.put (HX.o.1.call H5.o.2) HX.o.2.1 H5.o.1 hp1 (ah.of_fr1 hp2 rfl) (DD _ HX.o.2.2.2.2.2 H5.o.1.hok) HX.o.2.2.2.2.1);clear hp1 hp2 CP;go_wp2_with fail;go_roundw
   case rel=>exact⟨j+1,by omega,by go_num,HS.o⟩
   case measure=>simp[intOf];omega
  ·obtain rfl:j=L.length:=by omega
   have hd:decide ((L.length:Int)<L.length)=false:=Vj (by omega);have B4:aD wr [(r,142,eG R1 k)]:=aD.cons N.blk aD.nil;have Ξ:r≠R1.hm:=λe=>N.ap.ad r rfl (.inr e)
   have δ:=U9 (show∀j,cj R1.hm j->j<wr.heap.size from λj O=>by have O:j=R1.hm:=O;rw[O];exact N.hold.map.lt);have HF:=U9 (λ(X:Yu) (D:ah (cj R1.hm) wr X)=>Vb (B4.mod D ⟨Ξ,trivial⟩).rules (B4.mod D ⟨Ξ,trivial⟩).lts);have CK:=U9 (λ(X:Yu) (D:ah (cj R1.hm) wr X)=>tg (N.led.mod D λj O he=>N.ap.bd j O (.inr he)));have CN:=U9 (λ(X:Yu) (D:Ys wr X)=>ve (N.hold.call D) R1.m.kn (N.ok.knle N.sn (by omega)) N.hok.1);have HX:=U9 (Vb N (Vb σ (Vb ζ ω)));obtain⟨y,hy⟩:∃y,(eU R1.m.kn R1.H).getD Ev.zero=y:=⟨_,rfl⟩;obtain⟨b,D⟩:∃b,(eU R1.m.kn R1.H).isSome=b:=⟨_,rfl⟩;have hv:pT (eU R1.m.kn R1.H)=.tuple #[.agg (ao y),.bool b]:=by unfold pT;rw[hy,D]
   rw[hv]at CN;have HY:=U9 (Vb hy D);clear N σ ζ ω B4 Ξ hy D hv;go_wp2_with fail;refine ay [53] (cj R1.hm) 9 δ.o (by kernel_rfl) (by kernel_rfl) ?_
   iterate 8
    first
    |refine bT rfl ?_;apply aA
     ·intro _ ρ C f l W D;have I:=HF.o W D;simp[execOp,go_sem,C,f,l,I,eG]<;>exact rfl
    |refine al (λ_=>rfl) ?_
    |refine bM (by kernel_rfl) rfl ?_;apply aA
     ·intro u ρ C f l w;simp[execOp,go_sem,C,f,l,eG]<;>exact rfl
    simp only[UW,UX,UY,UZ]
   refine cU (λ_=>rfl) (Vm rfl) 250 (λ_=>#[Yr R1.L.b]) _ (λ_ w=>by simp[execOp,go_sem]<;>rfl) (λ_ X hX=>CK.o X hX) ?_;simp only[UW,UX,UY,UZ];refine bP (λ_=>rfl) rfl 251 (λ_=>#[Yr R1.h,.agg (aq R1.m.kn)]) (λ_:Unit=>.tuple #[.agg (ao y),.bool b]) () (λY r Y'=>qF Y Y' R1.h R1.hm R1.m.kn R1.H) (λ_ w=>by simp[execOp,go_sem]<;>rfl) (λ_ Y D=>?ca2) ?_
   case ca2=>
    refine(CN.o Y D).mono ?_;rintro r Y' ⟨rfl,h1⟩;obtain⟨L',h2,h3,h4⟩:=h1;exact⟨(),rfl,⟨L',h2,h3,h4⟩,ah.of_fr1 h3 rfl⟩
   simp only[UW,UX,UY,UZ]
   iterate 3
    first
    |refine bT rfl ?_;apply aA
     ·intro _ ρ C f l W D;have I:=HF.o W D;simp[execOp,go_sem,C,f,l,I,eG]<;>exact rfl
    |refine al (λ_=>rfl) ?_
    |refine bM (by kernel_rfl) rfl ?_;apply aA
     ·intro u ρ C f l w;simp[execOp,go_sem,C,f,l,eG]<;>exact rfl
    simp only[UW,UX,UY,UZ]
   refine eW (λ_=>rfl) 53 (ao Ev.zero) (λ_ _=>by simp[execOp,go_sem]<;>exact rfl) ?_;simp only[UW,UX,UY,UZ];refine cZ (λ_=>rfl) 13 53 53 14 _ _ rfl (by decide) rfl (by simp) δ.o _ _ _ (λ_=>rfl) (λ_=>rfl) (λ_=>by repeat (first|exact Vs ⟨rfl,rfl,rfl⟩|apply Vr)) (bY Ev.zero) (λ_=>rfl) (λ_=>kz _) ?_;simp only[UW,UX,UY,UZ]
   iterate 1
    first
    |refine bT rfl ?_;apply aA
     ·intro _ ρ C f l W D;have I:=HF.o W D;simp[execOp,go_sem,C,f,l,I,eG]<;>exact rfl
    |refine al (λ_=>rfl) ?_
    |refine bM (by kernel_rfl) rfl ?_;apply aA
     ·intro u ρ C f l w;simp[execOp,go_sem,C,f,l,eG]<;>exact rfl
    simp only[UW,UX,UY,UZ]
   refine aK (by kernel_rfl) ?_;rintro⟨⟨_,_⟩,p⟩ W1 hC hR;replace hC:ah (cj R1.hm) wr W1:=hC;dsimp only;simp only[U0,U1,U2,U3,Nat.reduceAdd,Nat.zero_add]at hR;obtain⟨w1,w2,Ψ,-,⟨L',g1,g2,g3⟩,g4⟩:=bJ (hR 9 _ _ (by repeat (first|exact Or.inl ⟨rfl,rfl,rfl⟩|apply Or.inr))) rfl;obtain⟨g,v,hx,n6,B6⟩:∃g v,[p,Value.agg (ao y)]=[Yr g,v]/\wr.heap.size<=g/\ai W1 g 53 (Value.toArr v):=hR 14 _ _ (by repeat (first|exact Or.inl ⟨rfl,rfl,rfl⟩|apply Or.inr));injection hx with h6 hx6;injection hx6 with hx6;subst h6 hx6;replace B6:ai W1 g 53 (ao y):=B6;have m4:=g4.mod λ_ h=>h.1 rfl
   have HO1:HO W1 R1.h R1.hm L':=⟨m4.blk g1.blk (λD=>by have:=HX.o.1.hold.blk.lt;omega),g1.map.same (m4.block _ g1.map.lt λD=>by have:=HX.o.1.hold.map.lt;omega)⟩;obtain⟨n1,n2,n3⟩:=g3.le HX.o.1.hok;rw[HY.o.1]at n2;rw[HY.o.2]at n3;have R6:=HX.o.1.hold_ HO1 hC n1;have hk64:=HX.o.1.hok.2;have hws:=HX.o.2.2.1.size;have Φ:=U9 (show Tl w r k R n (L'.length+b.toNat) (.slice none 0 0) (Yr g) (.bool b) W1 from
    ⟨{R1 with H:=L'},y,b,g,0,[],rfl,rfl,Row.nil,by simp,Vc _,B6,n2,by omega,R6,ah.hold (k:=k) (n:=n) HX.o.2.2.1 HX.o.2.2.2 hC,HX.o.2.2.2,λO=>by have:=HX.o.1.inh g O;omega,(λq I=>by cases I),rfl,by omega⟩)
   obtain⟨gn,hgn⟩:∃gn,L'.length+b.toNat=gn:=⟨_,rfl⟩;rw[hgn]at Φ;clear hC hR Ψ g1 g2 g3 g4 m4 HO1 n1 n2 n3 R6 hk64 hws n6 B6 HF CK CN HY hgn δ w1 w2;go_wp2_with fail
   go_loopg [4,7,8] gn (λgk v p b wr=>Tl w r k R n gk v p b wr)
   case atStart=>exact Φ.o
   case round=>
    clear HX Φ;obtain⟨R1,x,bb,g,a,χ,rfl,rfl,V,θ,hol,B,υ,hgw,ξ,hm,hf,hgF,hvF,ψ,ha⟩:=hrel;have T:=U9 (Vb V (Vb θ (Vb B (Vb υ (Vb ξ (Vb hm (Vb hf (Vb hgF (Vb hvF ψ)))))))));have ha64:a<=64:=by omega
    have hl64:χ.length<=64:=by omega
    cases bb with
    |false=>
     clear V θ B υ ξ hm hf hgF hvF ψ;go_wp2_with fail;go_ret;exact⟨_,χ,rfl,T.o.1,hl64,T.o.2.1,R1,T.o.2.2.2.2.1.more (by omega),T.o.2.2.2.2.2.1,T.o.2.2.2.2.2.2.1⟩
    |true=>
     have Θ:R1.H.length+1=gk:=ψ.symm;have HG:=U9 Θ;have ha1:a+1<=64:=by omega
     have π:=dz B;have CA:=U9 (yu ξ (by omega) (HH.o.2.1.mod hm HH.o.2.2.1.k HH.o.2.2.1.d) υ);clear V θ B υ ξ hm hf hgF hvF ψ Θ;go_upto_block 3 with fail
     go_cut [4] (λv wx=>Tm w r k R R1.H.length (n+a+1) g x (a+1) v wx)
     case first=>
      go_wp2_with fail;refine CA.o.mono ?_;rintro z W2 ⟨rfl,J,ε,⟨-,hH2⟩,ι,S⟩;obtain⟨e1,he1⟩:∃e,(cz R1.m x).1=e:=⟨_,rfl⟩;rw[he1];have τ:=T.o.2.2.1.lt;have hvl:=T.o.1.ge;have hws:=T.o.2.2.2.2.2.1.size;have hs2:=ι.size;have Ω:∀j,j<wr.heap.size->¬R1.F r j->¬J.F r j:=λj O h1 h2=>by
       rcases S j h2 with h|h
       ·exact h1 h
       ·omega
      have B2:=ι.blk T.o.2.2.1 T.o.2.2.2.2.2.2.2.1;have M:=ι.row T.o.1 λq I=>(T.o.2.2.2.2.2.2.2.2.1 q I).1
      have M2:ah (R.F r) w W2:=T.o.2.2.2.2.2.1.trans' ι λj O hj1=>by
       rcases T.o.2.2.2.2.2.2.1 j hj1 with h|h
       ·exact h
       ·omega
      have hfF:∀j,J.F r j->R.F r j\/w.heap.size<=j:=λj O=>by
       rcases S j O with h|h
       ·exact T.o.2.2.2.2.2.2.1 j h
       ·exact .inr (by omega)
      have hg2:¬J.F r g:=Ω g τ T.o.2.2.2.2.2.2.2.1;have α:∀q,u4.ownBlock=some q->¬J.F r q/\q≠g:=λq I=>⟨Ω q (hvl q I).2 (T.o.2.2.2.2.2.2.2.2.1 q I).1,(T.o.2.2.2.2.2.2.2.2.1 q I).2⟩
      have HJ:=U9 (Vb M (Vb B2 (Vb ε (Vb M2 (Vb hfF (Vb hg2 (Vb α hH2)))))));have HO2:=U9 T.o.2.1;have hlo:=U9 (show w.heap.size<=W2.heap.size by omega);clear ι S ε hH2 he1 τ hvl hws hs2 Ω B2 M M2 hfF hg2 α CA π;by_cases hz:e1=0
      ·subst hz
       have π:=dz HJ.o.2.1;have D2:Ys W2 (W2.alloc (.cells (ao x) 53)):=(Vd _ _).alloc (Vc _) _;have B3:ai (W2.alloc (.cells (ao x) 53)) W2.heap.size 53 (ao x):=ai.new _ _ _;obtain⟨v',w6,k1,k2,k3,k4,k5⟩:=dr.app 132 (Row.call HJ.o.1 D2) (A:=some ⟨W2.heap.size,0,none⟩) (cap:=1) (dU dO B3) (by simp;omega) (by have:=hlo.o;have:=D2.size;omega);simp only[VB,VR,Vk]at k1;have mg:ah (λq=>u4.ownBlock=some q) W2 w6:=(ah.of_below (F:=λq=>u4.ownBlock=some q) D2).trans (ah.of_grown k4 λq I=>I);have HK:=U9 (show Tm w r k R R1.H.length (n+a+1) g x (a+1) v' w6 from by
        refine⟨J,χ++[x],k2,λe he=>?_,by simp;omega,mg.blk HJ.o.2.1 λI=>(HJ.o.2.2.2.2.2.2.1 g I).2 rfl,HJ.o.2.2.1.mod mg λj O I=>(HJ.o.2.2.2.2.2.2.1 j I).1 O,HJ.o.2.2.2.1.trans' mg λj O I=>?_,λq I=>?_,HJ.o.2.2.2.2.1,by rw[HJ.o.2.2.2.2.2.2.2]⟩
        ·rcases Vw.1 he with h|h
         ·exact HO2.o e h
         ·rw[VH.1 h];exact T.o.2.2.2.1
        ·have:=(HJ.o.1.ge j I).1
         omega
        ·rcases k5 with k5|k5
         ·rw[k5]at I
          exact HJ.o.2.2.2.2.2.2.1 q I
         ·have h1:=k5 q I
          have h2:=D2.size;have h3:=HJ.o.2.1.lt;exact⟨λhF=>by have:=HJ.o.2.2.1.inh q hF;omega,by omega⟩)
       clear k2 k3 k4 k5 mg D2 B3;go_wp2_with fail;go_meet;exact HK.o
      ·have HK:=U9 (show Tm w r k R R1.H.length (n+a+1) g x (a+1) u4 W2 from⟨J,χ,HJ.o.1,HO2.o,by omega,HJ.o.2.1,HJ.o.2.2.1,HJ.o.2.2.2.1,HJ.o.2.2.2.2.2.2.1,HJ.o.2.2.2.2.1,by rw[HJ.o.2.2.2.2.2.2.2]⟩)
       have hz2:(e1==0)=false:=by simpa using hz
       go_wp2_with fail;go_meet;exact HK.o
     case rest=>
      obtain⟨J,out2,M,κ,μ,B2,ε,η,α,S,φ⟩:=hcut;have π:=dz B2;obtain⟨W7,hst7,B7,D7,z7⟩:=iZ x wc;have R7:=ε.call D7;have hin:∀j,J.F r j->j<wc.heap.size:=ε.inh;have γ:¬J.F r wc.heap.size:=λO=>by have:=hin _ O;omega
      have B8:aD W7 [(wc.heap.size,53,ao x),(r,142,eG J k)]:=aD.cons B7 (aD.cons R7.blk aD.nil);have β:gJ (cj J.hm) [(wc.heap.size,53,ao x),(r,142,eG J k)]:=⟨λe=>γ (.inr (.inr (.inr (.inl (.inr e))))),λe=>R7.ap.ad r rfl (.inr e),trivial⟩;have δ:=U9 (show∀j,cj J.hm j->j<W7.heap.size from λj O=>by have O:j=J.hm:=O;rw[O];exact R7.hold.map.lt);have HF:=U9 (λ(X:Yu) (D:ah (cj J.hm) W7 X)=>Vb (B8.mod D β).rules (B8.mod D β).lts);have CK:=U9 (λ(X:Yu) (D:ah (cj J.hm) W7 X)=>tg (R7.led.mod D λj O he=>R7.ap.bd j O (.inr he)));have CN:=U9 (λ(X:Yu) (D:Ys W7 X)=>ve (R7.hold.call D) J.m.kn (R7.ok.knle R7.sn (by omega)) R7.hok.1);obtain⟨y2,hy⟩:∃y,(eU J.m.kn J.H).getD Ev.zero=y:=⟨_,rfl⟩;obtain⟨b2,D⟩:∃b,(eU J.m.kn J.H).isSome=b:=⟨_,rfl⟩;have hv:pT (eU J.m.kn J.H)=.tuple #[.agg (ao y2),.bool b2]:=by unfold pT;rw[hy,D]
      rw[hv]at CN;have HY:=U9 (Vb hy D);have HK:=U9 (Vb (Row.call M D7) (Vb κ (Vb μ (Vb R7 (Vb (η.call D7) (Vb α (Vb S (Vb φ (Vb B8 (Vb β (Vb γ (M.ge))))))))))));have hwc:w.heap.size<=wc.heap.size:=η.size;clear M κ μ B2 ε η α S φ B7 D7 R7 hin γ B8 β hy D hv T;go_wp2_with fail;refine vg 10 [] (cj J.hm) 9 δ.o (by kernel_rfl) (by simp) (by decide+kernel) (by kernel_rfl) ?_;simp only[U4,U5,U6,U7]
      iterate 8
       first
       |refine bT rfl ?_;apply aA
        ·intro _ ρ C f l W D;have I:=HF.o W D;simp[execOp,go_sem,C,f,l,I,eG]<;>exact rfl
       |refine al (λ_=>rfl) ?_
       |refine bM (by kernel_rfl) rfl ?_;apply aA
        ·intro u ρ C f l w;simp[execOp,go_sem,C,f,l,eG]<;>exact rfl
       simp only[UW,UX,UY,UZ]
      refine cU (λ_=>rfl) (Vm rfl) 250 (λ_=>#[Yr J.L.b]) _ (λ_ w=>by simp[execOp,go_sem]<;>rfl) (λ_ X hX=>CK.o X hX) ?_;simp only[UW,UX,UY,UZ];refine bP (λ_=>rfl) rfl 251 (λ_=>#[Yr J.h,.agg (aq J.m.kn)]) (λ_:Unit=>.tuple #[.agg (ao y2),.bool b2]) () (λY r Y'=>qF Y Y' J.h J.hm J.m.kn J.H) (λ_ w=>by simp[execOp,go_sem]<;>rfl) (λ_ Y D=>?cb2) ?_
      case cb2=>
       refine(CN.o Y D).mono ?_;rintro r Y' ⟨rfl,h1⟩;obtain⟨L',h2,h3,h4⟩:=h1;exact⟨(),rfl,⟨L',h2,h3,h4⟩,ah.of_fr1 h3 rfl⟩
      simp only[UW,UX,UY,UZ];refine aK (by kernel_rfl) ?_;rintro⟨_,_⟩ W8 hC hR;replace hC:ah (cj J.hm) W7 W8:=hC;simp only[U0,U1,U2,U3,Nat.reduceAdd,Vk]at hR;obtain⟨w1,w2,Ψ,-,⟨L2,g1,g2,g3⟩,g4⟩:=bJ (hR 9 _ _ (by repeat (first|exact Vs ⟨rfl,rfl,rfl⟩|apply Vr))) rfl;have HO8:HO W8 J.h J.hm L2:=g1.call (g4.below λ_ h=>h.1 rfl);clear hR Ψ g1 g4;refine wpAny_take (i:=10) (v:=.tuple #[.agg (ao y2),.bool b2]) rfl (by kernel_rfl) (by kernel_rfl) (by kernel_rfl) (λ_ _ _ h=>h) (Vs ⟨by rfl,λw=>by simp only[execOp,List.getElem_toArray,List.getElem_cons_succ,List.getElem_cons_zero]<;>rfl⟩) ?_;simp only[UW,UX,UY,UZ,List.getElem_toArray,List.getElem_cons_succ,List.getElem_cons_zero];refine wpAny_take (i:=11) (v:=.agg (ao y2)) rfl (by kernel_rfl) (by kernel_rfl) (by kernel_rfl) (λ_ _ _ h=>h) (Vs ⟨by rfl,λw=>by simp only[execOp,List.getElem_toArray,List.getElem_cons_succ,List.getElem_cons_zero]<;>rfl⟩) ?_;simp only[UW,UX,UY,UZ,List.getElem_toArray,List.getElem_cons_succ,List.getElem_cons_zero];refine wpAny_take (i:=12) (v:=.bool b2) rfl (by kernel_rfl) (by kernel_rfl) (by kernel_rfl) (λ_ _ _ h=>h) (Vs ⟨by rfl,λw=>by simp only[execOp,List.getElem_toArray,List.getElem_cons_succ,List.getElem_cons_zero]<;>rfl⟩) ?_;simp only[UW,UX,UY,UZ,List.getElem_toArray,List.getElem_cons_succ,List.getElem_cons_zero];refine wq 13 (by decide+kernel) (by decide+kernel) ?_;obtain⟨M,κ,μ,R7,η,α,S,φ,B8,β,γ,hge⟩:=HK.o;have B9:=B8.mod hC β;have hst8:=fE B9.head rfl y2;obtain⟨n1,n2,n3⟩:=g3.le R7.hok;rw[HY.o.1]at n2;rw[HY.o.2]at n3;have R8:=R7.hold_ HO8 hC n1;have m9:ah (cj wc.heap.size) W8 (W8.setRow wc.heap.size (ao y2)):=ah.of_fr1 (aM W8 wc.heap.size (ao y2)) rfl;have R9:=R8.mod m9 λj O he=>by
       have he:j=wc.heap.size:=he;exact γ (he▸O)
      have Γ:=hC.row M λq I he=>(α q I).1 (.inr (.inr (.inr (.inl (.inr he)))))
      have Δ:=m9.row Γ λq I he=>by
       have he:q=wc.heap.size:=he;have:=(hge q I).2;omega
      have M9:=(ah.hold (k:=k) (n:=n) η S hC).trans' m9 λj O he=>by
       have he:j=wc.heap.size:=he;omega
      have hGk:=HG.o;have HS:=U9 (show Tl w r k R n (L2.length+b2.toNat) u4 (Yr wc.heap.size) (.bool b2) (W8.setRow wc.heap.size (ao y2))from
       ⟨{J with H:=L2},y2,b2,wc.heap.size,a+1,out2,rfl,rfl,Δ,κ,μ,ax B9.head (ao y2),n2,hwc,R9,M9,S,γ,(λq I=>⟨(α q I).1,by have:=(hge q I).2;omega⟩),rfl,by omega⟩)
      have hmeas:L2.length+b2.toNat<gk:=by omega
      clear M κ μ R7 η α S φ B8 β γ hge B9 n1 n2 n3 R8 m9 R9 Γ Δ M9 hGk HO8 g2 g3 hC HF CK CN HY HK δ w1 w2;go_wp2_with fail
      go_roundg (L2.length+b2.toNat)
      case measure=>omega
      case rel=>exact HS.o
end
section
open Go.RowKit Go
def TO:MT Int Yv:=⟨5,348,349,λx=>.int .u8 x,id,.nilFunc,λx=>0<=x/\x<=255⟩
theorem sS:TO.Ok:=⟨Go.Maps.int_keyed underlying5,underlying349,λa d=>⟨_,Go.Maps.keyOf_int_mk underlying5 (by simp[Lit.wf,IntKind.min,IntKind.max,IntKind.signed,IntKind.bits];exact d)⟩,λa b h=>by injection h,λw=>by kernel_rfl⟩
def nW(b:Bool)(r:Nat):Yv:=.func (.func (if b then 227 else 228)) #[Yr r] #[]
theorem Pa(r:Nat)(w:Yu):∃e d,(Instr.mapUpdate 349 (.map (some w.heap.size)) (.int .u8 1) (nW true r)).run prog (w.alloc (.map #[] 0))=.ok () e/\
  (Instr.mapUpdate 349 (.map (some w.heap.size)) (.int .u8 2) (nW false r)).run prog e=.ok () d/\
  (∀b:Bool,(Instr.lookup 349 (.map (some w.heap.size)) (.int .u8 (if b then 1 else 2)) false).run prog d=.ok (nW b r) d)/\Ys w d:=by
 have p:=aZ.made TO w;have C:Ys w (w.alloc (.map #[] 0)):=(Vd _ _).alloc (Vc _) _;obtain⟨e,j,m,l⟩:=aZ.put sS p (a:=1) (show(0:Int)<=1/\(1:Int)<=255 by decide) (nW true r);obtain⟨d,q,f,i⟩:=aZ.put sS m (a:=2) (show(0:Int)<=2/\(2:Int)<=255 by decide) (nW false r);refine⟨e,d,j,q,λb=>?_,(i.below (l.below C (Vc _) (λ_ h=>by cases h)) (Vc _) (λ_ h=>by cases h))⟩;cases b with
 |true=>exact aZ.look sS f (a:=1) (show(0:Int)<=1/\(1:Int)<=255 by decide)
 |false=>exact aZ.look sS f (a:=2) (show(0:Int)<=2/\(2:Int)<=255 by decide)
section
variable(ρ:Yx->Yv)(dst:Option Tmp)(x:Yx)(ty:Yw)(pos:String)(after:Array Edge)(guard:Option (Nat×Bool))
theorem jp:execOp ρ {dst,op:=.load 297 x,type:=ty,pos,after,guard}=dR 297 (ρ x):=by simp[execOp,dR]
end
attribute [local go_sem ↓ high] jp cI
theorem yr(x:Mc):(prog.info? 297).map (·.size)=some (aR x).size:=by rw[pK];kernel_rfl
theorem uV{x:Mc}(h:ai w g t (aR x)):(dR 297 (Yr g)).run prog w=.ok (.value (.agg (aR x))) w:=dG h underlying297 rfl (yr x)
theorem O3{x:Mc}(h:ai w g t (aR x)):(dR 34 (.pointer (some ⟨g,3,none⟩))).run prog w=.ok (.value (.agg (aq x.d))) w:=
 aY (h.rngAt (o:=3) (n:=0) (aq x.d) λj v b=>by
  match j,b with
  |0,b=>exact b
  |1,b=>exact b
  |2,b=>exact b
  |3,b=>exact b
  |4,b=>exact b
  |5,b=>exact b
  |j+6,b=>simp[aq]at b) underlying34 rfl (kh _)
theorem nD.more{n':Nat}{R:gI}(h:nD w r k R n w')(d:n<=n'):nD w r k R n' w':=by
 obtain⟨R',b,f,e⟩:=h;exact⟨R',b.more d,f,e⟩
def ye(w:Yu)(r k:Nat)(R:gI)(n:Nat)(x:Ending)(w':Yu):Prop:=∃u L e,x=.returned (.tuple #[u,.int .i64 e])/\dr w' w.heap.size u L/\L.length<=64/\(∀e∈L,e.ok)/\nD w r k R (n+64) w'
theorem ye.none{R:gI}(e:Int)(h:bV w r k R n)(b:Ys w w'):ye w r k R n (.returned (.tuple #[.slice none 0 0,.int .i64 e])) w':=⟨_,[],e,rfl,Row.nil,by simp,by simp,nD.call (nD.start (h.more (by omega))) b⟩
theorem Ke{R:gI}(h:bV w r k R n)(hn:n+64<=900000)(hT:dh w)(κ:tz (R.F r)){M:Ms}(oM:M.ok)(hR:dr w 0 (.slice A M.l.length c) M.l)(ν:∀g,(Value.slice A M.l.length c).ownBlock=some g->¬R.F r g):
  Yt 206 #[Yr r,.agg (aR ⟨M.k,M.f,M.t,M.d,.slice A M.l.length c,M.n,M.a⟩),.int .u64 now] w (ye w r k R n):=by
 obtain⟨x,hx⟩:∃x:Mc,x=⟨M.k,M.f,M.t,M.d,.slice A M.l.length c,M.n,M.a⟩:=⟨_,rfl⟩;have D0:Ys w (w.alloc (.cells (aR x) 297)):=(Vd _ _).alloc (Vc _) _;have B0:aD (w.alloc (.cells (aR x) 297)) [(w.heap.size,297,aR x),(r,142,eG R k)]:=(aD.cons h.blk aD.nil).push rfl;obtain⟨A2,c2,e2,Δ,Γ⟩:=hR.sl;obtain⟨rfl,rfl⟩:A=A2/\c=c2:=by injection e2 with a _ b;exact⟨a,b⟩
 have ι:=uV B0.head;obtain⟨b,D⟩:∃b,ee M=b:=⟨_,rfl⟩;have CM:Yt 201 #[.agg (aR x)] (w.alloc (.cells (aR x) 297)) λr w'=>r=.returned (.bool b)/\Below (w.alloc (.cells (aR x) 297)).heap.size (w.alloc (.cells (aR x) 297)) w':=by
  have:=uE M oM b D A c (w.alloc (.cells (aR x) 297)) (Row.rd (Row.call hR D0) rfl) Δ Γ;rw[<-hx]at this;exact this
 have HM:=U9 CM;have i:=U9 (Vb h (Vb hT (Vb κ (Vb hR (Vb ν (Vb oM (Vb B0 D0)))))));have HX:=U9 (Vb hx D);rw[<-hx];clear h hT κ hR ν oM B0 D0 CM hx D e2;go_enter func206,ntmps206;go_wp2_with fail;refine HM.o.mono ?_;rintro y W1 ⟨rfl,ε⟩;have S:=U9 (Vb (i.o.2.2.2.2.2.2.1.call ε) (i.o.2.2.2.2.2.2.2.trans (ε.mono i.o.2.2.2.2.2.2.2.size)));clear ε HM ι;cases b with
 |false=>
  go_wp2_with fail;go_ret2;exact ye.none 1 i.o.1 S.o.2
 |true=>
  have HY:=U9 (Gx HX.o.2);obtain⟨j,hj,σ⟩:∃j:Nat,j<6/\x.f=(j:Int)+1:=⟨(M.f-1).toNat,by have:=HY.o.f;omega,by have:=HY.o.f;rw[HX.o.1];show M.f=_;omega⟩;have B1:=S.o.1;have J:=U9 (λ(X:Yu) (D:ah cM W1 X)=>Vb (B1.call D.no).rules (B1.call D.no).lts);clear B1;by_cases ht:x.t=(k:Int)+1
  ·go_wp2_with fail
   refine ay [] cM 8 (λ_ h=>h.elim) (by kernel_rfl) (by kernel_rfl) ?_
   iterate 8
    first
    |refine bT rfl ?_;apply aA
     ·intro _ ρ C p q W D;have hq:=J.o W D;simp[execOp,go_sem,C,p,q,hq,eG,ht]<;>exact rfl
    |refine al (λ_=>rfl) ?_
    |refine bM (by kernel_rfl) rfl ?_;apply aA
     ·intro u ρ C p q w;simp[execOp,go_sem,C,p,q,eG,ht]<;>exact rfl
    simp only[UW,UX,UY,UZ]
   refine aK (by kernel_rfl) ?_;rintro _ W2 m-;replace m:Ys W1 W2:=m;have D2:=S.o.2.trans (m.mono S.o.2.size);have B2:=S.o.1.call m;have ψ:=U9 (λ(X:Yu) (D:Ys W2 X)=>Vb (B2.call D).rules (Vb (B2.call D).lts (O3 (B2.call D).head)));have H2:=U9 (Vb B2 D2);have HT:=U9 ht;clear m D2 B2 J ht;go_wp2_with fail;refine aP 8 (by kernel_rfl) (by simp) (by decide+kernel) (by decide+kernel) (by decide+kernel) (by decide+kernel) ?_;simp only[U4,U5,U6,U7]
   iterate 8
    first
    |refine dx rfl ?_;apply aA
     ·intro _ ρ C p q W D;have hq:=ψ.o W D;simp[execOp,go_sem,C,p,q,hq,eG,σ,↓cI]<;>exact rfl
    |refine aw (λ_=>rfl) ?_
    simp only[UW,UX,UY,UZ]
   refine aH ?_;intro _ W3 V _;have D3:=H2.o.2.trans (V.mono H2.o.2.size);have R3:=i.o.1.call D3;have CT:=U9 (Pg R3.peer R3.pok hj (v:=x.d) (by rw[HX.o.1];exact i.o.2.2.2.2.2.1.d));have H3:=U9 (Vb (H2.o.1.call V) (Vb D3 R3));clear V D3 R3 ψ;go_wp2_with fail;refine CT.o.mono ?_;rintro y W4 ⟨⟨nn,rfl⟩,⟨f',υ,π⟩,O⟩;have χ:=i.o.1.inh;have γ:x.s=.slice A M.l.length c:=by rw[HX.o.1]
   have τ:=i.o.2.2.2.1.ge;have δ:=i.o.2.1.lt;have η:¬cj R.bp w.heap.size:=λe=>by
    have e:w.heap.size=R.bp:=e;have:=χ R.bp (.inr (.inr (.inr (.inr (.inl rfl)))));omega
   have B4:=H3.o.1.head.call (Vd _ _)|>λh=>O.blk h η
   obtain⟨R4,φ,-,ζ,μ⟩:=H3.o.2.2.setPeer υ π O;obtain⟨w5,w6,e5,e6,θ,D6⟩:=Pa r W4;have B6:=B4.call D6;have ι:=uV B6;obtain⟨q6,f6⟩:=B6.rules;have l6:=B6.lt;have R6:=φ.call D6;have M6:ah (R.F r) w w6:=((ah.of_below H3.o.2.1).trans ζ).call D6;have z3:=H3.o.2.1.size;have z6:=M6.size;have α:∀j,R4.F r j->R.F r j\/w.heap.size<=j:=λj hj=>by
    rcases μ j hj with h|h
    ·exact .inl h
    ·exact .inr (by omega)
   have H:∀j,j<w.heap.size->¬R.F r j->¬R4.F r j:=λj h1 h2 h3=>by
    rcases α j h3 with h|h
    ·exact h2 h
    ·omega
   have N:dr w6 0 x.s M.l:=by rw[γ];exact M6.row i.o.2.2.2.1 i.o.2.2.2.2.1
   have I:∀g,x.s.ownBlock=some g->¬R4.F r g:=λg hg=>by
    rw[γ]at hg;exact H g (τ g hg).2 (i.o.2.2.2.2.1 g hg)
   have T6:=i.o.2.1.mod M6 i.o.2.2.1.k i.o.2.2.1.d;have ξ:tz (R4.F r):=⟨H _ δ.1 i.o.2.2.1.k,H _ δ.2 i.o.2.2.1.d⟩;have CS:=U9 (Kd R6 hn T6 ξ N i.o.2.2.2.2.2.1.l I);have CA:=U9 (Ol R6 (by omega) T6 (x:=x) (by rw[HX.o.1];exact⟨i.o.2.2.2.2.2.1.f,i.o.2.2.2.2.2.1.d,i.o.2.2.2.2.2.1.n,i.o.2.2.2.2.2.1.a⟩));have HE:=U9 (show∀cc y Y,cc<=64->Nl w6 r k R4 n cc y Y->∃u,y=.returned u/\ye w r k R n (.returned (.tuple #[u,.int .i64 0])) Y from λcc y Y hc T=>by
    obtain⟨u,L,rfl,k1,k2,k3,k4⟩:=T;exact⟨u,rfl,u,L,0,rfl,Row.mono k1 z6,by omega,k3,nD.trans (R1:=R4) M6 α (k4.more (by omega))⟩)
   simp only[nW,We,Xq,V5]at e5 e6;have HK:=U9 (Vb θ (show x.k=M.k by rw[HX.o.1]));clear υ π O χ γ τ δ η B4 φ ζ μ B6 R6 M6 z3 z6 α H N I T6 ξ CT σ θ D6 hj;rcases HY.o.k with hk|hk
   ·have ω:x.k=1:=HK.o.2.trans hk.1
    have hl:=HK.o.1 true;simp only[nW,We]at hl;clear hk HK;have β:= @XE prog;go_wp2_with fail;refine CS.o.mono ?_;intro y Y T;obtain⟨u,rfl,he⟩:=HE.o 64 y Y (by omega) T;have J:=U9 he;clear T he CS CA β;go_wp2_with fail;go_ret2;exact J.o
   ·have ω:x.k=2:=HK.o.2.trans hk.1
    have hl:=HK.o.1 false;simp only[nW,Xq,V5]at hl;clear hk HK;have β:= @XE prog;go_wp2_with fail;refine CA.o.mono ?_;intro y Y T;obtain⟨u,rfl,he⟩:=HE.o 1 y Y (by omega) T;have J:=U9 he;clear T he CS CA β;go_wp2_with fail;go_ret2;exact J.o
  ·go_wp2_with fail
   refine ay [] cM 8 (λ_ h=>h.elim) (by kernel_rfl) (by kernel_rfl) ?_
   iterate 8
    first
    |refine bT rfl ?_;apply aA
     ·intro _ ρ C p q W D;have hq:=J.o W D;simp[execOp,go_sem,C,p,q,hq,eG,ht]<;>exact rfl
    |refine al (λ_=>rfl) ?_
    |refine bM (by kernel_rfl) rfl ?_;apply aA
     ·intro u ρ C p q w;simp[execOp,go_sem,C,p,q,eG,ht]<;>exact rfl
    simp only[UW,UX,UY,UZ]
   refine aK (by kernel_rfl) ?_;rintro _ W2 m-;replace m:Ys W1 W2:=m;have D2:=U9 (S.o.2.trans (m.mono S.o.2.size));clear m J;go_wp2_with fail;go_ret2;exact ye.none 1 i.o.1 D2.o
end
section
open Go.RowKit Go
def Qm(w:Yu)(m:az)(x:Ending)(w':Yu):Prop:=∃vN vG,x=.returned (.agg (cy m.inn m.kn vN vG))/\eM w' w.heap.size vN (aW m)/\iH w' w.heap.size vG (bh m)/\Ys w w'
theorem kg{B:Option Addr}{a b d:Nat}:(cy inn kn (.slice A a b) (.slice B c d)).all (·.oneCell')=true:=by simp[cy,Value.oneCell']
theorem F9{R:gI}(h:bV w r k R n)(hn:n<=900000):Yt 26 #[Yr r] w (Qm w R.m):=by
 obtain⟨H,d,Y,O⟩:=AV w 38 (cy (λ_=>false) av.zero (.slice none 0 0) (.slice none 0 0));have z0:H.heap.size=w.heap.size+1:=by rw[d];simp
 have f:=h.call O;have CS:=U9 (xD f.led f.ok (by have:=f.sn;omega));have C:=U9 (Vb Y (Vb O z0));obtain⟨T,f0⟩:=f.blk.rules;have l0:=f.blk.lt;have HW:=U9 d;have c1:H.cell? ⟨r,1,none⟩=some (Yr R.L.b):=T 1;clear Y O f h z0 d T;go_enter func26,ntmps26;go_upto_region 1 with fail;generalize V:w.alloc _=X0;obtain rfl:H=X0:=HW.o.trans V;clear HW V;go_wp2_with fail;refine CS.o.mono ?_;rintro x M ⟨vN,vG,rfl,D,p,e⟩;obtain⟨A1,c1,e1,-,-⟩:=D.sl;obtain⟨A2,c2,X,-,-⟩:=p.sl;have N:=C.o.1.call e;have α:=bX (P:=prog) (ty:=38) N (dn R.m.inn R.m.kn vN vG) rfl (by rw[e1,X];exact kg);have I:ah (cj w.heap.size) M (M.setRow w.heap.size (cy R.m.inn R.m.kn vN vG)):=ah.of_fr1 (aM M w.heap.size _) rfl;have j:=D.ge;have i:=p.ge;have z0:=C.o.2.2;have S:=I.row D λq J l=>by
  have l:q=w.heap.size:=l;have:=(j q J).1;omega
 have G2:=I.row p λq J l=>by
  have l:q=w.heap.size:=l;have:=(i q J).1;omega
 have HX:=U9 (Vb (ax N (cy R.m.inn R.m.kn vN vG)) (Vb (Row.mono S (by omega):eM _ w.heap.size vN (aW R.m)) (Vb (Row.mono G2 (by omega):iH _ w.heap.size vG (bh R.m)) (Below.rowN (C.o.2.1.trans (e.mono C.o.2.1.size)) (g:=w.heap.size) (Vc _) (cy R.m.inn R.m.kn vN vG)))));clear D p e e1 X N I j i z0 S G2 CS;go_wp2_with fail;exact aE (s:=2) results26 rfl HX.o.1 underlying38 rfl (dn _ _ _ _) rfl ⟨vN,vG,rfl,HX.o.2⟩
section
variable{P:Program}{ops:Array Oper}{Z:List Yw}{F:Nat->Prop}{W:Yu}{c:Nat}{E:List Eg}{Q:List Eg->Act->iI->Prop}{o:Oper}{rest:List Oper}{U:Type}{a:U->Act}{K:U->iI}
theorem yQ(J:∀u,Region.wanted o (yielded ops (a u).tmps)=true)(C:E.length≠c)(k:Nat)(L:mi o k=true)(D:k<E.length){V:Type}(i:V->Yv)(d:V)(f:Yu->Yv->Yu->Prop)(z:U->Yv)(xs:U->List Yv)(O:∀u,K u k (xs u) (z u))
  (l:∀u w,ah F W w->gR Z F W c E k (xs u) (z u) w->∃p w',(execOp (a u).eval o).run P w=.ok (.value (i p)) w'/\f w (i p) w'/\Ys w w')
  (h:gY P ops Z F W c (E++[.cal (λu=>∃p,u=i p) ⟨i d,d,rfl⟩ f]) Q rest (U×V) (λp=>(a p.1).put o.dst (i p.2)) (λp=>(K p.1).ins E.length (jA (a p.1) o) (i p.2))):gY P ops Z F W c E Q (o::rest) U a K:=by
 obtain⟨T,H,h⟩:=h.more;refine⟨_,H,λu=>gB (J u) (λb w _ _ _ j M=>?_) λx S=>?_⟩;rotate_left
 ·obtain⟨p,rfl⟩:∃p,x=i p:=by simpa only[gT,dd]using S
  exact h (u,p)
 have m:=M k _ _ (O u) (eD L);rw[te D]at m;obtain⟨r,w',N,I,q⟩:=l u w (dN j) m;rw[N];refine⟨(by simp only[gT,dd];exact⟨r,rfl⟩),?_,by simp only[gS,dd,Vf C];exact q,?_⟩
 ·rw[show(b||E.length==c)=b from by simp[C]]
  cases b with
  |true=>exact(dN j).call q
  |false=>exact XC j (q.mono (Xj j))
 ·simp only[gR,dd]
  exact⟨w,w',λe=>absurd e C,dN j,I,cR.refl _ _ _ _⟩
end
structure Mt where
 m:Ms
 A:Option Addr
 c:Nat
def Mt.mc(x:Mt):Mc:=Ms.mc x.m x.A x.c
def kT(x:Mt):Array Yv:=aR x.mc
theorem mp(x:Mt):(kT x).size=12:=rfl
theorem Cz(x:Mt):∀u∈(kT x).toList,u.oneCell'=true:=by
 intro u b;simp only[kT,lA,Vy,WX,WR]at b;rcases b with rfl|rfl|rfl|rfl|rfl|rfl|rfl|rfl|rfl|rfl|rfl|rfl<;>rfl
abbrev ik(w:Yu)(base:Nat)(v:Yv)(L:List Mt):Prop:=Row w base 297 12 kT v L
structure qH(w:Yu)(base:Nat)(x:Mt):Prop where
 ok:x.m.ok/\x.m.l.length<=100000
 row:dr w base (.slice x.A x.m.l.length x.c) x.m.l
theorem ik.app{cap:Nat}(ty:Yw){L M:List Mt}(h:ik w base v L)(l:Rd w B 12 A M.length (cC kT M))(q:L.length+M.length<=1000000)(d:base<=w.heap.size):
  ∃e w',(iy 117 ty v (.slice A M.length cap)).run prog w=.ok (.value e) w'/\ik w' base e (L++M)/\Kt base [297] w w'/\w.grownBy w' v.ownBlock/\(e.ownBlock=v.ownBlock\/∀b,e.ownBlock=some b->w.heap.size<=b):=by
 obtain⟨f,p,i,j,m⟩:=V7 sZ;exact Row.app w 117 ty f _ _ underlying117 p i j m rfl (by decide) mp Cz h (cap:=cap) l q (by decide) d
def MM(x y z u v:Yv):Sem Next:=do pure (.value (<-Instr.build 297 #[(0,x),(1,y),(2,z),(3,u),(4,v)]))
def MK(x y z u v s:Yv):Sem Next:=do pure (.value (<-Instr.build 297 #[(0,x),(1,y),(2,z),(3,u),(5,v),(6,s)]))
section
variable(ρ:Yx->Yv)(dst:Option Tmp)(x y z u v s:Yx)(ty:Yw)(pos:String)(after:Array Edge)(guard:Option (Nat×Bool))
theorem nZ:execOp ρ {dst,op:=.call {callee:=.builtin .append,args:=#[x,y],argTypes:=#[117,117]},type:=ty,pos,after,guard}=iy 117 ty (ρ x) (ρ y):=by simp[execOp,iy,resolve,invoke,builtin]
theorem mG:execOp ρ {dst,op:=.buildSlice 117 1 #[(0,x)],type:=ty,pos,after,guard}=iJ 117 (ρ x):=by simp[execOp,iJ]
theorem vz:execOp ρ {dst,op:=.build 297 #[(0,x),(1,y),(2,z),(3,u),(4,v)],type:=ty,pos,after,guard}=MM (ρ x) (ρ y) (ρ z) (ρ u) (ρ v):=by simp[execOp,MM]
theorem nY:execOp ρ {dst,op:=.build 297 #[(0,x),(1,y),(2,z),(3,u),(5,v),(6,s)],type:=ty,pos,after,guard}=MK (ρ x) (ρ y) (ρ z) (ρ u) (ρ v) (ρ s):=by simp[execOp,MK]
end
theorem Cb(k f t:Int)(d:av)(A:Option Addr)(n c:Nat)(w:Yu):(MM (.int .u8 k) (.int .i64 f) (.int .i64 t) (.agg (aq d)) (.slice A n c)).run prog w=.ok (.value (.agg (aR ⟨k,f,t,d,.slice A n c,0,0⟩))) w:=by kernel_rfl
theorem uf(k f t n a:Int)(d:av)(w:Yu):(MK (.int .u8 k) (.int .i64 f) (.int .i64 t) (.agg (aq d)) (.int .u64 n) (.int .i64 a)).run prog w=.ok (.value (.agg (aR ⟨k,f,t,d,.slice none 0 0,n,a⟩))) w:=by kernel_rfl
def Fc(w:Yu)(r k:Nat)(R:gI)(n:Nat)(x:Ending)(w':Yu):Prop:=∃u L,x=.returned u/\ik w' w.heap.size u L/\(∀y∈L,qH w' w.heap.size y)/\L.length<=38/\nD w r k R n w'
end
section
open Go.RowKit Go
theorem bV.dem_{R:gI}(h:bV w r k R n){f:List (Int×Option Nat)}(i:fo w' R.FD R.dm R.mb f)(m:ah R.FD w w'):bV w' r k {R with D:=f} n:=by
 have d:=h.ap;exact⟨m.blk h.blk λb=>d.af r rfl b,h.led.mod m λj b e=>d.bf j b e,h.ok,h.log.mod m λj b e=>d.cf j b e,Vi h.bs m.size,⟨m.blk h.hold.blk λb=>d.df _ (.inl rfl) b,h.hold.map.same (m.block _ h.hold.map.lt λb=>d.df _ (.inr rfl) b)⟩,h.hok,m.blk h.peer λb=>d.ef _ rfl b,h.pok,i,d,h.cn,h.sn,h.k6⟩
def QG:Array Yv:=#[.bool false,.bool false,.bool false,.bool false,.bool false,.bool false,.bool false,.bool false,.bool false,.bool false,.bool false,.bool false,.int .u64 0,.int .u64 0,.int .u64 0,.int .u64 0,.int .u64 0,.int .u64 0,.slice none 0 0,.slice none 0 0]
theorem DO{B:Option Addr}{a b d:Nat}(W:Yu):∃e,(eR 38 (Yr W.heap.size) (.agg (cy inn kn (.slice A a b) (.slice B c d)))).run prog (W.alloc (.cells QG 38))=.ok .skip e/\ai e W.heap.size 38 (cy inn kn (.slice A a b) (.slice B c d))/\Ys W e/\e.heap.size=W.heap.size+1:=by
 have f:ai (W.alloc (.cells QG 38)) W.heap.size 38 QG:=ai.new _ _ _;exact⟨_,bX f (dn _ _ _ _) rfl kg,ax f _,(aM _ _ _).below ((Vd _ _).alloc (Vc _) _) (Vc _) (λ_ h=>by cases h),by simp[World.setRow]⟩
section
variable(ρ:Yx->Yv)(dst:Option Tmp)(x y:Yx)(ty:Yw)(pos:String)(after:Array Edge)(guard:Option (Nat×Bool))
theorem tk:execOp ρ {dst,op:=.load 305 x,type:=ty,pos,after,guard}=dR 305 (ρ x):=by simp[execOp,dR]
theorem th:execOp ρ {dst,op:=.store 305 x y,type:=ty,pos,after,guard}=eR 305 (ρ x) (ρ y):=by simp[execOp,eR]
end
attribute [local go_sem ↓ high] tk th
theorem sB(x:Bh):(prog.info? 305).map (·.size)=some (kf x).size:=by rw[iM];kernel_rfl
theorem vq(x:Bh)(W:Yu):∃b,(eR 305 (Yr W.heap.size) (.agg (kf x))).run prog (W.alloc (.cells #[.int .u64 0,.int .i64 0] 305))=.ok .skip b/\ai b W.heap.size 305 (kf x)/\Ys W b/\b.heap.size=W.heap.size+1:=by
 have d:ai (W.alloc (.cells #[.int .u64 0,.int .i64 0] 305)) W.heap.size 305 #[.int .u64 0,.int .i64 0]:=ai.new _ _ _;exact⟨_,bX d (sB x) rfl (by simp[kf,Value.oneCell']),ax d _,(aM _ _ _).below ((Vd _ _).alloc (Vc _) _) (Vc _) (λ_ h=>by cases h),by simp[World.setRow]⟩
theorem Fc.none{R:gI}(h:bV w r k R n)(b:Ys w w'):Fc w r k R n (.returned (.slice none 0 0)) w':=⟨_,[],rfl,Row.nil,by simp,by simp,nD.call (nD.start h) b⟩
def Ta(d:Yu)(r k n:Nat)(R:gI)(wr:Yu):Prop:=∃b,bV wr r k {R with D:=b} n/\ah (R.F r) d wr
theorem yP{x y:Yv}(h:ai w g t (cy inn kn x y)):(dR 34 (.pointer (some ⟨g,12,none⟩))).run prog w=.ok (.value (.agg (aq kn))) w:=
 aY (h.rngAt (o:=12) (n:=0) (aq kn) λj v b=>by
  match j,b with
  |0,b=>exact b
  |1,b=>exact b
  |2,b=>exact b
  |3,b=>exact b
  |4,b=>exact b
  |5,b=>exact b
  |j+6,b=>simp[aq]at b) underlying34 rfl (kh _)
theorem rB(x:Mc)(w:Yu):(iJ 117 (.agg (aR x))).run prog w=.ok (.value (.slice (some ⟨w.heap.size,0,none⟩) 1 1)) (w.alloc (.cells (aR x) 297)):=by kernel_rfl
structure Q7(wr w:Yu)(r k n:Nat)(R R1:gI)(g:Nat)(vN vG vL:Yv)(lv:List Int):Prop where
 re:bV wr r k R1 n
 md:ah (R.F r) w wr
 st:ai wr g 38 (cy R.m.inn R.m.kn vN vG)
 nd:eM wr w.heap.size vN (aW R.m)
 lv:tC wr w.heap.size vL lv
theorem Q7.call{wr:Yu}{R R1:gI}{vN vG e:Yv}{d:List Int}(h:Q7 wr w r k n R R1 g vN vG e d)(b:Ys wr w'):Q7 w' w r k n R R1 g vN vG e d:=⟨h.re.call b,h.md.call b,h.st.call b,Row.call h.nd b,Row.call h.lv b⟩
def Us(b:Yu)(v:Yv)(c:Nat)(wr:Yu):Prop:=∃L,ik wr b.heap.size v L/\(∀y∈L,qH wr b.heap.size y)/\L.length<=c/\Ys b wr
def Uw(B:Nat)(y:Mt)(_:Yu)(v:Yv)(X:Yu):Prop:=∃g,v=.slice (some ⟨g,0,none⟩) 1 1/\B<=g/\ai X g 297 (kT y)
def UU(B:Nat)(L:List Mt)(y:Mt)(d:Yv)(X:Yu)(v:Yv)(X':Yu):Prop:=ik X' B v (L++[y])/\Kt B [297] X X'/\(v.ownBlock=d.ownBlock\/∀b,v.ownBlock=some b->X.heap.size<=b)/\ah (λz=>d.ownBlock=some z) X X'
structure NE(WL WD:Yu)(v0 v:Yv)(c:Nat)(wr:Yu):Prop where
 ex:∃L,ik wr WL.heap.size v L/\(∀y∈L,qH wr WL.heap.size y)/\L.length<=c
 md:ah (λq=>v0.ownBlock=some q) WD wr
 ow:v.ownBlock=v0.ownBlock\/∀b,v.ownBlock=some b->WD.heap.size<=b
theorem NE.call{f i wr:Yu}{j:Yv}(h:NE f i j v c wr)(b:Ys wr w'):NE f i j v c w':=by
 obtain⟨L,l,d,m⟩:=h.ex;exact⟨⟨L,Row.call l b,λy e=>⟨(d y e).ok,Row.call (d y e).row b⟩,m⟩,h.md.call b,h.ow⟩
def UB(B:Nat)(_:Yu)(v:Yv)(X:Yu):Prop:=∃A c L,v=.slice A L.length c/\dr X B v L/\(∀e∈L,e.ok)/\L.length<=100000
def UD(B:Nat)(_:Yu)(v:Yv)(X:Yu):Prop:=∃y:Mt,v=.agg (kT y)/\qH X B y
def Ux(B:Nat)(_:Yu)(v:Yv)(X:Yu):Prop:=∃g y,v=.slice (some ⟨g,0,none⟩) 1 1/\B<=g/\ai X g 297 (kT y)/\qH X B y
def UV(B b:Nat)(L:List Mt)(X:Yu)(v:Yv)(X':Yu):Prop:=∃y,ik X' B v (L++[y])/\Kt B [297] X X'/\qH X b y
theorem cR.row{α:Type}{c:α->Array Yv}{sz:Nat}{e:Yw}{F:Nat->Prop}{b:Yu}{L:List α}(h:cR [] F B b w)(i:Row b base e sz c v L)(hF:∀q,v.ownBlock=some q->¬F q):Row w base e sz c v L:=
 (⟨h.os,h.tape,h.output,h.size,λk f d=>by
  rcases h.block k f with h1|⟨-,⟨cs,t,j,-⟩,-⟩|h1
  ·exact h1
  ·cases j
  ·exact absurd h1 d⟩:ah F b w).row i hF
theorem Kc{R:gI}(h:bV w r k R n)(hn:n<=100000)(hnow:aT now):Yt 200 #[Yr r,.int .u64 now] w (Fc w r k R n):=by
 have CS:=U9 (xD h.led h.ok (by have:=h.sn;omega));have HH:=U9 (Vb h hnow);have HI:=U9 h.inh;obtain⟨q0,f0⟩:=h.blk.rules;have l0:=h.blk.lt;have c1:w.cell? ⟨r,1,none⟩=some (Yr R.L.b):=q0 1;clear h q0;go_enter func200,ntmps200;go_wp2_with fail;refine CS.o.mono ?_;rintro x W1 ⟨vN,vG,rfl,hN,hG,T⟩;obtain⟨AN,cN,rfl,-,-⟩:=hN.sl;obtain⟨AG,cG,rfl,-,-⟩:=hG.sl;obtain⟨W2,hst,B2,D2,z2⟩:=DO (inn:=R.m.inn) (kn:=R.m.kn) (A:=AN) (a:=(aW R.m).length) (b:=cN) (B:=AG) (c:=(bh R.m).length) (d:=cG) W1;unfold QG at hst;have hld:=dG (P:=prog) B2 underlying38 rfl (dn _ _ _ _);have D3:=T.trans (D2.mono T.size);have H2:=U9 (Vb B2 (Vb D3 (Vb (Row.call hN D2) (HH.o.1.call D3))));have CL:=U9 (Ix (w:=W2) (inn:=R.m.inn) (kn:=R.m.kn) (vN:=.slice AN (aW R.m).length cN) (vG:=.slice AG (bh R.m).length cG));have hgl:=U9 (show W1.heap.size<W2.heap.size by omega);have hw1s:=U9 T.size;clear hN hG T B2 D2 D3 CS c1 f0 l0;go_wp2_with fail;refine CL.o.mono ?_;rintro x W3 ⟨u,lv,rfl,S,hl6,hlx,O⟩;obtain⟨b,hbb⟩:∃b,decide ((k:Int)+1∈lv)=b:=⟨_,rfl⟩;have CC:=U9 (mT S (by omega) ((k:Int)+1) b hbb);obtain⟨Av,cv,rfl,hv1,hv2⟩:=S.sl;have hvm:cv<=9223372036854775807:=hv2;have H3:=U9 (Vb (H2.o.1.call O) (Vb (H2.o.2.1.trans (O.mono H2.o.2.1.size)) (Vb (Row.call H2.o.2.2.1 O) (Vb (H2.o.2.2.2.call O) (Vb S hlx)))));obtain⟨q0,f0⟩:=H3.o.2.2.2.1.blk.rules;have l0:=H3.o.2.2.2.1.blk.lt;have c0:W3.cell? ⟨r,0,none⟩=some (.int .i64 ((k:Int)+1)):=q0 0;clear S hlx O CL hst hld hbb q0;go_wp2_with fail;refine CC.o.mono ?_;rintro x W4 ⟨rfl,rfl⟩;clear CC;cases b with
 |false=>
  go_wp2_with fail;go_ret;exact Fc.none HH.o.1 H3.o.2.1
 |true=>
  have CD:=U9 (Mp H3.o.2.2.2.1.dem);have c5:W3.cell? ⟨r,5,none⟩=some (Yr R.dm):=H3.o.2.2.2.1.blk.rules.1 5;go_wp2_with fail;refine CD.o.mono ?_;rintro x W5 ⟨u,wl,rfl,V,hwl,σ,τ⟩;obtain⟨Aw,cw,rfl,hw1,hw2⟩:=V.sl;have hwm:cw<=9223372036854775807:=hw2;have H5:=U9 (Vb (H3.o.1.call τ) (Vb (H3.o.2.1.trans (τ.mono H3.o.2.1.size)) (Vb (Row.call H3.o.2.2.1 τ) (Vb (H3.o.2.2.2.1.call τ) (Vb (Row.call H3.o.2.2.2.2.1 τ) (Vb V σ))))));have HLX:=U9 H3.o.2.2.2.2.2;clear V σ τ CD c5 c0 f0 l0;go_wp2_with fail
  go_loopw [36] (λi wr=>∃j:Nat,j<=wl.length/\i=.int .i64 j/\Ta W5 r k n R wr) (λi _=>wl.length-(intOf i).toNat)
  case atStart=>exact⟨0,by omega,rfl,R.D,H5.o.2.2.2.1,ah.refl⟩
  case round=>
   obtain⟨j,hj,rfl,hW⟩:=hrel;by_cases Γ:j<wl.length
   ·obtain⟨D1,hR1,α⟩:=hW
    have hd:decide ((j:Int)<wl.length)=true:=Vg (by omega);obtain⟨x,hx⟩:∃x,wl[j]? =some x:=⟨wl[j],Ve Γ⟩;have V:=H5.o.2.2.2.2.2.1;have η:=V.ge;have hs5:=H5.o.2.1.size;have S:=α.row V λq f hF=>by
     have h1:=(η q f).1;have h2:=HI.o q hF;have h3:=H3.o.2.1.size;omega
    obtain⟨g,cap,hs,θ,Φ,hgb,Δ⟩:=V.sl_pos (by omega);obtain⟨rfl,Ψ⟩:Aw=some ⟨g,0,none⟩/\cw=cap:=by injection hs with a b c;exact⟨a,c⟩
    have μ:=S.rng iM hx;have hld:=aY (P:=prog) μ underlying305 rfl (sB x);have π:=H5.o.2.2.2.2.2.2 x (Vn hx);obtain⟨W6,hst,B6,D6,z6⟩:=vq x wr;have R6:=hR1.call D6;have Bs:aD W6 [(wr.heap.size,305,kf x),(r,142,eG {R with D:=D1} k)]:=aD.cons B6 (aD.cons R6.blk aD.nil);have hgw:g<wr.heap.size:=Vq Δ α.size;obtain⟨lo,ψ⟩:∃lo,dF (R.m.r x.n) k=lo:=⟨_,rfl⟩;have CL:=U9 (λ(X:Yu) (J:ah cM W6 X)=>ψ▸oO (R6.led.call J.no) π.1 k R6.k6);have HF:=U9 (λ(X:Yu) (J:ah cM W6 X)=>Vb (Bs.call J.no).rules (Bs.call J.no).lts);have HX:=U9 (Vb R6 (Vb (α.call D6) (Vb Bs π)));clear hR1 α hx V η hs5 S hs θ Φ hgb Ψ μ π B6 D6 R6 Bs ψ;go_wp2_with fail;by_cases N:x.a<=lo
    ·refine ay [] cM 14 (λ_ h=>h.elim) (by kernel_rfl) (by kernel_rfl) ?_
     iterate 10
      first
      |refine bT rfl ?_;apply aA
       ·intro _ ρ C H I W J;have f:=HF.o W J;simp[execOp,go_sem,C,H,I,f,eG,kf]<;>exact rfl
      |refine al (λ_=>rfl) ?_
      |refine bM (by kernel_rfl) rfl ?_;apply aA
       ·intro u ρ C H I w;simp[execOp,go_sem,C,H,I,eG,kf]<;>exact rfl
      simp only[UW,UX,UY,UZ]
     refine cU (λ_=>rfl) (Vm rfl) 164 (λ_=>#[Yr R.L.b,.int .i64 ((k:Int)+1),.int .u64 x.n]) _ (λ_ w=>by simp[execOp,go_sem]<;>rfl) (λ_ X hX=>CL.o X hX) ?_;simp only[UW,UX,UY,UZ]
     iterate 3
      first
      |refine bT rfl ?_;apply aA
       ·intro _ ρ C H I W J;have f:=HF.o W J;simp[execOp,go_sem,C,H,I,f,eG,kf,N]<;>exact rfl
      |refine al (λ_=>rfl) ?_
      |refine bM (by kernel_rfl) rfl ?_;apply aA
       ·intro u ρ C H I w;simp[execOp,go_sem,C,H,I,eG,kf,N]<;>exact rfl
      simp only[UW,UX,UY,UZ]
     refine aK (by kernel_rfl) ?_;rintro _ W7 M-;replace M:Ys W6 W7:=M;have R7:=HX.o.1.call M;have B7:=HX.o.2.2.1.call M;have HF7:=U9 (λ(X:Yu) (J:Ys W7 X)=>Vb (B7.call J).rules (B7.call J).lts);have H7:=U9 (Vb R7 (HX.o.2.1.call M));clear R7 B7 HF CL M N;go_wp2_with fail;refine aP 6 (by kernel_rfl) (by simp) (by decide+kernel) (by decide+kernel) (by decide+kernel) (by decide+kernel) ?_;simp only[U4,U5,U6,U7]
     iterate 6
      first
      |refine dx rfl ?_;apply aA
       ·intro _ ρ C H I W J;have f:=HF7.o W J;simp[execOp,go_sem,C,H,I,f,eG,kf]<;>exact rfl
      |refine aw (λ_=>rfl) ?_
      simp only[UW,UX,UY,UZ]
     refine aH ?_;intro _ W8 hb8 _;have R8:=H7.o.1.call hb8;have CD:=U9 (Mr R8.dem HX.o.2.2.2.1);have H8:=U9 (Vb R8 (H7.o.2.call hb8));clear hb8 R8 HF7;go_wp2_with fail;refine CD.o.mono ?_;rintro y W9 ⟨⟨b,rfl⟩,D',hD,hm⟩;have HT:=U9 (show Ta W5 r k n R W9 from⟨D',H8.o.1.dem_ hD hm,H8.o.2.trans (hm.mono (G:=R.F r) λq f=>.inr (.inr (.inr (.inr (.inr f)))))⟩);clear hD hm CD;go_wp2_with fail;go_roundw
     case rel=>exact⟨j+1,by omega,by go_num,HT.o⟩
     case measure=>simp[intOf];omega
    ·refine ay [] cM 14 (λ_ h=>h.elim) (by kernel_rfl) (by kernel_rfl) ?_
     iterate 10
      first
      |refine bT rfl ?_;apply aA
       ·intro _ ρ C H I W J;have f:=HF.o W J;simp[execOp,go_sem,C,H,I,f,eG,kf]<;>exact rfl
      |refine al (λ_=>rfl) ?_
      |refine bM (by kernel_rfl) rfl ?_;apply aA
       ·intro u ρ C H I w;simp[execOp,go_sem,C,H,I,eG,kf]<;>exact rfl
      simp only[UW,UX,UY,UZ]
     refine cU (λ_=>rfl) (Vm rfl) 164 (λ_=>#[Yr R.L.b,.int .i64 ((k:Int)+1),.int .u64 x.n]) _ (λ_ w=>by simp[execOp,go_sem]<;>rfl) (λ_ X hX=>CL.o X hX) ?_;simp only[UW,UX,UY,UZ]
     iterate 3
      first
      |refine bT rfl ?_;apply aA
       ·intro _ ρ C H I W J;have f:=HF.o W J;simp[execOp,go_sem,C,H,I,f,eG,kf,N]<;>exact rfl
      |refine al (λ_=>rfl) ?_
      |refine bM (by kernel_rfl) rfl ?_;apply aA
       ·intro u ρ C H I w;simp[execOp,go_sem,C,H,I,eG,kf,N]<;>exact rfl
      simp only[UW,UX,UY,UZ]
     refine aK (by kernel_rfl) ?_;rintro _ W7 M-;replace M:Ys W6 W7:=M;have HT:=U9 (show Ta W5 r k n R W7 from⟨D1,HX.o.1.call M,HX.o.2.1.call M⟩);clear HF CL M N;go_wp2_with fail;go_roundw
     case rel=>exact⟨j+1,by omega,by go_num,HT.o⟩
     case measure=>simp[intOf];omega
   ·obtain rfl:j=wl.length:=by omega
    have hd:decide ((wl.length:Int)<wl.length)=false:=Vj (by omega);obtain⟨D1,hR1,α⟩:=hW;have hs5:=H5.o.2.1.size;have hs1:=hgl.o;have hws:w.heap.size<=W1.heap.size:=hw1s.o;have hnF:∀q,w.heap.size<=q->¬R.F r q:=λq h1 h2=>by have:=HI.o q h2;omega
    have HA:=U9 (show Q7 wr w r k n R {R with D:=D1} W1.heap.size (.slice AN (aW R.m).length cN) (.slice AG (bh R.m).length cG) (.slice Av lv.length cv) lv from
     ⟨hR1,(ah.of_below H5.o.2.1).trans α,α.blk H5.o.1 (hnF _ hws),α.row H5.o.2.2.1 λq f=>hnF q (H5.o.2.2.1.ge q f).1,Row.mono (α.row H5.o.2.2.2.2.1 λq f=>hnF q (by have:=(H5.o.2.2.2.2.1.ge q f).1;omega)) (by omega)⟩)
    have hwl1:W1.heap.size<wr.heap.size:=HA.o.st.lt;have hwwr:w.heap.size<=wr.heap.size:=by omega
    clear hR1 α hs5 hs1 hnF;obtain⟨WL,rfl⟩:∃W,W=wr:=⟨_,rfl⟩;go_wp2_with fail
    go_loopw [4,64] (λv i wr=>∃j:Nat,j<=lv.length/\i=.int .i64 j/\Us WL v j wr) (λ_ i _=>lv.length-(intOf i).toNat)
    case atStart=>exact⟨0,by omega,rfl,[],Row.nil,by simp,Vc _,Vd _ _⟩
    case round=>
     obtain⟨j,hj,rfl,hW⟩:=hrel;by_cases Γ:j<lv.length
     ·have hd:decide ((j:Int)<lv.length)=true:=Vg (by omega)
      have HO:=U9 hW;obtain⟨L,Θ,Ξ,υ,ν⟩:=hW;have hA:=HA.o.call ν;obtain⟨y,hy⟩:∃y,lv[j]? =some y:=⟨lv[j],Ve Γ⟩;have hy6:=HLX.o y (Vn hy);obtain⟨jj,hjj,rfl⟩:∃jj:Nat,jj<6/\y=(jj:Int)+1:=⟨(y-1).toNat,by omega,by omega⟩;obtain⟨g,cap,hs,θ,Φ,hgb,Δ⟩:=hA.lv.sl_pos (by omega);obtain⟨rfl,Ψ⟩:Av=some ⟨g,0,none⟩/\cv=cap:=by injection hs with a b c;exact⟨a,c⟩
      have μ:=hA.lv.rng iW hy;have hce:wr.cell? ⟨g,j,none⟩=some (.int .i64 ((jj:Int)+1)):=by have this:=μ 0 (.int .i64 ((jj:Int)+1)) rfl;rw[V3]at this;exact this
      have c0:wr.cell? ⟨r,0,none⟩=some (.int .i64 ((k:Int)+1)):=hA.re.blk.rules.1 0;have l0:=hA.re.blk.lt;have HY:=U9 (Vb hA (Vb Θ (Vb Ξ (Vb υ (Vb ν hjj)))));clear hA Θ Ξ υ ν hjj hs θ Φ Ψ μ hy hy6 hgb;by_cases hjk:jj=k
      ·subst hjk
       go_wp2_with fail;go_roundw
       case rel=>
        refine⟨j+1,by omega,by go_num,?_⟩;obtain⟨L,h1,h2,h3,h4⟩:=HO.o;exact⟨L,h1,h2,by omega,h4⟩
       case measure=>simp[intOf];omega
      ·have hne:¬((jj:Int)+1=(k:Int)+1):=by omega
       have hA:=HY.o.1;have Ω:=HY.o.2.2.2.2.1.size;have N:=HY.o.2.1.ge;have ε:gJ (λq=>u4.ownBlock=some q) [(W1.heap.size,38,cy R.m.inn R.m.kn (.slice AN (aW R.m).length cN) (.slice AG (bh R.m).length cG)),(r,142,eG {R with D:=D1} k)]:=⟨λf=>by have:=(N _ f).1;omega,λf=>by have:=(N _ f).1;have:=HI.o r (.inl rfl);omega,trivial⟩;have γ:iB (R.F r) (λq=>u4.ownBlock=some q):=λq f hq2=>by have:=(N _ hq2).1;have:=HI.o q f;omega
       have Bs:aD wr [(W1.heap.size,38,cy R.m.inn R.m.kn (.slice AN (aW R.m).length cN) (.slice AG (bh R.m).length cG)),(r,142,eG {R with D:=D1} k)]:=aD.cons hA.st (aD.cons hA.re.blk aD.nil);have β:=U9 (show∀q,u4.ownBlock=some q->q<wr.heap.size from λq f=>(N q f).2);have HF:=U9 (λ(X:Yu) (J:ah (λq=>u4.ownBlock=some q) wr X)=>Vb (Bs.mod J ε).rules (Vb (Bs.mod J ε).lts (yP (Bs.mod J ε).head)));have CL:=U9 (λ(X:Yu) (J:ah (λq=>u4.ownBlock=some q) wr X)=>LI (hA.re.mod J γ).peer (hA.re.mod J γ).log (by have:=hA.re.cn;show R.c<=900000;have:R.c<=n:=this;omega) HY.o.2.2.2.2.2 16);have HOK:=U9 (show∀L:List Ev,(∀e∈L,e.ok)->Ms.ok ⟨1,(k:Int)+1,(jj:Int)+1,R.m.kn,L,0,0⟩from λL hL=>by
        have h6:=hA.re.k6;have hj6:=HY.o.2.2.2.2.2;exact⟨show(0:Int)<=1/\(1:Int)<=255 by decide,show -9223372036854775808<=(k:Int)+1/\(k:Int)+1<=9223372036854775807 by omega,show -9223372036854775808<=(jj:Int)+1/\(jj:Int)+1<=9223372036854775807 by omega,hA.re.ok.knok,hL,show(0:Int)<=0/\(0:Int)<=18446744073709551615 by decide,show -9223372036854775808<=(0:Int)/\(0:Int)<=9223372036854775807 by decide⟩)
       clear hA N ε γ Bs Ω;go_wp2_with fail;refine ay [] (λq=>u4.ownBlock=some q) 20 β.o (by kernel_rfl) (by kernel_rfl) ?_
       iterate 17
        first
        |refine bT rfl ?_;apply aA
         ·intro _ ρ C H I W J;have f:=HF.o W J;simp[execOp,go_sem,C,H,I,f,eG,↓cI]<;>exact rfl
        |refine al (λ_=>rfl) ?_
        |refine bM (by kernel_rfl) rfl ?_;apply aA
         ·intro u ρ C H I w;simp[execOp,go_sem,C,H,I,eG,↓cI]<;>exact rfl
        simp only[UW,UX,UY,UZ]
       refine dM (λ_=>rfl) (Vm (by kernel_rfl)) 219 (λ_=>#[Yr R.bp,.int .i64 ((jj:Int)+1),Yr R.b,.int .i64 16]) (λp:Option Addr×Nat×Nat=>.slice p.1 p.2.1 p.2.2) (none,0,0) (UB wr.heap.size) (λ_ w=>by simp[execOp,go_sem]<;>rfl) (λ_ Y J=>?ca2) ?_
       case ca2=>
        refine(CL.o Y J).mono ?_;rintro r Y' ⟨u,L,rfl,h1,hlen,h2,h3⟩;obtain⟨A2,c2,rfl,-,-⟩:=h1.sl;exact⟨(A2,L.length,c2),rfl,⟨A2,c2,L,rfl,Row.mono h1 J.size,h2,by have:=HY.o.1.re.cn;have:R.c<=n:=this;omega⟩,h3⟩
       simp only[UW,UX,UY,UZ];refine yQ (λ_=>rfl) (Vm (by kernel_rfl)) 17 (by decide) (VZ (by kernel_rfl)) (λp:Option Addr×Nat×Nat=>.agg (aR ⟨1,(k:Int)+1,(jj:Int)+1,R.m.kn,.slice p.1 p.2.1 p.2.2,0,0⟩)) (none,0,0) (UD wr.heap.size) (λu=>.slice u.2.1 u.2.2.1 u.2.2.2) _ (λ_=>by repeat (first|exact Vs ⟨rfl,rfl,rfl⟩|apply Vr)) (λu X hX hR=>?bd) ?_
       case bd=>
        simp only[U0,U1,U2,U3,Nat.reduceAdd,Vk]at hR;obtain⟨w1,w2,-,g2,⟨A2,c2,L2,e2,row2,ok2,len2⟩,g4⟩:∃w1 w2,(17=20->Ys wr w1)/\ah (λq=>u4.ownBlock=some q) wr w1/\UB wr.heap.size w1 (.slice u.2.1 u.2.2.1 u.2.2.2) w2/\cR [] (λk=>17≠20/\u4.ownBlock=some k) wr.heap.size w2 X:=hR;injection e2 with e3 e4 e5;have δ:=g4.row row2 λq f hF=>by have:=(row2.ge q f).1;have:=β.o q hF.2;omega
        rw[e3,e4,e5]at δ;refine⟨u.2,X,by simp[↓vz,go_sem,Cb],⟨⟨⟨1,(k:Int)+1,(jj:Int)+1,R.m.kn,L2,0,0⟩,A2,c2⟩,?_,⟨HOK.o L2 ok2,len2⟩,δ⟩,Vd _ _⟩;show Value.agg (aR ⟨1,(k:Int)+1,(jj:Int)+1,R.m.kn,.slice u.2.1 u.2.2.1 u.2.2.2,0,0⟩)=.agg (aR ⟨1,(k:Int)+1,(jj:Int)+1,R.m.kn,.slice A2 L2.length c2,0,0⟩);rw[e3,e4,e5]
       simp only[UW,UX,UY,UZ];refine yQ (λ_=>rfl) (Vm (by kernel_rfl)) 18 (by decide) (VZ (by kernel_rfl)) (λp:Nat=>.slice (some ⟨p,0,none⟩) 1 1) 0 (Ux wr.heap.size) (λu=>.agg (aR ⟨1,(k:Int)+1,(jj:Int)+1,R.m.kn,.slice u.2.1 u.2.2.1 u.2.2.2,0,0⟩)) _ (λ_=>by repeat (first|exact Vs ⟨rfl,rfl,rfl⟩|apply Vr)) (λu X hX hR=>?sl) ?_
       case sl=>
        simp only[U0,U1,U2,U3,Nat.reduceAdd,Vk]at hR;obtain⟨w1,w2,-,g2,⟨y,e2,my⟩,g4⟩:∃w1 w2,(18=20->Ys wr w1)/\ah (λq=>u4.ownBlock=some q) wr w1/\UD wr.heap.size w1 (.agg (aR ⟨1,(k:Int)+1,(jj:Int)+1,R.m.kn,.slice u.2.1 u.2.2.1 u.2.2.2,0,0⟩)) w2/\cR [] (λk=>18≠20/\u4.ownBlock=some k) wr.heap.size w2 X:=hR;injection e2 with e2;have δ:=g4.row my.row λq f hF=>by have:=(my.row.ge q f).1;have:=β.o q hF.2;omega
        exact⟨X.heap.size,X.alloc (.cells (aR ⟨1,(k:Int)+1,(jj:Int)+1,R.m.kn,.slice u.2.1 u.2.2.1 u.2.2.2,0,0⟩) 297),by simp[↓mG,go_sem,rB],⟨X.heap.size,y,rfl,hX.size,by rw[<-e2];exact ai.new _ _ _,my.ok,Row.call δ ((Vd _ _).alloc (Vc _) _)⟩,(Vd _ _).alloc (Vc _) _⟩
       simp only[UW,UX,UY,UZ];refine ku (λ_=>rfl) (by kernel_rfl) 19 (by decide) (VZ (by kernel_rfl)) (λv:Yv=>v) (.slice none 0 0) (UV WL.heap.size wr.heap.size L) (λu=>.slice (some ⟨u.2,0,none⟩) 1 1) _ (λ_=>by repeat (first|exact Vs ⟨rfl,rfl,rfl⟩|apply Vr)) (λu X hX hR=>?app) ?_
       case app=>
        simp only[U0,U1,U2,U3,Nat.reduceAdd,Vk]at hR;obtain⟨w1,w2,-,g2,⟨g',y,e2,hgq,hB,my⟩,g4⟩:∃w1 w2,(19=20->Ys wr w1)/\ah (λq=>u4.ownBlock=some q) wr w1/\Ux wr.heap.size w1 (.slice (some ⟨u.2,0,none⟩) 1 1) w2/\cR [] (λk=>19≠20/\u4.ownBlock=some k) wr.heap.size w2 X:=hR;injection e2 with e3 _ _;injection e3 with e3;injection e3 with e3 _ _;subst e3;have hBX:ai X u.2 297 (kT y):=by
         rcases g4.block u.2 hB.lt with e|⟨-,⟨cs,t,hz,-⟩,-⟩|⟨-,e⟩
         ·exact e.trans hB
         ·cases hz
         ·have:=β.o _ e;omega
        have δ:=g4.row my.row λq f hF=>by have:=(my.row.ge q f).1;have:=β.o q hF.2;omega
        have hLl:=HY.o.2.2.2.1;obtain⟨v',w',k1,k2,k3,k4,-⟩:=ik.app 117 (Row.call HY.o.2.1 hX) (A:=some ⟨u.2,0,none⟩) (cap:=1) (dU mp hBX) (by simp;omega) (by have:=HY.o.2.2.2.2.1.size;have:=hX.size;omega);exact⟨v',w',by simp[↓nZ,go_sem];exact k1,⟨y,k2,k3,my.ok,δ⟩,ah.of_grown k4 λ_ h=>h⟩
       simp only[UW,UX,UY,UZ]
       iterate 1
        refine bH rfl ?_;simp only[UW,UX,UY,UZ]
       refine aK (by kernel_rfl) ?_;rintro⟨⟨⟨⟨_,p1⟩,p2⟩,p3⟩,v'⟩ W' hC hR;dsimp only;simp only[U0,U1,U2,U3,Nat.reduceAdd,Nat.zero_add]at hR;obtain⟨w1,w2,g1,-,⟨y,k2,k3,my⟩,g4⟩:=bJ (hR 20 _ _ (by repeat (first|exact Or.inl ⟨rfl,rfl,rfl⟩|apply Or.inr))) rfl;have T:=g1 rfl;have O:=g4.below λ_ h=>h.1 rfl
       have Ω:=HY.o.2.2.2.2.1.size;have hz1:=T.size;have κ:=k3.size;have HT:=U9 (show Us WL v' (j+1) W' from by
        refine⟨L++[y],Row.call k2 O,λz hz=>?_,by have:=HY.o.2.2.2.1;simp;omega,((HY.o.2.2.2.2.1.trans (T.mono Ω)).trans k3.below).trans (O.mono (by omega))⟩;rcases Vw.1 hz with h|h
        ·have mz:=HY.o.2.2.1 z h
         exact⟨mz.ok,Row.call (k3.row (Row.call mz.row T) (by decide)) O⟩
        ·rw[VH.1 h]
         exact⟨my.ok,Row.mono (Row.call (k3.row my.row (by decide)) O) Ω⟩)
       clear hC hR g1 k2 k3 my g4 T O Ω hz1 κ HF CL β HOK w1 w2;go_wp2_with fail;go_roundw
       case rel=>exact⟨j+1,by omega,by go_num,HT.o⟩
       case measure=>simp[intOf];omega
     ·obtain rfl:j=lv.length:=by omega
      have hd:decide ((lv.length:Int)<lv.length)=false:=Vj (by omega);obtain⟨L,Θ,Ξ,υ,ν⟩:=hW;have hA:=HA.o.call ν;have CD:=U9 (PT hA.re.dem HH.o.2);have c5:wr.cell? ⟨r,5,none⟩=some (Yr R.dm):=hA.re.blk.rules.1 5;have f0:=hA.re.blk.rules.2;have l0:=hA.re.blk.lt;have HY:=U9 (Vb hA (Vb Θ (Vb Ξ (Vb υ ν))));clear hA Θ Ξ υ ν;go_wp2_with fail;refine CD.o.mono ?_;rintro x WD ⟨u,ζ,rfl,σ,hol,hoo,hdm,ι⟩;obtain⟨Au,cu,rfl,hcu1,hcu2⟩:=σ.sl;have hcum:cu<=9223372036854775807:=hcu2;have φ:∀q,R.FD q->q<w.heap.size:=λq f=>HI.o q (.inr (.inr (.inr (.inr (.inr f)))))
      have N:=HY.o.2.1.ge;have hsz:=HY.o.2.2.2.2.size;have hS4:ai WD W1.heap.size 38 (cy R.m.inn R.m.kn (.slice AN (aW R.m).length cN) (.slice AG (bh R.m).length cG)):=ι.blk HY.o.1.st λf=>by have:=φ _ f;omega
      have hN4:eM WD w.heap.size (.slice AN (aW R.m).length cN) (aW R.m):=ι.row HY.o.1.nd λq f hF=>by have:=(HY.o.1.nd.ge q f).1;have:=φ _ hF;omega
      have hQ:NE WL WD u4 u4 (lv.length+0) WD:=⟨⟨L,ι.row HY.o.2.1 (λq f hF=>by have:=(N q f).1;have:=φ _ hF;omega),λy hy=>⟨(HY.o.2.2.1 y hy).ok,ι.row (HY.o.2.2.1 y hy).row λq f hF=>by have:=((HY.o.2.2.1 y hy).row.ge q f).1;have:=φ _ hF;omega⟩,HY.o.2.2.2.1⟩,ah.refl,.inl rfl⟩;have hRD:=HY.o.1.re.dem_ hdm ι;have hMD:=HY.o.1.md.trans (ι.mono (G:=R.F r) λq f=>.inr (.inr (.inr (.inr (.inr f)))));have hv0:∀q,u4.ownBlock=some q->WL.heap.size<=q/\q<wr.heap.size:=λq f=>⟨(N q f).1,(N q f).2⟩
      have HD:=U9 (Vb hQ (Vb hS4 (Vb hN4 (Vb hRD (Vb hMD (Vb σ (Vb hoo (Vb hv0 ι.size))))))));clear hQ hS4 hN4 hRD hMD σ hoo hv0 φ N hdm ι CD c5 f0 l0 HLX HY;generalize u4=v0 at HD⊢;go_wp2_with fail
      go_loopw [4,103] (λv i wx=>∃j:Nat,j<=ζ.length/\i=.int .i64 j/\NE WL WD v0 v (lv.length+j) wx) (λ_ i _=>ζ.length-(intOf i).toNat)
      case atStart=>exact⟨0,by omega,rfl,HD.o.1⟩
      case round=>
       obtain⟨j,hj,rfl,hW⟩:=hrel;by_cases Γ:j<ζ.length
       ·have hd:decide ((j:Int)<ζ.length)=true:=Vg (by omega)
        obtain⟨x,hx⟩:∃x,ζ[j]? =some x:=⟨ζ[j],Ve Γ⟩;have V:=HD.o.2.2.2.2.2.1;have η:=V.ge;have S:=hW.md.row V λq f hF=>by have:=(η q f).1;have:=(HD.o.2.2.2.2.2.2.2.1 q hF).2;omega
        obtain⟨g,cap,hs,θ,Φ,hgb,Δ⟩:=V.sl_pos (by omega);obtain⟨rfl,Ψ⟩:Au=some ⟨g,0,none⟩/\cu=cap:=by injection hs with a b c;exact⟨a,c⟩
        have μ:=S.rng iM hx;have hld:=aY (P:=prog) μ underlying305 rfl (sB x);have π:=HD.o.2.2.2.2.2.2.1 x (Vn hx);obtain⟨W6,hst,B6,D6,z6⟩:=vq x wr;have χ:=hW.call D6;have ξ:∀q,q<w.heap.size\/q=W1.heap.size->¬v0.ownBlock=some q:=λq f hF=>by have:=(HD.o.2.2.2.2.2.2.2.1 q hF).1;omega
        have hR6:bV W6 r k {R with D:=D1} n:=(HD.o.2.2.2.1.mod χ.md λq f hF=>ξ q (.inl (HI.o q f)) hF);have hS6:=χ.md.blk HD.o.2.1 (ξ _ (.inr rfl));have hN6:eM W6 w.heap.size (.slice AN (aW R.m).length cN) (aW R.m):=χ.md.row HD.o.2.2.1 λq f hF=>by have h1:=(HD.o.2.2.2.2.2.2.2.1 q hF).1;have h2:=(H2.o.2.2.1.ge q f).2;omega
        have Bs:aD W6 [(wr.heap.size,305,kf x),(W1.heap.size,38,cy R.m.inn R.m.kn (.slice AN (aW R.m).length cN) (.slice AG (bh R.m).length cG)),(r,142,eG {R with D:=D1} k)]:=aD.cons B6 (aD.cons hS6 (aD.cons hR6.blk aD.nil));have HF:=U9 (λ(X:Yu) (J:ah cM W6 X)=>Vb (Bs.call J.no).rules (Vb (Bs.call J.no).lts (dG (P:=prog) (Bs.call J.no).drop.head underlying38 rfl (dn _ _ _ _))));have CW:=U9 (λ(X:Yu) (J:ah cM W6 X)=>PX (inn:=R.m.inn) (kn:=R.m.kn) (vG:=.slice AG (bh R.m).length cG) (i:=(k:Int)+1) (node:=x.n) (Row.call hN6 J.no) (by have:=HH.o.1.ok.tr.le;simp[aW,cS,jM];omega));have hlt4:∀q,u4.ownBlock=some q->WL.heap.size<=q/\q<wr.heap.size:=λq f=>by
         obtain⟨L,h1,-,-⟩:=hW.ex;exact h1.ge q f
        have ω:=U9 hlt4;have HX:=U9 (Vb χ (Vb hR6 (Vb hS6 (Vb Bs (Vb π D6.size)))));clear hlt4 hW hx V η S hs θ Φ hgb Ψ μ π B6 D6 χ ξ hR6 hS6 hN6 Bs;go_wp2_with fail;refine ay [] cM 9 (λ_ h=>h.elim) (by kernel_rfl) (by kernel_rfl) ?_
        iterate 7
         first
         |refine bT rfl ?_;apply aA
          ·intro _ ρ C H I W J;have f:=HF.o W J;simp[execOp,go_sem,C,H,I,f,eG,kf]<;>exact rfl
         |refine al (λ_=>rfl) ?_
         |refine bM (by kernel_rfl) rfl ?_;apply aA
          ·intro u ρ C H I w;simp[execOp,go_sem,C,H,I,eG,kf]<;>exact rfl
         simp only[UW,UX,UY,UZ]
        refine dM (λ_=>rfl) (Vm rfl) 221 (λ_=>#[.agg (cy R.m.inn R.m.kn (.slice AN (aW R.m).length cN) (.slice AG (bh R.m).length cG)),.int .i64 ((k:Int)+1),.int .u64 x.n]) (λp:Int=>.int .i64 p) 0 (λ_ v _=>∃q:Int,0<=q/\q<=6/\v=.int .i64 q) (λ_ w=>by simp[execOp,go_sem]<;>rfl) (λ_ Y J=>?ca3) ?_
        case ca3=>
         refine(CW.o Y J).mono ?_;rintro r Y' ⟨⟨q,q0,q6,rfl⟩,hb'⟩;exact⟨q,rfl,⟨q,q0,q6,rfl⟩,hb'⟩
        simp only[UW,UX,UY,UZ]
        iterate 1
         refine bH rfl ?_;simp only[UW,UX,UY,UZ]
        refine aK (by kernel_rfl) ?_;rintro⟨_,q⟩ W7 M hR;dsimp only;replace M:Ys W6 W7:=M;simp only[U0,U1,U2,U3,Nat.reduceAdd,Nat.zero_add]at hR;obtain⟨w1,w2,-,-,⟨q',hq0,hq6,hqe⟩,-⟩:=bJ (hR 7 _ _ (by repeat (first|exact Or.inl ⟨rfl,rfl,rfl⟩|apply Or.inr))) rfl;injection hqe with _ hqe;subst hqe;have hQ7:=HX.o.1.call M;have hR7:=HX.o.2.1.call M;have B7:=HX.o.2.2.2.1.call M;have H7:=U9 (And.intro hQ7 (And.intro hR7 (And.intro B7 (Nat.le_trans HX.o.2.2.2.2.2 M.size))));clear hR M w1 w2 HF CW hQ7 hR7 B7;by_cases hqz:q=0
        ·subst hqz
         go_wp2_with fail;go_roundw
         case rel=>
          refine⟨j+1,by omega,by go_num,?_⟩;obtain⟨⟨L,q1,q2,q3⟩,q4,q5⟩:=H7.o.1;exact⟨⟨L,q1,q2,by omega⟩,q4,q5⟩
         case measure=>simp[intOf];omega
        ·have hqd:(q==0)=false:=by simpa using hqz
         go_wp2_with fail;obtain⟨lo,ψ⟩:∃lo,dF (R.m.r x.n) k=lo:=⟨_,rfl⟩;obtain⟨am,ham⟩:∃am,IntKind.i64.wrap (x.a-lo)=am:=⟨_,rfl⟩;have hamr:-9223372036854775808<=am/\am<=9223372036854775807:=by rw[<-ham];simp[IntKind.wrap,IntKind.bits,IntKind.signed];omega
         obtain⟨L,q1,q2,q3⟩:=H7.o.1.ex;have hFl:∀z,u4.ownBlock=some z->z<W7.heap.size:=λz hz=>by have:=(ω.o z hz).2;have:=H7.o.2.2.2;omega
         have ε:gJ (λz=>u4.ownBlock=some z) [(wr.heap.size,305,kf x),(W1.heap.size,38,cy R.m.inn R.m.kn (.slice AN (aW R.m).length cN) (.slice AG (bh R.m).length cG)),(r,142,eG {R with D:=D1} k)]:=⟨λf=>by have:=(ω.o _ f).2;omega,λf=>by have:=(ω.o _ f).1;omega,λf=>by have:=(ω.o _ f).1;have:=HI.o r (.inl rfl);omega,trivial⟩;have γ:iB (R.F r) (λz=>u4.ownBlock=some z):=λz hz κ=>by have:=(ω.o _ κ).1;have:=HI.o z hz;omega
         have β:=U9 hFl;have HF:=U9 (λ(X:Yu) (J:ah (λz=>u4.ownBlock=some z) W7 X)=>Vb (H7.o.2.2.1.mod J ε).rules (Vb (H7.o.2.2.1.mod J ε).lts (yP (H7.o.2.2.1.mod J ε).drop.head)));have CL:=U9 (λ(X:Yu) (J:ah (λz=>u4.ownBlock=some z) W7 X)=>ψ▸oO (H7.o.2.1.mod J γ).led HX.o.2.2.2.2.1.1 k HX.o.2.1.k6);obtain⟨y,hy⟩:∃y:Mt,y=⟨⟨2,(k:Int)+1,q,R.m.kn,[],x.n,am⟩,none,0⟩:=⟨_,rfl⟩;have hmy:kT y=aR ⟨2,(k:Int)+1,q,R.m.kn,.slice none 0 0,x.n,am⟩:=by rw[hy];rfl
         have hyok:y.m.ok/\y.m.l.length<=100000:=by
          rw[hy];refine⟨?_,VX _⟩;have h6:=HX.o.2.1.k6;have C:=HX.o.2.2.2.2.1.1;exact⟨show(0:Int)<=2/\(2:Int)<=255 by decide,show -9223372036854775808<=(k:Int)+1/\(k:Int)+1<=9223372036854775807 by omega,show -9223372036854775808<=q/\q<=9223372036854775807 by omega,H7.o.2.1.ok.knok,by simp,C,hamr⟩
         have hyl:∀X,dr X WL.heap.size (.slice y.A y.m.l.length y.c) y.m.l:=λX=>by rw[hy];exact Row.nil
         have HQ:=U9 (Vb q1 (Vb q2 (Vb q3 (Vb hyok (Vb hyl hmy)))));clear q1 q2 q3 ε γ ψ hy hyok hyl hamr hFl hmy;refine ay [] (λz=>u4.ownBlock=some z) 26 β.o (by kernel_rfl) (by kernel_rfl) ?_
         iterate 22
          first
          |refine bT rfl ?_;apply aA
           ·intro _ ρ C H I W J;have f:=HF.o W J;simp[execOp,go_sem,C,H,I,f,eG,kf,↓cI]<;>exact rfl
          |refine al (λ_=>rfl) ?_
          |refine bM (by kernel_rfl) rfl ?_;apply aA
           ·intro u ρ C H I w;simp[execOp,go_sem,C,H,I,eG,kf,↓cI]<;>exact rfl
          simp only[UW,UX,UY,UZ]
         refine cU (λ_=>rfl) (Vm (by kernel_rfl)) 164 (λ_=>#[Yr R.L.b,.int .i64 ((k:Int)+1),.int .u64 x.n]) _ (λ_ w=>by simp[execOp,go_sem]<;>rfl) (λ_ X hX=>CL.o X hX) ?_;simp only[UW,UX,UY,UZ]
         iterate 2
          first
          |refine bT rfl ?_;apply aA
           ·intro _ ρ C H I W J;have f:=HF.o W J;simp[execOp,go_sem,C,H,I,f,ham,↓nY,uf]<;>exact rfl
          |refine al (λ_=>rfl) ?_
          |refine xA (λ_=>rfl) ?_;apply aA
           ·intro _ W J;have f:=HF.o W J;simp[execOp,go_sem,f,ham,↓nY,uf]<;>exact rfl
          |refine bM (by kernel_rfl) rfl ?_;apply aA
           ·intro u ρ C H I w;simp[execOp,go_sem,C,H,I,ham,↓nY,uf]<;>exact rfl
          simp only[UW,UX,UY,UZ]
         refine nh (λ_=>rfl) (Vm (by kernel_rfl)) (λp:Nat=>.slice (some ⟨p,0,none⟩) 1 1) 0 (Uw W7.heap.size y) (λ_ X hX=>⟨X.heap.size,X.alloc (.cells (aR ⟨2,(k:Int)+1,q,R.m.kn,.slice none 0 0,x.n,am⟩) 297),by simp[↓mG,go_sem,rB],⟨X.heap.size,rfl,hX.size,by rw[HQ.o.2.2.2.2.2];exact ai.new _ _ _⟩,(Vd _ _).alloc (Vc _) _⟩) ?_;simp only[UW,UX,UY,UZ];refine ku (λ_=>rfl) (by kernel_rfl) 25 (by decide) (VZ (by kernel_rfl)) (λv:Yv=>v) (.slice none 0 0) (UU WL.heap.size L y u4) (λu=>.slice (some ⟨u.2,0,none⟩) 1 1) _ (λ_=>Vs ⟨by simp only[Vl,VB,VR],rfl,rfl⟩) (λu X hX hR=>?app2) ?_
         case app2=>
          simp only[U0,U1,U2,U3,Nat.reduceAdd,Vk]at hR;obtain⟨w1,w2,-,g2,⟨g',e2,hgq,hB⟩,g4⟩:∃w1 w2,(25=26->Ys W7 w1)/\ah (λz=>u4.ownBlock=some z) W7 w1/\Uw W7.heap.size y w1 (.slice (some ⟨u.2,0,none⟩) 1 1) w2/\cR [] (λk=>25≠26/\u4.ownBlock=some k) W7.heap.size w2 X:=hR;injection e2 with e3 _ _;injection e3 with e3;injection e3 with e3 _ _;subst e3;have hBX:ai X u.2 297 (kT y):=by
           rcases g4.block u.2 hB.lt with e|⟨-,⟨cs,t,hz,-⟩,-⟩|⟨-,e⟩
           ·exact e.trans hB
           ·cases hz
           ·have:=β.o _ e;omega
          have hLl:=HQ.o.2.2.1;obtain⟨v',w',k1,k2,k3,k4,k5⟩:=ik.app 117 (Row.call HQ.o.1 hX) (A:=some ⟨u.2,0,none⟩) (cap:=1) (dU mp hBX) (by simp;omega) (by have:=H7.o.2.2.2;have:=hX.size;have:=HD.o.2.2.2.2.2.2.2.2;have:=H7.o.1.md.size;omega);exact⟨v',w',by simp[↓nZ,go_sem];exact k1,⟨k2,k3,k5,ah.of_grown k4 λ_ h=>h⟩,ah.of_grown k4 λ_ h=>h⟩
         simp only[UW,UX,UY,UZ]
         iterate 1
          refine bH rfl ?_;simp only[UW,UX,UY,UZ]
         refine aK (by kernel_rfl) ?_;rintro⟨⟨_,p3⟩,v'⟩ W' hC hR;dsimp only;simp only[U0,U1,U2,U3,Nat.reduceAdd,Nat.zero_add]at hR;obtain⟨w1,w2,g1,-,⟨k2,k3,k5,k6⟩,g4⟩:=bJ (hR 26 _ _ (by repeat (first|exact Or.inl ⟨rfl,rfl,rfl⟩|apply Or.inr))) rfl;have T:=g1 rfl;have O:=g4.below λ_ h=>h.1 rfl
         have hz1:=T.size;have κ:=k3.size;have hzD:=H7.o.1.md.size;have hT:NE WL WD v0 v' (lv.length+(j+1)) W':=by
          refine⟨⟨L++[y],Row.call k2 O,λz hz=>?_,by have:=HQ.o.2.2.1;simp;omega⟩,?_,?_⟩
          ·rcases Vw.1 hz with h|h
           ·have mz:=HQ.o.2.1 z h
            exact⟨mz.ok,Row.call (k3.row (Row.call mz.row T) (by decide)) O⟩
           ·rw[VH.1 h]
            exact⟨HQ.o.2.2.2.1,HQ.o.2.2.2.2.1 _⟩
          ·refine((H7.o.1.md.call T).trans' k6 λz hz κ=>?_).call O
           rcases H7.o.1.ow with h|h
           ·exact h▸κ
           ·have:=h z κ;omega
          ·rcases k5 with h|h
           ·rcases H7.o.1.ow with h2|h2
            ·exact .inl (h.trans h2)
            ·exact .inr λb J=>h2 b (h▸J)
           ·exact .inr λb J=>by have:=h b J;omega
         have HT:=U9 hT;clear hT hC hR g1 k2 k3 k5 k6 g4 T O hz1 κ hzD HF CL β w1 w2;go_wp2_with fail;go_roundw
         case rel=>exact⟨j+1,by omega,by go_num,HT.o⟩
         case measure=>simp[intOf];omega
       ·obtain rfl:j=ζ.length:=by omega
        have hd:decide ((ζ.length:Int)<ζ.length)=false:=Vj (by omega);have HW:=U9 hW;clear hW;go_wp2_with fail;go_ret;obtain⟨L,q1,q2,q3⟩:=HW.o.ex;refine⟨_,L,rfl,Row.mono q1 (by omega),λy hy=>⟨(q2 y hy).ok,Row.mono (q2 y hy).row (by omega)⟩,by omega,?_⟩;have ξ:∀q,q<w.heap.size->¬v0.ownBlock=some q:=λq f hF=>by have:=(HD.o.2.2.2.2.2.2.2.1 q hF).1;omega
        exact⟨_,HD.o.2.2.2.1.mod HW.o.md λq f hF=>ξ q (HI.o q f) hF,HD.o.2.2.2.2.1.trans' HW.o.md λq f hF=>absurd hF (ξ q f),λq f=>.inl f⟩
end
