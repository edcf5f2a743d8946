import Derived.Test.YtemcfhlbmhbjeaaGreatDoorZ18
import Derived.Test.YtemcfhlbmhbjeaaGreatDoorZ20
set_option maxRecDepth 100000
set_option maxHeartbeats 0
set_option linter.all false
namespace Go.Proofs.YtemcfhlbmhbjeaaGreatDoor
open Go.Proofs.Tryz
variable{w w' w'':D}{n k r g base c B:Nat}{v:H}{t:ay}{A:Option Addr}{a:dT}{now:Int}{inn:Nat->Bool}{kn:an}
open Go Go.RowKit
def BM(a b:Nat):Nat->Prop:=λk=>k=a\/k=b
structure Mm(a b c d e f:Nat->Prop):Prop where
 ab:dJ a b
 ac:dJ a c
 ad:dJ a d
 ae:dJ a e
 af:dJ a f
 bc:dJ b c
 bd:dJ b d
 be:dJ b e
 bf:dJ b f
 cd:dJ c d
 ce:dJ c e
 cf:dJ c f
 de:dJ d e
 df:dJ d f
 ef:dJ e f
structure bX where
 L:eY
 m:aG
 base:Nat
 b:Nat
 v:Nat->H
 Ls:Nat->List fj
 lk:an
 c:Nat
 h:Nat
 hm:Nat
 aeJ:List z
 bp:Nat
 f:Nat->Int
 dm:Nat
 mb:Nat
 aeI:List (Int×Option Nat)
 FD:Nat->Prop
 gn:z->Prop
def bX.F(R:bX)(r:Nat):Nat->Prop:=λk=>k=r\/R.L.mem k\/mp R.b R.v k\/BM R.h R.hm k\/k=R.bp\/R.FD k
def ff(R:bX)(k:Nat):Array H:=#[Z ((k:Int)+1),N R.L.b,N R.b,N R.h,N R.bp,N R.dm]
def JX{p e f g:Prop}(F:f)(G:g)(k:e)(h:f->g->kN e->p:=by intro F G k;(first|(refine gS rfl ?_;apply cV;intro _ ρ a b c W d;have j:=F W d;simp[execOp,go_sem,a,b,c,j,ff,gJ,G]<;>exact rfl)|refine gz (λ_=>rfl) ?_|(refine lG Y rfl ?_;apply cV;intro u ρ a b c w;simp[execOp,go_sem,a,b,c,ff,gJ,G]<;>exact rfl));simp only[aD];exact k.o):p:=h F G ⟨k⟩
def JW{p e f g:Prop}(F:f)(G:g)(k:e)(h:f->g->kN e->p:=by intro F G k;(first|(refine gS rfl ?_;apply cV;intro _ ρ a b c W d;have j:=F W d;simp[execOp,go_sem,a,b,c,j,ff,G]<;>exact rfl)|refine gz (λ_=>rfl) ?_|(refine lG Y rfl ?_;apply cV;intro u ρ a b c w;simp[execOp,go_sem,a,b,c,ff,G]<;>exact rfl));simp only[aD];exact k.o):p:=h F G ⟨k⟩
def Eo{p e f:Prop}(F:f)(k:e)(h:f->kN e->p:=by intro F k;(first|(refine gS rfl ?_;apply cV;intro _ ρ a b c W d;have j:=F W d;simp[execOp,go_sem,a,b,c,j,ff,gJ]<;>exact rfl)|refine gz (λ_=>rfl) ?_|(refine lG Y rfl ?_;apply cV;intro u ρ a b c w;simp[execOp,go_sem,a,b,c,ff,gJ]<;>exact rfl));simp only[aD];exact k.o):p:=h F ⟨k⟩
def En{p e f:Prop}(F:f)(k:e)(h:f->kN e->p:=by intro F k;(first|(refine kX rfl ?_;apply cV;intro _ ρ a b c W d;have j:=F W d;simp[execOp,go_sem,a,b,c,j,ff]<;>exact rfl)|refine kz (λ_=>rfl) ?_);simp only[aD];exact k.o):p:=h F ⟨k⟩
def nJ{p e f:Prop}(F:f)(k:e)(h:f->kN e->p:=by intro F k;(first|(refine gS rfl ?_;apply cV;intro _ ρ a b c W d;have j:=F W d;simp[execOp,go_sem,a,b,c,j,ff]<;>exact rfl)|refine gz (λ_=>rfl) ?_|(refine lG Y rfl ?_;apply cV;intro u ρ a b c w;simp[execOp,go_sem,a,b,c,ff]<;>exact rfl));simp only[aD];exact k.o):p:=h F ⟨k⟩
def bX.gs(R:bX):Prop:=(∀e∈R.aeJ,R.gn e)/\∀k,k<6->∀x∈R.Ls k,R.gn x.e
structure cB(w:D)(r k:Nat)(R:bX)(n:Nat):Prop where
 blk:M w r 162 (ff R k)
 led:bI w R.L R.m
 ok:R.m.ok
 log:kb w R.base R.b R.v R.Ls R.lk R.c
 bs:R.base<=w.heap.size
 hold:bl w R.h R.hm R.aeJ
 hok:(∀e∈R.aeJ,e.ok)/\R.aeJ.length<=64
 peer:sq w R.bp R.f
 pok:r7 R.f
 dem:fV w R.FD R.dm R.mb R.aeI
 ap:Mm (aR r) R.L.mem (mp R.b R.v) (BM R.h R.hm) (aR R.bp) R.FD
 cn:R.c<=n
 sn:gG R.m.kn<=n
 k6:k<6
 gs:R.gs
section
variable{w w':D}{r k n:Nat}{R:bX}{G:Nat->Prop}
def cB.inh(h:cB w r k R n):jP (R.F r) w:=λk hk=>by rcases hk with rfl|hk|hk|hk|rfl|hk;exact h.blk.lt;exact h.led.lt k hk;exact h.log.lt k hk;rcases hk with rfl|rfl;exact h.hold.blk.lt;exact h.hold.map.lt;exact M.lt h.peer;exact h.dem.inh k hk
def cB.mod(h:cB w r k R n)(m:aa G w w')(d:dJ (R.F r) G):cB w' r k R n where
 blk:=m.blk h.blk λb=>d r (.inl O) b
 led:=h.led.mod m λk e b=>d k (.inr (.inl e)) b
 ok:=h.ok
 log:=h.log.mod m λk e b=>d k (.inr (.inr (.inl e))) b
 bs:=aZ h.bs m.size
 hold:=⟨m.blk h.hold.blk λb=>d _ (.inr (.inr (.inr (.inl (.inl O))))) b,h.hold.map.same (m.block _ h.hold.map.lt λb=>d _ (.inr (.inr (.inr (.inl (.inr O))))) b)⟩
 hok:=h.hok
 peer:=m.blk h.peer λb=>d _ (.inr (.inr (.inr (.inr (.inl O))))) b
 pok:=h.pok
 dem:=h.dem.mod m λk e b=>d k (.inr (.inr (.inr (.inr (.inr e))))) b
 ap:=h.ap
 cn:=h.cn
 sn:=h.sn
 k6:=h.k6
 gs:=h.gs
def cB.call(h:cB w r k R n)(b:S w w'):cB w' r k R n:=h.mod (aa.of_below (F:=bC) b) λ_ _ h=>h
def cB.more(h:cB w r k R n){n':Nat}(b:n<=n'):cB w r k R n':=⟨h.blk,h.led,h.ok,h.log,h.bs,h.hold,h.hok,h.peer,h.pok,h.dem,h.ap,aZ h.cn b,aA h.sn,h.k6,h.gs⟩
def cB.gmono(h:cB w r k R n){g:z->Prop}(b:∀e,R.gn e->g e):cB w r k {R with gn:=g} n:=⟨h.blk,h.led,h.ok,h.log,h.bs,h.hold,h.hok,h.peer,h.pok,h.dem,h.ap,h.cn,h.sn,h.k6,⟨λe d=>b e (h.gs.1 e d),λj i x f=>b _ (h.gs.2 j i x f)⟩⟩
end
def k8{A B:Nat->Prop}(d:∀k,A k->k<n)(e:∀k,B k->n<=k):dJ A B:=λk a b=>cF (d k a) (e k b)
def Ws(gn:z->Prop)(n k:Nat)(h1:1<=n)(h6:n<=6)(hk:k<6)(w:D):Calls prog 58 #[Z n,Z ((k:Int)+1)] w λx w'=>∃r R,x=.returned (.tuple #[N r,Z 0])/\cB w' r k R 0/\(R.m=fc n/\R.gn=gn)/\(∀j,R.F r j->w.heap.size<=j)/\S w w':=by
 have C1:=U (XA n h1 h6 w);have C2:=U Xv;have C3:=U jq;have C4:=U Xu;have C5:=U Xa;have k0:¬((k:Int)+1<1):=V;go_in;go_wp2_with fail;apply C1.o.mono;rintro x l ⟨L,rfl,hL,P,α⟩;have Q:=aP hL P α;clear hL P α C1;go_wp2_with fail;apply(C2.o _).mono;rintro x w2 ⟨rfl,hG,T⟩;have H2:=aB hG T;clear hG T C2;go_wp2_with fail;apply(C3.o _).mono;rintro x f ⟨u,rfl,h,hm,rfl,hO,G,J,β⟩;have d:=cQ hO G J β;clear hO G J β C3;go_wp2_with fail;apply(C4.o _).mono;rintro x w4 ⟨rfl,hP,X⟩;have C:=aB hP X;clear hP X C4;go_wp2_with fail;apply(C5.o _).mono;rintro x p ⟨dm,mb,rfl,hD,K⟩;have s:=aB hD K;clear hD K C5;go_wp2;go_ret2;have z1:=Q.o.2.2.size;have z3:=d.o.2.2.2.size;have z5:=s.o.2.size;have y:S p (p.alloc (.cells #[Z ((k:Int)+1),N L.b,N l.heap.size,N h,N f.heap.size,N dm] 162)):=(aq _ _).alloc (ao _) _;have W:=Q.o.1.lt;have l2:=H2.o.1.blk.lt;have l3:=d.o.1.blk.lt;have γ:=d.o.1.map.lt;have l4:f.heap.size<w4.heap.size:=M.lt C.o.1;have E:∀j,mp l.heap.size (λ_=>.slice none 0 0) j->j=l.heap.size:=λj hj=>by rcases hj with hj|⟨i,_,hj⟩;exact hj;cases hj
 refine⟨p.heap.size,⟨L,fc n,l.heap.size,l.heap.size,λ_=>.slice none 0 0,λ_=>[],an.zero,0,h,hm,[],f.heap.size,λ_=>0,dm,mb,[],λj=>w4.heap.size<=j/\j<p.heap.size,gn⟩,O,?_,⟨O,O⟩,λj hj=>?_,((((Q.o.2.2.trans (H2.o.2.mono z1)).trans (d.o.2.2.2.mono V)).trans (C.o.2.mono V)).trans (s.o.2.mono V)).trans (y.mono V)⟩
 ·refine⟨M.new _ _ _,(((((Q.o.1.call H2.o.2).call d.o.2.2.2).call C.o.2).call s.o.2).call y),EF n,((((H2.o.1.call d.o.2.2.2).call C.o.2).call s.o.2).call y),?_,(((d.o.1.call C.o.2).call s.o.2).call y),⟨(λe he=>aK he),gM _⟩,(M.call (M.call C.o.1 s.o.2) y),λi _=>⟨show(0:Int)<=0 by decide,show(0:Int)<=18446744073709551615 by decide⟩,s.o.1.call y,?_,ao _,show gG an.zero<=0 by decide,hk,⟨(λe he=>aK he),λ_ _ x hx=>aK hx⟩⟩;show l.heap.size<=_;exact Nat.le_trans V y.size;refine⟨?_,?_,?_,?_,?_,?_,?_,?_,?_,?_,?_,?_,?_,?_,?_⟩
  ·exact(k8 (n:=l.heap.size) W λj e=>by have e:j=p.heap.size:=e;omega).symm
  ·exact(k8 (n:=w2.heap.size) (λj e=>aA (E j e)) λj e=>by have e:j=p.heap.size:=e;omega).symm
  ·exact(k8 (n:=f.heap.size) (λj e=>by rcases e with rfl|rfl<;>assumption) λj e=>by have e:j=p.heap.size:=e;omega).symm
  ·exact(k8 (n:=w4.heap.size) (λj e=>by have e:j=f.heap.size:=e;omega) λj e=>by have e:j=p.heap.size:=e;omega).symm
  ·exact(k8 (n:=p.heap.size) (λj e=>e.2) λj e=>by have e:j=p.heap.size:=e;omega).symm
  exact k8 (n:=l.heap.size) W λj e=>aA (E j e)
  ·exact k8 (n:=l.heap.size) W λj e=>by rcases e with rfl|rfl<;>have:=d.o.2.1<;>have:=d.o.2.2.1<;>omega
  ·exact k8 (n:=l.heap.size) W λj e=>by have e:j=f.heap.size:=e;omega
  exact k8 (n:=l.heap.size) W λj e=>aA e.1
  ·exact k8 (n:=w2.heap.size) (λj e=>aA (E j e)) λj e=>by rcases e with rfl|rfl<;>have:=d.o.2.1<;>have:=d.o.2.2.1<;>omega
  ·exact k8 (n:=w2.heap.size) (λj e=>aA (E j e)) λj e=>by have e:j=f.heap.size:=e;omega
  exact k8 (n:=w2.heap.size) (λj e=>aA (E j e)) λj e=>aA e.1
  ·exact k8 (n:=f.heap.size) (λj e=>by rcases e with rfl|rfl<;>assumption) λj e=>by have e:j=f.heap.size:=e;omega
  ·exact k8 (n:=f.heap.size) (λj e=>by rcases e with rfl|rfl<;>assumption) λj e=>aA e.1
  exact k8 (n:=w4.heap.size) (λj e=>by have e:j=f.heap.size:=e;omega) λj e=>e.1
 rcases hj with rfl|hj|hj|hj|rfl|hj;omega;exact Q.o.2.1 j hj;have:=E j hj;omega;rcases hj with rfl|rfl;have:=d.o.2.1;omega;have:=d.o.2.2.1;omega;show w.heap.size<=f.heap.size;omega;have:=hj.1;omega
def gH(w:D)(r k:Nat)(R:bX)(n:Nat)(m':aG)(w':D):Prop:=∃b,cB w' r k b n/\(b.m=m'/\b.aeJ=R.aeJ/\b.gn=R.gn)/\aa (R.F r) w w'/\∀j,b.F r j->R.F r j\/w.heap.size<=j
section
variable{w w' w'':D}{r k n n':Nat}{R:bX}{m' m'':aG}
def gH.same(h:cB w r k R n)(b:S w w')(e:n<=n'):gH w r k R n' R.m w':=⟨R,(h.call b).more e,⟨O,O,O⟩,aa.of_below b,λj d=>.inl d⟩
def gH.trans{R1:bX}(i:aa (R.F r) w w')(e:∀j,R1.F r j->R.F r j\/w.heap.size<=j)(h:gH w' r k R1 n m'' w'')(o:R1.aeJ=R.aeJ:=by rfl)(u:R1.gn=R.gn:=by rfl):gH w r k R n m'' w'':=by obtain⟨l,p,b,s,m⟩:=h;have x:=i.size;refine⟨l,p,⟨b.1,b.2.1.trans o,b.2.2.trans u⟩,i.trans' s λj f d=>?_,λj f=>?_⟩;rcases e j d with h|h;exact h;omega;rcases m j f with h|h;exact e j h;exact .inr V
def cB.led_(h:cB w r k R n)(i:bI w' R.L m')(e:m'.ok)(m:aa R.L.mem w w')(o:n<=n')(l:gG m'.kn<=n'):cB w' r k {R with m:=m'} n':=by have d:=h.ap;exact⟨m.blk h.blk λb=>d.ab r O b,i,e,h.log.mod m λj b f=>d.bc j f b,aZ h.bs m.size,⟨m.blk h.hold.blk λb=>d.bd _ b (.inl O),h.hold.map.same (m.block _ h.hold.map.lt λb=>d.bd _ b (.inr O))⟩,h.hok,m.blk h.peer λb=>d.be _ b O,h.pok,h.dem.mod m λj b f=>d.bf j f b,d,aZ h.cn o,l,h.k6,h.gs⟩
def cB.setLog(h:cB w r k R n)(y:rN w w' R.base R.b R.v R.c R.gn)(F:n<=n')(C:R.c+1<=n'):gH w r k R n' R.m w':=by
 obtain⟨s,i,o,u,E,l,J,m,p⟩:=y;have f:=h.inh;have d:=h.ap;have jq:∀{G:Nat->Prop},dJ (mp R.b R.v) G->(∀j,G j->j<w.heap.size)->dJ (mp R.b s) G:=λx l j hj e=>by rcases p j hj with h1|h1;exact x j h1 e;have:=l j e;omega
 refine⟨{R with v:=s,Ls:=i,lk:=o,c:=u},?_,⟨O,O,O⟩,m.mono λj hj=>.inr (.inr (.inl hj)),λj hj=>?_⟩
 ·exact⟨m.blk h.blk λhj=>d.ac r O hj,h.led.mod m λj hj e=>d.bc j hj e,h.ok,E,aZ h.bs m.size,⟨m.blk h.hold.blk λhj=>d.cd _ hj (.inl O),h.hold.map.same (m.block _ h.hold.map.lt λhj=>d.cd _ hj (.inr O))⟩,h.hok,m.blk h.peer λhj=>d.ce _ hj O,h.pok,h.dem.mod m λj hj e=>d.cf j e hj,
   ⟨d.ab,(jq d.ac.symm λj hj=>f j (.inl hj)).symm,d.ad,d.ae,d.af,(jq d.bc.symm λj hj=>f j (.inr (.inl hj))).symm,d.bd,d.be,d.bf,jq d.cd λj hj=>f j (.inr (.inr (.inr (.inl hj)))),jq d.ce λj hj=>f j (.inr (.inr (.inr (.inr (.inl hj))))),jq d.cf λj hj=>f j (.inr (.inr (.inr (.inr (.inr hj))))),d.de,d.df,d.ef⟩,
   by show u<=n';omega,by have:=h.sn;show gG R.m.kn<=n';omega,h.k6,⟨h.gs.1,l⟩⟩
 rcases hj with hj|hj|hj|hj|hj|hj;exact .inl (.inl hj);exact .inl (.inr (.inl hj));rcases p j hj with h1|h1;exact .inl (.inr (.inr (.inl h1)));exact .inr h1;exact .inl (.inr (.inr (.inr (.inl hj))));exact .inl (.inr (.inr (.inr (.inr (.inl hj)))));exact .inl (.inr (.inr (.inr (.inr (.inr hj)))))
def cB.hold_(h:cB w r k R n){f:List z}(p:bl w' R.h R.hm f)(m:aa (aR R.hm) w w')(l:(∀e∈f,e.ok)/\f.length<=64)(o:∀e∈f,R.gn e):cB w' r k {R with aeJ:=f} n:=by have d:=h.ap;have m:aa (BM R.h R.hm) w w':=m.mono λj b=>.inr b;exact⟨m.blk h.blk λb=>d.ad r O b,h.led.mod m λj b i=>d.bd j b i,h.ok,h.log.mod m λj b i=>d.cd j b i,aZ h.bs m.size,p,l,m.blk h.peer λb=>d.de _ b O,h.pok,h.dem.mod m λj b i=>d.df j i b,d,h.cn,h.sn,h.k6,⟨o,h.gs.2⟩⟩
def cB.setPeer(h:cB w r k R n){i:Nat->Int}(o:sq w' R.bp i)(l:r7 i)(m:aa (aR R.bp) w w'):gH w r k R n R.m w':=by have d:=h.ap;refine⟨{R with f:=i},?_,⟨O,O,O⟩,m.mono λj b=>.inr (.inr (.inr (.inr (.inl b)))),λj b=>.inl b⟩;exact⟨m.blk h.blk λb=>d.ae r O b,h.led.mod m λj b e=>d.be j b e,h.ok,h.log.mod m λj b e=>d.ce j b e,aZ h.bs m.size,⟨m.blk h.hold.blk λb=>d.de _ (.inl O) b,h.hold.map.same (m.block _ h.hold.map.lt λb=>d.de _ (.inr O) b)⟩,h.hok,o,l,h.dem.mod m λj b e=>d.ef j e b,d,h.cn,h.sn,h.k6,h.gs⟩
def cB.setDem(h:cB w r k R n){l:List (Int×Option Nat)}{d:Nat->Prop}(p:fV w' d R.dm R.mb l)(m:aa R.FD w w')(i:∀j,d j->R.FD j\/w.heap.size<=j):gH w r k R n R.m w':=by
 have f:=h.inh;have b:=h.ap;have jq:∀{G:Nat->Prop},dJ G R.FD->(∀j,G j->j<w.heap.size)->dJ G d:=λo s j e hj=>by rcases i j hj with h1|h1;exact o j e h1;have:=s j e;omega
 refine⟨{R with aeI:=l,FD:=d},?_,⟨O,O,O⟩,m.mono λj hj=>.inr (.inr (.inr (.inr (.inr hj)))),λj hj=>?_⟩
 ·exact⟨m.blk h.blk λhj=>b.af r O hj,h.led.mod m λj hj e=>b.bf j hj e,h.ok,h.log.mod m λj hj e=>b.cf j hj e,aZ h.bs m.size,⟨m.blk h.hold.blk λhj=>b.df _ (.inl O) hj,h.hold.map.same (m.block _ h.hold.map.lt λhj=>b.df _ (.inr O) hj)⟩,h.hok,m.blk h.peer λhj=>b.ef _ O hj,h.pok,p,
   ⟨b.ab,b.ac,b.ad,b.ae,jq b.af λj hj=>f j (.inl hj),b.bc,b.bd,b.be,jq b.bf λj hj=>f j (.inr (.inl hj)),b.cd,b.ce,jq b.cf λj hj=>f j (.inr (.inr (.inl hj))),b.de,jq b.df λj hj=>f j (.inr (.inr (.inr (.inl hj)))),jq b.ef λj hj=>f j (.inr (.inr (.inr (.inr (.inl hj)))))⟩,h.cn,h.sn,h.k6,h.gs⟩
 rcases hj with hj|hj|hj|hj|hj|hj;exact .inl (.inl hj);exact .inl (.inr (.inl hj));exact .inl (.inr (.inr (.inl hj)));exact .inl (.inr (.inr (.inr (.inl hj))));exact .inl (.inr (.inr (.inr (.inr (.inl hj)))));rcases i j hj with h1|h1;exact .inl (.inr (.inr (.inr (.inr (.inr h1)))));exact .inr h1
end
def dr.call'(h:dr w)(b:S w w'):dr w':=h.call b h.lt.1 h.lt.2
def Fm{R:bX}(h:cB w r k R n)(hn:n+1<=900000)(hT:dr w){e:z}(he:e.ok)(β:R.gn e):Calls prog 87 #[N r,.agg (aj e)] w λx w'=>x=.returned (Z (cU R.m e).1)/\gH w r k R (n+1) (cU R.m e).2 w':=by
 have D0:S w (w.alloc (.cells (aj e) 64)):=(aq _ _).alloc (ao _) _;have E:ax (w.alloc (.cells (aj e) 64)) [(w.heap.size,64,aj e),(r,162,ff R k)]:=(ax.cons h.blk ax.nil).push O;have aC:(w.alloc (.cells (aj e) 64)).heap.size=w.heap.size+1:=ah;generalize hW:w.alloc (.cells (aj e) 64)=W0 at D0 E aC;have d:=iA h E D0 hT he;have HF:=U (λ(W:D) (h:S W0 W)=>ar (E.call h).rules (ar (E.call h).lts (gj (E.call h).head)));clear h D0 E hT he;go_in;go_wp2_with fail;refine eS 5 Y ah aS aS aS aS ?_;simp only[cR]
 iterate 5 refine En HF.o ?_
 refine dg ?_;intro _ W1 y _;have D1:=d.o.2.2.1.trans (y.mono d.o.2.2.1.size);have R1:=d.o.1.call D1;have CA:=U (Gs R1.led R1.ok (d.o.2.2.2.1.call' D1) e d.o.2.2.2.2);have B1:=d.o.2.1.call y;have i:=aP D1 R1 B1;clear y D1 R1 B1 HF;go_wp2_with fail;apply CA.o.mono;rintro x W2 ⟨rfl,hl,hm⟩;have K:∀j,R.L.mem j->j<w.heap.size:=λj b=>d.o.1.inh j (.inr (.inl b));have S2:=i.o.2.1.led_ hl (DF i.o.2.1.ok d.o.2.2.2.2) hm (qi n) (cF (Kp i.o.2.1.ok d.o.2.2.2.2) i.o.2.1.sn);have X:=i.o.2.2.mod hm ⟨λb=>aA (K _ b),λb=>d.o.1.ap.ab r O b,trivial⟩;have H2:=aP S2 X (hm.mono (G:=R.F r) λj b=>.inr (.inl b));have T:=U (λ(W:D) (h:S W2 W)=>ar (X.call h).rules (ar (X.call h).lts (gj (X.call h).head)));obtain⟨e1,u⟩:=aM ((cU R.m e).1);have α:=U u;rw[u];clear hl hm K S2 X CA u;by_cases hz:e1=0
 ·subst hz;go_wp2_with fail;refine eS 5 Y ah aS aS aS aS ?_;simp only[cR]
  iterate 5 refine En T.o ?_
  refine dg ?_;intro _ W3 C _;have γ:=U C;have J:=H2.o.1.call C;have P:=i.o.2.1.cn;have CG:=U (Ib J.log (by show R.c+1<=900000;omega) J.bs d.o.2.2.2.2 (Gl:=R.gn) J.gs.2 β);have Q:=aB J P;clear C J T P;go_wp2_with fail;apply CG.o.mono;rintro x W4 ⟨⟨nn,rfl⟩,f⟩;have S4:=Q.o.1.setLog (n':=n+1) f (ao _) (by have:=Q.o.2;show R.c+1<=n+1;omega);have HS:=U S4;clear S4 f CG;go_wp2;go_ret;have δ:aa (R.F r) W1 W3:=H2.o.2.2.call γ.o;exact⟨by rw[α.o];rfl,gH.trans (R1:=R) (aa.of_below i.o.1) (λj b=>.inl b) (gH.trans (R1:={R with m:=(cU R.m e).2}) δ (λj b=>.inl b) HS.o)⟩
 have ε:(e1==0)=false:=az hz;go_wp2;go_ret;exact⟨by rw[α.o];rfl,gH.trans (R1:=R) (aa.of_below i.o.1) (λj b=>.inl b) ⟨_,H2.o.1,⟨O,O,O⟩,H2.o.2.2,λj b=>.inl b⟩⟩
def ux(x:z)(W:D):∃b,(eQ 64 (N W.heap.size) (.agg (aj x))).run prog (W.alloc (.cells (aj z.zero) 64))=.ok .skip b/\M b W.heap.size 64 (aj x)/\S W b/\b.heap.size=W.heap.size+1:=by have d:M (W.alloc (.cells (aj z.zero) 64)) W.heap.size 64 (aj z.zero):=M.new _ _ _;exact⟨_,jG d O x,dt d (aj x),(fl _ _ _).below ((aq _ _).alloc (ao _) _) (ao _) (λ_ h=>aK h),by simp[World.setRow]⟩
def fW(w:D)(r k:Nat)(R:bX)(n:Nat)(w':D)(Q:bX->Prop):Prop:=∃b,cB w' r k b n/\Q b/\aa (R.F r) w w'/\∀j,b.F r j->R.F r j\/w.heap.size<=j
def gH.weak{R:bX}{m':aG}{Q:bX->Prop}(h:gH w r k R n m' w')(i:∀R',R'.m=m'->R'.aeJ=R.aeJ->R'.gn=R.gn->Q R'):fW w r k R n w' Q:=by obtain⟨R',e,b,f,d⟩:=h;exact⟨R',e,i R' b.1 b.2.1 b.2.2,f,d⟩
def fW.start{R:bX}{Q:bX->Prop}(h:cB w r k R n)(d:Q R):fW w r k R n w Q:=⟨R,h,d,aa.refl,λj b=>.inl b⟩
def fW.call{R:bX}{Q:bX->Prop}(h:fW w r k R n w' Q)(b:S w' w''):fW w r k R n w'' Q:=by obtain⟨f,i,d,j,e⟩:=h;exact⟨f,i.call b,d,j.call b,e⟩
def fW.trans{R R1:bX}{Q:bX->Prop}(f:aa (R.F r) w w')(d:∀j,R1.F r j->R.F r j\/w.heap.size<=j)(h:fW w' r k R1 n w'' Q):fW w r k R n w'' Q:=by obtain⟨i,o,l,p,m⟩:=h;have s:=f.size;refine⟨i,o,l,f.trans' p λj e b=>?_,λj e=>?_⟩;rcases d j b with h|h;exact h;omega;rcases m j e with h|h;exact d j h;exact .inr V
def dr.mod{F:Nat->Prop}(h:dr w)(m:aa F w w')(e:¬F 2)(f:¬F 1):dr w':=
 ⟨λi u b=>by rw[World.cell?_of_block (a:=(I 2 i)) (m.block _ h.lt.1 e)];exact h.k i u b,λi u b=>by rw[World.cell?_of_block (a:=(I 1 i)) (m.block _ h.lt.2 f)];exact h.d i u b⟩
structure qN(F:Nat->Prop):Prop where
 k:¬F 2
 d:¬F 1
def Po{R:bX}(h:cB w r k R n)(hT:dr w)(γ:qN (R.F r)){L:List z}(hR:fS w base v L)(hL:∀e∈L,e.ok)(hn:n+L.length<=900000)(α:∀g,v.ownBlock=some g->¬R.F r g)(δ:∀e∈L,R.gn e):
  Calls prog 61 #[N r,v] w λx w'=>∃e:Int,x=.returned (Z e)/\(e=0↔(fC R.m L).isSome=true)/\fW w r k R (n+L.length) w' λu=>u.gn=R.gn/\(e=0->fC R.m L=some u.m):=by
 obtain⟨A,c,rfl,ψ,υ⟩:=hR.sl;have s:=js h hT γ hR hL α;have ν:=U δ;clear h hT γ hR hL α δ;go_wp2;go_loopw [12] (λi wr=>∃j:Nat,j<=L.length/\i=Z j/\fW w r k R (n+j) wr λu=>u.gn=R.gn/\fC R.m (L.take j)=some u.m) (λi _=>L.length-(intOf i).toNat);exact⟨0,V,O,fW.start s.o.1 ⟨O,O⟩⟩;obtain⟨j,hj,rfl,hW⟩:=hrel;by_cases θ:j<L.length
 ·have hd:=cO ((j:Int)<L.length);obtain⟨y,hy⟩:∃y,L[j]? =some y:=⟨L[j],bY θ⟩;obtain⟨R1,J,⟨E,p⟩,l,ζ⟩:=hW;obtain⟨g,κ,hs,β,μ,ξ,φ⟩:=s.o.2.2.2.1.sl_pos V;obtain⟨rfl,ι⟩:A=some (I g 0)/\c=κ:=by injection hs with a b c;exact⟨a,c⟩
  have C:=l.row s.o.2.2.2.1 s.o.2.2.2.2.2;have η:=C.rng l9 hy;have χ:=eO (P:=prog) η underlying64 O (iQ y);obtain⟨W3,σ,B3,D3,z3⟩:=ux y wr;have π:=gj B3;have ε:=(s.o.2.1.mod l s.o.2.2.1.k s.o.2.2.1.d).call' D3;have CA:=U (Fm (J.call D3) V ε (s.o.2.2.2.2.1 y (cX hy)) (by rw[E];exact ν.o y (cX hy)));have HA:=aB E (Nr p hy);have HX:=cQ l ζ D3 J;obtain⟨q3,f3⟩:=B3.rules;clear J l ζ C η ε hs β μ ι hy B3 D3 ξ E p;go_wp2_with fail;apply CA.o.mono;rintro x W4 ⟨rfl,W⟩;obtain⟨e1,G⟩:=aM ((cU R1.m y).1);have H4:=U (fW.trans (R1:=R1) (HX.o.1.call HX.o.2.2.1) HX.o.2.1 (gH.weak (Q:=λu=>u.gn=R.gn/\u.m=(cU R1.m y).2) W λK a b c=>⟨c.trans HA.o.1,a⟩));have HE:=U G;rw[G];clear W CA G;by_cases hz:e1=0
  ·subst hz;go_wp2;go_roundw
   ·obtain⟨K,T,f,k2,X⟩:=H4.o;exact⟨j+1,V,by go_num,⟨K,T,⟨f.1,by rw[f.2];exact HA.o.2.1 HE.o⟩,k2,X⟩⟩
   simp[intOf];omega
  have τ:(e1==0)=false:=az hz;go_wp2;go_ret;obtain⟨K,T,f,k2,X⟩:=H4.o;have hn:=HA.o.2.2 (by rw[HE.o];exact hz);exact⟨e1,O,by rw[hn];simpa using hz,K,T.more V,⟨f.1,λh=>absurd h hz⟩,k2,X⟩
 obtain rfl:j=L.length:=V;have hd:=cP ((L.length:Int)<L.length);have HX:=U hW;clear hW;go_wp2;go_ret;obtain⟨K,T,f,k2,X⟩:=HX.o;rw[jt]at f;exact⟨0,O,by rw[f.2];simp,K,T,⟨f.1,λ_=>f.2⟩,k2,X⟩
def fB.mod{b:List ay}{F:Nat->Prop}{w0:D}(h:fB b F B w0 w)(hF:∀k,¬F k):aa (λk=>B<=k) w0 w:=
 ⟨h.os,h.tape,h.output,h.size,λk d e=>by rcases h.block k d with h1|⟨h1,-⟩|h1;exact h1;exact absurd h1 e;exact absurd h1 (hF k)⟩
def um(m:aG)(k:Nat)(a:dT):((bB m k a).1=z.zero/\(bB m k a).2.2=m/\((gA (ec m) ((k:Int)+1) a=(true,(bB m k a).2.1))\/(bB m k a).2.1≠0))\/
  ((bB m k a).1=dn m k a/\(bB m k a).2.1=0/\fC m [(bB m k a).1]=some (bB m k a).2.2):=by
 unfold bB;split
 ·rename_i d;exact .inl ⟨O,O,.inl (Prod.ext d O)⟩
 split
 ·rename_i b;refine .inr ⟨O,O,?_⟩;have e:(cU m (dn m k a)).1=0:=by unfold cU;rw[av b]
  rw[LI,av e]
 rename_i b;exact .inl ⟨O,O,.inr b⟩
def wY(m:aG)(k:Nat)(a:dT):(bB m k a).1=z.zero\/((bB m k a).1.w=k/\(bB m k a).1≠z.zero):=by rcases um m k a with⟨h,-⟩|⟨h,-⟩;exact .inl h;right;rw[h];refine⟨by show((k:Int)+1-1).toNat=k;omega,λh=>?_⟩;have:(k:Int)+1=0:=bH z.o h;omega
def z.zero_ok:z.zero.ok:=⟨ai,ai,an.ok_zero,ai,ai,ai,ai,ai,ai⟩
def tc{m:aG}(b:m.ok)(d:k<6)(e:a.ok):(bB m k a).2.2.ok/\gG (bB m k a).2.2.kn<=gG m.kn+1/\(bB m k a).1.ok:=by unfold bB;split;exact⟨b,by show gG m.kn<=_;omega,z.zero_ok⟩;split;exact⟨DF b (uC b d e),Kp b (uC b d e),uC b d e⟩;exact⟨b,by show gG m.kn<=_;omega,z.zero_ok⟩
def gH.row{wo:D}{R Ro:bX}{m':aG}(h:gH w r k R n m' w')(p:aa (Ro.F r) wo w)(l:∀j,R.F r j->Ro.F r j\/wo.heap.size<=j)(y:¬R.F r g)(G:g<w.heap.size)(E:wo.heap.size<=g)(f:aH w' w'' g none)(s:R.aeJ=Ro.aeJ:=by rfl)(i:R.gn=Ro.gn:=by rfl):gH wo r k Ro n m' w'':=by obtain⟨x,u,e,C,o⟩:=h;have m:aa (aR g) w' w'':=aa.of_fr1 f O;refine⟨x,u.mod m λj d b=>?_,⟨e.1,e.2.1.trans s,e.2.2.trans i⟩,(p.trans' C λj d hF=>?_).trans' m λj d b=>?_,λj d=>?_⟩;have b:j=g:=b;subst b;rcases o j d with h|h;exact y h;omega;rcases l j hF with h|h;exact h;omega;have b:j=g:=b;omega;rcases o j d with h|h;exact l j h;exact .inr V
def Gc{R:bX}(h:cB w r k R n)(hn:n+1<=900000)(hT:dr w)(ha:a.ok)(γ:(bB R.m k a).1≠z.zero->R.gn (bB R.m k a).1):
  Calls prog 248 #[N r,.agg (bE a)] w λx w'=>x=.returned (tC (bB R.m k a))/\gH w r k R (n+1) (bB R.m k a).2.2 w':=by
 have D0:S w ((w.alloc (.cells (bE a) 55)).alloc (.cells (aj z.zero) 64)):=((aq _ _).alloc aQ _).alloc aQ _;have B0:ax ((w.alloc (.cells (bE a) 55)).alloc (.cells (aj z.zero) 64)) [(w.heap.size+1,64,aj z.zero),(w.heap.size,55,bE a),(r,162,ff R k)]:=((ax.cons h.blk ax.nil).push (g:=w.heap.size) O).push (g:=w.heap.size+1) ah;have aC:((w.alloc (.cells (bE a) 55)).alloc (.cells (aj z.zero) 64)).heap.size=w.heap.size+2:=ah;obtain⟨W0,δ⟩:=cJ ((w.alloc (.cells (bE a) 55)).alloc (.cells (aj z.zero) 64));rw[<-δ]at D0 B0 aC;have HW:=U δ;have HQ:=tc h.ok h.k6 ha;have R0:=h.call D0;have J:∀j,R.L.mem j->j<w.heap.size:=λj i=>h.inh j (.inr (.inl i));have l:¬R.L.mem (w.heap.size+1)/\¬R.L.mem w.heap.size/\¬R.L.mem r:=⟨λi=>aA (J _ i),λi=>aA (J _ i),λi=>h.ap.ab r O i⟩;have HF:=U (λ(X:D) (y:aa R.L.mem W0 X)=>And.intro (B0.mod y ⟨l.1,l.2.1,l.2.2,trivial⟩).rules (And.intro (B0.mod y ⟨l.1,l.2.1,l.2.2,trivial⟩).lts (uW (B0.mod y ⟨l.1,l.2.1,l.2.2,trivial⟩).drop.head)));have CA:=U (λ(X:D) (y:S W0 X)=>Yn (R0.led.call y) h.ok ((hT.call' D0).call' y) (aA h.sn) h.k6 ha);have ζ:=U (show∀j,R.L.mem j->j<W0.heap.size from λj i=>aA (J j i));have HI:=U h.inh;have K:=U (And.intro R0 (And.intro B0 (And.intro D0 (And.intro J (And.intro l aC)))));clear h hT ha B0 D0 R0 δ J l aC;generalize bB R.m k a=aeT at HQ CA γ⊢;obtain⟨E,er,m'⟩:=aeT;have T:=U HQ;have ν:=U γ;clear HQ γ;dsimp only at CA T⊢;go_in;go_wp2_with fail;refine dI HW.o ?_;clear HW;refine dL [64] R.L.mem 9 ζ.o Y Y ?_
 iterate 9 refine nJ HF.o ?_
 refine jl (λ_=>rfl) O 265 (λ_=>#[N R.L.b,Z ((k:Int)+1),.agg (bE a)]) (λ_:Unit=>.tuple #[.agg (aj E),Z er]) () (λκ r Y'=>bI Y' R.L m') cK (λ_ κ y=>?ca2) ?_
 case ca2=>refine(CA.o κ y).mono ?_;rintro r Y' ⟨rfl,h1,h2⟩;exact⟨(),O,h1,h2⟩
 simp only[aD]
 iterate 3 refine nJ HF.o ?_
 refine ng (λ_=>rfl) 64 (aj z.zero) nK ?_;simp only[aD];refine o8 (λ_=>rfl) 13 64 64 14 _ _ O ai O ah ζ.o _ _ _ (λ_=>rfl) (λ_=>rfl) cD (iQ z.zero) (λ_=>rfl) (λ_=>wN _) ?_;simp only[aD];refine nJ HF.o ?_;refine cT Y ?_;rintro⟨⟨_,_⟩,p⟩ W1 hC hR;replace hC:aa R.L.mem W0 W1:=hC;dsimp only;simp only[d8,Nat.reduceAdd,Nat.zero_add]at hR;obtain⟨w1,w2,-,-,g3,g4⟩:=fK (hR 9 _ _ cD) O;obtain⟨g,v,hx,n6,B6⟩:∃g v,[p,Value.agg (aj E)]=[N g,v]/\W0.heap.size<=g/\M W1 g 64 (Value.toArr v):=hR 14 _ _ cD;injection hx with h6 ε;injection ε with ε;subst h6 ε;replace B6:M W1 g 64 (aj E):=B6;have L1:bI W1 R.L m':=g3.mod (g4.mod λ_ h=>h.1 O) λj i y=>aA (ζ.o j i);have R1:=K.o.1.led_ L1 T.o.1 hC (qi n) (cF T.o.2.1 K.o.1.sn);have B1:ax W1 [(g,64,aj E),(w.heap.size+1,64,aj z.zero),(w.heap.size,55,bE a),(r,162,ff R k)]:=ax.cons B6 (K.o.2.1.mod hC ⟨K.o.2.2.2.2.1.1,K.o.2.2.2.2.1.2.1,K.o.2.2.2.2.1.2.2,trivial⟩);have M1:aa (R.F r) w W1:=(aa.of_below K.o.2.2.1).trans (hC.mono (G:=R.F r) λj i=>.inr (.inl i));have C:=cQ R1 B1 M1 n6;clear hC hR g3 g4 n6 B6 L1 R1 B1 M1 HF CA;have ι:=gj C.o.2.1.head;have Q:∀j,w.heap.size<=j->¬R.F r j:=λj i hF=>aA (HI.o j hF);by_cases hz:E=z.zero
 ·have η:decide (E=z.zero)=true:=by simp[hz]
  have μ:=jG C.o.2.1.drop.head O E;have HX:=aB (dt C.o.2.1.drop.head (aj E)) (gH.row (wo:=w) (Ro:=R) (gH.same C.o.1 (aq _ _) (ao _)) C.o.2.2.1 (λj i=>.inl i) (Q (w.heap.size+1) V) C.o.2.1.drop.head.lt V (fl W1 (w.heap.size+1) (aj E)));clear Q;subst hz;go_wp2_with fail;refine kA (s:=4) (u:=5) results248 O O HX.o.1 underlying64 O (iQ _) O ?_;exact⟨O,HX.o.2⟩
 have η:decide (E=z.zero)=false:=by simp[hz]
 have P:=U Q;have θ:=U (λ(W:D) (h:S W1 W)=>ar (C.o.2.1.call h).rules (ar (C.o.2.1.call h).lts (gj (C.o.2.1.call h).head)));clear Q;go_wp2_with fail;refine eS 5 Y ah aS aS aS aS ?_;simp only[cR]
 iterate 5 refine En θ.o ?_
 refine dg ?_;intro _ W3 α _;have R3:=C.o.1.call α;have B3:=C.o.2.1.call α;have M3:=C.o.2.2.1.call α;have CG:=U (Ib R3.log (by have:=K.o.1.cn;show R.c+1<=900000;omega) R3.bs T.o.2.2 (Gl:=R.gn) R3.gs.2 (ν.o hz));have H3:=aP R3 B3 M3;clear α R3 B3 M3 θ ι;go_wp2_with fail;apply CG.o.mono;rintro x W4 ⟨⟨nn,rfl⟩,β⟩;have S4:=H3.o.1.setLog (n':=n+1) β (ao _) (by have:=K.o.1.cn;show R.c+1<=n+1;omega);obtain⟨v',ξ,π,c',-,-,-,ml,-⟩:=β;have B4:=H3.o.2.1.mod ml ⟨λi=>P.o g (cF C.o.2.2.2 K.o.2.2.1.size) (.inr (.inr (.inl i))),λi=>P.o (w.heap.size+1) V (.inr (.inr (.inl i))),λi=>P.o w.heap.size V (.inr (.inr (.inl i))),λi=>K.o.1.ap.ac r O i,trivial⟩;have ι:=gj B4.head;have μ:=jG B4.drop.head O E;have HX:=aB (dt B4.drop.head (aj E)) (gH.row (wo:=w) (Ro:=R) S4 H3.o.2.2 (λj i=>.inl i) (P.o (w.heap.size+1) V) H3.o.2.1.drop.head.lt V (fl W4 (w.heap.size+1) (aj E)));clear S4 ml B4 CG η;go_wp2_with fail;refine kA (s:=4) (u:=5) results248 O O HX.o.1 underlying64 O (iQ _) O ?_;exact⟨O,HX.o.2⟩
def jg.path_u{T:List (Int×Int)}(h:jg T)(x:Int):∀y∈aL T x,bo y:=λy e=>by
 have b:=qn e;cases d:lk T y with
 |none=>rw[d]at b;cases b
 |some p=>exact(h.rg _ (dX d)).1
def jg.path_le{T:List (Int×Int)}(h:jg T)(x:Int):(aL T x).length<=1000:=cF (sT T x) h.le
def XY{R:bX}(h:cB w r k R n)(hn:n+1<=900000)(hT:dr w)(ha:a.ok)(σ:bo now)(π:(bB R.m k a).1≠z.zero->R.gn (bB R.m k a).1):
  Calls prog 233 #[N r,.agg (bE a),q now] w λx w'=>x=.returned (tC (bB R.m k a))/\gH w r k R (n+1) (bB R.m k a).2.2 w':=by
 have D0:S w ((w.alloc (.cells (bE a) 55)).alloc (.cells (aj z.zero) 64)):=((aq _ _).alloc aQ _).alloc aQ _;have B0:ax ((w.alloc (.cells (bE a) 55)).alloc (.cells (aj z.zero) 64)) [(w.heap.size+1,64,aj z.zero),(w.heap.size,55,bE a)]:=(ax.nil.push (g:=w.heap.size) O).push (g:=w.heap.size+1) ah;have aC:((w.alloc (.cells (bE a) 55)).alloc (.cells (aj z.zero) 64)).heap.size=w.heap.size+2:=ah;obtain⟨W0,T⟩:=cJ ((w.alloc (.cells (bE a) 55)).alloc (.cells (aj z.zero) 64));rw[<-T]at D0 B0 aC;have HW:=U T;have HI:=U h.inh;have HQ:=U (tc h.ok h.k6 ha);have R0:=h.call D0;have CA:=U (Gc R0 hn (hT.call' D0) ha π);clear π;have ν:=uW B0.drop.head;have HA:=U ha;have HH:=U (And.intro R0 (And.intro B0 (And.intro D0 (And.intro σ aC))));rw[T]at ν;clear h hT ha B0 D0 R0 T aC;generalize bB R.m k a=aeT at HQ CA⊢;obtain⟨E,er,m'⟩:=aeT;dsimp only[tC]at HQ CA⊢;go_in;go_wp2_with fail;generalize hg:(w.alloc _).alloc _=X0;obtain rfl:W0=X0:=HW.o.trans hg;clear HW hg ν;apply CA.o.mono;rintro x W1 ⟨rfl,R1,ξ,ψ,ε,μ⟩;have Δ:=HH.o.2.2.2.2;have α:∀j,w.heap.size<=j->¬R.F r j:=λj f hF=>aA (HI.o j hF);have κ:∀j,w.heap.size<=j->j<w.heap.size+2->¬R1.F r j:=λj f Ξ hF=>by rcases μ j hF with h|h;exact α j f h;omega
 have B1:=HH.o.2.1.mod ε ⟨α (w.heap.size+1) V,α w.heap.size V,trivial⟩;have τ:=jG B1.head O E;have M1:aa (R.F r) w W1:=(aa.of_below HH.o.2.2.1).trans ε;have fr:=fl W1 (w.heap.size+1) (aj E);have R2:=ξ.mod (aa.of_fr1 (F:=aR (w.heap.size+1)) fr O) λj f J=>by have J:j=w.heap.size+1:=J;exact κ j V V f
 have M2:aa (R.F r) w (W1.setRow (w.heap.size+1) (aj E)):=M1.trans' (aa.of_fr1 (F:=aR (w.heap.size+1)) fr O) λj f J=>by have J:j=w.heap.size+1:=J;omega
 have B2:=B1.row (by exact⟨V,trivial⟩) (aj E);have l:=U (show∃W2,W2=W1.setRow (w.heap.size+1) (aj E)from⟨_,O⟩);obtain⟨W2,θ⟩:=l.o;rw[<-θ]at R2 M2 B2;have l:=U θ;have d:=js R2 M2 B2 κ μ ψ;clear fr M1 B1 κ α μ ψ ε ξ R2 M2 B2 θ CA;have φ:=U (show∀(W:D),S W2 W->gH w r k R (n+1) m' (W.setRow (w.heap.size+1) (aj E))from λW i=>by have fr:=fl W (w.heap.size+1) (aj E);refine⟨R1,(d.o.1.call i).mod (aa.of_fr1 (F:=aR (w.heap.size+1)) fr O) λj f J=>?_,d.o.2.2.2.2.2,(d.o.2.1.call i).trans' (aa.of_fr1 (F:=aR (w.heap.size+1)) fr O) λj f J=>?_,λj f=>?_⟩;have J:j=w.heap.size+1:=J;exact d.o.2.2.2.1 j V V f;have J:j=w.heap.size+1:=J;omega;rcases d.o.2.2.2.2.1 j f with h|h;exact .inl h;exact .inr V);have η:=gj d.o.2.2.1.head;have δ:=jG d.o.2.2.1.head O E;have HB:=U (dt d.o.2.2.1.head (aj E));have υ:=d.o.2.2.1.rules;have χ:=d.o.2.2.1.lts;rw[l.o]at η δ υ χ;by_cases hz:er=11
 ·subst hz;by_cases Θ:a.k=3
  ·go_wp2_with fail;rw[<-l.o];have B3:ax W2 [(r,162,ff R1 k),(w.heap.size+1,64,aj E),(w.heap.size,55,bE a)]:=ax.cons d.o.1.blk d.o.2.2.1;have HF:=U (λ(X:D) (i:aa bC W2 X)=>ar (B3.call i.no).rules (B3.call i.no).lts);have HN:=d.o.1.led;have β:=d.o.1.ok;have CL:=U (λ(X:D) (i:aa bC W2 X)=>Xz (HN.call i.no) β (x:=a.n) HA.o.n d.o.1.k6 a.a (β.tr.path_u _) (β.tr.path_le _));clear η δ υ χ τ HN β;refine dL [] bC 18 (λ_ h=>h.elim) Y Y ?_
   iterate 12
    first
    |refine gS rfl ?_;apply cV
     intro _ ρ K C G W i;have hq:=HF.o W i;simp[execOp,go_sem,K,C,G,hq,ff,bE]<;>exact O
    |refine gz (λ_=>rfl) ?_
    |refine lG Y rfl ?_;apply cV
     intro u ρ K C G w;simp[execOp,go_sem,K,C,G,ff,bE]<;>exact O
    simp only[aD]
   refine pn (λ_=>rfl) (eJ O) 249 (λ_=>#[N R1.L.b,Z ((k:Int)+1),q a.n,Z a.a]) (λp:Int×Int=>.tuple #[q p.1,Z p.2]) (0,0) (λ_ v _=>∃p:Int×Int,v=.tuple #[q p.1,Z p.2]/\bo p.1) cK (λ_ Γ i=>?ca2) ?_
   case ca2=>refine(CL.o Γ i).mono ?_;rintro r Y' ⟨P,Q,rfl,h1,h2⟩;exact⟨(P,Q),O,⟨(P,Q),O,h1⟩,h2⟩
   simp only[aD]
   iterate 5
    refine kU O ?_;simp only[aD]
   refine cT Y ?_;rintro⟨_,P,Q⟩ W3 y hR;replace y:S W2 W3:=y;simp only[d8,Nat.reduceAdd,cA]at hR;obtain⟨w1,w2,-,-,⟨⟨x1,x2⟩,hv,hx⟩,-⟩:=fK (hR 12 _ _ cD) O;obtain⟨rfl,rfl⟩:P=x1/\Q=x2:=az hv;have R3:=d.o.1.call y;have B4:=B3.call y;have ω:=U (λ(W:D) (h:S W3 W)=>And.intro (B4.call h).rules (B4.call h).lts);have H3:=U (And.intro R3 (And.intro B4 (And.intro y hx)));clear hR hv hx y R3 B4 B3 HF CL w1 w2;dsimp only;go_wp2_with fail;refine eS 8 Y ah aS aS aS aS ?_;simp only[cR]
   iterate 8
    first
    |refine kX rfl ?_;apply cV
     intro _ ρ K C G W i;have hq:=ω.o W i;simp[execOp,go_sem,K,C,G,hq,ff,bE]<;>exact O
    |refine kz (λ_=>rfl) ?_
    simp only[aD]
   refine dg ?_;intro _ W4 γ _;have R4:=H3.o.1.call γ;have B4:=H3.o.2.1.call γ;have CP:=U (WZ R4.dem H3.o.2.2.2 HA.o.a HH.o.2.2.2.1);have H4:=aP R4 B4 (H3.o.2.2.1.trans (γ.mono H3.o.2.2.1.size));clear γ R4 B4 ω;go_wp2_with fail;apply CP.o.mono;rintro x W5 ⟨⟨e,rfl⟩,D',hD,ι⟩;have S5:=H4.o.1.setDem hD ι λj f=>f.imp id (·.1);have ζ:∀j,w.heap.size<=j->j<w.heap.size+2->¬R1.FD j:=λj h1 h2 f=>d.o.2.2.2.1 j h1 h2 (.inr (.inr (.inr (.inr (.inr f)))));have B5:=H4.o.2.1.drop.mod ι ⟨ζ (w.heap.size+1) V V,ζ w.heap.size V V,trivial⟩;have η:=gj B5.head;have τ:=jG B5.head O E;have HX:=aB (dt B5.head (aj E)) (gH.row (wo:=w) (Ro:=R) S5 (d.o.2.1.call H4.o.2.2) (λj f=>(d.o.2.2.2.2.1 j f).imp id λh=>V) (d.o.2.2.2.1 _ V V) H4.o.2.1.drop.head.lt V (fl W5 (w.heap.size+1) (aj E)) d.o.2.2.2.2.2.2.1 d.o.2.2.2.2.2.2.2);clear S5 ζ B5 hD ι CP;go_wp2_with fail;refine kA (s:=6) (u:=7) results233 O O HX.o.1 underlying64 O (iQ _) O ?_;exact⟨O,by rw[<-d.o.2.2.2.2.2.1];exact HX.o.2⟩
  go_wp2_with fail;rw[<-l.o];refine kA (s:=6) (u:=7) results233 O O HB.o underlying64 O (iQ _) O ?_;exact⟨O,φ.o W2 (aq _ _)⟩
 go_wp2_with fail;rw[<-l.o];refine kA (s:=6) (u:=7) results233 O O HB.o underlying64 O (iQ _) O ?_;exact⟨O,φ.o W2 (aq _ _)⟩
def Pi(x y:Int):fG (pw x y):=by unfold pw fG;split;omega;omega
def Row.lit{α:Type}{c:α->Array H}{sz:Nat}{x:α}(d:(c x).size=sz)(f:M w g t (c x))(e:base<=g):Row w base t sz c (bh g 1 1) [x]:=by have b:(cZ c [x])=(c x).toList:=Li ..;refine⟨?_,.inr ⟨g,1,c x,O,e,f,ao _,ai,V,?_⟩⟩;rw[b];simp[d];rw[b,kR (by simp[d])]
def oN(R:bX)(L:List z)(R':bX):Prop:=fC R.m L=some R'.m/\∀e,R'.gn e->R.gn e\/e∈L
def oN.refl(R:bX):oN R [] R:=⟨O,λ_ h=>.inl h⟩
def BQ(w:D)(r k:Nat)(R:bX)(n c:Nat)(x:Ending)(w':D):Prop:=∃u L,x=.returned u/\fS w' w.heap.size u L/\L.length<=c/\(∀e∈L,e.ok/\(R.gn e\/(e.w=k/\e.k=5)))/\fW w r k R (n+c) w' (oN R L)
structure aN.ok(x:aN):Prop where
 f:fG x.f
 d:x.d.ok
 n:bo x.n
 a:fG x.a
def Wt{R:bX}(h:cB w r k R n)(hn:n+1<=900000)(hT:dr w){x:aN}(hx:x.ok):
  Calls prog 263 #[N r,.agg (aE x)] w (BQ w r k R n 1):=by
 have D0:S w (w.alloc (.cells (aE x) 331)):=(aq _ _).alloc (ao _) _;have B0:ax (w.alloc (.cells (aE x) 331)) [(w.heap.size,331,aE x),(r,162,ff R k)]:=(ax.cons h.blk ax.nil).push O;obtain⟨K,α⟩:=cJ (w.alloc (.cells (aE x) 331));rw[<-α]at D0 B0;have HW:=U α;have R0:=h.call D0;obtain⟨s,hs⟩:=aM (pw (cS (R.m.r x.n) k) x.a);have δ:fG s:=hs▸Pi _ _;obtain⟨lo,β⟩:=aM (cS (R.m.r x.n) k);rw[β]at hs;have CL:=U (λ(X:D) (C:aa bC K X)=>β▸zx (R0.led.call C.no) hx.n k h.k6);have CS:=U (λ(X:D) (_:aa bC K X)=>(hs▸(VF lo x.a X).mono λr w' h=>⟨h.1,by rw[h.2];exact aq _ _⟩:Calls prog 284 #[Z lo,Z x.a] X λr w'=>r=.returned (Z s)/\S X w'));have HF:=U (λ(X:D) (C:aa bC K X)=>ar (B0.call C.no).rules (B0.call C.no).lts);have G:=U (ar h (ar R0 (ar B0 (ar D0 (ar (hT.call' D0) (ar hx δ))))));clear h hT hx B0 D0 R0 α hs β δ;go_in;go_wp2_with fail;refine dI HW.o ?_;clear HW;refine dL [] bC 15 (λ_ h=>h.elim) Y Y ?_
 iterate 10 refine nJ HF.o ?_
 refine j8 (λ_=>rfl) (eJ O) 189 (λ_=>#[N R.L.b,Z ((k:Int)+1),q x.n]) _ cK (λ_ X hX=>CL.o X hX) ?_;simp only[aD]
 iterate 2 refine nJ HF.o ?_
 refine j8 (λ_=>rfl) (eJ O) 284 (λ_=>#[Z lo,Z x.a]) _ cK (λ_ X hX=>CS.o X hX) ?_;simp only[aD];refine nJ HF.o ?_;refine cT Y ?_;rintro _ W1 p-;replace p:S K W1:=p;have T:=G.o.2.2.2.1.trans (p.mono G.o.2.2.2.1.size);have J:=cQ (G.o.2.2.1.call p) T (G.o.1.call T) (G.o.2.2.2.2.1.call' p);obtain⟨q0,f0,q1,f1,-⟩:=J.o.1.rules;obtain⟨l0,l1,-⟩:=J.o.1.lts;clear CL CS HF p T;by_cases hz:s=0
 ·subst hz;go_wp2;go_ret;exact⟨_,[],O,Row.nil,ah,ah,fW.call (fW.start (G.o.1.more (qi n)) (oN.refl R)) J.o.2.1⟩
 have ζ:(s==0)=false:=az hz;have P:dT.ok ⟨5,x.n,x.f,s,0,0⟩:=⟨show j2 5 by decide,G.o.2.2.2.2.2.1.n,G.o.2.2.2.2.2.1.f,G.o.2.2.2.2.2.2,show mA 0 by decide,show mA 0 by decide⟩;have CD:=U (Gc (J.o.2.2.1.gmono (g:=λe=>R.gn e\/(e=(bB R.m k ⟨5,x.n,x.f,s,0,0⟩).1/\e≠z.zero)) λ_ h=>.inl h) hn J.o.2.2.2 P λh=>.inr ⟨O,h⟩);have HC:=U (And.intro (um R.m k ⟨5,x.n,x.f,s,0,0⟩) (wY R.m k ⟨5,x.n,x.f,s,0,0⟩));have HQ:=U (tc J.o.2.2.1.ok J.o.2.2.1.k6 P);generalize bB R.m k ⟨5,x.n,x.f,s,0,0⟩=aeT at CD HQ HC;obtain⟨E,er,m'⟩:=aeT;dsimp only[tC]at CD HQ;clear P;go_wp2_with fail;apply CD.o.mono;rintro y W2 ⟨rfl,γ⟩;have HT:=U (fW.trans (R1:=R) (Q:=λR'=>R'.m=m'/\∀e,R'.gn e->R.gn e\/(e=E/\e≠z.zero)) (aa.of_below J.o.2.1) (λj hj=>.inl hj) (by obtain⟨R',h1,h2,h3,h4⟩:=γ;exact⟨R',h1,⟨h2.1,λe F=>by rw[h2.2.2]at F;exact F⟩,h3,h4⟩));obtain⟨W3,ε,B3,D3,z3⟩:=ux E W2;have θ:=gj B3;have H3:=aB B3 D3;clear CD γ B3 D3;by_cases F:er=0
 ·subst F;go_wp2;go_ret;have B4:M (W3.alloc (.cells (aj E) 64)) (W2.heap.size+1) 64 (aj E):=by rw[<-z3];exact M.new _ _ _
  have η:w.heap.size<=W2.heap.size:=by obtain⟨R',-,-,m,-⟩:=HT.o;exact m.size
  refine⟨_,[E],O,Row.lit (l9 E) B4 V,ah,λe F=>by rw[dd.1 F];refine⟨HQ.o.2.2,.inr ?_⟩;rcases HC.o.2 with h|h;rcases HC.o.1 with⟨-,-,h2⟩|⟨h2,-⟩;rcases h2 with h2|h2;exact absurd (bH Prod.fst h2) (by unfold gA;rw[av (.inl rfl)];simp);exact absurd rfl h2;rw[show E=dn R.m k ⟨5,x.n,x.f,s,0,0⟩from h2];exact⟨by show((k:Int)+1-1).toNat=k;omega,O⟩;rcases HC.o.1 with⟨h2,-⟩|⟨h2,-⟩;exact absurd h2 h.2;exact⟨h.1,by rw[show E=dn R.m k ⟨5,x.n,x.f,s,0,0⟩from h2];rfl⟩,?_⟩;obtain⟨R2,k1,⟨k2,k5⟩,k3,k4⟩:=(HT.o.call H3.o.2).call (w'':=W3.alloc (.cells (aj E) 64)) ((aq _ _).alloc (ao _) _);refine⟨R2,k1,⟨?_,λe F=>(k5 e F).imp id λh=>by rw[h.1];simp⟩,k3,k4⟩;rcases HC.o.1 with⟨-,-,h2⟩|⟨-,-,h2⟩;rcases h2 with h2|h2;exact absurd (bH Prod.fst h2) (by unfold gA;rw[av (.inl rfl)];simp);exact absurd rfl h2;rw[k2];exact h2
 go_wp2;go_ret;obtain⟨R2,k1,⟨k2,k5⟩,k3,k4⟩:=HT.o.call H3.o.2;have hE:E=z.zero/\m'=R.m:=by rcases HC.o.1 with⟨h1,h2,-⟩|⟨-,h2,-⟩;exact⟨h1,h2⟩;exact absurd h2 F
 exact⟨_,[],O,Row.nil,ah,ah,R2,k1,⟨by rw[k2,hE.2];rfl,λe h=>(k5 e h).imp id λh=>absurd (h.1.trans hE.1) h.2⟩,k3,k4⟩
def Qf(kn:an){L:List z}{e:z}(i:e.ok)(h:(∀x∈L,x.ok)/\L.length<=64):(∀x∈ov kn L e,x.ok)/\(ov kn L e).length<=64:=by
 obtain⟨h,f⟩:=h;unfold ov;split
 ·rename_i b;refine⟨λx hx=>?_,?_⟩;rcases bP.1 hx with hx|hx;exact h x hx;obtain rfl:=dd.1 hx;exact i;have:¬64<=L.length:=λd=>by
   unfold ma at b;rw[av d]at b;split at b
   ·split at b<;>exact absurd b ai
   exact absurd b ai
  simp;omega
 exact⟨h,f⟩
def aG.ok.knle{m:aG}(h:m.ok){n:Int}(b:gG m.kn<=n)(p:n<=1000000):∀k,k<6->0<=m.kn.get k/\m.kn.get k<=1000000:=by have l:=(h.kn 0 ai).1;have i:=(h.kn 1 ai).1;have o:=(h.kn 2 ai).1;have d:=(h.kn 3 ai).1;have f:=(h.kn 4 ai).1;have e:=(h.kn 5 ai).1;have b:m.kn.get 0+m.kn.get 1+m.kn.get 2+m.kn.get 3+m.kn.get 4+m.kn.get 5<=n:=b;exact λk j=>an.six (P:=λk=>0<=m.kn.get k/\m.kn.get k<=1000000) ⟨l,V⟩ ⟨i,V⟩ ⟨o,V⟩ ⟨d,V⟩ ⟨f,V⟩ ⟨e,V⟩ k j
def qD.le{v:an}{L L':List z}(h:qD v L L')(b:(∀x∈L,x.ok)/\L.length<=64):((∀x∈L',x.ok)/\L'.length<=64)/\((jE v L).getD z.zero).ok/\L'.length+(jE v L).isSome.toNat<=L.length:=by
 have j:(L.filter λe=> !gE v e).length<=L.length:=List.length_filter_le _ _;unfold qD at h;cases i:jE v L with
 |none=>rw[i]at h;have f:=h.length_eq;exact⟨⟨λx d=>b.1 x (lD.1 (h.mem_iff.2 d)).1,V⟩,z.zero_ok,by simp;omega⟩
 |some e=>rw[i]at h;have f:=h.length_eq;rw[dN]at f;exact⟨⟨λx d=>b.1 x (lD.1 (h.mem_iff.2 (dC _ d))).1,V⟩,b.1 e (lD.1 (h.mem_iff.2 cz)).1,by simp;omega⟩
def qD.of{v:an}{L L':List z}{G:z->Prop}(h:qD v L L')(d:∀x∈L,G x):(∀x∈L',G x)/\((jE v L).isSome=true->G ((jE v L).getD z.zero)):=by
 unfold qD at h;cases f:jE v L with
 |none=>rw[f]at h;exact⟨λx b=>d x (lD.1 (h.mem_iff.2 b)).1,λh=>aK h⟩
 |some e=>rw[f]at h;exact⟨λx b=>d x (lD.1 (h.mem_iff.2 (dC _ b))).1,λ_=>d e (lD.1 (h.mem_iff.2 cz)).1⟩
def Qe(kn:an){L:List z}{e:z}{G:z->Prop}(b:G e)(h:∀x∈L,G x):∀x∈ov kn L e,G x:=λx hx=>by unfold ov at hx;split at hx;rcases bP.1 hx with hx|hx;exact h x hx;rw[dd.1 hx];exact b;exact h x hx
def MD{m:aG}{e:z}(h:(cU m e).1≠0):(cU m e).2=m:=by
 unfold cU at h⊢;split
 ·rename_i b;rw[av b]at h;exact absurd O h
 rfl
def Hd(R R1:bX)(b:List z):Prop:=(∀e∈b,e.ok/\R.gn e)/\fC R.m b=some R1.m/\R1.gn=R.gn
def r9(w:D)(r k:Nat)(R:bX)(n:Nat)(w':D):Prop:=∃b,cB w' r k b n/\(b.m=R.m/\b.gn=R.gn)/\aa (R.F r) w w'/\∀j,b.F r j->R.F r j\/w.heap.size<=j
def r9.start{R:bX}(h:cB w r k R n)(b:S w w'):r9 w r k R n w':=⟨R,h.call b,⟨O,O⟩,aa.of_below b,λ_ d=>.inl d⟩
def aa.hold{W:D}{k n:Nat}{R R1:bX}(e:aa (R.F r) w W)(d:∀j,R1.F r j->R.F r j\/w.heap.size<=j)(f:aa (aR R1.hm) W w'):aa (R.F r) w w':=e.trans' f λj i b=>by have b:j=R1.hm:=b;rcases d j (.inr (.inr (.inr (.inl (.inr b)))))with h|h;exact h;omega
def r9.put{W:D}{R R1:bX}(s:aa (R.F r) w W)(l:∀j,R1.F r j->R.F r j\/w.heap.size<=j)(h:cB W r k R1 n){b:List z}(p:bl w' R1.h R1.hm b)(f:aa (aR R1.hm) W w')(d:(∀e∈b,e.ok)/\b.length<=64)(i:∀e∈b,R1.gn e)(o:R1.m=R.m/\R1.gn=R.gn):r9 w r k R n w':=
 ⟨_,h.hold_ p f d i,o,aa.hold (k:=k) (n:=n) s l f,l⟩
def Cl(w:D)(r k:Nat)(R:bX)(n gk:Nat)(v p b:H)(wr:D):Prop:=
 ∃(f:bX) (x:z) (h:Bool) (g a:Nat) (e:List z),p=.pointer (some (I g 0))/\b=.bool h/\fS wr w.heap.size v e/\Hd R f e/\e.length<=a/\M wr g 64 (aj x)/\(x.ok/\(h=true->R.gn x))/\w.heap.size<=g/\
  cB wr r k f (n+a)/\aa (R.F r) w wr/\(∀j,f.F r j->R.F r j\/w.heap.size<=j)/\(¬f.F r g)/\(∀d,v.ownBlock=some d->¬f.F r d/\d≠g)/\gk=f.aeJ.length+h.toNat/\a+gk<=64
section
variable{P:Program}
def aab{id:Nat}{a:Act}{Q:Exit->Act->D->Prop}{l:List Oper}(n:Nat)(b:List ay)(F:Nat->Prop)(c:Nat)(hF:∀k,F k->k<w.heap.size)(hm:P.follows .mixedOrders=true)(hn:n<=l.length)
  (K:nv .any l.toArray n=true) (x:Region.lexB .any (l.take n).toArray=true)
  (h:dE P (l.take n).toArray b F w c [] (λE y K'=>∀w',mZ F w (decide (c<(l.take n).length)) w'->(∀k xs u,K' k xs u->fD b F w c E k xs u w')->wpAny P .any l.toArray Q (l.drop n).length (dM n 0 (Array.replicate l.length false)) y w') (l.take n) Unit (λ_=>a) (λ_ _ _ _=>False)):(Code.region id l.toArray true).wp P Q a w:=by
 obtain⟨E,J,h⟩:=h;have h:=h ();refine qf hm ?_;simp only[Region.lexB,bZ]at x;have W:=yL (P:=P) (c:=c) (C:=mZ F w) (T:=gp P (l.take n).toArray E) (R:=fD b F w c E) (aeO:=iJ b F w c E) (md:=.any) (Ad _ _ _) x.1 (l.take n) 0 (Array.replicate (l.take n).length false) a (λ_ _ _=>False) ah (az x.2) h;have L:wpAny P .any (l.take n).toArray (nB Q (λa w=>wpAny P .any l.toArray Q (l.drop n).length (dM n 0 (Array.replicate l.length false)) a w)) (l.take n).length (Array.replicate (l.take n).length false) a w.drew:=
  sU (c:=c) (C:=mZ F w) (T:=gp P (l.take n).toArray E) (R:=fD b F w c E) (aeO:=iJ b F w c E) (λ_ X=>tw X λ_=>rfl) (EM hF J)
   (λy F' w' p s d=>d w' (az p) s) _ _ _ (λ_ _ _=>False) _ ah (λj o _ f=>by rw[hU]at f;cases f) (λ_ _ _ d=>False.elim d) (by rw[hU];exact(aq _ _).drew) (λ_ _ _ d=>False.elim d) W
 have α:(l.take n).length=n:=by simp;omega
 have G:=ug (n:=n) (m:=(l.drop n).length) hn K (λ_ _ h=>h) (l.take n).length (Array.replicate (l.take n).length false) (Array.replicate l.length false) a w.drew aQ ah
  (λi hi=>by rw[hU,hU]) (λi _=>hU _ _) (λj o _ f=>by rw[hU]at f;cases f) ah L
 have e:(l.take n).length+(l.drop n).length=l.length:=by rw[<-bW,lV]
 rw[e]at G;simpa using G
def aan{Q:Exit->Act->D->Prop}{a:Act}{l:List Oper}(k:Nat){b:Array Bool}(hF:mY .any l.toArray (l.drop k).length k b=true)(d:(Region.ready .any l.toArray (dM (l.drop k).length k b)).isEmpty=true)
  (h:wpList P l.toArray Q (l.drop k) a w):wpAny P .any l.toArray Q (l.drop k).length b a w:=
 rB (P:=P) (md:=.any) (Q:=Q) (K:=λa w=>Q .normal a w) (l.drop k).length k b (l.drop k) a w 0 (λa w e=>⟨az d,e⟩) O (λj _=>ah) hF (by rw[vV];exact h)
end
def Cm(w:D)(r k:Nat)(R:bX)(i h g:Nat)(x:z)(c:Nat)(v:H)(f:D):Prop:=
 ∃e d,fS f w.heap.size v d/\Hd R e d/\d.length<=c/\M f g 64 (aj x)/\cB f r k e h/\aa (R.F r) w f/\(∀b,v.ownBlock=some b->¬e.F r b/\b≠g)/\(∀j,e.F r j->R.F r j\/w.heap.size<=j)/\e.aeJ.length=i
def TC{R:bX}(h:cB w r k R n)(hn:n+64<=900000)(hT:dr w)(hTN:qN (R.F r)){x:aN}{L:List z}(hR:fS w 0 x.s L)(hL:∀e∈L,e.ok)(hap:∀g,x.s.ownBlock=some g->¬R.F r g)(hGn:∀e∈L,R.gn e):
  Calls prog 262 #[N r,.agg (aE x)] w (BQ w r k R n 64):=by
 have D0:S w (w.alloc (.cells (aE x) 331)):=(Below.refl _ _).alloc (Nat.le_refl _) _;have B0:M (w.alloc (.cells (aE x) 331)) w.heap.size 331 (aE x):=M.new _ _ _;obtain⟨W0,hW0⟩:=cJ (w.alloc (.cells (aE x) 331));obtain⟨xk,xf,xt,xd,xs,xn,xa⟩:=x;dsimp only at hR hap;obtain⟨A,c,rfl,hc1,hc2⟩:=hR.sl;have hcm:c<=9223372036854775807:=hc2;obtain⟨q0,f0⟩:=B0.rules;have l0:=B0.lt;have HH:=U (And.intro h (And.intro hT (And.intro hTN (And.intro hR (And.intro hL (And.intro hap D0))))));have HW:=U hW0;have HGn:=U hGn;clear h hT hTN hR hL hap B0 D0 hGn;go_in;go_wp2_with fail;rw[<-hW0];go_loopw [12] (λi wr=>∃j:Nat,j<=L.length/\i=Z j/\r9 w r k R n wr) (λi _=>L.length-(intOf i).toNat);exact⟨0,V,O,by rw[hW0];exact r9.start HH.o.1 HH.o.2.2.2.2.2.2⟩;obtain⟨j,hj,rfl,hW⟩:=hrel;obtain⟨K,α,ω,ξ,Ψ⟩:=hW;by_cases hlt:j<L.length
 ·have hd:=cO ((j:Int)<L.length);obtain⟨y,hy⟩:∃y,L[j]? =some y:=⟨L[j],bY hlt⟩;obtain⟨g,cap,hs,hcap,hmx,hgb,Γ⟩:=HH.o.2.2.2.1.sl_pos V;obtain⟨rfl,hcc⟩:A=some (I g 0)/\c=cap:=by injection hs with a b c;exact⟨a,c⟩
  have γ:=ξ.row HH.o.2.2.2.1 HH.o.2.2.2.2.2.1;have hrd:=γ.rng l9 hy;have ψ:=eO (P:=prog) hrd underlying64 O (iQ y);have hyo:=HH.o.2.2.2.2.1 y (cX hy);have HGy:=U (HGn.o y (cX hy));obtain⟨W3,hst3,B3,D3,z3⟩:=ux y wr;have R3:=α.call D3;have hg2:g<wr.heap.size:=ee Γ ξ.size;have B4:ax W3 [(wr.heap.size,64,aj y),(r,162,ff K k)]:=ax.cons B3 (ax.cons R3.blk ax.nil);have HF:=U (λ(X:D) (G:aa bC W3 X)=>ar (B4.call G.no).rules (ar (B4.call G.no).lts (gj (B4.call G.no).head)));have CK:=U (λ(X:D) (G:aa bC W3 X)=>zT (R3.led.call G.no));have HX:=js ξ Ψ D3 R3 ω hyo;obtain⟨q3,f3⟩:=B3.rules;clear α ξ Ψ γ hrd hs hcap hmx hcc hy B3 D3 hgb R3 B4 ω hyo;go_wp2_with fail;refine mX 10 [] bC 10 (λ_ h=>h.elim) Y ah aS Y aS Y ?_;simp only[cR]
  iterate 8 refine nJ HF.o ?_
  refine j8 (λ_=>rfl) (eJ O) 282 (λ_=>#[N K.L.b]) _ cK (λ_ X hX=>CK.o X hX) ?_;simp only[aD];refine nJ HF.o ?_;refine cT Y ?_;rintro _ W5 φ-;replace φ:S W3 W5:=φ;have R5:=HX.o.2.2.2.1.call φ;have CP:=U (cH R5.hold K.m.kn y HX.o.2.2.2.2.2);have H5:=aB R5 (HX.o.2.2.1.trans (φ.mono HX.o.2.2.1.size));clear HF CK φ R5;go_wp2_with fail;apply CP.o.mono;rintro aeU W6 ⟨rfl,hp1,hp2⟩;have HS:=U (r9.put (HX.o.1.call H5.o.2) HX.o.2.1 H5.o.1 hp1 (aa.of_fr1 hp2 O) (Qf _ HX.o.2.2.2.2.2 H5.o.1.hok) (Qe _ (by rw[HX.o.2.2.2.2.1.2];exact HGy.o) H5.o.1.gs.1) HX.o.2.2.2.2.1);clear hp1 hp2 CP;go_wp2;go_roundw
  ·exact⟨j+1,V,by go_num,HS.o⟩
  simp[intOf];omega
 obtain rfl:j=L.length:=V;have hd:=cP ((L.length:Int)<L.length);have B4:ax wr [(r,162,ff K k)]:=ax.cons α.blk ax.nil;have hne:r≠K.hm:=λe=>α.ap.ad r O (.inr e);have ι:=U (show∀j,aR K.hm j->j<wr.heap.size from λj hj=>by have hj:j=K.hm:=hj;rw[hj];exact α.hold.map.lt);have HF:=U (λ(X:D) (G:aa (aR K.hm) wr X)=>ar (B4.mod G ⟨hne,trivial⟩).rules (B4.mod G ⟨hne,trivial⟩).lts);have CK:=U (λ(X:D) (G:aa (aR K.hm) wr X)=>zT (α.led.mod G λj hj he=>α.ap.bd j hj (.inr he)));have CN:=U (λ(X:D) (G:S wr X)=>xg (α.hold.call G) K.m.kn (α.ok.knle α.sn V) α.hok.1);have HX:=cQ α ω ξ Ψ;obtain⟨y,hy⟩:=aM ((jE K.m.kn K.aeJ).getD z.zero);obtain⟨b,G⟩:=aM ((jE K.m.kn K.aeJ).isSome);have hv:wW (jE K.m.kn K.aeJ)=.tuple #[.agg (aj y),.bool b]:=by unfold wW;rw[hy,G]
 rw[hv]at CN;have HY:=aB hy G;clear α ω ξ Ψ B4 hne hy G hv;go_wp2_with fail;refine dL [64] (aR K.hm) 9 ι.o Y Y ?_
 iterate 8 refine nJ HF.o ?_
 refine j8 (λ_=>rfl) (eJ O) 282 (λ_=>#[N K.L.b]) _ cK (λ_ X hX=>CK.o X hX) ?_;simp only[aD];refine jl (λ_=>rfl) O 283 (λ_=>#[N K.h,.agg (aF K.m.kn)]) (λ_:Unit=>.tuple #[.agg (aj y),.bool b]) () (λε r Y'=>Ev ε Y' K.h K.hm K.m.kn K.aeJ) cK (λ_ ε G=>?ca2) ?_
 case ca2=>refine(CN.o ε G).mono ?_;rintro r Y' ⟨rfl,h1⟩;obtain⟨L',h2,h3,h4⟩:=h1;exact⟨(),O,⟨L',h2,h3,h4⟩,aa.of_fr1 h3 O⟩
 simp only[aD]
 iterate 3 refine nJ HF.o ?_
 refine ng (λ_=>rfl) 64 (aj z.zero) nK ?_;simp only[aD];refine o8 (λ_=>rfl) 13 64 64 14 _ _ O ai O ah ι.o _ _ _ (λ_=>rfl) (λ_=>rfl) cD (iQ z.zero) (λ_=>rfl) (λ_=>wN _) ?_;simp only[aD];refine nJ HF.o ?_;refine cT Y ?_;rintro⟨⟨_,_⟩,p⟩ W1 hC hR;replace hC:aa (aR K.hm) wr W1:=hC;dsimp only;simp only[d8,Nat.reduceAdd,Nat.zero_add]at hR;obtain⟨w1,w2,hw1,-,⟨L',g1,g2,g3⟩,g4⟩:=fK (hR 9 _ _ cD) O;obtain⟨g,v,hx,n6,B6⟩:∃g v,[p,Value.agg (aj y)]=[N g,v]/\wr.heap.size<=g/\M W1 g 64 (Value.toArr v):=hR 14 _ _ cD;injection hx with h6 hx6;injection hx6 with hx6;subst h6 hx6;replace B6:M W1 g 64 (aj y):=B6;have m4:=g4.mod λ_ h=>h.1 O;have HO1:bl W1 K.h K.hm L':=⟨m4.blk g1.blk (λG=>aA HX.o.1.hold.blk.lt),g1.map.same (m4.block _ g1.map.lt λG=>aA HX.o.1.hold.map.lt)⟩;obtain⟨n1,n2,n3⟩:=g3.le HX.o.1.hok;rw[HY.o.1]at n2;rw[HY.o.2]at n3;have R6:=HX.o.1.hold_ HO1 hC n1 (g3.of HX.o.1.gs.1).1;have hk64:=HX.o.1.hok.2;have hws:=HX.o.2.2.1.size;have HS0:=U (show Cl w r k R n (L'.length+b.toNat) (.slice none 0 0) (N g) (.bool b) W1 from
  ⟨{K with aeJ:=L'},y,b,g,0,[],O,O,Row.nil,⟨ah,by show some R.m=some K.m;rw[HX.o.2.1.1],HX.o.2.1.2⟩,ao _,B6,⟨n2,λhbt=>by rw[<-HX.o.2.1.2,<-HY.o.1];exact(g3.of HX.o.1.gs.1).2 (by rw[HY.o.2];exact hbt)⟩,V,R6,aa.hold (k:=k) (n:=n) HX.o.2.2.1 HX.o.2.2.2 hC,HX.o.2.2.2,λhj=>aA (HX.o.1.inh g hj),(λf J=>aK J),O,V⟩)
 obtain⟨gn,hgn⟩:=aM (L'.length+b.toNat);rw[hgn]at HS0;clear hC hR hw1 g1 g2 g3 g4 m4 HO1 n1 n2 n3 R6 hk64 hws n6 B6 HF CK CN HY hgn ι w1 w2;go_wp2;go_loopg [4,7,8] gn (λgk v p b wr=>Cl w r k R n gk v p b wr);exact HS0.o;clear HX HS0;obtain⟨K,x,bb,g,a,Ξ,rfl,rfl,γ,θ,hol,B,τ,hgw,χ,hm,hf,hgF,hvF,Φ,ha⟩:=hrel;have HI:=U (ar γ (ar θ (ar B (ar τ (ar χ (ar hm (ar hf (ar hgF (ar hvF Φ)))))))));have ha64:a<=64:=V;have hl64:Ξ.length<=64:=V;cases bb with
 |false=>clear γ θ B τ χ hm hf hgF hvF Φ;go_wp2;go_ret;exact⟨_,Ξ,O,HI.o.1,hl64,λe he=>⟨(HI.o.2.1.1 e he).1,.inl (HI.o.2.1.1 e he).2⟩,K,HI.o.2.2.2.2.1.more V,⟨HI.o.2.1.2.1,λe he=>.inl (by rw[HI.o.2.1.2.2]at he;exact he)⟩,HI.o.2.2.2.2.2.1,HI.o.2.2.2.2.2.2.1⟩
 |true=>
  have hgk2:K.aeJ.length+1=gk:=Φ.symm;have HG:=U hgk2;have ha1:a+1<=64:=V;have ψ:=gj B;have CA:=U (Fm χ V (HH.o.2.1.mod hm HH.o.2.2.1.k HH.o.2.2.1.d) τ.1 (by rw[θ.2.2];exact τ.2 O));clear γ θ B τ χ hm hf hgF hvF Φ hgk2;go_upto_block 3 with fail;go_cut [4] (λv wx=>Cm w r k R K.aeJ.length (n+a+1) g x (a+1) v wx)
  case first=>
   go_wp2_with fail;apply CA.o.mono;rintro aeU W2 ⟨rfl,Q,ν,⟨hmm2,hH2,t⟩,σ,β⟩;have Δ:=aB hmm2 t;clear hmm2 t;obtain⟨e1,he1⟩:=aM ((cU K.m x).1);have HE1:=U he1;rw[he1];have Γ:=HI.o.2.2.1.lt;have hvl:=HI.o.1.ge;have hws:=HI.o.2.2.2.2.2.1.size;have hs2:=σ.size;have hN2:∀j,j<wr.heap.size->¬K.F r j->¬Q.F r j:=λj hj h1 h2=>by rcases β j h2 with h|h;exact h1 h;omega
   have B2:=σ.blk HI.o.2.2.1 HI.o.2.2.2.2.2.2.2.1;have T:=σ.row HI.o.1 λf J=>(HI.o.2.2.2.2.2.2.2.2.1 f J).1;have M2:aa (R.F r) w W2:=HI.o.2.2.2.2.2.1.trans' σ λj hj hj1=>by rcases HI.o.2.2.2.2.2.2.1 j hj1 with h|h;exact h;omega
   have hfF:∀j,Q.F r j->R.F r j\/w.heap.size<=j:=λj hj=>by rcases β j hj with h|h;exact HI.o.2.2.2.2.2.2.1 j h;exact .inr V
   have hg2:¬Q.F r g:=hN2 g Γ HI.o.2.2.2.2.2.2.2.1;have δ:∀f,u4.ownBlock=some f->¬Q.F r f/\f≠g:=λf J=>⟨hN2 f (hvl f J).2 (HI.o.2.2.2.2.2.2.2.2.1 f J).1,(HI.o.2.2.2.2.2.2.2.2.1 f J).2⟩;have HJ:=U (ar T (ar B2 (ar ν (ar M2 (ar hfF (ar hg2 (ar δ hH2)))))));have κ:=U HI.o.2.1;have hlo:=U (bU (w.heap.size<=W2.heap.size));clear σ β ν hH2 he1 Γ hvl hws hs2 hN2 B2 T M2 hfF hg2 δ CA ψ;by_cases hz:e1=0
   ·subst hz;have ψ:=gj HJ.o.2.1;have D2:S W2 (W2.alloc (.cells (aj x) 64)):=(aq _ _).alloc (ao _) _;have B3:M (W2.alloc (.cells (aj x) 64)) W2.heap.size 64 (aj x):=M.new _ _ _;obtain⟨v',w6,k1,k2,k3,k4,k5⟩:=fS.app 175 (Row.call HJ.o.1 D2) (A:=some (I W2.heap.size 0)) (cap:=1) (jn l9 B3) aQ (cF hlo.o D2.size);simp only[dN,g8,cA]at k1;have mg:aa (λf=>u4.ownBlock=some f) W2 w6:=(aa.of_below (F:=λf=>u4.ownBlock=some f) D2).trans (aa.of_grown k4 λf J=>J);have HK:=U (show Cm w r k R K.aeJ.length (n+a+1) g x (a+1) v' w6 from by refine⟨Q,Ξ++[x],k2,⟨λe he=>?_,by rw[Δ.o.1];exact DG κ.o.2.1 HE1.o,Δ.o.2.trans κ.o.2.2⟩,by simp;omega,mg.blk HJ.o.2.1 λJ=>(HJ.o.2.2.2.2.2.2.1 g J).2 O,HJ.o.2.2.1.mod mg λj hj J=>(HJ.o.2.2.2.2.2.2.1 j J).1 hj,HJ.o.2.2.2.1.trans' mg λj hj J=>?_,λf J=>?_,HJ.o.2.2.2.2.1,by rw[HJ.o.2.2.2.2.2.2.2]⟩;rcases bP.1 he with h|h;exact κ.o.1 e h;rw[dd.1 h];exact⟨HI.o.2.2.2.1.1,HI.o.2.2.2.1.2 ah⟩;have:=(HJ.o.1.ge j J).1;omega;rcases k5 with k5|k5;rw[k5]at J;exact HJ.o.2.2.2.2.2.2.1 f J;have h1:=k5 f J;have h2:=D2.size;have h3:=HJ.o.2.1.lt;exact⟨λhF=>aA (HJ.o.2.2.1.inh f hF),V⟩);clear k2 k3 k4 k5 mg D2 B3;go_wp2;go_meet;exact HK.o
   have HK:=U (show Cm w r k R K.aeJ.length (n+a+1) g x (a+1) u4 W2 from⟨Q,Ξ,HJ.o.1,⟨κ.o.1,by rw[Δ.o.1,MD (by rw[HE1.o];exact hz)];exact κ.o.2.1,Δ.o.2.trans κ.o.2.2⟩,V,HJ.o.2.1,HJ.o.2.2.1,HJ.o.2.2.2.1,HJ.o.2.2.2.2.2.2.1,HJ.o.2.2.2.2.1,by rw[HJ.o.2.2.2.2.2.2.2]⟩);have hz2:(e1==0)=false:=az hz;go_wp2;go_meet;exact HK.o
  obtain⟨Q,out2,T,μ,υ,B2,ν,π,δ,β,Θ⟩:=hcut;have ψ:=gj B2;obtain⟨W7,hst7,B7,D7,z7⟩:=ux x wc;have R7:=ν.call D7;have hin:∀j,Q.F r j->j<wc.heap.size:=ν.inh;have η:¬Q.F r wc.heap.size:=λhj=>aA (hin _ hj);have B8:ax W7 [(wc.heap.size,64,aj x),(r,162,ff Q k)]:=ax.cons B7 (ax.cons R7.blk ax.nil);have ζ:kC (aR Q.hm) [(wc.heap.size,64,aj x),(r,162,ff Q k)]:=⟨λe=>η (.inr (.inr (.inr (.inl (.inr e))))),λe=>R7.ap.ad r O (.inr e),trivial⟩;have ι:=U (show∀j,aR Q.hm j->j<W7.heap.size from λj hj=>by have hj:j=Q.hm:=hj;rw[hj];exact R7.hold.map.lt);have HF:=U (λ(X:D) (G:aa (aR Q.hm) W7 X)=>ar (B8.mod G ζ).rules (B8.mod G ζ).lts);have CK:=U (λ(X:D) (G:aa (aR Q.hm) W7 X)=>zT (R7.led.mod G λj hj he=>R7.ap.bd j hj (.inr he)));have CN:=U (λ(X:D) (G:S W7 X)=>xg (R7.hold.call G) Q.m.kn (R7.ok.knle R7.sn V) R7.hok.1);obtain⟨y2,hy⟩:=aM ((jE Q.m.kn Q.aeJ).getD z.zero);obtain⟨b2,G⟩:=aM ((jE Q.m.kn Q.aeJ).isSome);have hv:wW (jE Q.m.kn Q.aeJ)=.tuple #[.agg (aj y2),.bool b2]:=by unfold wW;rw[hy,G]
  rw[hv]at CN;have HY:=aB hy G;have HK:=U (ar (Row.call T D7) (ar μ (ar υ (ar R7 (ar (π.call D7) (ar δ (ar β (ar Θ (ar B8 (ar ζ (ar η (T.ge))))))))))));have hwc:w.heap.size<=wc.heap.size:=π.size;clear T μ υ B2 ν π δ β Θ B7 D7 R7 hin η B8 ζ hy G hv HI;go_wp2_with fail;refine aab 10 [] (aR Q.hm) 9 ι.o Y ah aS Y ?_;simp only[cR]
  iterate 8 refine nJ HF.o ?_
  refine j8 (λ_=>rfl) (eJ O) 282 (λ_=>#[N Q.L.b]) _ cK (λ_ X hX=>CK.o X hX) ?_;simp only[aD];refine jl (λ_=>rfl) O 283 (λ_=>#[N Q.h,.agg (aF Q.m.kn)]) (λ_:Unit=>.tuple #[.agg (aj y2),.bool b2]) () (λε r Y'=>Ev ε Y' Q.h Q.hm Q.m.kn Q.aeJ) cK (λ_ ε G=>?cb2) ?_
  case cb2=>refine(CN.o ε G).mono ?_;rintro r Y' ⟨rfl,h1⟩;obtain⟨L',h2,h3,h4⟩:=h1;exact⟨(),O,⟨L',h2,h3,h4⟩,aa.of_fr1 h3 O⟩
  simp only[aD];refine cT Y ?_;rintro⟨_,_⟩ W8 hC hR;replace hC:aa (aR Q.hm) W7 W8:=hC;simp only[d8,Nat.reduceAdd,cA]at hR;obtain⟨w1,w2,hw1,-,⟨L2,g1,g2,g3⟩,g4⟩:=fK (hR 9 _ _ cD) O;have HO8:bl W8 Q.h Q.hm L2:=g1.call (g4.below λ_ h=>h.1 O);clear hR hw1 g1 g4;refine wpAny_take (i:=10) (v:=.tuple #[.agg (aj y2),.bool b2]) O Y Y Y (λ_ _ _ h=>h) (gO ⟨by rfl,λw=>by simp only[execOp,yg,yl,ym]<;>rfl⟩) ?_;simp only[aD,yg,yl,ym];refine wpAny_take (i:=11) (v:=.agg (aj y2)) O Y Y Y (λ_ _ _ h=>h) (gO ⟨by rfl,λw=>by simp only[execOp,yg,yl,ym]<;>rfl⟩) ?_;simp only[aD,yg,yl,ym];refine wpAny_take (i:=12) (v:=.bool b2) O Y Y Y (λ_ _ _ h=>h) (gO ⟨by rfl,λw=>by simp only[execOp,yg,yl,ym]<;>rfl⟩) ?_;simp only[aD,yg,yl,ym];refine aan 13 aS aS ?_;obtain⟨T,μ,υ,R7,π,δ,β,Θ,B8,ζ,η,hge⟩:=HK.o;have B9:=B8.mod hC ζ;have hst8:=jG B9.head O y2;obtain⟨n1,n2,n3⟩:=g3.le R7.hok;rw[HY.o.1]at n2;rw[HY.o.2]at n3;have R8:=R7.hold_ HO8 hC n1 (g3.of R7.gs.1).1;have m9:aa (aR wc.heap.size) W8 (W8.setRow wc.heap.size (aj y2)):=aa.of_fr1 (fl W8 wc.heap.size (aj y2)) O;have R9:=R8.mod m9 λj hj he=>by have he:j=wc.heap.size:=he;exact η (he▸hj)
  have Ω:=hC.row T λf J he=>(δ f J).1 (.inr (.inr (.inr (.inl (.inr he)))));have row9:=m9.row Ω λf J he=>by have he:f=wc.heap.size:=he;have:=(hge f J).2;omega
  have M9:=(aa.hold (k:=k) (n:=n) π β hC).trans' m9 λj hj he=>by have he:j=wc.heap.size:=he;omega
  have hGk:=HG.o;have HS:=U (show Cl w r k R n (L2.length+b2.toNat) u4 (N wc.heap.size) (.bool b2) (W8.setRow wc.heap.size (aj y2))from
   ⟨{Q with aeJ:=L2},y2,b2,wc.heap.size,a+1,out2,O,O,row9,μ,υ,dt B9.head (aj y2),⟨n2,λhbt=>by rw[<-μ.2.2,<-HY.o.1];exact(g3.of R7.gs.1).2 (by rw[HY.o.2];exact hbt)⟩,hwc,R9,M9,β,η,(λf J=>⟨(δ f J).1,aA ((hge f J).2)⟩),O,V⟩)
  have hmeas:L2.length+b2.toNat<gk:=V;clear T μ υ R7 π δ β Θ B8 ζ η hge B9 n1 n2 n3 R8 m9 R9 Ω row9 M9 hGk HO8 g2 g3 hC HF CK CN HY HK ι w1 w2;go_wp2;go_roundg (L2.length+b2.toNat)
  case measure=>omega
  exact HS.o
section
def IL:eR Int H:=⟨5,383,384,λx=>.int .u8 x,id,.nilFunc,λx=>0<=x/\x<=255⟩
def zR:IL.Ok:=⟨Go.Maps.int_keyed underlying5,underlying384,λa d=>⟨_,Go.Maps.keyOf_int_mk underlying5 (by simp[Lit.wf,IntKind.min,IntKind.max,IntKind.signed,IntKind.bits];exact d)⟩,λa b h=>by injection h,λw=>Y⟩
def rS(b:Bool)(r:Nat):H:=.func (.func (if b then 262 else 263)) #[N r] #[]
def Xk(r:Nat)(w:D):∃e d,(Instr.mapUpdate 384 (.map (some w.heap.size)) (.int .u8 1) (rS true r)).run prog (w.alloc (.map #[] 0))=.ok () e/\
  (Instr.mapUpdate 384 (.map (some w.heap.size)) (.int .u8 2) (rS false r)).run prog e=.ok () d/\
  (∀b:Bool,(Instr.lookup 384 (.map (some w.heap.size)) (.int .u8 (if b then 1 else 2)) false).run prog d=.ok (rS b r) d)/\S w d:=by
 have o:=bA.made IL w;have s:S w (w.alloc (.map #[] 0)):=(aq _ _).alloc (ao _) _;obtain⟨e,j,m,l⟩:=bA.put zR o (a:=1) (show(0:Int)<=1/\(1:Int)<=255 by decide) (rS true r);obtain⟨d,p,f,i⟩:=bA.put zR m (a:=2) (show(0:Int)<=2/\(2:Int)<=255 by decide) (rS false r);refine⟨e,d,j,p,λb=>?_,(i.below (l.below s (ao _) (λ_ h=>aK h)) (ao _) (λ_ h=>aK h))⟩;cases b with
 |true=>exact bA.look zR f (a:=1) (show(0:Int)<=1/\(1:Int)<=255 by decide)
 |false=>exact bA.look zR f (a:=2) (show(0:Int)<=2/\(2:Int)<=255 by decide)
def CX:=@iY 331
attribute [local go_sem ↓ high] CX o7
def Fj(x:aN):(prog.info? 331).map (·.size)=some (aE x).size:=by rw[Er];kernel_rfl
def xp{x:aN}(h:M w g t (aE x)):(dQ 331 (N g)).run prog w=.ok (.value (.agg (aE x))) w:=f8 h underlying331 O (Fj x)
def We{x:aN}(h:M w g t (aE x)):(dQ 33 (.pointer (some (I g 3)))).run prog w=.ok (.value (.agg (aF x.d))) w:=
 eO (h.rngAt (o:=3) (n:=0) (aF x.d) λj v b=>by
  match j,b with
  |0,b=>exact b
  |1,b=>exact b
  |2,b=>exact b
  |3,b=>exact b
  |4,b=>exact b
  |5,b=>exact b
  |j+6,b=>simp[aF]at b) underlying33 O (uJ _)
def fW.more{n':Nat}{R:bX}{Q:bX->Prop}(h:fW w r k R n w' Q)(j:n<=n'):fW w r k R n' w' Q:=by obtain⟨e,f,b,i,d⟩:=h;exact⟨e,f.more j,b,i,d⟩
def fW.imp{R:bX}{Q b:bX->Prop}(h:fW w r k R n w' Q)(d:∀R',Q R'->b R'):fW w r k R n w' b:=by obtain⟨R',i,e,j,f⟩:=h;exact⟨R',i,d _ e,j,f⟩
def sa(w:D)(r k:Nat)(R:bX)(n:Nat)(x:Ending)(w':D):Prop:=∃u L e,x=.returned (.tuple #[u,Z e])/\fS w' w.heap.size u L/\L.length<=64/\(∀e∈L,e.ok/\(R.gn e\/(e.w=k/\e.k=5)))/\(e≠0->L=[])/\fW w r k R (n+64) w' (oN R L)
def sa.none{R:bX}(e:Int)(h:cB w r k R n)(b:S w w'):sa w r k R n (.returned (.tuple #[.slice none 0 0,Z e])) w':=⟨_,[],e,O,Row.nil,ah,ah,λ_=>rfl,fW.call (fW.start (h.more V) (oN.refl R)) b⟩
def TD{R:bX}(h:cB w r k R n)(hn:n+64<=900000)(hT:dr w)(ν:qN (R.F r)){aeL:bL}(oM:aeL.ok)(hR:fS w 0 (.slice A aeL.l.length c) aeL.l)(σ:∀g,(Value.slice A aeL.l.length c).ownBlock=some g->¬R.F r g)(π:∀e∈aeL.l,R.gn e):
  Calls prog 242 #[N r,.agg (aE ⟨aeL.k,aeL.f,aeL.t,aeL.d,.slice A aeL.l.length c,aeL.n,aeL.a⟩),q now] w (sa w r k R n):=by
 obtain⟨x,hx⟩:∃x:aN,x=⟨aeL.k,aeL.f,aeL.t,aeL.d,.slice A aeL.l.length c,aeL.n,aeL.a⟩:=⟨_,O⟩;have D0:S w (w.alloc (.cells (aE x) 331)):=(aq _ _).alloc (ao _) _;have B0:ax (w.alloc (.cells (aE x) 331)) [(w.heap.size,331,aE x),(r,162,ff R k)]:=(ax.cons h.blk ax.nil).push O;obtain⟨A2,c2,e2,Ψ,Ξ⟩:=hR.sl;obtain⟨rfl,rfl⟩:A=A2/\c=c2:=by injection e2 with a _ b;exact⟨a,b⟩
 have μ:=xp B0.head;obtain⟨b,G⟩:=aM (ix aeL);have CM:Calls prog 237 #[.agg (aE x)] (w.alloc (.cells (aE x) 331)) λr w'=>r=.returned (.bool b)/\Below (w.alloc (.cells (aE x) 331)).heap.size (w.alloc (.cells (aE x) 331)) w':=by have:=xj aeL oM b G A c (w.alloc (.cells (aE x) 331)) (Row.rd (Row.call hR D0) O) Ψ Ξ;rw[<-hx]at this;exact this
 have HM:=U CM;have i:=U (ar h (ar hT (ar ν (ar hR (ar σ (ar oM (ar B0 D0)))))));have HX:=aB hx G;have Φ:=U π;rw[<-hx];clear π h hT ν hR σ oM B0 D0 CM hx G e2;go_in;go_wp2_with fail;apply HM.o.mono;rintro y W1 ⟨rfl,η⟩;have H1:=aB (i.o.2.2.2.2.2.2.1.call η) (i.o.2.2.2.2.2.2.2.trans (η.mono i.o.2.2.2.2.2.2.2.size));clear η HM μ;cases b with
 |false=>go_wp2;go_ret2;exact sa.none 1 i.o.1 H1.o.2
 |true=>
  have HY:=U (RY HX.o.2);obtain⟨j,hj,φ⟩:∃j:Nat,j<6/\x.f=(j:Int)+1:=⟨(aeL.f-1).toNat,aA HY.o.f,by have:=HY.o.f;rw[HX.o.1];show aeL.f=_;omega⟩;have B1:=H1.o.1;have Q:=U (λ(X:D) (G:aa bC W1 X)=>ar (B1.call G.no).rules (B1.call G.no).lts);clear B1;by_cases ht:x.t=(k:Int)+1
  ·go_wp2_with fail;refine dL [] bC 8 (λ_ h=>h.elim) Y Y ?_
   iterate 8 refine JW Q.o ht ?_
   refine cT Y ?_;rintro _ W2 m-;replace m:S W1 W2:=m;have D2:=H1.o.2.trans (m.mono H1.o.2.size);have B2:=H1.o.1.call m;have Δ:=U (λ(X:D) (G:S W2 X)=>ar (B2.call G).rules (ar (B2.call G).lts (We (B2.call G).head)));have H2:=aB B2 D2;clear m D2 B2 Q ht;go_wp2_with fail;refine eS 8 Y ah aS aS aS aS ?_;simp only[cR]
   iterate 8
    first
    |refine kX rfl ?_;apply cV
     intro _ ρ E p C W G;have hq:=Δ.o W G;simp[execOp,go_sem,E,p,C,hq,ff,φ,↓o7]<;>exact O
    |refine kz (λ_=>rfl) ?_
    simp only[aD]
   refine dg ?_;intro _ W3 β _;have D3:=H2.o.2.trans (β.mono H2.o.2.size);have R3:=i.o.1.call D3;have CT:=U (Xq R3.peer R3.pok hj (v:=x.d) (by rw[HX.o.1];exact i.o.2.2.2.2.2.1.d));have H3:=aP (H2.o.1.call β) D3 R3;clear β D3 R3 Δ;go_wp2_with fail;apply CT.o.mono;rintro y W4 ⟨⟨nn,rfl⟩,⟨f',ψ,υ⟩,α⟩;have Γ:=i.o.1.inh;have ε:x.s=.slice A aeL.l.length c:=by rw[HX.o.1]
   have χ:=i.o.2.2.2.1.ge;have ζ:=i.o.2.1.lt;have ι:¬aR R.bp w.heap.size:=λe=>by have e:w.heap.size=R.bp:=e;have:=Γ R.bp (.inr (.inr (.inr (.inr (.inl O)))));omega
   have B4:=H3.o.1.head.call (aq _ _)|>λh=>α.blk h ι;obtain⟨R4,ω,J,θ,ξ⟩:=H3.o.2.2.setPeer ψ υ α;obtain⟨w5,w6,e5,e6,κ,D6⟩:=Xk r W4;have B6:=B4.call D6;have μ:=xp B6;obtain⟨q6,f6⟩:=B6.rules;have R6:=ω.call D6;have M6:aa (R.F r) w w6:=((aa.of_below H3.o.2.1).trans θ).call D6;have z3:=H3.o.2.1.size;have z6:=M6.size;have γ:∀j,R4.F r j->R.F r j\/w.heap.size<=j:=λj hj=>by rcases ξ j hj with h|h;exact .inl h;exact .inr V
   have K:∀j,j<w.heap.size->¬R.F r j->¬R4.F r j:=λj h1 h2 h3=>by rcases γ j h3 with h|h;exact h2 h;omega
   have T:fS w6 0 x.s aeL.l:=by rw[ε];exact M6.row i.o.2.2.2.1 i.o.2.2.2.2.1
   have P:∀g,x.s.ownBlock=some g->¬R4.F r g:=λg hg=>by rw[ε]at hg;exact K g (χ g hg).2 (i.o.2.2.2.2.1 g hg)
   have T6:=i.o.2.1.mod M6 i.o.2.2.1.k i.o.2.2.1.d;have τ:qN (R4.F r):=⟨K _ ζ.1 i.o.2.2.1.k,K _ ζ.2 i.o.2.2.1.d⟩;have CS:=U (TC R6 hn T6 τ T i.o.2.2.2.2.2.1.l P (by rw[J.2.2];exact Φ.o));have CA:=U (Wt R6 V T6 (x:=x) (by rw[HX.o.1];exact⟨i.o.2.2.2.2.2.1.f,i.o.2.2.2.2.2.1.d,i.o.2.2.2.2.2.1.n,i.o.2.2.2.2.2.1.a⟩));have HE:=U (show∀cc y W7,cc<=64->BQ w6 r k R4 n cc y W7->∃u,y=.returned u/\sa w r k R n (.returned (.tuple #[u,Z 0])) W7 from λcc y W7 hc hh=>by obtain⟨u,L,rfl,k1,k2,k3,k4⟩:=hh;rw[J.2.2]at k3;exact⟨u,O,u,L,0,O,Row.mono k1 z6,V,k3,λh=>absurd O h,fW.trans (R1:=R4) M6 γ ((k4.more V).imp λR' h=>⟨by rw[<-J.1];exact h.1,λe he=>by rw[<-J.2.2];exact h.2 e he⟩)⟩);simp only[rS,gR,mP,mN]at e5 e6;have HK:=aB κ (show x.k=aeL.k by rw[HX.o.1]);clear ψ υ α Γ ε χ ζ ι B4 ω J θ ξ B6 R6 M6 z3 z6 γ K T P T6 τ CT φ κ D6 hj;rcases HY.o.k with hk|hk
   ·have Θ:x.k=1:=HK.o.2.trans hk.1;have hl:=HK.o.1 true;simp only[rS,gR]at hl;clear hk HK;have δ:= @qc prog;go_wp2_with fail;apply CS.o.mono;intro y W7 hh;obtain⟨u,rfl,he⟩:=HE.o 64 y W7 V hh;have Q:=U he;clear hh he CS CA δ;go_wp2;go_ret2;exact Q.o
   have Θ:x.k=2:=HK.o.2.trans hk.1;have hl:=HK.o.1 false;simp only[rS,mP,mN]at hl;clear hk HK;have δ:= @qc prog;go_wp2_with fail;apply CA.o.mono;intro y W7 hh;obtain⟨u,rfl,he⟩:=HE.o 1 y W7 V hh;have Q:=U he;clear hh he CS CA δ;go_wp2;go_ret2;exact Q.o
  go_wp2_with fail;refine dL [] bC 8 (λ_ h=>h.elim) Y Y ?_
  iterate 8 refine JW Q.o ht ?_
  refine cT Y ?_;rintro _ W2 m-;replace m:S W1 W2:=m;have D2:=U (H1.o.2.trans (m.mono H1.o.2.size));clear m Q;go_wp2;go_ret2;exact sa.none 1 i.o.1 D2.o
end
def Ii(w:D)(m:aG)(x:Ending)(w':D):Prop:=∃b d,x=.returned (.agg (aT m.inn m.kn b d))/\eV w' w.heap.size b (cq m)/\iK w' w.heap.size d (ec m)/\S w w'
def s9{B:Option Addr}{a b d:Nat}:(aT inn kn (.slice A a b) (.slice B c d)).all (·.oneCell')=true:=by simp[aT,Value.oneCell']
def Rd{R:bX}(h:cB w r k R n)(hn:n<=900000):Calls prog 36 #[N r] w (Ii w R.m):=by
 obtain⟨G,e,B0,W⟩:=tH w 37 (aT (λ_=>false) an.zero (.slice none 0 0) (.slice none 0 0));have aC:G.heap.size=w.heap.size+1:=by rw[e];simp
 have u:=h.call W;have CS:=U (Ae u.led u.ok (aA u.sn));have E:=aP B0 W aC;obtain⟨q0,f0⟩:=u.blk.rules;have HW:=U e;have c1:G.cell? (I r 1)=some (N R.L.b):=q0 1;clear B0 W u h aC e q0;go_in;go_upto_region 1 with fail;refine dI HW.o ?_;clear HW;go_wp2_with fail;apply CS.o.mono;rintro x Q ⟨j,i,rfl,F,C,f⟩;obtain⟨A1,c1,e1,-,-⟩:=F.sl;obtain⟨A2,c2,e2,-,-⟩:=C.sl;have T:=E.o.1.call f;have α:=ft (P:=prog) (ty:=37) T (im R.m.inn R.m.kn j i) O (by rw[e1,e2];exact s9);have J:aa (aR w.heap.size) Q (Q.setRow w.heap.size (aT R.m.inn R.m.kn j i)):=aa.of_fr1 (fl Q w.heap.size _) O;have p:=F.ge;have l:=C.ge;have aC:=E.o.2.2;have X:=J.row F λd K y=>by have y:d=w.heap.size:=y;have:=(p d K).1;omega
 have G2:=J.row C λd K y=>by have y:d=w.heap.size:=y;have:=(l d K).1;omega
 have HX:=cQ (dt T (aT R.m.inn R.m.kn j i)) (Row.mono X V:eV _ w.heap.size j (cq R.m)) (Row.mono G2 V:iK _ w.heap.size i (ec R.m)) (Below.rowN (E.o.2.1.trans (f.mono E.o.2.1.size)) (g:=w.heap.size) (ao _) (aT R.m.inn R.m.kn j i));clear F C f e1 e2 T J p l aC X G2 CS;go_wp2_with fail;exact eI (s:=2) results36 O HX.o.1 underlying37 O (im _ _ _ _) O ⟨j,i,O,HX.o.2⟩
section
variable{P:Program}{ops:Array Oper}{aeS:List ay}{F:Nat->Prop}{W:D}{c:Nat}{E:List fY}{Q:List fY->Act->d7->Prop}{o:Oper}{rest:List Oper}{aeP:Type}{a:aeP->Act}{K:aeP->d7}
def Fe(hw:∀u,Region.wanted o (yielded ops (a u).tmps)=true)(G:E.length≠c)(k:Nat)(R:rR o k=true)(J:k<E.length){j:Type}(i:j->H)(d:j)(f:D->H->D->Prop)(s:aeP->H)(xs:aeP->List H)(T:∀u,K u k (xs u) (s u))
  (m:∀u w,aa F W w->fD aeS F W c E k (xs u) (s u) w->∃p w',(execOp (a u).eval o).run P w=.ok (.value (i p)) w'/\f w (i p) w'/\S w w')
  (h:dE P ops aeS F W c (E++[.cal (λu=>∃p,u=i p) ⟨i d,d,O⟩ f]) Q rest (aeP×j) (λp=>(a p.1).put o.dst (i p.2)) (λp=>(K p.1).ins E.length (eM (a p.1) o) (i p.2))):dE P ops aeS F W c E Q (o::rest) aeP a K:=by
 obtain⟨E',L,h⟩:=h.more;refine⟨_,L,λu=>oo (hw u) (λb w _ _ _ l hR=>?_) λx hx=>?_⟩;rotate_left
 ·obtain⟨p,rfl⟩:∃p,x=i p:=by simpa only[gp,dP]using hx
  exact h (u,p)
 have y:=hR k _ _ (T u) (mW R);rw[Af J]at y;obtain⟨r,w',hr,X,C⟩:=m u w (j9 l) y;rw[hr];refine⟨(by simp only[gp,dP];exact⟨r,O⟩),?_,by simp only[iJ,dP,al G];exact C,?_⟩
 ·rw[show(b||E.length==c)=b from by simp[G]];cases b with
  |true=>exact(j9 l).call C
  |false=>exact sH l (C.mono (Below.size l))
 simp only[fD,dP];exact⟨w,w',λe=>absurd e G,j9 l,X,fB.refl _ _ _ _⟩
end
structure ij where
 m:bL
 A:Option Addr
 c:Nat
def ij.mc(x:ij):aN:=bL.mc x.m x.A x.c
def fE(x:ij):Array H:=aE x.mc
def zh(x:ij):(fE x).size=12:=rfl
def O8(x:ij):∀u∈(fE x).toList,u.oneCell'=true:=by intro u b;simp only[fE,Dh,dh,sO,lE]at b;rcases b with rfl|rfl|rfl|rfl|rfl|rfl|rfl|rfl|rfl|rfl|rfl|rfl<;>rfl
abbrev lr(w:D)(base:Nat)(v:H)(L:List ij):Prop:=Row w base 331 12 fE v L
structure oF(G:z->Prop)(w:D)(base:Nat)(x:ij):Prop where
 ok:(x.m.ok/\x.m.l.length<=100000)/\∀e∈x.m.l,G e
 row:fS w base (.slice x.A x.m.l.length x.c) x.m.l
def lr.app{cap:Nat}(ty:ay){L aeL:List ij}(h:lr w base v L)(l:dK w B 12 A aeL.length (cZ fE aeL))(p:L.length+aeL.length<=1000000)(d:base<=w.heap.size):
  ∃e w',(iU 146 ty v (.slice A aeL.length cap)).run prog w=.ok (.value e) w'/\lr w' base e (L++aeL)/\iO base [331] w w'/\w.grownBy w' v.ownBlock/\(e.ownBlock=v.ownBlock\/∀b,e.ownBlock=some b->w.heap.size<=b):=by
 obtain⟨f,o,i,j,m⟩:=i7 EQ;exact Row.app w 146 ty f _ _ underlying146 o i j m O ai zh O8 h (cap:=cap) l p ai d
def BB(x y b u v:H):Sem Next:=do pure (.value (<-Instr.build 331 #[(0,x),(1,y),(2,b),(3,u),(4,v)]))
def Bz(x y b u v s:H):Sem Next:=do pure (.value (<-Instr.build 331 #[(0,x),(1,y),(2,b),(3,u),(5,v),(6,s)]))
section
variable(ρ:aO->H)(dst:Option Tmp)(x y aeU u v s:aO)(ty:ay)(pos:String)(after:Array Edge)(guard:Option (Nat×Bool))
def Jp:=@mr 146
def Jl:=@lz 146
def aae:execOp ρ {dst,op:=.build 331 #[(0,x),(1,y),(2,aeU),(3,u),(4,v)],type:=ty,pos,after,guard}=BB (ρ x) (ρ y) (ρ aeU) (ρ u) (ρ v):=by simp[execOp,BB]
def Jo:execOp ρ {dst,op:=.build 331 #[(0,x),(1,y),(2,aeU),(3,u),(5,v),(6,s)],type:=ty,pos,after,guard}=Bz (ρ x) (ρ y) (ρ aeU) (ρ u) (ρ v) (ρ s):=by simp[execOp,Bz]
end
def Pm(k f t:Int)(d:an)(A:Option Addr)(n c:Nat)(w:D):(BB (.int .u8 k) (Z f) (Z t) (.agg (aF d)) (.slice A n c)).run prog w=.ok (.value (.agg (aE ⟨k,f,t,d,.slice A n c,0,0⟩))) w:=Y
def KT(k f t n a:Int)(d:an)(w:D):(Bz (.int .u8 k) (Z f) (Z t) (.agg (aF d)) (q n) (Z a)).run prog w=.ok (.value (.agg (aE ⟨k,f,t,d,.slice none 0 0,n,a⟩))) w:=Y
def vm(w:D)(r k:Nat)(R:bX)(n:Nat)(x:Ending)(w':D):Prop:=∃u L,x=.returned u/\lr w' w.heap.size u L/\(∀y∈L,oF R.gn w' w.heap.size y)/\L.length<=38/\fW w r k R n w' (oN R [])
section
def cB.dem_{R:bX}(h:cB w r k R n){f:List (Int×Option Nat)}(i:fV w' R.FD R.dm R.mb f)(m:aa R.FD w w'):cB w' r k {R with aeI:=f} n:=by have d:=h.ap;exact⟨m.blk h.blk λb=>d.af r O b,h.led.mod m λj b e=>d.bf j b e,h.ok,h.log.mod m λj b e=>d.cf j b e,aZ h.bs m.size,⟨m.blk h.hold.blk λb=>d.df _ (.inl O) b,h.hold.map.same (m.block _ h.hold.map.lt λb=>d.df _ (.inr O) b)⟩,h.hok,m.blk h.peer λb=>d.ef _ O b,h.pok,i,d,h.cn,h.sn,h.k6,h.gs⟩
def xV:Array H:=#[.bool false,.bool false,.bool false,.bool false,.bool false,.bool false,.bool false,.bool false,.bool false,.bool false,.bool false,.bool false,q 0,q 0,q 0,q 0,q 0,q 0,.slice none 0 0,.slice none 0 0]
def Qk{B:Option Addr}{a b d:Nat}(W:D):∃e,(eQ 37 (N W.heap.size) (.agg (aT inn kn (.slice A a b) (.slice B c d)))).run prog (W.alloc (.cells xV 37))=.ok .skip e/\M e W.heap.size 37 (aT inn kn (.slice A a b) (.slice B c d))/\S W e/\e.heap.size=W.heap.size+1:=by have f:M (W.alloc (.cells xV 37)) W.heap.size 37 xV:=M.new _ _ _;exact⟨_,ft f (im _ _ _ _) O s9,dt f _,(fl _ _ _).below ((aq _ _).alloc (ao _) _) (ao _) (λ_ h=>aK h),by simp[World.setRow]⟩
def ZV:=@iY 339
def ZT:=@jC 339
attribute [local go_sem ↓ high] ZV ZT
def Ex(x:mw):(prog.info? 339).map (·.size)=some (gJ x).size:=by rw[uu];kernel_rfl
def Lf(x:mw)(W:D):∃b,(eQ 339 (N W.heap.size) (.agg (gJ x))).run prog (W.alloc (.cells #[q 0,Z 0] 339))=.ok .skip b/\M b W.heap.size 339 (gJ x)/\S W b/\b.heap.size=W.heap.size+1:=by have d:M (W.alloc (.cells #[q 0,Z 0] 339)) W.heap.size 339 #[q 0,Z 0]:=M.new _ _ _;exact⟨_,ft d (Ex x) O (by simp[gJ,Value.oneCell']),dt d _,(fl _ _ _).below ((aq _ _).alloc (ao _) _) (ao _) (λ_ h=>aK h),by simp[World.setRow]⟩
def vm.none{R:bX}(h:cB w r k R n)(b:S w w'):vm w r k R n (.returned (.slice none 0 0)) w':=⟨_,[],O,Row.nil,ah,ah,fW.call (fW.start h (oN.refl R)) b⟩
def BY(d:D)(r k n:Nat)(R:bX)(wr:D):Prop:=∃b,cB wr r k {R with aeI:=b} n/\aa (R.F r) d wr
def xm{x y:H}(h:M w g t (aT inn kn x y)):(dQ 33 (.pointer (some (I g 12)))).run prog w=.ok (.value (.agg (aF kn))) w:=
 eO (h.rngAt (o:=12) (n:=0) (aF kn) λj v b=>by
  match j,b with
  |0,b=>exact b
  |1,b=>exact b
  |2,b=>exact b
  |3,b=>exact b
  |4,b=>exact b
  |5,b=>exact b
  |j+6,b=>simp[aF]at b) underlying33 O (uJ _)
def KA(x:aN)(w:D):(ke 146 (.agg (aE x))).run prog w=.ok (.value (bh w.heap.size 1 1)) (w.alloc (.cells (aE x) 331)):=Y
structure xZ(wr w:D)(r k n:Nat)(R R1:bX)(g:Nat)(vN vG vL:H)(lv:List Int):Prop where
 re:cB wr r k R1 n
 md:aa (R.F r) w wr
 st:M wr g 37 (aT R.m.inn R.m.kn vN vG)
 nd:eV wr w.heap.size vN (cq R.m)
 lv:qP wr w.heap.size vL lv
def xZ.call{wr:D}{R R1:bX}{vN vG e:H}{d:List Int}(h:xZ wr w r k n R R1 g vN vG e d)(b:S wr w'):xZ w' w r k n R R1 g vN vG e d:=⟨h.re.call b,h.md.call b,h.st.call b,Row.call h.nd b,Row.call h.lv b⟩
def Hq(G:z->Prop)(b:D)(v:H)(c:Nat)(wr:D):Prop:=∃L,lr wr b.heap.size v L/\(∀y∈L,oF G wr b.heap.size y)/\L.length<=c/\S b wr
def Hi(B:Nat)(y:ij)(_:D)(v:H)(X:D):Prop:=∃g,v=bh g 1 1/\B<=g/\M X g 331 (fE y)
def Me(B:Nat)(L:List ij)(y:ij)(e:H)(X:D)(v:H)(X':D):Prop:=lr X' B v (L++[y])/\iO B [331] X X'/\(v.ownBlock=e.ownBlock\/∀b,v.ownBlock=some b->X.heap.size<=b)/\aa (λd=>e.ownBlock=some d) X X'
structure tL(G:z->Prop)(WL WD:D)(v0 v:H)(c:Nat)(wr:D):Prop where
 ex:∃L,lr wr WL.heap.size v L/\(∀y∈L,oF G wr WL.heap.size y)/\L.length<=c
 md:aa (λaeT=>v0.ownBlock=some aeT) WD wr
 ow:v.ownBlock=v0.ownBlock\/∀b,v.ownBlock=some b->WD.heap.size<=b
def tL.call{G:z->Prop}{f i wr:D}{j:H}(h:tL G f i j v c wr)(b:S wr w'):tL G f i j v c w':=by obtain⟨L,l,d,m⟩:=h.ex;exact⟨⟨L,Row.call l b,λy e=>⟨(d y e).ok,Row.call (d y e).row b⟩,m⟩,h.md.call b,h.ow⟩
def GH(G:z->Prop)(B:Nat)(_:D)(v:H)(X:D):Prop:=∃A c L,v=.slice A L.length c/\fS X B v L/\(∀e∈L,e.ok/\G e)/\L.length<=100000
def Fc(G:z->Prop)(B:Nat)(_:D)(v:H)(X:D):Prop:=∃y:ij,v=.agg (fE y)/\oF G X B y
def Hh(G:z->Prop)(B:Nat)(_:D)(v:H)(X:D):Prop:=∃g y,v=bh g 1 1/\B<=g/\M X g 331 (fE y)/\oF G X B y
def Md(G:z->Prop)(B b:Nat)(L:List ij)(X:D)(v:H)(X':D):Prop:=∃y,lr X' B v (L++[y])/\iO B [331] X X'/\oF G X b y
def fB.row{α:Type}{c:α->Array H}{sz:Nat}{e:ay}{F:Nat->Prop}{w0:D}{L:List α}(h:fB [] F B w0 w)(i:Row w0 base e sz c v L)(hF:∀b,v.ownBlock=some b->¬F b):Row w base e sz c v L:=
 (⟨h.os,h.tape,h.output,h.size,λk f d=>by
  rcases h.block k f with h1|⟨-,⟨l,t,j,-⟩,-⟩|h1;exact h1
  ·cases j
  exact absurd h1 d⟩:aa F w0 w).row i hF
def TB{R:bX}(h:cB w r k R n)(hn:n<=100000)(hnow:bo now):Calls prog 236 #[N r,q now] w (vm w r k R n):=by
 have CS:=U (Ae h.led h.ok (aA h.sn));have HH:=aB h hnow;have HI:=U h.inh;obtain⟨q0,f0⟩:=h.blk.rules;have c1:w.cell? (I r 1)=some (N R.L.b):=q0 1;clear h q0;go_in;go_wp2_with fail;apply CS.o.mono;rintro x W1 ⟨vN,vG,rfl,hN,hG,δ⟩;obtain⟨AN,cN,rfl,-,-⟩:=hN.sl;obtain⟨AG,cG,rfl,-,-⟩:=hG.sl;obtain⟨W2,hst,B2,D2,z2⟩:=Qk (inn:=R.m.inn) (kn:=R.m.kn) (A:=AN) (a:=(cq R.m).length) (b:=cN) (B:=AG) (c:=(ec R.m).length) (d:=cG) W1;unfold xV at hst;have hld:=f8 (P:=prog) B2 underlying37 O (im _ _ _ _);have D3:=δ.trans (D2.mono δ.size);have H2:=cQ B2 D3 (Row.call hN D2) (HH.o.1.call D3);have CL:=U (Wb (w:=W2) (inn:=R.m.inn) (kn:=R.m.kn) (vN:=.slice AN (cq R.m).length cN) (vG:=.slice AG (ec R.m).length cG));have hgl:=U (bU (W1.heap.size<W2.heap.size));have hw1s:=U δ.size;clear hN hG δ B2 D2 D3 CS c1 f0;go_wp2_with fail;apply CL.o.mono;rintro x W3 ⟨u,lv,rfl,γ,hl6,hlx,β⟩;obtain⟨b,hbb⟩:=aM (decide ((k:Int)+1∈lv));have CC:=U (Nd γ V ((k:Int)+1) b hbb);obtain⟨Av,cv,rfl,hv1,hv2⟩:=γ.sl;have hvm:cv<=9223372036854775807:=hv2;have H3:=js (H2.o.1.call β) (H2.o.2.1.trans (β.mono H2.o.2.1.size)) (Row.call H2.o.2.2.1 β) (H2.o.2.2.2.call β) γ hlx;obtain⟨q0,f0⟩:=H3.o.2.2.2.1.blk.rules;have c0:W3.cell? (I r 0)=some (Z ((k:Int)+1)):=q0 0;clear γ hlx β CL hst hld hbb q0;go_wp2_with fail;apply CC.o.mono;rintro x W4 ⟨rfl,rfl⟩;clear CC;cases b with
 |false=>go_wp2;go_ret;exact vm.none HH.o.1 H3.o.2.1
 |true=>
  have CD:=U (VB H3.o.2.2.2.1.dem);have c5:W3.cell? (I r 5)=some (N R.dm):=H3.o.2.2.2.1.blk.rules.1 5;go_wp2_with fail;apply CD.o.mono;rintro x W5 ⟨u,wl,rfl,ε,hwl,ψ,ω⟩;obtain⟨Aw,cw,rfl,hw1,hw2⟩:=ε.sl;have hwm:cw<=9223372036854775807:=hw2;have H5:=U (ar (H3.o.1.call ω) (ar (H3.o.2.1.trans (ω.mono H3.o.2.1.size)) (ar (Row.call H3.o.2.2.1 ω) (ar (H3.o.2.2.2.1.call ω) (ar (Row.call H3.o.2.2.2.2.1 ω) (ar ε ψ))))));have HLX:=U H3.o.2.2.2.2.2;clear ε ψ ω CD c5 c0 f0;go_wp2;go_loopw [36] (λi wr=>∃j:Nat,j<=wl.length/\i=Z j/\BY W5 r k n R wr) (λi _=>wl.length-(intOf i).toNat);exact⟨0,V,O,R.aeI,H5.o.2.2.2.1,aa.refl⟩;obtain⟨j,hj,rfl,hW⟩:=hrel;by_cases Ψ:j<wl.length
  ·obtain⟨D1,hR1,μ⟩:=hW;have hd:=cO ((j:Int)<wl.length);obtain⟨x,hx⟩:∃x,wl[j]? =some x:=⟨wl[j],bY Ψ⟩;have ε:=H5.o.2.2.2.2.2.1;have ν:=ε.ge;have γ:=μ.row ε λf s hF=>by have h1:=(ν f s).1;have h2:=HI.o f hF;have h3:=H3.o.2.1.size;omega
   obtain⟨g,cap,hs,ξ,hmx,hgb,hgl2⟩:=ε.sl_pos V;obtain⟨rfl,hcc⟩:Aw=some (I g 0)/\cw=cap:=by injection hs with a b c;exact⟨a,c⟩
   have τ:=γ.rng uu hx;have hld:=eO (P:=prog) τ underlying339 O (Ex x);have χ:=H5.o.2.2.2.2.2.2 x (cX hx);obtain⟨W6,hst,B6,D6,z6⟩:=Lf x wr;have R6:=hR1.call D6;have Bs:ax W6 [(wr.heap.size,339,gJ x),(r,162,ff {R with aeI:=D1} k)]:=ax.cons B6 (ax.cons R6.blk ax.nil);obtain⟨lo,Ξ⟩:=aM (cS (R.m.r x.n) k);have CL:=U (λ(X:D) (K:aa bC W6 X)=>Ξ▸zx (R6.led.call K.no) χ.1 k R6.k6);have HF:=U (λ(X:D) (K:aa bC W6 X)=>ar (Bs.call K.no).rules (Bs.call K.no).lts);have HX:=cQ R6 (μ.call D6) Bs χ;clear hR1 μ hx ε ν γ hs ξ hmx hgb hcc τ χ B6 D6 R6 Bs Ξ;go_wp2_with fail;by_cases α:x.a<=lo
   ·refine dL [] bC 14 (λ_ h=>h.elim) Y Y ?_
    iterate 10 refine Eo HF.o ?_
    refine j8 (λ_=>rfl) (eJ O) 189 (λ_=>#[N R.L.b,Z ((k:Int)+1),q x.n]) _ cK (λ_ X hX=>CL.o X hX) ?_;simp only[aD]
    iterate 3 refine JX HF.o α ?_
    refine cT Y ?_;rintro _ W7 T-;replace T:S W6 W7:=T;have R7:=HX.o.1.call T;have B7:=HX.o.2.2.1.call T;have HF7:=U (λ(X:D) (K:S W7 X)=>ar (B7.call K).rules (B7.call K).lts);have H7:=aB R7 (HX.o.2.1.call T);clear R7 B7 HF CL T α;go_wp2_with fail;refine eS 6 Y ah aS aS aS aS ?_;simp only[cR]
    iterate 6
     first
     |refine kX rfl ?_;apply cV
      intro _ ρ C E J W K;have s:=HF7.o W K;simp[execOp,go_sem,C,E,J,s,ff,gJ]<;>exact O
     |refine kz (λ_=>rfl) ?_
     simp only[aD]
    refine dg ?_;intro _ W8 hb8 _;have R8:=H7.o.1.call hb8;have CD:=U (VD R8.dem HX.o.2.2.2.1);have H8:=aB R8 (H7.o.2.call hb8);clear hb8 R8 HF7;go_wp2_with fail;apply CD.o.mono;rintro y W9 ⟨⟨b,rfl⟩,D',hD,hm⟩;have HT:=U (show BY W5 r k n R W9 from⟨D',H8.o.1.dem_ hD hm,H8.o.2.trans (hm.mono (G:=R.F r) λf s=>.inr (.inr (.inr (.inr (.inr s)))))⟩);clear hD hm CD;go_wp2;go_roundw
    ·exact⟨j+1,V,by go_num,HT.o⟩
    simp[intOf];omega
   refine dL [] bC 14 (λ_ h=>h.elim) Y Y ?_
   iterate 10 refine Eo HF.o ?_
   refine j8 (λ_=>rfl) (eJ O) 189 (λ_=>#[N R.L.b,Z ((k:Int)+1),q x.n]) _ cK (λ_ X hX=>CL.o X hX) ?_;simp only[aD]
   iterate 3 refine JX HF.o α ?_
   refine cT Y ?_;rintro _ W7 T-;replace T:S W6 W7:=T;have HT:=U (show BY W5 r k n R W7 from⟨D1,HX.o.1.call T,HX.o.2.1.call T⟩);clear HF CL T α;go_wp2;go_roundw
   ·exact⟨j+1,V,by go_num,HT.o⟩
   simp[intOf];omega
  obtain rfl:j=wl.length:=V;have hd:=cP ((wl.length:Int)<wl.length);obtain⟨D1,hR1,μ⟩:=hW;have hws:w.heap.size<=W1.heap.size:=hw1s.o;have hnF:∀f,w.heap.size<=f->¬R.F r f:=λf h1 h2=>aA (HI.o f h2);have HA:=U (show xZ wr w r k n R {R with aeI:=D1} W1.heap.size (.slice AN (cq R.m).length cN) (.slice AG (ec R.m).length cG) (.slice Av lv.length cv) lv from
   ⟨hR1,(aa.of_below H5.o.2.1).trans μ,μ.blk H5.o.1 (hnF _ hws),μ.row H5.o.2.2.1 λf s=>hnF f (H5.o.2.2.1.ge f s).1,Row.mono (μ.row H5.o.2.2.2.2.1 λf s=>hnF f (aA ((H5.o.2.2.2.2.1.ge f s).1))) V⟩)
  have hwl1:W1.heap.size<wr.heap.size:=HA.o.st.lt;have hwwr:w.heap.size<=wr.heap.size:=V;clear hR1 μ hnF;obtain⟨WL,rfl⟩:=cJ (wr);go_wp2;go_loopw [4,64] (λv i wr=>∃j:Nat,j<=lv.length/\i=Z j/\Hq R.gn WL v j wr) (λ_ i _=>lv.length-(intOf i).toNat);exact⟨0,V,O,[],Row.nil,ah,ao _,aq _ _⟩;obtain⟨j,hj,rfl,hW⟩:=hrel;by_cases Ψ:j<lv.length
  ·have hd:=cO ((j:Int)<lv.length);have bl:=U hW;obtain⟨L,Ω,hL2,Γ,υ⟩:=hW;have hA:=HA.o.call υ;obtain⟨y,hy⟩:∃y,lv[j]? =some y:=⟨lv[j],bY Ψ⟩;have hy6:=HLX.o y (cX hy);obtain⟨jj,hjj,rfl⟩:∃jj:Nat,jj<6/\y=(jj:Int)+1:=⟨(y-1).toNat,V,V⟩;obtain⟨g,cap,hs,ξ,hmx,hgb,hgl2⟩:=hA.lv.sl_pos V;obtain⟨rfl,hcc⟩:Av=some (I g 0)/\cv=cap:=by injection hs with a b c;exact⟨a,c⟩
   have τ:=hA.lv.rng vX hy;have hce:wr.cell? (I g j)=some (Z ((jj:Int)+1)):=by have this:=τ 0 (Z ((jj:Int)+1)) O;rw[iP]at this;exact this
   have c0:wr.cell? (I r 0)=some (Z ((k:Int)+1)):=hA.re.blk.rules.1 0;have HY:=js hA Ω hL2 Γ υ hjj;clear hA Ω hL2 Γ υ hjj hs ξ hmx hcc τ hy hy6 hgb;by_cases hjk:jj=k
   ·subst hjk;go_wp2;go_roundw
    ·refine⟨j+1,V,by go_num,?_⟩;obtain⟨L,h1,h2,h3,h4⟩:=bl.o;exact⟨L,h1,h2,V,h4⟩
    simp[intOf];omega
   have hne:¬((jj:Int)+1=(k:Int)+1):=V;have hA:=HY.o.1;have hWr:=HY.o.2.2.2.2.1.size;have α:=HY.o.2.1.ge;have ι:kC (λf=>u4.ownBlock=some f) [(W1.heap.size,37,aT R.m.inn R.m.kn (.slice AN (cq R.m).length cN) (.slice AG (ec R.m).length cG)),(r,162,ff {R with aeI:=D1} k)]:=⟨λs=>aA ((α _ s).1),λs=>by have:=(α _ s).1;have:=HI.o r (.inl O);omega,trivial⟩;have η:dJ (R.F r) (λf=>u4.ownBlock=some f):=λf s hq2=>cF ((α _ hq2).1) (HI.o f s);have Bs:ax wr [(W1.heap.size,37,aT R.m.inn R.m.kn (.slice AN (cq R.m).length cN) (.slice AG (ec R.m).length cG)),(r,162,ff {R with aeI:=D1} k)]:=ax.cons hA.st (ax.cons hA.re.blk ax.nil);have ζ:=U (show∀f,u4.ownBlock=some f->f<wr.heap.size from λf s=>(α f s).2);have HF:=U (λ(X:D) (K:aa (λf=>u4.ownBlock=some f) wr X)=>ar (Bs.mod K ι).rules (ar (Bs.mod K ι).lts (xm (Bs.mod K ι).head)));have CL:=U (λ(X:D) (K:aa (λf=>u4.ownBlock=some f) wr X)=>Vr (hA.re.mod K η).peer (hA.re.mod K η).log (by have:=hA.re.cn;show R.c<=900000;have:R.c<=n:=this;omega) (Gl:=λe=>e.ok/\R.gn e) (λi hi y hy=>⟨(hA.re.log.ok i hi y hy).1,hA.re.gs.2 i hi y hy⟩) HY.o.2.2.2.2.2 16);have HOK:=U (show∀L:List z,(∀e∈L,e.ok)->bL.ok ⟨1,(k:Int)+1,(jj:Int)+1,R.m.kn,L,0,0⟩from λL hL=>by have h6:=hA.re.k6;have hj6:=HY.o.2.2.2.2.2;exact⟨show(0:Int)<=1/\(1:Int)<=255 by decide,bU (-9223372036854775808<=(k:Int)+1/\(k:Int)+1<=9223372036854775807),bU (-9223372036854775808<=(jj:Int)+1/\(jj:Int)+1<=9223372036854775807),hA.re.ok.knok,hL,show(0:Int)<=0/\(0:Int)<=18446744073709551615 by decide,show -9223372036854775808<=(0:Int)/\(0:Int)<=9223372036854775807 by decide⟩);clear hA α ι η Bs hWr;go_wp2_with fail;refine dL [] (λf=>u4.ownBlock=some f) 20 ζ.o Y Y ?_
   iterate 17
    first
    |refine gS rfl ?_;apply cV
     intro _ ρ C E J W K;have s:=HF.o W K;simp[execOp,go_sem,C,E,J,s,ff,↓o7]<;>exact O
    |refine gz (λ_=>rfl) ?_
    |refine lG Y rfl ?_;apply cV
     intro u ρ C E J w;simp[execOp,go_sem,C,E,J,ff,↓o7]<;>exact O
    simp only[aD]
   refine pn (λ_=>rfl) (eJ Y) 254 (λ_=>#[N R.bp,Z ((jj:Int)+1),N R.b,Z 16]) (λp:Option Addr×Nat×Nat=>.slice p.1 p.2.1 p.2.2) (none,0,0) (GH R.gn wr.heap.size) cK (λ_ aeR K=>?ca2) ?_
   case ca2=>refine(CL.o aeR K).mono ?_;rintro r Y' ⟨u,L,rfl,h1,hlen,h2,h3⟩;obtain⟨A2,c2,rfl,-,-⟩:=h1.sl;exact⟨(A2,L.length,c2),O,⟨A2,c2,L,O,Row.mono h1 K.size,h2,by have:=HY.o.1.re.cn;have:R.c<=n:=this;omega⟩,h3⟩
   simp only[aD];refine Fe (λ_=>rfl) (eJ Y) 17 ai (o3 Y) (λp:Option Addr×Nat×Nat=>.agg (aE ⟨1,(k:Int)+1,(jj:Int)+1,R.m.kn,.slice p.1 p.2.1 p.2.2,0,0⟩)) (none,0,0) (Fc R.gn wr.heap.size) (λu=>.slice u.2.1 u.2.2.1 u.2.2.2) _ cD (λu X hX hR=>?bd) ?_
   case bd=>simp only[d8,Nat.reduceAdd,cA]at hR;obtain⟨w1,w2,-,g2,⟨A2,c2,L2,e2,row2,ok2,len2⟩,g4⟩:∃w1 w2,(17=20->S wr w1)/\aa (λf=>u4.ownBlock=some f) wr w1/\GH R.gn wr.heap.size w1 (.slice u.2.1 u.2.2.1 u.2.2.2) w2/\fB [] (λk=>17≠20/\u4.ownBlock=some k) wr.heap.size w2 X:=hR;injection e2 with e3 e4 e5;have θ:=g4.row row2 λf s hF=>cF ((row2.ge f s).1) (ζ.o f hF.2);rw[e3,e4,e5]at θ;refine⟨u.2,X,by simp[↓aae,go_sem,Pm],⟨⟨⟨1,(k:Int)+1,(jj:Int)+1,R.m.kn,L2,0,0⟩,A2,c2⟩,?_,⟨⟨HOK.o L2 λe he=>(ok2 e he).1,len2⟩,λe he=>(ok2 e he).2⟩,θ⟩,aq _ _⟩;show Value.agg (aE ⟨1,(k:Int)+1,(jj:Int)+1,R.m.kn,.slice u.2.1 u.2.2.1 u.2.2.2,0,0⟩)=.agg (aE ⟨1,(k:Int)+1,(jj:Int)+1,R.m.kn,.slice A2 L2.length c2,0,0⟩);rw[e3,e4,e5]
   simp only[aD];refine Fe (λ_=>rfl) (eJ Y) 18 ai (o3 Y) (λp:Nat=>bh p 1 1) 0 (Hh R.gn wr.heap.size) (λu=>.agg (aE ⟨1,(k:Int)+1,(jj:Int)+1,R.m.kn,.slice u.2.1 u.2.2.1 u.2.2.2,0,0⟩)) _ cD (λu X hX hR=>?sl) ?_
   case sl=>simp only[d8,Nat.reduceAdd,cA]at hR;obtain⟨w1,w2,-,g2,⟨y,e2,my⟩,g4⟩:∃w1 w2,(18=20->S wr w1)/\aa (λf=>u4.ownBlock=some f) wr w1/\Fc R.gn wr.heap.size w1 (.agg (aE ⟨1,(k:Int)+1,(jj:Int)+1,R.m.kn,.slice u.2.1 u.2.2.1 u.2.2.2,0,0⟩)) w2/\fB [] (λk=>18≠20/\u4.ownBlock=some k) wr.heap.size w2 X:=hR;injection e2 with e2;have θ:=g4.row my.row λf s hF=>cF ((my.row.ge f s).1) (ζ.o f hF.2);exact⟨X.heap.size,X.alloc (.cells (aE ⟨1,(k:Int)+1,(jj:Int)+1,R.m.kn,.slice u.2.1 u.2.2.1 u.2.2.2,0,0⟩) 331),by simp[↓Jl,go_sem,KA],⟨X.heap.size,y,O,hX.size,by rw[<-e2];exact M.new _ _ _,my.ok,Row.call θ ((aq _ _).alloc (ao _) _)⟩,(aq _ _).alloc (ao _) _⟩
   simp only[aD];refine uA (λ_=>rfl) Y 19 ai (o3 Y) (λv:H=>v) (.slice none 0 0) (Md R.gn WL.heap.size wr.heap.size L) (λu=>bh u.2 1 1) _ cD (λu X hX hR=>?app) ?_
   case app=>
    simp only[d8,Nat.reduceAdd,cA]at hR;obtain⟨w1,w2,-,g2,⟨g',y,e2,hgq,hB,my⟩,g4⟩:∃w1 w2,(19=20->S wr w1)/\aa (λf=>u4.ownBlock=some f) wr w1/\Hh R.gn wr.heap.size w1 (bh u.2 1 1) w2/\fB [] (λk=>19≠20/\u4.ownBlock=some k) wr.heap.size w2 X:=hR;injection e2 with e3 _ _;injection e3 with e3;injection e3 with e3 _ _;subst e3;have hBX:M X u.2 331 (fE y):=by
     rcases g4.block u.2 hB.lt with e|⟨-,⟨cs,t,hz,-⟩,-⟩|⟨-,e⟩;exact e.trans hB
     ·cases hz
     have:=ζ.o _ e;omega
    have θ:=g4.row my.row λf s hF=>cF ((my.row.ge f s).1) (ζ.o f hF.2);have hLl:=HY.o.2.2.2.1;obtain⟨v',w',k1,k2,k3,k4,-⟩:=lr.app 146 (Row.call HY.o.2.1 hX) (A:=some (I u.2 0)) (cap:=1) (jn zh hBX) aQ (cF HY.o.2.2.2.2.1.size hX.size);exact⟨v',w',by simp[↓Jp,go_sem];exact k1,⟨y,k2,k3,my.ok,θ⟩,aa.of_grown k4 λ_ h=>h⟩
   simp only[aD]
   iterate 1
    refine kU O ?_;simp only[aD]
   refine cT Y ?_;rintro⟨⟨⟨⟨_,p1⟩,p2⟩,p3⟩,v'⟩ W' hC hR;dsimp only;simp only[d8,Nat.reduceAdd,Nat.zero_add]at hR;obtain⟨w1,w2,g1,-,⟨y,k2,k3,my⟩,g4⟩:=fK (hR 20 _ _ cD) O;have δ:=g1 O;have β:=g4.below λ_ h=>h.1 O;have hWr:=HY.o.2.2.2.2.1.size;have hz1:=δ.size;have σ:=k3.size;have HT:=U (show Hq R.gn WL v' (j+1) W' from by refine⟨L++[y],Row.call k2 β,λQ hz=>?_,by have:=HY.o.2.2.2.1;simp;omega,((HY.o.2.2.2.2.1.trans (δ.mono hWr)).trans k3.below).trans (β.mono V)⟩;rcases bP.1 hz with h|h;have mz:=HY.o.2.2.1 Q h;exact⟨mz.ok,Row.call (k3.row (Row.call mz.row δ) ai) β⟩;rw[dd.1 h];exact⟨my.ok,Row.mono (Row.call (k3.row my.row ai) β) hWr⟩);clear hC hR g1 k2 k3 my g4 δ β hWr hz1 σ HF CL ζ HOK w1 w2;go_wp2;go_roundw
   ·exact⟨j+1,V,by go_num,HT.o⟩
   simp[intOf];omega
  obtain rfl:j=lv.length:=V;have hd:=cP ((lv.length:Int)<lv.length);obtain⟨L,Ω,hL2,Γ,υ⟩:=hW;have hA:=HA.o.call υ;have CD:=U (Xb hA.re.dem HH.o.2);have c5:wr.cell? (I r 5)=some (N R.dm):=hA.re.blk.rules.1 5;have f0:=hA.re.blk.rules.2;have HY:=iA hA Ω hL2 Γ υ;clear hA Ω hL2 Γ υ;go_wp2_with fail;apply CD.o.mono;rintro x WD ⟨u,κ,rfl,ψ,hol,hoo,hdm,π⟩;obtain⟨Au,cu,rfl,hcu1,hcu2⟩:=ψ.sl;have hcum:cu<=9223372036854775807:=hcu2;have Δ:∀f,R.FD f->f<w.heap.size:=λf s=>HI.o f (.inr (.inr (.inr (.inr (.inr s)))));have α:=HY.o.2.1.ge;have hsz:=HY.o.2.2.2.2.size;have hS4:M WD W1.heap.size 37 (aT R.m.inn R.m.kn (.slice AN (cq R.m).length cN) (.slice AG (ec R.m).length cG)):=π.blk HY.o.1.st λs=>aA (Δ _ s);have hN4:eV WD w.heap.size (.slice AN (cq R.m).length cN) (cq R.m):=π.row HY.o.1.nd λf s hF=>cF ((HY.o.1.nd.ge f s).1) (Δ _ hF);have hQ:tL R.gn WL WD u4 u4 (lv.length+0) WD:=⟨⟨L,π.row HY.o.2.1 (λf s hF=>cF ((α f s).1) (Δ _ hF)),λy hy=>⟨(HY.o.2.2.1 y hy).ok,π.row (HY.o.2.2.1 y hy).row λf s hF=>cF (((HY.o.2.2.1 y hy).row.ge f s).1) (Δ _ hF)⟩,HY.o.2.2.2.1⟩,aa.refl,.inl O⟩;have hRD:=HY.o.1.re.dem_ hdm π;have hMD:=HY.o.1.md.trans (π.mono (G:=R.F r) λf s=>.inr (.inr (.inr (.inr (.inr s)))));have hv0:∀f,u4.ownBlock=some f->WL.heap.size<=f/\f<wr.heap.size:=λf s=>⟨(α f s).1,(α f s).2⟩;have HD:=U (ar hQ (ar hS4 (ar hN4 (ar hRD (ar hMD (ar ψ (ar hoo (ar hv0 π.size))))))));clear hQ hS4 hN4 hRD hMD ψ hoo hv0 Δ α hdm π CD c5 f0 HLX HY;generalize u4=v0 at HD⊢;go_wp2;go_loopw [4,103] (λv i wx=>∃j:Nat,j<=κ.length/\i=Z j/\tL R.gn WL WD v0 v (lv.length+j) wx) (λ_ i _=>κ.length-(intOf i).toNat);exact⟨0,V,O,HD.o.1⟩;obtain⟨j,hj,rfl,hW⟩:=hrel;by_cases Ψ:j<κ.length
  ·have hd:=cO ((j:Int)<κ.length);obtain⟨x,hx⟩:∃x,κ[j]? =some x:=⟨κ[j],bY Ψ⟩;have ε:=HD.o.2.2.2.2.2.1;have ν:=ε.ge;have γ:=hW.md.row ε λf s hF=>cF ((ν f s).1) ((HD.o.2.2.2.2.2.2.2.1 f hF).2);obtain⟨g,cap,hs,ξ,hmx,hgb,hgl2⟩:=ε.sl_pos V;obtain⟨rfl,hcc⟩:Au=some (I g 0)/\cu=cap:=by injection hs with a b c;exact⟨a,c⟩
   have τ:=γ.rng uu hx;have hld:=eO (P:=prog) τ underlying339 O (Ex x);have χ:=HD.o.2.2.2.2.2.2.1 x (cX hx);obtain⟨W6,hst,B6,D6,z6⟩:=Lf x wr;have Θ:=hW.call D6;have φ:∀f,f<w.heap.size\/f=W1.heap.size->¬v0.ownBlock=some f:=λf s hF=>aA ((HD.o.2.2.2.2.2.2.2.1 f hF).1);have hR6:cB W6 r k {R with aeI:=D1} n:=(HD.o.2.2.2.1.mod Θ.md λf s hF=>φ f (.inl (HI.o f s)) hF);have hS6:=Θ.md.blk HD.o.2.1 (φ _ (.inr O));have hN6:eV W6 w.heap.size (.slice AN (cq R.m).length cN) (cq R.m):=Θ.md.row HD.o.2.2.1 λf s hF=>by have h1:=(HD.o.2.2.2.2.2.2.2.1 f hF).1;have h2:=(H2.o.2.2.1.ge f s).2;omega
   have Bs:ax W6 [(wr.heap.size,339,gJ x),(W1.heap.size,37,aT R.m.inn R.m.kn (.slice AN (cq R.m).length cN) (.slice AG (ec R.m).length cG)),(r,162,ff {R with aeI:=D1} k)]:=ax.cons B6 (ax.cons hS6 (ax.cons hR6.blk ax.nil));have HF:=U (λ(X:D) (K:aa bC W6 X)=>ar (Bs.call K.no).rules (ar (Bs.call K.no).lts (f8 (P:=prog) (Bs.call K.no).drop.head underlying37 O (im _ _ _ _))));have CW:=U (λ(X:D) (K:aa bC W6 X)=>Wz (inn:=R.m.inn) (kn:=R.m.kn) (vG:=.slice AG (ec R.m).length cG) (i:=(k:Int)+1) (node:=x.n) (Row.call hN6 K.no) (by have:=HH.o.1.ok.tr.le;simp[cq,eG,nu];omega));have hlt4:∀f,u4.ownBlock=some f->WL.heap.size<=f/\f<wr.heap.size:=λf s=>by obtain⟨L,h1,-,-⟩:=hW.ex;exact h1.ge f s
   have Φ:=U hlt4;have HX:=js Θ hR6 hS6 Bs χ D6.size;clear hlt4 hW hx ε ν γ hs ξ hmx hgb hcc τ χ B6 D6 Θ φ hR6 hS6 hN6 Bs;go_wp2_with fail;refine dL [] bC 9 (λ_ h=>h.elim) Y Y ?_
   iterate 7 refine Eo HF.o ?_
   refine pn (λ_=>rfl) (eJ O) 256 (λ_=>#[.agg (aT R.m.inn R.m.kn (.slice AN (cq R.m).length cN) (.slice AG (ec R.m).length cG)),Z ((k:Int)+1),q x.n]) (λp:Int=>Z p) 0 (λ_ v _=>∃f:Int,0<=f/\f<=6/\v=Z f) cK (λ_ aeR K=>?ca3) ?_
   case ca3=>refine(CW.o aeR K).mono ?_;rintro r Y' ⟨⟨f,q0,q6,rfl⟩,hb'⟩;exact⟨f,O,⟨f,q0,q6,O⟩,hb'⟩
   simp only[aD]
   iterate 1
    refine kU O ?_;simp only[aD]
   refine cT Y ?_;rintro⟨_,f⟩ W7 T hR;dsimp only;replace T:S W6 W7:=T;simp only[d8,Nat.reduceAdd,Nat.zero_add]at hR;obtain⟨w1,w2,-,-,⟨q',hq0,hq6,hqe⟩,-⟩:=fK (hR 7 _ _ cD) O;injection hqe with _ hqe;subst hqe;have hQ7:=HX.o.1.call T;have hR7:=HX.o.2.1.call T;have B7:=HX.o.2.2.2.1.call T;have H7:=U (And.intro hQ7 (And.intro hR7 (And.intro B7 (Nat.le_trans HX.o.2.2.2.2.2 T.size))));clear hR T w1 w2 HF CW hQ7 hR7 B7;by_cases hqz:f=0
   ·subst hqz;go_wp2;go_roundw
    ·refine⟨j+1,V,by go_num,?_⟩;obtain⟨⟨L,q1,q2,q3⟩,q4,q5⟩:=H7.o.1;exact⟨⟨L,q1,q2,V⟩,q4,q5⟩
    simp[intOf];omega
   have hqd:(f==0)=false:=az hqz;go_wp2_with fail;obtain⟨lo,Ξ⟩:=aM (cS (R.m.r x.n) k);obtain⟨am,ham⟩:=aM (IntKind.i64.wrap (x.a-lo));have hamr:-9223372036854775808<=am/\am<=9223372036854775807:=by rw[<-ham];simp[IntKind.wrap,IntKind.bits,IntKind.signed];omega
   obtain⟨L,q1,q2,q3⟩:=H7.o.1.ex;have hFl:∀Q,u4.ownBlock=some Q->Q<W7.heap.size:=λQ hz=>cF ((Φ.o Q hz).2) H7.o.2.2.2;have ι:kC (λQ=>u4.ownBlock=some Q) [(wr.heap.size,339,gJ x),(W1.heap.size,37,aT R.m.inn R.m.kn (.slice AN (cq R.m).length cN) (.slice AG (ec R.m).length cG)),(r,162,ff {R with aeI:=D1} k)]:=⟨λs=>aA ((Φ.o _ s).2),λs=>aA ((Φ.o _ s).1),λs=>by have:=(Φ.o _ s).1;have:=HI.o r (.inl O);omega,trivial⟩;have η:dJ (R.F r) (λQ=>u4.ownBlock=some Q):=λQ hz σ=>cF ((Φ.o _ σ).1) (HI.o Q hz);have ζ:=U hFl;have HF:=U (λ(X:D) (K:aa (λQ=>u4.ownBlock=some Q) W7 X)=>ar (H7.o.2.2.1.mod K ι).rules (ar (H7.o.2.2.1.mod K ι).lts (xm (H7.o.2.2.1.mod K ι).drop.head)));have CL:=U (λ(X:D) (K:aa (λQ=>u4.ownBlock=some Q) W7 X)=>Ξ▸zx (H7.o.2.1.mod K η).led HX.o.2.2.2.2.1.1 k HX.o.2.1.k6);obtain⟨y,hy⟩:∃y:ij,y=⟨⟨2,(k:Int)+1,f,R.m.kn,[],x.n,am⟩,none,0⟩:=⟨_,O⟩;have hmy:fE y=aE ⟨2,(k:Int)+1,f,R.m.kn,.slice none 0 0,x.n,am⟩:=by rw[hy];rfl
   have hyok:(y.m.ok/\y.m.l.length<=100000)/\∀e∈y.m.l,R.gn e:=by rw[hy];refine⟨⟨?_,gM _⟩,ah⟩;have h6:=HX.o.2.1.k6;have C:=HX.o.2.2.2.2.1.1;exact⟨show(0:Int)<=2/\(2:Int)<=255 by decide,bU (-9223372036854775808<=(k:Int)+1/\(k:Int)+1<=9223372036854775807),bU (-9223372036854775808<=f/\f<=9223372036854775807),H7.o.2.1.ok.knok,ah,C,hamr⟩
   have hyl:∀X,fS X WL.heap.size (.slice y.A y.m.l.length y.c) y.m.l:=λX=>by rw[hy];exact Row.nil
   have HQ:=js q1 q2 q3 hyok hyl hmy;clear q1 q2 q3 ι η Ξ hy hyok hyl hamr hFl hmy;refine dL [] (λQ=>u4.ownBlock=some Q) 26 ζ.o Y Y ?_
   iterate 22
    first
    |refine gS rfl ?_;apply cV
     intro _ ρ C E J W K;have s:=HF.o W K;simp[execOp,go_sem,C,E,J,s,ff,gJ,↓o7]<;>exact O
    |refine gz (λ_=>rfl) ?_
    |refine lG Y rfl ?_;apply cV
     intro u ρ C E J w;simp[execOp,go_sem,C,E,J,ff,gJ,↓o7]<;>exact O
    simp only[aD]
   refine j8 (λ_=>rfl) (eJ Y) 189 (λ_=>#[N R.L.b,Z ((k:Int)+1),q x.n]) _ cK (λ_ X hX=>CL.o X hX) ?_;simp only[aD]
   iterate 2
    first
    |refine gS rfl ?_;apply cV
     intro _ ρ C E J W K;have s:=HF.o W K;simp[execOp,go_sem,C,E,J,s,ham,↓Jo,KT]<;>exact O
    |refine gz (λ_=>rfl) ?_
    |refine Aa (λ_=>rfl) ?_;apply cV
     intro _ W K;have s:=HF.o W K;simp[execOp,go_sem,s,ham,↓Jo,KT]<;>exact O
    |refine lG Y rfl ?_;apply cV
     intro u ρ C E J w;simp[execOp,go_sem,C,E,J,ham,↓Jo,KT]<;>exact O
    simp only[aD]
   refine uP (λ_=>rfl) (eJ Y) (λp:Nat=>bh p 1 1) 0 (Hi W7.heap.size y) (λ_ X hX=>⟨X.heap.size,X.alloc (.cells (aE ⟨2,(k:Int)+1,f,R.m.kn,.slice none 0 0,x.n,am⟩) 331),by simp[↓Jl,go_sem,KA],⟨X.heap.size,O,hX.size,by rw[HQ.o.2.2.2.2.2];exact M.new _ _ _⟩,(aq _ _).alloc (ao _) _⟩) ?_;simp only[aD];refine uA (λ_=>rfl) Y 25 ai (o3 Y) (λv:H=>v) (.slice none 0 0) (Me WL.heap.size L y u4) (λu=>bh u.2 1 1) _ (λ_=>gO ⟨by simp only[bW,dN,g8],O,O⟩) (λu X hX hR=>?app2) ?_
   case app2=>
    simp only[d8,Nat.reduceAdd,cA]at hR;obtain⟨w1,w2,-,g2,⟨g',e2,hgq,hB⟩,g4⟩:∃w1 w2,(25=26->S W7 w1)/\aa (λQ=>u4.ownBlock=some Q) W7 w1/\Hi W7.heap.size y w1 (bh u.2 1 1) w2/\fB [] (λk=>25≠26/\u4.ownBlock=some k) W7.heap.size w2 X:=hR;injection e2 with e3 _ _;injection e3 with e3;injection e3 with e3 _ _;subst e3;have hBX:M X u.2 331 (fE y):=by
     rcases g4.block u.2 hB.lt with e|⟨-,⟨cs,t,hz,-⟩,-⟩|⟨-,e⟩;exact e.trans hB
     ·cases hz
     have:=ζ.o _ e;omega
    have hLl:=HQ.o.2.2.1;obtain⟨v',w',k1,k2,k3,k4,k5⟩:=lr.app 146 (Row.call HQ.o.1 hX) (A:=some (I u.2 0)) (cap:=1) (jn zh hBX) aQ (by have:=H7.o.2.2.2;have:=hX.size;have:=HD.o.2.2.2.2.2.2.2.2;have:=H7.o.1.md.size;omega);exact⟨v',w',by simp[↓Jp,go_sem];exact k1,⟨k2,k3,k5,aa.of_grown k4 λ_ h=>h⟩,aa.of_grown k4 λ_ h=>h⟩
   simp only[aD]
   iterate 1
    refine kU O ?_;simp only[aD]
   refine cT Y ?_;rintro⟨⟨_,p3⟩,v'⟩ W' hC hR;dsimp only;simp only[d8,Nat.reduceAdd,Nat.zero_add]at hR;obtain⟨w1,w2,g1,-,⟨k2,k3,k5,k6⟩,g4⟩:=fK (hR 26 _ _ cD) O;have δ:=g1 O;have β:=g4.below λ_ h=>h.1 O;have hz1:=δ.size;have σ:=k3.size;have hzD:=H7.o.1.md.size;have hT:tL R.gn WL WD v0 v' (lv.length+(j+1)) W':=by refine⟨⟨L++[y],Row.call k2 β,λQ hz=>?_,by have:=HQ.o.2.2.1;simp;omega⟩,?_,?_⟩;rcases bP.1 hz with h|h;have mz:=HQ.o.2.1 Q h;exact⟨mz.ok,Row.call (k3.row (Row.call mz.row δ) ai) β⟩;rw[dd.1 h];exact⟨HQ.o.2.2.2.1,HQ.o.2.2.2.2.1 _⟩;refine((H7.o.1.md.call δ).trans' k6 λQ hz σ=>?_).call β;rcases H7.o.1.ow with h|h;exact h▸σ;have:=h Q σ;omega;rcases k5 with h|h;rcases H7.o.1.ow with h2|h2;exact .inl (h.trans h2);exact .inr λb K=>h2 b (h▸K);exact .inr λb K=>aA (h b K)
   have HT:=U hT;clear hT hC hR g1 k2 k3 k5 k6 g4 δ β hz1 σ hzD HF CL ζ w1 w2;go_wp2;go_roundw
   ·exact⟨j+1,V,by go_num,HT.o⟩
   simp[intOf];omega
  obtain rfl:j=κ.length:=V;have hd:=cP ((κ.length:Int)<κ.length);have HW:=U hW;clear hW;go_wp2;go_ret;obtain⟨L,q1,q2,q3⟩:=HW.o.ex;refine⟨_,L,O,Row.mono q1 V,λy hy=>⟨(q2 y hy).ok,Row.mono (q2 y hy).row V⟩,V,?_⟩;have φ:∀f,f<w.heap.size->¬v0.ownBlock=some f:=λf s hF=>aA ((HD.o.2.2.2.2.2.2.2.1 f hF).1);exact⟨_,HD.o.2.2.2.1.mod HW.o.md λf s hF=>φ f (HI.o f s) hF,⟨O,λ_ h=>.inl h⟩,HD.o.2.2.2.2.1.trans' HW.o.md λf s hF=>absurd hF (φ f s),λf s=>.inl s⟩
end
