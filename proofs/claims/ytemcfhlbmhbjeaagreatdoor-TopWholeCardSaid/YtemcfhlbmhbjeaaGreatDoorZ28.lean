import Derived.Test.YtemcfhlbmhbjeaaGreatDoorZ27
set_option maxRecDepth 100000
set_option maxHeartbeats 0
set_option linter.all false
namespace Go.Proofs.YtemcfhlbmhbjeaaGreatDoor
open Go.Proofs.Tryz
variable{w w0 aeR:D}{C:aJ}{id i:Int}{k g c base aeM b:Nat}{p:fh×Bool}{e:z}{x:j1}{f:Nat->Int}{B:ez}{m:bV}
open Go Go.RowKit
def ly(x:j1)(aeM:List eB):bD:=match aeM[x.nd.toNat%aeM.length]? with
 |some y=>if x.near then{x.s with a:={x.s.a with n:=y.id}}else x.s
 |none=>x.s
def Rs(h:x.s.ok){aeM:List eB}(l:∀y∈aeM,mA y.id):(ly x aeM).ok:=by
 unfold ly;split
 ·rename_i y o;split;exact⟨h.d,h.w,⟨h.a.k,l y (cX o),h.a.t,h.a.a,h.a.r,h.a.f⟩,h.k,h.j,h.n,h.pk⟩;exact h
 exact h
def Rt(h:x.s.At w)(aeM:List eB):(ly x aeM).At w:=by
 unfold ly;split
 ·split
  exact h;exact h
 exact h
def zq(x:bD):(aX x).all (·.oneCell')=true:=by simp[aX,Value.oneCell']
@[go_sem ↓ high] theorem aaP(ρ:aO->H)(dst:Option Tmp)(x y:aO)(ty:ay)(pos:String)(after:Array Edge)(guard:Option (Nat×Bool)):execOp ρ {dst,op:=.store 58 x y,type:=ty,pos,after,guard}=eQ 58 (ρ x) (ρ y):=by simp[execOp,eQ]
def Dy(x:bD)(w:D):∃a,(eQ 58 (N w.heap.size) (.agg (aX x))).run prog (w.alloc (.cells #[.int .u8 0,Z 0,.int .u8 0,q 0,Z 0,Z 0,q 0,q 0,Z 0,Z 0,Z 0,.slice none 0 0] 58))=.ok .skip a/\M a w.heap.size 58 (aX x)/\S w a:=by have B:M (w.alloc (.cells #[.int .u8 0,Z 0,.int .u8 0,q 0,Z 0,Z 0,q 0,q 0,Z 0,Z 0,Z 0,.slice none 0 0] 58)) w.heap.size 58 #[.int .u8 0,Z 0,.int .u8 0,q 0,Z 0,Z 0,q 0,q 0,Z 0,Z 0,Z 0,.slice none 0 0]:=M.new _ _ _;exact⟨_,ft B (pg x) O (zq x),dt B _,Below.rowN ((aq _ _).alloc (ao _) _) (ao _) _⟩
def Ux{t:ay}(h:M w g t (oB x)):(dQ 58 (N g)).run prog w=.ok (.value (.agg (aX x.s))) w:=
 eO (h.rngAt (o:=0) (n:=0) (aX x.s) λj v a=>by
  match j,a with
  |0,a=>exact a
  |1,a=>exact a
  |2,a=>exact a
  |3,a=>exact a
  |4,a=>exact a
  |5,a=>exact a
  |6,a=>exact a
  |7,a=>exact a
  |8,a=>exact a
  |9,a=>exact a
  |10,a=>exact a
  |11,a=>exact a
  |j+12,a=>simp[aX]at a) underlying58 O (pg _)
def TM(x:j1)(G:j2 x.nd){inn:Nat->Bool}{kn:an}{vN vG:H}{aeM:List eB}(hN:eV w base vN aeM):Calls prog 16 #[.agg (oB x),.agg (aT inn kn vN vG)] w λr w'=>r=.returned (.agg (aX (ly x aeM)))/\S w w':=by
 obtain⟨A,cN,rfl,υ,σ⟩:=hN.sl;obtain⟨t,R,B0,D0⟩:=YC w 60 (oB x) 37 (aT inn kn (.slice A aeM.length cN) vG) 58 #[.int .u8 0,Z 0,.int .u8 0,q 0,Z 0,Z 0,q 0,q 0,Z 0,Z 0,Z 0,.slice none 0 0];have δ:=Ux B0.drop.drop.head;obtain⟨J,X,B1,D1⟩:=Dy x.s t;have l:=cQ B0 D0 B1 D1;have HN:=U hN;have HW:=U R;clear B0 D0 B1 D1 hN R;go_in;go_upto_region 1 with fail;generalize hg:((w.alloc _).alloc _).alloc _=X0;obtain rfl:t=X0:=HW.o.trans hg;clear HW hg;go_upto_region 2 with fail;have n0:=l.o.1.drop.drop.head.call l.o.2.2.2;have s0:=l.o.1.drop.head.call l.o.2.2.2;have r0:=l.o.1.head.call l.o.2.2.2;have L:J.cell? (I w.heap.size 12)=some (.bool x.near):=n0.cell 12;have μ:J.cell? (I w.heap.size 13)=some (.int .u8 x.nd):=n0.cell 13;have π:J.cell? (I (w.heap.size+1) 18)=some (.slice A aeM.length cN):=s0.cell 18;have l1:=n0.lt;have l2:=s0.lt;have κ:=k7 l.o.2.2.1;have Q:=ft (P:=prog) (ty:=58) r0 (pg x.s) O (zq x.s);have F:=aB (dt r0 (aX x.s)) (Below.rowN (l.o.2.1.trans (l.o.2.2.2.mono l.o.2.1.size)) (g:=w.heap.size+2) V (aX x.s));clear n0 s0 r0 X δ;cases u:x.near with
 |false=>
  have e:ly x aeM=x.s:=by unfold ly;split<;>simp[u]
  rw[u]at L;go_wp2_with fail;exact eI (s:=4) results16 O F.o.1 underlying58 O (pg _) O ⟨by first|rfl|rw[e],F.o.2⟩
 |true=>
  rw[u]at L;by_cases h0:0<aeM.length
  ·have hd:=cO ((0:Int)<aeM.length);clear Q F;obtain⟨j,hj⟩:=aM (x.nd.toNat%aeM.length);have ζ:j<aeM.length:=hj▸Nat.mod_lt _ h0;obtain⟨y,hy⟩:∃y,aeM[j]? =some y:=⟨aeM[j],bY ζ⟩;have e:ly x aeM={x.s with a:={x.s.a with n:=y.id}}:=by unfold ly;rw[hj,hy];simp[u]
   have e1:IntKind.i64.wrap x.nd=x.nd:=bS _ (cF G.1 G.2);have e2:Int.tmod x.nd (aeM.length:Int)=(j:Int):=by obtain⟨d,hd⟩:∃d:Nat,x.nd=d:=⟨x.nd.toNat,aA G.1⟩;rw[hd]at hj⊢;rw[<-hj];simp[Int.tmod]
   obtain⟨g,η,hs,-,-,-,ξ⟩:=HN.o.sl_pos h0;obtain⟨rfl,-⟩:A=some (I g 0)/\cN=η:=by injection hs with a b c;exact⟨a,c⟩
   have T:=(Row.call (Row.call HN.o l.o.2.1) l.o.2.2.2).rng mT hy;have θ:J.cell? (I g (j*56))=some (q y.id):=az (T 0 _ (xD y));have lg:g<J.heap.size:=ee ξ (aZ l.o.2.1.size l.o.2.2.2.size);have HF:=U (λ(aeR:D) (E:S J aeR)=>ar ((E.cell (p:=(I w.heap.size 13)) l1).trans μ) (ar ((E.cell (p:=(I (w.heap.size+1) 18)) l2).trans π) (ar ((E.cell (p:=(I g (j*56))) lg).trans θ) (ar (ee l1 E.size) (ar (ee l2 E.size) (ee lg E.size))))));have a0:(0:Int)<=(j:Int):=V;have a1:(j:Int)<(aeM.length:Int):=V;have ν:aeM≠[]:=λh=>by rw[h]at h0;simp at h0
   clear T hs;go_upto_region 3 with fail;refine eS 14 Y ah aS aS aS aS ?_;simp only[cR]
   iterate 14 first|refine pE HF.o (xA e1 e2 a0 a1 ν) ?_|(refine zM (λ_=>rfl) ?_;apply cV;intro _ W d;have j:=HF.o W d;simp[execOp,go_sem,j,e1,e2,a0,a1,ν]<;>exact rfl;simp only[aD])
   refine dg ?_;intro _ K v _;have b1:=l.o.2.2.1.call v;have r1:=(l.o.1.head.call l.o.2.2.2).call v;have c3:K.cell? (I t.heap.size 3)=some (q x.s.a.n):=b1.cell 3;have f3:=b1.frozen;have b2:M (K.setCell (I t.heap.size 3) (q y.id)) t.heap.size 58 (aX {x.s with a:={x.s.a with n:=y.id}}):=b1.set_ 3 (q y.id);have m2:aa (aR t.heap.size) K (K.setCell (I t.heap.size 3) (q y.id)):=aa.set (I t.heap.size 3) (show aR t.heap.size t.heap.size from O) _;have β:=l.o.1.head.lt;have r2:=m2.blk r1 λe=>by have e:w.heap.size+2=t.heap.size:=e;omega
   have d2:S w (K.setCell (I t.heap.size 3) (q y.id)):=(l.o.2.1.trans (l.o.2.2.2.mono l.o.2.1.size)).trans ((v.mono (aZ l.o.2.1.size l.o.2.2.2.size)).trans (m2.belowC (aZ l.o.2.1.size (aZ l.o.2.2.2.size v.size)) λε hq e=>by have e:ε=t.heap.size:=e;have:=l.o.2.1.size;omega));have HE:=aP b2 r2 d2;clear b2 m2 r2 d2 HF b1 r1 κ β;go_upto_region 4 with fail;generalize World.setCell K _ _=W3 at HE⊢;have τ:=k7 HE.o.1;have Q:=ft (P:=prog) (ty:=58) HE.o.2.1 (pg {x.s with a:={x.s.a with n:=y.id}}) O (zq _);have F:=aB (dt HE.o.2.1 (aX {x.s with a:={x.s.a with n:=y.id}})) (Below.rowN HE.o.2.2 (g:=w.heap.size+2) V (aX {x.s with a:={x.s.a with n:=y.id}}));go_wp2_with fail;exact eI (s:=4) results16 O F.o.1 underlying58 O (pg _) O ⟨by first|rfl|rw[e],F.o.2⟩
  obtain rfl:aeM=[]:=lR V;have e:ly x []=x.s:=by simp[ly]
  go_wp2_with fail;exact eI (s:=4) results16 O F.o.1 underlying58 O (pg _) O ⟨by first|rfl|rw[e],F.o.2⟩
def gK(f:Nat->Int):Int:=f 0+f 1+f 2+f 3+f 4+f 5
def GK{g:Nat->Int}(h:∀k,k<6->f k<=g k):gK f<=gK g:=by have n:=h 0 V;have j:=h 1 V;have a:=h 2 V;have o:=h 3 V;have d:=h 4 V;have l:=h 5 V;unfold gK;omega
def Ga(f g:Nat->Int):gK (λk=>f k+g k)=gK f+gK g:=by simp only[gK];omega
def DR{g:Nat->Int}(h:∀k,k<6->f k=g k):gK f=gK g:=by unfold gK;rw[h 0 V,h 1 V,h 2 V,h 3 V,h 4 V,h 5 V]
def F9{j:Nat}(l:j<6)(h:∀k,k<6->k≠j->f k=0):gK f=f j:=by
 have e:∀k,k<6->f k=if k=j then f j else 0:=λk n=>by
  split
  ·rename_i a;rw[a]
  rename_i a;exact h k n a
 unfold gK;rw[e 0 V,e 1 V,e 2 V,e 3 V,e 4 V,e 5 V];clear e h;generalize f j=x
 revert l
 refine(λd=>d j) (zO (P:=λj=>(if 0=j then x else 0)+(if 1=j then x else 0)+(if 2=j then x else 0)+(if 3=j then x else 0)+(if 4=j then x else 0)+(if 5=j then x else 0)=x) ?_ ?_ ?_ ?_ ?_ ?_)<;>simp
def pD(id:Int)(k:Nat)(e:z):Int:=if e.w=k/\e.k=1/\bg e.o e.s=id then e.a else 0
def gY(id:Int)(k:Nat)(e:z):Int:=if e.w=k/\e.k=2/\e.n=id then e.a else 0
def VK{j:Int->List Int}{l:Int×Int->Int×Int}(r:k<6):iW j l e id k=pD id k e+gY id k e:=by
 unfold pD gY;by_cases a:e.k=1
 ·rw[Bk a,al (c:=_/\e.k=2/\_) V];by_cases h:bg e.o e.s=id/\k=e.w;rw[av h,av ⟨h.2.symm,a,h.1⟩];omega;rw[al h,al λg=>h ⟨g.2.2,g.1.symm⟩];omega
 rw[al (c:=_/\e.k=1/\_) λg=>a g.2.1];by_cases d:e.k=2
 ·rw[BK d];by_cases h:e.n=id/\k=e.w;rw[av h,av ⟨h.2.symm,d,h.1⟩];omega;rw[al h,al λg=>h ⟨g.2.2,g.1.symm⟩];omega
 rw[al λg=>d g.2.1];unfold iW;rw[al a,al d];split;rw[al V];rfl;split;rw[al V];rfl;split;rw[al V];rfl;rfl
def FN{α:Type}{f g:α->Int}:∀{L:List α},(∀x∈L,f x<=g x)->(L.map f).sum<=(L.map g).sum
 |[],_=>o5 _
 |x::L,h=>by have d:=h x cz;have j:=FN (L:=L) λy a=>h y (dC _ a);simp only[cW,gy];omega
def zp{α:Type}{f:α->Int}{L:List α}(h:∀x∈L,f x=0):(L.map f).sum=0:=by
 rw[vY (g:=λ_=>0) h]
 induction L with
 |nil=>rfl
 |cons x L ih=>have:=ih λy a=>h y (dC _ a);simp only[cW,gy];omega
def zC{α:Type}{f:α->Int}{L:List α}(h:∀x∈L,0<=f x):0<=(L.map f).sum:=by have:=FN (f:=λ_=>0) h;rw[zp (f:=λ_:α=>(0:Int)) λ_ _=>rfl]at this;exact this
def K5{α:Type}{f:α->Int}{a:α}(j:0<=f a):∀{L:List α},L.Nodup->(∀x∈L,x≠a->f x=0)->(L.map f).sum<=f a
 |[],_,_=>j
 |x::L,hn,h=>by obtain⟨l,n⟩:=rf.1 hn;rw[cW,gy];by_cases e:x=a;subst e;rw[zp λy d=>h y (dC _ d) λe=>l (e▸d)];omega;rw[h x cz e];have:=K5 j n λy d=>h y (dC _ d);omega
def EI{α β γ:Type}[DecidableEq α]{φ:α×β->Int}{ψ:α×γ->Int}:∀{A:List (α×β)} {B:List (α×γ)},dR A->dR B->(∀x∈B,0<=ψ x)->(∀x∈A,φ x<=0\/∃w,(x.1,w)∈B/\φ x<=ψ (x.1,w))->(A.map φ).sum<=(B.map ψ).sum
 |[],_,_,_,hp,_=>zC hp
 |x::A,B,hA,hB,hp,h=>by
  obtain⟨n,j⟩:=n9.1 hA;rw[cW,gy];rcases h x cz with l|⟨w,l,r⟩;have:=EI j hB hp λy a=>h y (dC _ a);omega;rw[DQ ((hB.split l).map ψ),cW,gy];have:=EI j (hB.dropL x.1) (λy a=>hp y (rz.1 a).1) λy a=>by rcases h y (dC _ a)with d|⟨v,d,o⟩;exact .inl d;exact .inr ⟨v,rz.2 ⟨d,eC (n y a)⟩,o⟩
  omega
structure kH(n:Nat)(J:Nat->List z)(aeL:Nat->aG)(Pd:Nat->List z)(A:bV)(c:Nat):Prop where
 six:lA n J aeL
 pm:∀k,k<6->∀e∈Pd k,bG e=true
 nd:∀id p l,lk A.nd id=some (p,l)->id≠0/\l<=1125899906842624/\∃k,k<6/\∃e∈J k,e.w=k/\e.k=1/\bg e.o e.s=id/\e.n=p/\e.a<=l
 ra:∀id,gK (λk=>((J k++Pd k).map (gY id k)).sum)<=(lk A.ra id).getD 0
 rb:∀id,(lk A.ra id).getD 0<=c*1125899906842624
 ta:∀aeT p,lk A.ta aeT=some p->∃k:Nat,k<6/\aeT.1=(k:Int)+1/\∃g,lk (aeL k).gr aeT=some g/\g.n=p.1/\g.a=p.2
 ba:∀k,k<6->∀e∈J k++Pd k,e.w=k->e.k=4->lk A.ba (e.o,e.f)=some true
 tn:dR A.ta
section
variable{n c:Nat}{J:Nat->List z}{aeL:Nat->aG}{Pd:Nat->List z}{A:bV}(aeK:kH n J aeL Pd A c)
include aeK
def kH.may(a:k<6)(d:e∈J k++Pd k):bG e=true:=by rcases bP.1 d with h|h;exact((aeK.six.run k a).may e h).1;exact aeK.pm k a e h
def kH.limit{p l:Int}(h:lk A.nd id=some (p,l)):gK (λk:Nat=>(aeL k).r id k)<=l+(lk A.ra id).getD 0:=by
 obtain⟨W,-,w0,d,t,y,P,a2,F,a4,a5⟩:=aeK.nd id p l h;have E:∀k,k<6->(aeL k).r id k=((J k).map (pD id k)).sum+((J k).map (gY id k)).sum:=λk u=>by
  rw[((aeK.six.run k u).cells (aeK.six.env u) id k).1,vY (g:=λe=>pD id k e+gY id k e) λe _=>VK u];generalize J k=L
  induction L with
  |nil=>rfl
  |cons x L ih=>simp only[cW,gy,ih];omega
 have h1:gK (λk:Nat=>(aeL k).r id k)=gK (λk=>((J k).map (pD id k)).sum)+gK (λk=>((J k).map (gY id k)).sum):=by rw[<-Ga];exact DR E
 have v:bg t.o t.s≠0:=by rw[F];exact W
 have h2:gK (λk=>((J k).map (pD id k)).sum)<=l:=by
  rw[F9 d λk u j=>zp λe T=>?_]
  ·have hz:pD id w0 t=t.a:=av ⟨P,a2,F⟩;have hp:=(iH ((aeK.six.run w0 d).may t y).1).a1;have:=K5 (f:=pD id w0) (a:=t) V (aeK.six.run w0 d).nodup λx hx j=>by unfold pD;rw[al];rintro⟨G,X,K⟩;obtain⟨Q,R⟩:=ES v (F.trans K.symm);exact j ((aeK.six.run w0 d).one hx y (by rw[P,G]) R.symm)
   omega
  unfold pD;rw[al];rintro⟨G,X,K⟩;obtain⟨Q,R⟩:=ES v (F.trans K.symm);apply j;rw[<-P,<-G];unfold z.w;rw[Q]
 have h3:gK (λk=>((J k).map (gY id k)).sum)<=gK (λk=>((J k++Pd k).map (gY id k)).sum):=GK λk u=>by
  rw[jh,List.sum_append];have:=zC (f:=gY id k) (L:=Pd k) λe T=>by have:=(iH (aeK.pm k u e T)).a1;unfold gY;split<;>omega
  omega
 have h4:=aeK.ra id;omega
def kH.below(u:k<6){of:Int}(d:of≠0):∀(f:Nat) (x:Int),(lk (aeL k).tr x).isSome=true->k9 A.nd of f x=of->of∈aL (aeL k).tr x:=by
 have L:lk A.nd 0=none:=by
  cases o:lk A.nd 0 with
  |none=>rfl
  |some y=>exact absurd O (aeK.nd 0 y.1 y.2 o).1
 have zero:∀f,k9 A.nd of f 0≠of:=λf=>by
  cases f with
  |zero=>exact λh=>d h.symm
  |succ f=>unfold k9;rw[L,av (.inr rfl)];exact λh=>d h.symm
 have a:=(aeK.six.run k u).led.tr.wf;intro f
 induction f with
 |zero=>intro x r h;have h:x=of:=h;rw[<-h];exact yF a r
 |succ f ih=>
  intro x r h;unfold k9 at h;split at h;rw[<-h];exact yF a r;rename_i G;cases o:lk A.nd x with
  |none=>exact absurd (.inr (by rw[o];rfl)) G
  |some y=>obtain⟨p,l⟩:=y;obtain⟨v,-,w0,j,E,s,W,R,K,P,T⟩:=aeK.nd x p l o;rw[o]at h;have h:k9 A.nd of f p=of:=h;have Q:lk (aeL w0).tr x=some p:=((aeK.six.run w0 j).tree x p).2 ⟨v,E,s,R,K,P⟩;obtain⟨F,t⟩:=ur r;have:=aeK.six.par j u Q t;subst this;rw[qk a t];rcases(a.par t).2 with h2|h2;rw[h2]at h;exact absurd h (zero f);exact dC _ (ih p h2 h)
def rZ(aeL:Nat->aG):Nat->List ((Int×Int)×cI)
 |0=>[]
 |c+1=>rZ aeL c++(aeL c).gr.filter λx=>decide (x.1.1=(c:Int)+1)
omit aeK in
def zi{aeL:Nat->aG}{x:(Int×Int)×cI}:∀{c:Nat},x∈rZ aeL c↔∃k:Nat,k<c/\x∈(aeL k).gr/\x.1.1=(k:Int)+1
 |0=>by simp[rZ]
 |c+1=>by unfold rZ;rw[bP,zi,lD,eN];constructor;rintro(⟨k,d,a⟩|h);exact⟨k,V,a⟩;exact⟨c,V,h⟩;rintro⟨k,d,a⟩;by_cases e:k=c;subst e;exact .inr a;exact .inl ⟨k,V,a⟩
def kH.allG_nd:∀c,c<=6->dR (rZ aeL c)
 |0,_=>vx
 |c+1,hc=>by refine List.pairwise_append.2 ⟨kH.allG_nd c V,List.Pairwise.sublist List.filter_sublist (aeK.six.run c V).shape.gd,λx h y d e=>?_⟩;obtain⟨k,j,l,a⟩:=zi.1 h;have:=(lD.1 d).2;simp only[eN]at this;rw[e,this]at a;omega
def vk(aeL:Nat->aG)(id:Int)(x:(Int×Int)×cI):Int:=iq (aeL (x.1.1-1).toNat) id (x.1.1-1).toNat x
def kH.allG_sum(id:Int):gK (λk=>((aeL k).gr.map (iq (aeL k) id k)).sum)=((rZ aeL 6).map (vk aeL id)).sum:=by
 have one:∀c,c<6->(((aeL c).gr.filter λx=>decide (x.1.1=(c:Int)+1)).map (vk aeL id)).sum=((aeL c).gr.map (iq (aeL c) id c)).sum:=λc l=>by rw[De (λx=>decide (x.1.1=(c:Int)+1)) (iq (aeL c) id c) λx a d=>?_];refine vY λx a=>?_;have:=(lD.1 a).2;simp only[eN]at this;unfold vk;rw[bU ((x.1.1-1).toNat=c)];have j:=((aeK.six.run c l).led.gk x a).1;simp only[vE]at d;unfold iq;rw[al λh=>d (by rw[j];exact h.1)]
 simp only[rZ,ju,jh,List.sum_append,one 0 V,one 1 V,one 2 V,one 3 V,one 4 V,one 5 V];rfl
def kH.used(E:id≠0):iV A id A.ta<=gK (λk=>((aeL k).gr.map (iq (aeL k) id k)).sum)/\0<=iV A id A.ta:=by
 have d:∀x∈A.ta,∃k:Nat,k<6/\x.1.1=(k:Int)+1/\∃g,lk (aeL k).gr x.1=some g/\g.n=x.2.1/\g.a=x.2.2:=λx j=>aeK.ta x.1 x.2 (aeK.tn.lk j);have l:∀k,k<6->∀x∈(aeL k).gr,1<=x.2.a:=λk Q x j=>((aeK.six.run k Q).led.gi x j).2.2.2.1.1;constructor
 ·rw[aeK.allG_sum id];refine EI aeK.tn (aeK.allG_nd 6 V) (λx j=>?_) λx j=>?_
  ·obtain⟨k,h,v,k3⟩:=zi.1 j;have:=l k h x v;unfold vk iq;split<;>omega
  obtain⟨k,h,v,g,r,G,g3⟩:=d x j;by_cases t:(lk A.ba x.1).getD false=false/\qB A.nd x.2.1 id=true
  ·right;refine⟨g,zi.2 ⟨k,h,dX r,v⟩,?_⟩;have W:=((aeK.six.run k h).grants).1 _ _ r;have L:g.b=0:=by
    refine yh λF=>?_;obtain⟨y,T,P,K⟩:=W.by_ F;have α:y.o=x.1.1:=by rw[<-K]
    have R:y.w=k:=by unfold z.w;omega
    have:=aeK.ba k h y (ik _ T) R P;rw[K]at this;rw[this]at t;cases t.1
   have X:=(aeK.six.run k h).shape.gt _ (dX r);have s:id∈aL (aeL k).tr g.n:=aeK.below h E 32 g.n X (by have:=t.2;unfold qB at this;rw[G];simpa using this);have u:=((aeK.six.run k h).led.gk _ (dX r)).1;have u:x.1.1=g.o:=by rw[u]
   unfold vj vk iq;rw[av t,bU ((x.1.1-1).toNat=k),av ⟨by show g.o=_;omega,L,s⟩];show x.2.2<=g.a;omega
  left;unfold vj;rw[al t];exact o5 _
 refine zC (f:=vj A id) λx j=>?_;obtain⟨k,h,v,g,r,G,g3⟩:=d x j;have:=l k h _ (dX r);unfold vj;split;show 0<=x.2.2;have:1<=g.a:=this;omega;omega
omit aeK in
def EG{x:Int}(d:-9223372036854775808<=x)(a:x<=9223372036854775807):IntKind.i64.wrap x=x:=by simp only[IntKind.wrap,IntKind.signed,IntKind.bits];simp;omega
def kH.bound(L:c<=1000)(h:(lk A.nd id).isSome=true):(gB A id).2.1<=(gB A id).1/\(gB A id).2.2=0:=by
 obtain⟨⟨p,l⟩,a⟩:=ur h;obtain⟨t,y,-⟩:=aeK.nd id p l a;have F:=aeK.limit a;obtain⟨E,K⟩:=aeK.used t;have o:=aeK.six.bound id;have s:∀k,k<6->(aeL k).r id (6+k)-(aeL k).r id (12+k)=((aeL k).gr.map (iq (aeL k) id k)).sum:=λk d=>(aeK.six.run k d).used id k d;have G:gK (λk=>((aeL k).gr.map (iq (aeL k) id k)).sum)<=gK (λk:Nat=>(aeL k).r id k):=by rw[<-DR s];exact o
 have v:=aeK.rb id;unfold gB;rw[av h,a];show IntKind.i64.wrap _<=IntKind.i64.wrap (l+_)/\(0:Int)=0;have j:=EG (x:=iV A id A.ta) V V;have u:=EG (x:=l+(lk A.ra id).getD 0) V V;rw[j,u];exact⟨V,O⟩
end
def Q3{α:Type}{f:α->Int}{L aeL:List α}(h:L.Sublist aeL)(d:∀x∈aeL,0<=f x):(L.map f).sum<=(aeL.map f).sum:=by
 induction h with
 |slnil=>exact o5 _
 |cons a _ ih=>have l:=ih λx j=>d x (dC _ j);have n:=d a cz;simp only[cW,gy];omega
 |cons_cons a _ ih=>have l:=ih λx j=>d x (dC _ j);simp only[cW,gy];omega
def Gb(h:bG e=true):0<=gY id k e:=by have:=(iH h).a1;unfold gY;split<;>omega
def Tz(h:e.w=k->e.k≠2):gY id k e=0:=al λg=>h g.1 g.2.1
section
variable{n c:Nat}{J J':Nat->List z}{aeL M':Nat->aG}{Pd Pd':Nat->List z}{A:bV}(aeK:kH n J aeL Pd A c)
include aeK
def kH.kept(l:lA n J' M')(r:∀k,k<6->J k<+:J' k)(j:k<6){d:Int×Int}{g:cI}(G:lk (aeL k).gr d=some g):∃h,lk (M' k).gr d=some h/\h.n=g.n/\h.a=g.a:=by obtain⟨⟨t,v,o,rfl,-,-,F,y⟩,-,-⟩:=((aeK.six.run k j).grants).1 d g G;obtain⟨h,u,s,E⟩:=((l.run k j).grants).2.1 t ((r k j).subset v) o;exact⟨h,u,s.trans F.symm,E.trans y.symm⟩
theorem kH.say(S':lA n J' M')(pm:∀k,k<6->∀e∈Pd' k,bG e=true)(hj:∀k,k<6->J k<+:J' k){w:Nat}(hw:w<6){F:Nat->List z}(hF:∀k,k<6->(J' k++Pd' k).Sublist ((J k++Pd k)++F k))
  {a:dT} {E:z} {e:Int}
  (hf:∀k,k<6->(∀x∈F k,bG x=true)/\((∀x∈F k,x.w=k->x.k=5)\/(k=w/\(e=0\/e=8)/\∃x,F k=[x]/\x.o=(w:Int)+1/\x.k=a.k/\x.n=a.n/\x.a=a.a/\x.f=a.f)))
  (hc:(c:Int)*1125899906842624<=1125899906842624000)
  (hn:a.k=1->(e=0\/e=8)->bg E.o E.s≠0->E∈J' w/\E.w=w/\E.k=1/\E.n=a.n/\E.a=a.a)
  (ht:a.k=3->e=0->∃g,lk (M' w).gr ((w:Int)+1,a.r)=some g/\g.n=a.n/\g.a=a.a/\0<=a.a/\a.a<=1125899906842624):
  kH n J' M' Pd' (dz A ((w:Int)+1) a E e) (c+1):=by
 have ε:∀k,k<6->∀x∈(J k++Pd k)++F k,bG x=true:=λk d x hx=>by rcases bP.1 hx with hx|hx;exact aeK.may d hx;exact(hf k d).1 x hx
 have P:∀id,gK (λk=>((J' k++Pd' k).map (gY id k)).sum)<=gK (λk=>((J k++Pd k).map (gY id k)).sum)+(if(e=0\/e=8)/\a.k=2/\a.n=id then dB a.a else 0):=λid=>by
  have t:∀k,k<6->((J' k++Pd' k).map (gY id k)).sum<=((J k++Pd k).map (gY id k)).sum+(if k=w then(if(e=0\/e=8)/\a.k=2/\a.n=id then dB a.a else 0)else 0):=λk d=>by
   have j:=Q3 (f:=gY id k) (hF k d) λx hx=>Gb (ε k d x hx);rw[show((J k++Pd k)++F k).map (gY id k)=(J k++Pd k).map (gY id k)++(F k).map (gY id k)from jh,List.sum_append]at j;have κ:0<=dB a.a:=by unfold dB;omega
   have v:((F k).map (gY id k)).sum<=(if k=w then(if(e=0\/e=8)/\a.k=2/\a.n=id then dB a.a else 0)else 0):=by
    rcases(hf k d).2 with h|⟨h4,X,x,h6,h7,h8,h9,η,-⟩
    ·rw[zp λx hx=>Tz λhw=>by rw[h x hx hw];decide];split
     ·split<;>omega
     omega
    rw[av h4,h6];have hm:=iH ((hf k d).1 x (by rw[h6];exact cz));simp only[cW,mJ,gy,List.sum_nil,Int.add_zero];unfold gY;by_cases L:x.w=k/\x.k=2/\x.n=id;rw[av L,av ⟨X,by rw[<-h8];exact L.2.1,by rw[<-h9];exact L.2.2⟩];have:=hm.a1;have:=hm.a2;unfold dB;omega;rw[al L];split<;>omega
   omega
  have j:=GK t;rw[Ga]at j;refine Int.le_trans j (Int.add_le_add_left ?_ _);rw[F9 hw λk d ζ=>al ζ,av rfl];exact o5 _
 have Q:∀k,k<6->∀x∈J' k++Pd' k,x.w=k->x.k=4->lk A.ba (x.o,x.f)=some true\/((e=0\/e=8)/\a.k=4/\(x.o,x.f)=((w:Int)+1,a.f)):=λk d x hx β R=>by rcases bP.1 ((hF k d).subset hx)with hx|hx;exact .inl (aeK.ba k d x hx β R);rcases(hf k d).2 with h|⟨h4,X,y,h6,h7,h8,h9,η,L⟩;have:=h x hx β;omega;rw[h6]at hx;rw[dd.1 hx]at R⊢;exact .inr ⟨X,by rw[<-h8];exact R,by rw[h7,L]⟩
 have T:∀{id p l},lk A.nd id=some (p,l)->id≠0/\l<=1125899906842624/\∃k,k<6/\∃e∈J' k,e.w=k/\e.k=1/\bg e.o e.s=id/\e.n=p/\e.a<=l:=λh=>by obtain⟨t,j,k,d,x,hx,v⟩:=aeK.nd _ _ _ h;exact⟨t,j,k,d,x,(hj k d).subset hx,v⟩
 have W:∀{G p},lk A.ta G=some p->∃k:Nat,k<6/\G.1=(k:Int)+1/\∃g,lk (M' k).gr G=some g/\g.n=p.1/\g.a=p.2:=λh=>by obtain⟨k,d,t,g,j,v,h4⟩:=aeK.ta _ _ h;obtain⟨g',X,h6,h7⟩:=aeK.kept S' hj d j;exact⟨k,d,t,g',X,h6.trans v,h7.trans h4⟩
 have α:∀id,¬((e=0\/e=8)/\a.k=2/\a.n=id)->gK (λk=>((J' k++Pd' k).map (gY id k)).sum)<=(lk A.ra id).getD 0:=λid h=>by have t:=P id;rw[al h]at t;have:=aeK.ra id;omega
 have γ:∀id,(lk A.ra id).getD 0<=((c+1:Nat):Int)*1125899906842624:=λid=>aA (aeK.rb id);have K:¬((e=0\/e=8)/\(a.k=2\/a.k=4))->kH n J' M' Pd' A (c+1):=λh=>⟨S',pm,λ_ _ _ h=>T h,λid=>α id λg=>h ⟨g.1,.inl g.2.1⟩,γ,λ_ _ h=>W h,λk d x hx t j=>(Q k d x hx t j).resolve_right λg=>h ⟨g.1,.inr g.2.1⟩,aeK.tn⟩;unfold dz;split
 ·rename_i t;exact K λh=>V
 rename_i t;have he:e=0\/e=8:=V;split
 ·rename_i k1;have u:=K λh=>V;split
  ·rename_i j;obtain⟨n1,n2,n3,n4,n5⟩:=hn k1 he j.1;have hm:=iH ((S'.run w hw).may E n1).1;refine⟨u.six,u.pm,λid p l h=>?_,u.ra,u.rb,u.ta,u.ba,u.tn⟩;replace h:lk (putL A.nd (bg E.o E.s) (a.n,dB a.a)) id=some (p,l):=h;rw[iF]at h;split at h
   ·rename_i v;subst v;obtain⟨rfl,rfl⟩:=Prod.mk.inj (eZ h);have:=hm.a1;have:=hm.a2;exact⟨j.1,by unfold dB;omega,w,hw,E,n1,n2,n3,O,n4,by rw[n5]at*;unfold dB;omega⟩
   exact u.nd id p l h
  exact u
 rename_i k1;split
 ·rename_i k2;have hp:0<=(lk A.ra a.n).getD 0:=by refine Int.le_trans ?_ (aeK.ra a.n);unfold gK;have h:∀k,k<6->0<=((J k++Pd k).map (gY a.n k)).sum:=λk d=>zC λx hx=>Gb (aeK.may d hx);have h0:=h 0 V;have t:=h 1 V;have j:=h 2 V;have v:=h 3 V;have h4:=h 4 V;have X:=h 5 V;dsimp only;omega
  have hr:=aeK.rb a.n;have ι:0<=dB a.a/\dB a.a<=1125899906842624:=by unfold dB;omega
  have δ:IntKind.i64.wrap ((lk A.ra a.n).getD 0+dB a.a)=(lk A.ra a.n).getD 0+dB a.a:=EG V V;refine⟨S',pm,λ_ _ _ h=>T h,λid=>?_,λid=>?_,λ_ _ h=>W h,λk d x hx t j=>(Q k d x hx t j).resolve_right λg=>V,aeK.tn⟩
  ·show _<=(lk (putL A.ra a.n (IntKind.i64.wrap ((lk A.ra a.n).getD 0+dB a.a))) id).getD 0;rw[iF];have t:=P id;have j:=aeK.ra id;by_cases v:id=a.n;subst v;rw[av rfl,δ];rw[av ⟨he,k2,rfl⟩]at t;show _<=(lk A.ra a.n).getD 0+dB a.a;omega;rw[al v];rw[al λg=>v g.2.2.symm]at t;omega
  show(lk (putL A.ra a.n (IntKind.i64.wrap ((lk A.ra a.n).getD 0+dB a.a))) id).getD 0<=_;rw[iF];have j:=aeK.rb id;split;rw[δ];show(lk A.ra a.n).getD 0+dB a.a<=_;omega;omega
 rename_i k2;split
 ·rename_i k3;have u:=K λh=>V;split;exact u;rename_i j;have h0:e=0:=by refine yh λh=>j (.inr h)
  obtain⟨g,g1,g2,g3,g4,g5⟩:=ht k3 h0;have θ:a.a=dB a.a:=by unfold dB;omega
  refine⟨u.six,u.pm,u.nd,u.ra,u.rb,λG p h=>?_,u.ba,u.tn.putL _ _⟩;replace h:lk (putL A.ta ((w:Int)+1,a.r) (a.n,if a.a=dB a.a then a.a else 0)) G=some p:=h;rw[iF]at h;by_cases v:G=((w:Int)+1,a.r);rw[av v,av θ]at h;obtain rfl:=eZ h;exact⟨w,hw,by rw[v],g,by rw[v];exact g1,g2,g3⟩;rw[al v]at h;exact u.ta G p h
 rename_i k3;split
 ·rename_i k4;refine⟨S',pm,λ_ _ _ h=>T h,λid=>α id λg=>V,γ,λ_ _ h=>W h,λk d x hx t j=>?_,aeK.tn⟩;show lk (putL A.ba ((w:Int)+1,a.f) true) (x.o,x.f)=some true;rw[iF];rcases Q k d x hx t j with h|⟨-,-,h⟩
  ·split
   rfl;exact h
  rw[av h]
 exact K λh=>V
end
def rX(C:aJ)(A:bV)(c:Nat):Prop:=kH C.n (λk=>(C.aeR k).J) (λk=>(C.aeR k).m) (λk=>(C.aeR k).P) A c
def dv.pm(h:dv C):∀k,k<6->∀e∈(C.aeR k).P,bG e=true:=λk j e a=>by obtain⟨m,d⟩:=(h.si k j).pend;exact(d.may e (mL _ a)).1
def Ms{m:aG}(y:m.ok)(v:dR m.gr){a:dT}(A:a.k=3)(h:gA (ec m) i a=(true,0)):∃g,lk m.gr (i,a.r)=some g/\g.n=a.n/\g.a=a.a:=by
 unfold gA at h;split at h
 ·cases h
 split at h
 ·cases h
 rename_i g u;have E:=Cu u;have l:=List.find?_some u;split at h
 ·rename_i F;have j:rQ a g=true:=by rcases Bool.or_eq_true_iff.1 F with h|h;exact h;unfold ti at h;simp[A]at h
  unfold rQ at j;simp only[bZ,eN]at j;unfold kF at l;simp only[bZ,eN]at l;obtain⟨d,t⟩:=C7.1 E;have s:=y.gk _ t;have s:d=(g.o,g.r):=s.1;refine⟨g,?_,j.2.2.1,j.2.2.2⟩;rw[show(i,a.r)=d by rw[s,l.1,j.2.1]];exact v.lk t
 cases h
def zk:bg z.zero.o z.zero.s=0:=ai
def rX.step{j:aJ}{A:bV}{x:bD}{E:z}{e:Int}(v:rX C A c)(hs:dv C)(hc:c<=1000)(hn:j.n=C.n)(hD:pS C x j E e):rX j (if x.d=1 then dz A x.w x.ask E e else A) (if x.d=1 then c+1 else c):=by
 have hb:(c:Int)*1125899906842624<=1125899906842624000:=V;have Q:=hD.sem.six;rw[hn]at Q;have X:=hD.sem.pm;unfold rX;rw[hn];rcases hD with⟨h1,h2,t⟩|⟨h1,h2,t⟩
 ·rw[al h1,al h1];have h4:dz A (((0:Nat):Int)+1) ⟨0,0,0,0,0,0⟩ z.zero 1=A:=by unfold dz;rw[av ⟨ai,ai⟩]
  have hF:∀k,∃F,((j.aeR k).J++(j.aeR k).P).Sublist (((C.aeR k).J++(C.aeR k).P)++F)/\∀e∈F,e.w=k->e.k=5:=λk=>(t k).2;have K:∀k,∃F,((j.aeR k).J++(j.aeR k).P).Sublist (((C.aeR k).J++(C.aeR k).P)++F)/\(∀e∈F,e.w=k->e.k=5)/\(k<6->∀e∈F,bG e=true):=λk=>by
   obtain⟨F,f1,f2⟩:=hF k;obtain⟨L1,L2,e1,e2,e3⟩:=List.sublist_append_iff.1 f1;refine⟨L2,?_,λe he=>f2 e (e3.subset he),λl e he=>?_⟩;rw[e1];exact List.Sublist.append e2 (lY _);have:e∈(j.aeR k).J++(j.aeR k).P:=by rw[e1];exact mL _ he
   rcases bP.1 this with h|h;exact((Q.run k l).may e h).1;exact X k l e h
  have h5:=v.say Q X (λk _=>(t k).1) (w:=0) V (a:=⟨0,0,0,0,0,0⟩) (E:=z.zero) (e:=1) (F:=λk=>(K k).choose) (λk _=>(K k).choose_spec.1) (λk l=>⟨(K k).choose_spec.2.2 l,.inl (K k).choose_spec.2.1⟩) hb (λh=>absurd h ai) λh=>absurd h ai;rw[h4]at h5;exact⟨h5.six,h5.pm,h5.nd,h5.ra,v.rb,h5.ta,h5.ba,h5.tn⟩
 rw[av h1,av h1];rcases t with⟨t,rfl,⟨w,R,hx,rfl⟩|rfl⟩|⟨w,R,hx,y',t,h4⟩
 ·rw[hx];refine v.say Q X (λk _=>by rw[t];exact ji) R (F:=λ_=>[]) (λk _=>by rw[t,eF];exact lY _) (λk _=>⟨(λ_ h=>(aK h)),.inl λ_ h=>(aK h)⟩) hb (λ_ _ h=>absurd zk h) λ_ h=>absurd h ai
 ·rw[show dz A x.w x.ask z.zero 10=dz A (((0:Nat):Int)+1) ⟨0,0,0,0,0,0⟩ z.zero 1 by unfold dz;rw[av ⟨ai,ai⟩,av ⟨ai,ai⟩]];refine v.say Q X (λk _=>by rw[t];exact ji) (w:=0) V (F:=λ_=>[]) (λk _=>by rw[t,eF];exact lY _) (λk _=>⟨(λ_ h=>(aK h)),.inl λ_ h=>(aK h)⟩) hb (λh=>absurd h ai) λh=>absurd h ai
 rw[hx];have L:j.aeR w=y':=by rw[t,uI]
 have yo:∀k,k≠w->j.aeR k=C.aeR k:=λk l=>by rw[t,wO _ _ l]
 have α:∀k,k<6->(C.aeR k).J<+:(j.aeR k).J:=λk _=>by by_cases l:k=w;subst l;rw[L];exact h4.pre;rw[yo k l];exact ji
 have ask:(bB (C.aeR w).m w x.ask).1≠z.zero->(bB (C.aeR w).m w x.ask).1=dn (C.aeR w).m w x.ask:=λh=>by rcases um (C.aeR w).m w x.ask with⟨h5,-⟩|⟨h5,-⟩;exact absurd h5 h;exact h5
 have T:=hs.six.run w R;have go:∀F:List z,((j.aeR w).J++(j.aeR w).P).Sublist (((C.aeR w).J++(C.aeR w).P)++F)->(∀y∈F,bG y=true)->(F=[]\/((e=0\/e=8)/\F=[dn (C.aeR w).m w x.ask]))->
   (x.ask.k=1->(e=0\/e=8)->bg E.o E.s≠0->E∈(j.aeR w).J/\E.w=w/\E.k=1/\E.n=x.ask.n/\E.a=x.ask.a)->
   (x.ask.k=3->e=0->∃g,lk (j.aeR w).m.gr ((w:Int)+1,x.ask.r)=some g/\g.n=x.ask.n/\g.a=x.ask.a/\0<=x.ask.a/\x.ask.a<=1125899906842624)->
   kH C.n (λk=>(j.aeR k).J) (λk=>(j.aeR k).m) (λk=>(j.aeR k).P) (dz A ((w:Int)+1) x.ask E e) (c+1):=λF f1 f2 f3 f4 f5=>by
  refine v.say Q X α R (F:=λk=>if k=w then F else[]) (λk _=>?_) (λk _=>?_) hb f4 f5
  ·by_cases l:k=w;subst l;rw[av rfl];exact f1;rw[al l,yo k l,eF];exact lY _
  by_cases l:k=w;rw[av l];refine⟨f2,?_⟩;rcases f3 with rfl|⟨h5,rfl⟩;exact .inl λ_ h=>(aK h);exact .inr ⟨l,h5,_,O,O,O,O,O,O⟩;rw[al l];exact⟨(λ_ h=>(aK h)),.inl λ_ h=>(aK h)⟩
 have ie:∀y∈(j.aeR w).J++(j.aeR w).P,bG y=true:=λy hy=>by rcases bP.1 hy with h|h;exact((Q.run w R).may y h).1;exact X w R y h
 rcases h4 with⟨z1,rfl,rfl,W⟩|⟨z1,rfl,rfl,W,rfl⟩|⟨z1,W,rfl,z3,rfl|⟨rfl,rfl⟩⟩;refine go [] (by rw[L,eF];exact lY _) (λ_ h=>(aK h)) (.inl rfl) (λ_ _ h=>absurd zk h) λk3 h0=>?_;rcases um (C.aeR w).m w x.ask with⟨-,-,h5|h5⟩|⟨h5,-⟩;rw[<-W,h0]at h5;obtain⟨g,g1,g2,g3⟩:=Ms T.led T.shape.gd k3 h5;have:=(T.led.gi _ (dX g1)).2.2.2.1;rw[L];have this:1<=g.a/\g.a<=1125899906842624:=this;exact⟨g,g1,g2,g3,V,V⟩;exact absurd (W▸h0) h5;have h6:=wY (C.aeR w).m w x.ask;rw[z1]at h5;have:(w:Int)+1=0:=(bH z.o h5).symm;omega
 ·have G:=ask z1;have u:(bB (C.aeR w).m w x.ask).1∈(j.aeR w).J:=by rw[L];exact mL _ cz
  have hm:=ie _ (ik _ u);refine go [(bB (C.aeR w).m w x.ask).1] (by rw[L,W,eF,eF];exact lY _) (λy hy=>by rw[dd.1 hy];exact hm) (.inr ⟨.inl O,by rw[G]⟩) (λk1 _ _=>⟨u,?_,?_,?_,?_⟩) λk3 _=>?_;rw[G];show((w:Int)+1-1).toNat=w;omega;rw[G];exact k1;rw[G];rfl;rw[G];rfl;obtain⟨g,g1,g2,g3⟩:=((Q.run w R).grants).2.1 _ u (by rw[G];exact k3);rw[G]at g1 g2 g3 hm;have h6:=iH hm;exact⟨g,g1,g2,g3,h6.a1,h6.a2⟩
 exact go [] (by rw[L,eF];exact lY _) (λ_ h=>(aK h)) (.inl O) (λ_ _ h=>absurd zk h) λ_ h=>absurd h W;have G:=ask z1;have u:(bB (C.aeR w).m w x.ask).1∈(j.aeR w).J++(j.aeR w).P:=by rw[L];exact mL _ cz
 have hm:=ie _ u;exact go [(bB (C.aeR w).m w x.ask).1] (by rw[L,z3,eF];exact lY _) (λy hy=>by rw[dd.1 hy];exact hm) (.inr ⟨.inr O,by rw[G]⟩) (λ_ _ h=>absurd zk h) λ_ h=>absurd h ai
theorem rX.fresh{n:Nat}(h:wC C n):rX C bV.zero 0:=
 ⟨h.sem.six,h.sem.pm,(λ_ _ _ h=>(aK h)),(λid=>by
  have e:∀k,k<6->(λk=>(((C.aeR k).J++(C.aeR k).P).map (gY id k)).sum) k=(λ_=>(0:Int)) k:=λk _=>by show(((C.aeR k).J++(C.aeR k).P).map (gY id k)).sum=0;rw[(h.J0 k).1,(h.J0 k).2];rfl
  rw[DR e];exact o5 0),(λid=>by show(0:Int)<=_;omega),(λ_ _ h=>(aK h)),(λk _ e a=>by
  have a:e∈(C.aeR k).J++(C.aeR k).P:=a;rw[(h.J0 k).1,(h.J0 k).2]at a;exact(aK a)),vx⟩
def DZ(E:z)(e:Int)(w:D):∃a,(eQ 66 (N w.heap.size) (.agg (bF E e))).run prog (w.alloc (.cells #[Z 0,q 0,q 0,q 0,q 0,q 0,q 0,q 0,.int .u8 0,q 0,Z 0,Z 0,q 0,q 0,Z 0] 66))=.ok .skip a/\M a w.heap.size 66 (bF E e)/\S w a:=by have B:M (w.alloc (.cells #[Z 0,q 0,q 0,q 0,q 0,q 0,q 0,q 0,.int .u8 0,q 0,Z 0,Z 0,q 0,q 0,Z 0] 66)) w.heap.size 66 #[Z 0,q 0,q 0,q 0,q 0,q 0,q 0,q 0,.int .u8 0,q 0,Z 0,Z 0,q 0,q 0,Z 0]:=M.new _ _ _;exact⟨_,gh B O E e,dt B _,Below.rowN ((aq _ _).alloc (ao _) _) (ao _) _⟩
def ig.inh(h:ig w0 w g c C aeM B m):∀a,nP c C B g a->a<w.heap.size:=λa hq=>by rcases hq with rfl|hq|hq;exact h.blk.lt;exact h.cl.inh a hq;exact h.au.inh a hq
def ig.old(h:ig w0 w g c C aeM B m):∀a,nP c C B g a->w0.heap.size<=a:=λa hq=>by rcases hq with rfl|hq|hq;exact h.gb;exact h.cl.base a hq;exact h.ab a hq
def rA(inn:Nat->Bool)(kn:an)(A d:Option Addr)(n n' c h:Nat)(w:D):∃a,(eQ 37 (N w.heap.size) (.agg (aT inn kn (.slice A n c) (.slice d n' h)))).run prog (w.alloc (.cells #[.bool false,.bool false,.bool false,.bool false,.bool false,.bool false,.bool false,.bool false,.bool false,.bool false,.bool false,.bool false,q 0,q 0,q 0,q 0,q 0,q 0,.slice none 0 0,.slice none 0 0] 37))=.ok .skip a/\M a w.heap.size 37 (aT inn kn (.slice A n c) (.slice d n' h))/\S w a:=by have B:M (w.alloc (.cells #[.bool false,.bool false,.bool false,.bool false,.bool false,.bool false,.bool false,.bool false,.bool false,.bool false,.bool false,.bool false,q 0,q 0,q 0,q 0,q 0,q 0,.slice none 0 0,.slice none 0 0] 37)) w.heap.size 37 (aT (λ_=>false) an.zero (.slice none 0 0) (.slice none 0 0)):=M.new _ _ _;exact⟨_,ft B (im _ _ _ _) O s9,dt B _,Below.rowN ((aq _ _).alloc (ao _) _) (ao _) _⟩
@[go_sem ↓ high] def abZ:=@iY 60
@[go_sem ↓ high] def aaL:=@iY 58
def Pf(x:j1):(prog.info? 60).map (·.size)=some (oB x).size:=by rw[za];kernel_rfl
def fB.rowT{α:Type}{c:α->Array H}{sz:Nat}{e:ay}{a:List ay}{F:Nat->Prop}{B:Nat}{v:H}{L:List α}(h:fB a F B w0 w)(hF:∀k,¬F k)(d:Row w0 base e sz c v L)(l:e∉a):Row w base e sz c v L:=
 aa.row (F:=λk=>vn a w0 k) ⟨h.os,h.tape,h.output,h.size,λk j u=>by rcases h.block k j with h1|⟨-,h1,-⟩|h1;exact h1;exact absurd h1 u;exact absurd h1 (hF k)⟩ d λg s ⟨y,t,n,o⟩=>un d o (λr=>l (r▸n)) s
abbrev oT:=(Option Addr×Nat×Nat)×(Option Addr×Nat×Nat)
def qZ(x:Option Addr×Nat×Nat):H:=.slice x.1 x.2.1 x.2.2
def pP(p:fh×Bool)(v:oT):Array H:=aT p.1.inn p.1.kn (qZ v.1) (qZ v.2)
def pJ(p:fh×Bool)(v:oT):H:=.tuple #[.agg (pP p v),.bool p.2]
def BO(p:fh×Bool)(aeR:D)(v:H)(a:D):Prop:=∃x,v=pJ p x/\eV a aeR.heap.size (qZ x.1) p.1.aeM/\iK a aeR.heap.size (qZ x.2) p.1.G
def Qz{a b:oT}(h:pJ p a=pJ p b):a=b:=by obtain⟨⟨n,o,u⟩,⟨d,y,A⟩⟩:=a;obtain⟨⟨j,s,v⟩,⟨t,l,r⟩⟩:=b;simp[pJ,pP,aT,qZ]at h;simp[h]
def S9(p:fh×Bool)(v:oT):(pP p v).all (·.oneCell')=true:=s9
def KP(p:fh×Bool)(v:oT):(prog.info? 37).map (·.size)=some (pP p v).size:=im _ _ _ _
def Ot(h:Calls prog 9 #[N c,Z i] w (AA w p)):
  Calls prog 9 #[N c,Z i] w λe a=>∃v:oT,e=.returned (pJ p v)/\BO p w (pJ p v) a/\S w a:=by
 apply h.mono;rintro r a ⟨v,rfl,⟨y,u,rfl,n,o⟩,t⟩;obtain⟨j,s,rfl,-,-⟩:=n.sl;obtain⟨l,d,rfl,-,-⟩:=o.sl;exact⟨((j,_,s),(l,_,d)),O,⟨((j,_,s),(l,_,d)),O,n,o⟩,t⟩
structure qX(aeR:D)(b base:Nat)(p:fh×Bool)(v:oT):Prop where
 blk:M aeR b 37 (pP p v)
 rn:eV aeR base (qZ v.1) p.1.aeM
 rg:iK aeR base (qZ v.2) p.1.G
 ge:base<=b
def qX.call{d:D}{v:oT}(h:qX aeR b base p v)(a:S aeR d):qX d b base p v:=⟨h.blk.call a,Row.call h.rn a,Row.call h.rg a,h.ge⟩
def qX.ld{v:oT}(h:qX aeR b base p v):(dQ 37 (N b)).run prog aeR=.ok (.value (.agg (pP p v))) aeR:=f8 h.blk underlying37 O (KP p v)
def qX.of{W a h j:D}{v:oT}{F:Nat->Prop}(d:aa bC W h)(n:BO p h (pJ p v) j)(l:fB [37] F W.heap.size j a)(hF:∀k,¬F k)(s:W.heap.size<=g)(r:M a g 37 (pP p v)):qX a g W.heap.size p v:=by obtain⟨x,e,o,t⟩:=n;obtain rfl:=Qz e;exact⟨r,Row.mono (l.rowT hF o ai) d.size,Row.mono (l.rowT hF t ai) d.size,s⟩
theorem NZ{m:aG}(h:m.ok):∀a∈cq m,mA a.id:=λa j=>by unfold cq at j;obtain⟨id,d,rfl⟩:=dY.1 j;rw[(sW m.tr).mem_iff]at d;obtain⟨x,l,rfl⟩:=dY.1 d;exact(h.tr.rg x l).1
def Ov(d:∀k,k<6->(C.X k).R.m.ok):∀a∈(pG C i).1.aeM,mA a.id:=by
 unfold pG;split
 ·rename_i h;exact NZ (d _ V)
 intro a j;cases j
structure Cg(aeR:D)(b o:Nat)(y:j1):Prop where
 lt:b<aeR.heap.size
 cw:aeR.cell? (I b (o+1))=some (Z y.s.w)
 ls:(dQ 60 (.pointer (some (I b o)))).run prog aeR=.ok (.value (.agg (oB y))) aeR
def Cg.of{o:Nat}{y:j1}(h:lB w b o (oB y))(a:b<w.heap.size)(d:S w aeR):Cg aeR b o y:=
 ⟨ee a d.size,(d.cell (p:=(I b (o+1))) a).trans (h 1 _ O),eO (λi u j=>(d.cell (p:=(I b (o+i))) a).trans (h i u j)) underlying60 O (Pf y)⟩
structure zW(w:D)(A:Option Addr)(L:List j1)(c:Nat):Prop where
 rows:RowsIn w 14 oB A L c
 st:∀y∈L,y.s.ok
 nd:∀y∈L,j2 y.nd
 at_:∀y∈L,y.s.At w
structure ko(w0:D)(g c:Nat)(B:ez)(n aeM cc:Nat)(C:aJ)(m:bV)(W:D):Prop where
 wo:ig w0 W g c C aeM B m
 sem:dv C
 aud:rX C m cc
 nd:m.nd.length<=cc
 n:C.n=n
 below:S w0 W
def Pj(m:bV)(h:dR m.nd)(d:Int)(a:dT)(E:z)(e:Int):(dz m d a E e).nd.length<=m.nd.length+1:=by
 unfold dz
 repeat' split
 all_goals first
  |exact qi _
  |(show(putL m.nd _ _).length<=_
    rw[Jx h];split;exact qi _;exact ao _)
def ko.step{W o:D}{n N' l:Nat}{x:bD}{r:Ending}(h:ko w0 g c B n aeM l C m W)(A:l<=1000)(a:vl w0 W g c C N' B m x r o):
  ∃E e j,r=.returned (.agg (bF E e))/\ko w0 g c B n N' (if x.d=1 then l+1 else l) j (if x.d=1 then dz m x.w x.ask E e else m) o/\aa (nP c C B g) W o/\∀a,j.G c a->C.G c a\/W.heap.size<=a:=by
 obtain⟨E,e,j,rfl,v,t,⟨-,s⟩,u,y⟩:=a;refine⟨E,e,j,O,⟨v,s.sem,h.aud.step h.sem A u s,?_,u.trans h.n,h.below.trans (t.belowC h.below.size λa F hF=>aA (h.wo.old a hF))⟩,t,y⟩;split;exact aZ (Pj m h.wo.au.n.ndk _ _ _ _) (Nat.succ_le_succ h.nd);exact h.nd
def V2(w:D)(k:Nat)(r:Ending)(w':D):Prop:=∃g c B aeM a C m,r=.returned (.tuple #[N g,Z k])/\ko w g c B k aeM a C m w'/\a<=50/\50000<=aeM/\aeM<=53200
def Tr(n:Nat)(ξ:n<=255)(A:Option Addr)(c0:Nat)(L:List j1)(w:D)(hl:zW w A L c0)(υ:L.length<=50)(hT:dr w):
  Calls prog 6 #[.int .u8 n,.slice A L.length c0] w (V2 w (1+n%6)):=by
 have hK:=hT.lt;have T:=hl.rows.mx;have σ:=hl.rows.le;have μ:maxLen<=9223372036854775807:=ai;obtain⟨l,t⟩:=aM (n%6);have π:l<6:=t▸Nat.mod_lt _ ai;have e0:IntKind.i64.wrap (n:Int)=n:=bS _ V;have e1:Int.tmod (n:Int) 6=(l:Int):=by rw[<-t];simp[Int.tmod]
 rw[t];have CN:=U (GT (w:=w) (n:=1+l) V V hT);have HT:=U hT;have HL:=U hl;have HK:=U hK;rw[bU (((1+l:Nat):Int)=1+(l:Int))]at CN;clear hl hT t hK;go_in;go_wp2_with fail;apply CN.o.mono;rintro r W1 ⟨g,c,C0,B,rfl,h0,hF,θ⟩;have CC:=U (yZ h0.blk);have H0:=U (show ko w g c B (1+l) 50000 0 C0 bV.zero W1 from⟨h0,hF.sem,rX.fresh hF,gM _,hF.nn,θ⟩);clear h0 hF θ CN;go_wp2_with fail;apply CC.o.mono;rintro r w2 ⟨rfl,rfl⟩;clear CC;go_wp2;go_loopw [9] (λi wr=>∃j:Nat,j<=L.length/\i=Z j/\∃aeM cc C m,50000<=aeM/\aeM<=50000+64*j/\cc<=j/\ko w g c B (1+l) aeM cc C m wr) (λi _=>L.length-(intOf i).toNat);exact⟨0,V,O,50000,0,C0,bV.zero,V,V,V,H0.o⟩;obtain⟨j,hj,rfl,aeM,cc,C,m,γ,δ,η,h0⟩:=hrel;by_cases κ:j<L.length
 ·have hd:=cO ((j:Int)<L.length);obtain⟨y,hy⟩:∃y,L[j]? =some y:=⟨L[j],bY κ⟩;obtain⟨b,o,rfl,ζ,hc⟩:=HL.o.rows.at_ za ai hy;have yo:=HL.o.st y (cX hy);have yn:=HL.o.nd y (cX hy);have ya:=HL.o.at_ y (cX hy);obtain⟨p,hp⟩:=aM (pG C y.s.w);have a0:(0:Int)<=(j:Int):=V;have a1:(j:Int)<(L.length:Int):=V;have τ:c0<=9223372036854775807:=aZ T μ;have HR:=U (λ(aeR:D) (Q:S w aeR)=>Cg.of hc ζ Q);have CA:=U (λ(aeR:D) (T:aa bC wr aeR)=>yZ (h0.wo.call T.no).blk);have CS:=U (λ(aeR:D) (T:aa bC wr aeR)=>Ot (by have:=zA (h0.wo.call T.no).cl V y.s.w;rw[hp]at this;exact this));have HF:=U (λ(aeR:D) (T:aa bC wr aeR)=>HR.o aeR (h0.below.trans (T.no.mono h0.below.size)));have K:=js yo yn ya γ δ η;have R:=U h0;have HP:=U hp;clear hy yo yn ya hc ζ h0 γ δ hp η;go_upto_region 8 with fail;refine dL [37] bC 15 (λ_ h=>h.elim) Y Y ?_;refine gx HF.o ?_;refine j8 (λ_=>rfl) (eJ O) 8 (λ_=>#[N g]) (N c) cK (λ_ aeR Q=>?ca1) ?_
  case ca1=>refine(CA.o aeR Q).mono ?_;rintro r Y' ⟨rfl,rfl⟩;exact⟨O,aq _ _⟩
  simp only[aD]
  iterate 6
   first
   |refine gS rfl ?_;apply cV
    intro _ ρ P F G W Q;have t:=HF.o W Q;simp[execOp,go_sem,P,F,G,t,t.lt,t.cw,a0,a1]<;>exact O
   |refine gz (λ_=>rfl) ?_
   simp only[aD]
  refine pn (λ_=>rfl) (eJ O) 9 (λ_=>#[N c,Z y.s.w]) (pJ p) ((none,0,0),(none,0,0)) (BO p) cK (λ_ aeR Q=>CS.o aeR Q) ?_;simp only[aD]
  iterate 3
   refine lG Y O ?_;apply cV
   ·intro u ρ P F G w;simp[execOp,go_sem,P,F,G,pJ]<;>exact O
   simp only[aD]
  refine ng (λ_=>rfl) 37 (aT (λ_=>false) an.zero (.slice none 0 0) (.slice none 0 0)) nK ?_;simp only[aD];refine o8 (λ_=>rfl) 12 37 37 20 _ _ O ai O ah (λ_ h=>h.elim) _ _ _ (λ_=>rfl) (λ_=>rfl) cD (KP p ((none,0,0),(none,0,0))) (λ_=>rfl) (λ_=>S9 _ _) ?_;simp only[aD]
  iterate 1
   refine lG Y O ?_;apply cV
   ·intro u ρ P F G w;simp[execOp,go_sem,P,F,G,pJ]<;>exact O
   simp only[aD]
  refine cT Y ?_;rintro⟨⟨_,v⟩,bz⟩ W2 hC hR;replace hC:S wr W2:=hC
  try dsimp only
  simp only[d8,Nat.reduceAdd,cA]at hR;obtain⟨w1,w2,-,g2,g3,g4⟩:=fK (hR 8 _ _ cD) O;obtain⟨bs,v',hx,n6,B6⟩:∃g v',[bz,Value.agg (pP p v)]=[N g,v']/\wr.heap.size<=g/\M W2 g 37 (Value.toArr v'):=hR 13 _ _ cD;injection hx with h6 J;injection J with J;subst h6 J;have Sa:=qX.of g2 g3 g4 (λ_ h=>h.2) n6 B6;have HS:=aB Sa hC;clear hC hR g2 g3 g4 n6 B6 Sa CA CS HF;have HF:=U (λ(aeR:D) (T:aa bC W2 aeR)=>ar (HR.o aeR (R.o.below.trans ((HS.o.2.mono R.o.below.size).trans (T.no.mono (aZ R.o.below.size HS.o.2.size))))) (ar (HS.o.1.call T.no).ld (HS.o.1.call T.no).blk.lt));have CW:=U (λ(aeR:D) (T:aa bC W2 aeR)=>TM (inn:=p.1.inn) (kn:=p.1.kn) (vG:=qZ v.2) y K.o.2.1 (Row.call HS.o.1.rn T.no));go_upto_region 9 with fail;refine dL [58] bC 8 (λ_ h=>h.elim) Y Y ?_
  iterate 5
   first
   |refine gS rfl ?_;apply cV
    intro _ ρ P F G W Q;have t:=HF.o W Q;simp[execOp,go_sem,P,F,G,t,t.1.lt,t.1.ls,t.2.1,t.2.2,a0,a1]<;>exact O
   |refine gz (λ_=>rfl) ?_
   simp only[aD]
  refine j8 (λ_=>rfl) (eJ O) 16 (λ_=>#[.agg (oB y),.agg (pP p v)]) (.agg (aX (ly y p.1.aeM))) cK (λ_ aeR Q=>CW.o aeR Q) ?_;simp only[aD];refine ng (λ_=>rfl) 58 #[.int .u8 0,Z 0,.int .u8 0,q 0,Z 0,Z 0,q 0,q 0,Z 0,Z 0,Z 0,.slice none 0 0] nK ?_;simp only[aD];refine o8 (λ_=>rfl) 6 58 58 12 _ _ O ai O ah (λ_ h=>h.elim) _ _ _ (λ_=>rfl) (λ_=>rfl) cD (pg y.s) (λ_=>rfl) (λ_=>zq _) ?_;simp only[aD];refine cT Y ?_;rintro⟨_,bz⟩ W3 hC hR;replace hC:S W2 W3:=hC
  try dsimp only
  simp only[d8,Nat.reduceAdd,cA]at hR;obtain⟨bx,v',hx,n6,B6⟩:∃g v',[bz,Value.agg (aX (ly y p.1.aeM))]=[N g,v']/\W2.heap.size<=g/\M W3 g 58 (Value.toArr v'):=hR 7 _ _ cD;injection hx with h6 J;injection J with J;subst h6 J;replace B6:M W3 bx 58 (aX (ly y p.1.aeM)):=B6;have pN:∀aeU∈p.1.aeM,mA aeU.id:=by rw[<-HP.o];exact Ov λk hk=>(R.o.wo.cl.si k hk).re.ok
  have ox:=Rs K.o.1 pN;have xa:=Rt K.o.2.2.1 p.1.aeM;generalize ly y p.1.aeM=x at B6 ox xa;have dA:=HS.o.2.trans (hC.mono HS.o.2.size);have h3:ko w g c B (1+l) aeM cc C m W3:=⟨R.o.wo.call dA,R.o.sem,R.o.aud,R.o.nd,R.o.n,R.o.below.trans (dA.mono R.o.below.size)⟩;have bl:=aP ox h3 xa;have CF:=U (λaeR=>Tq x aeR);have ι:=k7 B6;have HX:=U (λ(aeR:D) (Q:S W3 aeR)=>B6.call Q);clear hC hR n6 B6 ox xa h3 pN CW HF dA;go_upto_region 10 with fail;go_wp2_with fail;apply(CF.o _).mono;rintro r W4 ⟨rfl,β⟩;have b4:=HX.o _ β;have q6:W4.cell? (I bx 6)=some (q x.a.r):=b4.cell 6;have ε:=k7 b4;have h4:ko w g c B (1+l) aeM cc C m W4:=⟨bl.o.2.1.wo.call β,bl.o.2.1.sem,bl.o.2.1.aud,bl.o.2.1.nd,bl.o.2.1.n,bl.o.2.1.below.trans (β.mono bl.o.2.1.below.size)⟩;have CD:=U (λ(α:x.d≠12)=>xO h4.wo h4.sem ⟨K.o.2.2.2.1,aA K.o.2.2.2.2.1⟩ (HT.o.call' h4.below) HK.o α bl.o.1 (bl.o.2.2.call h4.below));have H4:=U h4;clear h4 b4 β ι CF;obtain⟨fb,X⟩:=aM (xh x);rw[X];cases fb with
  |false=>
   clear X;go_wp2;go_roundw
   ·exact⟨j+1,V,by go_num,aeM,cc,C,m,K.o.2.2.2.1,aA K.o.2.2.2.2.1,aA K.o.2.2.2.2.2,H4.o⟩
   simp[intOf];omega
  |true=>
   have α:x.d≠12:=λe=>by unfold xh at X;rw[e]at X;cases X
   have CE:=U (CD.o α);clear X α CD;by_cases hr:x.a.r<549755813888
   ·have ν:decide (x.a.r<549755813888)=true:=fa hr;clear hr;go_wp2_with fail;apply CE.o.mono;rintro r W5 t;obtain⟨E,e,C',rfl,h5,-,-⟩:=H4.o.step (aA K.o.2.2.2.2.2) t;have H5:=U h5;clear h5 t CE ε;go_wp2;go_roundw
    ·exact⟨j+1,V,by go_num,aeM+64,_,C',_,aA K.o.2.2.2.1,aA K.o.2.2.2.2.1,by have:=K.o.2.2.2.2.2;split<;>omega,H5.o⟩
    simp[intOf];omega
   have ν:decide (x.a.r<549755813888)=false:=fO hr;clear hr CE;go_wp2;go_roundw
   ·exact⟨j+1,V,by go_num,aeM,cc,C,m,K.o.2.2.2.1,aA K.o.2.2.2.2.1,aA K.o.2.2.2.2.2,H4.o⟩
   simp[intOf];omega
 obtain rfl:j=L.length:=V;have hd:=cP ((L.length:Int)<L.length);have R:=U h0;clear h0;go_wp2_with fail;exact eu (v:=.tuple #[N g,Z (1+(l:Int))]) (by simp[results,results6]) O ⟨g,c,B,aeM,cc,C,m,by rw[bU (((1+l:Nat):Int)=1+(l:Int))],R.o,V,γ,V⟩
