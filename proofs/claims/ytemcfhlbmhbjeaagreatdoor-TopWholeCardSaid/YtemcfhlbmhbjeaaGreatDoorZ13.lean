import Derived.Test.YtemcfhlbmhbjeaaGreatDoorZ12
set_option maxRecDepth 100000
set_option maxHeartbeats 0
set_option linter.all false
namespace Go.Proofs.YtemcfhlbmhbjeaaGreatDoor
open Go.Proofs.Tryz
variable{m:aG}{k n j i:Nat}{x:Int}{f:Nat->Int}{a:dT}{T:List (Int×Int)}{pth:Int->List Int}{tk:Int×Int->Int×Int}
open Go Go.RowKit
def xh(x:bD):Bool:=(x.d !=12)&&((x.a.k !=7)&&(x.a.k !=6))
def Tq(x:bD)(w:D):Calls prog 17 #[.agg (aX x)] w λr u=>r=.returned (.bool (xh x))/\S w u:=by
 have p:S w (w.alloc (.cells (aX x) 58)):=(aq _ _).alloc (ao _) _;have c:M (w.alloc (.cells (aX x) 58)) w.heap.size 58 (aX x):=M.new _ _ _;have l:=U p;have C:(w.alloc (.cells (aX x) 58)).cell? (I w.heap.size 0)=some (.int .u8 x.d):=c.cell 0;have s:(w.alloc (.cells (aX x) 58)).cell? (I w.heap.size 2)=some (.int .u8 x.a.k):=c.cell 2;have t:=c.lt;obtain⟨e,A⟩:=aM ((x.d !=12));obtain⟨g,y⟩:=aM ((x.a.k !=7));obtain⟨h,B⟩:=aM ((x.a.k !=6));have v:=U (show xh x=(e&&(g&&h))by unfold xh;rw[A,y,B]);clear p c;go_in;go_upto_region 1 with fail;generalize w.alloc _=W at C s t l⊢;cases e<;>cases g<;>cases h
 all_goals
  go_wp2;go_ret;exact⟨by rw[v.o];rfl,l.o⟩
def Km(x:Int)(w:D):Calls prog 32 #[Z x] w λr d=>r=.returned (.bool (decide (1<=x/\x<=6)))/\w=d:=by
 by_cases c:1<=x
 ·by_cases b:x<=6
  ·go_wp2;go_ret;exact⟨by simp[c,b],O⟩
  go_wp2;go_ret;exact⟨by simp[b],O⟩
 go_wp2;go_ret;have e:¬(1<=x):=V;exact⟨by simp[e],O⟩
def Lk{α:Type}{p:α->Bool}{x:α}:∀{L:List α},x∈L->p x=true->(∀y∈L,p y=true->y=x)->L.find? p=some x
 |[],h,_,_=>aK h
 |y::L,h,hp,hu=>by by_cases b:p y=true;rw[List.find?_cons_of_pos b,hu y cz b];rw[List.find?_cons_of_neg b];refine Lk ?_ hp λc d=>hu c (dC _ d);rcases dh.1 h with rfl|h;exact absurd hp b;exact h
def C7{g:cI}:g∈ec m↔∃k,(k,g)∈m.gr:=by unfold ec;rw[(pU _ _).mem_iff,dY];exact⟨λ⟨x,b,e⟩=>⟨x.1,by rw[<-e];exact b⟩,λ⟨k,h⟩=>⟨_,h,O⟩⟩
def KK(e:m.ok)(u:dR m.gr){i:Int}{g:cI}{k:Int×Int}(E:a.r≠0)(C:a.k=3\/a.k=4)(d:(k,g)∈m.gr)(l:kF i a g=true)(A:(rQ a g||ti a g)=true):gA (ec m) i a=(true,0):=by
 unfold gA;rw[al V];rw[Lk (x:=g) (C7.2 ⟨k,d⟩) l ?_];simp only[A,gR];intro y c p;obtain⟨t,c⟩:=C7.1 c;unfold kF at l p;simp only[bZ,pY,eN]at l p;have v:=(e.gk _ d).1;have B:=(e.gk _ c).1;have s:g.o=y.o:=l.1.trans p.1.symm;rcases l.2 with h1|h1<;>rcases p.2 with h2|h2
 ·have w:k=t:=by rw[show k=(g.o,g.r)from v,show t=(y.o,y.r)from B,s,h1,h2]
  have:=u.eq d c w;injection this with _ h;exact h.symm
 exact absurd (h1.trans h2.symm) (e.gu _ d _ c s (by show y.b≠0;omega)).1;exact absurd (h2.trans h1.symm) (e.gu _ c _ d s.symm (by show g.b≠0;omega)).1;have:=(e.gu _ d _ c s (by show y.b≠0;omega)).2 (h1.trans h2.symm);injection this with _ h;exact h.symm
def MT(X:m.ok)(hi:i<6)(hk:a.k=3\/a.k=4)(C:(ev m (dn m i a)).1=0->a.r≠0)(u:dR (bB m i a).2.2.gr)(y:(bB m i a).2.2.ok)(v:(bB m i a).2.1=0):
  bB (bB m i a).2.2 i a=(z.zero,0,(bB m i a).2.2):=by
 have key:gA (ec (bB m i a).2.2) ((i:Int)+1) a=(true,0):=by
  unfold bB at u y v⊢;split at u
  ·rename_i B;rw[av B]at v⊢;exact Prod.ext B v
  rename_i B;rw[al B]at y v⊢;split at u
  ·rename_i c;rw[av c]at y⊢;obtain⟨e,L⟩:=aM (dn m i a);have F:e.o=(i:Int)+1/\e.k=a.k/\e.n=a.n/\e.a=a.a/\e.r=a.r/\e.f=a.f:=by rw[<-L];exact⟨O,O,O,O,O,O⟩
   obtain⟨K,e2,e3,e4,A,R⟩:=F;have C:=C c;rw[L]at c u y⊢;have P:ev m e=eU m e:=by unfold ev at c⊢;split<;>rename_i p;rw[av p]at c;exact absurd c ah;rw[al p]at c;split<;>rename_i l;rw[av l]at c;exact absurd c ah;rw[al l]at c;split<;>rename_i s;rw[av s]at c;exact absurd c ah;rw[al s]at c;split<;>rename_i G;rw[av G]at c;exact absurd c ah;rfl
   have d:(cU m e).2.gr=(eU m e).2.gr:=by unfold cU;rw[av c,P]
   rw[P]at c;rcases hk with hk|hk
   ·have t:eU m e=na m e:=by unfold eU;rw[al V,al V,av V]
    rw[t]at c d;have w:((e.o,e.r),(⟨e.o,e.r,e.n,e.a,0⟩:cI))∈(cU m e).2.gr:=by rw[d];unfold na at c⊢;split<;>rename_i p;rw[av p]at c;exact absurd c ah;rw[al p]at c;split<;>rename_i l;rw[av l]at c;exact absurd c ah;rw[al l]at c;split<;>rename_i s;rw[av s]at c;exact absurd c s;exact lH.2 (.inl O)
    exact KK y u C (.inl hk) w (by simp[kF,K,A]) (by simp[rQ,hk,e3,e4,A])
   have t:eU m e=nh m e:=by unfold eU;rw[al V,al V,al V,av V]
   rw[t]at c d;have W:∃g,lk m.gr (e.o,e.f)=some g/\((e.o,e.f),{g with b:=e.r})∈(cU m e).2.gr:=by
    rw[d];unfold nh at c⊢;split<;>rename_i p;rw[av p]at c;exact absurd c ah;rw[al p]at c;split<;>rename_i l;rw[av l]at c;exact absurd c ah;rw[al l]at c;split<;>rename_i s;rw[av s]at c;exact absurd c s;have G:(lk m.gr (e.o,e.f)).isSome=true:=by
     cases h:(lk m.gr (e.o,e.f)).isSome with
     |true=>rfl
     |false=>exact absurd (.inl h) l
    obtain⟨g,w⟩:=n8.1 G;refine⟨g,w,lH.2 (.inl ?_)⟩;unfold aG.g;rw[w];rfl
   obtain⟨g,w,J⟩:=W;have E:=(X.gk _ (dX w)).1;injection E with Q k2;exact KK y u C (.inr hk) J (by simp only[kF,bZ,pY,eN];exact⟨by rw[<-K];exact Q.symm,.inr A⟩) (by simp only[ti,bZ,pY,eN];exact .inr ⟨hk,A,by rw[<-R];exact k2.symm⟩)
  rename_i c;rw[al c]at v;exact absurd v c
 generalize (bB m i a).2.2=m' at key⊢;unfold bB;rw[key,av rfl]
def Rg(hk:a.k=3\/a.k=4)(h:(ev m (dn m i a)).1=0):a.r≠0:=by
 have c:bG (dn m i a)=true:=by
  cases e:bG (dn m i a)with
  |true=>rfl
  |false=>unfold ev at h;rw[av e]at h;exact absurd h ah
 have b:ib (dn m i a)=true:=by unfold bG at c;simp only[bZ]at c;exact c.2.1
 have d:(dn m i a).k=a.k:=O;have g:(dn m i a).r=a.r:=O;unfold ib at b;rw[d,g]at b;rcases hk with hk|hk;rw[al V,al V,av hk]at b;simp only[bZ,eN]at b;omega;rw[al V,al V,al V,av hk]at b;simp only[bZ,eN]at b;omega
def Du{α:Type}:∀{A B:List α},A.Nodup->(∀x∈A,x∈B)->A.length<=B.length
 |[],_,_,_=>gM _
 |a::A,B,hn,hs=>by
  obtain⟨l,r,rfl⟩:=List.append_of_mem (hs a cz);obtain⟨c,d⟩:=rf.1 hn;have:=Du (B:=l++r) d λx b=>by have:=hs x (dC _ b);rcases bP.1 this with h|h;exact ik _ h;rcases dh.1 h with rfl|h;exact absurd b c;exact mL _ h
  simp only[dN,bW]at this⊢;omega
section
variable{T:List (Int×Int)}{x p y:Int}
def wu(h:y≠x):aL ((x,p)::T) y=aL T y:=by
 conv=>lhs;unfold aL
 rw[al (eC h)]
def Ds:aL ((x,p)::T) x=x::aL T p:=by
 conv=>lhs;unfold aL
 rw[av rfl]
def Dg:∀{T:List (Int×Int)} {x:Int},jA T->(aL T x).Nodup
 |[],_,_=>List.nodup_nil
 |(a,p)::r,x,h=>by
  by_cases e:x=a
  ·subst e;rw[Ds];refine rf.2 ⟨λb=>?_,Dg h.2.2.2⟩;have:=qn b;rw[h.2.1]at this;cases this
  rw[wu e];exact Dg h.2.2.2
def jA.par:∀{T:List (Int×Int)} {x p:Int},jA T->lk T x=some p->x≠0/\(p=0\/(lk T p).isSome=true)
 |[],_,_,_,h=>aK h
 |(a,aeT)::r,x,p,hw,h=>by
  obtain⟨l,s,d,o⟩:=hw;rw[iG]at h;have b:∀y:Int,y=0\/(lk r y).isSome=true->y=0\/(lk ((a,aeT)::r) y).isSome=true:=λy hy=>by rcases hy with hy|hy;exact .inl hy;right;rw[iG];split;rfl;exact hy
  split at h
  ·rename_i e;obtain rfl:=eZ h;subst e;exact⟨l,b _ d⟩
  obtain⟨c,g⟩:=jA.par o h;exact⟨c,b _ g⟩
def vW(h:jA T):aL T 0=[]:=yP h.zero
def ZM(h:lk T x=none):aL T x=[]:=yP h
def yF(h:jA T)(c:(lk T x).isSome=true):x∈aL T x:=by obtain⟨p,b⟩:=n8.1 c;rw[qk h b];exact cz
def NW(h:jA T)(b:lk T x=some p):x∉aL T p:=by have:=Dg (x:=x) h;rw[qk h b]at this;exact(rf.1 this).1
def jA.keys:∀{T:List (Int×Int)},jA T->(T.map (·.1)).Nodup
 |[],_=>List.nodup_nil
 |(a,p)::r,h=>by rw[cW];refine rf.2 ⟨λb=>?_,jA.keys h.2.2.2⟩;have:=og.2 b;rw[h.2.1]at this;cases this
def Eu(c:x≠0)(b:lk T x=none)(h2:p=0\/(lk T p).isSome=true)(e:T.length<32)(d:(aL T p).length<4):jK T x p=0:=by unfold jK;rw[al c,al (by rw[b];simp),al (λh=>by rcases h2 with h2|h2<;>simp_all),al V]
def Et(h:jK T x p=0):jM T x p=(x,p)::T:=av h
def KL(h:jK T x p=0):(aL T p).length<4:=by
 unfold jK at h
 repeat' split at h
 all_goals first|(cases h)|skip
 omega
end
def Re(l:jg T)(B:∀x,(aL T x).length<=4){c:Int->Int}(J:∀x p,lk T x=some p->c x=p):∀(k:Nat) (x:Int),(aL T x).length=k->
  ∃t,(aL T x).reverse.foldl (λt n=>jM t n (c n)) []=t/\jA t/\t.length=k/\(∀y,(lk t y).isSome=true↔y∈aL T x)/\aL t x=aL T x:=by
 intro k
 induction k with
 |zero=>intro x b;have e:=lR b;rw[e];exact⟨_,O,trivial,O,λy=>by simp[Gi],O⟩
 |succ k ih=>
  intro x b;cases g:lk T x with
  |none=>rw[ZM g]at b;cases b
  |some p=>
   have e:=qk l.wf g;rw[e]at b;have o:(aL T p).length=k:=az b;obtain⟨t,E,C,L,s,v⟩:=ih p o;have r:=J x p g;obtain⟨w,u⟩:=l.wf.par g;have d:lk t x=none:=by
    cases G:lk t x with
    |none=>rfl
    |some aeT=>exact absurd ((s x).1 (by rw[G];rfl)) (NW l.wf g)
   have K:=B x;rw[e,dN]at K;have A:jK t x p=0:=Eu w d (by rcases u with h|h;exact .inl h;exact .inr ((s p).2 (yF l.wf h))) V (by rw[v];omega);refine⟨(x,p)::t,?_,⟨w,d,?_,C⟩,by simp[L],λy=>?_,?_⟩;rw[e,yA,uc,E];simp only[List.foldl_cons,List.foldl_nil,r];exact Et A;exact(qo A).2.2.1
   ·rw[iG,e,dh];by_cases h:x=y;subst h;simp;rw[al h,s];exact⟨λh=>.inr h,λF=>F.resolve_left (eC h)⟩
   rw[Ds,v,<-e]
def Pq(J:jg T):∀(d:List Int) (t:List (Int×Int)),d.Nodup->(∀n∈d,(lk T n).isSome=true)->jA t->(∀y,(lk t y).isSome=true->(lk T y).isSome=true)->(∀n∈d,n∉aL T x->lk t n=none)->aL t x=aL T x->(∀y∈aL T x,(lk t y).isSome=true)->
  ∃b,d.foldl (λt n=>if n∈aL T x then t else jM t n 0) t=b/\jA b/\(∀y,(lk b y).isSome=true->(lk T y).isSome=true)/\(∀y,(lk t y).isSome=true->(lk b y).isSome=true)/\(∀n∈d,(lk b n).isSome=true)/\aL b x=aL T x:=by
 intro d
 induction d with
 |nil=>intro t _ _ o u _ v _;exact⟨t,O,o,u,(λ_ h=>h),(λ_ h=>(aK h)),v⟩
 |cons n d ih=>
  intro t hn R o u E v P;obtain⟨n1,X⟩:=rf.1 hn;rw[List.foldl_cons];by_cases r:n∈aL T x;rw[av r];obtain⟨b,F,K,C,w,G,L⟩:=ih t X (λy hy=>R y (dC _ hy)) o u (λy hy=>E y (dC _ hy)) v P;refine⟨b,F,K,C,w,λy hy=>?_,L⟩;rcases dh.1 hy with rfl|hy;exact w _ (P _ r);exact G y hy;rw[al r];have c:=R n cz;have l:=E n cz r;have s:n≠0:=λe=>by rw[e,J.wf.zero]at c;cases c
  have p:t.length<32:=by
   have:=Du (A:=n::t.map (·.1)) (B:=T.map (·.1)) (rf.2 ⟨(λh=>by have:=og.2 h;rw[l]at this;cases this),o.keys⟩) λy hy=>by rcases dh.1 hy with rfl|hy;exact og.1 c;exact og.1 (u y (og.2 hy))
   have hl:=J.le;simp only[dN,j3]at this;omega
  have ha:jK t n 0=0:=Eu s l (.inl O) p (by rw[vW o];simp);rw[Et ha];have Q:x≠n:=λe=>by subst e;exact r (yF J.wf c)
  obtain⟨b,F,K,C,w,G,L⟩:=ih ((n,0)::t) X (λy hy=>R y (dC _ hy)) ⟨s,l,.inl O,o⟩ (λy hy=>by
   rw[iG]at hy;split at hy
   ·rename_i e;rw[<-e];exact c
   exact u y hy) (λy hy W=>by
   rw[iG,al (λe:n=y=>n1 (e▸hy))];exact E y (dC _ hy) W) (by rw[wu Q,v]) (λy hy=>by
   rw[iG];split;rfl;exact P y hy)
  have g:∀y,(lk ((n,0)::t) y).isSome=true->(lk b y).isSome=true:=w;refine⟨b,F,K,C,λy hy=>g y ?_,λy hy=>?_,L⟩
  ·rw[iG];split;rfl;exact hy
  rcases dh.1 hy with rfl|hy;exact g _ (by rw[iG,av rfl];rfl);exact G y hy
def Pr(e:jg T)(u:∀x,(aL T x).length<=4){d:Int->Int}(L:∀x p,lk T x=some p->d x=p){id:Int}(h:ou T d id x=0):jK T id x=0:=by
 obtain⟨t,E,w,w2,g,v⟩:=Re e u L _ x O;have W:(eG T).Nodup:=(sW T).nodup_iff.2 e.wf.keys;obtain⟨o,F,X,C,h3,G,J⟩:=Pq e (x:=x) (eG T) t W (λn s=>zd.1 s) w (λy c=>qn ((g y).1 c)) (λn s P=>by
  cases l:lk t n with
  |none=>rfl
  |some aeT=>exact absurd ((g n).1 (by rw[l];rfl)) P) v λy c=>(g y).2 c
 unfold ou at h;rw[E,F]at h;obtain⟨Q,R,K,a4⟩:=qo h;have r:=KL h;rw[J]at r;have b:∀y,(lk T y).isSome=true->(lk o y).isSome=true:=λy c=>G y (zd.2 c);refine Eu Q ?_ ?_ ?_ r
 ·cases l:lk T id with
  |none=>rfl
  |some aeT=>have:=b id (by rw[l];rfl);rw[R]at this;cases this
 rcases K with h|h;exact .inl h;exact .inr (C _ h);have:=Du (A:=T.map (·.1)) (B:=o.map (·.1)) e.wf.keys λy c=>og.1 (b y (og.2 c));simp only[j3]at this;omega
def nG(f:Nat->Int)(p:Nat)(x:Int):Nat->Int:=gU f p (f p+x)
def kZ(f:Nat->Int)(p:Nat)(x:Int)(i:Nat):nG f p x i=f i+if i=p then x else 0:=by
 unfold nG gU;split
 ·rename_i h;rw[h]
 omega
def DJ(h:(fQ f k x).1=0):ie f=true/\(1<=x/\x<=1125899906842624)/\x<=cS f k/\(fQ f k x).2=nG f (6+k) x/\f (6+k)+x<=1125899906842624:=by
 unfold fQ at h⊢;split at h
 ·cases h
 rename_i b;split at h
 ·cases h
 rename_i d;rw[al b,al d];obtain⟨c,e,l⟩:=uD b;unfold putR at h⊢;split at h
 ·cases h
 rename_i g;rw[al g];exact⟨c,⟨e,l⟩,V,O,V⟩
def Dz(h:(fR f k x).1=0):ie f=true/\(1<=x/\x<=1125899906842624)/\x<=f (6+k)-f (12+k)/\(fR f k x).2=nG f (12+k) x/\f (12+k)+x<=1125899906842624:=by
 unfold fR at h⊢;split at h
 ·cases h
 rename_i b;split at h
 ·cases h
 rename_i d;rw[al b,al d];obtain⟨c,e,l⟩:=uD b;unfold putR at h⊢;split at h
 ·cases h
 rename_i g;rw[al g];exact⟨c,⟨e,l⟩,V,O,V⟩
def J9(h:(iT f k j x).1=0):ie f=true/\(1<=x/\x<=1125899906842624)/\k≠j/\x<=cS f k/\(iT f k j x).2=nG f (18+k*6+j) x/\f (18+k*6+j)+x<=1125899906842624:=by
 unfold iT at h⊢;split at h
 ·cases h
 rename_i c;split at h
 ·cases h
 rename_i b;split at h
 ·cases h
 rename_i l;rw[al c,al b,al l];obtain⟨d,g,o⟩:=uD c;unfold putR at h⊢;split at h
 ·cases h
 rename_i e;rw[al e];exact⟨d,⟨g,o⟩,b,V,O,V⟩
def Dq{turn:(Nat->Int)->Int×(Nat->Int)}:∀{l:List Int},jw m turn l=0->∀id∈l,(turn (m.r id)).1=0
 |[],_,_,h=>aK h
 |a::l,h,id,nW=>by
  unfold jw at h;split at h
  ·rename_i b;rcases dh.1 nW with rfl|nW;exact b;exact Dq h id nW
  rename_i b;exact absurd h b
def DH(m:aG)(turn:(Nat->Int)->Int×(Nat->Int))(l:List Int)(x:Int):lk (jv m turn l) x=if x∈l then some (turn (m.r x)).2 else lk m.ri x:=by rw[KJ,DU (λid=>(turn (m.r id)).2)]
inductive jB(m:aG)(e:z):aG->Prop
 |node (k:e.k=1) (ha:e.a<=140737488355328) (h:jK m.tr (bg e.o e.s) e.n=0):jB m e {m with tr:=(bg e.o e.s,e.n)::m.tr,pa:=putL m.pa (bg e.o e.s) e.n,ow:=m.ow.set e.w (m.ow.get e.w+1),ri:=putL m.ri (bg e.o e.s) (gU aC e.w e.a)}
 |raise (k:e.k=2) (ha:m.r e.n e.w+e.a<=140737488355328) (h:(lk m.ri e.n).isSome=true):jB m e {m with ri:=putL m.ri e.n (nG (m.r e.n) e.w e.a)}
 |take (k:e.k=3) (hq:m.aeT (e.o,e.r)=false) (ht:(lk m.tr e.n).isSome=true) (h:∀id∈aL m.tr e.n,(fQ (m.r id) e.w e.a).1=0):jB m e {m with ri:=jv m (λf=>fQ f e.w e.a) (aL m.tr e.n),qs:=putL m.qs (e.o,e.r) true,gr:=putL m.gr (e.o,e.r) ⟨e.o,e.r,e.n,e.a,0⟩}
 |free (k:e.k=4) (hq:m.aeT (e.o,e.r)=false) (g:cI) (hg:lk m.gr (e.o,e.f)=some g) (hb:g.b=0) (h:∀id∈aL m.tr g.n,(fR (m.r id) e.w g.a).1=0):jB m e {m with ri:=jv m (λf=>fR f e.w g.a) (aL m.tr g.n),qs:=putL m.qs (e.o,e.r) true,gr:=putL m.gr (e.o,e.f) {g with b:=e.r}}
 |move (k:e.k=5) (h:(lk m.ri e.n).isSome=true) (hm:(iT (m.r e.n) e.w e.to_ e.a).1=0):jB m e {m with ri:=putL m.ri e.n (nG (m.r e.n) (18+e.w*6+e.to_) e.a)}
 |join (k:e.k=6):jB m e {m with inn:=lj m.inn e.to_ true}
 |leave (k:e.k=7):jB m e {m with inn:=lj m.inn (6+e.w) true}
structure oA(m:aG):Prop where
 dp:∀x,(aL m.tr x).length<=4
 pa:∀x,lk m.pa x=lk m.tr x
 ri:∀x,(lk m.ri x).isSome=(lk m.tr x).isSome
 gd:dR m.gr
 gt:∀x∈m.gr,(lk m.tr x.2.n).isSome=true
def oA.par(h:oA m):∀x p,lk m.tr x=some p->m.p x=p:=λx p b=>by unfold aG.p;rw[h.pa,b];rfl
def Ny(C:m.ok)(w:oA m){e:z}(E:bG e=true)(h:(eU m e).1=0):jB m e (eU m e).2:=by
 have t:=iH E;unfold eU at h⊢;split at h
 ·rename_i k;rw[av k];unfold qz at h⊢;split at h
  ·cases h
  rename_i l;split at h
  ·rename_i d;exact absurd h d
  rename_i d;rw[al l,al d];have v:=Pr C.tr w.dp w.par (uf.1 d);rw[Et v];exact .node k V v
 rename_i y;rw[al y];split at h
 ·rename_i k;rw[av k];unfold qu at h⊢;split at h
  ·cases h
  rename_i l;split at h
  ·cases h
  rename_i d;rw[al l,al d];exact .raise k V (eq_true_of_ne_false l)
 rename_i G;rw[al G];split at h
 ·rename_i k;rw[av k];unfold na at h⊢;split at h
  ·cases h
  rename_i l;split at h
  ·cases h
  rename_i d;split at h
  ·rename_i c;exact absurd h c
  rename_i c;rw[al l,al d,al c];exact .take k (az l) (eq_true_of_ne_false d) (Dq (uf.1 c))
 rename_i A;rw[al A];split at h
 ·rename_i k;rw[av k];unfold nh at h⊢;split at h
  ·cases h
  rename_i l;split at h
  ·cases h
  rename_i d;split at h
  ·rename_i c;exact absurd h c
  rename_i c;rw[al l,al d,al c];obtain⟨g,u⟩:∃g,lk m.gr (e.o,e.f)=some g:=by
   cases K:lk m.gr (e.o,e.f)with
   |none=>exact absurd (gO (by rw[K];rfl)) d
   |some g=>exact⟨g,O⟩
  have p:m.g (e.o,e.f)=g:=by unfold aG.g;rw[u];rfl
  have s:g.b=0:=by refine yh λr=>d (jk ?_);rw[p];exact r
  rw[p]at c⊢;exact .free k (az l) g u s (Dq (uf.1 c))
 rename_i J;rw[al J];split at h
 ·rename_i k;rw[av k];unfold qx at h⊢;split at h
  ·cases h
  rename_i l;split at h
  ·cases h
  rename_i d;split at h
  ·rename_i c;exact absurd h c
  rename_i c;rw[al l,al d,al c];rw[(J9 (uf.1 c)).2.2.2.2.1];exact .move k (eq_true_of_ne_false l) (uf.1 c)
 rename_i B;rw[al B];split at h
 ·rename_i k;rw[av k];exact .join k
 rename_i F;rw[al F];exact .leave (cF t.k1 t.k2)
structure tD(m:aG)(e:z)(m':aG):Prop where
 may:bG e=true
 kn:m.kn.get e.w=e.s-1
 dep:∀k,k<6->e.d.get k<=m.kn.get k
 eff:∃m1,jB m e m1/\m'={m1 with kn:=m.kn.set e.w (m.kn.get e.w+1)}
def jB.kn{b:aG}{e:z}(h:jB m e b):b.kn=m.kn:=by cases h<;>rfl
def Jr(p:m.ok)(s:oA m){e:z}(h:(cU m e).1=0):tD m e (cU m e).2:=by
 have b:(ev m e).1=0:=by unfold cU at h;split at h;assumption;exact h
 obtain⟨l,o,-,-,c⟩:=wm b;have d:ka m.kn e=true:=by
  unfold ev at b;split at b
  ·cases b
  split at b
  ·cases b
  split at b
  ·cases b
  rename_i r;simpa using r
 have g:=Ny p s l (by rw[<-c];exact b);refine⟨l,o,?_,_,g,?_⟩;unfold ka at d;simp only[bZ]at d;exact JG.1 d.2.2;unfold cU;rw[av b,c,g.kn]
inductive cC(n:Nat):List z->aG->Prop
 |nil:cC n [] (fc n)
 |snoc {L:List z} {m:aG} (e:z):cC n L m->e.ok->(cU m e).1=0->cC n (L++[e]) (cU m e).2
def cC.led{L:List z}(h:cC n L m):m.ok:=by
 induction h with
 |nil=>exact EF n
 |snoc e _ he _ ih=>exact DF ih he
def ur{α β:Type}[DecidableEq α]{L:List (α×β)}{a:α}(h:(lk L a).isSome=true):∃v,lk L a=some v:=n8.1 h
section
variable{m m1:aG}{e:z}
def jB.shape(h:jB m e m1)(b:oA m):oA m1:=by
 cases h with
 |node k ha h=>
  obtain⟨p,r,t,l⟩:=qo h;have d:∀x,(lk m.tr x).isSome=true->(lk ((bg e.o e.s,e.n)::m.tr) x).isSome=true:=λx c=>by rw[iG];split;rfl;exact c
  refine⟨λx=>?_,λx=>?_,λx=>?_,b.gd,λx c=>d _ (b.gt x c)⟩
  ·by_cases c:x=bg e.o e.s;subst c;show(aL ((bg e.o e.s,e.n)::m.tr) _).length<=4;rw[Ds,dN];have:=KL h;omega;show(aL ((bg e.o e.s,e.n)::m.tr) x).length<=4;rw[wu c];exact b.dp x
  ·show lk (putL m.pa _ _) x=lk ((bg e.o e.s,e.n)::m.tr) x;rw[iF,iG,b.pa];by_cases c:x=bg e.o e.s;rw[av c,av c.symm];rw[al c,al (eC c)]
  show(lk (putL m.ri _ _) x).isSome=(lk ((bg e.o e.s,e.n)::m.tr) x).isSome;rw[iF,iG];by_cases c:x=bg e.o e.s;rw[av c,av c.symm];rfl;rw[al c,al (eC c)];exact b.ri x
 |raise k ha h=>
  refine⟨b.dp,b.pa,λx=>?_,b.gd,b.gt⟩;show(lk (putL m.ri _ _) x).isSome=_;rw[iF];split
  ·rename_i c;subst c;rw[<-b.ri,h];rfl
  exact b.ri x
 |take k hq ht h=>
  refine⟨b.dp,b.pa,λx=>?_,b.gd.putL _ _,λx c=>?_⟩
  ·show(lk (jv m (λf=>fQ f e.w e.a) (aL m.tr e.n)) x).isSome=(lk m.tr x).isSome;rw[DH];split
   ·rename_i c;rw[qn c];rfl
   exact b.ri x
  rcases lH.1 c with rfl|⟨c,-⟩;exact ht;exact b.gt x c
 |free k hq g hg hb h=>
  refine⟨b.dp,b.pa,λx=>?_,b.gd.putL _ _,λx c=>?_⟩
  ·show(lk (jv m (λf=>fR f e.w g.a) (aL m.tr g.n)) x).isSome=(lk m.tr x).isSome;rw[DH];split
   ·rename_i c;rw[qn c];rfl
   exact b.ri x
  rcases lH.1 c with rfl|⟨c,-⟩;exact b.gt (_,g) (dX hg);exact b.gt x c
 |move k h hm=>
  refine⟨b.dp,b.pa,λx=>?_,b.gd,b.gt⟩;show(lk (putL m.ri _ _) x).isSome=_;rw[iF];split
  ·rename_i c;subst c;rw[<-b.ri,h];rfl
  exact b.ri x
 |join k=>exact⟨b.dp,b.pa,b.ri,b.gd,b.gt⟩
 |leave k=>exact⟨b.dp,b.pa,b.ri,b.gd,b.gt⟩
def tD.shape{m':aG}(h:tD m e m')(c:oA m):oA m':=by obtain⟨m1,b,rfl⟩:=h.eff;have:=b.shape c;exact⟨this.dp,this.pa,this.ri,this.gd,this.gt⟩
end
def Mk(n:Nat):oA (fc n):=⟨λ_=>gM _,λ_=>rfl,λ_=>rfl,vx,λ_ h=>(aK h)⟩
def cC.shape{L:List z}(h:cC n L m):oA m:=by
 induction h with
 |nil=>exact Mk n
 |snoc e r he h0 ih=>exact(Jr r.led ih h0).shape ih
def cC.ind{P:List z->aG->Prop}(c:P [] (fc n))(b:∀L m e m',cC n L m->P L m->e.ok->tD m e m'->P (L++[e]) m'){L:List z}(h:cC n L m):P L m:=by
 induction h with
 |nil=>exact c
 |snoc e r he h1 ih=>exact b _ _ e _ r ih he (Jr r.led r.shape h1)
def z.w_lt{e:z}(h:bG e=true):e.w<6:=by have b:=iH h;unfold z.w;have:=b.o1;have:=b.o2;omega
def z.o_w{e:z}(h:bG e=true):e.o=(e.w:Int)+1:=by have b:=iH h;unfold z.w;have:=b.o1;have:=b.o2;omega
def cC.may{L:List z}(h:cC n L m):∀e∈L,bG e=true/\e.ok:=by refine cC.ind (P:=λL _=>∀e∈L,bG e=true/\e.ok) (λ_ h=>(aK h)) (λL m e g _ b c d x hx=>?_) h;rcases bP.1 hx with hx|hx;exact b x hx;rw[dd.1 hx];exact⟨d.may,c⟩
def je(k:Nat)(L:List z):List z:=L.filter λe=>decide (e.w=k)
def zL{L:List z}{e:z}:e∈je k L↔e∈L/\e.w=k:=by simp[je,lD]
def OZ(k:Nat)(L:List z)(e:z):je k (L++[e])=je k L++if e.w=k then[e]else[]:=by unfold je;rw[List.filter_append];congr 1;by_cases h:e.w=k<;>simp[h]
def cC.own{L:List z}(h:cC n L m):∀k,k<6->((je k L).length:Int)=m.kn.get k/\∀(i:Nat) (e:z),(je k L)[i]? =some e->e.s=(i:Int)+1:=by
 refine cC.ind (P:=λL m=>∀k,k<6->((je k L).length:Int)=m.kn.get k/\∀(i:Nat) (e:z),(je k L)[i]? =some e->e.s=(i:Int)+1) (λk c=>?_) (λL m e E r u A g k c=>?_) h;refine⟨?_,λi e h=>by simp[je]at h⟩;exact an.six (P:=λk=>((je k []).length:Int)=an.zero.get k) O O O O O O k c;obtain⟨o,l⟩:=u k c;have t:=z.w_lt g.may;have p:=g.kn;obtain⟨B,-,rfl⟩:=g.eff;rw[OZ];show _=(m.kn.set e.w (m.kn.get e.w+1)).get k/\_;rw[zo _ _ _ t c];by_cases d:e.w=k
 ·subst d;rw[av rfl,av rfl];refine⟨by simp only[bW,dN,g8];omega,λi x b=>?_⟩;rw[List.getElem?_append]at b;split at b;exact l i x b;rename_i C;rcases mI (i-(je e.w L).length) 1 with h1|h1;have y:i-(je e.w L).length=0:=V;rw[y]at b;obtain rfl:e=x:=az b;omega;rw[tQ (az h1)]at b;cases b
 rw[al d,al (eC d),eF];exact⟨o,l⟩
def cC.seq{L:List z}(h:cC n L m){e:z}(c:e∈L):1<=e.s/\e.s<=m.kn.get e.w/\(je e.w L)[(e.s-1).toNat]? =some e:=by have d:=z.w_lt (h.may e c).1;obtain⟨l,g⟩:=h.own e.w d;obtain⟨i,b⟩:=List.getElem?_of_mem (zL.2 ⟨c,O⟩);have:=g i e b;have o:=(fN.1 b).1;refine⟨V,V,?_⟩;rw[bU ((e.s-1).toNat=i)];exact b
def cC.one{L:List z}(h:cC n L m){e x:z}(d:e∈L)(o:x∈L)(c:e.w=x.w)(l:e.s=x.s):e=x:=by have b:=(h.seq d).2.2;have g:=(h.seq o).2.2;rw[c,l,g]at b;exact(eZ b).symm
def cC.nodup{L:List z}(h:cC n L m):L.Nodup:=by refine cC.ind (P:=λL _=>L.Nodup) List.nodup_nil (λL m e s r d p l=>?_) h;refine List.nodup_append.2 ⟨d,ah,λa g b o c=>?_⟩;rw[dd.1 o]at c;subst c;have:=(r.seq g).2.1;rw[l.kn]at this;omega
def cC.inn{L:List z}(h:cC n L m):∀i,m.inn i=true↔i<n\/∃e∈L,(e.k=6/\i=e.to_)\/(e.k=7/\i=6+e.w):=by
 refine cC.ind (P:=λL m=>∀i,m.inn i=true↔i<n\/∃e∈L,(e.k=6/\i=e.to_)\/(e.k=7/\i=6+e.w)) (λi=>by simp[fc]) (λL m e o r c l g i=>?_) h;obtain⟨b,d,rfl⟩:=g.eff;have key:b.inn i=true↔m.inn i=true\/(e.k=6/\i=e.to_)\/(e.k=7/\i=6+e.w):=by
  cases d with
  |node k=>simp[k]
  |raise k=>simp[k]
  |take k=>simp[k]
  |free k=>simp[k]
  |move k=>simp[k]
  |join k=>show lj m.inn e.to_ true i=true↔_;unfold lj;split<;>simp_all
  |leave k=>show lj m.inn (6+e.w) true i=true↔_;unfold lj;split<;>simp_all
 show b.inn i=true↔_;rw[key,c i];constructor;rintro((h|⟨x,hx,h⟩)|h);exact .inl h;exact .inr ⟨x,ik _ hx,h⟩;exact .inr ⟨e,ah,h⟩;rintro(h|⟨x,hx,h⟩);exact .inl (.inl h);rcases bP.1 hx with hx|hx;exact .inl (.inr ⟨x,hx,h⟩);rw[dd.1 hx]at h;exact .inr h
def cC.tree{L:List z}(h:cC n L m):∀x p,lk m.tr x=some p↔x≠0/\∃e∈L,e.k=1/\bg e.o e.s=x/\e.n=p:=by
 refine cC.ind (P:=λL m=>∀x p,lk m.tr x=some p↔x≠0/\∃e∈L,e.k=1/\bg e.o e.s=x/\e.n=p) (λx p=>by simp[fc,Gi]) (λL m e Q r d J C x p=>?_) h;obtain⟨g,B,rfl⟩:=C.eff;show lk g.tr x=some p↔_;have b:∀(_:e.k≠1) (_:g.tr=m.tr),(lk g.tr x=some p↔x≠0/\∃y∈L++[e],y.k=1/\bg y.o y.s=x/\y.n=p):=λw v=>by rw[v,d];refine and_congr_right λ_=>⟨λ⟨y,hy,h⟩=>⟨y,ik _ hy,h⟩,λ⟨y,hy,h⟩=>?_⟩;rcases bP.1 hy with hy|hy;exact⟨y,hy,h⟩;rw[dd.1 hy]at h;exact absurd h.1 w
 cases B with
 |node k ha h=>
  obtain⟨t,A,K,G⟩:=qo h;rw[iG];by_cases c:bg e.o e.s=x
  ·rw[av c];constructor;intro u;exact⟨c▸t,e,ah,k,c,eZ u⟩;rintro⟨-,y,hy,E,F,l⟩;rcases bP.1 hy with hy|hy
   ·have:=(d x y.n).2 ⟨c▸t,y,hy,E,F,O⟩;rw[<-c,A]at this;cases this
   rw[dd.1 hy]at l;rw[l]
  rw[al c,d];refine and_congr_right λ_=>⟨λ⟨y,hy,h⟩=>⟨y,ik _ hy,h⟩,λ⟨y,hy,h⟩=>?_⟩;rcases bP.1 hy with hy|hy;exact⟨y,hy,h⟩;rw[dd.1 hy]at h;exact absurd h.2.1 c
 |raise k=>exact b V O
 |take k=>exact b V O
 |free k=>exact b V O
 |move k=>exact b V O
 |join k=>exact b V O
 |leave k=>exact b V O
structure vf(L:List z)(aeT:Int×Int)(g:cI):Prop where
 ex:∃t∈L,t.k=3/\aeT=(t.o,t.r)/\g.o=t.o/\g.r=t.r/\g.n=t.n/\g.a=t.a
 fr:∀e∈L,e.k=4->(e.o,e.f)=aeT->g.b=e.r
 by_:g.b≠0->∃e∈L,e.k=4/\(e.o,e.f)=aeT
def z0{e:z}(b:bG e=true)(k:e.k=4):1<=e.r:=by
 have c:ib e=true:=by unfold bG at b;simp only[bZ]at b;exact b.2.1
 unfold ib at c;simp[k]at c;omega
def cC.grants{L:List z}(h:cC n L m):(∀b g,lk m.gr b=some g->vf L b g)/\(∀t∈L,t.k=3->∃g,lk m.gr (t.o,t.r)=some g/\g.n=t.n/\g.a=t.a)/\∀e∈L,e.k=4->∃g,lk m.gr (e.o,e.f)=some g:=by
 refine cC.ind (P:=λL m=>(∀b g,lk m.gr b=some g->vf L b g)/\(∀t∈L,t.k=3->∃g,lk m.gr (t.o,t.r)=some g/\g.n=t.n/\g.a=t.a)/\∀e∈L,e.k=4->∃g,lk m.gr (e.o,e.f)=some g) ⟨(λ_ _ h=>(aK h)),(λ_ h=>(aK h)),(λ_ h=>(aK h))⟩ (λL m e m' r ih he ht=>?_) h;obtain⟨F,J,C⟩:=ih;obtain⟨w,W,rfl⟩:=ht.eff;have R:=r.led.gk;show(∀b g,lk w.gr b=some g->vf (L++[e]) b g)/\(∀t∈L++[e],t.k=3->∃g,lk w.gr (t.o,t.r)=some g/\g.n=t.n/\g.a=t.a)/\∀x∈L++[e],x.k=4->∃g,lk w.gr (x.o,x.f)=some g;have K:∀{b g},vf L b g->(e.k=4->(e.o,e.f)=b->False)->vf (L++[e]) b g:=λ{b g} h hn=>by obtain⟨⟨t,ht,v⟩,G,E⟩:=h;refine⟨⟨t,ik _ ht,v⟩,λx hx l p=>?_,λA=>?_⟩;rcases bP.1 hx with hx|hx;exact G x hx l p;rw[dd.1 hx]at l p;exact(hn l p).elim;obtain⟨x,hx,v⟩:=E A;exact⟨x,ik _ hx,v⟩
 have d:e.k≠3->e.k≠4->w.gr=m.gr->(∀b g,lk w.gr b=some g->vf (L++[e]) b g)/\(∀t∈L++[e],t.k=3->∃g,lk w.gr (t.o,t.r)=some g/\g.n=t.n/\g.a=t.a)/\∀x∈L++[e],x.k=4->∃g,lk w.gr (x.o,x.f)=some g:=λE Q X=>by rw[X];refine⟨λb g c=>K (F b g c) λk=>absurd k Q,λt ht k=>?_,λt ht k=>?_⟩;rcases bP.1 ht with ht|ht;exact J t ht k;rw[dd.1 ht]at k;exact absurd k E;rcases bP.1 ht with ht|ht;exact C t ht k;rw[dd.1 ht]at k;exact absurd k Q
 cases W with
 |node k=>exact d V V O
 |raise k=>exact d V V O
 |move k=>exact d V V O
 |join k=>exact d V V O
 |leave k=>exact d V V O
 |take k hq ht' h=>
  have u:lk m.gr (e.o,e.r)=none:=by
   cases hc:lk m.gr (e.o,e.r)with
   |none=>rfl
   |some g=>have:=(R _ (dX hc)).2;rw[hq]at this;cases this
  refine⟨λb g c=>?_,λt ht B=>?_,λt ht y=>?_⟩
  ·have c:lk (putL m.gr (e.o,e.r) _) b=some g:=c;rw[iF]at c;split at c
   ·rename_i s;obtain rfl:=eZ c;subst s;refine⟨⟨e,ah,k,O,O,O,O,O⟩,λx hx l p=>?_,λA=>absurd O A⟩;rcases bP.1 hx with hx|hx
    ·obtain⟨g,c⟩:=C x hx l;rw[p,u]at c;cases c
    rw[dd.1 hx]at l;omega
   exact K (F b g c) λy=>V
  show∃g,lk (putL m.gr (e.o,e.r) _) (t.o,t.r)=some g/\_;rw[iF];rcases bP.1 ht with ht|ht;obtain⟨g,c,v⟩:=J t ht B;rw[al λs=>by rw[s,u]at c;cases c];exact⟨g,c,v⟩;rw[dd.1 ht,av rfl];exact⟨_,O,O,O⟩;show∃g,lk (putL m.gr (e.o,e.r) _) (t.o,t.f)=some g;rw[iF];split;exact⟨_,O⟩;rcases bP.1 ht with ht|ht;exact C t ht y;rw[dd.1 ht]at y;omega
 |free k hq g0 hg0 A h=>
  refine⟨λb g c=>?_,λt ht B=>?_,λt ht y=>?_⟩
  ·have c:lk (putL m.gr (e.o,e.f) _) b=some g:=c;rw[iF]at c;split at c
   ·rename_i s;obtain rfl:=eZ c;subst s;obtain⟨⟨t,ht,v⟩,G,E⟩:=F _ _ hg0;refine⟨⟨t,ik _ ht,v⟩,λx hx l p=>?_,λ_=>⟨e,ah,k,O⟩⟩;rcases bP.1 hx with hx|hx;have:=G x hx l p;have:=z0 (r.may x hx).1 l;omega;rw[dd.1 hx]
   rename_i s;exact K (F b g c) λ_ h=>s h.symm
  ·show∃g,lk (putL m.gr (e.o,e.f) _) (t.o,t.r)=some g/\_;rw[iF];rcases bP.1 ht with ht|ht
   ·obtain⟨g,c,v⟩:=J t ht B;split
    ·rename_i s;rw[s,hg0]at c;obtain rfl:=eZ c;exact⟨_,O,v⟩
    exact⟨g,c,v⟩
   rw[dd.1 ht]at B;omega
  show∃g,lk (putL m.gr (e.o,e.f) _) (t.o,t.f)=some g;rw[iF];split;exact⟨_,O⟩;rcases bP.1 ht with ht|ht;exact C t ht y;rename_i s;rw[dd.1 ht]at s;exact absurd O s
def iW(pth:Int->List Int)(tk:Int×Int->Int×Int)(e:z)(id:Int)(i:Nat):Int:=
 if e.k=1 then(if bg e.o e.s=id/\i=e.w then e.a else 0)
 else if e.k=2 then(if e.n=id/\i=e.w then e.a else 0)
 else if e.k=3 then(if id∈pth e.n/\i=6+e.w then e.a else 0)
 else if e.k=4 then(if id∈pth (tk (e.o,e.f)).1/\i=12+e.w then(tk (e.o,e.f)).2 else 0)
 else if e.k=5 then(if e.n=id/\i=18+e.w*6+e.to_ then e.a else 0)
 else 0
section
variable{pth:Int->List Int}{tk:Int×Int->Int×Int}{e:z}{id:Int}{i:Nat}
def Bk(k:e.k=1):iW pth tk e id i=if bg e.o e.s=id/\i=e.w then e.a else 0:=av k
def BK(k:e.k=2):iW pth tk e id i=if e.n=id/\i=e.w then e.a else 0:=by unfold iW;rw[al (bU (¬e.k=1)),av k]
def HO(k:e.k=3):iW pth tk e id i=if id∈pth e.n/\i=6+e.w then e.a else 0:=by unfold iW;rw[al (bU (¬e.k=1)),al (bU (¬e.k=2)),av k]
def Hz(k:e.k=4):iW pth tk e id i=if id∈pth (tk (e.o,e.f)).1/\i=12+e.w then(tk (e.o,e.f)).2 else 0:=by unfold iW;rw[al (bU (¬e.k=1)),al (bU (¬e.k=2)),al (bU (¬e.k=3)),av k]
def Hy(k:e.k=5):iW pth tk e id i=if e.n=id/\i=18+e.w*6+e.to_ then e.a else 0:=by unfold iW;rw[al (bU (¬e.k=1)),al (bU (¬e.k=2)),al (bU (¬e.k=3)),al (bU (¬e.k=4)),av k]
def xU(k:6<=e.k):iW pth tk e id i=0:=by unfold iW;rw[al (bU (¬e.k=1)),al (bU (¬e.k=2)),al (bU (¬e.k=3)),al (bU (¬e.k=4)),al (bU (¬e.k=5))]
end
structure nR(pth:Int->List Int)(tk:Int×Int->Int×Int)(m:aG):Prop where
 p:∀x,(lk m.tr x).isSome=true->pth x=aL m.tr x
 t:∀aeT g,lk m.gr aeT=some g->tk aeT=(g.n,g.a)
section
variable{pth:Int->List Int}{tk:Int×Int->Int×Int}{m m1:aG}{e:z}
def jB.back(h:jB m e m1)(w:m.ok)(E:nR pth tk m1):nR pth tk m:=by
 cases h with
 |node k ha h=>
  obtain⟨B,y,C,A⟩:=qo h;refine⟨λx d=>?_,E.t⟩;have l:x≠bg e.o e.s:=λh=>by rw[h,y]at d;cases d
  rw[E.p x (by show(lk ((bg e.o e.s,e.n)::m.tr) x).isSome=true;rw[iG,al (eC l)];exact d)];exact wu l
 |raise k=>exact⟨E.p,E.t⟩
 |take k hq ht h=>refine⟨E.p,λc g u=>E.t c g ?_⟩;show lk (putL m.gr (e.o,e.r) _) c=some g;rw[iF,al];exact u;rintro rfl;have:=(w.gk _ (dX u)).2;rw[hq]at this;cases this
 |free k hq g u hb h=>refine⟨E.p,λc x d=>?_⟩;by_cases v:c=(e.o,e.f);subst v;rw[u]at d;obtain rfl:=eZ d;exact E.t (e.o,e.f) {g with b:=e.r} (by show lk (putL m.gr (e.o,e.f) _) _=_;rw[iF,av rfl]);exact E.t c x (by show lk (putL m.gr (e.o,e.f) _) c=_;rw[iF,al v];exact d)
 |move k=>exact⟨E.p,E.t⟩
 |join k=>exact⟨E.p,E.t⟩
 |leave k=>exact⟨E.p,E.t⟩
def tD.back{m':aG}(h:tD m e m')(c:m.ok)(E:nR pth tk m'):nR pth tk m:=by obtain⟨m1,b,rfl⟩:=h.eff;exact b.back c ⟨E.p,E.t⟩
def qE(m':aG)(b:Int)(f:Nat->Int)(h:m'.ri=putL m.ri b f)(id:Int):m'.r id=if id=b then f else m.r id:=by unfold aG.r;rw[h,iF];split<;>rfl
def uL(m':aG)(turn:(Nat->Int)->Int×(Nat->Int))(l:List Int)(h:m'.ri=jv m turn l)(id:Int):m'.r id=if id∈l then(turn (m.r id)).2 else m.r id:=by unfold aG.r;rw[h,DH];split<;>rfl
def jB.r(h:jB m e m1)(u:m.ok)(l:oA m)(E:nR pth tk m1)(id:Int)(i:Nat):m1.r id i=m.r id i+iW pth tk e id i:=by
 have d:=h.back u E;cases h with
 |node k ha h=>
  obtain⟨B,v,C,A⟩:=qo h;rw[qE _ (bg e.o e.s) _ rfl];rw[Bk k];by_cases c:id=bg e.o e.s
  ·subst c;have y:m.r (bg e.o e.s)=aC:=by unfold aG.r;have:=l.ri (bg e.o e.s);rw[v]at this;rw[Option.isSome_eq_false_iff.1 this|>Option.isNone_iff_eq_none.1];rfl
   rw[av rfl,y];show gU aC e.w e.a i=0+_;unfold gU;by_cases b:i=e.w;rw[av b,av ⟨rfl,b⟩];omega;rw[al b,al λh=>b h.2];rfl
  rw[al c,al λh=>c h.1.symm];omega
 |raise k ha h=>
  rw[qE _ e.n _ rfl];rw[BK k];by_cases c:id=e.n
  ·subst c;rw[av rfl,kZ];by_cases b:i=e.w;rw[av b,av ⟨rfl,b⟩];rw[al b,al λh=>b h.2]
  rw[al c,al λh=>c h.1.symm];omega
 |take k hq ht h=>
  rw[uL _ (λf=>fQ f e.w e.a) (aL m.tr e.n) rfl];rw[HO k,d.p e.n ht];by_cases c:id∈aL m.tr e.n
  ·rw[av c];show(fQ (m.r id) e.w e.a).2 i=_;rw[(DJ (h id c)).2.2.2.1,kZ];by_cases b:i=6+e.w;rw[av b,av ⟨c,b⟩];rw[al b,al λh=>b h.2]
  rw[al c,al λh=>c h.1];omega
 |free k hq g hg hb h=>
  rw[uL _ (λf=>fR f e.w g.a) (aL m.tr g.n) rfl];rw[Hz k,d.t _ _ hg,d.p g.n (l.gt (_,g) (dX hg))];by_cases c:id∈aL m.tr g.n
  ·rw[av c];show(fR (m.r id) e.w g.a).2 i=_;rw[(Dz (h id c)).2.2.2.1,kZ];by_cases b:i=12+e.w;rw[av b,av ⟨c,b⟩];rw[al b,al λh=>b h.2]
  rw[al c,al λh=>c h.1];omega
 |move k h hm=>
  rw[qE _ e.n _ rfl];rw[Hy k];by_cases c:id=e.n
  ·subst c;rw[av rfl,kZ];by_cases b:i=18+e.w*6+e.to_;rw[av b,av ⟨rfl,b⟩];rw[al b,al λh=>b h.2]
  rw[al c,al λh=>c h.1.symm];omega
 |join k=>rw[xU V];show m.r id i=_;omega
 |leave k=>rw[xU V];show m.r id i=_;omega
def jB.con_pos(h:jB m e m1)(c:m.ok)(p:bG e=true)(E:nR pth tk m1)(id:Int)(i:Nat):0<=iW pth tk e id i:=by
 have r:=(iH p).a1;have l:=h.back c E;have d:∀g,lk m.gr (e.o,e.f)=some g->0<=(tk (e.o,e.f)).2:=λg b=>by rw[l.t _ _ b];have:=(c.gi _ (dX b)).2.2.2.1.1;show 0<=g.a;have h:1<=g.a:=this;omega
 cases h with
 |free k hq g b hb h=>have:=d g b;rw[Hz k];split<;>omega
 |node k=>rw[Bk k];split<;>omega
 |raise k=>rw[BK k];split<;>omega
 |take k=>rw[HO k];split<;>omega
 |move k=>rw[Hy k];split<;>omega
 |join k=>rw[xU V];omega
 |leave k=>rw[xU V];omega
end
def cC.cells{L:List z}(h:cC n L m)(E:nR pth tk m)(id:Int)(i:Nat):m.r id i=(L.map λe=>iW pth tk e id i).sum/\∀e∈L,0<=iW pth tk e id i:=by refine cC.ind (P:=λL m=>nR pth tk m->m.r id i=(L.map λe=>iW pth tk e id i).sum/\∀e∈L,0<=iW pth tk e id i) (λ_=>⟨O,(λ_ h=>(aK h))⟩) (λL m e y r u w c b=>?_) h E;have s:=c.back r.led b;obtain⟨o,v⟩:=u s;obtain⟨l,d,rfl⟩:=c.eff;have g:nR pth tk l:=⟨b.p,b.t⟩;refine⟨?_,λx hx=>?_⟩;show l.r id i=_;rw[d.r r.led r.shape g,o,jh,List.sum_append];simp;rcases bP.1 hx with hx|hx;exact v x hx;rw[dd.1 hx];exact d.con_pos r.led c.may g id i
def uZ(i:Nat):Nat:=if i<6 then i else if i<12 then i-6 else if i<18 then i-12 else(i-18)/6
def Sw{e:z}(d:bG e=true){id:Int}(h:e.w≠uZ i):iW pth tk e id i=0:=by
 have c:=z.w_lt d;have b:=iH d;have g:e.to_<6:=by unfold z.to_;have:=b.t1;have:=b.t2;omega
 unfold uZ at h;unfold iW;split;rw[al];rintro⟨-,rfl⟩;rw[av c]at h;exact h O;split;rw[al];rintro⟨-,rfl⟩;rw[av c]at h;exact h O;split;rw[al];rintro⟨-,rfl⟩;rw[al V,av V]at h;omega;split;rw[al];rintro⟨-,rfl⟩;rw[al V,al V,av V]at h;omega;split;rw[al];rintro⟨-,rfl⟩;rw[al V,al V,al V]at h;omega;rfl
def De{α:Type}(p:α->Bool)(f:α->Int):∀{L:List α},(∀x∈L,p x=false->f x=0)->(L.map f).sum=((L.filter p).map f).sum
 |[],_=>rfl
 |x::L,h=>by
  have d:=De p f (L:=L) λy c=>h y (dC _ c);rw[cW,gy,d,lC];cases b:p x with
  |true=>rw[av rfl,cW,gy]
  |false=>rw[al ah,h x cz b];omega
def cC.cellW{L:List z}(h:cC n L m)(E:nR pth tk m)(id:Int)(i:Nat):m.r id i=((je (uZ i) L).map λe=>iW pth tk e id i).sum:=by rw[(h.cells E id i).1];exact De (λe=>decide (e.w=uZ i)) _ λe c b=>Sw (h.may e c).1 (az b)
def Dd{α:Type}(f:α->Int):∀(L:List α) (c:Nat),(∀x∈L,0<=f x)->((L.take c).map f).sum<=(L.map f).sum
 |[],c,_=>by simp
 |x::L,0,h=>by have d:=h x cz;have e:=Dd f L 0 λy b=>h y (dC _ b);simp only[vQ,mJ,List.sum_nil,cW,gy]at*;omega
 |x::L,c+1,h=>by have:=Dd f L c λy b=>h y (dC _ b);simp only[List.take_succ_cons,cW,gy];omega
def jN(f:Nat->Int)(k:Nat):Int:=(fU f k).sum-(iw f k).sum
def K8{l:List Int}(h:(fL l).2=true):(fL l).1=l.sum:=by
 unfold fL at h⊢;split at h
 ·rename_i b;rw[av b]
 cases h
def Dv(h:ie f=true)(g:k<6):cS f k=jN f k/\0<=jN f k/\f (12+k)<=f (6+k):=by
 have d:=h;unfold ie at d;simp only[bZ,lZ]at d;have c:=d.1 k (rq.2 g);unfold qy at c;simp only[bZ,ua,vE,eN]at c;obtain⟨b,o,p,l⟩:=c;have e:(mj f k).1=jN f k:=by unfold mj at b⊢;simp only[bZ]at b;show(fL (fU f k)).1-(fL (iw f k)).1=_;rw[K8 b.1,K8 b.2];rfl
 refine⟨by unfold cS;rw[av h,e],by rw[<-e];omega,V⟩
def pA(f:Nat->Int)(k:Nat):jN f k=f k+f (12+k)+f (18+k)+f (24+k)+f (30+k)+f (36+k)+f (42+k)+f (48+k)-(f (6+k)+f (18+k*6)+f (18+k*6+1)+f (18+k*6+2)+f (18+k*6+3)+f (18+k*6+4)+f (18+k*6+5)):=by unfold jN fU iw;simp only[gy,List.sum_nil];omega
def EP{p:Prop}[Decidable p](h:0<=x):0<=(if p then x else 0):=by split<;>omega
def AM{p:Nat}(c:0<=x)(h:k<6)(e:p<6\/(12<=p/\p<18)):jN f k<=jN (nG f p x) k:=by rw[pA,pA];simp only[kZ];have g:∀b:Nat,b≠p->(if b=p then x else 0)=0:=λb d=>al d;rw[g (6+k) V,g (18+k*6) V,g (18+k*6+1) V,g (18+k*6+2) V,g (18+k*6+3) V,g (18+k*6+4) V,g (18+k*6+5) V,g (18+k) V,g (24+k) V,g (30+k) V,g (36+k) V,g (42+k) V,g (48+k) V];have o:=EP (p:=k=p) c;have l:=EP (p:=12+k=p) c;omega
def RZ{w:Nat}(d:w<6)(h:k<6):jN (nG f (6+w) x) k=jN f k-if k=w then x else 0:=by rw[pA,pA];simp only[kZ];have g:∀b:Nat,b≠6+w->(if b=6+w then x else 0)=0:=λb c=>al c;rw[g k V,g (12+k) V,g (18+k*6) V,g (18+k*6+1) V,g (18+k*6+2) V,g (18+k*6+3) V,g (18+k*6+4) V,g (18+k*6+5) V,g (18+k) V,g (24+k) V,g (30+k) V,g (36+k) V,g (42+k) V,g (48+k) V];by_cases e:k=w;rw[av e,av V];omega;rw[al e,al V];omega
def zO{P:Nat->Prop}(h:P 0)(e:P 1)(c:P 2)(l:P 3)(d:P 4)(g:P 5):∀k,k<6->P k:=λk b=>by
 match k,b with
 |0,_=>exact h
 |1,_=>exact e
 |2,_=>exact c
 |3,_=>exact l
 |4,_=>exact d
 |5,_=>exact g
def Sb:∀w,w<6->∀t,t<6->∀k,k<6->jN (nG f (18+w*6+t) x) k=jN f k-(if k=w then x else 0)+if k=t then x else 0:=by
 refine zO ?_ ?_ ?_ ?_ ?_ ?_<;>refine zO ?_ ?_ ?_ ?_ ?_ ?_<;>refine zO ?_ ?_ ?_ ?_ ?_ ?_<;>
  (rw[pA,pA];simp[kZ];try omega)
def cC.local{L:List z}(h:cC n L m)(id:Int):∀k,k<6->0<=jN (m.r id) k:=by
 refine cC.ind (P:=λ_ m=>∀k,k<6->0<=jN (m.r id) k) (λk c=>?_) (λL m e X r b he y k c=>?_) h;rw[pA];show(0:Int)<=0+0+0+0+0+0+0+0-(0+0+0+0+0+0+0);omega;have b:=b k c;have l:=z.w_lt y.may;have v:=iH y.may;have B:e.to_<6:=by unfold z.to_;have:=v.t1;have:=v.t2;omega
 obtain⟨Q,J,rfl⟩:=y.eff;show 0<=jN (Q.r id) k;cases J with
 |node k1 ha h=>
  rw[qE _ (bg e.o e.s) _ rfl];split
  ·have G:=AM (f:=aC) (p:=e.w) v.a1 c (.inl l);have K:nG aC e.w e.a=gU aC e.w e.a:=by unfold nG;show gU aC e.w (0+e.a)=_;rw[Int.zero_add]
   rw[K]at G;have W:jN aC k=0:=by rw[pA];rfl
   omega
  exact b
 |raise k1 ha h=>
  rw[qE _ e.n _ rfl];split
  ·rename_i d;subst d;have:=AM (f:=m.r e.n) (p:=e.w) v.a1 c (.inl l);omega
  exact b
 |take k1 hq y h=>
  rw[uL _ (λf=>fQ f e.w e.a) (aL m.tr e.n) rfl];split
  ·rename_i d;obtain⟨u,F,E,A,C⟩:=DJ (h id d);show 0<=jN (fQ (m.r id) e.w e.a).2 _;rw[A,RZ l c];split
   ·rename_i t;subst t;have:=(Dv u c).1;omega
   omega
  exact b
 |free k1 hq g hg hb h=>
  rw[uL _ (λf=>fR f e.w g.a) (aL m.tr g.n) rfl];split
  ·rename_i d;obtain⟨u,F,E,A,C⟩:=Dz (h id d);show 0<=jN (fR (m.r id) e.w g.a).2 _;rw[A];have:=AM (f:=m.r id) (p:=12+e.w) (x:=g.a) V c (.inr V);omega
  exact b
 |move k1 h hm=>
  rw[qE _ e.n _ rfl];split
  ·rename_i d;subst d;obtain⟨u,F,E,A,C,R⟩:=J9 hm;rw[Sb _ l _ B _ c];have:=Dv u l;by_cases t:k=e.w;rw[av t,al V];rw[t]at b⊢;omega;rw[al t];have:=EP (p:=k=e.to_) (x:=e.a) V;omega
  exact b
 |join k1=>exact b
 |leave k1=>exact b
def iq(m:aG)(id:Int)(j:Nat)(x:(Int×Int)×cI):Int:=if x.2.o=(j:Int)+1/\x.2.b=0/\id∈aL m.tr x.2.n then x.2.a else 0
def DQ{L aeL:List Int}(p:L.Perm aeL):L.sum=aeL.sum:=by
 induction p with
 |nil=>rfl
 |cons x _ ih=>rw[gy,gy,ih]
 |swap x y l=>simp only[gy];omega
 |trans _ _ h1 h2=>exact h1.trans h2
def K6{α β:Type}[DecidableEq α]{L:List (α×β)}(c:dR L)(φ:α×β->Int)(a:α)(v:β):((putL L a v).map φ).sum=(L.map φ).sum+φ (a,v)-match lk L a with
  |some g=>φ (a,g)
  |none=>0:=by
 cases b:lk L a with
 |none=>show(((a,v)::dropL L a).map φ).sum=_;rw[wi b,cW,gy];show _=_-(0:Int);omega
 |some g=>have:=DQ ((c.split (dX b)).map φ);rw[cW,gy]at this;show(((a,v)::dropL L a).map φ).sum=_;rw[cW,gy,this];show _=_-φ (a,g);omega
def vY{α:Type}{f g:α->Int}:∀{L:List α},(∀x∈L,f x=g x)->(L.map f).sum=(L.map g).sum
 |[],_=>rfl
 |x::L,h=>by rw[cW,cW,gy,gy,h x cz,vY λy b=>h y (dC _ b)]
def cC.used{L:List z}(h:cC n L m)(id:Int):∀j,j<6->m.r id (6+j)-m.r id (12+j)=(m.gr.map (iq m id j)).sum:=by
 refine cC.ind (P:=λ_ m=>∀j,j<6->m.r id (6+j)-m.r id (12+j)=(m.gr.map (iq m id j)).sum) (λj F=>rfl) (λL m e m' r l he u j F=>?_) h;have l:=l j F;have hw:=z.w_lt u.may;have E:=z.o_w u.may;have y:=r.shape;have C:=r.led.gk;obtain⟨v,K,rfl⟩:=u.eff;show v.r id (6+j)-v.r id (12+j)=(v.gr.map (iq v id j)).sum;have B:=iH u.may;have R:e.to_<6:=by unfold z.to_;have:=B.t1;have:=B.t2;omega
 cases K with
 |node k ha h=>
  obtain⟨a1,G,X,a4⟩:=qo h;have J:(m.gr.map (iq {m with tr:=(bg e.o e.s,e.n)::m.tr,pa:=putL m.pa (bg e.o e.s) e.n,ow:=m.ow.set e.w (m.ow.get e.w+1),ri:=putL m.ri (bg e.o e.s) (gU aC e.w e.a)} id j)).sum=(m.gr.map (iq m id j)).sum:=vY λx d=>by
   unfold iq;have:aL ((bg e.o e.s,e.n)::m.tr) x.2.n=aL m.tr x.2.n:=wu λh=>by have:=y.gt x d;rw[h,G]at this;cases this
   simp only[this]
  rw[J,<-l,qE _ (bg e.o e.s) _ rfl];split
  ·rename_i d;subst d;have Q:m.r (bg e.o e.s)=aC:=by unfold aG.r;have:=y.ri (bg e.o e.s);rw[G]at this;rw[Option.isSome_eq_false_iff.1 this|>Option.isNone_iff_eq_none.1];rfl
   rw[Q];unfold gU;rw[al V,al V]
  rfl
 |raise k ha h=>
  rw[qE _ e.n _ rfl];show _=(m.gr.map (iq m id j)).sum;rw[<-l];split
  ·rename_i d;subst d;rw[kZ,kZ,al V,al V];omega
  rfl
 |take k hq u h=>
  have p:lk m.gr (e.o,e.r)=none:=by
   cases W:lk m.gr (e.o,e.r)with
   |none=>rfl
   |some g=>have:=(C _ (dX W)).2;rw[hq]at this;cases this
  rw[uL _ (λf=>fQ f e.w e.a) (aL m.tr e.n) rfl];show _=((putL m.gr (e.o,e.r) ⟨e.o,e.r,e.n,e.a,0⟩).map (iq m id j)).sum;rw[K6 y.gd,p,<-l];show _=_+iq m id j ((e.o,e.r),⟨e.o,e.r,e.n,e.a,0⟩)-0;unfold iq;simp only[E];by_cases d:id∈aL m.tr e.n
  ·rw[av d];show(fQ (m.r id) e.w e.a).2 _-(fQ (m.r id) e.w e.a).2 _=_;rw[(DJ (h id d)).2.2.2.1,kZ,kZ,al (c:=12+j=6+e.w) V];by_cases t:j=e.w;rw[av V,av (by exact⟨V,by trivial,d⟩)];omega;rw[al V,al (λh=>t (aA h.1))];omega
  rw[al d,al λh=>d h.2.2];omega
 |free k hq g hg hb h=>
  have A:g.o=e.o:=by have:=(C _ (dX hg)).1;injection this with a b;exact a.symm
  rw[uL _ (λf=>fR f e.w g.a) (aL m.tr g.n) rfl];show _=((putL m.gr (e.o,e.f) {g with b:=e.r}).map (iq m id j)).sum;rw[K6 y.gd,hg,<-l];show _=_+iq m id j ((e.o,e.f),{g with b:=e.r})-iq m id j ((e.o,e.f),g);have hr:=z0 u.may k;unfold iq;simp only[A,E,hb];rw[al (c:=_/\e.r=0/\_) (λh=>aA h.2.1)];by_cases d:id∈aL m.tr g.n
  ·rw[av d];show(fR (m.r id) e.w g.a).2 _-(fR (m.r id) e.w g.a).2 _=_;rw[(Dz (h id d)).2.2.2.1,kZ,kZ,al (c:=6+j=12+e.w) V];by_cases t:j=e.w;rw[av V,av (by exact⟨V,by trivial,d⟩)];omega;rw[al V,al (λh=>t (aA h.1))];omega
  rw[al d,al λh=>d h.2.2];omega
 |move k h hm=>
  rw[qE _ e.n _ rfl];show _=(m.gr.map (iq m id j)).sum;rw[<-l];split
  ·rename_i d;subst d;rw[kZ,kZ,al V,al V];omega
  rfl
 |join k=>exact l
 |leave k=>exact l
structure lA(n:Nat)(J:Nat->List z)(aeL:Nat->aG):Prop where
 run:∀k,k<6->cC n (J k) (aeL k)
 own:∀k,k<6->∀e∈J k,e∈J e.w
def Hv(aeL:Nat->aG)(x:Int):List Int:=aL (aeL (x/1099511627776-1).toNat).tr x
def IM(aeL:Nat->aG)(b:Int×Int):Int×Int:=(((aeL (b.1-1).toNat).g b).n,((aeL (b.1-1).toNat).g b).a)
def Dw{e:z}(h:bg e.o e.s≠0):(1<=e.o/\e.o<=6)/\(1<=e.s/\e.s<1099511627776)/\bg e.o e.s=e.o*1099511627776+e.s:=by
 unfold bg at h⊢;split at h
 ·rename_i b;rw[av b];exact⟨b.1,b.2,O⟩
 exact absurd O h
def ES{e x:z}(h:bg e.o e.s≠0)(b:bg e.o e.s=bg x.o x.s):e.o=x.o/\e.s=x.s:=by obtain⟨l,p,c⟩:=Dw h;obtain⟨g,r,d⟩:=Dw (b▸h);rw[c,d]at b;omega
def Sm{e:z}(h:bg e.o e.s≠0):(bg e.o e.s/1099511627776-1).toNat=e.w:=by obtain⟨c,d,b⟩:=Dw h;rw[b];unfold z.w;omega
section
variable{n:Nat}{J:Nat->List z}{aeL:Nat->aG}(aeO:lA n J aeL)
include aeO
def lA.one(c:j<6)(h:k<6){e x:z}(d:e∈J j)(p:x∈J k)(b:e.w=x.w)(o:e.s=x.s):e=x:=by have l:=aeO.own j c e d;have g:=aeO.own k h x p;rw[<-b]at g;exact(aeO.run e.w (z.w_lt ((aeO.run j c).may e d).1)).one l g b o
def lA.prefix_(g:j<6)(c:k<6):je k (J j)=(je k (J k)).take (je k (J j)).length:=by
 apply yz;intro i;rw[kw];split
 ·rename_i o;have b:=bY o;generalize (je k (J j))[i]=e at b;have p:=((aeO.run j g).own k c).2 i e b;obtain⟨r,d⟩:=zL.1 (cX b);have h:=aeO.own j g e r;rw[d]at h;have l:=((aeO.run k c).seq h).2.2;rw[d,p,bU (((i:Int)+1-1).toNat=i)]at l;rw[b,l]
 rename_i o;exact tQ V
def lA.par(g:j<6)(c:k<6){p b:Int}(s:lk (aeL j).tr x=some p)(o:lk (aeL k).tr x=some b):p=b:=by obtain⟨t,e,l,E,d,v⟩:=((aeO.run j g).tree x p).1 s;obtain⟨-,y,r,C,u,A⟩:=((aeO.run k c).tree x b).1 o;obtain⟨B,h⟩:=ES (by rw[d];exact t) (d.trans u.symm);have:=aeO.one g c l r (by unfold z.w;rw[B]) h;rw[<-v,<-A,this]
def lA.path(o:j<6)(t:k<6):∀(c:Nat) (x:Int),(aL (aeL j).tr x).length=c->(lk (aeL j).tr x).isSome=true->(lk (aeL k).tr x).isSome=true->aL (aeL j).tr x=aL (aeL k).tr x:=by
 intro c
 induction c with
 |zero=>intro x d s _;obtain⟨p,b⟩:=ur s;rw[qk (aeO.run j o).led.tr.wf b]at d;cases d
 |succ c ih=>intro x d s v;obtain⟨p,b⟩:=ur s;obtain⟨u,l⟩:=ur v;have r:=aeO.par o t b l;subst r;have e:=(aeO.run j o).led.tr.wf;have g:=(aeO.run k t).led.tr.wf;rw[qk e b]at d⊢;rw[qk g l];congr 1;rcases(e.par b).2 with h|h;rw[h,vW e,vW g];rcases(g.par l).2 with h'|h';rw[h',vW e,vW g];exact ih p (az d) h h'
def lA.env(b:k<6):nR (Hv aeL) (IM aeL) (aeL k):=by
 refine⟨λx B=>?_,λu g G=>?_⟩
 ·obtain⟨p,Q⟩:=ur B;obtain⟨v,e,C,X,d,L⟩:=((aeO.run k b).tree x p).1 Q;have h:bg e.o e.s≠0:=by rw[d];exact v
  have c:=z.w_lt ((aeO.run k b).may e C).1;have K:lk (aeL e.w).tr x=some p:=((aeO.run e.w c).tree x p).2 ⟨v,e,aeO.own k b e C,X,d,L⟩;unfold Hv;rw[<-d,Sm h,d];exact aeO.path c b _ x O (by rw[K];rfl) B
 obtain⟨⟨t,y,E,rfl,b1,b2,F,W⟩,-,-⟩:=((aeO.run k b).grants).1 u g G;have c:=z.w_lt ((aeO.run k b).may t y).1;obtain⟨A,l,P,R⟩:=((aeO.run t.w c).grants).2.1 t (aeO.own k b t y) E;unfold IM;have:(aeL (t.o-1).toNat).g (t.o,t.r)=A:=by show(aeL t.w).g (t.o,t.r)=A;unfold aG.g;rw[l];rfl
 show(((aeL (t.o-1).toNat).g (t.o,t.r)).n,((aeL (t.o-1).toNat).g (t.o,t.r)).a)=_;rw[this,P,R,F,W]
def lA.cell_le(c:j<6)(b:k<6)(id:Int)(g:uZ i=k):(aeL j).r id i<=(aeL k).r id i:=by rw[(aeO.run j c).cellW (aeO.env c) id i,(aeO.run k b).cellW (aeO.env b) id i,g,aeO.prefix_ c b];refine Dd _ _ _ λe d=>?_;exact((aeO.run k b).cells (aeO.env b) id i).2 e (zL.1 d).1
def lA.bound(id:Int):((aeL 0).r id 6-(aeL 0).r id 12)+((aeL 1).r id 7-(aeL 1).r id 13)+((aeL 2).r id 8-(aeL 2).r id 14)+((aeL 3).r id 9-(aeL 3).r id 15)+((aeL 4).r id 10-(aeL 4).r id 16)+((aeL 5).r id 11-(aeL 5).r id 17)<=
  (aeL 0).r id 0+(aeL 1).r id 1+(aeL 2).r id 2+(aeL 3).r id 3+(aeL 4).r id 4+(aeL 5).r id 5:=by
 have L:∀k,k<6->0<=jN ((aeL k).r id) k:=λk c=>(aeO.run k c).local id k c;have C:∀j k,j<6->k<6->(aeL k).r id (18+j*6+k)<=(aeL j).r id (18+j*6+k):=λj k F c=>aeO.cell_le c F id (by unfold uZ;rw[al V,al V,al V];omega);have h:=L 0 V;have l:=L 1 V;have o:=L 2 V;have e:=L 3 V;have g:=L 4 V;have d:=L 5 V;rw[pA]at h l o e g d;simp only[Nat.reduceAdd,Nat.reduceMul,nV,oU]at h l o e g d;have b:∀k,k<6->(aeL k).r id (18+k)+(aeL k).r id (24+k)+(aeL k).r id (30+k)+(aeL k).r id (36+k)+(aeL k).r id (42+k)+(aeL k).r id (48+k)<=
   (aeL 0).r id (18+k)+(aeL 1).r id (24+k)+(aeL 2).r id (30+k)+(aeL 3).r id (36+k)+(aeL 4).r id (42+k)+(aeL 5).r id (48+k):=λk c=>by
  have K:=C 0 k V c;have v:=C 1 k V c;have y:=C 2 k V c;have A:=C 3 k V c;have w:=C 4 k V c;have B:=C 5 k V c;simp only[Nat.reduceAdd,Nat.reduceMul,nV,oU,Nat.one_mul]at K v y A w B;omega
 have t:=b 0 V;have p:=b 1 V;have E:=b 2 V;have s:=b 3 V;have G:=b 4 V;have u:=b 5 V;simp only[Nat.reduceAdd,oU]at t p E s G u;clear C L b;omega
def lA.mem(c:j<6)(l:k<6)(h:(aeL j).kn=(aeL k).kn){e:z}(d:e∈J j):e∈J k:=by
 have u:=((aeO.run j c).may e d).1;have p:=z.w_lt u;obtain⟨B,r,y⟩:=(aeO.run j c).seq d;obtain⟨A,v⟩:=(aeO.run k l).own e.w p;have b:(e.s-1).toNat<(je e.w (J k)).length:=by rw[h]at r;omega
 have g:=bY b;generalize (je e.w (J k))[(e.s-1).toNat]=x at g;obtain⟨o,t⟩:=zL.1 (cX g);have:=v _ x g;rw[aeO.one c l d o t.symm V];exact o
def lA.agree(s:j<6)(l:k<6)(h:(aeL j).kn=(aeL k).kn):(aeL j).inn=(aeL k).inn/\cq (aeL j)=cq (aeL k)/\ec (aeL j)=ec (aeL k):=by
 have B:∀e,e∈J j↔e∈J k:=λe=>⟨aeO.mem s l h,aeO.mem l s h.symm⟩;have hp:(J j).Perm (J k):=(List.perm_ext_iff_of_nodup (aeO.run j s).nodup (aeO.run k l).nodup).2 B;have C:∀x,lk (aeL j).tr x=lk (aeL k).tr x:=λx=>by apply Option.ext;intro p;rw[(aeO.run j s).tree,(aeO.run k l).tree];simp only[B]
 have hr:∀id,(aeL j).r id=(aeL k).r id:=λid=>funext λi=>by rw[((aeO.run j s).cells (aeO.env s) id i).1,((aeO.run k l).cells (aeO.env l) id i).1];exact DQ (hp.map _)
 refine⟨funext λi=>?_,?_,?_⟩;rw[Bool.eq_iff_iff,(aeO.run j s).inn,(aeO.run k l).inn];simp only[B]
 ·have L:((aeL j).tr.map (·.1)).Perm ((aeL k).tr.map (·.1)):=(List.perm_ext_iff_of_nodup (aeO.run j s).led.tr.wf.keys (aeO.run k l).led.tr.wf.keys).2 λx=>by rw[<-og,<-og,C]
  have hl:eG (aeL j).tr=eG (aeL k).tr:=by refine CY (le:=λa b:Int=>decide (a<=b)) ((sW _).trans (L.trans (sW _).symm)) (vF (λa b c Q K=>by simp at*;omega) (λa b=>by simp;omega) _) (vF (λa b c Q K=>by simp at*;omega) (λa b=>by simp;omega) _) λa _ b _ Q K=>by simp at Q K;omega
  have X:∀id,(aeL j).p id=(aeL k).p id:=λid=>by unfold aG.p;rw[(aeO.run j s).shape.pa,(aeO.run k l).shape.pa,C]
  unfold cq;rw[hl];simp only[X,hr]
 have one:∀{a b:Nat} (ha:a<6) (E:b<6) (_:∀e,e∈J a↔e∈J b) {d g},lk (aeL a).gr d=some g->lk (aeL b).gr d=some g:=λ{a b} ha E hab {d g} hg=>by
  obtain⟨⟨t,C,t3,rfl,b1,b2,b3,b4⟩,f1,f2⟩:=((aeO.run a ha).grants).1 d g hg;obtain⟨F,v,c1,c2⟩:=((aeO.run b E).grants).2.1 t ((hab t).1 C) t3;obtain⟨⟨t',-,-,e1,d1,d2,d3,d4⟩,f3,f4⟩:=((aeO.run b E).grants).1 _ F v;rw[v];congr 1;have e2:t'.o=t.o/\t'.r=t.r:=by injection e1 with x y;exact⟨x.symm,y.symm⟩
  have R:F.b=g.b:=by
   by_cases w:g.b=0
   ·by_cases z':F.b=0;rw[w,z'];obtain⟨y,A,u,G⟩:=f4 z';have:=f1 y ((hab y).2 A) u G;have:=z0 ((aeO.run b E).may y A).1 u;omega
   obtain⟨y,A,u,G⟩:=f2 w;rw[f1 y A u G,f3 y ((hab y).1 A) u G]
  obtain⟨go,β,gn,ga,gb⟩:=g;obtain⟨γ,α,ζ,ε,δ⟩:=F;simp only at b1 b2 b3 b4 c1 c2 d1 d2 d3 d4 R;simp only[cI.mk.injEq];omega
 have W:∀d,lk (aeL j).gr d=lk (aeL k).gr d:=λd=>by apply Option.ext;intro g;exact⟨one s l B,one l s λe=>(B e).symm⟩
 have P:=yO (aeO.run j s).shape.gd (aeO.run k l).shape.gd W;refine Ke (λx hx=>((aeO.run k l).led.gk x hx).1) (aeO.run k l).shape.gd ((P.symm.map _).trans (pU _ _).symm) ?_;exact vF Ka Kb _
end
def mm(f:Nat->Int):Nat->Int
 |0=>0
 |k+1=>mm f k+f k
def nz(f:Nat->Int):Nat->Int
 |0=>0
 |k+1=>nz f k+(f (6+k)-f (12+k))
def eL(f:Nat->Int):Int×Int:=if ie f then(mm f 6,nz f 6)else(0,0)
def FB(h:ie f=true):∀k,k<6->(0<=f k/\f k<=1125899906842624)/\(0<=f (6+k)/\f (6+k)<=1125899906842624)/\(0<=f (12+k)/\f (12+k)<=1125899906842624):=λk d=>by
 unfold ie at h;simp only[bZ,lZ]at h;have c:=h.1 k (rq.2 d);unfold qy at c;simp only[bZ]at c;have b:=c.1;unfold mj fL at b;simp only[bZ]at b;have e:(iw f k).all lP=true:=by have:=b.1;split at this;assumption;cases this
 have g:(fU f k).all lP=true:=by have:=b.2;split at this;assumption;cases this
 simp only[iw,fU,List.all_cons,List.all_nil,bZ,lP,eN]at e g;omega
def KD(f:Nat->Int):(eL f).2+(cS f 0+cS f 1+cS f 2+cS f 3+cS f 4+cS f 5)=(eL f).1/\∀k,k<6->0<=cS f k:=by
 cases h:ie f with
 |false=>
  have c:∀k,cS f k=0:=λk=>by unfold cS;rw[h];rfl
  unfold eL;rw[h];simp[c]
 |true=>have L:=λk b=>Dv h (k:=k) b;refine⟨?_,λk b=>by rw[(L k b).1];exact(L k b).2.1⟩;unfold eL;rw[av h,(L 0 V).1,(L 1 V).1,(L 2 V).1,(L 3 V).1,(L 4 V).1,(L 5 V).1];simp only[pA,mm,nz,Nat.reduceAdd,Nat.reduceMul,nV,oU];omega
def FF(h:ie f=true):∀k,k<=6->0<=mm f k/\mm f k<=k*1125899906842624/\-(k*1125899906842624:Int)<=nz f k/\nz f k<=k*1125899906842624:=by
 intro k
 induction k with
 |zero=>intro _;simp[mm,nz]
 |succ k ih=>intro c;have d:=ih V;have b:=FB h k V;unfold mm nz;omega
def Xs(f:Nat->Int)(w:D):Calls prog 38 #[.agg (aw f)] w λr y=>r=.returned (.tuple #[Z (eL f).1,Z (eL f).2])/\S w y:=by
 obtain⟨b,p⟩:=aM (ie f);have A:=U (Bh f b p);replace p:=U p;go_in;go_upto_region 1 with fail;have e:aI w _ [(w.heap.size,50,aw f)]:=(aI.nil w).push (t:=50) (cs:=aw f) O;generalize w.alloc _=W at e⊢;have E:=i9 (e.blk _ _ _ cz).rng;go_wp2_with fail;apply(A.o _).mono;rintro r G ⟨rfl,c⟩;have h:=e.call c;clear e c E;rcases(show b=false\/b=true from by cases b<;>simp)with rfl|rfl
 ·go_wp2;go_ret2;exact⟨by unfold eL;rw[p.o];rfl,h.below⟩
 go_wp2;go_loopw [8,2,3] (λi l u wr=>∃k:Nat,k<=6/\i=Z k/\l=Z (mm f k)/\u=Z (nz f k)/\aI w wr [(w.heap.size,50,aw f)]) (λi _ _ _=>6-(intOf i).toNat);exact⟨0,V,O,O,O,h⟩;obtain⟨k,J,rfl,rfl,rfl,T⟩:=hrel;clear h;by_cases g:k<6
 ·have v:decide ((k:Int)<6)=true:=by simp;omega
  have K:(0:Int)<=(k:Int):=V;have R:(k:Int)<6:=V;obtain⟨C,-,-⟩:=T.rules;have c0:=ia f k V;have P:=ia f (6+k) V;have Q:=ia f (12+k) V;have F:=U T;clear T;have s:=FF p.o (k+1) V;have B:=FB p.o k g;have X:IntKind.i64.wrap (mm f k+f k)=mm f (k+1):=bS _ (by unfold mm at s;omega);have L:IntKind.i64.wrap (f (6+k)-f (12+k))=f (6+k)-f (12+k):=bS _ V;have e3:IntKind.i64.wrap (nz f k+(f (6+k)-f (12+k)))=nz f (k+1):=bS _ (by unfold nz at s;omega);clear s B;go_upto_region 7 with fail;go_region;go_wp2;go_roundw
  ·exact⟨k+1,V,by go_num,O,O,F.o.drew⟩
  simp[intOf];omega
 obtain rfl:k=6:=V;have v:decide (((6:Nat):Int)<6)=false:=ai;go_wp2;go_ret2;exact⟨by unfold eL;rw[p.o];rfl,T.below⟩
