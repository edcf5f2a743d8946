import Derived.Test.YtemcfhlbmhbjeaaGreatDoorZ21
set_option maxRecDepth 100000
set_option maxHeartbeats 0
set_option linter.all false
namespace Go.Proofs.YtemcfhlbmhbjeaaGreatDoor
open Go.Proofs.Tryz
variable{w:D}{k n r c j bu bn:Nat}{s:aV}{p:bJ}{now:Int}{L:List z}{A:Option Addr}{R:List aV}{e:z}
open Go Go.RowKit
@[go_sem ↓ high] def aa5:=@lz 175
@[go_sem] theorem acv(x:z)(w:D):(ke 175 (.agg (aj x))).run prog w=.ok (.value (bh w.heap.size 1 1)) (w.alloc (.cells (aj x) 64)):=Y
def bM.brows{l:List Int}(h:bM w A l c):kD w w.heap.size A l:=λa=>by obtain⟨b,o,m,rfl,d,f⟩:=h.blk a;exact⟨b,o,O,d.lt,λi x g=>by rw[d.cell];exact f i x g⟩
def vd(l:List Int):Prop:=me l 0=(jm l 0,(l.length:Int),0)
def XS(w:D)(R:List aV)(r:Ending)(w':D):Prop:=∃u L,∃b:Bool,r=.returned (.tuple #[u,.bool b])/\fS w' w.heap.size u L/\(∀e∈L,e.ok)/\((∀x∈R,vd x.l)->b=true/\L=R.map λx=>jm x.l 0)/\S w w'
def P4{base:Nat}{v:H}(h:jL w base v R)(hr:lu w R)(hn:R.length<=900000):Calls prog 60 #[v] w (XS w R):=by
 obtain⟨A,c,rfl,ξ,η⟩:=h.sl;have ι:c<=9223372036854775807:=η;have F:=aB h hr;clear h hr;go_wp2;go_loopw [2,11] (λv2 θ wr=>∃(k:Nat) (L:List z),k<=R.length/\L.length=k/\θ=Z k/\fS wr w.heap.size v2 L/\(∀e∈L,e.ok)/\L=((R.take k).map λx=>jm x.l 0)/\S w wr) (λ_ v _=>R.length-(intOf v).toNat);exact⟨0,[],gM _,O,O,Row.nil,ah,O,aq _ _⟩;obtain⟨k,L,hk,Q,rfl,C,i,f,G⟩:=hrel;by_cases α:k<R.length
 ·have hd:=cO ((k:Int)<R.length);obtain⟨y,X⟩:∃y,R[k]? =some y:=⟨R[k],bY α⟩;obtain⟨g,rfl,μ,δ⟩:=jL.at_ (Row.call F.o.1 G) X;have d:=(F.o.2 y (cX X)).call G;have CT:=U (WV y.A y.c y.l wr.heap.size 0 wr d.brows (ao _) d.le d.max d.by_ V V);obtain⟨E,hE⟩:=aM (me y.l 0);rw[hE]at CT;have a:=U (ar C (ar i (ar f (ar G (ar X (ar hE Q))))));clear C i f G X d hE Q;go_wp2_with fail;apply CT.o.mono;rintro r w1 ⟨rfl,W⟩;obtain⟨T,κ,B2,D2,z2⟩:=ux E.1 w1;have ν:=gj B2;have b:=aP W B2 D2;clear W B2 D2 CT δ;by_cases u:E.2.2=0
  ·have γ:(E.2.2==0)=true:=by simp[u]
   by_cases P:E.2.1=y.l.length
   ·have β:(E.2.1==(y.l.length:Int))=true:=by simp[P]
    obtain⟨v',w',k1,k2,k3,k4,-⟩:=fS.app (cap:=1) 175 (w:=T.alloc (.cells (aj E.1) 64)) (B:=T.heap.size+1) (aeL:=[E.1]) (A:=some (I T.heap.size 0)) (Row.call (Row.call (Row.call a.o.1 b.o.1) b.o.2.2) ((aq _ _).alloc (ao _) _)) (jn l9 (M.new _ _ _)) (by have:=a.o.2.2.2.2.2.2;simp;omega) (by have:=b.o.2.2.size;have:=b.o.1.size;have:=a.o.2.2.2.1.size;simp;omega);simp only[dN,g8,cA]at k1;rw[z2]at k1;go_wp2_with fail;have J:=a.o.2.2.2.1.size;have ζ:=b.o.1.size;have K:S w w':=((a.o.2.2.2.1.trans (b.o.1.mono J)).trans (b.o.2.2.mono V)).trans ((((aq T.heap.size T).alloc (ao _) _).mono (aA b.o.2.2.size)).trans k3.below);have t:E=(jm y.l 0,91,0)/\(jm y.l 0).ok:=by
     have ε:=((F.o.2 y (cX a.o.2.2.2.2.1)).by_);have m:=a.o.2.2.2.2.2.1;unfold me at m;rw[al V]at m;by_cases h7:(y.l.length:Int)-0<91
     ·rw[av h7]at m;rw[<-m]at u;cases u
     rw[al h7]at m;by_cases h8:bG (jm y.l (0:Int).toNat)=true;rw[av h8]at m;exact⟨m.symm,KC y.l 0 V ε⟩;rw[al h8]at m;rw[<-m]at u;cases u
    have HK:=aP k2 K t;clear k2 k3 k4 K t J ζ;go_roundw
    ·obtain⟨q1,q2,q3,q4⟩:=HK.o;rw[q3]at P q1;refine⟨k+1,L++[jm y.l 0],V,by simp[a.o.2.2.2.2.2.2],by go_num,q1,λe he=>?_,?_,q2⟩;rcases bP.1 he with he|he;exact a.o.2.1 e he;rw[dd.1 he];exact q4;rw[gP,a.o.2.2.2.2.1,jh,<-a.o.2.2.1];rfl
    simp[intOf];omega
   have β:(E.2.1==(y.l.length:Int))=false:=az P;go_wp2;go_ret2;exact⟨_,[],false,O,Row.nil,ah,(λh=>by have:=h y (cX a.o.2.2.2.2.1);unfold vd at this;rw[a.o.2.2.2.2.2.1]at this;rw[this]at P;exact absurd O P),((a.o.2.2.2.1.trans (b.o.1.mono a.o.2.2.2.1.size)).trans (b.o.2.2.mono (cF b.o.1.size a.o.2.2.2.1.size)))⟩
  have γ:(E.2.2==0)=false:=az u;go_wp2;go_ret2;exact⟨_,[],false,O,Row.nil,ah,(λh=>by have:=h y (cX a.o.2.2.2.2.1);unfold vd at this;rw[a.o.2.2.2.2.2.1]at this;rw[this]at u;exact absurd O u),((a.o.2.2.2.1.trans (b.o.1.mono a.o.2.2.2.1.size)).trans (b.o.2.2.mono (cF b.o.1.size a.o.2.2.2.1.size)))⟩
 obtain rfl:k=R.length:=V;have hd:=cP ((R.length:Int)<R.length);have a:=cQ C i f G;clear C i f G;go_wp2;go_ret2;have C:=a.o.2.2.1;rw[jt]at C;exact⟨_,L,true,O,a.o.1,a.o.2.1,λ_=>⟨O,C⟩,a.o.2.2.2⟩
abbrev oQ(w:D)(u r j:Nat)(a:Bool):Prop:=M w u 108 #[N r,N j,.bool a]
def eP(L:List z):List Int:=da (L.map fT)
def GA(w:D)(u r j d:Nat)(F:Nat->Prop)(s:aV)(p:bJ)(L:List z)(x:Ending)(w':D):Prop:=∃e:Int,x=.returned (Z e)/\
 ((L=[]/\e=0/\S w w')\/(L≠[]/\∃(a:Int) (b:bJ) (G:Nat->Prop),oQ w' u r j (!(e==0))/\mD w' j d a (e==8)/\aa (λk=>F k\/k=j\/k=u) w w'/\(∀k,G k->F k\/(w.heap.size<=k/\k<w'.heap.size))/\
  ((e=0/\∃f:aV,bQ w' G d f f none b/\b.dark=false/\b.burning=p.burning/\f.l=s.l++eP L)\/(e≠0/\(b.dark=true->e=8)/\mE w' G d s b (aW.is (eP L))))/\(p.burning=false->s.l.length+99*L.length<=4194304->e=0)))
def RR(h:∀x∈R,x.l.length<=91):jI R<=99*R.length:=by
 induction R with
 |nil=>exact ao _
 |cons x R ih=>have d:=h x cz;have a:=ih λy b=>h y (dC _ b);unfold jI at a⊢;simp only[cW,gy,dN]at a⊢;omega
def Gn{u d:Nat}{π:Bool}{F:Nat->Prop}{a:Int}(hd:oQ w u r j π)(hk:bQ w F d s s none p)(hp:p.dark=false)(hj:mD w j d a false)(ζ:¬F j)(μ:¬F u)(η:u≠j){base:Nat}{v:H}(hL:fS w base v L)(ι:∀e∈L,e.ok)(hn:L.length<=64):
  Calls prog 234 #[N u,v] w (GA w u r j d F s p L):=by
 obtain⟨A,c,rfl,hc1,φ⟩:=hL.sl;have hcm:c<=9223372036854775807:=φ;have f:=U (ar hd (ar hk (ar hp (ar hj (ar ζ (ar μ (ar hL ι)))))));clear hd hk hp hj ζ μ hL ι;by_cases h0:L.length=0
 ·have hz:L=[]:=tS.1 h0;subst hz;clear h0;go_wp2;go_ret;exact⟨0,O,.inl ⟨O,O,aq _ _⟩⟩
 have hz:((L.length:Int)==0)=false:=by simp;intro h;rw[h]at h0;exact h0 O
 go_wp2;go_loopw [5,14] (λv5 ω wr=>∃(k:Nat) (R:List aV),k<=L.length/\R.length=k/\ω=Z k/\jL wr w.heap.size v5 R/\lu wr R/\((∀x∈R,x.l.length<=91)/\iv R=(L.take k).map fT)/\S w wr) (λ_ v _=>L.length-(intOf v).toNat);exact⟨0,[],gM _,O,O,Row.nil,λ_ h=>by(cases h),⟨ah,O⟩,aq _ _⟩;obtain⟨k,R,hk,T,rfl,hR,t,m,C⟩:=hrel;by_cases υ:k<L.length
 ·have hd:=cO ((k:Int)<L.length);obtain⟨y,hy⟩:∃y,L[k]? =some y:=⟨L[k],bY υ⟩;obtain⟨g,cap,hs,θ,ψ,Δ,Ω⟩:=f.o.2.2.2.2.2.2.1.sl_pos V;obtain⟨rfl,Γ⟩:A=some (I g 0)/\c=cap:=by injection hs with a b c;exact⟨a,c⟩
  have ξ:=(Row.call f.o.2.2.2.2.2.2.1 C).rng l9 hy;have Ψ:=eO (P:=prog) ξ underlying64 O (iQ y);obtain⟨W1,n,K,D1,z1⟩:=ux y wr;have hl2:=gj K;have CP:=U (Ys y (f.o.2.2.2.2.2.2.2 y (cX hy)) W1);have E:=js hR t m C D1 T;have τ:=U hy;have l1:=K.lt;clear hR t m C hy hs θ ψ Δ Γ ξ K D1 T z1;go_wp2_with fail;apply CP.o.mono;rintro x J ⟨vb,rfl,ho,γ⟩;obtain⟨Ab,cb,rfl,κ⟩:=bM.own ho (JT y);have β:=E.o.2.2.2.1.size;have δ:=E.o.2.2.2.2.1.size;have σ:=γ.size;have D3:S J (J.alloc (.cells (nA ⟨Ab,fT y,cb⟩) 150)):=(aq _ _).alloc (ao _) _;have hD:S wr (J.alloc (.cells (nA ⟨Ab,fT y,cb⟩) 150)):=(E.o.2.2.2.2.1.trans (γ.mono δ)).trans (D3.mono V);obtain⟨v',w',k1,k2,k3,k4,-⟩:=jL.app (cap:=1) 172 (w:=J.alloc (.cells (nA ⟨Ab,fT y,cb⟩) 150)) (B:=J.heap.size+1) (aeL:=[⟨Ab,fT y,cb⟩]) (A:=some (I J.heap.size 0)) (Row.call E.o.1 hD) (jn zb (M.new _ _ _)) (by have:=E.o.2.2.2.2.2;simp;omega) aQ;simp only[dN,g8,cA]at k1;have ν:S w w':=(E.o.2.2.2.1.trans (hD.mono β)).trans k3.below;have ε:lu w' (R++[⟨Ab,fT y,cb⟩]):=λx hx=>by rcases bP.1 hx with hx|hx;exact((E.o.2.1 x hx).call hD).kt k3 ai;rw[dd.1 hx];exact(κ.call D3).kt k3 ai
  have HK:=aP k2 ε ν;have χ:=IX y;have Θ:=KS ⟨Ab,fT y,cb⟩ J;clear k2 k3 k4 ε ν κ ho D3 hD γ β δ σ CP;go_wp2;go_roundw
  ·refine⟨k+1,R++[⟨Ab,fT y,cb⟩],V,by simp[E.o.2.2.2.2.2],by go_num,HK.o.1,HK.o.2.1,⟨λx hx=>?_,?_⟩,HK.o.2.2⟩;rcases bP.1 hx with hx|hx;exact E.o.2.2.1.1 x hx;rw[dd.1 hx];exact χ;rw[gP,τ.o,jh,<-E.o.2.2.1.2];unfold iv;rw[jh];rfl
  simp[intOf];omega
 obtain rfl:k=L.length:=V;have hd:=cP ((L.length:Int)<L.length);have CA:=U (YD (f.o.2.1.call C) f.o.2.2.1 (M.call f.o.2.2.2.1 C) f.o.2.2.2.2.1 hR t (λx hx=>aZ (m.1 x hx) V) V V);have hf:=RR m.1;rw[T,<-Db,m.2,jt]at hf;rw[m.2,jt]at CA;have K:=M.call f.o.1 C;obtain⟨q0,f0⟩:=K.rules;have E:=aP C hf K;clear hR t m C T hf K;go_wp2_with fail;apply CA.o.mono;rintro x J ⟨W,G,hG,e,a2,p2,rfl,X,Q,hl⟩;have B2:=W.blk E.o.2.2 (λh=>by rcases h with h|h;exact f.o.2.2.2.2.2.1 h;exact η h);obtain⟨q1,f1⟩:=B2.rules;have l1:=B2.lt;have HY:=js W hG X Q hl B2;clear W hG X Q hl B2 q0 f0 CA;go_wp2;go_ret;obtain⟨C,hf,K⟩:=E.o;obtain⟨W,hG,X,Q,hl,B2⟩:=HY.o;have β:=C.size;have δ:=W.size;have hul:=K.lt;have Φ:=f.o.1.lt;have m3:aa (aR u) J (J.setCell ⟨u,2,none⟩ (.bool (e !=0))):=aa.set ⟨u,2,none⟩ (show aR u u from O) _;have Ξ:=m3.size;have hs4:(J.setCell ⟨u,2,none⟩ (.bool (e !=0))).heap.size=J.heap.size:=ah;have α:dJ G (aR u):=λi hq hu=>by have hu:i=u:=hu;subst hu;rcases hG i hq with h|h;exact f.o.2.2.2.2.2.1 h;omega
 refine⟨e,O,.inr ⟨λh=>by rw[h]at h0;exact h0 O,a2,p2,G,B2.set_ 2 _,m3.blk X (λh=>η (show j=u from h).symm),⟨m3.os.trans (W.os.trans C.os),m3.tape.trans (W.tape.trans C.tape),m3.output.trans (W.output.trans C.output),V,λi hq hF=>?_⟩,λi hq=>?_,?_,λhb h9=>hl hb V⟩⟩
 ·rw[m3.block i V λh=>hF (.inr (.inr h)),W.block i V λh=>by rcases h with h|h;exact hF (.inl h);exact hF (.inr (.inl h)),C.block i hq]
 rcases hG i hq with h|h;exact .inl h;exact .inr ⟨V,V⟩;rcases Q with⟨h1,s',h2,h3,h4,h5⟩|⟨h1,h8,h2⟩;exact .inl ⟨h1,s',h2.mod m3 α,h3,h4,h5⟩;exact .inr ⟨h1,h8,h2.mod m3 α⟩
def jX(w:D)(F:Nat->Prop)(d:Nat)(s:aV)(p:bJ)(b:List Int):Prop:=(p.dark=false/\bQ w F d s s none p)\/(p.dark=true/\∃n a,bQ w F d s n a p/\∀x,a=some x->x.may s.l/\x.is b)
structure bO where
 R:bX
 r:Nat
 u:Nat
 j:Nat
 d:Nat
 a:Int
 br:Bool
 dead:Bool
 F:Nat->Prop
 pb:List Int
def bO.G(X:bO):Nat->Prop:=λa=>a=X.u\/a=X.j\/X.R.F X.r a\/X.F a
structure dq(w:D)(k:Nat)(X:bO)(n:Nat)(s:aV)(p:bJ):Prop where
 du:oQ w X.u X.r X.j X.dead
 re:cB w X.r k X.R n
 jo:mD w X.j X.d X.a X.br
 dk:jX w X.F X.d s p X.pb
 lv:X.dead=false->X.br=false
 uj:X.u≠X.j
 uF:¬X.F X.u
 jF:¬X.F X.j
 uR:¬X.R.F X.r X.u
 jR:¬X.R.F X.r X.j
 rF:dJ (X.R.F X.r) X.F
section
variable{w w':D}{k n:Nat}{X:bO}{s:aV}{p:bJ}{G F:Nat->Prop}{d:Nat}{b:List Int}
def jX.inh(h:jX w F d s p b):jP F w:=by rcases h with⟨-,h⟩|⟨-,m,a,h,-⟩;exact h.inh;exact h.inh
def jX.mod(h:jX w F d s p b)(m:aa G w w')(i:dJ F G):jX w' F d s p b:=by rcases h with⟨g,a⟩|⟨g,n,f,a,l⟩;exact .inl ⟨g,a.mod m i⟩;exact .inr ⟨g,n,f,a.mod m i,l⟩
def jX.of(h:mE w F d s p (aW.is b)):jX w F d s p b:=by rcases h with h|⟨f,-,n,a,i,g⟩;exact .inl h;exact .inr ⟨f,n,a,i,g⟩
def dq.inh(h:dq w k X n s p):jP X.G w:=λa hq=>by rcases hq with rfl|rfl|hq|hq;exact h.du.lt;exact M.lt h.jo;exact h.re.inh a hq;exact h.dk.inh a hq
def dq.mod(h:dq w k X n s p)(m:aa G w w')(g:dJ X.G G):dq w' k X n s p where
 du:=m.blk h.du λa=>g _ (.inl O) a
 re:=h.re.mod m λf i a=>g f (.inr (.inr (.inl i))) a
 jo:=m.blk h.jo λa=>g _ (.inr (.inl O)) a
 dk:=h.dk.mod m λf i a=>g f (.inr (.inr (.inr i))) a
 lv:=h.lv
 uj:=h.uj
 uF:=h.uF
 jF:=h.jF
 uR:=h.uR
 jR:=h.jR
 rF:=h.rF
def dq.call(h:dq w k X n s p)(a:S w w'):dq w' k X n s p:=h.mod (aa.of_below (F:=bC) a) λ_ _ h=>h
def dq.more{n':Nat}(h:dq w k X n s p)(a:n<=n'):dq w k X n' s p:=⟨h.du,h.re.more a,h.jo,h.dk,h.lv,h.uj,h.uF,h.jF,h.uR,h.jR,h.rF⟩
end
def dU(w:D)(k:Nat)(X:bO)(n':Nat)(w':D)(Q:bO->aV->bJ->Prop):Prop:=
 ∃b f g,dq w' k b n' f g/\(b.d=X.d/\b.u=X.u)/\aa X.G w w'/\(∀a,b.G a->X.G a\/w.heap.size<=a)/\Q b f g
section
variable{w w' w'':D}{k n n':Nat}{X:bO}{s:aV}{p:bJ}{Q:bO->aV->bJ->Prop}
def dU.same(h:dq w k X n s p)(a:S w w')(d:n<=n')(b:Q X s p):dU w k X n' w' Q:=⟨X,s,p,(h.call a).more d,⟨O,O⟩,aa.of_below a,λ_ h=>.inl h,b⟩
def dU.pre(b:S w w')(h:dU w' k X n' w'' Q):dU w k X n' w'' Q:=by obtain⟨t,d,l,m,g,u,i,o⟩:=h;refine⟨t,d,l,m,g,(aa.of_below b).trans u,λa f=>?_,o⟩;rcases i a f with h|h;exact .inl h;exact .inr (aZ b.size h)
def dU.trans{X1:bO}(b:X1.d=X.d/\X1.u=X.u)(m:aa X.G w w')(i:∀a,X1.G a->X.G a\/w.heap.size<=a)(h:dU w' k X1 n' w'' Q):dU w k X n' w'' Q:=by obtain⟨y,l,t,v,g,B,o,x⟩:=h;have C:=m.size;refine⟨y,l,t,v,⟨g.1.trans b.1,g.2.trans b.2⟩,m.trans' B λa f hF=>?_,λa f=>?_,x⟩;rcases i a hF with h|h;exact h;omega;rcases o a f with h|h;exact i a h;exact .inr V
def dU.imp{a:bO->aV->bJ->Prop}(h:dU w k X n' w' Q)(l:∀X' s' p',Q X' s' p'->a X' s' p'):dU w k X n' w' a:=by obtain⟨X',s',p',f,b,i,d,g⟩:=h;exact⟨X',s',p',f,b,i,d,l _ _ _ g⟩
def dU.own{w0:D}{b:Nat->Prop}(o:S w0 w)(h:dU w k X n' w' Q)(m:aa b w' w'')(i:∀g,b g->w0.heap.size<=g)(F:∀g,b g->g<w.heap.size)(E:∀g,b g->¬X.G g):dU w0 k X n' w'' Q:=by obtain⟨B,t,v,x,u,C,l,y⟩:=h;have J:=o.size;refine⟨B,t,v,x.mod m λa d f=>?_,u,((aa.of_below o).trans C).trans' m λa d f=>aA (i a f),λa d=>?_,y⟩;rcases l a d with h|h;exact E a f h;have:=F a f;omega;rcases l a d with h|h;exact .inl h;exact .inr V
end
def bX.tight(R:bX):bX:={R with FD:=λa=>a=R.dm\/a=R.mb\/∃x∈R.aeI,x.2=some a}
def cB.tight{R:bX}(h:cB w r k R n):cB w r k R.tight n/\(∀d,R.tight.F r d->R.F r d)/\∀d cs,R.tight.F r d->¬M w d 64 cs:=by
 have f:∀d,R.tight.FD d->R.FD d:=λd hq=>by rcases hq with rfl|rfl|⟨x,t,e⟩;exact h.dem.fd;exact h.dem.fm;obtain⟨Q,o,-,E⟩:=h.dem.els x t;rw[e]at o;injection o with o;exact o▸E
 have hF:∀d,R.tight.F r d->R.F r d:=λd hq=>by rcases hq with hq|hq|hq|hq|hq|hq;exact .inl hq;exact .inr (.inl hq);exact .inr (.inr (.inl hq));exact .inr (.inr (.inr (.inl hq)));exact .inr (.inr (.inr (.inr (.inl hq))));exact .inr (.inr (.inr (.inr (.inr (f d hq)))))
 have m:=h.ap;refine⟨⟨h.blk,h.led,h.ok,h.log,h.bs,h.hold,h.hok,h.peer,h.pok,⟨h.dem.blk,h.dem.map,λx t=>?_,h.dem.len,.inl O,.inr (.inl O),λd hq=>h.dem.inh d (f d hq)⟩,
  ⟨m.ab,m.ac,m.ad,m.ae,λd a b=>m.af d a (f d b),m.bc,m.bd,m.be,λd a b=>m.bf d a (f d b),m.cd,m.ce,λd a b=>m.cf d a (f d b),m.de,λd a b=>m.df d a (f d b),λd a b=>m.ef d a (f d b)⟩,h.cn,h.sn,h.k6,h.gs⟩,hF,λd cs hq l=>?_⟩
 obtain⟨d,e,G,-⟩:=h.dem.els x t;exact⟨d,e,G,.inr (.inr ⟨x,t,e⟩)⟩;rcases hq with rfl|hq|hq|hq|rfl|hq;exact absurd (M.type_eq l h.blk).1 ai;rcases hq with rfl|rfl|rfl|rfl|rfl|rfl|rfl;exact absurd (M.type_eq l h.led.blk).1 ai;exact absurd (M.type_eq l h.led.tre.blk).1 ai;exact h.led.tre.map.ne_blk l rfl;exact h.led.pa.ne_blk l rfl;exact h.led.ri.ne_blk l rfl;exact h.led.gr.ne_blk l rfl;exact h.led.qs.ne_blk l rfl
 ·rcases hq with rfl|⟨i,hi,e⟩;exact absurd (M.type_eq l h.log.blk).1 ai;change (R.v i).ownBlock=some d at e;rcases(h.log.row i hi).2 with⟨y,-⟩|⟨g,J,K,y,-,C,-⟩
  ·rw[y]at e;cases e
  rw[y]at e;injection e with e;subst e;exact absurd (M.type_eq l C).1 ai
 ·rcases hq with rfl|rfl;exact absurd (M.type_eq l h.hold.blk).1 ai;obtain⟨es,W,P,-⟩:=h.hold.map.ex;have u:w.heap[R.hm]? =_:=l;rw[P]at u;cases u
 exact absurd (M.type_eq l h.peer).1 ai;rcases hq with rfl|rfl|⟨x,t,e⟩;exact absurd (M.type_eq l h.dem.blk).1 ai;exact h.dem.map.ne_blk l rfl;obtain⟨Q,o,⟨n1,a1,X,T,B,-⟩,-⟩:=h.dem.els x t;rw[e]at o;injection o with o;subst o;exact absurd (M.type_eq l B).1 ai
def gH.since{i g W:D}{B:Nat}{R:bX}{m':aG}{l:Nat->Prop}(h:gH i r k R n m' g)(s:fB [64] l B g W)(hF:∀a,¬l a):
  ∃b,cB W r k b n/\(b.m=m'/\b.aeJ=R.aeJ/\b.gn=R.gn)/\(∀a,b.F r a->R.F r a\/i.heap.size<=a)/\∀a cs,b.F r a->¬M W a 64 cs:=by
 obtain⟨b,E,y,-,C⟩:=h;obtain⟨x,u,v⟩:=E.tight;have o:=x.mod (G:=λa=>∃cs,M g a 64 cs) (w':=W) ⟨s.os,s.tape,s.output,s.size,λa d J=>by rcases s.block a d with h|⟨-,⟨cs,t,K,f⟩,-⟩|h;exact h;rw[dd.1 K]at f;exact absurd ⟨cs,f⟩ J;exact absurd h (hF a)⟩ (λa d ⟨cs,f⟩=>v a cs d f);exact⟨b.tight,o,y,λa d=>C a (u a d),o.tight.2.2⟩
def dq.kept{y x:D}{X:bO}(h:dq w k X n s p)(P:S w y){e:Int}(Q:GA y X.u X.r X.j X.d X.F s p L (.returned (Z e)) x)(hL:L≠[]):
  dU w k X n x (λC m J=>C.R=X.R/\((e=0/\C.dead=false/\J.dark=false/\J.burning=p.burning/\m.l=s.l++eP L)\/(e≠0/\C.dead=true/\m.l=s.l/\(J.dark=true->e=8)/\(J.dark=true->C.pb=eP L)))/\(p.burning=false->s.l.length+99*L.length<=4194304->e=0)):=by
 obtain⟨e',v,Q⟩:=Q;injection v with v;injection v with _ v;subst v;rcases Q with⟨i,-⟩|⟨-,a2,B,W,hu,hj,hm,E,hd,hl⟩;exact absurd i hL;have hs:=P.size;have h1:=h.call P;have o:=h.inh;have α:=o X.u (.inl O);have β:=o X.j (.inr (.inl O));have t:dJ (X.R.F X.r) (λb=>X.F b\/b=X.j\/b=X.u):=λb hq hF=>by rcases hF with hF|rfl|rfl;exact h.rF b hq hF;exact h.jR hq;exact h.uR hq
 have key:∀(T:aV),jX x W X.d T B (eP L)->dq x k {X with a:=a2,br:=(e==8),dead:= !(e==0),F:=W,pb:=eP L} n T B:=λT hw=>
  ⟨hu,h1.re.mod hm t,hj,hw,λg=>by
   have g:(!(e==0))=false:=g;have:e=0:=az g;subst this;rfl,h.uj,λhq=>by
   rcases E _ hq with h'|h';exact h.uF h';have h':y.heap.size<=X.u:=h'.1;omega,λhq=>by
   rcases E _ hq with h'|h';exact h.jF h';have h':y.heap.size<=X.j:=h'.1;omega,h.uR,h.jR,λb hq hF=>by
   rcases E b hF with h'|h';exact h.rF b hq h';have:=h.re.inh b hq;omega⟩
 have f:∀b,bO.G {X with a:=a2,br:=(e==8),dead:= !(e==0),F:=W,pb:=eP L} b->X.G b\/w.heap.size<=b:=λb hq=>by rcases hq with hq|hq|hq|hq;exact .inl (.inl hq);exact .inl (.inr (.inl hq));exact .inl (.inr (.inr (.inl hq)));rcases E b hq with h'|h';exact .inl (.inr (.inr (.inr h')));exact .inr V
 have hM:aa X.G w x:=(aa.of_below P).trans (hm.mono λb hq=>by rcases hq with hq|hq|hq;exact .inr (.inr (.inr hq));exact .inr (.inl hq);exact .inl hq);rcases hd with⟨i,m,K,k2,k3,k4⟩|⟨i,h8,K⟩;exact⟨_,m,B,key m (.inl ⟨k2,K⟩),⟨rfl,rfl⟩,hM,f,rfl,.inl ⟨i,by simp[i],k2,k3,k4⟩,hl⟩;exact⟨_,s,B,key s (jX.of K),⟨O,O⟩,hM,f,O,.inr ⟨i,by simp[i],O,h8,λ_=>rfl⟩,hl⟩
def bX.ext(R:bX)(E:z):bX:={R with gn:=λe=>R.gn e\/(e=E/\E≠z.zero)}
def su(b:z->Prop)(E:z)(a:Int)(m':aG)(s:aV)(p:bJ)(aeL:z)(e:Int)(X':bO)(s':aV)(p':bJ):Prop:=
 (X'.R.m=m'/\∀y,X'.R.gn y->b y\/(y=E/\E≠z.zero))/\((E=z.zero/\aeL=z.zero/\e=a/\X'.dead=false/\p'.dark=false/\s'=s/\p'=p)\/
  (E≠z.zero/\((e=0/\aeL=E/\X'.dead=false/\p'.dark=false/\p'.burning=p.burning/\s'.l=s.l++eP [E])\/(e≠0/\aeL=z.zero/\X'.dead=true/\s'.l=s.l/\(p'.dark=true->e=8)/\(p'.dark=true->X'.pb=eP [E])))/\(p.burning=false->s.l.length+99<=4194304->e=0)))
def XF(w:D)(k:Nat)(X:bO)(n f:Nat)(a:z×Int×aG)(s:aV)(p:bJ)(x:Ending)(w':D):Prop:=∃(e:Int) (b:z) (d:D),x=.returned (Z e)/\M w' f 64 (aj b)/\dU w k X (n+1) d (su X.R.gn a.1 a.2.1 a.2.2 s p b e)/\aa (aR f) d w'
def WX{X:bO}(h:dq w k X n s p)(hl:X.dead=false)(hp:p.dark=false)(hn:n+1<=900000)(hT:dr w){a:dT}(ha:a.ok)(π:bo now){ba C:Nat}
  (hB:ax w [(C,64,aj z.zero),(bn,31,#[q now]),(ba,55,bE a),(bu,82,#[N X.u])]) (hN:∀g,(g=C\/g=bn\/g=ba\/g=bu)->¬X.G g):
  Calls prog 232 #[N bu,N ba,N bn,N C] w (XF w k X n C (bB X.R.m k a) s p):=by
 have υ:∀f,X.R.F X.r f->f<w.heap.size:=λf hq=>h.re.inh f hq;have α:∀f,X.R.F X.r f->X.G f:=λf hq=>.inr (.inr (.inl hq));have B0:ax w [(C,64,aj z.zero),(bn,31,#[q now]),(ba,55,bE a),(bu,82,#[N X.u]),(X.u,108,#[N X.r,N X.j,.bool X.dead])]:=λg t cs hm=>by simp only[dh,sO,lE]at hm;rcases hm with e|e|e|e|e;exact hB _ _ _ (by simp[e]);exact hB _ _ _ (by simp[e]);exact hB _ _ _ (by simp[e]);exact hB _ _ _ (by simp[e]);cases e;exact h.du
 have β:kC (X.R.F X.r) [(C,64,aj z.zero),(bn,31,#[q now]),(ba,55,bE a),(bu,82,#[N X.u]),(X.u,108,#[N X.r,N X.j,.bool X.dead])]:=
  ⟨λhq=>hN C (.inl O) (α _ hq),λhq=>hN bn (.inr (.inl O)) (α _ hq),λhq=>hN ba (.inr (.inr (.inl O))) (α _ hq),λhq=>hN bu (.inr (.inr (.inr O))) (α _ hq),h.uR,trivial⟩
 have HF:=U (λ(B:D) (hb:aa (X.R.F X.r) w B)=>ar (B0.mod hb β).rules (ar (B0.mod hb β).lts (uW (B0.mod hb β).drop.drop.head)));have CA:=U (λ(B:D) (hb:S w B)=>XY ((h.re.gmono (g:=λy=>X.R.gn y\/(y=(bB X.R.m k a).1/\(bB X.R.m k a).1≠z.zero)) λy i=>.inl i).call hb) hn (hT.call' hb) ha π λhE=>.inr ⟨O,hE⟩);have κ:=U υ;have HQ:=U (tc h.re.ok h.re.k6 ha);have χ:=U (show(bB X.R.m k a).1=z.zero->(bB X.R.m k a).2.2=X.R.m from λP=>by
  unfold bB at P⊢;split;rfl;split
  ·rename_i h1 h2;rw[al h1,av h2]at P;have P:dn X.R.m k a=z.zero:=P;have:=bH z.o P;have:(k:Int)+1=0:=this;omega
  rfl)
 have HH:=U (And.intro h (And.intro B0 (And.intro hN (And.intro hl hp))));clear h hT ha hB B0 β υ α hN hl hp;generalize bB X.R.m k a=f at HQ χ CA⊢;obtain⟨E,er,m'⟩:=f;dsimp only[tC]at CA HQ χ⊢;go_in;go_wp2_with fail;refine dL [64] (X.R.F X.r) 6 κ.o Y Y ?_
 iterate 6 refine gx HF.o ?_
 refine jl (λ_=>rfl) O 233 (λ_=>#[N X.r,.agg (bE a),q now]) (λ_:Unit=>.tuple #[.agg (aj E),Z er]) () (λB _ Y'=>gH B X.r k (X.R.ext E) (n+1) m' Y') cK (λ_ B hb=>?ca2) ?_
 case ca2=>refine(CA.o B hb).mono ?_;rintro r Y' ⟨rfl,h1⟩;obtain⟨K,q1,q2,q3,q4⟩:=h1;exact⟨(),O,⟨K,q1,q2,q3,q4⟩,q3⟩
 simp only[aD]
 iterate 3
  refine kU O ?_;simp only[aD]
 refine ng (λ_=>rfl) 64 (aj z.zero) nK ?_;simp only[aD];refine o8 (λ_=>rfl) 10 64 64 14 _ _ O ai O ah κ.o _ _ _ (λ_=>rfl) (λ_=>rfl) cD (iQ z.zero) (λ_=>rfl) (λ_=>wN _) ?_;simp only[aD]
 iterate 1
  refine kU O ?_;simp only[aD]
 refine cT Y ?_;rintro⟨⟨_,_⟩,v⟩ Q hC hR;replace hC:aa (X.R.F X.r) w Q:=hC;dsimp only;simp only[d8,Nat.reduceAdd,Nat.zero_add]at hR;obtain⟨w1,w2,Γ,-,g3,g4⟩:=fK (hR 6 _ _ cD) O;obtain⟨g,v',hx,n6,B6⟩:∃g v',[v,Value.agg (aj E)]=[N g,v']/\w.heap.size<=g/\M Q g 64 (Value.toArr v'):=hR 11 _ _ cD;injection hx with h6 ζ;injection ζ with ζ;subst h6 ζ;replace B6:M Q g 64 (aj E):=B6;obtain⟨K,r1,⟨r2,r3⟩,r4,r5⟩:=g3.since g4 λ_ h=>h.1 O;have θ:=U (show K.gn=(X.R.ext E).gn from r3.2);have Ξ:=(Γ O).size;have l:=HH.o.1;have T:∀f,K.F X.r f->X.R.F X.r f\/w.heap.size<=f:=λf hq=>by rcases r4 f hq with h|h;exact .inl h;exact .inr V
 have δ:=l.inh;have c:=δ X.u (.inl O);have hj:=δ X.j (.inr (.inl O));have D1:dq Q k {X with R:=K} (n+1) s p:=
  ⟨hC.blk l.du l.uR,r1,hC.blk l.jo l.jR,l.dk.mod hC l.rF.symm,l.lv,l.uj,l.uF,l.jF,λhq=>by
   rcases T _ hq with h|h;exact l.uR h;have h:w.heap.size<=X.u:=h;omega,λhq=>by
   rcases T _ hq with h|h;exact l.jR h;have h:w.heap.size<=X.j:=h;omega,λf hq hF=>by
   rcases T _ hq with h|h;exact l.rF f h hF;have:=l.dk.inh f hF;omega⟩
 have W:∀f,bO.G {X with R:=K} f->X.G f\/w.heap.size<=f:=λf hq=>by rcases hq with hq|hq|hq|hq;exact .inl (.inl hq);exact .inl (.inr (.inl hq));rcases T _ hq with h|h;exact .inl (.inr (.inr (.inl h)));exact .inr h;exact .inl (.inr (.inr (.inr hq)))
 have ε:∀b,(b=C\/b=bu)->¬X.R.F X.r b:=λb hb hq=>HH.o.2.2.1 b (by rcases hb with rfl|rfl<;>simp) (.inr (.inr (.inl hq)));have Bm:=hC.blk (HH.o.2.1 _ _ _ (cz)) (ε C (.inl O));have Bu:=hC.blk (HH.o.2.1 bu 82 #[N X.u] ah) (ε bu (.inr O));have ι:aa X.G w Q:=hC.mono λf hq=>.inr (.inr (.inl hq));have Θ:=(HH.o.2.1 C _ _ (cz)).lt;have μ:¬bO.G {X with R:=K} g:=λhq=>by rcases hq with hq|hq|hq|hq;have hq:g=X.u:=hq;omega;have hq:g=X.j:=hq;omega;exact r5 g _ hq B6;have:=l.dk.inh g hq;omega
 have ω:¬bO.G {X with R:=K} C:=λhq=>by rcases W _ hq with h|h;exact HH.o.2.2.1 C (.inl rfl) h;omega
 have J:=U (ar D1 (ar W (ar Bm (ar Bu (ar B6 (ar ι r2))))));have HG:=aB μ ω;have ν:=gj B6;obtain⟨q0,f0⟩:=Bu.rules;clear hC hR Γ g3 g4 n6 B6 r1 r2 r3 r4 r5 μ ω Θ Ξ l T δ c hj D1 W ε Bm Bu ι HF CA;by_cases P:E=z.zero
 ·have Φ:decide (E=z.zero)=true:=by simp[P]
  have HZ:=U P;clear P;go_wp2;go_ret;exact⟨er,z.zero,Q,O,J.o.2.2.1,⟨{X with R:=K},s,p,J.o.1,⟨O,O⟩,J.o.2.2.2.2.2.1,J.o.2.1,⟨J.o.2.2.2.2.2.2,λy i=>by have i:K.gn y:=i;rw[θ.o]at i;exact i⟩,.inl ⟨HZ.o,O,O,HH.o.2.2.2.1,HH.o.2.2.2.2,O,O⟩⟩,aa.refl⟩
 have Φ:decide (E=z.zero)=false:=by simp[P]
 go_wp2_with fail;have D2:S Q (Q.alloc (.cells (aj E) 64)):=(aq _ _).alloc (ao _) _;have X2:=J.o.1.call D2;obtain⟨ξ,τ⟩:bQ (Q.alloc (.cells (aj E) 64)) X.F X.d s s none p/\p.dark=false:=by rcases X2.dk with h|h;exact⟨h.2,h.1⟩;rw[HH.o.2.2.2.2]at h;cases h.1
 have σ:mD (Q.alloc (.cells (aj E) 64)) X.j X.d X.a false:=by have:=X2.jo;rw[X2.lv HH.o.2.2.2.1]at this;exact this
 have CK:=U (Gn X2.du ξ τ σ X2.jF X2.uF X2.uj (Row.lit (base:=Q.heap.size) (l9 E) (M.new Q 64 (aj E)) (ao _)) (L:=[E]) (λx hx=>by rw[dd.1 hx];exact HQ.o.2.2) ah);have Δ:=U D2;have HZ:=U P;clear D2 X2 ξ τ σ P ν q0 f0;go_wp2_with fail;apply CK.o.mono;rintro x W3 hk;obtain⟨e,rfl⟩:∃e,x=.returned (Z e):=⟨hk.choose,hk.choose_spec.1⟩;have ψ:=J.o.1.kept Δ.o hk ah;have hT:=dU.trans (X:=X) (X1:={X with R:=K}) ⟨O,O⟩ J.o.2.2.2.2.2.1 J.o.2.1 ψ;obtain⟨X3,A,p3,-,-,η,-,-⟩:=ψ;have γ:=η.blk J.o.2.2.1 HG.o.2;have φ:=η.blk J.o.2.2.2.2.1 HG.o.1;have ν:=gj φ;have Ψ:=jG γ O E;have HY:=aB hT γ;clear hk hT η γ φ CK X3 A p3;by_cases he:e=0
 ·subst he;have HS:=aB (dt HY.o.2 (aj E)) (fl W3 C (aj E));go_wp2;go_ret;refine⟨0,E,W3,O,HS.o.1,HY.o.1.imp λX' s' p' hq=>?_,aa.of_fr1 HS.o.2 O⟩;refine⟨⟨(bH bX.m hq.1).trans J.o.2.2.2.2.2.2,λy i=>by rw[hq.1]at i;have i:K.gn y:=i;rw[θ.o]at i;exact i⟩,.inr ⟨HZ.o,.inl ⟨O,O,?_⟩,λ_ _=>rfl⟩⟩;rcases hq.2.1 with h|h;exact⟨h.2.1,h.2.2.1,h.2.2.2.1,h.2.2.2.2⟩;exact absurd O h.1
 have Ω:(e==0)=false:=az he;go_wp2;go_ret;refine⟨e,z.zero,W3,O,HY.o.2,HY.o.1.imp λX' s' p' hq=>?_,aa.refl⟩;refine⟨⟨(bH bX.m hq.1).trans J.o.2.2.2.2.2.2,λy i=>by rw[hq.1]at i;have i:K.gn y:=i;rw[θ.o]at i;exact i⟩,.inr ⟨HZ.o,.inr ?_,hq.2.2⟩⟩;rcases hq.2.1 with h|h;exact absurd h.1 he;exact⟨h.1,O,h.2⟩
section
variable{w:D}{u r j:Nat}{a b c d:H}{Q:Ending->D->Prop}
def P8(h:oQ w u r j false)(C:Calls prog 232 #[a,b,c,d] w Q)(g:∀x w',Q x w'->∃e:Int,x=.returned (Z e)):Calls prog 231 #[N u,.func (.func 232) #[] #[a,b,c,d]] w Q:=by obtain⟨m,t⟩:=h.rules;have i:=aB C g;clear h C g;go_in;go_wp2_with fail;apply i.o.1.mono;rintro x l f;obtain⟨e,rfl⟩:=i.o.2 _ _ f;go_wp2_with fail;exact f
def P9(h:oQ w u r j false)(C:Calls prog 241 #[a,b,c] w Q)(g:∀x w',Q x w'->∃e:Int,x=.returned (Z e)):Calls prog 231 #[N u,.func (.func 241) #[] #[a,b,c]] w Q:=by obtain⟨m,t⟩:=h.rules;have i:=aB C g;clear h C g;go_in;go_wp2_with fail;apply i.o.1.mono;rintro x l f;obtain⟨e,rfl⟩:=i.o.2 _ _ f;go_wp2_with fail;exact f
def P6(h:oQ w u r j false)(C:Calls prog 235 #[a,b,c] w Q)(g:∀x w',Q x w'->∃e:Int,x=.returned (Z e)):Calls prog 231 #[N u,.func (.func 235) #[] #[a,b,c]] w Q:=by obtain⟨m,t⟩:=h.rules;have i:=aB C g;clear h C g;go_in;go_wp2_with fail;apply i.o.1.mono;rintro x l f;obtain⟨e,rfl⟩:=i.o.2 _ _ f;go_wp2_with fail;exact f
end
def XE(w:D)(k:Nat)(X:bO)(n:Nat)(a:z×Int×aG)(s:aV)(p:bJ)(x:Ending)(w':D):Prop:=∃(e:Int) (b:z),x=.returned (.tuple #[.agg (aj b),Z e])/\dU w k X (n+1) w' (su X.R.gn a.1 a.2.1 a.2.2 s p b e)
def Yv{X:bO}(h:dq w k X n s p)(K:X.dead=false)(hp:p.dark=false)(hn:n+1<=900000)(y:dr w){a:dT}(ha:a.ok)(v:bo now):
  Calls prog 220 #[N X.u,.agg (bE a),q now] w (XE w k X n (bB X.R.m k a) s p):=by
 have B:=((((ax.nil (w:=w)).push (t:=82) (cs:=#[N X.u]) (g:=w.heap.size) O).push (t:=55) (cs:=bE a) (g:=w.heap.size+1) ah).push (t:=31) (cs:=#[q now]) (g:=w.heap.size+2) ah).push (t:=64) (cs:=aj z.zero) (g:=w.heap.size+3) ah;have C:S w ((((w.alloc (.cells #[N X.u] 82)).alloc (.cells (bE a) 55)).alloc (.cells #[q now] 31)).alloc (.cells (aj z.zero) 64)):=((((aq _ _).alloc (ao _) _).alloc ah _).alloc aQ _).alloc aQ _;have aC:((((w.alloc (.cells #[N X.u] 82)).alloc (.cells (bE a) 55)).alloc (.cells #[q now] 31)).alloc (.cells (aj z.zero) 64)).heap.size=w.heap.size+4:=ah;obtain⟨G,f⟩:=cJ ((((w.alloc (.cells #[N X.u] 82)).alloc (.cells (bE a) 55)).alloc (.cells #[q now] 31)).alloc (.cells (aj z.zero) 64));rw[<-f]at B C aC;have J:=h.call C;have Q:=h.inh;have E:oQ G X.u X.r X.j false:=by have:=J.du;rw[K]at this;exact this
 have P:=U (P8 E (WX J K hp hn (y.call' C) ha v B (λg b T=>aA (Q g T))) (λx w' hq=>by obtain⟨e,d,w1,rfl,-⟩:=hq;exact⟨e,O⟩));have HW:=U f;have W:=aP C aC Q;obtain⟨q3,f3,q2,f2,q1,f1,q0,f0,-⟩:=B.rules;obtain⟨l3,l2,l1,l0,-⟩:=B.lts;rw[f]at q0 f0 l0;generalize bB X.R.m k a=aeT at P⊢;clear h y ha B C aC f J Q E K hp q3 f3 q2 f2 q1 f1 l3 l2 l1;go_in;go_wp2_with fail;generalize b:(((w.alloc _).alloc _).alloc _).alloc _=X0;obtain rfl:G=X0:=HW.o.trans b;clear HW b q0 f0 l0;apply P.o.mono;rintro x W1 ⟨e,d,w1,rfl,F,y,hm⟩;have aC:=W.o.2.1;have i:∀g,aR (w.heap.size+3) g->w.heap.size<=g:=λg b=>by have b:g=w.heap.size+3:=b;omega
 have β:=gj F;have α:=jG F O d;have l:=fl W1 (w.heap.size+3) (aj d);have hD:=dU.own W.o.1 y (hm.trans (aa.of_fr1 l O)) i (λg b=>by have b:g=w.heap.size+3:=b;omega) (λg b T=>cF (i g b) (W.o.2.2 g T));have HX:=aB (dt F (aj d)) hD;have l1:=F.lt;clear F y hm aC i l hD P;go_wp2_with fail;refine kA (s:=6) (u:=7) results220 O O HX.o.1 underlying64 O (iQ _) O ?_;exact⟨e,d,O,HX.o.2⟩
def SR{X:bO}(h:dq w k X n s p)(hn:n<=900000):Calls prog 22 #[N X.u] w (Ii w X.R.m):=by
 obtain⟨E,b,B0,T⟩:=tH w 37 (aT (λ_=>false) an.zero (.slice none 0 0) (.slice none 0 0));have aC:E.heap.size=w.heap.size+1:=by rw[b];simp
 have G:=h.call T;have CS:=U (Rd G.re hn);have B:=aP B0 T aC;obtain⟨q0,f0⟩:=G.du.rules;have HW:=U b;have c1:E.cell? (I X.u 0)=some (N X.r):=q0 0;clear B0 T G h aC b q0;go_in;go_upto_region 1 with fail;refine dI HW.o ?_;clear HW;go_wp2_with fail;apply CS.o.mono;rintro x K ⟨i,f,rfl,C,y,d⟩;obtain⟨A1,c1,e1,-,-⟩:=C.sl;obtain⟨A2,c2,e2,-,-⟩:=y.sl;have Q:=B.o.1.call d;have α:=ft (P:=prog) (ty:=37) Q (im X.R.m.inn X.R.m.kn i f) O (by rw[e1,e2];exact s9);have F:aa (aR w.heap.size) K (K.setRow w.heap.size (aT X.R.m.inn X.R.m.kn i f)):=aa.of_fr1 (fl K w.heap.size _) O;have t:=C.ge;have l:=y.ge;have aC:=B.o.2.2;have W:=F.row C λa J v=>by have v:a=w.heap.size:=v;have:=(t a J).1;omega
 have G2:=F.row y λa J v=>by have v:a=w.heap.size:=v;have:=(l a J).1;omega
 have HX:=cQ (dt Q (aT X.R.m.inn X.R.m.kn i f)) (Row.mono W V:eV _ w.heap.size i (cq X.R.m)) (Row.mono G2 V:iK _ w.heap.size f (ec X.R.m)) (Below.rowN (B.o.2.1.trans (d.mono B.o.2.1.size)) (g:=w.heap.size) (ao _) (aT X.R.m.inn X.R.m.kn i f));clear C y d e1 e2 Q F t l aC W G2 CS;go_wp2_with fail;exact eI (s:=2) results22 O HX.o.1 underlying37 O (im _ _ _ _) O ⟨i,f,O,HX.o.2⟩
def Vz{u:Nat}{b:Bool}(h:oQ w u r j b):Calls prog 35 #[N u] w λx a=>x=.returned (.bool b)/\w=a:=by obtain⟨f,d⟩:=h.rules;clear h;go_wp2;go_ret;exact⟨O,O⟩
section
variable{w w1:D}{k n n':Nat}{X:bO}{s:aV}{p:bJ}
def dq.rep(h:dq w k X n s p){R':bX}(g:cB w1 X.r k R' n')(f:aa (X.R.F X.r) w w1)(b:∀a,R'.F X.r a->X.R.F X.r a\/w.heap.size<=a):dq w1 k {X with R:=R'} n' s p/\(∀a,bO.G {X with R:=R'} a->X.G a\/w.heap.size<=a):=by have d:=h.inh;have l:=d X.u (.inl O);have i:=d X.j (.inr (.inl O));refine⟨⟨f.blk h.du h.uR,g,f.blk h.jo h.jR,h.dk.mod f h.rF.symm,h.lv,h.uj,h.uF,h.jF,λhq=>?_,λhq=>?_,λa hq hF=>?_⟩,λa hq=>?_⟩;rcases b _ hq with h'|h';exact h.uR h';have h':w.heap.size<=X.u:=h';omega;rcases b _ hq with h'|h';exact h.jR h';have h':w.heap.size<=X.j:=h';omega;rcases b _ hq with h'|h';exact h.rF a h' hF;have:=h.dk.inh a hF;omega;rcases hq with hq|hq|hq|hq;exact .inl (.inl hq);exact .inl (.inr (.inl hq));rcases b _ hq with h'|h';exact .inl (.inr (.inr (.inl h')));exact .inr h';exact .inl (.inr (.inr (.inr hq)))
end
def x9(k:Nat)(X:bO)(s:aV)(X':bO)(s':aV)(p':bJ):Prop:=∃F:List z,(∀e∈F,e.ok/\(X.R.gn e\/(e.w=k/\e.k=5)))/\F.length<=64/\oN X.R F X'.R/\
 ((X'.dead=false/\p'.dark=false/\s'.l=s.l++eP F)\/(X'.dead=true/\s'.l=s.l/\(p'.dark=true->X'.pb=eP F)))
def Ay(w:D)(k:Nat)(X:bO)(n:Nat)(s:aV)(x:Ending)(w':D):Prop:=∃e:Int,x=.returned (Z e)/\dU w k X (n+64) w' (x9 k X s)
def SS{X:bO}(h:dq w k X n s p)(hl:X.dead=false)(hp:p.dark=false)(hn:n+64<=900000)(hT:dr w)(ε:qN (X.R.F X.r)){aeL:bL}(oM:aeL.ok)(hR:fS w 0 (.slice A aeL.l.length c) aeL.l)(κ:∀g,(Value.slice A aeL.l.length c).ownBlock=some g->¬X.R.F X.r g)(η:∀e∈aeL.l,X.R.gn e){bm:Nat}
  (hB:ax w [(bn,31,#[q now]),(bm,331,aE ⟨aeL.k,aeL.f,aeL.t,aeL.d,.slice A aeL.l.length c,aeL.n,aeL.a⟩),(bu,82,#[N X.u])]) (hN:∀g,(g=bm\/g=bn\/g=bu)->¬X.G g):
  Calls prog 241 #[N bu,N bm,N bn] w (Ay w k X n s):=by
 have ι:∀i,X.R.F X.r i->i<w.heap.size:=λi m=>h.re.inh i m;have P:∀i,X.R.F X.r i->X.G i:=λi m=>.inr (.inr (.inl m));obtain⟨E,W⟩:∃E:aN,E=⟨aeL.k,aeL.f,aeL.t,aeL.d,.slice A aeL.l.length c,aeL.n,aeL.a⟩:=⟨_,O⟩;rw[<-W]at hB;have B0:ax w [(bn,31,#[q now]),(bm,331,aE E),(bu,82,#[N X.u]),(X.u,108,#[N X.r,N X.j,.bool X.dead])]:=λg t cs hm=>by simp only[dh,sO,lE]at hm;rcases hm with e|e|e|e;exact hB _ _ _ (by simp[e]);exact hB _ _ _ (by simp[e]);exact hB _ _ _ (by simp[e]);cases e;exact h.du
 have J:kC (X.R.F X.r) [(bn,31,#[q now]),(bm,331,aE E),(bu,82,#[N X.u]),(X.u,108,#[N X.r,N X.j,.bool X.dead])]:=
  ⟨λm=>hN bn (.inr (.inl O)) (P _ m),λm=>hN bm (.inl O) (P _ m),λm=>hN bu (.inr (.inr O)) (P _ m),h.uR,trivial⟩
 have HF:=U (λ(y:D) (C:aa (X.R.F X.r) w y)=>ar (B0.mod C J).rules (ar (B0.mod C J).lts (xp (B0.mod C J).drop.head)));have CA:=U (λ(y:D) (C:S w y)=>W▸TD (now:=now) (h.re.call C) hn (hT.call' C) ε oM (Row.call hR C) κ η);have π:=U ι;have Q:=iA h B0 hN hl hp;clear η h hT ε oM hR κ hB B0 J ι P hN hl hp W;go_in;go_wp2_with fail;refine dL [] (X.R.F X.r) 6 π.o Y Y ?_
 iterate 6 refine gx HF.o ?_
 refine jl (λ_=>rfl) O 242 (λ_=>#[N X.r,.agg (aE E),q now]) (λu:(Option Addr×Nat×Nat)×Int=>.tuple #[.slice u.1.1 u.1.2.1 u.1.2.2,Z u.2]) ((none,0,0),0) (λy v Y'=>sa y X.r k X.R n (.returned v) Y') cK (λ_ y C=>?ca2) ?_
 case ca2=>refine(CA.o y C).mono ?_;rintro x Y' ⟨u,L,e,rfl,q1,q2,q3,q7,q4⟩;obtain⟨A2,c2,rfl,-,-⟩:=q1.sl;refine⟨((A2,L.length,c2),e),O,⟨_,L,e,O,q1,q2,q3,q7,q4⟩,?_⟩;obtain⟨R',-,-,q5,-⟩:=q4;exact q5
 simp only[aD]
 iterate 5
  refine kU O ?_;simp only[aD]
 refine cT Y ?_;rintro⟨_,⟨⟨A2,n2,c2⟩,e⟩⟩ W1 hC hR;replace hC:aa (X.R.F X.r) w W1:=hC;dsimp only;simp only[d8,Nat.reduceAdd,Nat.zero_add]at hR;obtain⟨w1,w2,ν,-,⟨u,L,e',B,q1,q2,q3,q7,R',q4,q8,-,q6⟩,g4⟩:=fK (hR 6 _ _ cD) O;have α:=g4.below λ_ h=>h.1 O;have μ:=(ν O).size;injection B with B;injection B with B;injection B with B;injection B with h1 B;injection B with B _;injection B with _ B;subst h1 B;have γ:n2=L.length:=by obtain⟨A3,c3,e3,-,-⟩:=q1.sl;injection e3
 subst γ;have D1:=Q.o.1.rep (q4.call α) hC (λi m=>by rcases q6 i m with h|h;exact .inl h;exact .inr V);have T:fS W1 w.heap.size (.slice A2 L.length c2) L:=Row.mono (Row.call q1 α) μ;have Bu:=hC.blk (Q.o.2.1 bu 82 #[N X.u] ah) (λm=>Q.o.2.2.1 bu (.inr (.inr O)) (.inr (.inr (.inl m))));have β:aa X.G w W1:=hC.mono λi m=>.inr (.inr (.inl m));have b:=iA D1 T q2 q3 β;obtain⟨q0,f0⟩:=Bu.rules;have K:=aB q7 q8;clear hC hR ν q1 q2 q3 q4 q6 q7 q8 g4 α μ D1 T Bu β HF CA;by_cases W:e=0
 ·subst W;obtain⟨δ,θ⟩:bQ W1 X.F X.d s s none p/\p.dark=false:=by rcases b.o.1.1.dk with h|h;exact⟨h.2,h.1⟩;rw[Q.o.2.2.2.2]at h;cases h.1
  have ζ:mD W1 X.j X.d X.a false:=by have:=b.o.1.1.jo;rw[b.o.1.1.lv Q.o.2.2.2.1]at this;exact this
  have CK:=U (Gn b.o.1.1.du δ θ ζ b.o.1.1.jF b.o.1.1.uF b.o.1.1.uj b.o.2.1 (λe B=>(b.o.2.2.2.1 e B).1) b.o.2.2.1);clear δ θ ζ;go_wp2_with fail;apply CK.o.mono;rintro x W3 hk;obtain⟨e2,rfl⟩:∃e,x=.returned (Z e):=⟨hk.choose,hk.choose_spec.1⟩;have hD:dU w k X (n+64) W3 (x9 k X s):=by refine dU.trans (X:=X) (X1:={X with R:=R'}) ⟨O,O⟩ b.o.2.2.2.2 b.o.1.2 ?_;by_cases hL:L=[];obtain⟨e3,-,hk⟩:=hk;rcases hk with⟨-,-,C⟩|⟨ξ,-⟩;exact dU.same b.o.1.1 C (ao _) ⟨L,b.o.2.2.2.1,b.o.2.2.1,K.o.2,.inl ⟨Q.o.2.2.2.1,Q.o.2.2.2.2,by rw[hL];exact(eF _).symm⟩⟩;exact absurd hL ξ;exact(b.o.1.1.kept (aq _ _) hk hL).imp λX' s' p' m=>⟨L,b.o.2.2.2.1,b.o.2.2.1,by rw[m.1];exact K.o.2,by rcases m.2.1 with h|h;exact .inl ⟨h.2.1,h.2.2.1,h.2.2.2.2⟩;exact .inr ⟨h.2.1,h.2.2.1,h.2.2.2.2⟩⟩
  have HD:=U hD;clear hk hD CK;go_wp2;go_ret;exact⟨e2,O,HD.o⟩
 have σ:(e==0)=false:=az W;go_wp2;go_ret;exact⟨e,O,{X with R:=R'},s,p,b.o.1.1,⟨O,O⟩,b.o.2.2.2.2,b.o.1.2,L,b.o.2.2.2.1,b.o.2.2.1,K.o.2,.inl ⟨Q.o.2.2.2.1,Q.o.2.2.2.2,by rw[K.o.1 W];exact(eF _).symm⟩⟩
def Vx{X:bO}(h:dq w k X n s p)(T:X.dead=false)(hp:p.dark=false)(hn:n+64<=900000)(v:dr w)(B:qN (X.R.F X.r)){aeL:bL}(oM:aeL.ok)(hR:fS w 0 (.slice A aeL.l.length c) aeL.l)(y:∀g,(Value.slice A aeL.l.length c).ownBlock=some g->¬X.R.F X.r g)(E:∀e∈aeL.l,X.R.gn e):
  Calls prog 224 #[N X.u,.agg (aE ⟨aeL.k,aeL.f,aeL.t,aeL.d,.slice A aeL.l.length c,aeL.n,aeL.a⟩),q now] w (Ay w k X n s):=by
 obtain⟨b,Q⟩:∃b:aN,b=⟨aeL.k,aeL.f,aeL.t,aeL.d,.slice A aeL.l.length c,aeL.n,aeL.a⟩:=⟨_,O⟩;have C:=(((ax.nil (w:=w)).push (t:=82) (cs:=#[N X.u]) (g:=w.heap.size) O).push (t:=331) (cs:=aE b) (g:=w.heap.size+1) ah).push (t:=31) (cs:=#[q now]) (g:=w.heap.size+2) ah;have m:S w (((w.alloc (.cells #[N X.u] 82)).alloc (.cells (aE b) 331)).alloc (.cells #[q now] 31)):=(((aq _ _).alloc (ao _) _).alloc ah _).alloc aQ _;obtain⟨J,i⟩:=cJ (((w.alloc (.cells #[N X.u] 82)).alloc (.cells (aE b) 331)).alloc (.cells #[q now] 31));rw[<-i]at C m;have K:=h.call m;have hi:=h.inh;have G:oQ J X.u X.r X.j false:=by have:=K.du;rw[T]at this;exact this
 have C1:=U (P9 G (SS K T hp hn (v.call' m) B oM (Row.call hR m) y E (now:=now) (Q▸C) (λg P hG=>aA (hi g hG))) (λx w' hq=>by obtain⟨e,rfl,-⟩:=hq;exact⟨e,O⟩));have HW:=U i;have HH:=U m;obtain⟨q2,f2,q1,f1,W,f0,-⟩:=C.rules;obtain⟨l2,l1,l0,-⟩:=C.lts;rw[i]at W f0 l0;rw[<-Q];clear E h v B oM hR y C m i K hi G T hp q2 f2 q1 f1 l2 l1 Q;go_in;go_wp2_with fail;generalize P:((w.alloc _).alloc _).alloc _=X0;obtain rfl:J=X0:=HW.o.trans P;clear HW P W f0 l0;apply C1.o.mono;rintro x W1 ⟨e,rfl,v⟩;have HX:=U (dU.pre HH.o v);clear v C1;go_wp2;go_ret;exact⟨e,O,HX.o⟩
def Hp(X:bO)(s:aV)(p:bJ)(X':bO)(s':aV)(p':bJ):Prop:=oN X.R [] X'.R/\X'.dead=X.dead/\s'=s/\p'=p
def Ic(w:D)(k:Nat)(X:bO)(n:Nat)(s:aV)(p:bJ)(x:Ending)(w':D):Prop:=∃v L,x=.returned v/\lr w' w.heap.size v L/\(∀y∈L,oF X.R.gn w' w.heap.size y)/\L.length<=38/\dU w k X n w' (Hp X s p)
def XP(w:D)(k:Nat)(X:bO)(n b:Nat)(s:aV)(p:bJ)(x:Ending)(w':D):Prop:=∃v L a,x=.returned (Z 0)/\M w' b 146 #[v]/\lr w' w.heap.size v L/\(∀y∈L,oF X.R.gn w' w.heap.size y)/\L.length<=38/\(dU w k X n a (Hp X s p))/\aa (aR b) a w'
def SQ{X:bO}(h:dq w k X n s p)(hn:n<=100000)(β:bo now){d:Nat}
  (hB:ax w [(d,146,#[.slice none 0 0]),(bn,31,#[q now]),(bu,82,#[N X.u])]) (hN:∀g,(g=d\/g=bn\/g=bu)->¬X.G g):
  Calls prog 235 #[N bu,N bn,N d] w (XP w k X n d s p):=by
 have W:∀a,X.R.F X.r a->a<w.heap.size:=λa b=>h.re.inh a b;have l:∀a,X.R.F X.r a->X.G a:=λa b=>.inr (.inr (.inl b));have B0:ax w [(d,146,#[.slice none 0 0]),(bn,31,#[q now]),(bu,82,#[N X.u]),(X.u,108,#[N X.r,N X.j,.bool X.dead])]:=λg t cs hm=>by simp only[dh,sO,lE]at hm;rcases hm with e|e|e|e;exact hB _ _ _ (by simp[e]);exact hB _ _ _ (by simp[e]);exact hB _ _ _ (by simp[e]);cases e;exact h.du
 have E:kC (X.R.F X.r) [(d,146,#[.slice none 0 0]),(bn,31,#[q now]),(bu,82,#[N X.u]),(X.u,108,#[N X.r,N X.j,.bool X.dead])]:=
  ⟨λb=>hN d (.inl O) (l _ b),λb=>hN bn (.inr (.inl O)) (l _ b),λb=>hN bu (.inr (.inr O)) (l _ b),h.uR,trivial⟩
 have HF:=U (λ(f:D) (Q:aa (X.R.F X.r) w f)=>ar (B0.mod Q E).rules (B0.mod Q E).lts);have CA:=U (λ(f:D) (Q:S w f)=>TB (h.re.call Q) hn β);have η:=U W;have HH:=aP h B0 hN;clear h hB B0 E W l hN;go_in;go_wp2_with fail;refine mX 6 [] (X.R.F X.r) 5 η.o Y ah aS aS aS aS ?_;simp only[cR]
 iterate 5 refine gx HF.o ?_
 refine jl (λ_=>rfl) O 236 (λ_=>#[N X.r,q now]) (λu:Option Addr×Nat×Nat=>.slice u.1 u.2.1 u.2.2) (none,0,0) (λf v Y'=>vm f X.r k X.R n (.returned v) Y') cK (λ_ f Q=>?ca2) ?_
 case ca2=>refine(CA.o f Q).mono ?_;rintro x Y' ⟨u,L,rfl,q1,q2,q3,q4⟩;obtain⟨A2,c2,rfl,-,-⟩:=q1.sl;refine⟨(A2,L.length,c2),O,⟨_,L,O,q1,q2,q3,q4⟩,?_⟩;obtain⟨R',-,-,q5,-⟩:=q4;exact q5
 simp only[aD];refine cT Y ?_;rintro⟨_,⟨A2,n2,c2⟩⟩ J P hR;replace P:aa (X.R.F X.r) w J:=P;dsimp only;simp only[d8,Nat.reduceAdd,Nat.zero_add]at hR;obtain⟨w1,w2,δ,-,⟨u,L,he,q1,q2,q3,R',q4,q7,-,q6⟩,g4⟩:=fK (hR 5 _ _ cD) O;have B:=g4.below λ_ h=>h.1 O;have K:=(δ O).size;injection he with he;subst he;have D1:=HH.o.1.rep (q4.call B) P (λa b=>by rcases q6 a b with h|h;exact .inl h;exact .inr V);have C:lr J w.heap.size (.slice A2 n2 c2) L:=Row.mono (Row.call q1 B) K;have mt:∀y∈L,oF X.R.gn J w.heap.size y:=λy T=>⟨(q2 y T).ok,Row.mono (Row.call (q2 y T).row B) K⟩;have Bl:=P.blk (HH.o.2.1 d 146 #[.slice none 0 0] ah) (λb=>HH.o.2.2 d (.inl O) (.inr (.inr (.inl b))));have ε:=(HH.o.2.1 d 146 #[.slice none 0 0] ah).lt;have γ:aa X.G w J:=P.mono λa b=>.inr (.inr (.inl b));have i:=js D1 C mt q3 γ Bl;have θ:=U ε;have ζ:=U q7;obtain⟨q0,f0⟩:=Bl.rules;clear P hR δ q1 q2 q3 q4 q6 q7 g4 B K D1 C mt Bl γ ε HF CA;go_wp2;go_ret;have m:aa (aR d) J (J.setCell (I d 0) (.slice A2 n2 c2)):=aa.set (I d 0) (show aR d d from O) _;have α:∀a,w.heap.size<=a->¬aR d a:=λa b e=>by have e:a=d:=e;have:=θ.o;omega
 exact⟨_,L,J,O,i.o.2.2.2.2.2.set_ 0 _,m.row i.o.2.1 λa b=>α a (i.o.2.1.ge a b).1,λy T=>⟨(i.o.2.2.1 y T).ok,m.row (i.o.2.2.1 y T).row λa b=>α a ((i.o.2.2.1 y T).row.ge a b).1⟩,i.o.2.2.2.1,⟨{X with R:=R'},s,p,i.o.1.1,⟨O,O⟩,i.o.2.2.2.2.1,i.o.1.2,ζ.o,O,O,O⟩,m⟩
def Vw{X:bO}(h:dq w k X n s p)(hl:X.dead=false)(hn:n<=100000)(F:bo now):
  Calls prog 221 #[N X.u,q now] w (Ic w k X n s p):=by
 have J:=(((ax.nil (w:=w)).push (t:=82) (cs:=#[N X.u]) (g:=w.heap.size) O).push (t:=31) (cs:=#[q now]) (g:=w.heap.size+1) ah).push (t:=146) (cs:=#[.slice none 0 0]) (g:=w.heap.size+2) ah;have D0:S w (((w.alloc (.cells #[N X.u] 82)).alloc (.cells #[q now] 31)).alloc (.cells #[.slice none 0 0] 146)):=(((aq _ _).alloc (ao _) _).alloc ah _).alloc aQ _;have aC:(((w.alloc (.cells #[N X.u] 82)).alloc (.cells #[q now] 31)).alloc (.cells #[.slice none 0 0] 146)).heap.size=w.heap.size+3:=ah;obtain⟨E,d⟩:=cJ (((w.alloc (.cells #[N X.u] 82)).alloc (.cells #[q now] 31)).alloc (.cells #[.slice none 0 0] 146));rw[<-d]at J D0 aC;have h0:=h.call D0;have hi:=h.inh;have P:oQ E X.u X.r X.j false:=by have:=h0.du;rw[hl]at this;exact this
 have C1:=U (P6 P (SQ h0 hn F J (λg b hG=>aA (hi g hG))) (λx w' C=>by obtain⟨v,L,w1,rfl,-⟩:=C;exact⟨0,O⟩));have HW:=U d;have HH:=aP D0 aC hi;obtain⟨q2,f2,q1,f1,q0,f0,-⟩:=J.rules;obtain⟨l2,l1,l0,-⟩:=J.lts;rw[d]at q0 f0 l0;clear h J D0 aC d h0 hi P hl q2 f2 q1 f1 l2 l1;go_in;go_wp2_with fail;generalize b:((w.alloc _).alloc _).alloc _=X0;obtain rfl:E=X0:=HW.o.trans b;clear HW b q0 f0 l0;apply C1.o.mono;rintro x G ⟨v,L,w1,rfl,Bl,hL,W,l,hT,hm⟩;have aC:=HH.o.2.1;obtain⟨i,f,rfl,-,-⟩:=hL.sl;obtain⟨q0,f0⟩:=Bl.rules;have l0:=Bl.lt;have B:∀g,aR (w.heap.size+2) g->w.heap.size<=g:=λg b=>by have b:g=w.heap.size+2:=b;omega
 have T:aa (aR (w.heap.size+2)) G (G.setCell (I (w.heap.size+2) 0) (.slice i L.length f)):=aa.set (I (w.heap.size+2) 0) (show aR (w.heap.size+2) (w.heap.size+2)from O) _;have hD:=dU.own HH.o.1 hT (hm.trans T) B (λg b=>by have b:g=w.heap.size+2:=b;omega) (λg b hG=>cF (B g b) (HH.o.2.2 g hG));have m:∀a,E.heap.size<=a->¬aR (w.heap.size+2) a:=λa C e=>by have e:a=w.heap.size+2:=e;omega
 have Q:lr (G.setCell (I (w.heap.size+2) 0) (.slice i L.length f)) w.heap.size (.slice i L.length f) L:=Row.mono (T.row hL λa C=>m a (hL.ge a C).1) V;have K:∀y∈L,oF X.R.gn (G.setCell (I (w.heap.size+2) 0) (.slice i L.length f)) w.heap.size y:=λy hy=>⟨(W y hy).ok,Row.mono (T.row (W y hy).row λa C=>m a ((W y hy).row.ge a C).1) V⟩;have HX:=iA (Bl.set_ 0 (.slice i L.length f)) Q K l hD;clear Bl hL W l hT hm B T hD m Q K C1 aC;go_wp2_with fail;have α:=HX.o.1;refine eu (v:=.slice i L.length f) ?_ O ⟨_,L,O,HX.o.2⟩;have hc:(G.setCell (I (w.heap.size+1+1) 0) (.slice i L.length f)).cell? (I (w.heap.size+1+1) 0)=some (.slice i L.length f):=az (α.cell 0);simp[results,results221,asAddr,loadVar,go_sem,hc]
def MZ(d:e.ok)(h:kO e):w9 (kL e)=e:=by have b:=QY d h;obtain⟨f,g⟩:=ar h.a1 h.a2;unfold w9;rw[b];have:IntKind.i64.wrap e.a=e.a:=bS _ V;rw[this]
def JQ(a:e.ok)(h:bG e=true):jm (fT e) 0=e:=by rw[M0 (fT e) 0 (by rw[us h,wg];exact ao _) (JT e),us h];show w9 ((kL e).take 91)=e;rw[kR (by rw[wg];exact ao _),MZ a (iH h)]
def MV(a:e.ok)(h:bG e=true):vd (fT e):=by
 have b:(fT e).length=91:=by rw[us h,wg]
 have d:=JQ a h;have:=Kt (l:=fT e) (m:=0) V (by rw[d];exact h);unfold vd;rw[b];exact this
def Mr{m:aG}{aeL:List z}(h:(fC m (L++aeL)).isSome=true):(fC m L).isSome=true:=by
 rw[Es]at h;cases a:fC m L with
 |none=>rw[a]at h;cases h
 |some _=>rfl
def DV(L aeL:List z):eP (L++aeL)=eP L++eP aeL:=by unfold eP;rw[jh,od]
def JD(h:∀e∈L,bG e=true):(eP L).length=99*L.length:=by
 induction L with
 |nil=>rfl
 |cons e L ih=>
  rw[show e::L=[e]++L from rfl,DV,bW,ih λx a=>h x (dC _ a),bW];have:(eP [e]).length=99:=by show(da [fT e]).length=99;rw[ry,sS,us (h e cz),wg]
  rw[this,yd];omega
def PD{J P:List z}(f:∀e∈J++P,e.ok/\bG e=true){a:Nat}(h:kE (eP J++(eP P).take j) R.length=some (iv R,a))(E:ic (eP J++(eP P).take j) a=none):
  ∃i,i<=P.length/\(∀x∈R,vd x.l)/\(R.map λx=>jm x.l 0)=J++P.take i/\(eP J++(eP P).take j).take a=eP (J++P.take i):=by
 have b:∀L:List z,∀r∈L.map fT,r.length<=4096:=λL r y=>by obtain⟨e,-,rfl⟩:=dY.1 y;have:=IX e;omega
 obtain⟨i,t,u,F,v⟩:=Qx (L:=J.map fT) (P:=P.map fT) (b J) (b P) h E;rw[j3]at t;have m:iv R=(J++P.take i).map fT:=by rw[u,jh,List.map_take]
 have d:∀e∈J++P.take i,e.ok/\bG e=true:=λe he=>f e (by rcases bP.1 he with he|he;exact ik _ he;exact mL _ (mM he));refine⟨i,t,λx C=>?_,?_,?_⟩;have o:x.l∈iv R:=dY.2 ⟨x,C,O⟩;rw[m]at o;obtain⟨e,he,g⟩:=dY.1 o;rw[<-g];exact MV (d e he).1 (d e he).2
 ·have B:(R.map λx=>jm x.l 0)=(iv R).map λl=>jm l 0:=by unfold iv;rw[List.map_map];rfl
  rw[B,m,List.map_map]
  conv=>rhs;rw[<-List.map_id (J++P.take i)]
  refine List.map_congr_left λe he=>?_;exact JQ (d e he).1 (d e he).2
 show(da (J.map fT)++(da (P.map fT)).take j).take a=_;rw[<-v,m];rfl
def Ag(R:List aV):8*R.length<=jI R:=by
 induction R with
 |nil=>exact ao _
 |cons x R ih=>unfold jI at ih⊢;simp only[cW,gy,dN]at ih⊢;omega
def He(w:D)(m k:Nat)(F:Nat->Prop)(d:Nat)(J P:List z)(p:bJ)(x:Ending)(w':D):Prop:=aa F w w'/\
 ∃(X:bO) (f:aV) (b:bJ) (i:Nat),x=.returned (.tuple #[N X.u,Z 0])/\dq w' k X 50000 f b/\X.d=d/\X.dead=false/\b.dark=false/\b.burning=p.burning/\
  (i<=P.length/\f.l=eP (J++P.take i)/\fC (fc m) (J++P.take i)=some X.R.m/\X.R.gn=λe=>e∈J++P.take i)/\∀a,X.G a->F a\/w.heap.size<=a
def G9{m:Nat}(h1:1<=m)(h6:m<=6)(hk:k<6){F:Nat->Prop}{d:Nat}(h:bQ w F d s s none p)(hp:p.dark=false)(hT:dr w)(Ψ:qN F){J P:List z}{jj:Nat}(t:p.burning=false)(hs:s.l=eP J++(eP P).take jj)(Γ:∀e∈J++P,e.ok/\bG e=true)(μ:(fC (fc m) (J++P)).isSome=true):
  Calls prog 46 #[Z m,Z ((k:Int)+1),N d] w (He w m k F d J P p):=by
 have CN:=U (Ws (λ_=>False) m k h1 h6 hk w);have HJ:=cQ t hs Γ μ;clear t hs Γ μ;have HH:=cQ h hp hT Ψ;clear h hp hT Ψ;go_in;go_wp2_with fail;apply CN.o.mono;rintro x W1 ⟨r,R,rfl,hR,Δ,Φ,W⟩;have CJ:=U (Xj (HH.o.1.call W) HH.o.2.1);have H1:=cQ hR Δ Φ W;clear hR Δ Φ W CN;go_wp2_with fail;apply CJ.o.mono;rintro x W2 ⟨hm,G,hG,υ⟩;have W:=H1.o.2.2.2;have Ξ:=W.size;have ψ:=hm.size;have δ:aa F w W2:=(aa.of_below W).trans' hm λ_ _ h=>h;have K:∀f,G f->F f\/w.heap.size<=f:=λf hq=>by rcases hG f hq with h|h;exact .inl h;exact .inr V
 rcases υ with⟨e,p',he,rfl,hd,hbn⟩|⟨j,a,rv,Rr,s',p',rfl,hj,α,T,ξ,ι,σ,η,X,E,t,v,hal,τ,χ⟩
 ·rw[HJ.o.1]at hbn;cases hbn
 rw[HJ.o.2.1]at τ χ v;obtain⟨i,hi,hre,κ,htk⟩:=PD (λe he=>HJ.o.2.2.1 e he) τ χ;rw[htk]at v;have HI:=aP hi hre κ;clear τ χ hi hre κ htk;have Θ:=HH.o.1.sl;have h8:=Ag Rr;have CE:=U (P4 ξ ι V);have B:=H1.o.2.2.1;have θ:cB W2 r k {R with gn:=λe=>e∈J++P.take i} 0:=(H1.o.1.mod hm λf hq hF=>cF (B f hq) (HH.o.1.inh f hF)).gmono λe he=>by rw[H1.o.2.1.2]at he;exact he.elim
 have H2:=U (ar δ (ar K (ar θ (ar hj (ar α (ar T (ar X (ar E (ar t (ar v (ar η hG)))))))))));have HS:=aP Ξ ψ Θ;clear hm hG ξ ι σ η X E t v hal δ K θ hj α T W Ξ ψ Θ h8 B CJ;go_wp2_with fail;apply CE.o.mono;rintro x W3 ⟨u,L,b,rfl,hL,π,hev,y⟩;obtain⟨rfl,ε⟩:=hev HI.o.2.1;rw[HI.o.2.2]at ε;have A:L.length<=Rr.length:=by rw[ε,<-HI.o.2.2,j3];exact ao _
 have B:=H1.o.2.2.1;obtain⟨z1,z2,z4⟩:=HS.o;have ω:dr W3:=(HH.o.2.2.1.mod H2.o.1 HH.o.2.2.2.k HH.o.2.2.2.d).call' y;have hgl:=HH.o.2.2.1.lt;have C:=H1.o.1.inh;have CR:=U (Po (n:=0) (H2.o.2.2.1.call y) ω ⟨λhF=>aA (B _ hF),λhF=>aA (B _ hF)⟩ hL π (cF H2.o.2.2.2.2.2.2.2.2.2.2.1 (Ag Rr)) (λg hg hF=>cF ((hL.ge g hg).1) (C g hF)) (λe he=>by rw[ε]at he;exact he));have H3:=aP ε y A;clear hL π hev ε A y ω hgl C B z1 z2 z4 CE;have h8:=Ag Rr;clear h8;go_wp2_with fail;apply CR.o.mono;rintro x W4 ⟨e,rfl,hz,hW⟩;obtain rfl:e=0:=hz.2 (by show(fC R.m L).isSome=true;rw[H1.o.2.1.1,H3.o.1];have:=HJ.o.2.2.2;rw[show J++P=(J++P.take i)++P.drop i from by rw[i6,lV]]at this;exact Mr this);obtain⟨δ,K,θ,hj,α,T,X,E,t,v,η,hG⟩:=H2.o;obtain⟨R',c,⟨r5,r6⟩,r2,r3⟩:=hW;have r4:=ar r5 (r6 O);have C:=H1.o.1.inh;have Q:=H1.o.2.2.1;obtain⟨z1,z2,z4⟩:=HS.o;have y:=H3.o.2.1;have z3:=y.size;have z5:=r2.size;have Ω:=HH.o.1.inh;have ν:dJ G (R.F r):=λf hq hR=>by have h1:=Q f hR;have h2:=C f hR;rcases hG f hq with h|h;have:=Ω f h;omega;omega
 have β:=(X.call y).mod r2 ν;have ζ:aa F w W4:=(δ.call y).trans' r2 λf hq hR=>aA (Q f hR);have γ:mD W4 j d a false:=r2.blk (M.call hj y) λhR=>aA (C j hR);have φ:L.length<=50000:=by
  have h9:=JD (L:=L) λe he=>by rw[H3.o.1]at he;refine(HJ.o.2.2.1 e ?_).2;rcases bP.1 he with he|he;exact ik _ he;exact mL _ (mM he)
  have:=X.sl;rw[v,<-H3.o.1]at this;omega
 have H4:=U (ar c (ar r3 (ar r4 (ar β (ar ζ (ar γ (ar φ (ar (ar z1 (ar z2 (ar z3 z5))) (ar hG (ar α (ar T (ar E (ar t (ar v (ar K Q)))))))))))))));clear hz CR δ K θ hj α T X E t v η hG c r2 r3 r4 r5 r6 C Q z1 z2 z4 y z3 z5 Ω ν β ζ γ φ;go_wp2;go_ret2;obtain⟨c,r3,r4,β,ζ,γ,φ,⟨z1,z2,z3,z5⟩,hG,α,T,E,t,v,K,Q⟩:=H4.o;have hD:S W4 (W4.alloc (.cells #[N r,N j,.bool false] 108)):=(aq _ _).alloc (ao _) _;have C:=c.inh;have hGi:=β.inh;have hR1:=H1.o.1.inh;have hjl:=M.lt γ;refine⟨ζ.call hD,⟨R',r,W4.heap.size,j,d,a,false,false,G,[]⟩,s',p',i,O,⟨M.new _ _ _,(c.call hD).more V,M.call γ hD,.inl ⟨E,β.call hD⟩,λ_=>rfl,?_,λhq=>?_,T,λhq=>?_,λhq=>?_,λf hq hF=>?_⟩,O,O,E,t,⟨HI.o.1,v,by rw[<-H1.o.2.1.1,<-H3.o.1];exact r4.2,r4.1⟩,λf hq=>?_⟩;show W4.heap.size≠j;omega;have:=hGi _ hq;exact absurd this (sJ _);have:=C _ hq;exact absurd this (sJ _);rcases r3 j hq with h|h;have:=hR1 j h;omega;have hh:=H2.o.2.2.2.1.lt;have:=H3.o.2.1.size;omega;rcases r3 f hq with h|h;have h1:=hR1 f h;have h2:=Q f h;rcases hG f hF with h'|h';have:=HH.o.1.inh f h';omega;omega;rcases hG f hF with h'|h';have:=HH.o.1.inh f h';omega;omega;rcases hq with hq|hq|hq|hq;have hq:f=W4.heap.size:=hq;exact .inr V;have hq:f=j:=hq;exact .inr V;rcases r3 f hq with h|h;exact .inr (Q f h);exact .inr V;exact K f hq
