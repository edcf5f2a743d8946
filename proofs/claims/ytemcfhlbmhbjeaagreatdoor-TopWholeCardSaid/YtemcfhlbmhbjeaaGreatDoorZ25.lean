import Derived.Test.YtemcfhlbmhbjeaaGreatDoorZ22
import Derived.Test.YtemcfhlbmhbjeaaGreatDoorZ24
import Derived.Test.YtemcfhlbmhbjeaaGreatDoorZ13
set_option maxRecDepth 100000
set_option maxHeartbeats 0
set_option linter.all false
namespace Go.Proofs.YtemcfhlbmhbjeaaGreatDoor
open Go.Proofs.Tryz
variable{w w0 w' w2:D}{c aeM k n d N' b:Nat}{s:aV}{p:bJ}{e:Int}{L:List z}{F:Nat->Prop}{aeL:z}{L':List bL}{C':Nat->Bool}{X:List aN}{f:FuncId}
open Go Go.RowKit
structure fA where
 J:List z
 P:List z
 m:aG
def ci(a:Nat->fA)(e:z):Prop:=e∈(a e.w).J
structure jp(n k:Nat)(G:z->Prop)(X:bO)(s:aV)(p:bJ)(y:fA):Prop where
 jb:s.l=eP y.J
 pb:p.dark=true->X.pb=eP y.P
 pd:p.dark=false->y.P=[]
 run:cC n y.J y.m
 pend:∃m,cC n (y.J++y.P) m
 led:X.dead=false->X.R.m=y.m
 gn:X.dead=false->∀e,X.R.gn e->G e
 own:∀e∈y.J++y.P,e.w=k\/G e
def jp.mono{G i:z->Prop}{X:bO}{y:fA}(h:jp n k G X s p y)(g:∀e,G e->i e):jp n k i X s p y:=
 ⟨h.jb,h.pb,h.pd,h.run,h.pend,h.led,λj e a=>g e (h.gn j e a),λe a=>(h.own e a).imp id (g e)⟩
def jc(k:Nat)(y y':fA):Prop:=y.J<+:y'.J/\∃F,(y'.J++y'.P).Sublist ((y.J++y.P)++F)/\∀e∈F,e.w=k->e.k=5
def jc.refl(k:Nat)(y:fA):jc k y y:=⟨ji,[],by rw[eF];exact lY _,λ_ h=>(aK h)⟩
def jc.trans{y y' a:fA}(h:jc k y y')(g:jc k y' a):jc k y a:=by obtain⟨r,F,o,t⟩:=h;obtain⟨m,l,j,u⟩:=g;refine⟨r.trans m,F++l,?_,λe he i=>?_⟩;rw[<-i6];exact j.trans (List.Sublist.append o (lY _));rcases bP.1 he with he|he;exact t e he i;exact u e he i
def ir(a:Nat->fA)(k:Nat)(y:fA):Nat->fA:=λj=>if j=k then y else a j
def uI(a:Nat->fA)(k:Nat)(y:fA):ir a k y k=y:=av O
def wO(a:Nat->fA){j:Nat}(y:fA)(h:j≠k):ir a k y j=a j:=al h
def ci.grew{a g:Nat->fA}(h:∀k,(a k).J<+:(g k).J){e:z}(i:ci a e):ci g e:=(h e.w).subset i
def OJ{a:Nat->fA}{y:fA}(h:(a k).J<+:y.J):∀j,(a j).J<+:(ir a k y j).J:=λj=>by by_cases e:j=k;subst e;rw[uI];exact h;rw[wO _ _ e];exact ji
def ci.upd{a:Nat->fA}{y:fA}(h:(a k).J<+:y.J){e:z}(g:ci a e):ci (ir a k y) e:=ci.grew (OJ h) g
def ci.here{a:Nat->fA}{y:fA}{e:z}(g:e.w=k)(h:e∈y.J):ci (ir a k y) e:=by unfold ci;rw[g,uI];exact h
def cC.cont{m:aG}(h:cC n L m):∀{F:List z} {m':aG},(∀e∈F,e.ok)->fC m F=some m'->cC n (L++F) m':=by
 intro F
 induction F generalizing L m with
 |nil=>intro m' _ a;obtain rfl:=eZ a;rw[eF];exact h
 |cons e F ih=>
  intro m' g a;have a:(if(cU m e).1=0 then fC (cU m e).2 F else none)=some m':=a;split at a
  ·rename_i i;rw[show L++e::F=(L++[e])++F by simp];exact ih (cC.snoc e h (g e cz) i) (λx j=>g x (dC _ j)) a
  cases a
def cC.app{m:aG}(h:cC n L m):fC (fc n) L=some m:=by
 induction h with
 |nil=>rfl
 |snoc e _ _ h0 ih=>exact DG ih h0
def cC.of_app{m:aG}(a:∀e∈L,e.ok)(h:fC (fc n) L=some m):cC n L m:=by have:=cC.nil (n:=n)|>.cont a h;rwa[ju]at this
section
variable{n k:Nat}{aeR:Nat->fA}{X X':bO}{s s':aV}{p p':bJ}
def cC.ok{n:Nat}{m:aG}(h:cC n L m){e:z}(a:e∈L):e.ok:=(h.may e a).2
def tM(k:Nat)(a:dT)(y y':fA)(aeL:z)(e:Int):Prop:=
 ((bB y.m k a).1=z.zero/\y'=y/\aeL=z.zero/\e=(bB y.m k a).2.1)\/
 ((bB y.m k a).1≠z.zero/\e=0/\aeL=(bB y.m k a).1/\y.P=[]/\y'=⟨y.J++[(bB y.m k a).1],[],(bB y.m k a).2.2⟩)\/
 ((bB y.m k a).1≠z.zero/\e≠0/\aeL=z.zero/\y.P=[]/\(y'=y\/(e=8/\y'=⟨y.J,[(bB y.m k a).1],y.m⟩)))
def tM.pre{a:dT}{y y':fA}(h:tM k a y y' aeL e):y.J<+:y'.J:=by rcases h with⟨-,rfl,-⟩|⟨-,-,-,-,rfl⟩|⟨-,-,-,-,rfl|⟨-,rfl⟩⟩;exact ji;exact oV _ _;exact ji;exact ji
def Rb(hk:k<6)(h:jp n k (ci aeR) X s p (aeR k))(P:X.dead=false)(hp:p.dark=false){a:dT}(ha:a.ok)(B:su X.R.gn (bB X.R.m k a).1 (bB X.R.m k a).2.1 (bB X.R.m k a).2.2 s p aeL e X' s' p'):
  ∃T,jp n k (ci (ir aeR k T)) X' s' p' T/\tM k a (aeR k) T aeL e:=by
 rw[h.led P]at B;obtain⟨⟨hm,W⟩,B⟩:=B;have C:=h.pd hp;rcases B with⟨r,hM,K,A,i,rfl,rfl⟩|⟨r,B,-⟩
 ·refine⟨aeR k,⟨h.jb,λg=>?_,λ_=>C,h.run,h.pend,λ_=>?_,λ_ x hx=>?_,λx hx=>(h.own x hx).imp id (ci.upd ji)⟩,.inl ⟨r,O,hM,K⟩⟩
  ·rw[i]at g;cases g
  ·rw[hm];rcases um (aeR k).m k a with⟨-,t,-⟩|⟨t,-⟩;exact t;rcases wY (aeR k).m k a with u|⟨-,u⟩
   ·rename_i E;have:=wY (aeR k).m k a;rw[r]at t;have:(k:Int)+1=0:=(bH z.o t).symm;omega
   exact absurd r u
  rcases W x hx with v|⟨-,v⟩;exact ci.upd ji (h.gn P x v);exact absurd r v
 have j:cC n ((aeR k).J++[(bB (aeR k).m k a).1]) (bB (aeR k).m k a).2.2:=by rcases um (aeR k).m k a with⟨t,-⟩|⟨t,-,u⟩;exact absurd t r;refine h.run.cont (λx hx=>?_) u;rw[dd.1 hx,t];exact uC h.run.led hk ha
 have E:(bB (aeR k).m k a).1.w=k:=by rcases wY (aeR k).m k a with u|⟨u,-⟩;exact absurd u r;exact u
 rcases B with⟨rfl,rfl,A,i,-,G⟩|⟨K,rfl,A,G,h8,Q⟩
 ·refine⟨⟨(aeR k).J++[(bB (aeR k).m k a).1],[],(bB (aeR k).m k a).2.2⟩,⟨?_,λg=>?_,λ_=>rfl,j,⟨_,by rw[eF];exact j⟩,λ_=>hm,λ_ x hx=>?_,λx hx=>?_⟩,.inr (.inl ⟨r,O,O,C,O⟩)⟩;show s'.l=eP ((aeR k).J++[(bB (aeR k).m k a).1]);rw[G,h.jb,DV]
  ·rw[i]at g;cases g
  rcases W x hx with v|⟨v,-⟩;exact ci.upd (oV _ _) (h.gn P x v);subst v;exact ci.here E (mL _ cz);rw[eF]at hx;rcases bP.1 hx with hx|hx;exact(h.own x (ik _ hx)).imp id (ci.upd (oV _ _));rw[dd.1 hx];exact .inl E
 cases i:p'.dark with
 |false=>
  refine⟨aeR k,⟨G.trans h.jb,λg=>?_,λ_=>C,h.run,h.pend,λg=>?_,λg=>?_,λx hx=>(h.own x hx).imp id (ci.upd ji)⟩,.inr (.inr ⟨r,K,O,C,.inl O⟩)⟩
  ·rw[i]at g;cases g
  ·rw[A]at g;cases g
  rw[A]at g;cases g
 |true=>
  refine⟨⟨(aeR k).J,[(bB (aeR k).m k a).1],(aeR k).m⟩,⟨G.trans h.jb,λ_=>Q i,λg=>?_,h.run,⟨_,j⟩,λg=>?_,λg=>?_,λx hx=>?_⟩,.inr (.inr ⟨r,K,O,C,.inr ⟨h8 i,O⟩⟩)⟩
  ·rw[i]at g;cases g
  ·rw[A]at g;cases g
  ·rw[A]at g;cases g
  rcases bP.1 hx with hx|hx;exact(h.own x (ik _ hx)).imp id (ci.upd (y:=⟨(aeR k).J,[(bB (aeR k).m k a).1],(aeR k).m⟩) ji);rw[dd.1 hx];exact .inl E
def MO(h:jp n k (ci aeR) X s p (aeR k))(hp:p.dark=false){g:z->Prop}(C:∀e,g e->ci aeR e)(hm:X.R.m=(aeR k).m){X1:bO}(K:X1.R.m=X.R.m)(u:X1.R.gn=g)(E:x9 k X1 s X' s' p'):∃G,jp n k (ci (ir aeR k G)) X' s' p' G/\jc k (aeR k) G:=by
 obtain⟨F,hF,-,⟨T,hn⟩,E⟩:=E;have P:=h.pd hp;rw[K,hm]at T;have i:cC n ((aeR k).J++F) X'.R.m:=h.run.cont (λe o=>(hF e o).1) T;have r:∀e∈F,e.w=k\/ci aeR e:=λe o=>by rcases(hF e o).2 with h1|h1;exact .inr (C e (u▸h1));exact .inl h1.1
 have Q:∀e∈F,e.w=k->e.k=5:=λe o W=>by rcases(hF e o).2 with h1|h1;have h2:ci aeR e:=C e (u▸h1);unfold ci at h2;rw[W]at h2;exact absurd O ((List.nodup_append.1 i.nodup).2.2 e h2 e o);exact h1.2
 have t:∀{y:fA},(aeR k).J<+:y.J->(∀e∈F,ci aeR e->ci (ir aeR k y) e)->∀x∈(aeR k).J++F,x.w=k\/ci (ir aeR k y) x:=λhy hf x hx=>by rcases bP.1 hx with hx|hx;exact(h.own x (ik _ hx)).imp id (ci.upd hy);exact(r x hx).imp id (hf x hx)
 rcases E with⟨v,j,A⟩|⟨v,A,B⟩
 ·refine⟨⟨(aeR k).J++F,[],X'.R.m⟩,⟨?_,λa=>?_,λ_=>rfl,i,⟨_,by rw[eF];exact i⟩,λ_=>rfl,λ_ x hx=>?_,?_⟩,oV _ _,F,?_,Q⟩;show s'.l=eP ((aeR k).J++F);rw[A,h.jb,DV]
  ·rw[j]at a;cases a
  rcases hn x hx with h1|h1;exact ci.upd (oV _ _) (C x (u▸h1));rcases r x h1 with h2|h2;exact ci.here h2 (mL _ h1);exact ci.upd (oV _ _) h2;show∀e∈((aeR k).J++F)++[],_;rw[eF];exact t (oV _ _) λe _ o=>ci.upd (oV _ _) o;show(((aeR k).J++F)++[]).Sublist _;rw[eF,P,eF];exact lY _
 cases j:p'.dark with
 |false=>
  refine⟨aeR k,⟨A.trans h.jb,λa=>?_,λ_=>P,h.run,h.pend,λa=>?_,λa=>?_,λx hx=>(h.own x hx).imp id (ci.upd ji)⟩,jc.refl _ _⟩
  ·rw[j]at a;cases a
  ·rw[v]at a;cases a
  rw[v]at a;cases a
 |true=>
  refine⟨⟨(aeR k).J,F,(aeR k).m⟩,⟨A.trans h.jb,λ_=>B j,λa=>?_,h.run,⟨_,i⟩,λa=>?_,λa=>?_,t ji λe _ o=>ci.upd (y:=⟨(aeR k).J,F,(aeR k).m⟩) ji o⟩,ji,F,?_,Q⟩
  ·rw[j]at a;cases a
  ·rw[v]at a;cases a
  ·rw[v]at a;cases a
  show((aeR k).J++F).Sublist _;rw[P,eF];exact lY _
def Kw(h:jp n k (ci aeR) X s p (aeR k))(u:s'.l=s.l)(o:p'.dark=p.dark)(g:p.dark=true->X'.pb=X.pb)(j:X'.dead=X.dead)(r:X.dead=false->X'.R.m=X.R.m)(v:X.dead=false->∀e,X'.R.gn e->X.R.gn e):∃i,jp n k (ci (ir aeR k i)) X' s' p' i/\jc k (aeR k) i:=by refine⟨aeR k,⟨u.trans h.jb,λa=>?_,λa=>h.pd (o▸a),h.run,h.pend,λa=>?_,λa e t=>?_,λx y=>(h.own x y).imp id (ci.upd ji)⟩,jc.refl _ _⟩;rw[o]at a;rw[g a];exact h.pb a;rw[j]at a;rw[r a];exact h.led a;rw[j]at a;exact ci.upd ji (h.gn a e (v a e t))
def Pg(h:jp n k (ci aeR) X s p (aeR k))(u:s'.l=s.l)(g:X'.pb=if p.dark then X.pb else[])(j:X'.dead=X.dead)(m:X'.R=X.R)(t:p'.dark=true):∃i,jp n k (ci (ir aeR k i)) X' s' p' i/\jc k (aeR k) i:=by
 refine⟨aeR k,⟨u.trans h.jb,λ_=>?_,λa=>?_,h.run,h.pend,λa=>?_,λa e r=>?_,λx v=>(h.own x v).imp id (ci.upd ji)⟩,jc.refl _ _⟩
 ·rw[g];cases o:p.dark with
  |true=>exact h.pb o
  |false=>rw[h.pd o];rfl
 ·rw[t]at a;cases a
 rw[j]at a;rw[m];exact h.led a;rw[j]at a;rw[m]at r;exact ci.upd ji (h.gn a e r)
def Ph(h:jp n k (ci aeR) X s p (aeR k)){i:Nat}(A:i<=(aeR k).P.length)(x:s'.l=eP ((aeR k).J++(aeR k).P.take i))(v:fC (fc n) ((aeR k).J++(aeR k).P.take i)=some X'.R.m)(y:X'.R.gn=λe=>e∈(aeR k).J++(aeR k).P.take i)(u:p'.dark=false):∃r,jp n k (ci (ir aeR k r)) X' s' p' r/\jc k (aeR k) r:=by
 obtain⟨m,o⟩:=h.pend;have j:∀e∈(aeR k).J++(aeR k).P.take i,e∈(aeR k).J++(aeR k).P:=λe he=>by rcases bP.1 he with he|he;exact ik _ he;exact mL _ (mM he)
 have g:cC n ((aeR k).J++(aeR k).P.take i) X'.R.m:=cC.of_app (λe he=>o.ok (j e he)) v;have a:∀e∈(aeR k).J++(aeR k).P.take i,e.w=k\/ci (ir aeR k ⟨(aeR k).J++(aeR k).P.take i,[],X'.R.m⟩) e:=λe he=>(h.own e (j e he)).imp id (ci.upd (oV _ _));refine⟨⟨(aeR k).J++(aeR k).P.take i,[],X'.R.m⟩,⟨x,λt=>?_,λ_=>rfl,g,⟨_,by rw[eF];exact g⟩,λ_=>rfl,λ_ e he=>?_,λe he=>a e (by rw[eF]at he;exact he)⟩,oV _ _,[],?_,λ_ h=>(aK h)⟩
 ·rw[u]at t;cases t
 rw[y]at he;have he:e∈(aeR k).J++(aeR k).P.take i:=he;rcases a e he with h1|h1;exact ci.here h1 he;exact h1;show(((aeR k).J++(aeR k).P.take i)++[]).Sublist _;rw[eF,eF];exact List.Sublist.append (lY _) (List.take_sublist _ _)
def aau(j:s.l=eP [])(i:X.R.m=fc n)(o:∀e,X.R.gn e->False)(h:p.dark=false):jp n k (ci aeR) X s p ⟨[],[],fc n⟩:=
 ⟨j,(λg=>by rw[h]at g;cases g),λ_=>rfl,cC.nil,⟨_,cC.nil⟩,λ_=>i,λ_ e a=>(o e a).elim,(λe a=>(aK a))⟩
end
def dH(h:Nat)(s:H)(X:List aN):Nat->Prop:=λa=>a=h\/s.ownBlock=some a\/∃x∈X,x.s.ownBlock=some a
section
variable{w0 w w':D}{h:Nat}{s:H}{X:List aN}{L:List bL}{C:Nat->Bool}{G:Nat->Prop}
def aa.own{base:Nat}{e:ay}{sz:Nat}{v:H}{xs:List H}(m:aa G w w')(o:w.ownsRow base e sz v n xs)(t:∀a,v.ownBlock=some a->¬G a):w'.ownsRow base e sz v n xs:=by refine⟨o.1,?_⟩;rcases o.2 with⟨x,j⟩|⟨g,l,i,rfl,j,r,u⟩;exact .inl ⟨x,j⟩;exact .inr ⟨g,l,i,O,j,(m.block g (M.lt r) (t g O)).trans r,u⟩
def bK.mod(aeM:bK w0 w [] h s X L C)(m:aa G w w')(l:dJ (dH h s X) G)(u:∀a,G a->w0.heap.size<=a):bK w0 w' [] h s X L C:=by
 have v:S w0 w':=⟨m.os.trans aeM.T.below.os,m.tape.trans aeM.T.below.tape,m.output.trans aeM.T.below.output,aZ aeM.T.below.size m.size,λk r=>(m.block k (ee r aeM.T.below.size) λi=>aA (u k i)).trans (aeM.T.below.block k r)⟩;refine⟨⟨v,λg t A j=>?_⟩,aeM.hB,aeM.nes,aeM.nds,aeM.far,m.own aeM.own λa o i=>l a (.inr (.inl o)) i,?_⟩
 ·rcases dh.1 j with e|e;cases e;exact m.blk aeM.blk λi=>l h (.inl O) i;cases e
 exact aeM.evs.imp λx y B _ j=>⟨j.eq,m.own j.own λa o i=>l a (.inr (.inr ⟨x,y,o⟩)) i,j.ok⟩
def bK.inh(aeM:bK w0 w [] h s X L C):jP (dH h s X) w:=λa hq=>by rcases hq with rfl|hq|⟨x,hx,hq⟩;exact aeM.blk.lt;exact(aeM.own.lt a hq).2;obtain⟨m,-,g⟩:=aeM.evs.left hx;exact(g.own.lt a hq).2
def bK.base(aeM:bK w0 w [] h s X L C):∀a,dH h s X a->w0.heap.size<=a:=λa hq=>by rcases hq with rfl|hq|⟨x,hx,hq⟩;exact aeM.hB;exact(aeM.own.lt a hq).1;obtain⟨m,-,g⟩:=aeM.evs.left hx;exact(g.own.lt a hq).1
def jJ.parts(aeM:jJ w0 w w' [] h s X L' C'):∃g i,bK w0 w' [] h g i L' C'/\aa (dH h s X) w w'/\∀a,dH h g i a->dH h s X a\/w.heap.size<=a:=by obtain⟨g,i,n,f,r,m⟩:=aeM;refine⟨g,i,n,aa.of_fr f (.inl O) λk l=>.inr (.inl l),λa hq=>?_⟩;rcases hq with hq|hq|⟨x,j,hq⟩;exact .inl (.inl hq);rcases r with r|r;exact .inl (.inr (.inl (r▸hq)));exact .inr (r a hq);rcases m x j with h|h;exact .inl (.inr (.inr ⟨x,h,hq⟩));exact .inr (h a hq)
end
def vu(m:bL):Prop:=m.l.length<=100000/\ix m=true
def kP(n:Nat)(d u:Nat->Nat)(h:Nat)(now:Int):Array H:=#[Z n,N (d 0),N (u 0),N (d 1),N (u 1),N (d 2),N (u 2),N (d 3),N (u 3),N (d 4),N (u 4),N (d 5),N (u 5),N h,q now]
structure aJ where
 n:Nat
 X:Nat->bO
 s:Nat->aV
 p:Nat->bJ
 h:Nat
 sv:H
 MX:List aN
 ML:List bL
 cut:Nat->Bool
 now:Int
 aeR:Nat->fA
def aJ.A(C:aJ):Array H:=kP C.n (λk=>(C.X k).d) (λk=>(C.X k).u) C.h C.now
structure cE(w0 w:D)(c:Nat)(C:aJ)(aeM:Nat):Prop where
 blk:M w c 88 C.A
 n1:1<=C.n
 n6:C.n<=6
 si:∀k,k<6->dq w k (C.X k) aeM (C.s k) (C.p k)
 ne:bK w0 w [] C.h C.sv C.MX C.ML C.cut
 ml:C.ML.length<=128/\∀m∈C.ML,vu m
 nw:bo C.now
 cb:w0.heap.size<=c
 xb:∀k,k<6->∀aeT,(C.X k).G aeT->w0.heap.size<=aeT
 cx:∀k,k<6->¬(C.X k).G c
 cn:¬dH C.h C.sv C.MX c
 xx:∀j k,j<6->k<6->j≠k->dJ (C.X j).G (C.X k).G
 xn:∀k,k<6->dJ (C.X k).G (dH C.h C.sv C.MX)
def aJ.G(C:aJ)(c:Nat):Nat->Prop:=λa=>a=c\/(∃k,k<6/\(C.X k).G a)\/dH C.h C.sv C.MX a
def upd{α:Type}(f:Nat->α)(k:Nat)(x:α):Nat->α:=λj=>if j=k then x else f j
def eD{α:Type}(f:Nat->α)(k:Nat)(x:α):upd f k x k=x:=av O
def eK{α:Type}(f:Nat->α){j:Nat}(x:α)(h:j≠k):upd f k x j=f j:=al h
section
variable{w0 w w':D}{c aeM N':Nat}{C:aJ}{G:Nat->Prop}
def cE.inh(h:cE w0 w c C aeM):jP (C.G c) w:=λa hq=>by rcases hq with rfl|⟨k,hk,hq⟩|hq;exact h.blk.lt;exact(h.si k hk).inh a hq;exact h.ne.inh a hq
def cE.base(h:cE w0 w c C aeM):∀a,C.G c a->w0.heap.size<=a:=λa hq=>by rcases hq with rfl|⟨k,hk,hq⟩|hq;exact h.cb;exact h.xb k hk a hq;exact h.ne.base a hq
def cE.mod(h:cE w0 w c C aeM)(m:aa G w w')(i:dJ (C.G c) G)(o:∀a,G a->w0.heap.size<=a):cE w0 w' c C aeM:=
 ⟨m.blk h.blk λg=>i c (.inl O) g,h.n1,h.n6,λk l=>(h.si k l).mod m λa j g=>i a (.inr (.inl ⟨k,l,j⟩)) g,h.ne.mod m (λa j g=>i a (.inr (.inr j)) g) o,h.ml,h.nw,h.cb,h.xb,h.cx,h.cn,h.xx,h.xn⟩
def cE.call(h:cE w0 w c C aeM)(a:S w w'):cE w0 w' c C aeM:=h.mod (aa.of_below (F:=bC) a) (λ_ _ h=>h) λ_ h=>h.elim
def cE.more(h:cE w0 w c C aeM)(g:aeM<=N'):cE w0 w c C N':=⟨h.blk,h.n1,h.n6,λk a=>(h.si k a).more g,h.ne,h.ml,h.nw,h.cb,h.xb,h.cx,h.cn,h.xx,h.xn⟩
def cE.site(h:cE w0 w c C aeM)(hN:aeM<=N')(v:k<6){Q:bO->aV->bJ->Prop}(hT:dU w k (C.X k) N' w' Q):
  ∃m t x,cE w0 w' c {C with X:=upd C.X k m,s:=upd C.s k t,p:=upd C.p k x} N'/\Q m t x/\aa (C.G c) w w'/\∀a,aJ.G {C with X:=upd C.X k m,s:=upd C.s k t,p:=upd C.p k x} c a->C.G c a\/w.heap.size<=a:=by
 obtain⟨m,t,x,h1,⟨hd,hu⟩,R,J,hq⟩:=hT;have hi:=h.inh;have y:∀j,j<6->∀a,(C.X j).G a->j≠k->¬m.G a:=λj g a B W hX=>by rcases J a hX with h'|h';exact h.xx j k g v W a B h';have:=hi a (.inr (.inl ⟨j,g,B⟩));omega
 have hA:aJ.A {C with X:=upd C.X k m,s:=upd C.s k t,p:=upd C.p k x}=C.A:=by
  have K:(λj=>(upd C.X k m j).d)=λj=>(C.X j).d:=funext λj=>by by_cases e:j=k;subst e;rw[eD];exact hd;rw[eK _ _ e]
  have P:(λj=>(upd C.X k m j).u)=λj=>(C.X j).u:=funext λj=>by by_cases e:j=k;subst e;rw[eD];exact hu;rw[eK _ _ e]
  show kP _ (λj=>(upd C.X k m j).d) (λj=>(upd C.X k m j).u) _ _=kP _ _ _ _ _;rw[K,P]
 refine⟨m,t,x,⟨?_,h.n1,h.n6,λj g=>?_,h.ne.mod R (h.xn k v).symm (h.xb k v),h.ml,h.nw,h.cb,λj g a hq=>?_,λj g hq=>?_,h.cn,λi j E g r a o l=>?_,λj g a hq hn=>?_⟩,hq,R.mono λa hq=>.inr (.inl ⟨k,v,hq⟩),λa hq=>?_⟩;rw[hA];exact R.blk h.blk (h.cx k v)
 ·by_cases e:j=k;subst e;simp only[eD];exact h1;simp only[eK _ _ e];exact((h.si j g).more hN).mod R (h.xx j k g v e)
 ·by_cases e:j=k;subst e;simp only[eD]at hq;rcases J a hq with h'|h';exact h.xb j g a h';have:=h.ne.T.below.size;omega;simp only[eK _ _ e]at hq;exact h.xb j g a hq
 ·by_cases e:j=k;subst e;simp only[eD]at hq;rcases J c hq with h'|h';exact h.cx j g h';have:=h.blk.lt;omega;simp only[eK _ _ e]at hq;exact h.cx j g hq
 ·by_cases K:i=k;subst K;simp only[eD]at o;simp only[eK _ _ (eC r)]at l;exact y j g a l (eC r) o;simp only[eK _ _ K]at o;by_cases P:j=k;subst P;simp only[eD]at l;exact y i E a o K l;simp only[eK _ _ P]at l;exact h.xx i j E g r a o l
 ·by_cases e:j=k;subst e;simp only[eD]at hq;rcases J a hq with h'|h';exact h.xn j g a h' hn;have:=h.ne.inh a hn;omega;simp only[eK _ _ e]at hq;exact h.xn j g a hq hn
 rcases hq with hq|⟨j,g,hq⟩|hq;exact .inl (.inl hq)
 ·by_cases e:j=k;subst e;simp only[eD]at hq;rcases J a hq with h'|h';exact .inl (.inr (.inl ⟨j,g,h'⟩));exact .inr h';simp only[eK _ _ e]at hq;exact .inl (.inr (.inl ⟨j,g,hq⟩))
 exact .inl (.inr (.inr hq))
end
section
variable(n:Nat)(d u:Nat->Nat)(h:Nat)(now:Int)
@[go_sem] theorem aet:(kP n d u h now)[0]? =some (Z n):=rfl
@[go_sem] theorem aes:(kP n d u h now)[13]? =some (N h):=rfl
@[go_sem] theorem adD:(kP n d u h now)[14]? =some (q now):=rfl
def xI(k:Nat)(a:k<6):(kP n d u h now)[1+k*2]? =some (N (d k)):=an.six (P:=λk=>(kP n d u h now)[1+k*2]? =some (N (d k))) O O O O O O k a
def xv(k:Nat)(a:k<6):(kP n d u h now)[1+k*2+1]? =some (N (u k)):=an.six (P:=λk=>(kP n d u h now)[1+k*2+1]? =some (N (u k))) O O O O O O k a
end
structure Fu(w:D)(c k d u h n:Nat)(now:Int):Prop where
 cd:w.cell? (I c (1+k*2))=some (N d)
 cu:w.cell? (I c (1+k*2+1))=some (N u)
 ch:w.cell? (I c 13)=some (N h)
 cn:w.cell? (I c 0)=some (Z n)
 cw:w.cell? (I c 14)=some (q now)
 fr:∀i,w.frozen? (I c i)=false
 lt:c<w.heap.size
def cE.rd{C:aJ}(h:cE w0 w c C aeM)(a:k<6):Fu w c k (C.X k).d (C.X k).u C.h C.n C.now:=
 ⟨by rw[h.blk.cell];exact xI _ _ _ _ _ k a,by rw[h.blk.cell];exact xv _ _ _ _ _ k a,by rw[h.blk.cell];rfl,by rw[h.blk.cell];rfl,by rw[h.blk.cell];rfl,h.blk.frozen,h.blk.lt⟩
def zn(x:Int)(w:D):Calls prog 20 #[Z x] w λr w'=>r=.returned (.bool (decide (1<=x/\x<=6)))/\w=w':=by
 by_cases g:1<=x
 ·by_cases a:x<=6
  ·go_wp2;go_ret;exact⟨by simp[g,a],O⟩
  go_wp2;go_ret;exact⟨by simp[a],O⟩
 go_wp2;go_ret;have e:¬(1<=x):=V;exact⟨by simp[e],O⟩
def iS(x:Int)(w:D):Calls prog 47 #[Z x] w λr w'=>r=.returned (.agg (bF z.zero x))/\S w w':=by obtain⟨u,a,h,j⟩:=tH w 66 (bF z.zero 0);have t:=gh h O z.zero x;have m:=aB (dt h (bF z.zero x)) (Below.rowN j (g:=w.heap.size) (ao _) (bF z.zero x));have l:=U a;clear j h a;go_in;go_upto_region 1 with fail;refine dI l.o ?_;clear l;go_wp2_with fail;exact eI (s:=2) results47 O m.o.1 underlying66 O (fJ _ _) O ⟨O,m.o.2⟩
def vo{C:aJ}(h:cE w0 w c C aeM)(j:k<6){b:Bool}(m:(!(C.p k).dark&& !(C.X k).dead)=b):Calls prog 21 #[.pointer (some (I c (1+k*2)))] w λr w'=>r=.returned (.bool b)/\w=w':=by
 obtain⟨u,x,-,-,-,y,v⟩:=h.rd j;have i:=h.si k j;have a:Calls prog 34 #[N ((C.X k).d)] w λr w'=>r=.returned (.bool (!(C.p k).dark))/\w=w':=by rcases i.dk with⟨-,g⟩|⟨-,n,aeL,g,-⟩;exact GB g;exact GB g
 have a:=U a;have l:=U (Vz i.du);clear h i;subst m;generalize (C.p k).dark=t at a⊢;generalize (C.X k).dead=xd at l⊢;go_in;cases t with
 |true=>go_wp2_with (go_at_call 34;apply a.o.mono;rintro r w2 ⟨rfl,rfl⟩);go_ret;exact⟨O,O⟩
 |false=>go_wp2_with (first|(go_at_call 34;apply a.o.mono;rintro r w2 ⟨rfl,rfl⟩)|(go_at_call 35;apply l.o.mono;rintro r w2 ⟨rfl,rfl⟩));go_ret;exact⟨ah,O⟩
@[go_sem ↓ high] def aaX:=@iY 58
def bD.ask(x:bD):dT:=⟨x.a.k,x.a.n,x.a.t,x.a.a,x.a.r,x.a.f⟩
def bD.ok.ask{x:bD}(h:x.ok):x.ask.ok:=⟨h.a.k,h.a.n,h.a.t,h.a.a,h.a.r,h.a.f⟩
def pg(x:bD):(prog.info? 58).map (·.size)=some (aX x).size:=by rw[vZ];kernel_rfl
section
variable{w:D}{g:Nat}{t:ay}{x:bD}(h:M w g t (aX x))
include h
def k7:(dQ 58 (N g)).run prog w=.ok (.value (.agg (aX x))) w:=f8 h underlying58 O (pg x)
def Gj:(dQ 55 (.pointer (some (I g 2)))).run prog w=.ok (.value (.agg (bE x.ask))) w:=
 eO (h.rngAt (o:=2) (n:=0) (bE x.ask) λj v a=>by
  match j,a with
  |0,a=>exact a
  |1,a=>exact a
  |2,a=>exact a
  |3,a=>exact a
  |4,a=>exact a
  |5,a=>exact a
  |j+6,a=>simp[bE]at a) underlying55 O (Fl _)
end
def bQ.tight{n:aV}{aeL:Option aW}(h:bQ w F d s n aeL p):bQ w (λa=>F a/\∀cs,¬M w a 64 cs) d s n aeL p:=by
 have v:∀{a:Nat} {t:ay} {cs:Array H},M w a t cs->t≠64->∀y,¬M w a 64 y:=λu J y G=>J (M.type_eq u G).1;have m:∀{A:Option Addr} {l:List Int} {c:Nat},bM w A l c->kr F A l->kr (λa=>F a/\∀cs,¬M w a 64 cs) A l:=λT R b o e j=>by obtain⟨b',o',cs,B,u,-⟩:=T.blk j;rw[e]at B;injection B with B;injection B with W C;subst W;exact⟨R b o e j,v u ai⟩
 obtain⟨lo,u,j⟩:=h.blk;refine⟨⟨lo,u,?_⟩,h.hs,h.hn,m h.hs h.sf,m h.hn h.nf,⟨h.fd,v u ai⟩,h.ok,h.sl,h.nl,λa K=>h.inh a K.1⟩;cases aeL with
 |none=>exact j
 |some x=>
  refine⟨j.1,λg r=>⟨j.2.1 g r,?_⟩,?_⟩
  ·rcases j.1.2 with⟨C,-⟩|⟨g',P,Q,C,-,E,-⟩
   ·rw[C]at r;cases r
   rw[C]at r;injection r with r;subst r;exact v E ai
  have i:=j.2.2;cases x with
  |app bx A l c=>exact⟨i.1,i.2.1,⟨i.2.2.1,v i.1 ai⟩,m i.2.1 i.2.2.2⟩
  |cut bf bn n=>exact⟨i.1,⟨i.2.1,v i.1.head ai⟩,⟨i.2.2,v i.1.drop.head ai⟩⟩
def jX.tight{b:List Int}(h:jX w F d s p b):jX w (λa=>F a/\∀cs,¬M w a 64 cs) d s p b:=by rcases h with⟨g,i⟩|⟨g,n,aeL,i,j⟩;exact .inl ⟨g,i.tight⟩;exact .inr ⟨g,n,aeL,i.tight,j⟩
def bO.tight(w:D)(X:bO):bO:={X with R:=X.R.tight,F:=λa=>X.F a/\∀g,¬M w a 64 g}
def dq.tight{X:bO}(h:dq w k X n s p):dq w k (X.tight w) n s p/\(∀g,(X.tight w).G g->X.G g)/\∀g cs,(X.tight w).G g->¬M w g 64 cs:=by obtain⟨o,i,m⟩:=h.re.tight;refine⟨⟨h.du,o,h.jo,h.dk.tight,h.lv,h.uj,λhq=>h.uF hq.1,λhq=>h.jF hq.1,λhq=>h.uR (i _ hq),λhq=>h.jR (i _ hq),λg a b=>h.rF g (i g a) b.1⟩,λg hq=>?_,λg cs hq l=>?_⟩;rcases hq with hq|hq|hq|hq;exact .inl hq;exact .inr (.inl hq);exact .inr (.inr (.inl (i g hq)));exact .inr (.inr (.inr hq.1));rcases hq with hq|hq|hq|hq;have hq:g=X.u:=hq;subst hq;exact absurd (M.type_eq l h.du).1 ai;have hq:g=X.j:=hq;subst hq;exact absurd (M.type_eq l h.jo).1 ai;exact m g cs hq l;exact hq.2 cs l
def dU.since{l W:D}{B:Nat}{X:bO}{v:Nat->Prop}{Q:bO->aV->bJ->Prop}(h:dU l k X n w2 Q)(s:fB [64] v B w2 W)(hF:∀a,¬v a)(J:∀X' s' p',Q X' s' p'->Q (X'.tight w2) s' p'):
  ∃X' s' p',dq W k X' n s' p'/\(X'.d=X.d/\X'.u=X.u)/\(∀a,X'.G a->X.G a\/l.heap.size<=a)/\Q X' s' p'/\∀a cs,X'.G a->¬M W a 64 cs:=by
 obtain⟨X',s',p',C,y,-,A,E⟩:=h;obtain⟨r,x,m⟩:=C.tight;have o:∀a,(X'.tight w2).G a->W.heap[a]? =w2.heap[a]?:=λa g=>by rcases s.block a (r.inh a g)with h|⟨-,⟨cs,t,P,i⟩,-⟩|h;exact h;rw[dd.1 P]at i;exact absurd i (m a cs g);exact absurd h (hF a)
 have K:=r.mod (G:=λa=>¬(X'.tight w2).G a) (w':=W) ⟨s.os,s.tape,s.output,s.size,λa g j=>o a (Classical.not_not.1 j)⟩ (λa g j=>j g);refine⟨X'.tight w2,s',p',K,y,λa g=>A a (x a g),J _ _ _ E,λa cs g i=>m a cs g ?_⟩;exact(o a g).symm.trans i
structure dW(w0 w w':D)(c:Nat)(C C':aJ)(aeM:Nat):Prop where
 at_:cE w0 w' c C' aeM
 mod:aa (C.G c) w w'
 sub:∀aeT,C'.G c aeT->C.G c aeT\/w.heap.size<=aeT
 n:C'.n=C.n
section
variable{w0 w w' w'' W:D}{c aeM N' b r:Nat}{C C' C'':aJ}{x:bD}
def dW.refl(h:cE w0 w c C aeM):dW w0 w w c C C aeM:=⟨h,aa.refl,λ_ h=>.inl h,O⟩
def dW.call(h:dW w0 w w' c C C' aeM)(a:S w' w''):dW w0 w w'' c C C' aeM:=⟨h.at_.call a,h.mod.call a,h.sub,h.n⟩
def dW.more(h:dW w0 w w' c C C' aeM)(a:aeM<=N'):dW w0 w w' c C C' N':=⟨h.at_.more a,h.mod,h.sub,h.n⟩
def dW.trans(h:dW w0 w w' c C C' aeM)(g:dW w0 w' w'' c C' C'' N'):dW w0 w w'' c C C'' N':=⟨g.at_,h.mod.trans' g.mod λa i j=>by
 rcases h.sub a j with h|h;exact h;omega,λa i=>by
 rcases g.sub a i with h'|h';exact h.sub a h';exact .inr (aZ h.mod.size h'),g.n.trans h.n⟩
def dW.pre(h:S w w')(g:dW w0 w' w'' c C C'' N'):dW w0 w w'' c C C'' N':=⟨g.at_,(aa.of_below h).trans g.mod,λa i=>by rcases g.sub a i with h'|h';exact .inl h';exact .inr (aZ h.size h'),g.n⟩
structure dv(C:aJ):Prop where
 si:∀k,k<6->jp C.n k (ci C.aeR) (C.X k) (C.s k) (C.p k) (C.aeR k)
 ml:∀m∈C.ML,∀e∈m.l,ci C.aeR e
def jr(C C':aJ):Prop:=dv C'/\∀k,jc k (C.aeR k) (C'.aeR k)
def jY(C:aJ)(C':aJ)(_:z)(_:Int):Prop:=dv C->jr C C'
def aJ.put(C:aJ)(k:Nat)(X:bO)(s:aV)(p:bJ)(y:fA):aJ:={C with X:=upd C.X k X,s:=upd C.s k s,p:=upd C.p k p,aeR:=ir C.aeR k y}
def zu{α:Type}(f:Nat->α)(k:Nat)(a b:α):upd (upd f k a) k b=upd f k b:=funext λj=>by by_cases e:j=k;subst e;rw[eD,eD];rw[eK _ _ e,eK _ _ e,eK _ _ e]
def Rn(C:aJ)(k:Nat)(X X':bO)(s s':aV)(p p':bJ)(y y':fA):(C.put k X s p y).put k X' s' p' y'=C.put k X' s' p' y':=by have a:=zu C.X k X X';have g:=zu C.s k s s';have i:=zu C.p k p p';have h:ir (ir C.aeR k y) k y'=ir C.aeR k y':=zu C.aeR k y y';unfold aJ.put;dsimp only;rw[a,g,i,h]
section
variable{C C' C'':aJ}{k:Nat}{X':bO}{s':aV}{p':bJ}{y':fA}
def jr.refl(h:dv C):jr C C:=⟨h,λ_=>jc.refl _ _⟩
def jr.trans(h:jr C C')(g:jr C' C''):jr C C'':=⟨g.1,λk=>(h.2 k).trans (g.2 k)⟩
def jY.then(h:dv C->jr C C')(g:dv C'->jr C' C''):dv C->jr C C'':=λa=>(h a).trans (g (h a).1)
def dv.put(h:dv C)(o:jp C.n k (ci (ir C.aeR k y')) X' s' p' y')(a:(C.aeR k).J<+:y'.J):dv (C.put k X' s' p' y'):=by refine⟨λj l=>?_,λm g e i=>ci.upd a (h.ml m g e i)⟩;show jp C.n j (ci (ir C.aeR k y')) (upd C.X k X' j) (upd C.s k s' j) (upd C.p k p' j) (ir C.aeR k y' j);by_cases e:j=k;subst e;rw[eD,eD,eD,uI];exact o;rw[eK _ _ e,eK _ _ e,eK _ _ e,wO _ _ e];exact(h.si j l).mono λx t=>ci.upd a t
def dv.grew(h:dv C)(g:jp C.n k (ci (ir C.aeR k y')) X' s' p' y')(a:jc k (C.aeR k) y'):jr C (C.put k X' s' p' y'):=by refine⟨h.put g a.1,λj=>?_⟩;show jc j (C.aeR j) (ir C.aeR k y' j);by_cases e:j=k;subst e;rw[uI];exact a;rw[wO _ _ e];exact jc.refl _ _
def later{P:Prop}{Q:fA->Prop}(d:fA)(h:P->∃y,Q y):∃y,P->Q y:=by by_cases a:P;obtain⟨y,g⟩:=h a;exact⟨y,λ_=>g⟩;exact⟨d,λh=>absurd h a⟩
def dv.six(h:dv C):lA C.n (λk=>(C.aeR k).J) (λk=>(C.aeR k).m):=by refine⟨λk a=>(h.si k a).run,λk a e g=>?_⟩;rcases(h.si k a).own e (ik _ g)with h1|h1;show e∈(C.aeR e.w).J;rw[h1];exact g;exact h1
end
structure sA(w0 w W:D)(c b r aeM:Nat)(C:aJ)(x:bD):Prop where
 aeI:S w W
 B:M W b 58 (aX x)
 R:M W r 66 (bF z.zero 0)
 at_:cE w0 W c C aeM
 aeK:jP (C.G c) w
 hb:w.heap.size<=b
 hr:w.heap.size<=r
def cE.enter(h:cE w0 w c C aeM)(x:bD):sA w0 w ((w.alloc (.cells (aX x) 58)).alloc (.cells (bF z.zero 0) 66)) c w.heap.size (w.heap.size+1) aeM C x:=by have a:=((ax.nil (w:=w)).push (t:=58) (cs:=aX x) (g:=w.heap.size) O).push (t:=66) (cs:=bF z.zero 0) (g:=w.heap.size+1) ah;have i:S w ((w.alloc (.cells (aX x) 58)).alloc (.cells (bF z.zero 0) 66)):=((aq _ _).alloc (ao _) _).alloc ah _;exact⟨i,a.drop.head,a.head,h.call i,h.inh,ao _,V⟩
def sA.res(E:sA w0 w W c b r aeM C x)(m:aa (C.G c) W w'):M w' r 66 (bF z.zero 0):=m.blk E.R λa=>cF (E.aeK r a) E.hr
def sA.stp(E:sA w0 w W c b r aeM C x)(m:aa (C.G c) W w'):M w' b 58 (aX x):=m.blk E.B λa=>cF (E.aeK b a) E.hb
def sA.o(E:sA w0 w W c b r aeM C x)(aeO:dW w0 W w' c C C' N')(e:z)(y:Int):M (w'.setRow r (bF e y)) r 66 (bF e y)/\dW w0 w (w'.setRow r (bF e y)) c C C' N':=by have l:=E.res aeO.mod;have i:aa (aR r) w' (w'.setRow r (bF e y)):=aa.of_fr1 (fl w' r _) O;have m:=E.hr;have j:=E.R.lt;refine⟨dt l _,aeO.at_.mod i (λa g e=>?_) (λa e=>?_),((aa.of_below E.aeI).trans aeO.mod).trans' i λa g e=>?_,λa g=>?_,aeO.n⟩;have e:a=r:=e;subst e;rcases aeO.sub _ g with h|h;have:=E.aeK _ h;omega;omega;have e:a=r:=e;have:=E.at_.ne.T.below.size;have:=E.at_.cb;have:=E.aeK c (.inl O);omega;have e:a=r:=e;omega;rcases aeO.sub a g with h|h;exact .inl h;exact .inr V
end
def d6(w0 w:D)(c:Nat)(C:aJ)(aeM:Nat)(Q:aJ->z->Int->Prop)(x:Ending)(w':D):Prop:=∃E e C',x=.returned (.agg (bF E e))/\dW w0 w w' c C C' aeM/\Q C' E e
def xu(hk:k<6)(x:bD)(T:x.w=(k:Int)+1)(w:D):Calls prog 219 #[N c,.agg (aX x)] w λr w'=>r=.returned (.pointer (some (I c (1+k*2))))/\S w w':=by
 obtain⟨i,g,h,B⟩:=tH w 58 (aX x);obtain⟨y,f0⟩:=h.rules;have R:=h.lt;have c0:i.cell? (I w.heap.size 1)=some (Z ((k:Int)+1)):=by rw[y];exact bH (λt=>some (Z t)) T
 have Q:IntKind.i64.wrap (k:Int)=k:=bS _ V;have P:(0:Int)<=(k:Int):=V;have G:(k:Int)<6:=V;have E:=U B;have J:=U (λ(v:D) (a:S i v)=>ar ((h.call a).rules).2 (ar (h.call a).lt ((a.cell (p:=(I w.heap.size 1)) R).trans c0)));have C:=U g;clear h B y g;go_in;go_upto_region 1 with fail;refine dI C.o ?_;clear C;refine kW Y Y ?_
 iterate 8 refine pE J.o (aaE Q P G) ?_
 refine dg ?_;intro _ W2 u;go_wp2;go_ret;exact⟨O,E.o.trans (u.mono E.o.size)⟩
def aJ.up(C:aJ)(k:Nat):Bool:= !(C.p k).dark&& !(C.X k).dead
def cE.site'{C:aJ}(h:cE w0 w c C aeM)(u:aeM<=N')(j:k<6){Q:bO->aV->bJ->Prop}(m:dU w k (C.X k) N' w' Q){R:bO->aV->bJ->fA->Prop}
  (r:∀X' s' p',Q X' s' p'->dv C->∃g,R X' s' p' g):∃X' s' p' g,dW w0 w w' c C (C.put k X' s' p' g) N'/\Q X' s' p'/\(dv C->R X' s' p' g):=by
 obtain⟨X',s',p',a,i,t,l⟩:=h.site u j m;obtain⟨g,o⟩:=later (C.aeR k) (r X' s' p' i);exact⟨X',s',p',g,⟨⟨a.blk,a.n1,a.n6,a.si,a.ne,a.ml,a.nw,a.cb,a.xb,a.cx,a.cn,a.xx,a.xn⟩,t,l,O⟩,i,o⟩
def cE.siteG{C:aJ}(h:cE w0 w c C aeM)(u:aeM<=N')(i:k<6){Q:bO->aV->bJ->Prop}(r:dU w k (C.X k) N' w' Q)
  (o:∀X' s' p',Q X' s' p'->jp C.n k (ci C.aeR) (C.X k) (C.s k) (C.p k) (C.aeR k)->∃a,jp C.n k (ci (ir C.aeR k a)) X' s' p' a/\jc k (C.aeR k) a):∃X' s' p' a,dW w0 w w' c C (C.put k X' s' p' a) N'/\Q X' s' p'/\(dv C->jr C (C.put k X' s' p' a)):=by
 obtain⟨X',s',p',a,t,m,j⟩:=h.site' u i r (λX' s' p' l g=>o X' s' p' l (g.si k i));exact⟨X',s',p',a,t,m,λg=>g.grew (j g).1 (j g).2⟩
structure Cp(w:D)(c b k u n:Nat)(now:Int)(x:bD):Prop where
 cu:w.cell? (I c (1+k*2+1))=some (N u)
 cw:w.cell? (I c 14)=some (q now)
 fr:∀i,w.frozen? (I c i)=false
 lt:c<w.heap.size
 fb:∀i,w.frozen? (I b i)=false
 lb:b<w.heap.size
 ak:(dQ 55 (.pointer (some (I b 2)))).run prog w=.ok (.value (.agg (bE x.ask))) w
def Cp.of{C:aJ}{x:bD}(a:M w c 88 C.A)(h:k<6)(g:M w b 58 (aX x)):Cp w c b k (C.X k).u C.n C.now x:=
 ⟨by rw[a.cell];exact xv _ _ _ _ _ k h,by rw[a.cell];rfl,a.frozen,a.lt,g.frozen,g.lt,Gj g⟩
def SH{g:z}{i:Int}(h:Value.tuple #[.agg (aj aeL),Z e]=.tuple #[.agg (aj g),Z i]):aeL=g/\e=i:=by injection h with h;injection h with h;injection h with j a;injection a with a _;injection a with _ a;exact⟨SK j,a⟩
def Ie(C:aJ)(k:Nat)(x:bD)(C':aJ)(E:z)(e:Int):Prop:=
 (C.up k=false/\E=z.zero/\e=8/\C'=C)\/(C.up k=true/\∃a g h i,C'=C.put k a g h i/\su (C.X k).R.gn (bB (C.X k).R.m k x.ask).1 (bB (C.X k).R.m k x.ask).2.1 (bB (C.X k).R.m k x.ask).2.2 (C.s k) (C.p k) E e a g h/\(dv C->dv C'/\tM k x.ask (C.aeR k) i E e))
def XL{C:aJ}(h:cE w0 w c C aeM)(hN:aeM+1<=900000)(hT:dr w){x:bD}(ox:x.ok)(A:k<6)(hx:x.w=(k:Int)+1):
  Calls prog 207 #[N c,.agg (aX x)] w (d6 w0 w c C (aeM+1) (Ie C k x)):=by
 obtain⟨W0,T⟩:=cJ ((w.alloc (.cells (aX x) 58)).alloc (.cells (bF z.zero 0) 66));have E:=h.enter x;rw[<-T]at E;generalize μ:w.heap.size+1=r0 at E;have δ:=hT.call' E.aeI;have HW:=U T;have CW:=U (λW=>xu (c:=c) A x hx W);obtain⟨b,P⟩:=aM (C.up k);have γ:=k7 E.B;obtain⟨qb,fb⟩:=E.B.rules;have i:=cQ E δ ox P;clear h hT E δ ox T qb;go_in;go_upto_region 1 with fail;refine dI HW.o ?_;clear HW;go_wp2_with fail;apply(CW.o W0).mono;rintro r W1 ⟨rfl,a⟩;have J:=i.o.1.at_.call a;have CU:=U (vo J A (show _=b from i.o.2.2.2));clear γ fb CW J;cases b with
 |false=>go_wp2_with (go_at_call 21;apply CU.o.mono;rintro r W2 ⟨rfl,rfl⟩);apply(iS 8 W1).mono;rintro r W2 ⟨rfl,κ⟩;have K:=((dW.refl i.o.1.at_).call a).call κ;have Br:=i.o.1.res K.mod;have η:=gh Br O z.zero 8;have HX:=U (i.o.1.o K z.zero 8);clear K Br;go_wp2_with fail;exact eI (s:=4) results207 O HX.o.1 underlying66 O (fJ _ _) O ⟨_,_,_,O,HX.o.2.more V,.inl ⟨i.o.2.2.2,O,O,O⟩⟩
 |true=>
  go_upto_region 4 with(go_at_call 21;apply CU.o.mono;rintro r W2 ⟨rfl,rfl⟩);have J:=i.o.1.at_.call a;have Q:=J.si k A;have y:(C.p k).dark=false/\(C.X k).dead=false:=by have:=i.o.2.2.2;unfold aJ.up at this;simpa using this
  have HF:=U (λ(j:D) (hm:aa (C.X k).G W1 j)=>Cp.of (hm.blk J.blk (J.cx k A)) A (hm.blk (i.o.1.stp (aa.of_below a)) λhG=>aA (i.o.1.aeK w.heap.size (.inr (.inl ⟨k,A,hG⟩)))));have CA:=U (λ(j:D) (P:S W1 j)=>Yv (Q.call P) y.2 y.1 hN ((i.o.2.1.call' a).call' P) i.o.2.2.1.ask J.nw);have β:=U (show∀t,(C.X k).G t->t<W1.heap.size from λt l=>Q.inh t l);have H1:=aB a J;have HU:=aB i.o.2.2.1.ask y;clear a J Q y CU;refine dL [64] (C.X k).G 10 β.o Y Y ?_
  iterate 10
   first
   |refine gS rfl ?_;apply cV
    intro _ ρ θ ζ ε W P;have l:=HF.o W P;simp[execOp,go_sem,θ,ζ,ε,l,l.cu,l.cw,l.fr,l.lt,l.fb,l.lb,l.ak]<;>exact O
   |refine gz (λ_=>rfl) ?_
   simp only[aD]
  refine jl (λ_=>rfl) O 220 (λ_=>#[N ((C.X k).u),.agg (bE x.ask),q C.now]) (λv:z×Int=>.tuple #[.agg (aj v.1),Z v.2]) (z.zero,0) (λj v Y'=>∃aeL e,v=.tuple #[.agg (aj aeL),Z e]/\dU j k (C.X k) (aeM+1) Y' (su (C.X k).R.gn (bB (C.X k).R.m k x.ask).1 (bB (C.X k).R.m k x.ask).2.1 (bB (C.X k).R.m k x.ask).2.2 (C.s k) (C.p k) aeL e)) cK (λ_ j P=>?ca) ?_
  case ca=>refine(CA.o j P).mono ?_;rintro r Y' ⟨e,aeL,rfl,hT⟩;exact⟨(aeL,e),O,⟨aeL,e,O,hT⟩,by obtain⟨_,_,_,_,_,m,_⟩:=hT;exact m⟩
  simp only[aD]
  iterate 3
   refine kU O ?_;simp only[aD]
  refine ng (λ_=>rfl) 64 (aj z.zero) nK ?_;simp only[aD];refine o8 (λ_=>rfl) 14 64 64 14 _ _ O ai O ah β.o _ _ _ (λ_=>rfl) (λ_=>rfl) cD (iQ z.zero) (λ_=>rfl) (λ_=>wN _) ?_;simp only[aD]
  iterate 1
   refine kU O ?_;simp only[aD]
  refine cT Y ?_;rintro⟨⟨_,⟨aeL,e⟩⟩,v⟩ W2 hC hR;replace hC:aa (C.X k).G W1 W2:=hC;dsimp only;simp only[d8,Nat.reduceAdd,Nat.zero_add]at hR;obtain⟨w1,w2,a,-,⟨M',e',he,g3⟩,g4⟩:=fK (hR 10 _ _ cD) O;obtain⟨g,v',hx,n6,B6⟩:∃g v',[v,Value.agg (aj aeL)]=[N g,v']/\W1.heap.size<=g/\M W2 g 64 (Value.toArr v'):=hR 15 _ _ cD;injection hx with h6 α;injection α with α;subst h6 α;replace B6:M W2 g 64 (aj aeL):=B6;obtain⟨rfl,rfl⟩:=SH he;obtain⟨X',s',p',r1,r2,r3,r4,-⟩:=g3.since g4 (λ_ h=>h.1 O) λ_ _ _ h=>h;have ι:=(a O).size;obtain⟨X',s',p',y',K,hQ,hY⟩:=H1.o.2.site' (N':=aeM+1) V A ⟨X',s',p',r1,r2,hC,λt l=>(r3 t l).imp id λh=>aZ ι h,r4⟩ (λX' s' p' l hs=>Rb A (hs.si k A) HU.o.2.2 HU.o.2.1 HU.o.1 l);have hY:dv C->dv (C.put k X' s' p' y')/\tM k x.ask (C.aeR k) y' aeL e:=λhs=>⟨hs.put (hY hs).1 (hY hs).2.pre,(hY hs).2⟩;replace K:=K.pre H1.o.1;have Br:=i.o.1.res K.mod;have γ:=gj B6;have η:=gh Br O aeL e;have HX:=U (i.o.1.o K aeL e);have HQ:=aB hQ hY;clear hC hR g3 g4 n6 B6 r1 r2 r3 r4 K hQ hY Br HF CA β;go_wp2_with fail;exact eI (s:=4) results207 O HX.o.1 underlying66 O (fJ _ _) O ⟨_,_,_,O,HX.o.2,.inr ⟨i.o.2.2.2,_,_,_,_,O,HQ.o⟩⟩
def pQ:bL->Prop:=λ_=>False
def gF(A:bL->Prop)(w0 w w':D)(h:Nat)(s:H)(X:List aN)(L:List bL):Prop:=∃i g L' C',bK w0 w' [] h i g L' C'/\aa (dH h s X) w w'/\(∀a,dH h i g a->dH h s X a\/w.heap.size<=a)/\(L.length<=128->L'.length<=128)/\∀m∈L',m∈L\/A m
section
variable{w0 w w' w'':D}{h:Nat}{s:H}{X:List aN}{L:List bL}{C:Nat->Bool}{A:bL->Prop}
def jJ.any(n:jJ w0 w w' [] h s X L' C')(g:L.length<=128->L'.length<=128)(o:∀m∈L',m∈L\/A m):gF A w0 w w' h s X L:=by obtain⟨a,j,i,l,r⟩:=n.parts;exact⟨a,j,L',C',i,l,r,g,o⟩
def bK.any(aeM:bK w0 w [] h s X L C):gF A w0 w w h s X L:=⟨s,X,L,C,aeM,aa.refl,λ_ h=>.inl h,id,λ_ h=>.inl h⟩
def gF.call(n:gF A w0 w w' h s X L)(a:S w' w''):gF A w0 w w'' h s X L:=by obtain⟨g,j,L',C',i,l,m,o⟩:=n;exact⟨g,j,L',C',i.call a,l.call a,m,o⟩
def Fv(n:bK w0 w' [] h s X L C')(f:aH w w' h none):gF A w0 w w' h s X L:=⟨s,X,L,C',n,aa.of_fr1 f (.inl O),λ_ h=>.inl h,id,λ_ h=>.inl h⟩
def gF.pre(g:S w w')(n:gF A w0 w' w'' h s X L):gF A w0 w w'' h s X L:=by obtain⟨i,m,L',C',l,o,r,t⟩:=n;exact⟨i,m,L',C',l,(aa.of_below g).trans o,λa j=>(r a j).imp id (aZ g.size),t⟩
def gF.trans{s':H}{X':List aN}(m:aa (dH h s X) w w')(i:∀a,dH h s' X' a->dH h s X a\/w.heap.size<=a)(j:(L.length<=128->L'.length<=128)/\∀m∈L',m∈L\/A m)(n:gF A w0 w' w'' h s' X' L'):gF A w0 w w'' h s X L:=by obtain⟨o,y,r,v,u,t,B,l⟩:=n;refine⟨o,y,r,v,u,m.trans' t λa g G=>?_,λa g=>?_,λh=>l.1 (j.1 h),λx E=>?_⟩;rcases i a G with h|h;exact h;omega;rcases B a g with h|h;exact i a h;exact .inr (aZ m.size h);rcases l.2 x E with h|h;exact j.2 x h;exact .inr h
def gF.to{B:bL->Prop}(n:gF A w0 w w' h s X L)(o:∀m,A m->B m):gF B w0 w w' h s X L:=by obtain⟨i,l,L',C',j,r,t,a⟩:=n;exact⟨i,l,L',C',j,r,t,a.1,λm g=>(a.2 m g).imp id (o m)⟩
def Un(aeM:bK w0 w [] h s X L C)(k:Int):Calls prog 225 #[N h,Z k] w λe w'=>(∃b,e=.returned (.bool b))/\gF pQ w0 w w' h s X L:=by have o:=aeM.evs.len;by_cases j:0<=k/\k<(X.length:Int);obtain⟨i,rfl⟩:∃i:Nat,k=i:=⟨k.toNat,V⟩;have l:i<L.length:=V;exact(O5 i _ (bY l) aeM).mono λe w' a=>⟨⟨_,a.1⟩,a.2.any (λh=>aZ (List.length_eraseIdx_le _ _) h) λm g=>.inl (IR g)⟩;obtain⟨A,c,rfl,-⟩:=dS aeM.own;exact(Ml k A X.length c aeM.blk (fO j)).mono λe w' a=>⟨⟨_,a.1⟩,aeM.any.call a.2⟩
def Q0(aeM:bK w0 w [] h s X L C)(r:∀m∈L,vu m)(k:Int):Calls prog 226 #[N h,Z k] w λe w'=>(∃b,e=.returned (Z b))/\gF pQ w0 w w' h s X L:=by
 have t:=aeM.evs.len;by_cases j:0<=k/\k<(X.length:Int)
 ·by_cases o:X.length<128;obtain⟨i,rfl⟩:∃i:Nat,k=i:=⟨k.toNat,V⟩;have g:i<L.length:=V;refine(NU i _ (bY g) (r _ (List.getElem_mem g)).1 aeM o).mono λe w' a=>⟨⟨_,a.1⟩,a.2.any (λ_=>by rw[bW,yd];omega) λm l=>?_⟩;rcases bP.1 l with h|h;exact .inl h;rw[dd.1 h];exact .inl (List.getElem_mem g);obtain⟨A,c,rfl,-⟩:=dS aeM.own;exact(aah k A X.length c aeM.blk (fa j) V).mono λe w' a=>⟨⟨_,a.1⟩,a.2▸aeM.any⟩
 obtain⟨A,c,rfl,-⟩:=dS aeM.own;exact(Z5 k A X.length c aeM.blk (fO j)).mono λe w' a=>⟨⟨_,a.1⟩,a.2▸aeM.any⟩
def Wk(aeM:bK w0 w [] h s X L C)(i j:Int):Calls prog 227 #[N h,Z i,Z j] w λe w'=>(∃b,e=.returned (Z b))/\gF pQ w0 w w' h s X L:=by
 by_cases r:(1<=i/\i<=6)/\(1<=j/\j<=6)/\i≠j;obtain⟨a,rfl⟩:∃a:Nat,i=(a:Int)+1:=⟨(i-1).toNat,V⟩;obtain⟨b,rfl⟩:∃b:Nat,j=(b:Int)+1:=⟨(j-1).toNat,V⟩;exact(Wl aeM a b V V V).mono λe w' g=>⟨⟨_,g.1⟩,Fv g.2.1 g.2.2⟩;refine(O7 h i j ?_ w).mono λe w' g=>⟨⟨_,g.1⟩,g.2▸aeM.any⟩;cases o:cY i with
 |false=>exact .inl O
 |true=>
  cases m:cY j with
  |false=>exact .inr (.inl ⟨O,O⟩)
  |true=>refine .inr (.inr ⟨O,O,?_⟩);obtain⟨a,t,rfl⟩:=rE o;obtain⟨b,u,rfl⟩:=rE m;rw[qd];refine Cx λl=>r ⟨⟨V,V⟩,⟨V,V⟩,l⟩
def Ul(aeM:bK w0 w [] h s X L C):Calls prog 186 #[N h] w λe w'=>e=.returned (.tuple #[])/\gF pQ w0 w w' h s X L:=(Um aeM).mono λe w' a=>⟨a.1,Fv a.2.1 a.2.2⟩
def O4{m:bL}(h:L.length<=128):(nC L C m).length<=128:=by unfold nC;split;exact h;split;exact h;split;exact h;rw[bW,yd];omega
def Wi(aeM:bK w0 w [] h s X L C)(m:bL)(o:m.ok){A:Option Addr}{base:Nat}(u:fS w base (.slice A m.l.length c) m.l)(v:m.l.length<=100000):Calls prog 222 #[N h,.agg (aE ⟨m.k,m.f,m.t,m.d,.slice A m.l.length c,m.n,m.a⟩)] w λe w'=>(∃b,e=.returned (Z b))/\gF (λx=>vu x/\x=m) w0 w w' h s X L:=by
 obtain⟨B,y,E,r,j⟩:=u.sl;obtain⟨rfl,rfl⟩:A=B/\c=y:=by injection E with a _ b;exact⟨a,b⟩
 refine(X9 m o A c (Row.rd u O) r j v aeM).mono λe w' i=>⟨⟨_,i.1⟩,i.2.any O4 λx g=>?_⟩;unfold nC at g;split at g;exact .inl g;split at g;exact .inl g;split at g;exact .inl g;rcases bP.1 g with h|h;exact .inl h;rw[dd.1 h];exact .inr ⟨⟨v,by simpa using‹¬ix m=false›⟩,O⟩
end
def aJ.nt(C:aJ)(s:H)(X:List aN)(L:List bL)(a:Nat->Bool):aJ:={C with sv:=s,MX:=X,ML:=L,cut:=a}
def dv.nt{C:aJ}{s:H}{L:List bL}{a:Nat->Bool}(h:dv C)(i:∀m∈L,m∈C.ML\/∀e∈m.l,ci C.aeR e):jr C (C.nt s X L a):=
 ⟨⟨h.si,λm g=>(i m g).elim (h.ml m) id⟩,λ_=>jc.refl _ _⟩
def cE.nt{C:aJ}{A:bL->Prop}(v:∀m,A m->vu m)(h:cE w0 w c C aeM)(n:gF A w0 w w' C.h C.sv C.MX C.ML):∃s X L g,dW w0 w w' c C (C.nt s X L g) aeM/\∀m∈L,m∈C.ML\/A m:=by obtain⟨s,X,L,g,u,j,l,o⟩:=n;have r:=h.inh;refine⟨s,X,L,g,⟨⟨j.blk h.blk h.cn,h.n1,h.n6,λk i=>(h.si k i).mod j (h.xn k i),u,⟨o.1 h.ml.1,λm t=>(o.2 m t).elim (h.ml.2 m) (v m)⟩,h.nw,h.cb,h.xb,h.cx,λhq=>?_,h.xx,λk i a hq x=>?_⟩,j.mono λa hq=>.inr (.inr hq),λa hq=>?_,O⟩,o.2⟩;rcases l _ hq with h'|h';exact h.cn h';have:=r c (.inl O);omega;rcases l _ x with h'|h';exact h.xn k i a hq h';have:=r a (.inr (.inl ⟨k,i,hq⟩));omega;rcases hq with hq|hq|hq;exact .inl (.inl hq);exact .inl (.inr (.inl hq));exact(l a hq).imp (λh=>.inr (.inr h)) id
def cE.nt'{i j:D}{C:aJ}(h:cE w0 w c C aeM)(l:S w i)(n:gF pQ w0 i w2 C.h C.sv C.MX C.ML)(r:S w2 j):∃s X L a,dW w0 w j c C (C.nt s X L a) aeM/\(dv C->jr C (C.nt s X L a)):=by obtain⟨s,X,L,a,g,u⟩:=(h.call l).nt (λ_ h=>h.elim) n;exact⟨s,X,L,a,(g.pre l).call r,λt=>t.nt λm o=>(u m o).imp id λh=>h.elim⟩
structure sy(w:D)(c b h:Nat)(x:bD):Prop where
 ch:w.cell? (I c 13)=some (N h)
 fr:∀i,w.frozen? (I c i)=false
 lt:c<w.heap.size
 fb:∀i,w.frozen? (I b i)=false
 lb:b<w.heap.size
 ww:w.cell? (I b 1)=some (Z x.w)
 wk:w.cell? (I b 8)=some (Z x.k)
 wj:w.cell? (I b 9)=some (Z x.j)
def sy.of{C:aJ}{x:bD}(g:M w c 88 C.A)(a:M w b 58 (aX x)):sy w c b C.h x:=
 ⟨by rw[g.cell];rfl,g.frozen,g.lt,a.frozen,a.lt,by rw[a.cell];rfl,by rw[a.cell];rfl,by rw[a.cell];rfl⟩
def d6.weak{C C':aJ}{E:z}(aeO:dW w0 w w' c C C' aeM)(a:dv C->jr C C'):d6 w0 w c C aeM (jY C) (.returned (.agg (bF E e))) w':=⟨_,_,_,O,aeO,a⟩
def GE{C:aJ}(h:cE w0 w c C aeM)(x:bD):
  Calls prog 211 #[N c,.agg (aX x)] w (d6 w0 w c C aeM (jY C)):=by
 obtain⟨l,t⟩:=cJ ((w.alloc (.cells (aX x) 58)).alloc (.cells (bF z.zero 0) 66));have E:=h.enter x;rw[<-t]at E;generalize δ:w.heap.size+1=r0 at E;have HW:=U t;have HF:=U (λ(a:D) (hm:aa (dH C.h C.sv C.MX) l a)=>sy.of (hm.blk E.at_.blk E.at_.cn) (hm.blk E.B λhG=>aA (E.aeK w.heap.size (.inr (.inr hG)))));have CA:=U (λ(a:D) (y:S l a)=>(E.at_.call y).ne);have A:=U (show∀j,dH C.h C.sv C.MX j->j<l.heap.size from λj g=>E.at_.ne.inh j g);have J:=U E;clear h E t;go_in;go_upto_region 1 with fail;refine dI HW.o ?_;clear HW;refine dL [] (dH C.h C.sv C.MX) 6 A.o Y Y ?_
 iterate 6 refine Ep HF.o ?_
 refine jl (λ_=>rfl) O 225 (λ_=>#[N C.h,Z x.k]) (λv:Bool=>.bool v) false (λa _ Y'=>gF pQ w0 a Y' C.h C.sv C.MX C.ML) cK (λ_ a y=>?ca) ?_
 case ca=>refine(Un (CA.o a y) x.k).mono ?_;rintro r Y' ⟨⟨v,rfl⟩,hn⟩;exact⟨v,O,hn,by obtain⟨_,_,_,_,_,m,_⟩:=hn;exact m⟩
 simp only[aD]
 iterate 1
  refine kU O ?_;simp only[aD]
 refine cT Y ?_;rintro⟨_,v⟩ W2 T hR;replace T:aa (dH C.h C.sv C.MX) l W2:=T;dsimp only;simp only[d8,Nat.reduceAdd,Nat.zero_add]at hR;obtain⟨w1,w2,P,-,g3,g4⟩:=fK (hR 6 _ _ cD) O;obtain⟨s',X',L',C',i,Q⟩:=J.o.at_.nt' (P O) g3 (g4.below λ_ h=>h.1 O);replace Q:=U Q;clear T hR g3 g4 P HF CA A;cases v with
 |true=>go_wp2_with fail;apply(iS 0 W2).mono;rintro r W3 ⟨rfl,u⟩;have i:=i.call u;have K:=J.o.res i.mod;have β:=gh K O z.zero 0;have G:=U (J.o.o i z.zero 0);clear i K;go_wp2_with fail;exact eI (s:=4) results211 O G.o.1 underlying66 O (fJ _ _) O (d6.weak G.o.2 Q.o)
 |false=>go_wp2_with fail;apply(iS 4 W2).mono;rintro r W3 ⟨rfl,u⟩;have i:=i.call u;have K:=J.o.res i.mod;have β:=gh K O z.zero 4;have G:=U (J.o.o i z.zero 4);clear i K;go_wp2_with fail;exact eI (s:=4) results211 O G.o.1 underlying66 O (fJ _ _) O (d6.weak G.o.2 Q.o)
def FH{C:aJ}(h:cE w0 w c C aeM)(x:bD):
  Calls prog 212 #[N c,.agg (aX x)] w (d6 w0 w c C aeM (jY C)):=by
 obtain⟨l,t⟩:=cJ ((w.alloc (.cells (aX x) 58)).alloc (.cells (bF z.zero 0) 66));have E:=h.enter x;rw[<-t]at E;generalize β:w.heap.size+1=r0 at E;have HW:=U t;have HF:=U (λ(a:D) (hm:aa (dH C.h C.sv C.MX) l a)=>sy.of (hm.blk E.at_.blk E.at_.cn) (hm.blk E.B λhG=>aA (E.aeK w.heap.size (.inr (.inr hG)))));have CA:=U (λ(a:D) (j:S l a)=>(E.at_.call j).ne);have y:=U (show∀i,dH C.h C.sv C.MX i->i<l.heap.size from λi g=>E.at_.ne.inh i g);have HM:=U E.at_.ml;have T:=U E;clear h E t;go_in;go_upto_region 1 with fail;refine dI HW.o ?_;clear HW;refine mX 8 [] (dH C.h C.sv C.MX) 6 y.o Y ah aS aS aS aS ?_;simp only[cR]
 iterate 6 refine Ep HF.o ?_
 refine jl (λ_=>rfl) O 226 (λ_=>#[N C.h,Z x.k]) (λv:Int=>Z v) 0 (λa _ Q=>gF pQ w0 a Q C.h C.sv C.MX C.ML) cK (λ_ a j=>?ca) ?_
 case ca=>refine(Q0 (CA.o a j) HM.o.2 x.k).mono ?_;rintro r Q ⟨⟨v,rfl⟩,hn⟩;exact⟨v,O,hn,by obtain⟨_,_,_,_,_,m,_⟩:=hn;exact m⟩
 simp only[aD];refine pn (λ_=>rfl) (eJ O) 47 (λu=>#[Z u.2]) (λe:Int=>.agg (bF z.zero e)) 0 (λ_ _ _=>True) cK (λ_ a j=>?cb) ?_
 case cb=>refine(iS _ a).mono ?_;rintro r Q ⟨rfl,j⟩;exact⟨_,O,trivial,j⟩
 simp only[aD];refine cT Y ?_;rintro⟨⟨_,v⟩,e⟩ W2 J hR;replace J:aa (dH C.h C.sv C.MX) l W2:=J;dsimp only;simp only[d8,Nat.reduceAdd,Nat.zero_add]at hR;obtain⟨w1,w2,A,-,g3,g4⟩:=fK (hR 6 _ _ cD) O;obtain⟨s',X',L',C',hS,R⟩:=T.o.at_.nt' (A O) g3 (g4.below λ_ h=>h.1 O);replace R:=U R;clear J hR g3 g4 A HF CA y;have Br:=T.o.res hS.mod;have α:=gh Br O z.zero e;have HX:=U (T.o.o hS z.zero e);clear hS Br;go_wp2_with fail;exact eI (s:=4) results212 O HX.o.1 underlying66 O (fJ _ _) O (d6.weak HX.o.2 R.o)
def XK{C:aJ}(h:cE w0 w c C aeM)(x:bD):
  Calls prog 213 #[N c,.agg (aX x)] w (d6 w0 w c C aeM (jY C)):=by
 obtain⟨t,y⟩:=cJ ((w.alloc (.cells (aX x) 58)).alloc (.cells (bF z.zero 0) 66));have E:=h.enter x;rw[<-y]at E;generalize β:w.heap.size+1=r0 at E;have HW:=U y;have HF:=U (λ(a:D) (hm:aa (dH C.h C.sv C.MX) t a)=>sy.of (hm.blk E.at_.blk E.at_.cn) (hm.blk E.B λhG=>aA (E.aeK w.heap.size (.inr (.inr hG)))));have CA:=U (λ(a:D) (l:S t a)=>(E.at_.call l).ne);have A:=U (show∀i,dH C.h C.sv C.MX i->i<t.heap.size from λi g=>E.at_.ne.inh i g);have HH:=U E;clear h E y;go_in;go_upto_region 1 with fail;refine dI HW.o ?_;clear HW;refine mX 10 [] (dH C.h C.sv C.MX) 8 A.o Y ah aS aS aS aS ?_;simp only[cR]
 iterate 8 refine Ep HF.o ?_
 refine jl (λ_=>rfl) O 227 (λ_=>#[N C.h,Z x.w,Z x.j]) (λv:Int=>Z v) 0 (λa _ R=>gF pQ w0 a R C.h C.sv C.MX C.ML) cK (λ_ a l=>?ca) ?_
 case ca=>refine(Wk (CA.o a l) x.w x.j).mono ?_;rintro r R ⟨⟨v,rfl⟩,hn⟩;exact⟨v,O,hn,by obtain⟨_,_,_,_,_,m,_⟩:=hn;exact m⟩
 simp only[aD];refine pn (λ_=>rfl) (eJ O) 47 (λu=>#[Z u.2]) (λe:Int=>.agg (bF z.zero e)) 0 (λ_ _ _=>True) cK (λ_ a l=>?cb) ?_
 case cb=>refine(iS _ a).mono ?_;rintro r R ⟨rfl,l⟩;exact⟨_,O,trivial,l⟩
 simp only[aD];refine cT Y ?_;rintro⟨⟨_,v⟩,e⟩ W2 K hR;replace K:aa (dH C.h C.sv C.MX) t W2:=K;dsimp only;simp only[d8,Nat.reduceAdd,Nat.zero_add]at hR;obtain⟨w1,w2,G,-,g3,g4⟩:=fK (hR 8 _ _ cD) O;obtain⟨s',X',L',C',hS,T⟩:=HH.o.at_.nt' (G O) g3 (g4.below λ_ h=>h.1 O);replace T:=U T;clear K hR g3 g4 G HF CA A;have Br:=HH.o.res hS.mod;have α:=gh Br O z.zero e;have HX:=U (HH.o.o hS z.zero e);clear hS Br;go_wp2_with fail;exact eI (s:=4) results213 O HX.o.1 underlying66 O (fJ _ _) O (d6.weak HX.o.2 T.o)
def GD{C:aJ}(h:cE w0 w c C aeM)(x:bD):
  Calls prog 214 #[N c,.agg (aX x)] w (d6 w0 w c C aeM (jY C)):=by
 obtain⟨a,g⟩:=cJ ((w.alloc (.cells (aX x) 58)).alloc (.cells (bF z.zero 0) 66));have E:=h.enter x;rw[<-g]at E;generalize β:w.heap.size+1=r0 at E;have G:=U g;have y:=U (λ(i:D) (J:aa (dH C.h C.sv C.MX) a i)=>sy.of (J.blk E.at_.blk E.at_.cn) (J.blk E.B λhG=>aA (E.aeK w.heap.size (.inr (.inr hG)))));have P:=U (λ(i:D) (W:S a i)=>(E.at_.call W).ne);have m:=U E;clear h E g;go_in;go_upto_region 1 with fail;refine dI G.o ?_;clear G;obtain⟨T,A,lt,-,-,-,-,-⟩:=y.o a aa.refl;have Q:=U (Ul (P.o a (aq _ _)));clear y P;go_wp2_with fail;apply Q.o.mono;rintro r W2 ⟨rfl,R⟩;obtain⟨s',X',L',C',j,l⟩:=m.o.at_.nt' (aq _ _) R (aq _ _);replace l:=U l;clear R Q T A lt;go_wp2_with fail;apply(iS 0 W2).mono;rintro r W3 ⟨rfl,u⟩;have j:=j.call u;have t:=m.o.res j.mod;have α:=gh t O z.zero 0;have K:=U (m.o.o j z.zero 0);have A:=t.frozen;clear j t;go_wp2_with fail;exact eI (s:=4) results214 O K.o.1 underlying66 O (fJ _ _) O (d6.weak K.o.2 l.o)
def cE.tm{C:aJ}(h:cE w0 w c C aeM){t:Int}(j:bo t):dW w0 w (w.setCell (I c 14) (q t)) c C {C with now:=t} aeM:=by have m:aa (aR c) w (w.setCell (I c 14) (q t)):=aa.set (I c 14) (show aR c c from O) _;refine⟨⟨h.blk.set_ 14 (q t),h.n1,h.n6,λk i=>(h.si k i).mod m λa g e=>?_,h.ne.mod m (λa g e=>?_) λa e=>?_,h.ml,j,h.cb,h.xb,h.cx,h.cn,h.xx,h.xn⟩,m.mono λa e=>.inl e,λa g=>.inl g,O⟩;have e:a=c:=e;subst e;exact h.cx k i g;have e:a=c:=e;subst e;exact h.cn g;have e:a=c:=e;subst e;exact h.cb
structure Co(w:D)(c b:Nat)(now:Int)(x:bD):Prop where
 cw:w.cell? (I c 14)=some (q now)
 fr:∀i,w.frozen? (I c i)=false
 lt:c<w.heap.size
 fb:∀i,w.frozen? (I b i)=false
 lb:b<w.heap.size
 wn:w.cell? (I b 10)=some (Z x.n)
def Co.of{C:aJ}{x:bD}(a:M w c 88 C.A)(g:M w b 58 (aX x)):Co w c b C.now x:=
 ⟨by rw[a.cell];rfl,a.frozen,a.lt,g.frozen,g.lt,by rw[g.cell];rfl⟩
def GC{C:aJ}(h:cE w0 w c C aeM)(x:bD):
  Calls prog 209 #[N c,.agg (aX x)] w (d6 w0 w c C aeM (jY C)):=by
 obtain⟨i,Q⟩:=cJ ((w.alloc (.cells (aX x) 58)).alloc (.cells (bF z.zero 0) 66));have E:=h.enter x;rw[<-Q]at E;generalize η:w.heap.size+1=r0 at E;have J:=U Q;have HF:=U (λ(G:D) (T:S i G)=>Co.of (E.at_.call T).blk (E.B.call T));have u:=U E;obtain⟨cw,A,lt,fb,lb,wn⟩:=HF.o i (aq _ _);clear h E Q;by_cases t1:x.n<0
 ·go_in;go_upto_region 1 with fail;refine dI J.o ?_;clear J;go_quiet (fail);have a:S i (i.drewN nq):=j7 (aq _ _) nq;have g:=(dW.refl u.o.at_).call a;generalize i.drewN nq=W1 at a g⊢;clear cw A lt fb lb wn;go_wp2_with fail;apply(iS 1 W1).mono;rintro r W3 ⟨rfl,m⟩;have l:=g.call m;have j:=u.o.res l.mod;have K:=gh j O z.zero 1;have y:=U (u.o.o l z.zero 1);have A:=j.frozen;clear l j;go_wp2_with fail;exact eI (s:=4) results209 O y.o.1 underlying66 O (fJ _ _) O (d6.weak y.o.2 λh=>.refl h)
 by_cases t2:1099511627776<x.n
 ·go_in;go_upto_region 1 with fail;refine dI J.o ?_;clear J;go_quiet (fail);have a:S i (i.drewN nq):=j7 (aq _ _) nq;have g:=(dW.refl u.o.at_).call a;generalize i.drewN nq=W1 at a g⊢;clear cw A lt fb lb wn;go_wp2_with fail;apply(iS 1 W1).mono;rintro r W3 ⟨rfl,m⟩;have l:=g.call m;have j:=u.o.res l.mod;have K:=gh j O z.zero 1;have y:=U (u.o.o l z.zero 1);have A:=j.frozen;clear l j;go_wp2_with fail;exact eI (s:=4) results209 O y.o.1 underlying66 O (fJ _ _) O (d6.weak y.o.2 λh=>.refl h)
 have e1:IntKind.u64.wrap x.n=x.n:=by rw[sN];omega
 by_cases t3:1099511627776<IntKind.u64.wrap (C.now+x.n)
 ·go_in;go_upto_region 1 with fail;refine dI J.o ?_;clear J;go_quiet (fail);have a:S i (i.drewN nq):=j7 (aq _ _) nq;have g:=(dW.refl u.o.at_).call a;generalize i.drewN nq=W1 at a g⊢;clear cw A lt fb lb wn;go_wp2_with fail;apply(iS 1 W1).mono;rintro r W3 ⟨rfl,m⟩;have l:=g.call m;have j:=u.o.res l.mod;have K:=gh j O z.zero 1;have y:=U (u.o.o l z.zero 1);have A:=j.frozen;clear l j;go_wp2_with fail;exact eI (s:=4) results209 O y.o.1 underlying66 O (fJ _ _) O (d6.weak y.o.2 λh=>.refl h)
 go_in;go_upto_region 1 with fail;refine dI J.o ?_;clear J;go_quiet (fail);have a:S i (i.drewN nq):=j7 (aq _ _) nq;have g:=(dW.refl u.o.at_).call a;generalize i.drewN nq=W1 at a g⊢;clear cw A lt fb lb wn;go_upto_region 3 with fail;have γ:=U (λ(G:D) (T:S W1 G)=>HF.o G (a.trans (T.mono a.size)));refine eS 10 Y ah aS aS aS aS ?_;simp only[cR]
 iterate 10
  first
  |refine kX rfl ?_;apply cV
   intro _ ρ ζ ε δ W T;have P:=γ.o W T;simp[execOp,go_sem,ζ,ε,δ,P,P.cw,P.fr,P.lt,P.fb,P.lb,P.wn,e1]<;>exact O
  |refine kz (λ_=>rfl) ?_
  simp only[aD]
 refine dg ?_;intro _ W2 β _;obtain⟨cw,A,lt,fb,lb,wn⟩:=γ.o W2 β;have R:=g.call β;have α:=R.trans (R.at_.tm (t:=IntKind.u64.wrap (C.now+x.n)) (AY _));clear fb lb wn g R;go_upto_region 4 with fail;generalize World.setCell W2 _ _=W4 at α⊢;go_wp2_with fail;apply(iS 0 W4).mono;rintro r W3 ⟨rfl,m⟩;have l:=α.call m;have j:=u.o.res l.mod;have K:=gh j O z.zero 0;have y:=U (u.o.o l z.zero 0);have A:=j.frozen;clear l j;go_wp2_with fail;exact eI (s:=4) results209 O y.o.1 underlying66 O (fJ _ _) O (d6.weak y.o.2 λh=>⟨⟨h.si,h.ml⟩,λ_=>.refl _ _⟩)
section
variable{w w':D}{k n:Nat}{X:bO}{s s':aV}{p p':bJ}
def dq.disk(h:dq w k X n s p)(m:aa X.F w w')(b:List Int)(i:jX w' X.F X.d s' p' b){Q:bO->aV->bJ->Prop}(j:Q {X with pb:=b} s' p'):dU w k X n w' Q:=
 ⟨{X with pb:=b},s',p',⟨m.blk h.du h.uF,h.re.mod m h.rF,m.blk h.jo h.jF,i,h.lv,h.uj,h.uF,h.jF,h.uR,h.jR,h.rF⟩,⟨O,O⟩,m.mono λa g=>.inr (.inr (.inr g)),λa g=>.inl g,j⟩
def FU(X:bO)(s:aV)(p:bJ)(X':bO)(s':aV)(p':bJ):Prop:=s'=s/\p'.dark=p.dark/\X'=X
def Vy(h:dq w k X n s p){a:Int}(i:fG a):Calls prog 228 #[N X.d,Z a] w λr w'=>r=.returned (.tuple #[])/\dU w k X n w' (FU X s p):=by rcases h.dk with⟨l,j⟩|⟨l,m,aeL,j,o⟩;exact(G3 j a i.1 i.2).mono λr w' g=>⟨g.1,h.disk (s':=s) (p':=⟨p.dark,decide (0<=a),a⟩) g.2.2 X.pb (.inl ⟨l,g.2.1⟩) ⟨rfl,rfl,rfl⟩⟩;exact(G3 j a i.1 i.2).mono λr w' g=>⟨g.1,h.disk (s':=s) (p':=⟨p.dark,decide (0<=a),a⟩) g.2.2 X.pb (.inr ⟨l,m,aeL,g.2.1,o⟩) ⟨O,O,O⟩⟩
def GY{s n:aV}{aeL:Option aW}(h:bQ w F d s n aeL p):Calls prog 134 #[N d] w λr w'=>r=.returned (.tuple #[])/\bQ w' F d s n aeL ⟨true,false,p.fuse⟩/\aa F w w':=by
 obtain⟨o,i,l⟩:=h.blk;refine(Hx i).mono λr w' a=>⟨a.1,h.renew a.2.2 ⟨h.ok.1,λh=>aK h⟩ (λg m=>?_),a.2.2.mono λj e=>by have e:j=d:=e;rw[e];exact h.fd⟩;have e:=(M.type_eq m i).2;obtain rfl:g=o:=by simpa[fF]using e
 exact a.2.1
def Tk(X:bO)(s:aV)(p:bJ)(X':bO)(s':aV)(p':bJ):Prop:=s'=s/\X'.pb=(if p.dark then X.pb else[])/\X'.dead=X.dead/\X'.R=X.R/\p'.dark=true
def WW(h:dq w k X n s p):Calls prog 134 #[N X.d] w λr w'=>r=.returned (.tuple #[])/\dU w k X n w' (Tk X s p):=by rcases h.dk with⟨i,g⟩|⟨i,m,aeL,g,j⟩;exact(GY g).mono λr w' a=>⟨a.1,h.disk a.2.2 [] (.inr ⟨rfl,_,_,a.2.1,λx l=>aK l⟩) ⟨rfl,by rw[i];rfl,rfl,rfl,rfl⟩⟩;exact(GY g).mono λr w' a=>⟨a.1,h.disk a.2.2 X.pb (.inr ⟨O,m,aeL,a.2.1,j⟩) ⟨O,by rw[i];rfl,O,O,O⟩⟩
end
structure Cq(w:D)(c b k d:Nat)(x:bD):Prop where
 cd:w.cell? (I c (1+k*2))=some (N d)
 fr:∀i,w.frozen? (I c i)=false
 lt:c<w.heap.size
 fb:∀i,w.frozen? (I b i)=false
 lb:b<w.heap.size
 wn:w.cell? (I b 10)=some (Z x.n)
 ls:(dQ 58 (N b)).run prog w=.ok (.value (.agg (aX x))) w
def Cq.of{C:aJ}{x:bD}(g:M w c 88 C.A)(h:k<6)(a:M w b 58 (aX x)):Cq w c b k (C.X k).d x:=
 ⟨by rw[g.cell];exact xI _ _ _ _ _ k h,g.frozen,g.lt,a.frozen,a.lt,by rw[a.cell];rfl,k7 a⟩
def Vt{C:aJ}(h:cE w0 w c C aeM){x:bD}(ox:x.ok)(v:k<6)(hx:x.w=(k:Int)+1):
  Calls prog 215 #[N c,.agg (aX x)] w (d6 w0 w c C aeM (jY C)):=by
 obtain⟨j,y⟩:=cJ ((w.alloc (.cells (aX x) 58)).alloc (.cells (bF z.zero 0) 66));have E:=h.enter x;rw[<-y]at E;generalize γ:w.heap.size+1=r0 at E;have HW:=U y;have CW:=U (λW=>xu (c:=c) v x hx W);have R:=U (λ(a:D) (hm:aa (C.X k).G j a)=>Cq.of (hm.blk E.at_.blk (E.at_.cx k v)) v (hm.blk E.B λhG=>aA (E.aeK w.heap.size (.inr (.inl ⟨k,v,hG⟩)))));have CA:=U (λ(a:D) (u:S j a)=>Vy ((E.at_.si k v).call u) ox.n);have P:=U (show∀i,(C.X k).G i->i<j.heap.size from λi g=>(E.at_.si k v).inh i g);have HH:=U E;clear h E y;go_in;go_upto_region 1 with fail;refine dI HW.o ?_;clear HW;refine dL [] (C.X k).G 8 P.o Y Y ?_
 iterate 2
  first
  |refine gS rfl ?_;apply cV
   intro _ ρ A t l W u;have g:=R.o W u;simp[execOp,go_sem,A,t,l,g,g.ls,g.fb,g.lb]<;>exact O
  |refine gz (λ_=>rfl) ?_
  simp only[aD]
 refine j8 (λ_=>rfl) (eJ O) 219 (λ_=>#[N c,.agg (aX x)]) (.pointer (some (I c (1+k*2)))) cK (λ_ a _=>CW.o a) ?_;simp only[aD]
 iterate 5
  first
  |refine gS rfl ?_;apply cV
   intro _ ρ A t l W u;have g:=R.o W u;simp[execOp,go_sem,A,t,l,g,g.cd,g.fr,g.lt,g.fb,g.lb,g.wn]<;>exact O
  |refine gz (λ_=>rfl) ?_
  simp only[aD]
 refine jl (λ_=>rfl) O 228 (λ_=>#[N ((C.X k).d),Z x.n]) (λ_:Unit=>.tuple #[]) () (λa _ Y'=>dU a k (C.X k) aeM Y' (FU (C.X k) (C.s k) (C.p k))) cK (λ_ a u=>?ca) ?_
 case ca=>refine(CA.o a u).mono ?_;rintro r Y' ⟨rfl,hT⟩;exact⟨(),O,hT,by obtain⟨_,_,_,_,_,m,_⟩:=hT;exact m⟩
 simp only[aD];refine cT Y ?_;rintro⟨_,_⟩ W2 Q hR;replace Q:aa (C.X k).G j W2:=Q
 try dsimp only
 simp only[d8,Nat.reduceAdd,cA]at hR;obtain⟨w1,w2,K,-,g3,g4⟩:=fK (hR 8 _ _ cD) O;obtain⟨X',s',p',y',J,-,T⟩:=(HH.o.at_.call (K O)).siteG (ao _) v g3 λX' s' p' g hs=>by obtain⟨rfl,h2,rfl⟩:=g;exact Kw hs O h2 (λ_=>rfl) O (λ_=>rfl) λ_ _ h=>h
 replace T:=U T;replace J:=(J.pre (K O)).call (g4.below λ_ h=>h.1 O);clear Q hR g3 g4 K R CA P CW;go_wp2_with fail;apply(iS 0 W2).mono;rintro r W3 ⟨rfl,α⟩;have J:=J.call α;have Br:=HH.o.res J.mod;have β:=gh Br O z.zero 0;have HX:=U (HH.o.o J z.zero 0);clear J Br;go_wp2_with fail;exact eI (s:=4) results215 O HX.o.1 underlying66 O (fJ _ _) O (d6.weak HX.o.2 T.o)
def XH{C:aJ}(h:cE w0 w c C aeM){x:bD}(l:k<6)(hx:x.w=(k:Int)+1):
  Calls prog 216 #[N c,.agg (aX x)] w (d6 w0 w c C aeM (jY C)):=by
 obtain⟨j,a⟩:=cJ ((w.alloc (.cells (aX x) 58)).alloc (.cells (bF z.zero 0) 66));have E:=h.enter x;rw[<-a]at E;generalize β:w.heap.size+1=r0 at E;have Q:=U a;have T:=U (λW=>xu (c:=c) l x hx W);have y:=k7 E.B;have u:=U E;clear h E a;go_in;go_upto_region 1 with fail;refine dI Q.o ?_;clear Q;go_wp2_with fail;apply(T.o j).mono;rintro r W1 ⟨rfl,i⟩;have m:=u.o.at_.call i;obtain⟨cd,-,-,-,-,K,lt⟩:=m.rd l;have J:=U (WW (m.si k l));have P:=aB m i;clear m i y T;go_wp2_with fail;apply J.o.mono;rintro r W2 ⟨rfl,g3⟩;obtain⟨X',s',p',y',g,-,t⟩:=P.o.1.siteG (ao _) l g3 λX' s' p' hq hs=>by obtain⟨rfl,h2,h3,h4,h5⟩:=hq;exact Pg hs O h2 h3 h4 h5
 replace t:=U t;replace g:=g.pre P.o.2;clear g3 cd K lt J;go_wp2_with fail;apply(iS 0 W2).mono;rintro r W3 ⟨rfl,A⟩;have g:=g.call A;have v:=u.o.res g.mod;have α:=gh v O z.zero 0;have R:=U (u.o.o g z.zero 0);have K:=v.frozen;clear g v;go_wp2_with fail;exact eI (s:=4) results216 O R.o.1 underlying66 O (fJ _ _) O (d6.weak R.o.2 t.o)
section
attribute [local go_sem ↓ high] CX
def Ih(w0 w:D)(h:Nat)(s:H)(X:List aN)(L:List bL)(v:H)(w':D):Prop:=
 ∃(x:ij) (b:Bool),v=.tuple #[.agg (fE x),.bool b]/\aa (dH h s X) w w'/\(∃g a L' C',bK w0 w' [] h g a L' C'/\g.ownBlock=s.ownBlock/\(∀y∈a,y∈X)/\(L.length<=128->L'.length<=128)/\∀m∈L',m∈L)/\
  (b=true->x.m∈L/\x.m.ok/\w'.ownsRow w0.heap.size 64 14 (.slice x.A x.m.l.length x.c) x.m.l.length (i8 x.m.l)/\∃y∈X,Value.slice x.A x.m.l.length x.c=y.s)
def Uj{h:Nat}{s:H}{L:List bL}{C:Nat->Bool}(aeM:bK w0 w [] h s X L C)(k:Int):Calls prog 223 #[N h,Z k] w λe w'=>∃v:ij×Bool,e=.returned (.tuple #[.agg (fE v.1),.bool v.2])/\Ih w0 w h s X L (.tuple #[.agg (fE v.1),.bool v.2]) w':=by have R:=aeM.evs.len;by_cases t:0<=k/\k<(X.length:Int);obtain⟨i,rfl⟩:∃i:Nat,k=i:=⟨k.toNat,V⟩;have o:i<L.length:=V;have l:=bY o;obtain⟨_,_,g⟩:=aeM.evs.get l;refine(J8 i _ l aeM).mono λe w' ⟨u,J,j,⟨r,P,Q,E,K,x⟩,y,G,e⟩=>?_;obtain⟨A,c,rfl,-⟩:=dS j;exact⟨(⟨L[i],A,c⟩,true),J,⟨L[i],A,c⟩,true,O,aa.of_fr E (.inl O) (λa B=>.inr (.inl B)),⟨r,P,_,_,Q,K,x,λh=>aZ (List.length_eraseIdx_le _ _) h,λm g=>IR g⟩,λ_=>⟨List.getElem_mem o,g.ok,j,y,G,e⟩⟩;obtain⟨A,c,rfl,-⟩:=dS aeM.own;refine(J3 k A X.length c aeM.blk (fO t)).mono λe w' a=>⟨(⟨bL.zero,none,0⟩,false),a.1,⟨bL.zero,none,0⟩,false,O,aa.of_below a.2,⟨_,X,L,C,aeM.call a.2,O,λ_ h=>h,id,λ_ h=>h⟩,λh=>aK h⟩
def bK.since{W:D}{h B:Nat}{s:H}{L:List bL}{C:Nat->Bool}{l:Nat->Prop}(aeM:bK w0 w2 [] h s X L C)(g:fB [331] l B w2 W)(hF:∀a,¬l a)(E:w0.heap.size<=B)(G:∀a,s.ownBlock=some a->a<B):
  bK w0 W [] h s X L C/\aa (λa=>B<=a/\vn [331] w2 a) w2 W:=by
 have m:aa (λa=>B<=a/\vn [331] w2 a) w2 W:=⟨g.os,g.tape,g.output,g.size,λk v K=>by rcases g.block k v with h|⟨o,y,-⟩|h;exact h;exact absurd ⟨o,y⟩ K;exact absurd h (hF k)⟩;refine⟨aeM.mod m (λa hq J=>?_) λa hq=>aZ E hq.1,m⟩;obtain⟨o,Q,t,P,i⟩:=J;rw[dd.1 P]at i;rcases hq with rfl|hq|⟨x,hx,hq⟩;exact absurd (M.type_eq i aeM.blk).1 ai;have:=G a hq;omega;obtain⟨R,-,u⟩:=aeM.evs.left hx;rcases u.own.2 with⟨e,-⟩|⟨T,A,r,e,-,j,-⟩
 ·rw[e]at hq;cases hq
 rw[e]at hq;injection hq with hq;subst hq;exact absurd (M.type_eq i j).1 ai
def Fz(x:ij):(fE x).all (·.oneCell')=true:=by simp[fE,aE,ij.mc,bL.mc,Value.oneCell']
def Ez(x:ij):(prog.info? 331).map (·.size)=some (fE x).size:=Fj _
structure yc(w:D)(c g k u:Nat)(now:Int)(x:ij):Prop where
 cu:w.cell? (I c (1+k*2+1))=some (N u)
 cw:w.cell? (I c 14)=some (q now)
 fr:∀i,w.frozen? (I c i)=false
 lt:c<w.heap.size
 fg:∀i,w.frozen? (I g i)=false
 lg:g<w.heap.size
 gt:w.cell? (I g 2)=some (Z ((k:Int)+1))
 lm:(dQ 331 (N g)).run prog w=.ok (.value (.agg (fE x))) w
def yc.of{g:Nat}{C:aJ}{x:ij}(a:M w c 88 C.A)(i:k<6)(h:M w g 331 (fE x))(j:x.m.t=(k:Int)+1):yc w c g k (C.X k).u C.now x:=
 ⟨by rw[a.cell];exact xv _ _ _ _ _ k i,by rw[a.cell];rfl,a.frozen,a.lt,h.frozen,h.lt,by rw[h.cell,<-j];rfl,xp h⟩
def bO.gen(X:bO)(g:z->Prop):bO:={X with R:={X.R with gn:=g}}
def dq.gen{X:bO}(h:dq w k X n s p){g:z->Prop}(a:∀e,X.R.gn e->g e):dq w k (X.gen g) n s p:=
 ⟨h.du,h.re.gmono a,h.jo,h.dk,h.lv,h.uj,h.uF,h.jF,h.uR,h.jR,h.rF⟩
def NP{C:aJ}(h:cE w0 w c C aeM)(hG:dv C)(hN:aeM+64<=900000)(hT:dr w)(hK:2<w0.heap.size/\1<w0.heap.size)(x:bD):
  Calls prog 210 #[N c,.agg (aX x)] w (d6 w0 w c C (aeM+64) (jY C)):=by
 obtain⟨W0,σ⟩:=cJ ((w.alloc (.cells (aX x) 58)).alloc (.cells (bF z.zero 0) 66));have E:=h.enter x;rw[<-σ]at E;generalize hb0:w.heap.size+1=r0 at E;have HW:=U σ;have HF:=U (λ(i:D) (Q:aa (dH C.h C.sv C.MX) W0 i)=>sy.of (Q.blk E.at_.blk E.at_.cn) (Q.blk E.B λhG=>aA (E.aeK w.heap.size (.inr (.inr hG)))));have CA:=U (λ(i:D) (t:S W0 i)=>Uj (E.at_.call t).ne x.k);have K:=U (show∀a,dH C.h C.sv C.MX a->a<W0.heap.size from λa hq=>E.at_.ne.inh a hq);have HT:=U (hT.call' E.aeI);have HH:=U E;have HG:=U hG;clear h E σ hT hG;go_in;go_upto_region 1 with fail;refine dI HW.o ?_;clear HW;refine dL [331] (dH C.h C.sv C.MX) 6 K.o Y Y ?_
 iterate 6
  first
  |refine gS rfl ?_;apply cV
   intro _ ρ ε α β W t;have hq:=HF.o W t;simp[execOp,go_sem,ε,α,β,hq,hq.ch,hq.fr,hq.lt,hq.fb,hq.lb,hq.wk]<;>exact O
  |refine gz (λ_=>rfl) ?_
  simp only[aD]
 refine jl (λ_=>rfl) O 223 (λ_=>#[N C.h,Z x.k]) (λv:ij×Bool=>.tuple #[.agg (fE v.1),.bool v.2]) (⟨bL.zero,none,0⟩,false) (λi v Y'=>Ih w0 i C.h C.sv C.MX C.ML v Y') cK (λ_ i t=>?ca) ?_
 case ca=>refine(CA.o i t).mono ?_;rintro r Y' ⟨v,rfl,hn⟩;exact⟨v,O,hn,by obtain⟨_,_,_,m,_⟩:=hn;exact m⟩
 simp only[aD]
 iterate 3
  refine kU O ?_;simp only[aD]
 refine ng (λ_=>rfl) 331 (fE ⟨bL.zero,none,0⟩) nK ?_;simp only[aD];refine o8 (λ_=>rfl) 10 331 331 12 _ _ O ai O ah K.o _ _ _ (λ_=>rfl) (λ_=>rfl) cD (Ez ⟨bL.zero,none,0⟩) (λ_=>rfl) (λ_=>Fz _) ?_;simp only[aD]
 iterate 1
  refine kU O ?_;simp only[aD]
 refine cT Y ?_;rintro⟨⟨_,⟨y,b⟩⟩,v⟩ W2 hC hR;replace hC:aa (dH C.h C.sv C.MX) W0 W2:=hC
 try dsimp only
 simp only[d8,Nat.reduceAdd,cA]at hR;obtain⟨w1,w2,ζ,-,⟨P,b',he,hm2,⟨s',X',L',C',n1,n2,n3,n4⟩,ψ⟩,g4⟩:=fK (hR 6 _ _ cD) O;obtain⟨g,v',hx,n6,B6⟩:∃g v',[v,Value.agg (fE y)]=[N g,v']/\W0.heap.size<=g/\M W2 g 331 (Value.toArr v'):=hR 11 _ _ cD;injection hx with h6 τ;injection τ with τ;subst h6 τ;replace B6:M W2 g 331 (fE y):=B6;obtain⟨hy,rfl⟩:fE y=fE P/\b=b':=by injection he with he;injection he with he;injection he with h1 h2;injection h2 with h2 _;injection h1 with h1;injection h2 with h2;exact⟨h1,h2⟩
 rw[hy]at B6;obtain⟨n5,f⟩:=n1.since g4 (λ_ h=>h.1 O) HH.o.at_.ne.T.below.size (λa hq=>K.o a (.inr (.inl (n2▸hq))));have μ:∀a,dH C.h s' X' a->dH C.h C.sv C.MX a:=λa hq=>by rcases hq with hq|hq|⟨κ,hz,hq⟩;exact .inl hq;exact .inr (.inl (n2▸hq));exact .inr (.inr ⟨κ,n3 κ hz,hq⟩)
 obtain⟨sn,Xn,Ln,cn,J,n⟩:=HH.o.at_.nt (A:=pQ) (λ_ h=>h.elim) ⟨s',X',L',C',n5,hC,λa hq=>.inl (μ a hq),n4.1,λm Q=>.inl (n4.2 m Q)⟩;replace n:=U (show dv C->jr C (C.nt sn Xn Ln cn)from λhs=>hs.nt λm Q=>(n m Q).imp id λh=>h.elim);have γ:b=true->fS W2 0 (.slice P.A P.m.l.length P.c) P.m.l/\(P.m∈C.ML/\P.m.ok)/\∀a,(Value.slice P.A P.m.l.length P.c).ownBlock=some a->dH C.h C.sv C.MX a:=λt=>by obtain⟨z1,z2,z3,κ,z4,z5⟩:=ψ t;have ho:∀a,(Value.slice P.A P.m.l.length P.c).ownBlock=some a->dH C.h C.sv C.MX a:=λa hq=>.inr (.inr ⟨κ,z4,z5▸hq⟩);refine⟨Row.mono (show fS W2 w0.heap.size _ _ from f.own z3 λa hq hG=>?_) (gM _),⟨z1,z2⟩,ho⟩;have:=K.o a (ho a hq);have:=hG.1;omega
 have χ:∀j,j<6->¬(C.X j).G g:=λj hj hG=>aA ((HH.o.at_.si j hj).inh g hG);have HT2:=U (HT.o.mod hC (λhq=>aA (HH.o.at_.ne.base _ hq)) (λhq=>aA (HH.o.at_.ne.base _ hq)));clear hC hR g4 ζ HF CA K he ψ n1 n2 n3 n4 n5 n6 hm2 f μ hy;cases b with
 |false=>clear γ;go_wp2_with fail;apply(iS 4 W2).mono;rintro r W9 ⟨rfl,π⟩;have J:=(J.more (mO aeM 64)).call π;have Br:=HH.o.res J.mod;have Δ:=gh Br O z.zero 4;have HX:=U (HH.o.o J z.zero 4);clear J Br;go_wp2_with fail;exact eI (s:=4) results210 O HX.o.1 underlying66 O (fJ _ _) O (d6.weak HX.o.2 n.o)
 |true=>
  obtain⟨ω,⟨ν,Φ⟩,Ω⟩:=γ O;have hge:=U (show∀e∈P.m.l,ci C.aeR e from HG.o.ml _ ν);obtain⟨-,j,-,hj,-,-,d⟩:=Lt (HH.o.at_.ml.2 _ ν).2;have h1:=J.at_;have φ:=U (λ(i:D) (Q:aa (C.X j).G W2 i)=>(show yc i c g j (C.X j).u C.now P from yc.of (C:=C.nt sn Xn Ln cn) (Q.blk h1.blk (h1.cx j hj)) hj (Q.blk B6 (χ j hj)) d));have Ψ:=U (λ(i:D) (Q:S W2 i)=>φ.o i (aa.of_below Q));have hw:IntKind.i64.wrap (j:Int)=j:=bS _ V;have Γ:(0:Int)<=(j:Int):=V;have L:(j:Int)<6:=V;have H1:=iA J ω Φ Ω B6;clear h1 ω ν Φ Ω J B6 γ d χ;go_upto_region 4 with fail;refine kW Y Y ?_
  iterate 8
   first
   |refine kX rfl ?_;apply cV
    intro _ ρ ε α β W t;have hq:=Ψ.o W t;simp[execOp,go_sem,ε,α,β,hq,hq.fr,hq.lt,hq.fg,hq.lg,hq.gt,hw,Γ,L]<;>exact O
   |refine kz (λ_=>rfl) ?_
   simp only[aD]
  refine dg ?_;intro _ W3 θ;have h3:=H1.o.1.at_.call θ;obtain⟨b,t⟩:=aM (C.up j);have CU:=U (vo h3 hj (show _=b from t));have η:=U (H1.o.1.call θ);have ι:=aB θ t;clear h3 θ Ψ hw Γ L;cases b with
  |false=>go_wp2_with (go_at_call 21;apply CU.o.mono;rintro r W4 ⟨rfl,rfl⟩);apply(iS 8 W3).mono;rintro r W9 ⟨rfl,π⟩;have J:=(η.o.more (mO aeM 64)).call π;have Br:=HH.o.res J.mod;have Δ:=gh Br O z.zero 8;have HX:=U (HH.o.o J z.zero 8);clear J Br;go_wp2_with fail;exact eI (s:=4) results210 O HX.o.1 underlying66 O (fJ _ _) O (d6.weak HX.o.2 n.o)
  |true=>
   go_upto_region 7 with(go_at_call 21;apply CU.o.mono;rintro r W4 ⟨rfl,rfl⟩);have h3:=η.o.at_;have υ:dq W3 j (C.X j) aeM (C.s j) (C.p j):=h3.si j hj;have δ:(C.p j).dark=false/\(C.X j).dead=false:=by have:=ι.o.2;unfold aJ.up at this;simpa using this
   have Ξ:=U (λ(i:D) (Q:aa (C.X j).G W3 i)=>φ.o i ((aa.of_below ι.o.1).trans Q));have Θ:qN ((C.X j).R.F (C.X j).r):=⟨λhq=>aA (h3.xb j hj _ (.inr (.inr (.inl hq)))),λhq=>aA (h3.xb j hj _ (.inr (.inr (.inl hq))))⟩;have CA:=U (λ(i:D) (t:S W3 i)=>(show Calls prog 224 #[N ((C.X j).u),.agg (fE P),q C.now] i (Ay i j ((C.X j).gen (ci C.aeR)) aeM (C.s j))from Vx ((υ.gen (g:=ci C.aeR) ((HG.o.si j hj).gn δ.2)).call t) δ.2 δ.1 hN ((HT2.o.call' ι.o.1).call' t) Θ H1.o.2.2.1 ((Row.call H1.o.2.1 ι.o.1).call t) (λa hq hF=>HH.o.at_.xn j hj a (.inr (.inr (.inl hF))) (H1.o.2.2.2.1 a hq)) hge.o));have K:=U (show∀a,(C.X j).G a->a<W3.heap.size from λa hq=>υ.inh a hq);have HU:=U δ;clear h3 υ δ Θ CU;refine mX 11 [] (C.X j).G 9 K.o Y ah aS aS aS aS ?_;simp only[cR]
   iterate 9
    first
    |refine gS rfl ?_;apply cV
     intro _ ρ ε α β W t;have hq:=Ξ.o W t;simp[execOp,go_sem,ε,α,β,hq,hq.cu,hq.cw,hq.fr,hq.lt,hq.fg,hq.lg,hq.lm]<;>exact O
    |refine gz (λ_=>rfl) ?_
    simp only[aD]
   refine jl (λ_=>rfl) O 224 (λ_=>#[N ((C.X j).u),.agg (fE P),q C.now]) (λe:Int=>Z e) 0 (λi _ Y'=>dU i j (C.X j) (aeM+64) Y' (x9 j ((C.X j).gen (ci C.aeR)) (C.s j))) cK (λ_ i t=>?ca7) ?_
   case ca7=>refine(CA.o i t).mono ?_;rintro r Y' ⟨e,rfl,hT⟩;exact⟨e,O,hT,by obtain⟨_,_,_,_,_,m,_⟩:=hT;exact m⟩
   simp only[aD];refine pn (λ_=>rfl) (eJ Y) 47 (λu=>#[Z u.2]) (λe:Int=>.agg (bF z.zero e)) 0 (λ_ _ _=>True) cK (λ_ i t=>?cb7) ?_
   case cb7=>refine(iS _ i).mono ?_;rintro r Y' ⟨rfl,t⟩;exact⟨_,O,trivial,t⟩
   simp only[aD];refine cT Y ?_;rintro⟨⟨_,v⟩,e⟩ W5 hC hR;replace hC:aa (C.X j).G W3 W5:=hC
   try dsimp only
   simp only[d8,Nat.reduceAdd,cA]at hR;obtain⟨w1,w2,ζ,-,g3,g4⟩:=fK (hR 9 _ _ cD) O;obtain⟨X',s',p',y2,J,-,ξ⟩:=(η.o.at_.call (ζ O)).siteG (mO aeM 64) hj g3 λX' s' p' hq hs=>MO hs HU.o.1 (g:=ci C.aeR) (λe he=>he) (hs.led HU.o.2) (X1:=(C.X j).gen (ci C.aeR)) O O hq;replace ξ:=U ξ;replace J:=η.o.trans ((J.pre (ζ O)).call (g4.below λ_ h=>h.1 O));clear hC hR g3 g4 ζ Ξ CA K φ;have Br:=HH.o.res J.mod;have Δ:=gh Br O z.zero e;have HX:=U (HH.o.o J z.zero e);clear J Br;go_wp2_with fail;exact eI (s:=4) results210 O HX.o.1 underlying66 O (fJ _ _) O (d6.weak HX.o.2 (jY.then n.o ξ.o))
end
section
attribute [local go_sem ↓ high] CX
def Qn(e:ij)(w:D):∃a,(eQ 331 (N w.heap.size) (.agg (fE e))).run prog (w.alloc (.cells (aE aN.zero) 331))=.ok .skip a/\M a w.heap.size 331 (fE e)/\S w a:=by have B:M (w.alloc (.cells (aE aN.zero) 331)) w.heap.size 331 (aE aN.zero):=M.new _ _ _;exact⟨_,ft B (Ez e) O (Fz e),dt B _,Below.rowN ((aq _ _).alloc (ao _) _) (ao _) _⟩
def ZU(ρ:aO->H)(dst:Option Tmp)(x y:aO)(ty:ay)(pos:String)(after:Array Edge)(guard:Option (Nat×Bool)):execOp ρ {dst,op:=.store 331 x y,type:=ty,pos,after,guard}=eQ 331 (ρ x) (ρ y):=by simp[execOp,eQ]
attribute [local go_sem ↓ high] ZU
structure Cn(w:D)(c k u:Nat)(now:Int):Prop where
 cu:w.cell? (I c (1+k*2+1))=some (N u)
 cw:w.cell? (I c 14)=some (q now)
 fr:∀i,w.frozen? (I c i)=false
 lt:c<w.heap.size
def Cn.of{C:aJ}(a:M w c 88 C.A)(g:k<6):Cn w c k (C.X k).u C.now:=
 ⟨by rw[a.cell];exact xv _ _ _ _ _ k g,by rw[a.cell];rfl,a.frozen,a.lt⟩
structure yb(w:D)(c g h:Nat)(x:ij):Prop where
 ch:w.cell? (I c 13)=some (N h)
 fr:∀i,w.frozen? (I c i)=false
 lt:c<w.heap.size
 fg:∀i,w.frozen? (I g i)=false
 lg:g<w.heap.size
 lm:(dQ 331 (N g)).run prog w=.ok (.value (.agg (fE x))) w
def yb.of{g:Nat}{C:aJ}{x:ij}(a:M w c 88 C.A)(i:M w g 331 (fE x)):yb w c g C.h x:=⟨by rw[a.cell];rfl,a.frozen,a.lt,i.frozen,i.lt,xp i⟩
def BX(C:aJ)(k:Nat)(x:bL):Prop:=vu x/\∀e∈x.l,(C.X k).R.gn e
def Vs{C:aJ}(h:cE w0 w c C aeM)(hN:aeM<=100000){x:bD}(hk:k<6)(hx:x.w=(k:Int)+1):
  Calls prog 208 #[N c,.agg (aX x)] w (d6 w0 w c C aeM (jY C)):=by
 obtain⟨W0,μ⟩:=cJ ((w.alloc (.cells (aX x) 58)).alloc (.cells (bF z.zero 0) 66));have E:=h.enter x;rw[<-μ]at E;generalize hb0:w.heap.size+1=r0 at E;have HW:=U μ;have CW:=U (λW=>xu (c:=c) hk x hx W);obtain⟨b,hb⟩:=aM (C.up k);have φ:=k7 E.B;have HH:=U E;clear h E μ;go_in;go_upto_region 1 with fail;refine dI HW.o ?_;clear HW;go_wp2_with fail;apply(CW.o W0).mono;rintro r W1 ⟨rfl,Q⟩;have h1:=HH.o.at_.call Q;have CU:=U (vo h1 hk (show _=b from hb));have β:=U ((dW.refl HH.o.at_).call Q);have HB:=aB Q hb;clear φ CW h1 Q;cases b with
 |false=>go_wp2_with (go_at_call 21;apply CU.o.mono;rintro r W2 ⟨rfl,rfl⟩);apply(iS 8 W1).mono;rintro r W2 ⟨rfl,Ξ⟩;have T:=β.o.call Ξ;have Br:=HH.o.res T.mod;have Δ:=gh Br O z.zero 8;have HX:=U (HH.o.o T z.zero 8);clear T Br;go_wp2_with fail;exact eI (s:=4) results208 O HX.o.1 underlying66 O (fJ _ _) O (d6.weak HX.o.2 λh=>.refl h)
 |true=>
  go_upto_region 4 with(go_at_call 21;apply CU.o.mono;rintro r W2 ⟨rfl,rfl⟩);have h1:=β.o.at_;have ξ:=h1.si k hk;have π:(C.p k).dark=false/\(C.X k).dead=false:=by have:=HB.o.2;unfold aJ.up at this;simpa using this
  have HF:=U (λ(J:D) (hm:aa (C.X k).G W1 J)=>Cn.of (hm.blk h1.blk (h1.cx k hk)) hk);have CA:=U (λ(J:D) (hb:S W1 J)=>Vw (ξ.call hb) π.2 hN h1.nw);have δ:=U (show∀t,(C.X k).G t->t<W1.heap.size from λt K=>ξ.inh t K);have HU:=U π;clear h1 ξ π CU;refine dL [] (C.X k).G 8 δ.o Y Y ?_
  iterate 8
   first
   |refine gS rfl ?_;apply cV
    intro _ ρ α θ κ W hb;have K:=HF.o W hb;simp[execOp,go_sem,α,θ,κ,K,K.cu,K.cw,K.fr,K.lt]<;>exact O
   |refine gz (λ_=>rfl) ?_
   simp only[aD]
  refine jl (λ_=>rfl) O 221 (λ_=>#[N ((C.X k).u),q C.now]) (λu:Option Addr×Nat×Nat=>.slice u.1 u.2.1 u.2.2) (none,0,0) (λJ v Y'=>Ic J k (C.X k) aeM (C.s k) (C.p k) (.returned v) Y') cK (λ_ J hb=>?ca) ?_
  case ca=>refine(CA.o J hb).mono ?_;rintro r Y' ⟨v,L,rfl,q1,q2,q3,q4⟩;obtain⟨A2,c2,rfl,-,-⟩:=q1.sl;refine⟨(A2,L.length,c2),O,⟨_,L,O,q1,q2,q3,q4⟩,?_⟩;obtain⟨_,_,_,_,_,m,_⟩:=q4;exact m
  simp only[aD];refine Xl (λ_=>rfl) Y _ O _ (λ_=>rfl) ?_;apply Exists.intro;apply ar
  ·intro u ρ α w;have α:ρ (.tmp 23)=.slice u.2.1 u.2.2.1 u.2.2.2:=α;simp[execOp,go_sem,α]<;>exact O
  simp only[aD];refine gx HF.o ?_;refine cT Y ?_;rintro⟨_,⟨A2,n2,c2⟩⟩ W2 hC hR;replace hC:aa (C.X k).G W1 W2:=hC
  try dsimp only
  simp only[d8,Nat.reduceAdd,cA]at hR;obtain⟨w1,w2,Q,-,⟨v,L,he,q1,q2,q3,q4⟩,g4⟩:=fK (hR 8 _ _ cD) O;have ε:=g4.below λ_ h=>h.1 O;have ν:=(Q O).size;injection he with he;subst he;obtain⟨A3,c3,e3,hc1,hc2⟩:=q1.sl;obtain⟨rfl,rfl,rfl⟩:A2=A3/\n2=L.length/\c2=c3:=by injection e3 with a b c;exact⟨a,b,c⟩
  obtain⟨X',s',p',y',T,-,hZ⟩:=(β.o.at_.call (Q O)).siteG (ao _) hk q4 λX' s' p' K hs=>by obtain⟨⟨h1,h2⟩,h3,h4,h5⟩:=K;exact Kw hs (by rw[h4]) (by rw[h5]) (λhh=>absurd hh (by rw[HU.o.1];decide)) h3 (λ_=>(eZ h1).symm) λ_ e he=>(h2 e he).elim id λh=>(aK h)
  replace hZ:=U hZ;replace T:=(T.pre (Q O)).call ε;have η:lr W2 W1.heap.size (.slice A2 L.length c2) L:=Row.mono (Row.call q1 ε) ν;have mt:∀y∈L,oF (C.X k).R.gn W2 W1.heap.size y:=λy hy=>⟨(q2 y hy).ok,Row.mono (Row.call (q2 y hy).row ε) ν⟩;have χ:=U (β.o.trans T);have HM:=aB η mt;have Φ:=U (show∀t,dH C.h C.sv C.MX t->t<W1.heap.size from λt K=>β.o.at_.ne.inh t K);have HN:=U (show bK w0 W2 [] C.h C.sv C.MX C.ML C.cut from T.at_.ne);have F:=U (show M W2 c 88 (C.put k X' s' p' y').A/\c<W1.heap.size from⟨T.at_.blk,β.o.at_.blk.lt⟩);clear hC hR Q q1 q2 q4 g4 ε ν T η mt HF CA e3;go_wp2;go_loopw [25] (λi wr=>∃j:Nat,j<=L.length/\i=Z j/\gF (BX C k) w0 W2 wr C.h C.sv C.MX C.ML) (λi _=>L.length-(intOf i).toNat);exact⟨0,V,O,HN.o.any⟩;obtain⟨j,hj,rfl,f⟩:=hrel;by_cases Γ:j<L.length
  ·have hd:=cO ((j:Int)<L.length);obtain⟨y,hy⟩:∃y,L[j]? =some y:=⟨L[j],bY Γ⟩;obtain⟨sn,Xn,Ln,cn,n1,n2,n3,n4⟩:=f;obtain⟨g,n,hs,υ,Ψ,hgb,ω⟩:=HM.o.1.sl_pos V;obtain⟨rfl,d⟩:A2=some (I g 0)/\c2=n:=by injection hs with a b c;exact⟨a,c⟩
   have ι:∀t,W1.heap.size<=t->¬dH C.h C.sv C.MX t:=λt h1 h2=>aA (Φ.o t h2);have ζ:=n2.row HM.o.1 λt K=>ι t (HM.o.1.ge t K).1;have φ:=eO (P:=prog) (ζ.rng zh hy) underlying331 O (Ez y);obtain⟨W3,hst3,B3,D3⟩:=Qn y wr;have γ:=cX hy;have ψ:fS W3 W1.heap.size (.slice y.A y.m.l.length y.c) y.m.l:=Row.call (n2.row (HM.o.2 y γ).row λt K=>ι t ((HM.o.2 y γ).row.ge t K).1) D3;have τ:¬dH C.h sn Xn c:=λK=>(n3 c K).elim HH.o.at_.cn λh=>by have:=F.o.2;have:=HM.o.1.lt;have:=F.o.1.lt;omega
   have Bc:=(n2.blk F.o.1 HH.o.at_.cn).call D3;have σ:∀t,dH C.h sn Xn t->t<wr.heap.size:=λt K=>n1.inh t K;have CA:=U (λ(J:D) (hb:S W3 J)=>(Wi ((n1.call D3).call hb) y.m (HM.o.2 y γ).ok.1.1 (Row.call ψ hb) (HM.o.2 y γ).ok.1.2).mono λr w' t=>ar t.1 (t.2.to (B:=BX C k) λm hm=>⟨hm.1,hm.2▸(HM.o.2 y γ).ok.2⟩));have HF:=U (λ(J:D) (hm:aa (dH C.h sn Xn) W3 J)=>(show yb J c wr.heap.size C.h y from yb.of (C:=C.put k X' s' p' y') (hm.blk Bc τ) (hm.blk B3 λK=>aA (σ _ K))));have δ:=U (show∀t,dH C.h sn Xn t->t<W3.heap.size from λt K=>ee (σ t K) D3.size);have HX:=cQ n2 n3 n4 D3;clear n1 n2 n3 n4 hs υ Ψ hgb ω d ι ζ B3 D3 γ ψ τ Bc σ hy;go_upto_region 7 with fail;refine dL [] (dH C.h sn Xn) 5 δ.o Y Y ?_
   iterate 5
    first
    |refine gS rfl ?_;apply cV
     intro _ ρ α θ κ W hb;have K:=HF.o W hb;simp[execOp,go_sem,α,θ,κ,K,K.ch,K.fr,K.lt,K.fg,K.lg,K.lm]<;>exact O
    |refine gz (λ_=>rfl) ?_
    simp only[aD]
   refine jl (λ_=>rfl) O 222 (λ_=>#[N C.h,.agg (fE y)]) (λe:Int=>Z e) 0 (λJ _ Y'=>gF (BX C k) w0 J Y' C.h sn Xn Ln) cK (λ_ J hb=>?ca) ?_
   case ca=>refine(CA.o J hb).mono ?_;rintro r Y' ⟨⟨e,rfl⟩,hT⟩;exact⟨e,O,hT,by obtain⟨_,_,_,_,_,m,_⟩:=hT;exact m⟩
   simp only[aD];refine cT Y ?_;rintro⟨_,e⟩ W4 hC hR;replace hC:aa (dH C.h sn Xn) W3 W4:=hC
   try dsimp only
   simp only[d8,Nat.reduceAdd,cA]at hR;obtain⟨w1,w2,Q,-,g3,g4⟩:=fK (hR 5 _ _ cD) O;have HT:=U (gF.trans HX.o.1 HX.o.2.1 HX.o.2.2.1 (((g3.call (g4.below λ_ h=>h.1 O)).pre (Q O)).pre HX.o.2.2.2));clear hC hR g3 g4 Q CA HF δ HX;go_wp2;go_roundw
   ·exact⟨j+1,V,by go_num,HT.o⟩
   simp[intOf];omega
  obtain rfl:j=L.length:=V;have hd:=cP ((L.length:Int)<L.length);obtain⟨sn,Xn,Ln,cn,T,hL⟩:=χ.o.at_.nt (λ_ h=>h.1) f;have T:=χ.o.trans T;have Ω:=U (show dv C->jr C ((C.put k X' s' p' y').nt sn Xn Ln cn)from λhs=>(hZ.o hs).trans ((hZ.o hs).1.nt λm hm=>(hL m hm).imp id λh e he=>ci.grew (λj=>((hZ.o hs).2 j).1) ((hs.si k hk).gn HU.o.2 e (h.2 e he))));clear hL;clear f;go_wp2_with fail;apply(iS 0 _).mono;rintro r W9 ⟨rfl,Θ⟩;have T:=T.call Θ;have Br:=HH.o.res T.mod;have Δ:=gh Br O z.zero 0;have HX:=U (HH.o.o T z.zero 0);clear T Br;go_wp2_with fail;exact eI (s:=4) results208 O HX.o.1 underlying66 O (fJ _ _) O (d6.weak HX.o.2 Ω.o)
end
def dW.tabs{aeL:Nat}{C C':aJ}(h:cE w0 w c C aeL)(aeO:dW w0 w w' c C C' aeM)(g:dr w)(i:2<w0.heap.size/\1<w0.heap.size):dr w':=
 g.mod aeO.mod (λa=>aA (h.base _ a)) λa=>aA (h.base _ a)
def bD.At.zsl{x:bD}(h:x.At w):sp w x.pa x.pk x.pc:=⟨λj=>by obtain⟨b,o,e,l,m⟩:=h.rd.2 (by cases g:x.pk with|nil=>exact absurd g j|cons=>simp);refine⟨b,o,e,l,λi a r=>?_⟩;have:=m i (Z a) (by rw[show cZ nD x.pk=x.pk.map (λa=>Z a)from Lj _ _,nX,r];rfl);exact this,h.le,h.mx⟩
section
variable{w w':D}{k n:Nat}{X:bO}{s s':aV}{p p':bJ}{G:Nat->Prop}
def dq.disk2{Q:bO->aV->bJ->Prop}(h:dq w k X n s p)(m:aa X.F w w')(l:jX w' G X.d s' p' X.pb)(j:∀g,G g->X.F g\/w.heap.size<=g)(t:Q {X with F:=G} s' p'):dU w k X n w' Q:=by have u:=h.inh;have i:∀g,X.G g->G g->X.F g:=λg r o=>(j g o).elim id λh=>aA (u g r);exact⟨{X with F:=G},s',p',⟨m.blk h.du h.uF,h.re.mod m h.rF,m.blk h.jo h.jF,l,h.lv,h.uj,λhq=>h.uF (i _ (.inl O) hq),λhq=>h.jF (i _ (.inr (.inl O)) hq),h.uR,h.jR,λg a b=>h.rF g a (i g (.inr (.inr (.inl a))) b)⟩,⟨O,O⟩,m.mono λg hq=>.inr (.inr (.inr hq)),λg hq=>by rcases hq with hq|hq|hq|hq;exact .inl (.inl hq);exact .inl (.inr (.inl hq));exact .inl (.inr (.inr (.inl hq)));exact(j g hq).imp (λh=>.inr (.inr (.inr h))) id,t⟩
def VI{s n:aV}{aeL:Option aW}(h:bQ w F d s n aeL p)(g:p.dark=false)(v:H):Calls prog 229 #[N d,v] w λr w'=>r=.returned (Z 3)/\S w w':=by obtain⟨o,a,-⟩:=h.blk;obtain⟨i,m,l⟩:=p;obtain rfl:i=false:=g;obtain⟨j,t⟩:=a.rules;clear h a;go_wp2;go_ret;exact⟨O,aq _ _⟩
def Hb(X:bO)(s:aV)(p:bJ)(e:Int)(X':bO)(s':aV)(p':bJ):Prop:=(e≠0/\X'=X/\s'=s/\p'=p)\/(e=0/\p.dark=true/\p'.dark=false/\p'.burning=false/\∃j,s'.l=s.l++X.pb.take j)
def Yu(h:dq w k X n s p){A:Option Addr}{l:List Int}(B:sp w A l c):Calls prog 229 #[N X.d,.slice A l.length c] w λr w'=>∃e:Int,r=.returned (Z e)/\dU w k X n w' (Hb X s p e):=by
 rcases h.dk with⟨g,j⟩|⟨g,m,aeL,j,t⟩;exact(VI j g _).mono λr w' a=>⟨3,a.1,dU.same h a.2 (ao _) (.inl ⟨ai,rfl,rfl,rfl⟩)⟩;refine(Y7 j (λx i=>(t x i).1) B g).mono λr w' a=>?_;obtain⟨s',rfl,o,v,y⟩:=a;refine⟨0,O,h.disk2 y (.inl ⟨O,v⟩) (λa u=>u.imp id λh=>h.1) (.inr ⟨O,g,O,O,?_⟩)⟩;cases aeL with
 |none=>exact⟨0,by rw[show s'.l=s.l from o,vQ,eF]⟩
 |some x=>
  have i:=(t x O).2;cases x with
  |app bx A b c=>obtain rfl:b=X.pb:=i;exact o
  |cut bf bn n=>exact i.elim
end
def Sy(n:Nat)(d u:Nat->Nat)(h:Nat)(now:Int)(v:Nat)(k:Nat)(a:k<6):(kP n d u h now).setIfInBounds (1+k*2+1) (N v)=kP n d (upd u k v) h now:=
 an.six (P:=λk=>(kP n d u h now).setIfInBounds (1+k*2+1) (N v)=kP n d (upd u k v) h now) O O O O O O k a
def cE.fresh{C:aJ}(h:cE w0 w c C aeM)(hN:aeM<=N')(o:k<6){X':bO}{s':aV}{p':bJ}{y':fA}(h1:dq w' k X' N' s' p')(W:X'.d=(C.X k).d)(P:aa (C.X k).G w w')(B:∀a,X'.G a->(C.X k).G a\/w.heap.size<=a):
  dW w0 w (w'.setCell (I c (1+k*2+1)) (N X'.u)) c C (C.put k X' s' p' y') N':=by
 have J:aa (aR c) w' (w'.setCell (I c (1+k*2+1)) (N X'.u)):=aa.set (I c (1+k*2+1)) (show aR c c from O) _;have hi:=h.inh;have t:∀j,j<6->∀a,(C.X j).G a->j≠k->¬X'.G a:=λj g a v Q hX=>by rcases B a hX with h'|h';exact h.xx j k g o Q a v h';have:=hi a (.inr (.inl ⟨j,g,v⟩));omega
 have y:¬X'.G c:=λhq=>by rcases B c hq with h'|h';exact h.cx k o h';have:=h.blk.lt;omega
 have hA:C.A.setIfInBounds (1+k*2+1) (N X'.u)=(C.put k X' s' p' y').A:=by
  have E:(λj=>(upd C.X k X' j).d)=λj=>(C.X j).d:=funext λj=>by by_cases e:j=k;subst e;rw[eD];exact W;rw[eK _ _ e]
  have K:(λj=>(upd C.X k X' j).u)=upd (λj=>(C.X j).u) k X'.u:=funext λj=>by by_cases e:j=k;subst e;rw[eD,eD];rw[eK _ _ e,eK _ _ e]
  show _=kP _ (λj=>(upd C.X k X' j).d) (λj=>(upd C.X k X' j).u) _ _;rw[E,K];exact Sy _ _ _ _ _ _ k o
 have one:∀a,aR c a->a=c:=λa e=>e;refine⟨⟨?_,h.n1,h.n6,λj g=>?_,(h.ne.mod P (h.xn k o).symm (h.xb k o)).mod J (λa hq e=>h.cn (one a e▸hq)) (λa e=>one a e▸h.cb),h.ml,h.nw,h.cb,λj g a hq=>?_,λj g hq=>?_,h.cn,λi j x g r a m l=>?_,λj g a hq R=>?_⟩,(P.mono λa hq=>.inr (.inl ⟨k,o,hq⟩)).trans' J λa _ e=>.inl (one a e),λa hq=>?_,O⟩;rw[<-hA];exact(P.blk h.blk (h.cx k o)).set_ _ _
 ·by_cases e:j=k;subst e;simp only[aJ.put,eD];exact h1.mod J λa hq e=>y (one a e▸hq);simp only[aJ.put,eK _ _ e];exact(((h.si j g).more hN).mod P (h.xx j k g o e)).mod J λa hq e=>h.cx j g (one a e▸hq)
 ·by_cases e:j=k;subst e;simp only[aJ.put,eD]at hq;rcases B a hq with h'|h';exact h.xb j g a h';have:=h.ne.T.below.size;omega;simp only[aJ.put,eK _ _ e]at hq;exact h.xb j g a hq
 ·by_cases e:j=k;subst e;simp only[aJ.put,eD]at hq;exact y hq;simp only[aJ.put,eK _ _ e]at hq;exact h.cx j g hq
 ·by_cases E:i=k;subst E;simp only[aJ.put,eD]at m;simp only[aJ.put,eK _ _ (eC r)]at l;exact t j g a l (eC r) m;simp only[aJ.put,eK _ _ E]at m;by_cases K:j=k;subst K;simp only[aJ.put,eD]at l;exact t i x a m E l;simp only[aJ.put,eK _ _ K]at l;exact h.xx i j x g r a m l
 ·by_cases e:j=k;subst e;simp only[aJ.put,eD]at hq;rcases B a hq with h'|h';exact h.xn j g a h' R;have:=h.ne.inh a R;omega;simp only[aJ.put,eK _ _ e]at hq;exact h.xn j g a hq R
 rcases hq with hq|⟨j,g,hq⟩|hq;exact .inl (.inl hq)
 ·by_cases e:j=k;subst e;simp only[aJ.put,eD]at hq;exact(B a hq).imp (λh=>.inr (.inl ⟨j,g,h⟩)) id;simp only[aJ.put,eK _ _ e]at hq;exact .inl (.inr (.inl ⟨j,g,hq⟩))
 exact .inl (.inr (.inr hq))
structure vr(w:D)(c b k d n:Nat)(x:bD):Prop where
 cn:w.cell? (I c 0)=some (Z n)
 cd:w.cell? (I c (1+k*2))=some (N d)
 fr:∀i,w.frozen? (I c i)=false
 lt:c<w.heap.size
 fb:∀i,w.frozen? (I b i)=false
 lb:b<w.heap.size
 ww:w.cell? (I b 1)=some (Z ((k:Int)+1))
 wp:w.cell? (I b 11)=some (.slice x.pa x.pk.length x.pc)
def vr.of{C:aJ}{x:bD}(g:M w c 88 C.A)(i:k<6)(j:x.w=(k:Int)+1)(a:M w b 58 (aX x)):vr w c b k (C.X k).d C.n x:=
 ⟨by rw[g.cell];rfl,by rw[g.cell];exact xI _ _ _ _ _ k i,g.frozen,g.lt,a.frozen,a.lt,by rw[a.cell];exact bH (λh=>some (Z h)) j,by rw[a.cell];rfl⟩
def Yz{C:aJ}(h:cE w0 w c C aeM)(hG:dv C)(hN:50000<=aeM)(hT:dr w)(hK:2<w0.heap.size/\1<w0.heap.size){x:bD}(xa:x.At w)(T:k<6)(hx:x.w=(k:Int)+1):
  Calls prog 217 #[N c,.agg (aX x)] w (d6 w0 w c C aeM (jY C)):=by
 obtain⟨W0,σ⟩:=cJ ((w.alloc (.cells (aX x) 58)).alloc (.cells (bF z.zero 0) 66));have E:=h.enter x;rw[<-σ]at E;generalize hb0:w.heap.size+1=r0 at E;have HW:=U σ;have HT:=U (hT.call' E.aeI);have HP:=U (xa.call E.aeI).zsl;have CW:=U (λW=>xu (c:=c) T x hx W);have hld:=k7 E.B;have HH:=U E;have HG:=U hG;clear h E σ hT xa hG;go_in;go_upto_region 1 with fail;refine dI HW.o ?_;clear HW;go_upto_region 2 with(apply(CW.o W0).mono;rintro r W1 ⟨rfl,Q⟩);have h1:=HH.o.at_.call Q;have τ:=h1.si k T;have κ:=U ((dW.refl HH.o.at_).call Q);have HF:=U (λ(t:D) (hm:aa (C.X k).G W1 t)=>vr.of (hm.blk h1.blk (h1.cx k T)) T hx (hm.blk (HH.o.stp (aa.of_below Q)) λhG=>aA (HH.o.aeK w.heap.size (.inr (.inl ⟨k,T,hG⟩)))));have b:=U (λ(t:D) (hb:S W1 t)=>Yu (τ.call hb) ((HP.o.call Q).call hb));have β:=U (show∀a,(C.X k).G a->a<W1.heap.size from λa g=>τ.inh a g);clear hld CW h1 Q τ;refine dL [] (C.X k).G 6 β.o Y Y ?_
 iterate 6
  first
  |refine gS rfl ?_;apply cV
   intro _ ρ υ ι ν W hb;have g:=HF.o W hb;simp[execOp,go_sem,υ,ι,ν,g,g.cd,g.fr,g.lt,g.fb,g.lb,g.wp]<;>exact O
  |refine gz (λ_=>rfl) ?_
  simp only[aD]
 refine jl (λ_=>rfl) O 229 (λ_=>#[N ((C.X k).d),.slice x.pa x.pk.length x.pc]) (λe:Int=>Z e) 0 (λt v Y'=>∃e:Int,v=Z e/\dU t k (C.X k) aeM Y' (Hb (C.X k) (C.s k) (C.p k) e)) cK (λ_ t hb=>?ca) ?_
 case ca=>refine(b.o t hb).mono ?_;rintro r Y' ⟨e,rfl,hT⟩;exact⟨e,O,⟨e,O,hT⟩,by obtain⟨_,_,_,_,_,m,_⟩:=hT;exact m⟩
 simp only[aD]
 iterate 1
  refine kU O ?_;simp only[aD]
 refine cT Y ?_;rintro⟨_,e⟩ W2 hC hR;replace hC:aa (C.X k).G W1 W2:=hC
 try dsimp only
 simp only[d8,Nat.reduceAdd,cA]at hR;obtain⟨w1,w2,Q,-,⟨e',he,g3⟩,g4⟩:=fK (hR 6 _ _ cD) O;injection he with _ he;subst he;obtain⟨A,s2,p2,y2,K,ζ,δ⟩:=(κ.o.at_.call (Q O)).site' (ao _) T g3 (R:=λ_ _ _ y=>y=C.aeR k) λ_ _ _ _ _=>⟨_,O⟩;obtain rfl:=δ HG.o;clear δ;replace K:=κ.o.trans ((K.pre (Q O)).call (g4.below λ_ h=>h.1 O));clear hC hR g3 g4 Q HF b β κ;by_cases hz:e=0
 ·subst hz;go_upto_region 5 with fail;have h2:=K.at_;have eX:(C.put k A s2 p2 (C.aeR k)).X k=A:=eD _ _ _;have γ:dq W2 k A aeM s2 p2:=by have:=h2.si k T;rw[eX,show(C.put k A s2 p2 (C.aeR k)).s k=s2 from eD _ _ _,show(C.put k A s2 p2 (C.aeR k)).p k=p2 from eD _ _ _]at this;exact this
  obtain⟨-,Φ,π,χ,jj,Γ⟩:=ζ.resolve_left λh=>h.1 O;have μ:bQ W2 A.F A.d s2 s2 none p2:=by rcases γ.dk with⟨-,h⟩|⟨h,-⟩;exact h;rw[π]at h;cases h
  have Ω:s2.l=eP (C.aeR k).J++(eP (C.aeR k).P).take jj:=by rw[Γ,(HG.o.si k T).jb,(HG.o.si k T).pb Φ]
  have φ:(∀e∈(C.aeR k).J++(C.aeR k).P,e.ok/\bG e=true)/\(fC (fc C.n) ((C.aeR k).J++(C.aeR k).P)).isSome=true:=by obtain⟨m,hm⟩:=(HG.o.si k T).pend;exact⟨λe he=>⟨(hm.may e he).2,(hm.may e he).1⟩,by rw[hm.app];rfl⟩
  have η:∀a,A.F a->(C.put k A s2 p2 (C.aeR k)).G c a:=λa g=>.inr (.inl ⟨k,T,by rw[eX];exact .inr (.inr (.inr g))⟩);have ε:¬A.F c:=λg=>h2.cx k T (by rw[eX];exact .inr (.inr (.inr g)));have Δ:qN A.F:=⟨λg=>aA (h2.base _ (η _ g)),λg=>aA (h2.base _ (η _ g))⟩;have ω:=K.tabs HH.o.at_ HT.o hK;have HF:=U (λ(t:D) (hm:aa A.F W2 t)=>(show vr t c w.heap.size k A.d C.n x from eX▸vr.of (C:=C.put k A s2 p2 (C.aeR k)) (hm.blk h2.blk ε) T hx (hm.blk (HH.o.stp K.mod) λhG=>by rcases K.sub _ (η _ hG)with h|h;have:=HH.o.aeK _ h;omega;have:=HH.o.B.lt;omega)));have b:=U (λ(t:D) (hb:S W2 t)=>G9 h2.n1 h2.n6 T (μ.call hb) π (ω.call' hb) Δ χ Ω φ.1 φ.2);have β:=U (show∀a,A.F a->a<W2.heap.size from λa g=>μ.inh a g);have α:=aB K γ;clear K h2 μ η ε Δ ω γ ζ Φ π χ Γ Ω φ;refine dL [] A.F 10 β.o Y Y ?_
  iterate 10
   first
   |refine gS rfl ?_;apply cV
    intro _ ρ υ ι ν W hb;have g:=HF.o W hb;simp[execOp,go_sem,υ,ι,ν,g,g.cn,g.cd,g.fr,g.lt,g.fb,g.lb,g.ww]<;>exact O
   |refine gz (λ_=>rfl) ?_
   simp only[aD]
  refine jl (λ_=>rfl) O 46 (λ_=>#[Z C.n,Z ((k:Int)+1),N A.d]) (λv:Option Nat×Int=>.tuple #[.pointer (v.1.map λu=>(I u 0)),Z v.2]) (none,0) (λt v Y'=>He t C.n k A.F A.d (C.aeR k).J (C.aeR k).P p2 (.returned v) Y') cK (λ_ t hb=>?cc) ?_
  case cc=>refine(b.o t hb).mono ?_;rintro r Y' hN;obtain⟨hm,X,s',p',i,rfl,a⟩:=id hN;exact⟨(some X.u,0),O,hN,hm⟩
  simp only[aD]
  iterate 5
   refine kU O ?_;simp only[aD]
  refine cT Y ?_;rintro⟨_,⟨uo,e⟩⟩ W3 hC hR;replace hC:aa A.F W2 W3:=hC
  try dsimp only
  simp only[d8,Nat.reduceAdd,cA]at hR;obtain⟨w3,w4,Q,-,g3,g4⟩:=fK (hR 10 _ _ cD) O;have Ξ:=g4.below λ_ h=>h.1 O;have Ψ:=(Q O).size;have γ:=α.o.2;have θ:∀a,A.F a->((C.put k A s2 p2 (C.aeR k)).X k).G a:=λa g=>by rw[eX];exact .inr (.inr (.inr g))
  clear hR g4 HF b β;obtain⟨hm,X',s',p',i,he,q1,q2,-,q4,-,⟨z1,z2,z3,z4⟩,q3⟩:=g3;injection he with he;injection he with he;injection he with he;injection he with h1 h2;injection h2 with h2 _;injection h1 with h1;injection h2 with _ h2;subst h2;obtain rfl:uo=some X'.u:=by
   cases uo with
   |none=>cases h1
   |some u=>injection h1 with h1;injection h1 with h1;rw[h1]
  obtain⟨y',ψ,δ⟩:=Ph (HG.o.si k T) z1 z2 z3 z4 q4;have hZ:=U (show dv C->jr C ((C.put k A s2 p2 (C.aeR k)).put k X' s' p' y')from λL=>by rw[Rn];exact L.grew ψ δ);have K:=α.o.1.at_.fresh (ao aeM) T (X':=X') (s':=s') (p':=p') (y':=y') ((q1.call Ξ).more hN) (by rw[eX];exact q2) (hC.mono θ) (λa g=>by rcases q3 a g with h|h;exact .inl (θ a h);exact .inr (aZ Ψ h));replace K:=α.o.1.trans K;have ε:¬A.F c:=λg=>α.o.1.at_.cx k T (θ c g);have Bc:=hC.blk α.o.1.at_.blk ε;obtain⟨-,cu,-,-,-,fr,lt⟩:Fu W3 c k ((C.put k A s2 p2 (C.aeR k)).X k).d ((C.put k A s2 p2 (C.aeR k)).X k).u C.h C.n C.now:=⟨by rw[Bc.cell];exact xI _ _ _ _ _ k T,by rw[Bc.cell];exact xv _ _ _ _ _ k T,by rw[Bc.cell];rfl,by rw[Bc.cell];rfl,by rw[Bc.cell];rfl,Bc.frozen,Bc.lt⟩;have Θ:=U K;clear hC Q hm q1 q2 q3 q4 z1 z2 z3 z4 ψ δ Ξ Ψ γ θ h1 K ε Bc α;simp only[pX];go_upto_region 8 with fail;have K:=Θ.o;generalize World.setCell W3 _ _=W5 at K⊢;clear Θ cu fr lt;go_wp2_with fail;apply(iS 0 _).mono;rintro r W9 ⟨rfl,ξ⟩;have K:=(K).call ξ;have Br:=HH.o.res K.mod;have hst:=gh Br O z.zero 0;have f:=U (HH.o.o K z.zero 0);have fr:=Br.frozen;clear K Br;go_wp2_with fail;exact eI (s:=4) results217 O f.o.1 underlying66 O (fJ _ _) O (d6.weak f.o.2 hZ.o)
 have hz2:(e==0)=false:=az hz;have hZ:=U (show dv C->jr C (C.put k A s2 p2 (C.aeR k))from λL=>by
  obtain⟨-,rfl,rfl,rfl⟩:=ζ.resolve_right λh=>hz h.1;have hz:ir C.aeR k (C.aeR k)=C.aeR:=funext λj=>by by_cases e:j=k;subst e;rw[uI];rw[wO _ _ e]
  exact L.grew (by rw[hz];exact L.si k T) (jc.refl _ _))
 clear ζ;go_wp2_with fail;apply(iS e W2).mono;rintro r W9 ⟨rfl,ξ⟩;have K:=K.call ξ;have Br:=HH.o.res K.mod;have hst:=gh Br O z.zero e;have f:=U (HH.o.o K z.zero e);have fr:=Br.frozen;clear K Br;go_wp2_with fail;exact eI (s:=4) results217 O f.o.1 underlying66 O (fJ _ _) O (d6.weak f.o.2 hZ.o)
def so(f:FuncId)(b:Bool):Array H:=#[.func (.func f) #[] #[],.bool b]
@[go_sem ↓ high] def abU:=@iY 133
@[go_sem ↓ high] def abm:=@jC 133
def Fk(f:FuncId)(b:Bool):(prog.info? 133).map (·.size)=some (so f b).size:=by rw[show(so f b).size=2 from rfl];kernel_rfl
def Lg(f:FuncId)(b:Bool)(w:D):∃a,(eQ 133 (N w.heap.size) (.agg (so f b))).run prog (w.alloc (.cells #[.nilFunc,.bool false] 133))=.ok .skip a/\M a w.heap.size 133 (so f b)/\S w a:=by have B:M (w.alloc (.cells #[.nilFunc,.bool false] 133)) w.heap.size 133 #[.nilFunc,.bool false]:=M.new _ _ _;exact⟨_,ft B (Fk f b) O (by simp[so,Value.oneCell']),dt B _,Below.rowN ((aq _ _).alloc (ao _) _) (ao _) _⟩
def GO(g:dr w){b:Bool}(h:oI[d*2]? =some (.func (.func f) #[] #[]))(i:oI[d*2+1]? =some (.bool b)):(dQ 133 (.pointer (some (I 1 (d*2))))).run prog w=.ok (.value (.agg (so f b))) w:=
 eO (λj v a=>by
  match j,a with
  |0,a=>cases a;exact g.d _ _ h
  |1,a=>cases a;exact g.d _ _ i
  |j+2,a=>simp[so]at a) underlying133 O (Fk f b)
def li{C:aJ}(h:cE w0 w c C aeM)(hT:dr w){x:bD}(hd:x.d=(d:Int))(δ:1<=d)(γ:d<13){b:Bool}(t1:oI[d*2]? =some (.func (.func f) #[] #[]))(t2:oI[d*2+1]? =some (.bool b))(hw:(!b&& !decide (1<=x.w/\x.w<=6))=false)(hf:∀args w,(callFunc f args).run prog w=.ok (.enter f args) w){Q:aJ->z->Int->Prop}
  (hC:∀l,S w l->Calls prog f #[N c,.agg (aX x)] l (d6 w0 l c C N' Q)):
  Calls prog 29 #[N c,.agg (aX x)] w (d6 w0 w c C N' Q):=by
 obtain⟨i,j⟩:=cJ ((w.alloc (.cells (aX x) 58)).alloc (.cells (bF z.zero 0) 66));have E:=h.enter x;rw[<-j]at E;generalize ε:w.heap.size+1=r0 at E;have HW:=U j;have c0:i.cell? (I w.heap.size 0)=some (.int .u8 (d:Int)):=by rw[E.B.cell];exact bH (λR=>some (Value.int .u8 R)) hd
 have ζ:=GO (hT.call' E.aeI) t1 t2;have e1:IntKind.i64.wrap (d:Int)=d:=bS _ V;have a1:((d:Int)==0)=false:=by rw[fH];omega
 have a2:(d:Int)<13:=V;have a3:(0:Int)<=(d:Int):=V;obtain⟨J,β,T,t⟩:=Lg f b i;have c3:J.cell? (I i.heap.size 0)=some (.func (.func f) #[] #[]):=T.cell 0;have c4:J.cell? (I i.heap.size 1)=some (.bool b):=T.cell 1;have η:=k7 (E.stp (aa.of_below (F:=C.G c) t));have c5:J.cell? (I w.heap.size 1)=some (Z x.w):=(E.stp (aa.of_below (F:=C.G c) t)).cell 1;have HC:=U (hC J (E.aeI.trans (t.mono E.aeI.size)));have m:=aB E t;have CR:=U (λW=>zn x.w W);clear h E j hT t1 t2 hC T t;go_in;go_upto_region 1 with fail;refine dI HW.o ?_;clear HW;go_upto_region 6 with fail;cases b with
 |true=>go_wp2_with fail;apply HC.o.mono;rintro r W4 ⟨a,y,C4,rfl,g,u⟩;replace g:=g.pre m.o.2;have v:=m.o.1.res g.mod;have P:=gh v O a y;have A:=U (m.o.1.o g a y);have K:=U u;clear g v u;go_wp2_with fail;exact eI (s:=4) results29 O A.o.1 underlying66 O (fJ _ _) O ⟨_,_,_,O,A.o.2,K.o⟩
 |false=>have α:decide (1<=x.w/\x.w<=6)=true:=az hw;rw[α]at CR;go_wp2_with (go_at_call 20;apply(CR.o _).mono;rintro r w2 ⟨rfl,rfl⟩);apply HC.o.mono;rintro r W4 ⟨a,y,C4,rfl,g,u⟩;replace g:=g.pre m.o.2;have v:=m.o.1.res g.mod;have P:=gh v O a y;have A:=U (m.o.1.o g a y);have K:=U u;clear g v u;go_wp2_with fail;exact eI (s:=4) results29 O A.o.1 underlying66 O (fJ _ _) O ⟨_,_,_,O,A.o.2,K.o⟩
def G5{C:aJ}(h:cE w0 w c C aeM)(J:dr w){x:bD}(hd:x.d=(d:Int))(δ:1<=d)(β:d<13)(K:oI[d*2]? =some (.func (.func f) #[] #[]))(v:oI[d*2+1]? =some (.bool false))(hw:decide (1<=x.w/\x.w<=6)=false){Q:aJ->z->Int->Prop}(y:Q C z.zero 10):
  Calls prog 29 #[N c,.agg (aX x)] w (d6 w0 w c C aeM Q):=by
 obtain⟨g,a⟩:=cJ ((w.alloc (.cells (aX x) 58)).alloc (.cells (bF z.zero 0) 66));have E:=h.enter x;rw[<-a]at E;generalize ε:w.heap.size+1=r0 at E;have R:=U a;have c0:g.cell? (I w.heap.size 0)=some (.int .u8 (d:Int)):=by rw[E.B.cell];exact bH (λt=>some (Value.int .u8 t)) hd
 have ζ:=GO (J.call' E.aeI) K v;have e1:IntKind.i64.wrap (d:Int)=d:=bS _ V;have a1:((d:Int)==0)=false:=by rw[fH];omega
 have a2:(d:Int)<13:=V;have a3:(0:Int)<=(d:Int):=V;obtain⟨m,α,P,j⟩:=Lg f false g;have c4:m.cell? (I g.heap.size 1)=some (.bool false):=P.cell 1;have c5:m.cell? (I w.heap.size 1)=some (Z x.w):=(E.stp (aa.of_below (F:=C.G c) j)).cell 1;have HQ:=U y;have i:=aB E j;have T:=U (λW=>zn x.w W);clear h E a J K v y P j;go_in;go_upto_region 1 with fail;refine dI R.o ?_;clear R;go_upto_region 6 with fail;rw[hw]at T;go_wp2_with (go_at_call 20;apply(T.o _).mono;rintro r w2 ⟨rfl,rfl⟩);apply(iS 10 m).mono;rintro r W9 ⟨rfl,l⟩;have u:=((dW.refl i.o.1.at_).call i.o.2).call l;have Br:=i.o.1.res u.mod;have γ:=gh Br O z.zero 10;have HX:=U (i.o.1.o u z.zero 10);clear u Br;go_wp2_with fail;exact eI (s:=4) results29 O HX.o.1 underlying66 O (fJ _ _) O ⟨_,_,_,O,HX.o.2,HQ.o⟩
def XJ{C:aJ}(h:cE w0 w c C aeM){x:bD}(K:x.d=0\/13<=x.d)(J:j2 x.d){Q:aJ->z->Int->Prop}(P:Q C z.zero 1):
  Calls prog 29 #[N c,.agg (aX x)] w (d6 w0 w c C aeM Q):=by
 obtain⟨g,i⟩:=cJ ((w.alloc (.cells (aX x) 58)).alloc (.cells (bF z.zero 0) 66));have E:=h.enter x;rw[<-i]at E;generalize α:w.heap.size+1=r0 at E;have y:=U i;have c0:g.cell? (I w.heap.size 0)=some (.int .u8 x.d):=by rw[E.B.cell];rfl
 have e1:IntKind.i64.wrap x.d=x.d:=bS _ (cF J.1 J.2);have m:=U E;have R:=U P;clear h E i P;obtain⟨a,W⟩:=aM (x.d);rw[W]at c0 e1 K J;by_cases A:a=0
 ·subst A;go_in;go_upto_region 1 with fail;refine dI y.o ?_;clear y;go_wp2_with fail;apply(iS 1 g).mono;rintro r W3 ⟨rfl,l⟩;have j:=(dW.refl m.o.at_).call l;have u:=m.o.res j.mod;have G:=gh u O z.zero 1;have v:=U (m.o.o j z.zero 1);clear j u;go_wp2_with fail;exact eI (s:=4) results29 O v.o.1 underlying66 O (fJ _ _) O ⟨_,_,_,O,v.o.2,R.o⟩
 have T:13<=a:=K.resolve_left A;have a1:(a==0)=false:=by rw[fH];exact A
 go_in;go_upto_region 1 with fail;refine dI y.o ?_;clear y;go_wp2_with fail;apply(iS 1 g).mono;rintro r W3 ⟨rfl,l⟩;have j:=(dW.refl m.o.at_).call l;have u:=m.o.res j.mod;have G:=gh u O z.zero 1;have v:=U (m.o.o j z.zero 1);clear j u;go_wp2_with fail;exact eI (s:=4) results29 O v.o.1 underlying66 O (fJ _ _) O ⟨_,_,_,O,v.o.2,R.o⟩
def pT(C:aJ)(x:bD)(C':aJ)(E:z)(e:Int):Prop:=(x.d≠1->jY C C' E e)/\(x.d=1->(∃k:Nat,k<6/\x.w=(k:Int)+1/\Ie C k x C' E e)\/(¬(1<=x.w/\x.w<=6)/\C'=C/\E=z.zero/\e=10))
def pT.of{C:aJ}{x:bD}{C':aJ}{E:z}(a:x.d≠1)(h:jY C C' E e):pT C x C' E e:=⟨λ_=>h,λh=>absurd h a⟩
def d6.to{C:aJ}{Q a:aJ->z->Int->Prop}{x:Ending}(h:d6 w0 w c C aeM Q x w')(m:aeM<=N')(l:∀C' E e,Q C' E e->a C' E e):d6 w0 w c C N' a x w':=by obtain⟨E,e,C',i,g,j⟩:=h;exact⟨E,e,C',i,g.more m,l _ _ _ j⟩
def G6{C:aJ}{x:bD}(h:cE w0 w c C aeM)(R:dv C)(W:x.d≠1)(T:x.d≠4)(J:x.d≠12)(y:50000<=aeM/\aeM<=100000)(o:dr w)(K:2<w0.heap.size/\1<w0.heap.size)(u:x.ok)(E:x.At w):
  Calls prog 29 #[N c,.agg (aX x)] w (d6 w0 w c C aeM (jY C)):=by
 by_cases A:x.d=0\/13<=x.d;exact XJ h A u.d (Q:=jY C) λh=>.refl h;obtain⟨d,i⟩:∃d:Nat,x.d=(d:Int):=⟨x.d.toNat,aA u.d.1⟩;have g:1<=d:=V;have a:d<13:=V;have key:d=2\/d=3\/d=5\/d=6\/d=7\/d=8\/d=9\/d=10\/d=11:=V;by_cases v:1<=x.w/\x.w<=6;obtain⟨k,t⟩:∃k:Nat,x.w=(k:Int)+1:=⟨(x.w-1).toNat,V⟩;have r:k<6:=V;have m:decide (1<=x.w/\x.w<=6)=true:=fa v;rcases key with rfl|rfl|rfl|rfl|rfl|rfl|rfl|rfl|rfl;exact li h o i g a rfl rfl (by rw[m];rfl) (λ_ _=>Y) λl j=>Vs (h.call j) y.2 r t;exact li h o i g a rfl rfl (by rw[m];rfl) (λ_ _=>Y) λl j=>GC (h.call j) x;exact li h o i g a rfl rfl (by rw[m];rfl) (λ_ _=>Y) λl j=>GE (h.call j) x;exact li h o i g a rfl rfl (by rw[m];rfl) (λ_ _=>Y) λl j=>FH (h.call j) x;exact li h o i g a rfl rfl (by rw[m];rfl) (λ_ _=>Y) λl j=>XK (h.call j) x;exact li h o i g a rfl rfl (by rw[m];rfl) (λ_ _=>Y) λl j=>GD (h.call j) x;exact li h o i g a rfl rfl (by rw[m];rfl) (λ_ _=>Y) λl j=>Vt (h.call j) u r t;exact li h o i g a rfl rfl (by rw[m];rfl) (λ_ _=>Y) λl j=>XH (h.call j) r t;exact li h o i g a O O (by rw[m];rfl) (λ_ _=>Y) λl j=>Yz (h.call j) R y.1 (o.call' j) K (E.call j) r t;have m:decide (1<=x.w/\x.w<=6)=false:=fO v;have key:(d=2\/d=7\/d=9\/d=10\/d=11)\/d=3\/d=5\/d=6\/d=8:=V;rcases key with key|rfl|rfl|rfl|rfl
 ·have G:∃f:FuncId,oI[d*2]? =some (.func (.func f) #[] #[])/\oI[d*2+1]? =some (.bool false):=by rcases key with rfl|rfl|rfl|rfl|rfl<;>exact⟨_,rfl,rfl⟩
  obtain⟨f,P,B⟩:=G;exact G5 h o i g a P B m (Q:=jY C) λh=>.refl h
 exact li h o i g a O O O (λ_ _=>Y) λl j=>GC (h.call j) x;exact li h o i g a O O O (λ_ _=>Y) λl j=>GE (h.call j) x;exact li h o i g a O O O (λ_ _=>Y) λl j=>FH (h.call j) x;exact li h o i g a O O O (λ_ _=>Y) λl j=>GD (h.call j) x
def YA{C:aJ}{x:bD}(h:cE w0 w c C aeM)(G:dv C)(m:x.d≠12)(P:50000<=aeM/\aeM+64<=100000)(i:dr w)(A:2<w0.heap.size/\1<w0.heap.size)(v:x.ok)(J:x.At w):
  Calls prog 29 #[N c,.agg (aX x)] w (d6 w0 w c C (aeM+64) (pT C x)):=by
 by_cases j:x.d=1
 ·by_cases t:1<=x.w/\x.w<=6;obtain⟨k,B⟩:∃k:Nat,x.w=(k:Int)+1:=⟨(x.w-1).toNat,V⟩;have u:k<6:=V;exact(li h i (d:=1) j V V O O (by rw[fa t];rfl) (λ_ _=>Y) λo l=>XL (h.call l) V (i.call' l) v u B).mono λr w' a=>a.to V λ_ _ _ g=>⟨λh=>absurd j h,λ_=>.inl ⟨k,u,B,g⟩⟩;exact(G5 h i (d:=1) j V V O O (fO t) (Q:=λC' E e=>C'=C/\E=z.zero/\e=10) ⟨O,O,O⟩).mono λr w' a=>a.to V λ_ _ _ g=>⟨λ_ K=>by rw[g.1];exact .refl K,λ_=>.inr ⟨t,g⟩⟩
 by_cases y:x.d=4;exact(li h i (d:=4) y V V O O O (λ_ _=>Y) λo l=>NP (h.call l) G V (i.call' l) A x).mono λr w' a=>a.to V λ_ _ _ g=>.of j g;exact(G6 h G j y m ⟨P.1,V⟩ i A v J).mono λr w' a=>a.to V λ_ _ _ g=>.of j g
structure fh where
 inn:Nat->Bool
 kn:an
 aeM:List eB
 G:List cI
def fh.zero:fh:=⟨λ_=>false,an.zero,[],[]⟩
def aG.sta(m:aG):fh:=⟨m.inn,m.kn,cq m,ec m⟩
structure fh.At(s:fh)(w:D)(base:Nat)(v:H):Prop where
 ex:∃vN vG,v=.agg (aT s.inn s.kn vN vG)/\eV w base vN s.aeM/\iK w base vG s.G
def fh.At.call{s:fh}{base:Nat}{v:H}(h:s.At w base v)(a:S w w'):s.At w' base v:=by obtain⟨j,g,e,l,i⟩:=h;exact⟨j,g,e,Row.call l a,Row.call i a⟩
def pG(C:aJ)(i:Int):fh×Bool:=if(1<=i/\i<=6)/\C.up (i-1).toNat=true then((C.X (i-1).toNat).R.m.sta,true)else(fh.zero,false)
def AA(w:D)(p:fh×Bool)(x:Ending)(w':D):Prop:=∃v,x=.returned (.tuple #[v,.bool p.2])/\p.1.At w' w.heap.size v/\S w w'
def JI{i:Int}{b1 b2:Bool}(J:b1=true->b2=false)(x:decide (1<=i/\i<=6)=b1)
  (t:b1=true->∀a,S w a->Calls prog 21 #[.pointer (some (I c (1+(i-1).toNat*2)))] a λr w'=>r=.returned (.bool false)/\a=w') (Q:c<w.heap.size):
  Calls prog 9 #[N c,Z i] w (AA w (fh.zero,false)):=by
 obtain⟨h,l,y,B⟩:=tH w 37 (aT (λ_=>false) an.zero (.slice none 0 0) (.slice none 0 0));have C:=U (λW=>zn i W);have E:(eQ 37 (N w.heap.size) (.agg #[.bool false,.bool false,.bool false,.bool false,.bool false,.bool false,.bool false,.bool false,.bool false,.bool false,.bool false,.bool false,q 0,q 0,q 0,q 0,q 0,q 0,.slice none 0 0,.slice none 0 0])).run prog h=.ok .skip (h.setRow w.heap.size (aT (λ_=>false) an.zero (.slice none 0 0) (.slice none 0 0))):=by have:=ft (P:=prog) (ty:=37) y (im (λ_=>false) an.zero (.slice none 0 0) (.slice none 0 0)) O s9;exact this
 have v:=aB (dt y (aT (λ_=>false) an.zero (.slice none 0 0) (.slice none 0 0))) (Below.rowN B (g:=w.heap.size) (ao _) (aT (λ_=>false) an.zero (.slice none 0 0) (.slice none 0 0)));have m:=U l;have G:=U B;clear B y l;rw[x]at C;cases b1 with
 |false=>clear t;go_in;go_upto_region 1 with fail;refine dI m.o ?_;clear m;go_wp2_with (go_at_call 20;apply(C.o _).mono;rintro r w2 ⟨rfl,rfl⟩);refine kA (s:=4) (u:=5) results9 O O v.o.1 underlying37 O (im _ _ _ _) O ?_;exact⟨_,O,⟨_,_,O,Row.nil,Row.nil⟩,v.o.2⟩
 |true=>obtain⟨k,rfl⟩:∃k:Nat,i=(k:Int)+1:=⟨(i-1).toNat,aA (nY x)⟩;have K:k<6:=aA (nY x);have R:IntKind.i64.wrap (k:Int)=k:=bS _ V;have T:(0:Int)<=(k:Int):=V;have a2:(k:Int)<6:=V;rw[bU (((k:Int)+1-1).toNat=k)]at t;have A:=U (t O h G.o);clear t;go_in;go_upto_region 1 with fail;refine dI m.o ?_;clear m;go_wp2_with (first|(go_at_call 20;apply(C.o _).mono;rintro r w2 ⟨rfl,rfl⟩)|(go_at_call 21;apply A.o.mono;rintro r w2 ⟨rfl,rfl⟩));refine kA (s:=4) (u:=5) results9 O O v.o.1 underlying37 O (im _ _ _ _) O ?_;exact⟨_,O,⟨_,_,O,Row.nil,Row.nil⟩,v.o.2⟩
def zA{C:aJ}(h:cE w0 w c C aeM)(B:aeM<=900000)(i:Int):Calls prog 9 #[N c,Z i] w (AA w (pG C i)):=by
 by_cases A:1<=i/\i<=6
 ·obtain⟨k,rfl⟩:∃k:Nat,i=(k:Int)+1:=⟨(i-1).toNat,V⟩;have hk:k<6:=V;have G:((k:Int)+1-1).toNat=k:=V;cases j:C.up k with
  |false=>rw[show pG C ((k:Int)+1)=(fh.zero,false)from al λa=>by have:=a.2;rw[G,j]at this;cases this];refine JI (b1:=true) (b2:=false) (λ_=>rfl) (fa A) (λ_ β hb=>?_) h.blk.lt;rw[G];exact(vo (h.call hb) hk (show _=false from j)).mono λr w' a=>⟨a.1,a.2⟩
  |true=>
   rw[show pG C ((k:Int)+1)=((C.X k).R.m.sta,true)from(av ⟨A,by rw[G];exact j⟩).trans (by rw[G])];obtain⟨W0,l,B0,D0⟩:=tH w 37 (aT (λ_=>false) an.zero (.slice none 0 0) (.slice none 0 0));have aC:W0.heap.size=w.heap.size+1:=by rw[l];simp
   have T:=h.call D0;have CR:=U (λW=>zn ((k:Int)+1) W);have CU:=U (vo T hk (show _=true from j));have CS:=U (SR (T.si k hk) B);obtain⟨m,hm⟩:=aM ((C.X k).R.m);rw[hm]at CS⊢;have hw:IntKind.i64.wrap (k:Int)=k:=bS _ V;have a1:(0:Int)<=(k:Int):=V;have a2:(k:Int)<6:=V;have Q:decide (1<=(k:Int)+1/\(k:Int)+1<=6)=true:=fa A;rw[Q]at CR;obtain⟨-,cu,-,-,-,fr,lt⟩:=T.rd hk;have HW:=U l;have HH:=aP B0 D0 aC;clear D0 B0 l T aC h A G j Q;go_in;go_upto_region 1 with fail;refine dI HW.o ?_;clear HW;go_wp2_with (first|(go_at_call 20;apply(CR.o _).mono;rintro r w2 ⟨rfl,rfl⟩)|(go_at_call 21;apply CU.o.mono;rintro r w2 ⟨rfl,rfl⟩));apply CS.o.mono;rintro x W1 ⟨y,v,rfl,B,hG,t⟩;obtain⟨A1,c1,e1,-,-⟩:=B.sl;obtain⟨A2,c2,e2,-,-⟩:=hG.sl;have B1:=HH.o.1.call t;have α:=ft (P:=prog) (ty:=37) B1 (im m.inn m.kn y v) O (by rw[e1,e2];exact s9);have m2:aa (aR w.heap.size) W1 (W1.setRow w.heap.size (aT m.inn m.kn y v)):=aa.of_fr1 (fl W1 w.heap.size _) O;have J:=B.ge;have E:=hG.ge;have aC:=HH.o.2.2;have N2:=m2.row B λa hq K=>by have K:a=w.heap.size:=K;have:=(J a hq).1;omega
   have G2:=m2.row hG λa hq K=>by have K:a=w.heap.size:=K;have:=(E a hq).1;omega
   have HX:=cQ (dt B1 (aT m.inn m.kn y v)) (Row.mono N2 V:eV _ w.heap.size y (cq m)) (Row.mono G2 V:iK _ w.heap.size v (ec m)) (Below.rowN (HH.o.2.1.trans (t.mono HH.o.2.1.size)) (g:=w.heap.size) (ao _) (aT m.inn m.kn y v));clear B hG t e1 e2 B1 m2 J E aC N2 G2 CS CR CU;go_wp2_with fail;refine kA (s:=4) (u:=5) results9 O O HX.o.1 underlying37 O (im _ _ _ _) O ?_;exact⟨_,O,⟨y,v,O,HX.o.2.1,HX.o.2.2.1⟩,HX.o.2.2.2⟩
 rw[show pG C i=(fh.zero,false)from al λa=>A a.1];exact JI (b1:=false) (b2:=false) (λh=>aK h) (fO A) (λh=>aK h) h.blk.lt
def mv(n:Nat)(d u:Nat->H)(h:Nat)(now:Int):Array H:=#[Z n,d 0,u 0,d 1,u 1,d 2,u 2,d 3,u 3,d 4,u 4,d 5,u 5,N h,q now]
def jQ(j:Nat)(f:Nat->Nat):Nat->H:=λk=>.pointer (if k<j then some (I (f k) 0)else none)
def Sx(n:Nat)(d u:Nat->Nat)(h:Nat)(now:Int)(g a:Nat)(j:Nat)(i:j<6):
  ((mv n (jQ j d) (jQ j u) h now).toList.take (1+j*2)++(#[N g,N a]:Array H).toList++(mv n (jQ j d) (jQ j u) h now).toList.drop (1+j*2+(#[N g,N a]:Array H).size)).toArray=mv n (jQ (j+1) (upd d j g)) (jQ (j+1) (upd u j a)) h now:=
 an.six (P:=λj=>((mv n (jQ j d) (jQ j u) h now).toList.take (1+j*2)++(#[N g,N a]:Array H).toList++(mv n (jQ j d) (jQ j u) h now).toList.drop (1+j*2+(#[N g,N a]:Array H).size)).toArray=mv n (jQ (j+1) (upd d j g)) (jQ (j+1) (upd u j a)) h now) O O O O O O j i
@[go_sem ↓ high] def abg:=@jC 84
def Ra(x y:H):(prog.info? 84).map (·.size)=some (#[x,y]:Array H).size:=by rw[show(#[x,y]:Array H).size=2 from rfl];kernel_rfl
def bO.any:bO:=⟨⟨⟨0,0,0,0,0,0,0⟩,fc 1,0,0,λ_=>.nilFunc,λ_=>[],an.zero,0,0,0,[],0,λ_=>0,0,0,[],bC,λ_=>False⟩,0,0,0,0,0,false,false,bC,[]⟩
structure vs(w wr:D)(n j:Nat)(X:Nat->bO)(s:Nat->aV)(p:Nat->bJ):Prop where
 blk:M wr (w.heap.size+1) 88 (mv n (jQ j λk=>(X k).d) (jQ j λk=>(X k).u) w.heap.size 0)
 ne:bK w wr [] w.heap.size (.slice none 0 0) [] [] (λ_=>false)
 si:∀k,k<j->dq wr k (X k) 50000 (s k) (p k)
 gt:∀k,k<j->∀aeT,(X k).G aeT->w.heap.size+2<=aeT
 ds:∀i k,i<j->k<j->i≠k->dJ (X i).G (X k).G
 pr:∀k,k<j->(X k).R.m=fc n/\(X k).dead=false/\(p k).dark=false/\(p k).burning=false/\(s k).l.length=0/\∀e,¬(X k).R.gn e
structure wC(C:aJ)(n:Nat):Prop where
 nn:C.n=n
 pr:∀k,k<6->(C.X k).R.m=fc n/\(C.X k).dead=false/\(C.p k).dark=false/\(C.p k).burning=false/\(C.s k).l.length=0/\∀e,¬(C.X k).R.gn e
 sem:dv C
 J0:∀k,(C.aeR k).J=[]/\(C.aeR k).P=[]
def vs.full{wr:D}{X:Nat->bO}{s:Nat->aV}{p:Nat->bJ}(h:vs w wr n 6 X s p)(o:1<=n)(l:n<=6):∃C,cE w wr (w.heap.size+1) C 50000/\wC C n:=by
 refine⟨⟨n,X,s,p,w.heap.size,.slice none 0 0,[],[],λ_=>false,0,λ_=>⟨[],[],fc n⟩⟩,⟨h.blk,o,l,h.si,h.ne,⟨gM _,λm i=>aK i⟩,(show bo 0 by constructor<;>decide),qi _,λk a g hq=>aA (h.gt k a g hq),λk a hq=>aA (h.gt k a _ hq),λhq=>?_,h.ds,λk a g hq r=>?_⟩,O,h.pr,⟨λk a=>aau (tS.1 (h.pr k a).2.2.2.2.1) (h.pr k a).1 (h.pr k a).2.2.2.2.2 (h.pr k a).2.2.1,λm i=>(aK i)⟩,λ_=>⟨O,O⟩⟩
 ·rcases hq with hq|hq|⟨x,j,-⟩;have hq:w.heap.size+1=w.heap.size:=hq;omega
  ·cases hq
  cases j
 have:=h.gt k a g hq;rcases r with hq|hq|⟨x,j,-⟩;have hq:g=w.heap.size:=hq;omega
 ·cases hq
 cases j
def Ti(w:D)(n:Nat)(x:Ending)(w':D):Prop:=∃c C,x=.returned (.tuple #[N c,Z 0])/\cE w w' c C 50000/\wC C n/\S w w'
def XI(h1:1<=n)(h6:n<=6)(hT:dr w):Calls prog 27 #[Z n] w (Ti w n):=by
 have CN:=U (Ya w);have HT:=U hT;have N0:=bK.new w;obtain⟨W2,Q⟩:=cJ ((w.alloc (.cells (dZ (.slice none 0 0) λ_=>false) 149)).alloc (.cells (mv n (λ_=>.pointer none) (λ_=>.pointer none) w.heap.size 0) 88));have D2:Below (w.alloc (.cells (dZ (.slice none 0 0) λ_=>false) 149)).heap.size (w.alloc (.cells (dZ (.slice none 0 0) λ_=>false) 149)) W2:=Q▸(aq _ _).alloc (ao _) _;have B2:M W2 (w.heap.size+1) 88 (mv n (λ_=>.pointer none) (λ_=>.pointer none) w.heap.size 0):=by have:=M.new (w.alloc (.cells (dZ (.slice none 0 0) λ_=>false) 149)) 88 (mv n (λ_=>.pointer none) (λ_=>.pointer none) w.heap.size 0);rw[<-Q]at this;simpa using this
 have I0:vs w W2 n 0 (λ_=>bO.any) (λ_=>⟨none,[],0⟩) (λ_=>⟨false,false,0⟩):=⟨B2,N0.call D2,λk K=>V,λk K=>V,λi k hi=>V,λk K=>V⟩;have HI:=U I0;have HW:=U Q;have θ:=U hT.lt;clear N0 D2 B2 I0 hT Q;go_in;go_wp2_with fail;apply CN.o.mono;rintro r W1 ⟨rfl,rfl⟩;go_wp2_with fail;generalize hg:(w.alloc _).alloc _=X0;obtain rfl:W2=X0:=HW.o.trans hg;clear HW hg CN;go_loopw [19] (λi wr=>∃j:Nat,j<=6/\i=Z j/\∃X s p,vs w wr n j X s p) (λi _=>6-(intOf i).toNat);exact⟨0,V,O,_,_,_,HI.o⟩;obtain⟨j,hj,rfl,X,s,p,hI⟩:=hrel;have y:=U hI;clear hI;by_cases ε:j<6
 ·have hd:((j:Int)<6):=V;have a0:(0:Int)<=(j:Int):=V;go_wp2_with fail;apply(Yw wr).mono;rintro r W3 ⟨rfl,γ,δ⟩;have ι:=y.o.ne.T.below.size;have hD:bQ W3 (aR wr.heap.size) wr.heap.size ⟨none,[],0⟩ ⟨none,[],0⟩ none ⟨false,false,0⟩:=⟨⟨_,γ,O⟩,bM.nil _,bM.nil _,(λ_ _ h=>aK h),(λ_ _ h=>aK h),O,⟨by constructor<;>decide,λh=>aK h⟩,ah,ah,λg hq=>by have hq:g=wr.heap.size:=hq;rw[hq];exact γ.lt⟩;have CD:=U (G9 h1 h6 ε hD O ((HT.o.call' y.o.ne.T.below).call' δ) ⟨λhq=>by have hq:2=wr.heap.size:=hq;have:=θ.o.1;omega,λhq=>by have hq:1=wr.heap.size:=hq;have:=θ.o.2;omega⟩ (J:=[]) (P:=[]) (jj:=0) O O (λe he=>(aK he)) O);have β:=aB δ ι;clear γ δ ι hD;go_wp2_with fail;apply CD.o.mono;rintro r W4 ⟨hm,v,s',p',i,rfl,q1,q2,q3,q4,q5,⟨z1,z2,z3,z4⟩,q7⟩;have q6:s'.l.length=0:=by rw[z2,List.take_nil,eF];rfl
  have q8:v.R.m=fc n:=by rw[List.take_nil,eF]at z3;exact(eZ z3).symm
  have q9:∀e,¬v.R.gn e:=λe he=>by rw[z4,List.take_nil,eF]at he;exact(aK he)
  have W:S wr W4:=β.o.1.trans (hm.belowC β.o.1.size λk K e=>by have e:k=wr.heap.size:=e;omega);have B4:=y.o.blk.call W;have B:∀g,v.G g->wr.heap.size<=g:=λg hq=>by rcases q7 g hq with h|h;have h:g=wr.heap.size:=h;omega;exact aZ β.o.1.size h
  have ζ:=zI (P:=prog) (ty:=84) (o:=1+j*2) (cells:=#[N v.d,N v.u]) B4 (Ra _ _) (by show 1+j*2+2<=15;omega) (by simp[Value.oneCell']);rw[Sx _ _ _ _ _ _ _ j ε]at ζ;have m2:aa (aR (w.heap.size+1)) W4 (W4.setRow (w.heap.size+1) (mv n (jQ (j+1) (upd (λk=>(X k).d) j v.d)) (jQ (j+1) (upd (λk=>(X k).u) j v.u)) w.heap.size 0)):=aa.of_fr1 (fl W4 _ _) O;have κ:=y.o.blk.lt;have η:vs w (W4.setRow (w.heap.size+1) (mv n (jQ (j+1) (upd (λk=>(X k).d) j v.d)) (jQ (j+1) (upd (λk=>(X k).u) j v.u)) w.heap.size 0)) n (j+1) (upd X j v) (upd s j s') (upd p j p'):=by
   have e1:(λk=>(upd X j v k).d)=upd (λk=>(X k).d) j v.d:=funext λk=>by by_cases e:k=j;subst e;rw[eD,eD];rw[eK _ _ e,eK _ _ e]
   have e2:(λk=>(upd X j v k).u)=upd (λk=>(X k).u) j v.u:=funext λk=>by by_cases e:k=j;subst e;rw[eD,eD];rw[eK _ _ e,eK _ _ e]
   have t:∀k,k<j+1->k≠j->k<j:=λk h1 h2=>V;refine⟨?_,(y.o.ne.call W).mod m2 (λg hq e=>?_) (λg e=>?_),λk K=>?_,λk K g hq=>?_,λa b ha hb α g E A=>?_,λk K=>?_⟩;rw[e1,e2];exact dt B4 _
   ·have e:g=w.heap.size+1:=e;rcases hq with hq|hq|⟨x,hx,-⟩;omega
    ·cases hq
    cases hx
   have e:g=w.heap.size+1:=e;omega
   ·by_cases e:k=j
    ·subst e;simp only[eD];exact q1.mod m2 λg hq e=>by have e:g=w.heap.size+1:=e;have:=B g hq;omega
    simp only[eK _ _ e];exact((y.o.si k (t k K e)).call W).mod m2 λg hq e'=>by have e':g=w.heap.size+1:=e';have:=y.o.gt k (t k K e) g hq;omega
   ·by_cases e:k=j;subst e;simp only[eD]at hq;have:=B g hq;omega;simp only[eK _ _ e]at hq;exact y.o.gt k (t k K e) g hq
   ·by_cases ea:a=j;subst ea;simp only[eD]at E;simp only[eK _ _ (eC α)]at A;have:=B g E;have:=(y.o.si b (t b hb (eC α))).inh g A;omega;simp only[eK _ _ ea]at E;by_cases eb:b=j;subst eb;simp only[eD]at A;have:=B g A;have:=(y.o.si a (t a ha ea)).inh g E;omega;simp only[eK _ _ eb]at A;exact y.o.ds a b (t a ha ea) (t b hb eb) α g E A
   by_cases e:k=j;subst e;simp only[eD];exact⟨q8,q3,q4,q5,q6,q9⟩;simp only[eK _ _ e];exact y.o.pr k (t k K e)
  have H5:=U η;rw[q2]at ζ;clear hm q1 q3 q4 q5 q6 q7 q8 q9 z1 z2 z3 z4 W B4 B m2 η CD;go_wp2;go_roundw
  ·exact⟨j+1,V,by go_num,_,_,_,q2▸H5.o⟩
  simp[intOf];omega
 obtain rfl:j=6:=V;go_wp2;go_ret2;obtain⟨C,hC,hF⟩:=y.o.full h1 h6;exact⟨_,C,O,hC,hF,hC.ne.T.below⟩
