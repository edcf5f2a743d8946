import Derived.Test.YtemcfhlbmhbjeaaGreatDoorZ14
set_option maxRecDepth 100000
set_option maxHeartbeats 0
set_option linter.all false
namespace Go.Proofs.YtemcfhlbmhbjeaaGreatDoor
open Go.Proofs.Tryz
variable{w:D}{d c j g bb bd k:Nat}{F:Nat->Prop}{s:aV}{p:bJ}{a:Int}{A:Option Addr}
open Go Go.RowKit
def aa.step{W e:D}(a:aa F w W)(b:aa (dF F w W) W e):aa F w e:=a.trans' b λk f h=>by rcases h with h|h;exact h;omega
def dF.step{W b:D}(h:dF (dF F w W) W b k)(e:w.heap.size<=W.heap.size)(f:W.heap.size<=b.heap.size):dF F w b k:=by rcases h with(h|h)|h;exact .inl h;exact .inr ⟨h.1,V⟩;exact .inr ⟨V,h.2⟩
structure ku(w:D)(F:Nat->Prop)(W:D)(d:Nat)(s n:aV)(aeL:Option aW)(p:bJ):Prop where
 at_:bQ W (dF F w W) d s n aeL p
 mod:aa F w W
section
variable{w W W':D}{F:Nat->Prop}{d:Nat}{s n:aV}{aeL:Option aW}{p:bJ}
def ku.start(h:bQ w F d s n aeL p):ku w F w d s n aeL p:=⟨h.mono (λk b=>.inl b) (dF.inH h.inh (ao _)),aa.refl⟩
def ku.call(h:ku w F W d s n aeL p)(b:S W W'):ku w F W' d s n aeL p:=by have e:=b.size;refine⟨(h.at_.call b).mono (λk hk=>?_) λk hk=>?_,h.mod.call b⟩;rcases hk with hk|hk;exact .inl hk;exact .inr ⟨hk.1,V⟩;rcases hk with hk|hk;exact ee (h.at_.inh k (.inl hk)) e;exact hk.2
def ku.next{s' n':aV}{e:Option aW}{p':bJ}(h:ku w F W d s n aeL p)(f:bQ W' (dF (dF F w W) W W') d s' n' e p')(m:aa (dF F w W) W W'):ku w F W' d s' n' e p':=by have i:=h.mod.size;have b:=m.size;refine⟨f.mono (λk hk=>dF.step hk i b) λk hk=>?_,h.mod.step m⟩;rcases hk with hk|hk;exact ee (h.at_.inh k (.inl hk)) b;exact hk.2
def ku.same{s' n':aV}{b:Option aW}{p':bJ}(h:ku w F W d s n aeL p)(e:bQ W' (dF F w W) d s' n' b p')(m:aa (dF F w W) W W'):ku w F W' d s' n' b p':=h.next (e.mono (λk f=>.inl f) (dF.inH h.at_.inh m.size)) m
end
def T9{n:aV}{aeL:Option aW}(h:bQ w F d s n aeL p)(e:p.dark=false):Calls prog 82 #[N d] w λr f=>r=.returned (Z 0)/\S w f:=by have C:=U (VG h e);clear h;go_in;go_wp2_with fail;apply C.o.mono;rintro r l ⟨A,c,rfl,b⟩;have i:=U b;clear b C;go_wp2;go_ret;exact⟨O,i.o⟩
def qC(f:D->Prop)(b:Int->D->Prop)(r:Ending)(w':D):Prop:=∃e:Int,r=.returned (Z e)/\((e=0/\f w')\/(e≠0/\b e w'))
def Ua{a b:Nat}{I0 I1 I2 v:D->Prop}{f:Int->D->Prop}
  (J:∀W,(I0 W\/I1 W\/I2 W)->M W g 211 #[.func (.func 79) #[] #[N a,N b,N c],.func (.func 81) #[] #[N c],.func (.func 83) #[] #[N c]])
  (G:I0 w) (E:∀W,I0 W->Calls prog 79 #[N a,N b,N c] W (qC I1 f)) (c1:∀W,I1 W->Calls prog 81 #[N c] W (qC I2 f)) (y:∀W,I2 W->Calls prog 83 #[N c] W (qC v f)):
  Calls prog 78 #[bh g 3 3] w (qC v f):=by
 have x:=U J;have K:=U E;have Q:=U c1;have P:=U y;have L:=U G;clear J E c1 y G;go_wp2;go_loopw [8] (λi wr=>(i=Z 0/\I0 wr)\/(i=Z 1/\I1 wr)\/(i=Z 2/\I2 wr)\/(i=Z 3/\v wr)) (λi _=>3-(intOf i).toNat);exact .inl ⟨O,L.o⟩;rcases hrel with⟨rfl,h⟩|⟨rfl,h⟩|⟨rfl,h⟩|⟨rfl,h⟩
 ·obtain⟨t,u⟩:=(x.o wr (.inl h)).rules;have C:=U (K.o wr h);clear h;go_wp2_with fail;apply C.o.mono;rintro r B ⟨e,rfl,l⟩;have n:=U l;clear l C t u;by_cases m:e=0
  ·subst m;go_wp2;go_roundw;exact .inr (.inl ⟨O,(n.o.resolve_right λh=>h.1 O).2⟩);simp[intOf]
  go_wp2;go_ret;exact⟨e,O,.inr (n.o.resolve_left λh=>m h.1)⟩
 ·obtain⟨t,u⟩:=(x.o wr (.inr (.inl h))).rules;have C:=U (Q.o wr h);clear h;go_wp2_with fail;apply C.o.mono;rintro r B ⟨e,rfl,l⟩;have n:=U l;clear l C t u;by_cases m:e=0
  ·subst m;go_wp2;go_roundw;exact .inr (.inr (.inl ⟨O,(n.o.resolve_right λh=>h.1 O).2⟩));simp[intOf]
  go_wp2;go_ret;exact⟨e,O,.inr (n.o.resolve_left λh=>m h.1)⟩
 ·obtain⟨t,u⟩:=(x.o wr (.inr (.inr h))).rules;have C:=U (P.o wr h);clear h;go_wp2_with fail;apply C.o.mono;rintro r B ⟨e,rfl,l⟩;have n:=U l;clear l C t u;by_cases m:e=0
  ·subst m;go_wp2;go_roundw;exact .inr (.inr (.inr ⟨O,(n.o.resolve_right λh=>h.1 O).2⟩));simp[intOf]
  go_wp2;go_ret;exact⟨e,O,.inr (n.o.resolve_left λh=>m h.1)⟩
 replace h:=U h;go_wp2;go_ret;exact⟨0,O,.inl ⟨O,h.o⟩⟩
def Ub{a b:Nat}{I0 I1 I2:D->Prop}{f:Int->D->Prop}
  (B:∀W,(I0 W\/I1 W)->M W g 211 #[.func (.func 270) #[] #[N a,N b],.func (.func 85) #[N d] #[]])
  (y:I0 w) (x:∀W,I0 W->Calls prog 270 #[N a,N b] W (qC I1 f)) (c1:∀W,I1 W->Calls prog 85 #[N d] W (qC I2 f)):
  Calls prog 78 #[bh g 2 2] w (qC I2 f):=by
 have v:=U B;have E:=U x;have K:=U c1;have J:=U y;clear B x c1 y;go_wp2;go_loopw [8] (λi wr=>(i=Z 0/\I0 wr)\/(i=Z 1/\I1 wr)\/(i=Z 2/\I2 wr)) (λi _=>2-(intOf i).toNat);exact .inl ⟨O,J.o⟩;rcases hrel with⟨rfl,h⟩|⟨rfl,h⟩|⟨rfl,h⟩
 ·obtain⟨t,u⟩:=(v.o wr (.inl h)).rules;have C:=U (E.o wr h);clear h;go_wp2_with fail;apply C.o.mono;rintro r G ⟨e,rfl,l⟩;have n:=U l;clear l C t u;by_cases m:e=0
  ·subst m;go_wp2;go_roundw;exact .inr (.inl ⟨O,(n.o.resolve_right λh=>h.1 O).2⟩);simp[intOf]
  go_wp2;go_ret;exact⟨e,O,.inr (n.o.resolve_left λh=>m h.1)⟩
 ·obtain⟨t,u⟩:=(v.o wr (.inr h)).rules;have C:=U (K.o wr h);clear h;go_wp2_with fail;apply C.o.mono;rintro r G ⟨e,rfl,l⟩;have n:=U l;clear l C t u;by_cases m:e=0
  ·subst m;go_wp2;go_roundw;exact .inr (.inr ⟨O,(n.o.resolve_right λh=>h.1 O).2⟩);simp[intOf]
  go_wp2;go_ret;exact⟨e,O,.inr (n.o.resolve_left λh=>m h.1)⟩
 replace h:=U h;go_wp2;go_ret;exact⟨0,O,.inl ⟨O,h.o⟩⟩
section
variable{w:D}{F:Nat->Prop}{d:Nat}{s n:aV}{aeL:Option aW}{p:bJ}
def T8(h:bQ w F d s n none p)(u:p.dark=false){m:Nat}(b:ax w [(m,3,#[Z (k:Int)]),(bb,150,#[.slice A n.l.length c]),(bd,81,#[N d])])(t:k<=n.l.length):
  Calls prog 79 #[N m,N bb,N bd] w λr f=>(r=.returned (Z 0)/\w=f/\k=n.l.length)\/rP w F d s n p (n.l.take k) (λ_=>True) r f:=by
 have C:=U (Yx h u t);obtain⟨G,K,P,L,q2,R,-⟩:=b.rules;obtain⟨Q,T,W,-⟩:=b.lts;clear h b;go_in;by_cases x:k=n.l.length
 ·subst x;clear C;go_wp2;go_ret
  first|exact .inl ⟨rfl,rfl,rfl⟩|exact .inl ⟨rfl,rfl⟩|exact .inl rfl
 have y:((k:Int)==(n.l.length:Int))=false:=by simp;omega
 go_wp2_with fail;apply C.o.mono;intro r B i;have v:=U i;obtain⟨e,E,J,X,rfl,-⟩:=i;clear C;go_wp2;go_ret;exact .inr v.o
def T7(h:bQ w F d s n aeL p)(f:p.dark=false)(b:ax w [(bd,81,#[N d])]):
  Calls prog 81 #[N bd] w λr i=>r=.returned (Z 0)/\S w i:=by
 have C:=U (T9 h f);obtain⟨u,v,-⟩:=b.rules;obtain⟨t,-⟩:=b.lts;clear h b;go_in;go_wp2_with fail;apply C.o.mono;rintro r m ⟨rfl,e⟩;have l:=U e;clear e C;go_wp2;go_ret;exact⟨O,l.o⟩
def TZ(h:bQ w F d s n aeL p)(m:p.dark=false)(b:ax w [(bd,81,#[N d])]):
  Calls prog 83 #[N bd] w λr i=>(aeL=none/\r=.returned (Z 0)/\w=i)\/Gw w F d s n aeL p r i:=by
 have C:=U (GX h m);have f:=U (VJ h);obtain⟨y,E,-⟩:=b.rules;obtain⟨v,-⟩:=b.lts;clear h b;go_in;go_wp2_with fail;apply f.o.mono;rintro r t ⟨rfl,rfl⟩;clear f;cases aeL with
 |none=>
  go_wp2;go_ret
  first|exact .inl ⟨rfl,rfl⟩|exact .inl ⟨rfl,rfl,rfl⟩
 |some x=>go_wp2_with fail;apply C.o.mono;intro r t l;have u:=U l;obtain⟨e,B,rfl,-⟩:=l;clear C;go_wp2;go_ret;exact .inr u.o
end
def mE(w:D)(F:Nat->Prop)(d:Nat)(s:aV)(p:bJ)(B:aW->Prop):Prop:=(p.dark=false/\bQ w F d s s none p)\/(p.dark=true/\p.burning=false/\∃n b,bQ w F d s n b p/\∀x,b=some x->x.may s.l/\B x)
abbrev mD(w:D)(j d:Nat)(a:Int)(br:Bool):Prop:=M w j 214 #[N d,Z a,.bool br]
def YJ(w:D)(F:Nat->Prop)(d:Nat)(s:aV)(p:bJ)(r:Ending)(w':D):Prop:=
 aa F w w'/\∃G:Nat->Prop,(∀k,G k->F k\/(w.heap.size<=k/\k<w'.heap.size))/\
 ((∃(e:Int) (b:bJ),e≠0/\r=.returned (.tuple #[.pointer none,.slice none 0 0,Z e])/\mE w' G d s b (λ_=>True)/\p.burning=true)\/
  (∃(j a:Nat) (h:H) (R:List aV) (f:aV) (b:bJ),r=.returned (.tuple #[N j,h,Z 0])/\mD w' j d a false/\w.heap.size<=j/\¬G j/\jL w' w.heap.size h R/\lu w' R/\(∀x∈R,x.l.length<=4096)/\jI R<=s.l.length/\bQ w' G d f f none b/\b.dark=false/\b.burning=p.burning/\f.l=s.l.take a/\a<=s.l.length/\kE s.l R.length=some (iv R,a)/\ic s.l a=none))
def VZ(w:D)(F:Nat->Prop)(d:Nat)(s:aV)(p:bJ)(k:Nat)(W:D):Prop:=∃b e,ku w F W d b b none e/\e.dark=false/\e.burning=p.burning/\b.l=s.l.take k
def Tc(w:D)(F:Nat->Prop)(d:Nat)(s:aV)(p:bJ)(W:D):Prop:=p.burning=true/\aa F w W/\∃b,mE W (dF F w W) d s b λ_=>True
def LZ(h:bQ w F d s s none p)(T:p.dark=false){J:Nat}
  (hB:ax w [(g,211,#[.func (.func 79) #[] #[N J,N bb,N bd],.func (.func 81) #[] #[N bd],.func (.func 83) #[] #[N bd]]),(J,3,#[Z (k:Int)]),(bb,150,#[.slice A s.l.length c]),(bd,81,#[N d])])
  (hN:¬F g/\¬F J/\¬F bb/\¬F bd/\True) (hk:k<=s.l.length):
  Calls prog 78 #[bh g 3 3] w (qC (VZ w F d s p k) (λ_ W=>Tc w F d s p W)):=by
 have v:∀W,aa F w W->ax W _:=λW m=>hB.mod m hN;refine Ua (a:=J) (b:=bb) (c:=bd) (I0:=λW=>W=w) (I1:=λW=>∃n f i,ku w F W d s n f i/\i.dark=false/\i.burning=p.burning/\(f=none->n=s)/\(∀x,f=some x->x.may s.l/\True)/\n.l=s.l.take k) (I2:=λW=>∃n f i,ku w F W d s n f i/\i.dark=false/\i.burning=p.burning/\(f=none->n=s)/\(∀x,f=some x->x.may s.l/\True)/\n.l=s.l.take k) ?_ O ?_ ?_ ?_;rintro W (rfl|⟨n,f,i,o,-⟩|⟨n,f,i,o,-⟩);exact hB.head;exact(v W o.mod).head;exact(v W o.mod).head
 ·rintro W rfl;apply(T8 h T hB.drop hk).mono;rintro r w' (⟨rfl,rfl,Q⟩|⟨e,n',M',i,rfl,P,y,hc,K,hm⟩);exact⟨0,O,.inl ⟨O,s,none,p,ku.start h,T,O,λ_=>rfl,λx hx=>(aK hx),by rw[Q,jt]⟩⟩;rcases hc with⟨rfl,u,t,C,h6⟩|⟨rfl,u,t⟩|⟨rfl,rfl,rfl,rfl⟩
  ·refine⟨0,O,.inl ⟨O,n',M',i,⟨P,y⟩,u,t,?_,hm,C⟩⟩;intro e;rw[e]at h6;cases h6
  ·refine⟨8,O,.inr ⟨ai,?_,y,i,.inr ⟨u,t,n',M',P,hm⟩⟩⟩;cases B:p.burning with
   |true=>rfl
   |false=>have:=K B (by rw[il];have:=h.nl;omega);cases this
  refine⟨7,O,.inr ⟨ai,?_,y,i,.inl ⟨T,P⟩⟩⟩;cases B:i.burning with
  |true=>rfl
  |false=>have:=K B (by rw[il];have:=h.nl;omega);cases this
 rintro W ⟨n,f,i,o,u,t,C,R,G⟩;apply(T7 o.at_ u (v W o.mod).drop.drop.drop).mono;rintro r w' ⟨rfl,B⟩;exact⟨0,O,.inl ⟨O,n,f,i,o.call B,u,t,C,R,G⟩⟩;rintro W ⟨n,f,i,o,u,t,C,R,G⟩;apply(TZ o.at_ u (v W o.mod).drop.drop.drop).mono;rintro r w' (⟨rfl,rfl,rfl⟩|⟨e,p2,rfl,y,hc,K⟩);obtain rfl:=C O;exact⟨0,O,.inl ⟨O,n,i,o,u,t,G⟩⟩;rcases hc with⟨rfl,L,X,E⟩|⟨rfl,L,X,E⟩;exact⟨0,rfl,.inl ⟨rfl,n,p2,o.same E y,L,X.trans t,G⟩⟩;refine⟨8,O,.inr ⟨ai,?_,(o.same E y).mod,p2,.inr ⟨L,X,n,f,(o.same E y).at_,R⟩⟩⟩;cases B:p.burning with
 |true=>rfl
 |false=>have:=K (t.trans B);cases this
def Xj(h:bQ w F d s s none p)(hp:p.dark=false):
  Calls prog 59 #[N d] w (YJ w F d s p):=by
 have D0:S w (w.alloc (.cells #[N d] 81)):=(aq _ _).alloc (ao _) _;have T:ax (w.alloc (.cells #[N d] 81)) [(w.heap.size,81,#[N d])]:=ax.nil.push O;generalize hW:w.alloc (.cells #[N d] 81)=W0 at D0 T;have CR:=U (VH (h.call D0) hp);have E:=aP h T D0;obtain⟨q0,f0,-⟩:=T.rules;obtain⟨l0,-⟩:=T.lts;clear h D0 T;go_in;go_wp2_with fail;apply CR.o.mono;rintro r K ⟨u,rfl,hu,y⟩;obtain⟨A1,c1,rfl,S1⟩:=bM.own hu E.o.1.hn.by_;have B1:=E.o.2.1.call y;have D1:=E.o.2.2.trans (y.mono E.o.2.2.size);have z1:=y.size;have B2:=B1.push (t:=150) (cs:=#[.slice A1 s.l.length c1]) (g:=K.heap.size) O;have D2:=D1.alloc D1.size (.cells #[.slice A1 s.l.length c1] 150);have S2:=S1.call ((aq K.heap.size K).alloc (ao _) (.cells #[.slice A1 s.l.length c1] 150));generalize δ:K.alloc (.cells #[.slice A1 s.l.length c1] 150)=W2 at B2 D2 S2;have CA:=U (WG S2 (aA E.o.1.nl));have H2:=aB B2 D2;obtain⟨q2,f2,q3,f3,-⟩:=B2.rules;obtain⟨l2,l3,-⟩:=B2.lts;clear CR hu y S1 B1 D1 B2 D2 S2 q0 f0 l0 hW;go_wp2_with fail;apply CA.o.mono;rintro r B ⟨rv,R,a,α,rfl,n,W,h4,X,ha,i,jq⟩;obtain⟨Ar,cr,rfl,-,-⟩:=n.sl;have B3:=H2.o.1.call i;have D3:=H2.o.2.trans (i.mono H2.o.2.size);have z3:=i.size;have B4:=B3.push (t:=3) (cs:=#[Z (a:Int)]) (g:=B.heap.size) O;have D4:=D3.alloc D3.size (.cells #[Z (a:Int)] 3);have m:=U (ar n (ar W (ar h4 (ar X (ar ha (ar i (ar B4 D4)))))));have P:=aB jq α;obtain⟨q4,f4,q5,f5,q6,f6,-⟩:=B4.rules;obtain⟨l4,l5,l6,-⟩:=B4.lts;clear CA q2 f2 q3 f3 l2 l3 n W h4 X ha i B3 D3 B4 D4 δ jq α;go_wp2_with fail;have B5:=m.o.2.2.2.2.2.2.1.push (t:=211) (cs:=#[.func (.func 79) #[] #[N B.heap.size,N K.heap.size,N w.heap.size],.func (.func 81) #[] #[N w.heap.size],.func (.func 83) #[] #[N w.heap.size]]) (g:=B.heap.size+1) ah;have D5:=m.o.2.2.2.2.2.2.2.alloc m.o.2.2.2.2.2.2.2.size (.cells #[.func (.func 79) #[] #[N B.heap.size,N K.heap.size,N w.heap.size],.func (.func 81) #[] #[N w.heap.size],.func (.func 83) #[] #[N w.heap.size]] 211);generalize ε:(B.alloc (.cells #[Z (a:Int)] 3)).alloc (.cells #[.func (.func 79) #[] #[N B.heap.size,N K.heap.size,N w.heap.size],.func (.func 81) #[] #[N w.heap.size],.func (.func 83) #[] #[N w.heap.size]] 211)=W5 at B5 D5⊢;have z5:B.heap.size+1<W5.heap.size:=B5.lts.1;have Q:S B W5:=by rw[<-ε];exact((aq _ _).alloc (ao _) _).alloc ah _
 have hn:∀k,F k->k<w.heap.size:=E.o.1.inh;have η:=E.o.2.2.size;have ζ:=H2.o.2.size;have CE:=LZ (E.o.1.call D5) hp B5 (by refine⟨?_,?_,?_,?_,trivial⟩<;>intro J<;>have:=hn _ J<;>omega) m.o.2.2.2.2.1;have G:=aP D5 B5 Q;have HE:=U CE;clear B5 D5 Q CE q4 f4 q5 f5 q6 f6 l4 l5 l6;apply HE.o.mono;rintro r L ⟨e,rfl,he⟩;rcases he with⟨rfl,s',p',hS,k1,k2,k3⟩|⟨γ,β,hM,p',hR⟩
 ·have B6:=G.o.2.1.mod hS.mod (by refine⟨?_,?_,?_,?_,trivial⟩<;>intro J<;>have:=hn _ J<;>omega);have v:=hS.mod.row (Row.call m.o.1 G.o.2.2) (λg hg J=>cF ((m.o.1.ge g hg).1) (hn g J));have C:lu L R:=λx hx=>((m.o.2.1 x hx).call G.o.2.2).mod hS.mod λb o e hl J=>cF (P.o.1 x hx b o e hl) (hn b J);obtain⟨-,-,q4,f4,-,-,q6,f6,-⟩:=B6.rules;obtain⟨-,l4,-,l6,-⟩:=B6.lts;have f:=js hS v C k1 k2 k3;clear hS v C k1 k2 k3 B6 HE;go_wp2;go_ret3;have DA:S L (L.alloc (.cells #[N d,Z (a:Int),.bool false] 214)):=(aq _ _).alloc (ao _) _;refine⟨((aa.of_below (F:=F) G.o.1).trans f.o.1.mod).call DA,dF F W5 L,λk hk=>?_,.inr ⟨L.heap.size,a,_,R,s',p',O,M.new _ _ _,V,λhk=>?_,(Row.call f.o.2.1 DA).mono ζ,f.o.2.2.1.call DA,m.o.2.2.1,by rw[m.o.2.2.2.1];exact m.o.2.2.2.2.1,f.o.1.at_.call DA,f.o.2.2.2.1,f.o.2.2.2.2.1,f.o.2.2.2.2.2,m.o.2.2.2.2.1,P.o.2⟩⟩;rcases hk with hk|hk;exact .inl hk;exact .inr ⟨aA G.o.1.size,aA DA.size⟩;rcases hk with hk|hk;have:=hn _ hk;omega;omega
 have f:=cQ γ β hM hR;clear β hM hR HE;go_wp2;go_ret3;refine⟨(aa.of_below (F:=F) G.o.1).trans f.o.2.2.1,dF F W5 L,λk hk=>?_,.inl ⟨e,p',f.o.1,O,f.o.2.2.2,f.o.2.1⟩⟩;rcases hk with hk|hk;exact .inl hk;exact .inr ⟨aA G.o.1.size,hk.2⟩
def Uc{base:Nat}(f:mD w j d a false){v:H}{R:List aV}(h:jL w base v R)(m:lu w R)(i:∀x∈R,x.l.length<=4096)(t:R.length<=1000):
  Calls prog 269 #[N j,v] w (uH (da (iv R)) 0 w):=by
 have C:=U (Yp h m i t);obtain⟨E,J⟩:=f.rules;obtain⟨A,c,rfl,-,-⟩:=h.sl;clear f h m i;go_in;go_wp2_with fail;apply C.o.mono;rintro r B ⟨u,rfl,b,n⟩;obtain⟨y,G,rfl,-⟩:=dS b;have e:=aB b n;clear b n C;go_wp2;go_ret2;exact⟨_,O,e.o.1,e.o.2⟩
def Xi{n:aV}(h:bQ w F d s n none p)(R:p.dark=false){bj:Nat}{br:Bool}{B:Option Addr}{m:List Int}
  (G:ax w [(bj,106,#[N j]),(bb,150,#[.slice B m.length c]),(j,214,#[N d,Z a,.bool br])]) (E:bM w B m c) (T:m.length<=5000000):
  Calls prog 270 #[N bj,N bb] w (rP w F d s n p (n.l++m) (aW.is m)):=by
 have t:=aB h E;have x:=U (λ(W:D) (h:S w W)=>ar (G.call h).rules (G.call h).lts);clear h E;go_in;go_wp2_with fail;refine eS 5 Y ah aS aS aS aS ?_;simp only[cR]
 iterate 5 refine fX x.o ?_
 refine dg ?_;intro _ W2 f _;have C:=U (Sv (t.o.1.ext f) R (t.o.2.call f) T);have y:=U f;clear f x;go_wp2_with fail;apply C.o.mono;rintro r w' ⟨e,J,K,X,rfl,v,u,b⟩;have i:=aP v u b;clear v u b C;go_wp2;go_ret;have Q:=y.o.size;have P:=i.o.2.1.size;exact⟨e,J,K,X,O,i.o.1.mono (λk L=>dF.step L Q P) (dF.inH t.o.1.inh V),(aa.of_below (F:=F) y.o).step i.o.2.1,i.o.2.2⟩
def Xh{br:Bool}(b:mD w j d a br)(n e:Int):Calls prog 272 #[N j,Z n,Z e] w λr f=>r=.returned (Z e)/\(∃m,mD f j d m (e==8))/\aa (aR j) w f:=by
 obtain⟨t,u⟩:=b.rules;replace b:=U b;go_in;by_cases i:e=0
 ·subst i;go_wp2;go_ret;exact⟨O,⟨n,by simpa using(b.o.set_ 2 (.bool false)).set_ 1 (Z n)⟩,(aa.set (F:=aR j) (w:=w) (I j 2) O _).setOld (I j 1) (.inl O) _⟩
 have l:(e==0)=false:=az i;go_wp2;go_ret;exact⟨O,⟨a,az (b.o.set_ 2 (.bool (e==8)))⟩,aa.set (F:=aR j) (w:=w) (I j 2) O _⟩
def XG(w:D)(F:Nat->Prop)(d:Nat)(s:aV)(p:bJ)(l:List Int)(W:D):Prop:=∃b e,ku w F W d b b none e/\e.dark=false/\e.burning=p.burning/\b.l=s.l++l
def V5(w:D)(F:Nat->Prop)(d:Nat)(s:aV)(p:bJ)(l:List Int)(e:Int)(W:D):Prop:=(p.burning=false->¬s.l.length+l.length<=4194304)/\aa F w W/\∃b,(b.dark=true->e=8)/\mE W (dF F w W) d s b (aW.is l)
def Nz(h:bQ w F d s s none p)(P:p.dark=false){bj:Nat}{l:List Int}
  (X:ax w [(g,211,#[.func (.func 270) #[] #[N bj,N bb],.func (.func 85) #[N d] #[]]),(bb,150,#[.slice A l.length c]),(bj,106,#[N j]),(j,214,#[N d,Z a,.bool false])])
  (hN:¬F g/\¬F bb/\¬F bj/\¬F j/\True) (hm:bM w A l c) (hl:l.length<=5000000):
  Calls prog 78 #[bh g 2 2] w (qC (XG w F d s p l) (V5 w F d s p l)):=by
 have Q:∀W,aa F w W->ax W _:=λW m=>X.mod m hN;refine Ub (a:=bj) (b:=bb) (d:=d) (I0:=λW=>W=w) (I1:=λW=>∃n f i,ku w F W d s n f i/\i.dark=false/\i.burning=p.burning/\(∀x,f=some x->x.may s.l/\x.is l)/\n.l=s.l++l) ?_ O ?_ ?_;rintro W (rfl|⟨n,f,i,v,-⟩);exact X.head;exact(Q W v.mod).head
 ·rintro W rfl;refine(Xi (bj:=bj) (bb:=bb) (j:=j) (c:=c) (a:=a) (br:=false) (B:=A) h P (X.drop.perm (by intro x hx;simp only[dh,sL,lE]at hx⊢;rcases hx with h|h|h<;>simp[h])) hm hl).mono ?_;rintro r w' ⟨e,n',M',i,rfl,L,o,hc,J,C⟩;rcases hc with⟨rfl,E,u,R,h6⟩|⟨rfl,E,u⟩|⟨rfl,rfl,rfl,rfl⟩;exact⟨0,rfl,.inl ⟨rfl,n',M',i,⟨L,o⟩,E,u,C,R⟩⟩;exact⟨8,rfl,.inr ⟨ai,λy t=>(by have:=J y (by rw[bW];exact t);cases this),o,i,λ_=>rfl,.inr ⟨E,u,n',M',L,C⟩⟩⟩;exact⟨7,O,.inr ⟨ai,λy t=>(by have:=J y (by rw[bW];exact t);cases this),o,i,(λh=>by rw[P]at h;cases h),.inl ⟨P,L⟩⟩⟩
 rintro W ⟨n,f,i,v,E,u,R,h4⟩;apply(GX v.at_ E).mono;rintro r w' ⟨e,p2,rfl,o,hc,J⟩;rcases hc with⟨rfl,K,T,G⟩|⟨rfl,K,T,G⟩;exact⟨0,rfl,.inl ⟨rfl,n,p2,v.same G o,K,T.trans u,h4⟩⟩;exact⟨8,O,.inr ⟨ai,λy _=>(by have:=J (u.trans y);cases this),(v.same G o).mod,p2,λ_=>rfl,.inr ⟨K,T,n,f,(v.same G o).at_,R⟩⟩⟩
def mE.mod{w':D}{G:Nat->Prop}{B:aW->Prop}(h:mE w F d s p B)(m:aa G w w')(i:dJ F G):mE w' F d s p B:=by rcases h with⟨f,b⟩|⟨f,b,n,e,o,l⟩;exact .inl ⟨f,b.mod m i⟩;exact .inr ⟨f,b,n,e,o.mod m i,l⟩
def mE.call{w':D}{B:aW->Prop}(h:mE w F d s p B)(m:S w w'):mE w' F d s p B:=by rcases h with⟨f,b⟩|⟨f,b,n,e,l,i⟩;exact .inl ⟨f,b.call m⟩;exact .inr ⟨f,b,n,e,l.call m,i⟩
def XR(w:D)(F:Nat->Prop)(j d:Nat)(s:aV)(p:bJ)(l:List Int)(r:Ending)(w':D):Prop:=
 aa (Hc F (aR j)) w w'/\∃G:Nat->Prop,(∀k,G k->F k\/(w.heap.size<=k/\k<w'.heap.size))/\
  ∃(e:Int) (a:Int) (b:bJ),r=.returned (Z e)/\mD w' j d a (e==8)/\
   ((e=0/\∃f:aV,bQ w' G d f f none b/\b.dark=false/\b.burning=p.burning/\f.l=s.l++l)\/(e≠0/\(b.dark=true->e=8)/\mE w' G d s b (aW.is l)))/\(p.burning=false->s.l.length+l.length<=4194304->e=0)
def YD(h:bQ w F d s s none p)(hp:p.dark=false){base:Nat}(hj:mD w j d a false)(Q:¬F j){v:H}{R:List aV}(hR:jL w base v R)(hr:lu w R)(h4:∀x∈R,x.l.length<=4096)(hn:R.length<=1000)(h1:0<R.length):
  Calls prog 252 #[N j,v] w (XR w F j d s p (da (iv R))):=by
 have D0:S w (w.alloc (.cells #[N j] 106)):=(aq _ _).alloc (ao _) _;have K:ax (w.alloc (.cells #[N j] 106)) [(w.heap.size,106,#[N j]),(j,214,#[N d,Z a,.bool false])]:=(ax.cons hj ax.nil).push O;generalize hW:w.alloc (.cells #[N j] 106)=W0 at D0 K;have CB:=U (Uc K.drop.head (Row.call hR D0) (hr.call D0) h4 hn);have γ:=Le h4;have J:∀x∈da (iv R),0<=x/\x<=255:=Mt λl hl=>by obtain⟨y,hy,rfl⟩:=dY.1 hl;exact(hr y hy).by_
 have f:=Db R;generalize da (iv R)=l at CB J f⊢;obtain⟨Av,cv,rfl,-,-⟩:=hR.sl;have L:=aP h K D0;have ε:=hj.lt;obtain⟨q0,f0,q1,f1,-⟩:=K.rules;obtain⟨l0,l1,-⟩:=K.lts;clear h hj hR hr h4 D0 K;go_in;go_wp2_with fail;apply CB.o.mono;rintro r B ⟨u,rfl,hu,i⟩;obtain⟨A1,c1,rfl,S1⟩:=bM.own hu J;have B1:=L.o.2.1.call i;have D1:=L.o.2.2.trans (i.mono L.o.2.2.size);have z1:=i.size;have B2:=B1.push (t:=150) (cs:=#[.slice A1 l.length c1]) (g:=B.heap.size) O;have D2:=D1.alloc D1.size (.cells #[.slice A1 l.length c1] 150);have S2:=S1.call ((aq B.heap.size B).alloc (ao _) (.cells #[.slice A1 l.length c1] 150));generalize κ:B.alloc (.cells #[.slice A1 l.length c1] 150)=W2 at B2 D2 S2;have δ:l.length<=5000000:=V;have H2:=cQ B2 D2 S2 f;obtain⟨q2,f2,q3,f3,q4,f4,-⟩:=B2.rules;obtain⟨l2,l3,l4,-⟩:=B2.lts;clear CB hu i S1 B1 D1 B2 D2 S2 q0 f0 l0 q1 f1 l1 hW J f γ;go_wp2_with fail;have B5:=H2.o.1.push (t:=211) (cs:=#[.func (.func 270) #[] #[N w.heap.size,N B.heap.size],.func (.func 85) #[N d] #[]]) (g:=W2.heap.size) O;have b:S W2 (W2.alloc (.cells #[.func (.func 270) #[] #[N w.heap.size,N B.heap.size],.func (.func 85) #[N d] #[]] 211)):=(aq _ _).alloc (ao _) _;generalize μ:W2.alloc (.cells #[.func (.func 270) #[] #[N w.heap.size,N B.heap.size],.func (.func 85) #[N d] #[]] 211)=W5 at B5 b⊢;have D5:=H2.o.2.1.trans (b.mono H2.o.2.1.size);have hn:∀k,F k->k<w.heap.size:=L.o.1.inh;have η:=L.o.2.2.size;have C:¬F W2.heap.size/\¬F B.heap.size/\¬F w.heap.size/\¬F j/\True:=⟨λhf=>aA (hn _ hf),λhf=>aA (hn _ hf),λhf=>aA (hn _ hf),Q,trivial⟩;have CE:=Nz (L.o.1.call D5) hp B5 C (H2.o.2.2.1.call b) δ;have H5:=aP D5 B5 C;have HE:=U CE;clear B5 D5 b CE q2 f2 q3 f3 q4 f4 l2 l3 l4 C;apply HE.o.mono;rintro r W6 ⟨e,rfl,he⟩;have E:aa F W5 W6:=by rcases he with⟨-,s',p',hS,-⟩|⟨-,-,E,-⟩;exact hS.mod;exact E
 have B6:=H5.o.2.1.mod E H5.o.2.2;have G:=aP he E B6;have HF:=U (λ(W:D) (h:S W6 W)=>ar (B6.call h).rules (B6.call h).lts);clear he E B6 HE;go_wp2_with fail;refine eS 9 Y ah aS aS aS aS ?_;simp only[cR]
 iterate 9 first|refine fX HF.o ?_|(refine zM (λ_=>rfl) ?_;apply cV;intro _ W d;have j:=HF.o W d;simp[execOp,go_sem,j]<;>exact rfl;simp only[aD])
 refine dg ?_;intro _ W7 hC _;have CD:=U (λn=>Xh (G.o.2.2.drop.drop.drop.head.call hC) n e);have HC:=U hC;clear hC HF;go_wp2_with fail;apply(CD.o _).mono;rintro r W8 ⟨rfl,P,T⟩;have X:=aB P T;clear P T CD;go_wp2;go_ret;have E:=G.o.2.1;have ι:=HC.o.size;have ζ:=X.o.2.size;have θ:=H5.o.1.size;have m:dJ (dF F W5 W6) (aR j):=λk hk e=>by have e:k=j:=e;subst e;rcases hk with hk|hk;exact Q hk;omega
 refine⟨?_,dF F W5 W6,λk hk=>?_,e,?_⟩;have m1:aa (Hc F (aR j)) w W6:=((aa.of_below (F:=F) H5.o.1).trans E).mono λk h=>.inl h;exact(m1.call HC.o).trans (X.o.2.mono λk h=>.inr h);rcases hk with hk|hk;exact .inl hk;exact .inr ⟨V,V⟩;obtain⟨a',α⟩:=X.o.1;have f:=H2.o.2.2.2;rcases G.o.1 with⟨rfl,s',p',hS,k1,k2,k3⟩|⟨β,hb,-,p',h8,hR⟩;exact⟨a',p',rfl,α,.inl ⟨rfl,s',(hS.at_.call HC.o).mod X.o.2 m,k1,k2,k3⟩,λ_ _=>rfl⟩;exact⟨a',p',O,α,.inr ⟨β,h8,(hR.call HC.o).mod X.o.2 m⟩,λh1 h2=>absurd h2 (hb h1)⟩
