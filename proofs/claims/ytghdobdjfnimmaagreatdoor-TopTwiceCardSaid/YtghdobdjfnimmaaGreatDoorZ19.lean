import Derived.Test.YtghdobdjfnimmaaGreatDoorZ18
set_option maxRecDepth 100000
set_option maxHeartbeats 0
set_option linter.all false
namespace Go.Proofs.YtghdobdjfnimmaaGreatDoor
open Go.Proofs.Tryz
variable{w:Yu}{d c j g bb bd k:Nat}{F:Nat->Prop}{s:cE}{p:Pw}{a:Int}{A:Option Addr}
section
open Go.RowKit Go
theorem ah.step{W W':Yu}(a:ah F w W)(b:ah (io F w W) W W'):ah F w W':=a.trans' b λk e h=>by
 rcases h with h|h
 ·exact h
 ·omega
theorem io.step{W W':Yu}(h:io (io F w W) W W' k)(b:w.heap.size<=W.heap.size)(e:W.heap.size<=W'.heap.size):io F w W' k:=by
 rcases h with(h|h)|h
 ·exact .inl h
 ·exact .inr ⟨h.1,by omega⟩
 ·exact .inr ⟨by omega,h.2⟩
structure we(w:Yu)(F:Nat->Prop)(W:Yu)(d:Nat)(s n:cE)(M:Option dQ)(p:Pw):Prop where
 at_:bI W (io F w W) d s n M p
 mod:ah F w W
section
variable{w W W':Yu}{F:Nat->Prop}{d:Nat}{s n:cE}{M:Option dQ}{p:Pw}
theorem we.start(h:bI w F d s n M p):we w F w d s n M p:=⟨h.mono (λk b=>.inl b) (io.inH h.inh (Vc _)),ah.refl⟩
theorem we.call(h:we w F W d s n M p)(b:Ys W W'):we w F W' d s n M p:=by
 have f:=h.mod.size;have e:=b.size;refine⟨(h.at_.call b).mono (λk hk=>?_) λk hk=>?_,h.mod.call b⟩
 ·rcases hk with hk|hk
  ·exact .inl hk
  ·exact .inr ⟨hk.1,by omega⟩
 ·rcases hk with hk|hk
  ·exact Vq (h.at_.inh k (.inl hk)) e
  ·exact hk.2
theorem we.next{s' n':cE}{e:Option dQ}{p':Pw}(h:we w F W d s n M p)(f:bI W' (io (io F w W) W W') d s' n' e p')(m:ah (io F w W) W W'):we w F W' d s' n' e p':=by
 have i:=h.mod.size;have b:=m.size;refine⟨f.mono (λk hk=>io.step hk i b) λk hk=>?_,h.mod.step m⟩;rcases hk with hk|hk
 ·exact Vq (h.at_.inh k (.inl hk)) b
 ·exact hk.2
theorem we.same{s' n':cE}{b:Option dQ}{p':Pw}(h:we w F W d s n M p)(e:bI W' (io F w W) d s' n' b p')(m:ah (io F w W) W W'):we w F W' d s' n' b p':=h.next (e.mono (λk f=>.inl f) (io.inH h.at_.inh m.size)) m
end
theorem Ld{n:cE}{M:Option dQ}(h:bI w F d s n M p)(e:p.dark=false):Yt 47 #[Yr d] w λr w'=>r=.returned (.int .i64 0)/\Ys w w':=by
 have C:=U9 (My h e);clear h;go_enter func47,ntmps47;go_wp2_with fail;refine C.o.mono ?_;rintro r i ⟨A,c,rfl,b⟩;have f:=U9 b;clear b C;go_wp2_with fail;go_ret;exact⟨rfl,f.o⟩
def jv(I:Yu->Prop)(b:Int->Yu->Prop)(r:Ending)(w':Yu):Prop:=∃e:Int,r=.returned (.int .i64 e)/\((e=0/\I w')\/(e≠0/\b e w'))
theorem Le{a b:Nat}{I0 I1 I2 y:Yu->Prop}{f:Int->Yu->Prop}
  (D:∀W,(I0 W\/I1 W\/I2 W)->ai W g 156 #[.func (.func 44) #[] #[Yr a,Yr b,Yr c],.func (.func 46) #[] #[Yr c],.func (.func 48) #[] #[Yr c]])
  (B:I0 w) (G:∀W,I0 W->Yt 44 #[Yr a,Yr b,Yr c] W (jv I1 f)) (c1:∀W,I1 W->Yt 46 #[Yr c] W (jv I2 f)) (E:∀W,I2 W->Yt 48 #[Yr c] W (jv y f)):
  Yt 43 #[.slice (some ⟨g,0,none⟩) 3 3] w (jv y f):=by
 have t:=U9 D;have K:=U9 G;have L:=U9 c1;have I:=U9 E;have H:=U9 B;clear D G c1 E B;go_enter func43,ntmps43;go_wp2_with fail
 go_loopw [8] (λi wr=>(i=.int .i64 0/\I0 wr)\/(i=.int .i64 1/\I1 wr)\/(i=.int .i64 2/\I2 wr)\/(i=.int .i64 3/\y wr)) (λi _=>3-(intOf i).toNat)
 case atStart=>exact .inl ⟨rfl,H.o⟩
 case round=>
  rcases hrel with⟨rfl,h⟩|⟨rfl,h⟩|⟨rfl,h⟩|⟨rfl,h⟩
  ·obtain⟨u,v⟩:=(t.o wr (.inl h)).rules
   have x:=(t.o wr (.inl h)).lt;have C:=U9 (K.o wr h);clear h;go_wp2_with fail;refine C.o.mono ?_;rintro r z ⟨e,rfl,m⟩;have q:=U9 m;clear m C u v x;by_cases l:e=0
   ·subst l
    go_wp2_with fail;go_roundw
    case rel=>exact .inr (.inl ⟨rfl,(q.o.resolve_right λh=>h.1 rfl).2⟩)
    case measure=>simp[intOf]
   ·go_wp2_with fail
    go_ret;exact⟨e,rfl,.inr (q.o.resolve_left λh=>l h.1)⟩
  ·obtain⟨u,v⟩:=(t.o wr (.inr (.inl h))).rules
   have x:=(t.o wr (.inr (.inl h))).lt;have C:=U9 (L.o wr h);clear h;go_wp2_with fail;refine C.o.mono ?_;rintro r z ⟨e,rfl,m⟩;have q:=U9 m;clear m C u v x;by_cases l:e=0
   ·subst l
    go_wp2_with fail;go_roundw
    case rel=>exact .inr (.inr (.inl ⟨rfl,(q.o.resolve_right λh=>h.1 rfl).2⟩))
    case measure=>simp[intOf]
   ·go_wp2_with fail
    go_ret;exact⟨e,rfl,.inr (q.o.resolve_left λh=>l h.1)⟩
  ·obtain⟨u,v⟩:=(t.o wr (.inr (.inr h))).rules
   have x:=(t.o wr (.inr (.inr h))).lt;have C:=U9 (I.o wr h);clear h;go_wp2_with fail;refine C.o.mono ?_;rintro r z ⟨e,rfl,m⟩;have q:=U9 m;clear m C u v x;by_cases l:e=0
   ·subst l
    go_wp2_with fail;go_roundw
    case rel=>exact .inr (.inr (.inr ⟨rfl,(q.o.resolve_right λh=>h.1 rfl).2⟩))
    case measure=>simp[intOf]
   ·go_wp2_with fail
    go_ret;exact⟨e,rfl,.inr (q.o.resolve_left λh=>l h.1)⟩
  ·have J:=U9 h
   clear h;go_wp2_with fail;go_ret;exact⟨0,rfl,.inl ⟨rfl,J.o⟩⟩
theorem Lf{a b:Nat}{I0 I1 I2:Yu->Prop}{f:Int->Yu->Prop}
  (B:∀W,(I0 W\/I1 W)->ai W g 156 #[.func (.func 238) #[] #[Yr a,Yr b],.func (.func 50) #[Yr d] #[]])
  (z:I0 w) (y:∀W,I0 W->Yt 238 #[Yr a,Yr b] W (jv I1 f)) (c1:∀W,I1 W->Yt 50 #[Yr d] W (jv I2 f)):
  Yt 43 #[.slice (some ⟨g,0,none⟩) 2 2] w (jv I2 f):=by
 have t:=U9 B;have D:=U9 y;have H:=U9 c1;have G:=U9 z;clear B y c1 z;go_enter func43,ntmps43;go_wp2_with fail
 go_loopw [8] (λi wr=>(i=.int .i64 0/\I0 wr)\/(i=.int .i64 1/\I1 wr)\/(i=.int .i64 2/\I2 wr)) (λi _=>2-(intOf i).toNat)
 case atStart=>exact .inl ⟨rfl,G.o⟩
 case round=>
  rcases hrel with⟨rfl,h⟩|⟨rfl,h⟩|⟨rfl,h⟩
  ·obtain⟨v,x⟩:=(t.o wr (.inl h)).rules
   have u:=(t.o wr (.inl h)).lt;have C:=U9 (D.o wr h);clear h;go_wp2_with fail;refine C.o.mono ?_;rintro r E ⟨e,rfl,l⟩;have q:=U9 l;clear l C v x u;by_cases m:e=0
   ·subst m
    go_wp2_with fail;go_roundw
    case rel=>exact .inr (.inl ⟨rfl,(q.o.resolve_right λh=>h.1 rfl).2⟩)
    case measure=>simp[intOf]
   ·go_wp2_with fail
    go_ret;exact⟨e,rfl,.inr (q.o.resolve_left λh=>m h.1)⟩
  ·obtain⟨v,x⟩:=(t.o wr (.inr h)).rules
   have u:=(t.o wr (.inr h)).lt;have C:=U9 (H.o wr h);clear h;go_wp2_with fail;refine C.o.mono ?_;rintro r E ⟨e,rfl,l⟩;have q:=U9 l;clear l C v x u;by_cases m:e=0
   ·subst m
    go_wp2_with fail;go_roundw
    case rel=>exact .inr (.inr ⟨rfl,(q.o.resolve_right λh=>h.1 rfl).2⟩)
    case measure=>simp[intOf]
   ·go_wp2_with fail
    go_ret;exact⟨e,rfl,.inr (q.o.resolve_left λh=>m h.1)⟩
  ·have I:=U9 h
   clear h;go_wp2_with fail;go_ret;exact⟨0,rfl,.inl ⟨rfl,I.o⟩⟩
section
variable{w:Yu}{F:Nat->Prop}{d:Nat}{s n:cE}{M:Option dQ}{p:Pw}
theorem Lc(h:bI w F d s n none p)(q:p.dark=false){i:Nat}(b:aD w [(i,3,#[.int .i64 (k:Int)]),(bb,121,#[.slice A n.l.length c]),(bd,68,#[Yr d])])(m:k<=n.l.length):
  Yt 44 #[Yr i,Yr bb,Yr bd] w λr w'=>(r=.returned (.int .i64 0)/\w=w')\/og w F d s n p (n.l.take k) r w':=by
 have C:=U9 (SI h q m);have u:=h.nl;obtain⟨z,D,G,E,L,I,-⟩:=b.rules;obtain⟨H,J,K,-⟩:=b.lts;clear h b;go_enter func44,ntmps44;by_cases v:k=n.l.length
 ·subst v
  clear C;go_wp2_with fail;go_ret;exact .inl ⟨rfl,rfl⟩
 ·have x:((k:Int)==(n.l.length:Int))=false:=by simp;omega
  go_wp2_with fail;refine C.o.mono ?_;intro r y f;have t:=U9 f;obtain⟨e,n',B,p',rfl,-⟩:=f;clear C;go_wp2_with fail;go_ret;exact .inr t.o
theorem Lb(h:bI w F d s n M p)(f:p.dark=false)(b:aD w [(bd,68,#[Yr d])]):
  Yt 46 #[Yr bd] w λr w'=>r=.returned (.int .i64 0)/\Ys w w':=by
 have C:=U9 (Ld h f);obtain⟨q,t,-⟩:=b.rules;obtain⟨m,-⟩:=b.lts;clear h b;go_enter func46,ntmps46;go_wp2_with fail;refine C.o.mono ?_;rintro r l ⟨rfl,e⟩;have i:=U9 e;clear e C;go_wp2_with fail;go_ret;exact⟨rfl,i.o⟩
theorem La(h:bI w F d s n M p)(l:p.dark=false)(b:aD w [(bd,68,#[Yr d])]):
  Yt 48 #[Yr bd] w λr w'=>(M=none/\r=.returned (.int .i64 0)/\w=w')\/Fe w F d s n M p r w':=by
 have C:=U9 (Jw h l);have f:=U9 (MB h);obtain⟨u,v,-⟩:=b.rules;obtain⟨t,-⟩:=b.lts;clear h b;go_enter func48,ntmps48;go_wp2_with fail;refine f.o.mono ?_;rintro r m ⟨rfl,rfl⟩;clear f;cases M with
 |none=>
  go_wp2_with fail;go_ret
  first|exact .inl ⟨rfl,rfl⟩|exact .inl ⟨rfl,rfl,rfl⟩
 |some x=>
  go_wp2_with fail;refine C.o.mono ?_;intro r m i;have q:=U9 i;obtain⟨e,p',rfl,-⟩:=i;clear C;go_wp2_with fail;go_ret;exact .inr q.o
end
def Bk(w:Yu)(F:Nat->Prop)(d:Nat)(s:cE)(p:Pw):Prop:=(p.dark=false/\bI w F d s s none p)\/(p.dark=true/\p.burning=false/\∃n M,bI w F d s n M p/\∀x,M=some x->x.may s.l)
abbrev Bj(w:Yu)(j d:Nat)(a:Int)(br:Bool):Prop:=ai w j 160 #[Yr d,.int .i64 a,.bool br]
def Tk(w:Yu)(F:Nat->Prop)(d:Nat)(s:cE)(p:Pw)(r:Ending)(w':Yu):Prop:=
 ah F w w'/\∃G:Nat->Prop,(∀k,G k->F k\/(w.heap.size<=k/\k<w'.heap.size))/\
 ((∃(e:Int) (p':Pw),e≠0/\r=.returned (.tuple #[.pointer none,.slice none 0 0,.int .i64 e])/\Bk w' G d s p'/\p.burning=true)\/
  (∃(j a:Nat) (b:Yv) (R:List cE) (s':cE) (p':Pw),r=.returned (.tuple #[Yr j,b,.int .i64 0])/\Bj w' j d a false/\w.heap.size<=j/\¬G j/\jE w' w.heap.size b R/\il w' R/\(∀x∈R,x.l.length<=4096)/\dS R<=s.l.length/\bI w' G d s' s' none p'/\p'.dark=false/\p'.burning=p.burning/\s'.l.length<=s.l.length/\a<=s.l.length))
def Nj(w:Yu)(F:Nat->Prop)(d:Nat)(s:cE)(p:Pw)(W:Yu):Prop:=∃s' p',we w F W d s' s' none p'/\p'.dark=false/\p'.burning=p.burning/\s'.l.length<=s.l.length
def Ib(w:Yu)(F:Nat->Prop)(d:Nat)(s:cE)(p:Pw)(W:Yu):Prop:=p.burning=true/\ah F w W/\∃p',Bk W (io F w W) d s p'
theorem xw(h:bI w F d s s none p)(H:p.dark=false){z:Nat}
  (J:aD w [(g,156,#[.func (.func 44) #[] #[Yr z,Yr bb,Yr bd],.func (.func 46) #[] #[Yr bd],.func (.func 48) #[] #[Yr bd]]),(z,3,#[.int .i64 (k:Int)]),(bb,121,#[.slice A s.l.length c]),(bd,68,#[Yr d])])
  (S:¬F g/\¬F z/\¬F bb/\¬F bd/\True) (Q:k<=s.l.length):
  Yt 43 #[.slice (some ⟨g,0,none⟩) 3 3] w (jv (Nj w F d s p) (λ_ W=>Ib w F d s p W)):=by
 have q:∀W,ah F w W->aD W _:=λW m=>J.mod m S
 refine Le (a:=z) (b:=bb) (c:=bd) (I0:=λW=>W=w) (I1:=λW=>∃n M p',we w F W d s n M p'/\p'.dark=false/\p'.burning=p.burning/\(M=none->n=s)/\(∀x,M=some x->x.may s.l)/\n.l.length<=s.l.length) (I2:=λW=>∃n M p',we w F W d s n M p'/\p'.dark=false/\p'.burning=p.burning/\(M=none->n=s)/\(∀x,M=some x->x.may s.l)/\n.l.length<=s.l.length) ?_ rfl ?_ ?_ ?_
 ·rintro W (rfl|⟨n,M,p',f,-⟩|⟨n,M,p',f,-⟩)
  ·exact J.head
  ·exact(q W f.mod).head
  ·exact(q W f.mod).head
 ·rintro W rfl
  refine(Lc h H J.drop Q).mono ?_;rintro r w' (⟨rfl,rfl⟩|⟨e,n',N,p',rfl,D,t,K,B,O⟩)
  ·exact⟨0,rfl,.inl ⟨rfl,s,none,p,we.start h,H,rfl,λ_=>rfl,λx R=>(by cases R),Vc _⟩⟩
  ·rcases K with⟨rfl,o,i,v,P⟩|⟨rfl,o,i⟩|⟨rfl,rfl,rfl,rfl⟩
   ·refine⟨0,rfl,.inl ⟨rfl,n',N,p',⟨D,t⟩,o,i,?_,O,by rw[v,VI];omega⟩⟩
    intro e;rw[e]at P;cases P
   ·refine⟨8,rfl,.inr ⟨by decide,?_,t,p',.inr ⟨o,i,n',N,D,O⟩⟩⟩
    cases u:p.burning with
    |true=>rfl
    |false=>have:=B u (by rw[VI];have:=h.nl;omega);cases this
   ·refine⟨7,rfl,.inr ⟨by decide,?_,t,p',.inl ⟨H,D⟩⟩⟩
    cases u:p'.burning with
    |true=>rfl
    |false=>have:=B u (by rw[VI];have:=h.nl;omega);cases this
 ·rintro W ⟨n,M,p',f,o,i,v,E,G⟩
  refine(Lb f.at_ o (q W f.mod).drop.drop.drop).mono ?_;rintro r w' ⟨rfl,u⟩;exact⟨0,rfl,.inl ⟨rfl,n,M,p',f.call u,o,i,v,E,G⟩⟩
 ·rintro W ⟨n,M,p',f,o,i,v,E,G⟩
  refine(La f.at_ o (q W f.mod).drop.drop.drop).mono ?_;rintro r w' (⟨rfl,rfl,rfl⟩|⟨e,L,rfl,t,K,B⟩)
  ·obtain rfl:=v rfl
   exact⟨0,rfl,.inl ⟨rfl,n,p',f,o,i,Vc _⟩⟩
  ·rcases K with⟨rfl,C,I,y⟩|⟨rfl,C,I,y⟩
   ·exact⟨0,rfl,.inl ⟨rfl,n,L,f.same y t,C,I.trans i,G⟩⟩
   ·refine⟨8,rfl,.inr ⟨by decide,?_,(f.same y t).mod,L,.inr ⟨C,I,n,M,(f.same y t).at_,E⟩⟩⟩
    cases u:p.burning with
    |true=>rfl
    |false=>have:=B (i.trans u);cases this
theorem O9(h:bI w F d s s none p)(hp:p.dark=false):
  Yt 32 #[Yr d] w (Tk w F d s p):=by
 have Z:Ys w (w.alloc (.cells #[Yr d] 68)):=(Vd _ _).alloc (Vc _) _;have J:aD (w.alloc (.cells #[Yr d] 68)) [(w.heap.size,68,#[Yr d])]:=aD.nil.push rfl;generalize hW:w.alloc (.cells #[Yr d] 68)=W0 at Z J;have CR:=U9 (Mz (h.call Z) hp);have C:=U9 (Vb h (Vb J Z));obtain⟨q0,f0,-⟩:=J.rules;obtain⟨l0,-⟩:=J.lts;clear h Z J;go_enter func32,ntmps32;go_wp2_with fail;refine CR.o.mono ?_;rintro r G ⟨u,rfl,hu,y⟩;obtain⟨V,c1,rfl,S1⟩:=bA.own hu C.o.1.hn.by_;have B1:=C.o.2.1.call y;have D1:=C.o.2.2.trans (y.mono C.o.2.2.size);have z1:=y.size;have O:=B1.push (t:=121) (cs:=#[.slice V s.l.length c1]) (g:=G.heap.size) rfl;have D2:=D1.alloc D1.size (.cells #[.slice V s.l.length c1] 121);have S2:=S1.call ((Vd G.heap.size G).alloc (Vc _) (.cells #[.slice V s.l.length c1] 121));generalize γ:G.alloc (.cells #[.slice V s.l.length c1] 121)=W2 at O D2 S2;have CA:=U9 (Py S2 (by have:=C.o.1.nl;omega));have Y:=U9 (Vb O D2);obtain⟨q2,f2,q3,f3,-⟩:=O.rules;obtain⟨l2,l3,-⟩:=O.lts;clear CR hu y S1 B1 D1 O D2 S2 q0 f0 l0 hW;go_wp2_with fail;refine CA.o.mono ?_;rintro r z ⟨rv,R,a,rfl,q,K,h4,L,ha,i,iY⟩;obtain⟨Ar,cr,rfl,-,-⟩:=q.sl;have B3:=Y.o.1.call i;have D3:=Y.o.2.trans (i.mono Y.o.2.size);have z3:=i.size;have X:=B3.push (t:=3) (cs:=#[.int .i64 (a:Int)]) (g:=z.heap.size) rfl;have D4:=D3.alloc D3.size (.cells #[.int .i64 (a:Int)] 3);have m:=U9 (Vb q (Vb K (Vb h4 (Vb L (Vb ha (Vb i (Vb X D4)))))));have β:=U9 iY;obtain⟨q4,f4,q5,f5,q6,f6,-⟩:=X.rules;obtain⟨l4,l5,l6,-⟩:=X.lts;clear CA q2 f2 q3 f3 l2 l3 q K h4 L ha i B3 D3 X D4 γ iY;go_wp2_with fail;have S:=m.o.2.2.2.2.2.2.1.push (t:=156) (cs:=#[.func (.func 44) #[] #[Yr z.heap.size,Yr G.heap.size,Yr w.heap.size],.func (.func 46) #[] #[Yr w.heap.size],.func (.func 48) #[] #[Yr w.heap.size]]) (g:=z.heap.size+1) (by simp);have U:=m.o.2.2.2.2.2.2.2.alloc m.o.2.2.2.2.2.2.2.size (.cells #[.func (.func 44) #[] #[Yr z.heap.size,Yr G.heap.size,Yr w.heap.size],.func (.func 46) #[] #[Yr w.heap.size],.func (.func 48) #[] #[Yr w.heap.size]] 156);generalize δ:(z.alloc (.cells #[.int .i64 (a:Int)] 3)).alloc (.cells #[.func (.func 44) #[] #[Yr z.heap.size,Yr G.heap.size,Yr w.heap.size],.func (.func 46) #[] #[Yr w.heap.size],.func (.func 48) #[] #[Yr w.heap.size]] 156)=W5 at S U⊢;have z5:z.heap.size+1<W5.heap.size:=S.lts.1;have I:Ys z W5:=by
  rw[<-δ];exact((Vd _ _).alloc (Vc _) _).alloc (by simp) _
 have Q:∀k,F k->k<w.heap.size:=C.o.1.inh;have ζ:=C.o.2.2.size;have ε:=Y.o.2.size;have CE:=xw (C.o.1.call U) hp S (by refine⟨?_,?_,?_,?_,trivial⟩<;>intro E<;>have:=Q _ E<;>omega) m.o.2.2.2.2.1;have D:=U9 (Vb U (Vb S I));have HE:=U9 CE;clear S U I CE q4 f4 q5 f5 q6 f6 l4 l5 l6;refine HE.o.mono ?_;rintro r H ⟨e,rfl,he⟩;rcases he with⟨rfl,s',p',T,k1,k2,k3⟩|⟨α,P,hM,p',hR⟩
 ·have B6:=D.o.2.1.mod T.mod (by refine⟨?_,?_,?_,?_,trivial⟩<;>intro E<;>have:=Q _ E<;>omega)
  have v:=T.mod.row (Row.call m.o.1 D.o.2.2) (λg hg E=>by
   have:=(m.o.1.ge g hg).1;have:=Q g E;omega)
  have B:il H R:=λx hx=>((m.o.2.1 x hx).call D.o.2.2).mod T.mod λb o e hl E=>by
   have:=β.o x hx b o e hl;have:=Q b E;omega
  obtain⟨-,-,q4,f4,-,-,q6,f6,-⟩:=B6.rules;obtain⟨-,l4,-,l6,-⟩:=B6.lts;have f:=U9 (Vb T (Vb v (Vb B (Vb k1 (Vb k2 k3)))));clear T v B k1 k2 k3 B6 HE;go_wp2_with fail
  go_ret3
  have η:=f.o.1.mod.size;have N:Ys H (H.alloc (.cells #[Yr d,.int .i64 (a:Int),.bool false] 160)):=(Vd _ _).alloc (Vc _) _;refine⟨((ah.of_below (F:=F) D.o.1).trans f.o.1.mod).call N,io F W5 H,λk hk=>?_,.inr ⟨H.heap.size,a,_,R,s',p',rfl,ai.new _ _ _,by omega,λhk=>?_,(Row.call f.o.2.1 N).mono ε,f.o.2.2.1.call N,m.o.2.2.1,by rw[m.o.2.2.2.1];exact m.o.2.2.2.2.1,f.o.1.at_.call N,f.o.2.2.2.1,f.o.2.2.2.2.1,f.o.2.2.2.2.2,m.o.2.2.2.2.1⟩⟩
  ·rcases hk with hk|hk
   ·exact .inl hk
   ·exact .inr ⟨by have:=D.o.1.size;omega,by have:=N.size;omega⟩
  ·rcases hk with hk|hk
   ·have:=Q _ hk;omega
   ·omega
 ·have f:=U9 (Vb α (Vb P (Vb hM hR)))
  clear P hM hR HE;go_wp2_with fail
  go_ret3
  refine⟨(ah.of_below (F:=F) D.o.1).trans f.o.2.2.1,io F W5 H,λk hk=>?_,.inl ⟨e,p',f.o.1,rfl,f.o.2.2.2,f.o.2.1⟩⟩;rcases hk with hk|hk
  ·exact .inl hk
  ·exact .inr ⟨by have:=D.o.1.size;omega,hk.2⟩
theorem Lg{base:Nat}(e:Bj w j d a false){v:Yv}{R:List cE}(h:jE w base v R)(q:il w R)(m:∀x∈R,x.l.length<=4096)(y:R.length<=1000):
  Yt 237 #[Yr j,v] w λr w'=>∃l,kG l 0 w r w'/\l.length=dS R/\∀x∈l,0<=x/\x<=255:=by
 have C:=U9 (SA h q m y);obtain⟨E,G⟩:=e.rules;have D:=e.lt;obtain⟨A,c,rfl,-,-⟩:=h.sl;clear e h q m;go_enter func237,ntmps237;go_wp2_with fail;refine C.o.mono ?_;rintro r z ⟨l,⟨u,rfl,f,t⟩,i⟩;obtain⟨B,c1,rfl,-⟩:=aF f;have b:=U9 (Vb f (Vb t i));clear f t i C;go_wp2_with fail;go_ret2;exact⟨l,⟨_,rfl,b.o.1,b.o.2.1⟩,b.o.2.2⟩
theorem O8{n:cE}(h:bI w F d s n none p)(D:p.dark=false){bj:Nat}{br:Bool}{B:Option Addr}{m:List Int}
  (x:aD w [(bj,98,#[Yr j]),(bb,121,#[.slice B m.length c]),(j,160,#[Yr d,.int .i64 a,.bool br])]) (t:bA w B m c) (H:m.length<=5000000):
  Yt 238 #[Yr bj,Yr bb] w (og w F d s n p (n.l++m)):=by
 have q:=U9 (Vb h t);have z:=U9 (λ(W:Yu) (h:Ys w W)=>Vb (x.call h).rules (x.call h).lts);clear h t;go_enter func238,ntmps238;go_wp2_with fail;refine aP 5 (by kernel_rfl) (by simp) (by decide+kernel) (by decide+kernel) (by decide+kernel) (by decide+kernel) ?_;simp only[U4,U5,U6,U7]
 iterate 5
  first
  |refine dq z.o rfl ?_
  |refine aw (λ_=>rfl) ?_
  simp only[UW,UX,UY,UZ]
 refine aH ?_;intro _ K f _;have C:=U9 (Hn (q.o.1.ext f) D (q.o.2.call f) H);have y:=U9 f;clear f z;go_wp2_with fail;refine C.o.mono ?_;rintro r w' ⟨e,n',J,p',rfl,v,u,b⟩;have i:=U9 (Vb v (Vb u b));clear v u b C;go_wp2_with fail;go_ret;have I:=y.o.size;have G:=i.o.2.1.size;exact⟨e,n',J,p',rfl,i.o.1.mono (λk E=>io.step E I G) (io.inH q.o.1.inh (by omega)),(ah.of_below (F:=F) y.o).step i.o.2.1,i.o.2.2⟩
theorem O7{br:Bool}(b:Bj w j d a br)(n e:Int):Yt 240 #[Yr j,.int .i64 n,.int .i64 e] w λr w'=>r=.returned (.int .i64 e)/\(∃l,Bj w' j d l (e==8))/\ah (cj j) w w':=by
 obtain⟨q,t⟩:=b.rules;have m:=b.lt;have f:=U9 b;clear b;go_enter func240,ntmps240;by_cases h:e=0
 ·subst h
  go_wp2_with fail;go_ret;exact⟨rfl,⟨n,by simpa using(f.o.set_ 2 (.bool false)).set_ 1 (.int .i64 n)⟩,(ah.set (F:=cj j) (w:=w) ⟨j,2,none⟩ rfl _).setOld ⟨j,1,none⟩ (.inl rfl) _⟩
 ·have i:(e==0)=false:=by simpa using h
  go_wp2_with fail;go_ret;exact⟨rfl,⟨a,by simpa using f.o.set_ 2 (.bool (e==8))⟩,ah.set (F:=cj j) (w:=w) ⟨j,2,none⟩ rfl _⟩
def QF(w:Yu)(F:Nat->Prop)(d:Nat)(s:cE)(p:Pw)(n:Nat)(W:Yu):Prop:=∃s' p',we w F W d s' s' none p'/\p'.dark=false/\p'.burning=p.burning/\s'.l.length=s.l.length+n
def Nt(w:Yu)(F:Nat->Prop)(d:Nat)(s:cE)(p:Pw)(n:Nat)(W:Yu):Prop:=(p.burning=false->¬s.l.length+n<=4194304)/\ah F w W/\∃p',Bk W (io F w W) d s p'
theorem AD(h:bI w F d s s none p)(N:p.dark=false){bj:Nat}{l:List Int}
  (I:aD w [(g,156,#[.func (.func 238) #[] #[Yr bj,Yr bb],.func (.func 50) #[Yr d] #[]]),(bb,121,#[.slice A l.length c]),(bj,98,#[Yr j]),(j,160,#[Yr d,.int .i64 a,.bool false])])
  (S:¬F g/\¬F bb/\¬F bj/\¬F j/\True) (R:bA w A l c) (Q:l.length<=5000000):
  Yt 43 #[.slice (some ⟨g,0,none⟩) 2 2] w (jv (QF w F d s p l.length) (λ_ W=>Nt w F d s p l.length W)):=by
 have E:∀W,ah F w W->aD W _:=λW m=>I.mod m S
 refine Lf (a:=bj) (b:=bb) (d:=d) (I0:=λW=>W=w) (I1:=λW=>∃n M p',we w F W d s n M p'/\p'.dark=false/\p'.burning=p.burning/\(∀x,M=some x->x.may s.l)/\n.l=s.l++l) ?_ rfl ?_ ?_
 ·rintro W (rfl|⟨n,M,p',q,-⟩)
  ·exact I.head
  ·exact(E W q.mod).head
 ·rintro W rfl
  refine(O8 (bj:=bj) (bb:=bb) (j:=j) (c:=c) (a:=a) (br:=false) (B:=A) h N (I.drop.perm (by
   intro x O;simp only[Vy,WM,WR]at O⊢;rcases O with h|h|h<;>simp[h])) R Q).mono ?_
  rintro r w' ⟨e,n',L,p',rfl,D,f,J,z,u⟩;rcases J with⟨rfl,v,o,G,T⟩|⟨rfl,v,o⟩|⟨rfl,rfl,rfl,rfl⟩
  ·exact⟨0,rfl,.inl ⟨rfl,n',L,p',⟨D,f⟩,v,o,u,G⟩⟩
  ·exact⟨8,rfl,.inr ⟨by decide,λt i=>(by have:=z t (by rw[Vl];exact i);cases this),f,p',.inr ⟨v,o,n',L,D,u⟩⟩⟩
  ·exact⟨7,rfl,.inr ⟨by decide,λt i=>(by have:=z t (by rw[Vl];exact i);cases this),f,p',.inl ⟨N,D⟩⟩⟩
 ·rintro W ⟨n,M,p',q,v,o,G,P⟩
  refine(Jw q.at_ v).mono ?_;rintro r w' ⟨e,K,rfl,f,J,z⟩;rcases J with⟨rfl,C,H,y⟩|⟨rfl,C,H,y⟩
  ·exact⟨0,rfl,.inl ⟨rfl,n,K,q.same y f,C,H.trans o,by rw[P,Vl]⟩⟩
  ·exact⟨8,rfl,.inr ⟨by decide,λt _=>(by have:=z (o.trans t);cases this),(q.same y f).mod,K,.inr ⟨C,H,n,M,(q.same y f).at_,G⟩⟩⟩
theorem Bk.mod{w':Yu}{G:Nat->Prop}(h:Bk w F d s p)(m:ah G w w')(f:iB F G):Bk w' F d s p:=by
 rcases h with⟨e,b⟩|⟨e,b,n,M,l,i⟩
 ·exact .inl ⟨e,b.mod m f⟩
 ·exact .inr ⟨e,b,n,M,l.mod m f,i⟩
theorem Bk.call{w':Yu}(h:Bk w F d s p)(m:Ys w w'):Bk w' F d s p:=by
 rcases h with⟨b,e⟩|⟨b,e,n,M,i,f⟩
 ·exact .inl ⟨b,e.call m⟩
 ·exact .inr ⟨b,e,n,M,i.call m,f⟩
def Qt(w:Yu)(F:Nat->Prop)(j d:Nat)(s:cE)(p:Pw)(n:Nat)(r:Ending)(w':Yu):Prop:=
 ah (Uy F (cj j)) w w'/\∃G:Nat->Prop,(∀k,G k->F k\/(w.heap.size<=k/\k<w'.heap.size))/\
  ∃(e:Int) (a:Int) (p':Pw),r=.returned (.int .i64 e)/\Bj w' j d a (e==8)/\
   ((e=0/\∃s':cE,bI w' G d s' s' none p'/\p'.dark=false/\p'.burning=p.burning/\s'.l.length=s.l.length+n)\/(e≠0/\Bk w' G d s p'))/\(p.burning=false->s.l.length+n<=4194304->e=0)
theorem Sg(h:bI w F d s s none p)(hp:p.dark=false){base:Nat}(hj:Bj w j d a false)(I:¬F j){v:Yv}{R:List cE}(U:jE w base v R)(hr:il w R)(h4:∀x∈R,x.l.length<=4096)(T:R.length<=1000)(h1:0<R.length):
  Yt 217 #[Yr j,v] w (Qt w F j d s p (dS R)):=by
 have S:Ys w (w.alloc (.cells #[Yr j] 98)):=(Vd _ _).alloc (Vc _) _;have D:aD (w.alloc (.cells #[Yr j] 98)) [(w.heap.size,98,#[Yr j]),(j,160,#[Yr d,.int .i64 a,.bool false])]:=(aD.cons hj aD.nil).push rfl;generalize hW:w.alloc (.cells #[Yr j] 98)=W0 at S D;have CB:=U9 (Lg D.drop.head (Row.call U S) (hr.call S) h4 T);have β:=vp h4;obtain⟨Av,cv,rfl,-,-⟩:=U.sl;have G:=U9 (Vb h (Vb D S));have δ:=hj.lt;obtain⟨q0,f0,q1,f1,-⟩:=D.rules;obtain⟨l0,l1,-⟩:=D.lts;clear h hj U hr h4 S D;go_enter func217,ntmps217;go_wp2_with fail;refine CB.o.mono ?_;rintro r z ⟨l,⟨u,rfl,hu,m⟩,f,V⟩;obtain⟨J,c1,rfl,S1⟩:=bA.own hu V;have B1:=G.o.2.1.call m;have D1:=G.o.2.2.trans (m.mono G.o.2.2.size);have z1:=m.size;have P:=B1.push (t:=121) (cs:=#[.slice J l.length c1]) (g:=z.heap.size) rfl;have D2:=D1.alloc D1.size (.cells #[.slice J l.length c1] 121);have S2:=S1.call ((Vd z.heap.size z).alloc (Vc _) (.cells #[.slice J l.length c1] 121));generalize κ:z.alloc (.cells #[.slice J l.length c1] 121)=W2 at P D2 S2;have HA:=U9 (λb (e:(Value.slice J l.length c1).ownBlock=some b)=>(XP hu b e).1);have γ:l.length<=5000000:=by omega
 have E:=U9 (Vb P (Vb D2 (Vb S2 f)));obtain⟨q2,f2,q3,f3,q4,f4,-⟩:=P.rules;obtain⟨l2,l3,l4,-⟩:=P.lts;clear CB hu m S1 B1 D1 P D2 S2 q0 f0 l0 q1 f1 l1 hW V f β;go_wp2_with fail;have B5:=E.o.1.push (t:=156) (cs:=#[.func (.func 238) #[] #[Yr w.heap.size,Yr z.heap.size],.func (.func 50) #[Yr d] #[]]) (g:=W2.heap.size) rfl;have i:Ys W2 (W2.alloc (.cells #[.func (.func 238) #[] #[Yr w.heap.size,Yr z.heap.size],.func (.func 50) #[Yr d] #[]] 156)):=(Vd _ _).alloc (Vc _) _;generalize μ:W2.alloc (.cells #[.func (.func 238) #[] #[Yr w.heap.size,Yr z.heap.size],.func (.func 50) #[Yr d] #[]] 156)=W5 at B5 i⊢;have D5:=E.o.2.1.trans (i.mono E.o.2.1.size);have z2:=E.o.2.1.size;have T:∀k,F k->k<w.heap.size:=G.o.1.inh;have ζ:=G.o.2.2.size;have B:¬F W2.heap.size/\¬F z.heap.size/\¬F w.heap.size/\¬F j/\True:=⟨λN=>by have:=T _ N;omega,λN=>by have:=T _ N;omega,λN=>by have:=T _ N;omega,I,trivial⟩;have CE:=AD (G.o.1.call D5) hp B5 B (E.o.2.2.1.call i) γ;have X:=U9 (Vb D5 (Vb B5 B));have HE:=U9 CE;clear B5 D5 i CE q2 f2 q3 f3 q4 f4 l2 l3 l4 B;refine HE.o.mono ?_;rintro r O ⟨e,rfl,he⟩;have q:ah F W5 O:=by
  rcases he with⟨-,s',p',hS,-⟩|⟨-,-,q,-⟩
  ·exact hS.mod
  ·exact q
 have Y:=X.o.2.1.mod q X.o.2.2;have C:=U9 (Vb he (Vb q Y));have HF:=U9 (λ(W:Yu) (h:Ys O W)=>Vb (Y.call h).rules (Y.call h).lts);clear he q Y HE;go_wp2_with fail;refine aP 9 (by kernel_rfl) (by simp) (by decide+kernel) (by decide+kernel) (by decide+kernel) (by decide+kernel) ?_;simp only[U4,U5,U6,U7]
 iterate 9
  first
  |refine dq HF.o rfl ?_
  |refine aw (λ_=>rfl) ?_
  |refine iv (λ_=>rfl) ?_;apply aA
   ·intro _ W hb;have hq:=HF.o W hb;simp[execOp,go_sem,hq]<;>exact rfl
  simp only[UW,UX,UY,UZ]
 refine aH ?_;intro _ W7 hC _;have CD:=U9 (λn=>O7 (C.o.2.2.drop.drop.drop.head.call hC) n e);have Z:=U9 hC;clear hC HF;go_wp2_with fail;refine(CD.o _).mono ?_;rintro r W8 ⟨rfl,H,K⟩;have L:=U9 (Vb H K);clear H K CD;go_wp2_with fail;go_ret;have q:=C.o.2.1;have η:=q.size;have ι:=Z.o.size;have ε:=L.o.2.size;have θ:=X.o.1.size;have y:iB (io F W5 O) (cj j):=λk hk e=>by
  have e:k=j:=e;subst e;rcases hk with hk|hk
  ·exact I hk
  ·omega
 refine⟨?_,io F W5 O,λk hk=>?_,e,?_⟩
 ·have m1:ah (Uy F (cj j)) w O:=((ah.of_below (F:=F) X.o.1).trans q).mono λk h=>.inl h
  exact(m1.call Z.o).trans (L.o.2.mono λk h=>.inr h)
 ·rcases hk with hk|hk
  ·exact .inl hk
  ·exact .inr ⟨by omega,by omega⟩
 ·obtain⟨a',Q⟩:=L.o.1
  have f:=E.o.2.2.2;rcases C.o.1 with⟨rfl,s',p',hS,k1,k2,k3⟩|⟨α,hb,-,p',U⟩
  ·exact⟨a',p',rfl,Q,.inl ⟨rfl,s',(hS.at_.call Z.o).mod L.o.2 y,k1,k2,by rw[k3,f]⟩,λ_ _=>rfl⟩
  ·exact⟨a',p',rfl,Q,.inr ⟨α,(U.call Z.o).mod L.o.2 y⟩,λh1 h2=>(by rw[<-f]at h2;exact absurd h2 (hb h1))⟩
end
