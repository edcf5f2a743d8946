import Derived.Test.YtghdobdjfnimmaaGreatDoorZ29
import Derived.Test.YtghdobdjfnimmaaGreatDoorZ32
set_option maxRecDepth 100000
set_option maxHeartbeats 0
set_option linter.all false
namespace Go.Proofs.YtghdobdjfnimmaaGreatDoor
open Go.Proofs.Tryz
variable{w w0 w' w2:Yu}{c N k d b n N' g:Nat}{F:Nat->Prop}{L':List Ms}{C':Nat->Bool}{s:cE}{M:Option dQ}{p:Pw}{f:FuncId}
section
open Go.RowKit Go
def dp(h:Nat)(s:Yv)(X:List Mc):Nat->Prop:=λq=>q=h\/s.ownBlock=some q\/∃x∈X,x.s.ownBlock=some q
section
variable{w0 w w':Yu}{h:Nat}{s:Yv}{X:List Mc}{L:List Ms}{C:Nat->Bool}{G:Nat->Prop}
theorem ah.own{base:Nat}{e:Yw}{sz:Nat}{v:Yv}{xs:List Yv}(m:ah G w w')(o:w.ownsRow base e sz v n xs)(l:∀q,v.ownBlock=some q->¬G q):w'.ownsRow base e sz v n xs:=by
 refine⟨o.1,?_⟩;rcases o.2 with⟨A,i⟩|⟨g,cap,cur,rfl,i,j,z⟩
 ·exact .inl ⟨A,i⟩
 ·exact .inr ⟨g,cap,cur,rfl,i,(m.block g (ai.lt j) (l g rfl)).trans j,z⟩
theorem dK.mod(N:dK w0 w [] h s X L C)(m:ah G w w')(l:iB (dp h s X) G)(D:∀q,G q->w0.heap.size<=q):dK w0 w' [] h s X L C:=by
 have A:Ys w0 w':=⟨m.os.trans N.T.below.os,m.tape.trans N.T.below.tape,m.output.trans N.T.below.output,Vi N.T.below.size m.size,λk z=>(m.block k (Vq z N.T.below.size) λi=>by have:=D k i;omega).trans (N.T.below.block k z)⟩;refine⟨⟨A,λg t cs j=>?_⟩,N.hB,N.nes,N.nds,N.far,m.own N.own λq v i=>l q (.inr (.inl v)) i,?_⟩
 ·rcases Vy.1 j with e|e
  ·cases e;exact m.blk N.blk λi=>l h (.inl rfl) i
  ·cases e
 ·exact N.evs.imp λx B m' _ j=>⟨j.eq,m.own j.own λq v i=>l q (.inr (.inr ⟨x,B,v⟩)) i,j.ok⟩
theorem dK.inh(N:dK w0 w [] h s X L C):tP (dp h s X) w:=λq hq=>by
 rcases hq with rfl|hq|⟨x,hx,hq⟩
 ·exact N.blk.lt
 ·exact(N.own.lt q hq).2
 ·obtain⟨m,-,e⟩:=N.evs.left hx
  exact(e.own.lt q hq).2
theorem dK.base(N:dK w0 w [] h s X L C):∀q,dp h s X q->w0.heap.size<=q:=λq hq=>by
 rcases hq with rfl|hq|⟨x,hx,hq⟩
 ·exact N.hB
 ·exact(N.own.lt q hq).1
 ·obtain⟨m,-,e⟩:=N.evs.left hx
  exact(e.own.lt q hq).1
theorem fH.parts(N:fH w0 w w' [] h s X L' C'):∃s' X',dK w0 w' [] h s' X' L' C'/\ah (dp h s X) w w'/\∀q,dp h s' X' q->dp h s X q\/w.heap.size<=q:=by
 obtain⟨s',X',n,f,r,j⟩:=N;refine⟨s',X',n,ah.of_fr f (.inl rfl) λk i=>.inr (.inl i),λq hq=>?_⟩;rcases hq with hq|hq|⟨x,e,hq⟩
 ·exact .inl (.inl hq)
 ·rcases r with r|r
  ·exact .inl (.inr (.inl (r▸hq)))
  ·exact .inr (r q hq)
 ·rcases j x e with h|h
  ·exact .inl (.inr (.inr ⟨x,h,hq⟩))
  ·exact .inr (h q hq)
end
def Qp(m:Ms):Prop:=m.l.length<=100000/\ee m=true
def xM(n:Nat)(d u:Nat->Nat)(h:Nat)(now:Int):Array Yv:=#[.int .i64 n,Yr (d 0),Yr (u 0),Yr (d 1),Yr (u 1),Yr (d 2),Yr (u 2),Yr (d 3),Yr (u 3),Yr (d 4),Yr (u 4),Yr (d 5),Yr (u 5),Yr h,.int .u64 now]
structure aN where
 n:Nat
 X:Nat->fT
 s:Nat->cE
 p:Nat->Pw
 h:Nat
 sv:Yv
 MX:List Mc
 ML:List Ms
 cut:Nat->Bool
 now:Int
def aN.A(C:aN):Array Yv:=xM C.n (λk=>(C.X k).d) (λk=>(C.X k).u) C.h C.now
structure bg(w0 w:Yu)(c:Nat)(C:aN)(N:Nat):Prop where
 blk:ai w c 75 C.A
 n1:1<=C.n
 n6:C.n<=6
 si:∀k,k<6->dl w k (C.X k) N (C.s k) (C.p k)
 ne:dK w0 w [] C.h C.sv C.MX C.ML C.cut
 ml:∀m∈C.ML,Qp m
 nw:aT C.now
 cb:w0.heap.size<=c
 xb:∀k,k<6->∀q,(C.X k).G q->w0.heap.size<=q
 cx:∀k,k<6->¬(C.X k).G c
 cn:¬dp C.h C.sv C.MX c
 xx:∀j k,j<6->k<6->j≠k->iB (C.X j).G (C.X k).G
 xn:∀k,k<6->iB (C.X k).G (dp C.h C.sv C.MX)
def aN.G(C:aN)(c:Nat):Nat->Prop:=λq=>q=c\/(∃k,k<6/\(C.X k).G q)\/dp C.h C.sv C.MX q
def iD{α:Type}(f:Nat->α)(k:Nat)(x:α):Nat->α:=λj=>if j=k then x else f j
theorem bG{α:Type}(f:Nat->α)(k:Nat)(x:α):iD f k x k=x:=Vh rfl
theorem bR{α:Type}(f:Nat->α){j:Nat}(x:α)(h:j≠k):iD f k x j=f j:=Vf h
section
variable{w0 w w':Yu}{c N N':Nat}{C:aN}{G:Nat->Prop}
theorem bg.inh(h:bg w0 w c C N):tP (C.G c) w:=λq hq=>by
 rcases hq with rfl|⟨k,hk,hq⟩|hq
 ·exact h.blk.lt
 ·exact(h.si k hk).inh q hq
 ·exact h.ne.inh q hq
theorem bg.base(h:bg w0 w c C N):∀q,C.G c q->w0.heap.size<=q:=λq hq=>by
 rcases hq with rfl|⟨k,hk,hq⟩|hq
 ·exact h.cb
 ·exact h.xb k hk q hq
 ·exact h.ne.base q hq
theorem bg.mod(h:bg w0 w c C N)(m:ah G w w')(i:iB (C.G c) G)(v:∀q,G q->w0.heap.size<=q):bg w0 w' c C N:=
 ⟨m.blk h.blk λe=>i c (.inl rfl) e,h.n1,h.n6,λk l=>(h.si k l).mod m λq j e=>i q (.inr (.inl ⟨k,l,j⟩)) e,h.ne.mod m (λq j e=>i q (.inr (.inr j)) e) v,h.ml,h.nw,h.cb,h.xb,h.cx,h.cn,h.xx,h.xn⟩
theorem bg.call(h:bg w0 w c C N)(e:Ys w w'):bg w0 w' c C N:=h.mod (ah.of_below (F:=cM) e) (λ_ _ h=>h) λ_ h=>h.elim
theorem bg.more(h:bg w0 w c C N)(i:N<=N'):bg w0 w c C N':=⟨h.blk,h.n1,h.n6,λk e=>(h.si k e).more i,h.ne,h.ml,h.nw,h.cb,h.xb,h.cx,h.cn,h.xx,h.xn⟩
theorem bg.site(h:bg w0 w c C N)(hN:N<=N')(B:k<6){Q:fT->cE->Pw->Prop}(hT:dI w k (C.X k) N' w' Q):
  ∃X' s' p',bg w0 w' c {C with X:=iD C.X k X',s:=iD C.s k s',p:=iD C.p k p'} N'/\Q X' s' p'/\ah (C.G c) w w'/\∀q,aN.G {C with X:=iD C.X k X',s:=iD C.s k s',p:=iD C.p k p'} c q->C.G c q\/w.heap.size<=q:=by
 obtain⟨X',s',p',h1,⟨hd,hu⟩,S,J,hq⟩:=hT;have hi:=h.inh;have D:∀j,j<6->∀q,(C.X j).G q->j≠k->¬X'.G q:=λj l q H V hX=>by
  rcases J q hX with h'|h'
  ·exact h.xx j k l B V q H h'
  ·have:=hi q (.inr (.inl ⟨j,l,H⟩));omega
 have hA:aN.A {C with X:=iD C.X k X',s:=iD C.s k s',p:=iD C.p k p'}=C.A:=by
  have O:(λj=>(iD C.X k X' j).d)=λj=>(C.X j).d:=funext λj=>by
   by_cases e:j=k
   ·subst e;rw[bG];exact hd
   ·rw[bR _ _ e]
  have R:(λj=>(iD C.X k X' j).u)=λj=>(C.X j).u:=funext λj=>by
   by_cases e:j=k
   ·subst e;rw[bG];exact hu
   ·rw[bR _ _ e]
  show xM _ (λj=>(iD C.X k X' j).d) (λj=>(iD C.X k X' j).u) _ _=xM _ _ _ _ _;rw[O,R]
 refine⟨X',s',p',⟨?_,h.n1,h.n6,λj l=>?_,h.ne.mod S (h.xn k B).symm (h.xb k B),h.ml,h.nw,h.cb,λj l q hq=>?_,λj l hq=>?_,h.cn,λi j I l z q v m=>?_,λj l q hq Y=>?_⟩,hq,S.mono λq hq=>.inr (.inl ⟨k,B,hq⟩),λq hq=>?_⟩
 ·rw[hA];exact S.blk h.blk (h.cx k B)
 ·by_cases e:j=k
  ·subst e;simp only[bG];exact h1
  ·simp only[bR _ _ e];exact((h.si j l).more hN).mod S (h.xx j k l B e)
 ·by_cases e:j=k
  ·subst e
   simp only[bG]at hq;rcases J q hq with h'|h'
   ·exact h.xb j l q h'
   ·have:=h.ne.T.below.size;omega
  ·simp only[bR _ _ e]at hq
   exact h.xb j l q hq
 ·by_cases e:j=k
  ·subst e
   simp only[bG]at hq;rcases J c hq with h'|h'
   ·exact h.cx j l h'
   ·have:=h.blk.lt;omega
  ·simp only[bR _ _ e]at hq
   exact h.cx j l hq
 ·by_cases O:i=k
  ·subst O
   simp only[bG]at v;simp only[bR _ _ (V1 z)]at m;exact D j l q m (V1 z) v
  ·simp only[bR _ _ O]at v
   by_cases R:j=k
   ·subst R
    simp only[bG]at m;exact D i I q v O m
   ·simp only[bR _ _ R]at m
    exact h.xx i j I l z q v m
 ·by_cases e:j=k
  ·subst e
   simp only[bG]at hq;rcases J q hq with h'|h'
   ·exact h.xn j l q h' Y
   ·have:=h.ne.inh q Y;omega
  ·simp only[bR _ _ e]at hq
   exact h.xn j l q hq Y
 ·rcases hq with hq|⟨j,l,hq⟩|hq
  ·exact .inl (.inl hq)
  ·by_cases e:j=k
   ·subst e
    simp only[bG]at hq;rcases J q hq with h'|h'
    ·exact .inl (.inr (.inl ⟨j,l,h'⟩))
    ·exact .inr h'
   ·simp only[bR _ _ e]at hq
    exact .inl (.inr (.inl ⟨j,l,hq⟩))
  ·exact .inl (.inr (.inr hq))
end
section
variable(n:Nat)(d u:Nat->Nat)(h:Nat)(now:Int)
@[go_sem] theorem Ug:(xM n d u h now)[0]? =some (.int .i64 n):=rfl
@[go_sem] theorem Uf:(xM n d u h now)[13]? =some (Yr h):=rfl
@[go_sem] theorem Q1:(xM n d u h now)[14]? =some (.int .u64 now):=rfl
theorem zb(k:Nat)(e:k<6):(xM n d u h now)[1+k*2]? =some (Yr (d k)):=av.six (P:=λk=>(xM n d u h now)[1+k*2]? =some (Yr (d k))) rfl rfl rfl rfl rfl rfl k e
theorem qp(k:Nat)(e:k<6):(xM n d u h now)[1+k*2+1]? =some (Yr (u k)):=av.six (P:=λk=>(xM n d u h now)[1+k*2+1]? =some (Yr (u k))) rfl rfl rfl rfl rfl rfl k e
end
structure UC(w:Yu)(c k d u h n:Nat)(now:Int):Prop where
 cd:w.cell? ⟨c,1+k*2,none⟩=some (Yr d)
 cu:w.cell? ⟨c,1+k*2+1,none⟩=some (Yr u)
 ch:w.cell? ⟨c,13,none⟩=some (Yr h)
 cn:w.cell? ⟨c,0,none⟩=some (.int .i64 n)
 cw:w.cell? ⟨c,14,none⟩=some (.int .u64 now)
 fr:∀i,w.frozen? ⟨c,i,none⟩=false
 lt:c<w.heap.size
theorem bg.rd{C:aN}(h:bg w0 w c C N)(e:k<6):UC w c k (C.X k).d (C.X k).u C.h C.n C.now:=
 ⟨by rw[h.blk.cell];exact zb _ _ _ _ _ k e,by rw[h.blk.cell];exact qp _ _ _ _ _ k e,by rw[h.blk.cell];rfl,by rw[h.blk.cell];rfl,by rw[h.blk.cell];rfl,h.blk.frozen,h.blk.lt⟩
theorem mJ(x:Int)(w:Yu):Yt 15 #[.int .i64 x] w λr w'=>r=.returned (.bool (decide (1<=x/\x<=6)))/\w=w':=by
 by_cases j:1<=x
 ·by_cases i:x<=6
  ·go_enter func15,ntmps15
   go_wp2_with fail;go_ret;exact⟨by simp[j,i],rfl⟩
  ·go_enter func15,ntmps15
   go_wp2_with fail;go_ret;exact⟨by simp[i],rfl⟩
 ·go_enter func15,ntmps15
  go_wp2_with fail;go_ret;have e:¬(1<=x):=by omega
  exact⟨by simp[e],rfl⟩
theorem cD(x:Int)(w:Yu):Yt 27 #[.int .i64 x] w λr w'=>r=.returned (.agg (dC Ev.zero x))/\Ys w w':=by
 obtain⟨z,e,i,l⟩:=AV w 55 (dC Ev.zero 0);have v:=cO i rfl Ev.zero x;have q:=U9 (Vb (ax i (dC Ev.zero x)) (Below.rowN l (g:=w.heap.size) (Vc _) (dC Ev.zero x)));have m:=U9 e;have A:=i.lt;clear l i e;go_enter func27,ntmps27;go_upto_region 1 with fail;generalize j:w.alloc _=X0;obtain rfl:z=X0:=m.o.trans j;clear m j;go_wp2_with fail;exact aE (s:=2) results27 rfl q.o.1 underlying55 rfl (aV _ _) rfl ⟨rfl,q.o.2⟩
theorem AT{C:aN}(h:bg w0 w c C N)(l:k<6){b:Bool}(q:(!(C.p k).dark&& !(C.X k).dead)=b):Yt 16 #[.pointer (some ⟨c,1+k*2,none⟩)] w λr w'=>r=.returned (.bool b)/\w=w':=by
 obtain⟨z,A,-,-,-,B,lt⟩:=h.rd l;have j:=h.si k l;have e:Yt 24 #[Yr ((C.X k).d)] w λr w'=>r=.returned (.bool (!(C.p k).dark))/\w=w':=by
  rcases j.dk with⟨-,i⟩|⟨-,n,M,i,-⟩
  ·exact EH i
  ·exact EH i
 have e:=U9 e;have m:=U9 (Mn j.du);clear h j;subst q;generalize (C.p k).dark=v at e⊢;generalize (C.X k).dead=xd at m⊢;go_enter func16,ntmps16;cases v with
 |true=>
  go_wp2_with (go_at_call 24;refine e.o.mono ?_;rintro r w2 ⟨rfl,rfl⟩);go_ret;exact⟨rfl,rfl⟩
 |false=>
  go_wp2_with (first|(go_at_call 24;refine e.o.mono ?_;rintro r w2 ⟨rfl,rfl⟩)|(go_at_call 25;refine m.o.mono ?_;rintro r w2 ⟨rfl,rfl⟩));go_ret;exact⟨by simp,rfl⟩
section
variable(ρ:Yx->Yv)(dst:Option Tmp)(x:Yx)(ty:Yw)(pos:String)(after:Array Edge)(guard:Option (Nat×Bool))
@[go_sem ↓ high] theorem GW:execOp ρ {dst,op:=.load 45 x,type:=ty,pos,after,guard}=dR 45 (ρ x):=by simp[execOp,dR]
end
def eE.ask(x:eE):cJ:=⟨x.a.k,x.a.n,x.a.t,x.a.a,x.a.r,x.a.f⟩
theorem eE.ok.ask{x:eE}(h:x.ok):x.ask.ok:=⟨h.a.k,h.a.n,h.a.t,h.a.a,h.a.r,h.a.f⟩
theorem fq(x:eE):(prog.info? 45).map (·.size)=some (bD x).size:=by rw[zD];kernel_rfl
section
variable{w:Yu}{g:Nat}{t:Yw}{x:eE}(h:ai w g t (bD x))
include h
theorem fB:(dR 45 (Yr g)).run prog w=.ok (.value (.agg (bD x))) w:=dG h underlying45 rfl (fq x)
theorem Dk:(dR 42 (.pointer (some ⟨g,2,none⟩))).run prog w=.ok (.value (.agg (cQ x.ask))) w:=
 aY (h.rngAt (o:=2) (n:=0) (cQ x.ask) λj v e=>by
  match j,e with
  |0,e=>exact e
  |1,e=>exact e
  |2,e=>exact e
  |3,e=>exact e
  |4,e=>exact e
  |5,e=>exact e
  |j+6,e=>simp[cQ]at e) underlying42 rfl (oG _)
end
theorem bI.tight{n:cE}(h:bI w F d s n M p):bI w (λq=>F q/\∀cs,¬ai w q 53 cs) d s n M p:=by
 have B:∀{q:Nat} {t:Yw} {cs:Array Yv},ai w q t cs->t≠53->∀D,¬ai w q 53 D:=λz R D O=>R (ai.type_eq z O).1
 have m:∀{A:Option Addr} {l:List Int} {c:Nat},bA w A l c->vZ F A l->vZ (λq=>F q/\∀cs,¬ai w q 53 cs) A l:=λV T b o e j=>by
  obtain⟨b',o',cs,H,z,-⟩:=V.blk j;rw[e]at H;injection H with H;injection H with Y I;subst Y;exact⟨T b o e j,B z (by decide)⟩
 obtain⟨lo,z,j⟩:=h.blk;refine⟨⟨lo,z,?_⟩,h.hs,h.hn,m h.hs h.sf,m h.hn h.nf,⟨h.fd,B z (by decide)⟩,h.ok,h.sl,h.nl,λq S=>h.inh q S.1⟩;cases M with
 |none=>exact j
 |some x=>
  refine⟨j.1,λg v=>⟨j.2.1 g v,?_⟩,?_⟩
  ·rcases j.1.2 with⟨I,-⟩|⟨g',cap,cur,I,-,J,-⟩
   ·rw[I]at v;cases v
   ·rw[I]at v
    injection v with v;subst v;exact B J (by decide)
  ·have i:=j.2.2
   cases x with
   |app bx A l c=>exact⟨i.1,i.2.1,⟨i.2.2.1,B i.1 (by decide)⟩,m i.2.1 i.2.2.2⟩
   |cut bf bn n=>exact⟨i.1,⟨i.2.1,B i.1.head (by decide)⟩,⟨i.2.2,B i.1.drop.head (by decide)⟩⟩
theorem sj.tight(h:sj w F d s p):sj w (λq=>F q/\∀cs,¬ai w q 53 cs) d s p:=by
 rcases h with⟨e,i⟩|⟨e,n,M,i,j⟩
 ·exact .inl ⟨e,i.tight⟩
 ·exact .inr ⟨e,n,M,i.tight,j⟩
def fT.tight(w:Yu)(X:fT):fT:={X with R:=X.R.tight,F:=λq=>X.F q/\∀cs,¬ai w q 53 cs}
theorem dl.tight{X:fT}(h:dl w k X n s p):dl w k (X.tight w) n s p/\(∀q,(X.tight w).G q->X.G q)/\∀q cs,(X.tight w).G q->¬ai w q 53 cs:=by
 obtain⟨m,e,l⟩:=h.re.tight;refine⟨⟨h.du,m,h.jo,h.dk.tight,h.lv,h.uj,λhq=>h.uF hq.1,λhq=>h.jF hq.1,λhq=>h.uR (e _ hq),λhq=>h.jR (e _ hq),λq a b=>h.rF q (e q a) b.1⟩,λq hq=>?_,λq cs hq i=>?_⟩
 ·rcases hq with hq|hq|hq|hq
  ·exact .inl hq
  ·exact .inr (.inl hq)
  ·exact .inr (.inr (.inl (e q hq)))
  ·exact .inr (.inr (.inr hq.1))
 ·rcases hq with hq|hq|hq|hq
  ·have hq:q=X.u:=hq
   subst hq;exact absurd (ai.type_eq i h.du).1 (by decide)
  ·have hq:q=X.j:=hq
   subst hq;exact absurd (ai.type_eq i h.jo).1 (by decide)
  ·exact l q cs hq i
  ·exact hq.2 cs i
theorem dI.since{l W:Yu}{B:Nat}{X:fT}{A:Nat->Prop}{Q:fT->cE->Pw->Prop}(h:dI l k X n w2 Q)(s:cR [53] A B w2 W)(hF:∀q,¬A q)(R:∀X' s' p',Q X' s' p'->Q (X'.tight w2) s' p'):
  ∃X' s' p',dl W k X' n s' p'/\(X'.d=X.d/\X'.u=X.u)/\(∀q,X'.G q->X.G q\/l.heap.size<=q)/\Q X' s' p'/\∀q cs,X'.G q->¬ai W q 53 cs:=by
 obtain⟨X',s',p',J,H,-,I,O⟩:=h;obtain⟨z,D,m⟩:=J.tight;have v:∀q,(X'.tight w2).G q->W.heap[q]? =w2.heap[q]?:=λq e=>by
  rcases s.block q (z.inh q e)with h|⟨-,⟨cs,t,T,i⟩,-⟩|h
  ·exact h
  ·rw[VH.1 T]at i
   exact absurd i (m q cs e)
  ·exact absurd h (hF q)
 have S:=z.mod (G:=λq=>¬(X'.tight w2).G q) (w':=W) ⟨s.os,s.tape,s.output,s.size,λq e j=>v q (Classical.not_not.1 j)⟩ (λq e j=>j e);refine⟨X'.tight w2,s',p',S,H,λq e=>I q (D q e),R _ _ _ O,λq cs e i=>m q cs e ?_⟩;exact(v q e).symm.trans i
structure iC(w0 w w':Yu)(c:Nat)(C C':aN)(N:Nat):Prop where
 at_:bg w0 w' c C' N
 mod:ah (C.G c) w w'
 sub:∀q,C'.G c q->C.G c q\/w.heap.size<=q
 n:C'.n=C.n
section
variable{w0 w w' w'' W:Yu}{c N N' b r:Nat}{C C' C'':aN}{x:eE}
theorem iC.refl(h:bg w0 w c C N):iC w0 w w c C C N:=⟨h,ah.refl,λ_ h=>.inl h,rfl⟩
theorem iC.call(h:iC w0 w w' c C C' N)(e:Ys w' w''):iC w0 w w'' c C C' N:=⟨h.at_.call e,h.mod.call e,h.sub,h.n⟩
theorem iC.more(h:iC w0 w w' c C C' N)(e:N<=N'):iC w0 w w' c C C' N':=⟨h.at_.more e,h.mod,h.sub,h.n⟩
theorem iC.trans(h:iC w0 w w' c C C' N)(g:iC w0 w' w'' c C' C'' N'):iC w0 w w'' c C C'' N':=⟨g.at_,h.mod.trans' g.mod λq e i=>by
 rcases h.sub q i with h|h
 ·exact h
 ·omega,λq e=>by
 rcases g.sub q e with h'|h'
 ·exact h.sub q h'
 ·exact .inr (Vi h.mod.size h'),g.n.trans h.n⟩
theorem iC.pre(e:Ys w w')(g:iC w0 w' w'' c C C'' N'):iC w0 w w'' c C C'' N':=⟨g.at_,(ah.of_below e).trans g.mod,λq i=>by
 rcases g.sub q i with h'|h'
 ·exact .inl h'
 ·exact .inr (Vi e.size h'),g.n⟩
structure Nr(w0 w W:Yu)(c b r N:Nat)(C:aN)(x:eE):Prop where
 D:Ys w W
 B:ai W b 45 (bD x)
 R:ai W r 55 (dC Ev.zero 0)
 at_:bg w0 W c C N
 I:tP (C.G c) w
 hb:w.heap.size<=b
 hr:w.heap.size<=r
theorem bg.enter(h:bg w0 w c C N)(x:eE):Nr w0 w ((w.alloc (.cells (bD x) 45)).alloc (.cells (dC Ev.zero 0) 55)) c w.heap.size (w.heap.size+1) N C x:=by
 have e:=((aD.nil (w:=w)).push (t:=45) (cs:=bD x) (g:=w.heap.size) rfl).push (t:=55) (cs:=dC Ev.zero 0) (g:=w.heap.size+1) (by simp);have i:Ys w ((w.alloc (.cells (bD x) 45)).alloc (.cells (dC Ev.zero 0) 55)):=((Vd _ _).alloc (Vc _) _).alloc (by simp) _;exact⟨i,e.drop.head,e.head,h.call i,h.inh,Vc _,by omega⟩
theorem Nr.res(E:Nr w0 w W c b r N C x)(m:ah (C.G c) W w'):ai w' r 55 (dC Ev.zero 0):=m.blk E.R λe=>by
 have:=E.I r e;have:=E.hr;omega
theorem Nr.stp(E:Nr w0 w W c b r N C x)(m:ah (C.G c) W w'):ai w' b 45 (bD x):=m.blk E.B λe=>by
 have:=E.I b e;have:=E.hb;omega
theorem Nr.o(E:Nr w0 w W c b r N C x)(S:iC w0 W w' c C C' N')(e:Ev)(y:Int):ai (w'.setRow r (dC e y)) r 55 (dC e y)/\iC w0 w (w'.setRow r (dC e y)) c C C' N':=by
 have m:=E.res S.mod;have j:ah (cj r) w' (w'.setRow r (dC e y)):=ah.of_fr1 (aM w' r _) rfl;have v:=E.hr;have l:=E.R.lt;have z:=E.D.size;refine⟨ax m _,S.at_.mod j (λq i e=>?_) (λq e=>?_),((ah.of_below E.D).trans S.mod).trans' j λq i e=>?_,λq i=>?_,S.n⟩
 ·have e:q=r:=e
  subst e;rcases S.sub _ i with h|h
  ·have:=E.I _ h;omega
  ·omega
 ·have e:q=r:=e
  have:=E.at_.ne.T.below.size;have:=E.at_.cb;have:=E.I c (.inl rfl);omega
 ·have e:q=r:=e
  omega
 ·rcases S.sub q i with h|h
  ·exact .inl h
  ·exact .inr (by omega)
end
def dv(w0 w:Yu)(c:Nat)(C:aN)(N:Nat)(Q:aN->Ev->Int->Prop)(x:Ending)(w':Yu):Prop:=∃E e C',x=.returned (.agg (dC E e))/\iC w0 w w' c C C' N/\Q C' E e
theorem rX(hk:k<6)(x:eE)(hx:x.w=(k:Int)+1)(w:Yu):Yt 183 #[Yr c,.agg (bD x)] w λr w'=>r=.returned (.pointer (some ⟨c,1+k*2,none⟩))/\Ys w w':=by
 obtain⟨l,i,j,H⟩:=AV w 45 (bD x);obtain⟨B,f0⟩:=j.rules;have l0:=j.lt;have c0:l.cell? ⟨w.heap.size,1,none⟩=some (.int .i64 ((k:Int)+1)):=by rw[B];exact Vt (λz=>some (Value.int .i64 z)) hx
 have V:IntKind.i64.wrap (k:Int)=k:=VE _ (by omega);have T:(0:Int)<=(k:Int):=by omega
 have O:(k:Int)<6:=by omega
 have J:=U9 H;have R:=U9 (λ(Y:Yu) (e:Ys l Y)=>Vb ((j.call e).rules).2 (Vb (j.call e).lt ((e.cell (p:=⟨w.heap.size,1,none⟩) l0).trans c0)));have I:=U9 i;clear j H B i;go_enter func183,ntmps183;go_upto_region 1 with fail;generalize D:w.alloc _=X0;obtain rfl:l=X0:=I.o.trans D;clear I D;refine bS (by kernel_rfl) (by kernel_rfl) ?_
 iterate 8
  first
  |refine dx rfl ?_;apply aA
   ·intro _ ρ v q m W e;have S:=R.o W e;simp[execOp,go_sem,v,q,m,S,V,T,O]<;>exact rfl
  |refine aw (λ_=>rfl) ?_
  simp only[UW,UX,UY,UZ]
 refine aH ?_;intro _ W2 A;go_wp2_with fail;go_ret;exact⟨rfl,J.o.trans (A.mono J.o.size)⟩
def aN.up(C:aN)(k:Nat):Bool:= !(C.p k).dark&& !(C.X k).dead
def aN.put(C:aN)(k:Nat)(X:fT)(s:cE)(p:Pw):aN:={C with X:=iD C.X k X,s:=iD C.s k s,p:=iD C.p k p}
theorem bg.site'{C:aN}(h:bg w0 w c C N)(v:N<=N')(e:k<6){Q:fT->cE->Pw->Prop}(l:dI w k (C.X k) N' w' Q):∃X' s' p',iC w0 w w' c C (C.put k X' s' p') N'/\Q X' s' p':=by
 obtain⟨X',s',p',m,i,q,j⟩:=h.site v e l;exact⟨X',s',p',⟨m,q,j,rfl⟩,i⟩
structure Tr(w:Yu)(c b k u n:Nat)(now:Int)(x:eE):Prop where
 cu:w.cell? ⟨c,1+k*2+1,none⟩=some (Yr u)
 cw:w.cell? ⟨c,14,none⟩=some (.int .u64 now)
 fr:∀i,w.frozen? ⟨c,i,none⟩=false
 lt:c<w.heap.size
 fb:∀i,w.frozen? ⟨b,i,none⟩=false
 lb:b<w.heap.size
 ak:(dR 42 (.pointer (some ⟨b,2,none⟩))).run prog w=.ok (.value (.agg (cQ x.ask))) w
theorem Tr.of{C:aN}{x:eE}(e:ai w c 75 C.A)(j:k<6)(i:ai w b 45 (bD x)):Tr w c b k (C.X k).u C.n C.now x:=
 ⟨by rw[e.cell];exact qp _ _ _ _ _ k j,by rw[e.cell];rfl,e.frozen,e.lt,i.frozen,i.lt,Dk i⟩
theorem yT{M j:Ev}{e l:Int}(h:Value.tuple #[.agg (ao M),.int .i64 e]=.tuple #[.agg (ao j),.int .i64 l]):M=j/\e=l:=by
 injection h with h;injection h with h;injection h with m i;injection i with i _;injection i with _ i;exact⟨He m,i⟩
def QC(C:aN)(k:Nat)(x:eE)(C':aN)(E:Ev)(e:Int):Prop:=
 (C.up k=false/\E=Ev.zero/\e=8/\C'=C)\/(C.up k=true/\∃X' s' p',C'=C.put k X' s' p'/\No (cH (C.X k).R.m k x.ask).1 (cH (C.X k).R.m k x.ask).2.1 (cH (C.X k).R.m k x.ask).2.2 (C.s k) (C.p k) E e X' s' p')
theorem Qd{C:aN}(h:bg w0 w c C N)(hN:N+1<=900000)(hT:dh w){x:eE}(ox:x.ok)(T:k<6)(hx:x.w=(k:Int)+1):
  Yt 171 #[Yr c,.agg (bD x)] w (dv w0 w c C (N+1) (QC C k x)):=by
 obtain⟨W0,V⟩:∃W0,W0=(w.alloc (.cells (bD x) 45)).alloc (.cells (dC Ev.zero 0) 55):=⟨_,rfl⟩;have E:=h.enter x;rw[<-V]at E;generalize μ:w.heap.size+1=r0 at E;have δ:=hT.call' E.D;have HW:=U9 V;have CW:=U9 (λW=>rX (c:=c) T x hx W);obtain⟨b,J⟩:∃b,C.up k=b:=⟨_,rfl⟩;have γ:=fB E.B;obtain⟨qb,fb⟩:=E.B.rules;have lb:=E.B.lt;have j:=U9 (Vb E (Vb δ (Vb ox J)));clear h hT E δ ox V qb;go_enter func171,ntmps171;go_upto_region 1 with fail;generalize hg:(w.alloc _).alloc _=X0;obtain rfl:W0=X0:=HW.o.trans hg;clear HW hg;go_wp2_with fail;refine(CW.o W0).mono ?_;rintro r W1 ⟨rfl,i⟩;have z:=j.o.1.at_.call i;have CU:=U9 (AT z T (show _=b from j.o.2.2.2));clear γ fb lb CW z;cases b with
 |false=>
  go_wp2_with (go_at_call 16;refine CU.o.mono ?_;rintro r W2 ⟨rfl,rfl⟩);refine(cD 8 W1).mono ?_;rintro r W2 ⟨rfl,κ⟩;have H:=((iC.refl j.o.1.at_).call i).call κ;have A:=j.o.1.res H.mod;have η:=cO A rfl Ev.zero 8;have HX:=U9 (j.o.1.o H Ev.zero 8);have lr:=A.lt;have fr:=A.frozen;clear H A;go_wp2_with fail;exact aE (s:=4) results171 rfl HX.o.1 underlying55 rfl (aV _ _) rfl ⟨_,_,_,rfl,HX.o.2.more (by omega),.inl ⟨j.o.2.2.2,rfl,rfl,rfl⟩⟩
 |true=>
  go_upto_region 4 with(go_at_call 16;refine CU.o.mono ?_;rintro r W2 ⟨rfl,rfl⟩);have z:=j.o.1.at_.call i;have O:=z.si k T;have S:(C.p k).dark=false/\(C.X k).dead=false:=by
   have:=j.o.2.2.2;unfold aN.up at this;simpa using this
  have HF:=U9 (λ(Y:Yu) (hm:ah (C.X k).G W1 Y)=>Tr.of (hm.blk z.blk (z.cx k T)) T (hm.blk (j.o.1.stp (ah.of_below i)) λhG=>by
   have:=j.o.1.I w.heap.size (.inr (.inl ⟨k,T,hG⟩));omega))
  have CA:=U9 (λ(Y:Yu) (J:Ys W1 Y)=>PQ (O.call J) S.2 S.1 hN ((j.o.2.1.call' i).call' J) j.o.2.2.1.ask z.nw);have β:=U9 (show∀q,(C.X k).G q->q<W1.heap.size from λq l=>O.inh q l);have H1:=U9 (Vb i z);clear i z O S CU;refine ay [53] (C.X k).G 10 β.o (by kernel_rfl) (by kernel_rfl) ?_
  iterate 10
   first
   |refine bT rfl ?_;apply aA
    ·intro _ ρ θ ζ ε W J;have l:=HF.o W J;simp[execOp,go_sem,θ,ζ,ε,l,l.cu,l.cw,l.fr,l.lt,l.fb,l.lb,l.ak]<;>exact rfl
   |refine al (λ_=>rfl) ?_
   simp only[UW,UX,UY,UZ]
  refine bP (λ_=>rfl) rfl 184 (λ_=>#[Yr ((C.X k).u),.agg (cQ x.ask),.int .u64 C.now]) (λv:Ev×Int=>.tuple #[.agg (ao v.1),.int .i64 v.2]) (Ev.zero,0) (λY v Y'=>∃M e,v=.tuple #[.agg (ao M),.int .i64 e]/\dI Y k (C.X k) (N+1) Y' (No (cH (C.X k).R.m k x.ask).1 (cH (C.X k).R.m k x.ask).2.1 (cH (C.X k).R.m k x.ask).2.2 (C.s k) (C.p k) M e)) (λ_ w=>by simp[execOp,go_sem]<;>rfl) (λ_ Y J=>?ca) ?_
  case ca=>
   refine(CA.o Y J).mono ?_;rintro r Y' ⟨e,M,rfl,hT⟩;exact⟨(M,e),rfl,⟨M,e,rfl,hT⟩,by
    obtain⟨_,_,_,_,_,m,_⟩:=hT;exact m⟩
  simp only[UW,UX,UY,UZ]
  iterate 3
   refine bH rfl ?_;simp only[UW,UX,UY,UZ]
  refine eW (λ_=>rfl) 53 (ao Ev.zero) (λ_ _=>by simp[execOp,go_sem]<;>exact rfl) ?_;simp only[UW,UX,UY,UZ];refine cZ (λ_=>rfl) 14 53 53 14 _ _ rfl (by decide) rfl (by simp) β.o _ _ _ (λ_=>rfl) (λ_=>rfl) (λ_=>by repeat (first|exact Vs ⟨rfl,rfl,rfl⟩|apply Vr)) (bY Ev.zero) (λ_=>rfl) (λ_=>kz _) ?_;simp only[UW,UX,UY,UZ]
  iterate 1
   refine bH rfl ?_;simp only[UW,UX,UY,UZ]
  refine aK (by kernel_rfl) ?_;rintro⟨⟨_,⟨M,e⟩⟩,v⟩ W2 hC hR;replace hC:ah (C.X k).G W1 W2:=hC;dsimp only;simp only[U0,U1,U2,U3,Nat.reduceAdd,Nat.zero_add]at hR;obtain⟨w1,w2,i,-,⟨M',e',he,g3⟩,g4⟩:=bJ (hR 10 _ _ (by repeat (first|exact Or.inl ⟨rfl,rfl,rfl⟩|apply Or.inr))) rfl;obtain⟨g,v',hx,n6,B6⟩:∃g v',[v,Value.agg (ao M)]=[Yr g,v']/\W1.heap.size<=g/\ai W2 g 53 (Value.toArr v'):=hR 15 _ _ (by repeat (first|exact Or.inl ⟨rfl,rfl,rfl⟩|apply Or.inr));injection hx with h6 α;injection α with α;subst h6 α;replace B6:ai W2 g 53 (ao M):=B6;obtain⟨rfl,rfl⟩:=yT he;obtain⟨X',s',p',r1,r2,r3,r4,-⟩:=g3.since g4 (λ_ h=>h.1 rfl) λ_ _ _ h=>h
  have ι:=(i rfl).size;obtain⟨X',s',p',H,hQ⟩:=H1.o.2.site' (N':=N+1) (by omega) T ⟨X',s',p',r1,r2,hC,λq l=>(r3 q l).imp id λh=>Vi ι h,r4⟩;replace H:=H.pre H1.o.1;have A:=j.o.1.res H.mod;have γ:=dz B6;have η:=cO A rfl M e;have HX:=U9 (j.o.1.o H M e);have HQ:=U9 hQ;have lr:=A.lt;have fr:=A.frozen;have lg:=B6.lt;have fg:=B6.frozen;clear hC hR g3 g4 n6 B6 r1 r2 r3 r4 H hQ A HF CA β;go_wp2_with fail;exact aE (s:=4) results171 rfl HX.o.1 underlying55 rfl (aV _ _) rfl ⟨_,_,_,rfl,HX.o.2,.inr ⟨j.o.2.2.2,_,_,_,rfl,HQ.o⟩⟩
def d7(w0 w w':Yu)(h:Nat)(s:Yv)(X:List Mc)(L:List Ms):Prop:=∃s' X' L' C',dK w0 w' [] h s' X' L' C'/\ah (dp h s X) w w'/\(∀q,dp h s' X' q->dp h s X q\/w.heap.size<=q)/\∀m∈L',m∈L\/Qp m
section
variable{w0 w w' w'':Yu}{h:Nat}{s:Yv}{X:List Mc}{L:List Ms}{C:Nat->Bool}
theorem fH.any(n:fH w0 w w' [] h s X L' C')(e:∀m∈L',m∈L\/Qp m):d7 w0 w w' h s X L:=by
 obtain⟨s',X',i,l,j⟩:=n.parts;exact⟨s',X',L',C',i,l,j,e⟩
theorem dK.any(N:dK w0 w [] h s X L C):d7 w0 w w h s X L:=⟨s,X,L,C,N,ah.refl,λ_ h=>.inl h,λ_ h=>.inl h⟩
theorem d7.call(n:d7 w0 w w' h s X L)(e:Ys w' w''):d7 w0 w w'' h s X L:=by
 obtain⟨s',X',L',C',j,i,l,m⟩:=n;exact⟨s',X',L',C',j.call e,i.call e,l,m⟩
theorem yE(n:dK w0 w' [] h s X L C')(f:Fr w w' h none):d7 w0 w w' h s X L:=⟨s,X,L,C',n,ah.of_fr1 f (.inl rfl),λ_ h=>.inl h,λ_ h=>.inl h⟩
theorem d7.pre(e:Ys w w')(n:d7 w0 w' w'' h s X L):d7 w0 w w'' h s X L:=by
 obtain⟨s',X',L',C',j,l,m,v⟩:=n;exact⟨s',X',L',C',j,(ah.of_below e).trans l,λq i=>(m q i).imp id (Vi e.size),v⟩
theorem d7.trans{s':Yv}{X':List Mc}(m:ah (dp h s X) w w')(i:∀q,dp h s' X' q->dp h s X q\/w.heap.size<=q)(D:∀m∈L',m∈L\/Qp m)(n:d7 w0 w' w'' h s' X' L'):d7 w0 w w'' h s X L:=by
 obtain⟨s2,A,j,z,v,l,B,I⟩:=n;refine⟨s2,A,j,z,v,m.trans' l λq e J=>?_,λq e=>?_,λx H=>?_⟩
 ·rcases i q J with h|h
  ·exact h
  ·omega
 ·rcases B q e with h|h
  ·exact i q h
  ·exact .inr (Vi m.size h)
 ·rcases I x H with h|h
  ·exact D x h
  ·exact .inr h
theorem KQ(N:dK w0 w [] h s X L C)(k:Int):Yt 189 #[Yr h,.int .i64 k] w λe w'=>(∃b,e=.returned (.bool b))/\d7 w0 w w' h s X L:=by
 have z:=N.evs.len;by_cases v:0<=k/\k<(X.length:Int)
 ·obtain⟨i,rfl⟩:∃i:Nat,k=i:=⟨k.toNat,by omega⟩
  have l:i<L.length:=by omega
  exact(Ct i _ (Ve l) N).mono λe w' q=>⟨⟨_,q.1⟩,q.2.any λm j=>.inl (Yg j)⟩
 ·obtain⟨A,c,rfl,-⟩:=aF N.own
  exact(wX k A X.length c N.blk (Vj v)).mono λe w' q=>⟨⟨_,q.1⟩,N.any.call q.2⟩
theorem Gl(N:dK w0 w [] h s X L C)(B:∀m∈L,Qp m)(k:Int):Yt 190 #[Yr h,.int .i64 k] w λe w'=>(∃b,e=.returned (.int .i64 b))/\d7 w0 w w' h s X L:=by
 have D:=N.evs.len;by_cases l:0<=k/\k<(X.length:Int)
 ·by_cases z:X.length<128
  ·obtain⟨i,rfl⟩:∃i:Nat,k=i:=⟨k.toNat,by omega⟩
   have j:i<L.length:=by omega
   refine(zU i _ (Ve j) (B _ (List.getElem_mem j)).1 N z).mono λe w' q=>⟨⟨_,q.1⟩,q.2.any λm v=>?_⟩
   rcases Vw.1 v with h|h
   ·exact .inl h
   ·rw[VH.1 h];exact .inl (List.getElem_mem j)
  ·obtain⟨A,c,rfl,-⟩:=aF N.own
   exact(uz k A X.length c N.blk (Vg l) (by omega)).mono λe w' q=>⟨⟨_,q.1⟩,q.2▸N.any⟩
 ·obtain⟨A,c,rfl,-⟩:=aF N.own
  exact(uy k A X.length c N.blk (Vj l)).mono λe w' q=>⟨⟨_,q.1⟩,q.2▸N.any⟩
theorem OD(N:dK w0 w [] h s X L C)(i j:Int):Yt 191 #[Yr h,.int .i64 i,.int .i64 j] w λe w'=>(∃b,e=.returned (.int .i64 b))/\d7 w0 w w' h s X L:=by
 by_cases z:(1<=i/\i<=6)/\(1<=j/\j<=6)/\i≠j
 ·obtain⟨a,rfl⟩:∃a:Nat,i=(a:Int)+1:=⟨(i-1).toNat,by omega⟩
  obtain⟨b,rfl⟩:∃b:Nat,j=(b:Int)+1:=⟨(j-1).toNat,by omega⟩;exact(OE N a b (by omega) (by omega) (by omega)).mono λe w' q=>⟨⟨_,q.1⟩,yE q.2.1 q.2.2⟩
 ·refine(Cw h i j ?_ w).mono λe w' q=>⟨⟨_,q.1⟩,q.2▸N.any⟩
  cases v:cB i with
  |false=>exact .inl rfl
  |true=>
   cases m:cB j with
   |false=>exact .inr (.inl ⟨rfl,rfl⟩)
   |true=>
    refine .inr (.inr ⟨rfl,rfl,?_⟩);obtain⟨a,A,rfl⟩:=gd v;obtain⟨b,B,rfl⟩:=gd m;rw[Xg];refine Ya λl=>z ⟨⟨by omega,by omega⟩,⟨by omega,by omega⟩,l⟩
theorem KO(N:dK w0 w [] h s X L C):Yt 161 #[Yr h] w λe w'=>e=.returned (.tuple #[])/\d7 w0 w w' h s X L:=(KP N).mono λe w' q=>⟨q.1,yE q.2.1 q.2.2⟩
theorem Ow(N:dK w0 w [] h s X L C)(m:Ms)(o:m.ok){A:Option Addr}{base:Nat}(z:dr w base (.slice A m.l.length c) m.l)(B:m.l.length<=100000):Yt 186 #[Yr h,.agg (aR ⟨m.k,m.f,m.t,m.d,.slice A m.l.length c,m.n,m.a⟩)] w λe w'=>(∃b,e=.returned (.int .i64 b))/\d7 w0 w w' h s X L:=by
 obtain⟨H,D,I,v,j⟩:=z.sl;obtain⟨rfl,rfl⟩:A=H/\c=D:=by injection I with a _ b;exact⟨a,b⟩
 refine(Rv m o A c (Row.rd z rfl) v j B N).mono λe w' q=>⟨⟨_,q.1⟩,q.2.any λx i=>?_⟩
 unfold qR at i;split at i
 ·exact .inl i
 ·split at i
  ·exact .inl i
  ·split at i
   ·exact .inl i
   ·rcases Vw.1 i with h|h
    ·exact .inl h
    ·rw[VH.1 h]
     exact .inr ⟨B,by simpa using‹¬ee m=false›⟩
end
def aN.nt(C:aN)(s:Yv)(X:List Mc)(L:List Ms)(e:Nat->Bool):aN:={C with sv:=s,MX:=X,ML:=L,cut:=e}
theorem bg.nt{C:aN}(h:bg w0 w c C N)(n:d7 w0 w w' C.h C.sv C.MX C.ML):∃s X L e,iC w0 w w' c C (C.nt s X L e) N:=by
 obtain⟨s,X,L,e,A,j,l,D⟩:=n;have v:=h.inh;refine⟨s,X,L,e,⟨j.blk h.blk h.cn,h.n1,h.n6,λk i=>(h.si k i).mod j (h.xn k i),A,λm z=>(D m z).elim (h.ml m) id,h.nw,h.cb,h.xb,h.cx,λhq=>?_,h.xx,λk i q hq B=>?_⟩,j.mono λq hq=>.inr (.inr hq),λq hq=>?_,rfl⟩
 ·rcases l _ hq with h'|h'
  ·exact h.cn h'
  ·have:=v c (.inl rfl);omega
 ·rcases l _ B with h'|h'
  ·exact h.xn k i q hq h'
  ·have:=v q (.inr (.inl ⟨k,i,hq⟩));omega
 ·rcases hq with hq|hq|hq
  ·exact .inl (.inl hq)
  ·exact .inl (.inr (.inl hq))
  ·exact(l q hq).imp (λh=>.inr (.inr h)) id
theorem bg.nt'{i j:Yu}{C:aN}(h:bg w0 w c C N)(l:Ys w i)(n:d7 w0 i w2 C.h C.sv C.MX C.ML)(m:Ys w2 j):∃s X L e,iC w0 w j c C (C.nt s X L e) N:=by
 obtain⟨s,X,L,e,S⟩:=(h.call l).nt n;exact⟨s,X,L,e,(S.pre l).call m⟩
structure Nq(w:Yu)(c b h:Nat)(x:eE):Prop where
 ch:w.cell? ⟨c,13,none⟩=some (Yr h)
 fr:∀i,w.frozen? ⟨c,i,none⟩=false
 lt:c<w.heap.size
 fb:∀i,w.frozen? ⟨b,i,none⟩=false
 lb:b<w.heap.size
 ww:w.cell? ⟨b,1,none⟩=some (.int .i64 x.w)
 wk:w.cell? ⟨b,8,none⟩=some (.int .i64 x.k)
 wj:w.cell? ⟨b,9,none⟩=some (.int .i64 x.j)
theorem Nq.of{C:aN}{x:eE}(i:ai w c 75 C.A)(e:ai w b 45 (bD x)):Nq w c b C.h x:=
 ⟨by rw[i.cell];rfl,i.frozen,i.lt,e.frozen,e.lt,by rw[e.cell];rfl,by rw[e.cell];rfl,by rw[e.cell];rfl⟩
theorem dv.weak{C C':aN}{E:Ev}{e:Int}(S:iC w0 w w' c C C' N):dv w0 w c C N (λ_ _ _=>True) (.returned (.agg (dC E e))) w':=⟨_,_,_,rfl,S,trivial⟩
theorem EN{C:aN}(h:bg w0 w c C N)(x:eE):
  Yt 175 #[Yr c,.agg (bD x)] w (dv w0 w c C N λ_ _ _=>True):=by
 obtain⟨l,z⟩:∃l,l=(w.alloc (.cells (bD x) 45)).alloc (.cells (dC Ev.zero 0) 55):=⟨_,rfl⟩;have E:=h.enter x;rw[<-z]at E;generalize γ:w.heap.size+1=r0 at E;have HW:=U9 z;have HF:=U9 (λ(Y:Yu) (hm:ah (dp C.h C.sv C.MX) l Y)=>Nq.of (hm.blk E.at_.blk E.at_.cn) (hm.blk E.B λhG=>by
  have:=E.I w.heap.size (.inr (.inr hG));omega))
 have CA:=U9 (λ(Y:Yu) (D:Ys l Y)=>(E.at_.call D).ne);have H:=U9 (show∀q,dp C.h C.sv C.MX q->q<l.heap.size from λq e=>E.at_.ne.inh q e);have O:=U9 E;clear h E z;go_enter func175,ntmps175;go_upto_region 1 with fail;generalize hg:(w.alloc _).alloc _=X0;obtain rfl:l=X0:=HW.o.trans hg;clear HW hg;refine ay [] (dp C.h C.sv C.MX) 6 H.o (by kernel_rfl) (by kernel_rfl) ?_
 iterate 6
  first
  |refine bT rfl ?_;apply aA
   ·intro _ ρ β V S W D;have e:=HF.o W D;simp[execOp,go_sem,β,V,S,e,e.ch,e.fr,e.lt,e.fb,e.lb,e.ww,e.wk,e.wj]<;>exact rfl
  |refine al (λ_=>rfl) ?_
  simp only[UW,UX,UY,UZ]
 refine bP (λ_=>rfl) rfl 189 (λ_=>#[Yr C.h,.int .i64 x.k]) (λv:Bool=>.bool v) false (λY _ Y'=>d7 w0 Y Y' C.h C.sv C.MX C.ML) (λ_ w=>by simp[execOp,go_sem]<;>rfl) (λ_ Y D=>?ca) ?_
 case ca=>
  refine(KQ (CA.o Y D) x.k).mono ?_;rintro r Y' ⟨⟨v,rfl⟩,hn⟩;exact⟨v,rfl,hn,by
   obtain⟨_,_,_,_,_,m,_⟩:=hn;exact m⟩
 simp only[UW,UX,UY,UZ]
 iterate 1
  refine bH rfl ?_;simp only[UW,UX,UY,UZ]
 refine aK (by kernel_rfl) ?_;rintro⟨_,v⟩ W2 T hR;replace T:ah (dp C.h C.sv C.MX) l W2:=T;dsimp only;simp only[U0,U1,U2,U3,Nat.reduceAdd,Nat.zero_add]at hR;obtain⟨w1,w2,R,-,g3,g4⟩:=bJ (hR 6 _ _ (by repeat (first|exact Or.inl ⟨rfl,rfl,rfl⟩|apply Or.inr))) rfl;obtain⟨s',X',L',C',i⟩:=O.o.at_.nt' (R rfl) g3 (g4.below λ_ h=>h.1 rfl);clear T hR g3 g4 R HF CA H;cases v with
 |true=>
  go_wp2_with fail;refine(cD 0 W2).mono ?_;rintro r W3 ⟨rfl,A⟩;have i:=i.call A;have j:=O.o.res i.mod;have α:=cO j rfl Ev.zero 0;have J:=U9 (O.o.o i Ev.zero 0);have lr:=j.lt;have fr:=j.frozen;clear i j;go_wp2_with fail;exact aE (s:=4) results175 rfl J.o.1 underlying55 rfl (aV _ _) rfl (dv.weak J.o.2)
 |false=>
  go_wp2_with fail;refine(cD 4 W2).mono ?_;rintro r W3 ⟨rfl,A⟩;have i:=i.call A;have j:=O.o.res i.mod;have α:=cO j rfl Ev.zero 4;have J:=U9 (O.o.o i Ev.zero 4);have lr:=j.lt;have fr:=j.frozen;clear i j;go_wp2_with fail;exact aE (s:=4) results175 rfl J.o.1 underlying55 rfl (aV _ _) rfl (dv.weak J.o.2)
theorem za{C:aN}(h:bg w0 w c C N)(x:eE):
  Yt 176 #[Yr c,.agg (bD x)] w (dv w0 w c C N λ_ _ _=>True):=by
 obtain⟨l,z⟩:∃l,l=(w.alloc (.cells (bD x) 45)).alloc (.cells (dC Ev.zero 0) 55):=⟨_,rfl⟩;have E:=h.enter x;rw[<-z]at E;generalize β:w.heap.size+1=r0 at E;have HW:=U9 z;have HF:=U9 (λ(Y:Yu) (hm:ah (dp C.h C.sv C.MX) l Y)=>Nq.of (hm.blk E.at_.blk E.at_.cn) (hm.blk E.B λhG=>by
  have:=E.I w.heap.size (.inr (.inr hG));omega))
 have CA:=U9 (λ(Y:Yu) (j:Ys l Y)=>(E.at_.call j).ne);have A:=U9 (show∀q,dp C.h C.sv C.MX q->q<l.heap.size from λq i=>E.at_.ne.inh q i);have HM:=U9 E.at_.ml;have V:=U9 E;clear h E z;go_enter func176,ntmps176;go_upto_region 1 with fail;generalize hg:(w.alloc _).alloc _=X0;obtain rfl:l=X0:=HW.o.trans hg;clear HW hg;refine eO 8 [] (dp C.h C.sv C.MX) 6 A.o (by kernel_rfl) (by simp) (by decide+kernel) (by decide+kernel) (by decide+kernel) (by decide+kernel) ?_;simp only[U4,U5,U6,U7]
 iterate 6
  first
  |refine bT rfl ?_;apply aA
   ·intro _ ρ S R J W j;have i:=HF.o W j;simp[execOp,go_sem,S,R,J,i,i.ch,i.fr,i.lt,i.fb,i.lb,i.ww,i.wk,i.wj]<;>exact rfl
  |refine al (λ_=>rfl) ?_
  simp only[UW,UX,UY,UZ]
 refine bP (λ_=>rfl) rfl 190 (λ_=>#[Yr C.h,.int .i64 x.k]) (λv:Int=>.int .i64 v) 0 (λY _ T=>d7 w0 Y T C.h C.sv C.MX C.ML) (λ_ w=>by simp[execOp,go_sem]<;>rfl) (λ_ Y j=>?ca) ?_
 case ca=>
  refine(Gl (CA.o Y j) HM.o x.k).mono ?_;rintro r T ⟨⟨v,rfl⟩,hn⟩;exact⟨v,rfl,hn,by
   obtain⟨_,_,_,_,_,m,_⟩:=hn;exact m⟩
 simp only[UW,UX,UY,UZ];refine dM (λ_=>rfl) (Vm rfl) 27 (λu=>#[.int .i64 u.2]) (λe:Int=>.agg (dC Ev.zero e)) 0 (λ_ _ _=>True) (λ_ w=>by simp[execOp,go_sem]<;>rfl) (λ_ Y j=>?cb) ?_
 case cb=>
  refine(cD _ Y).mono ?_;rintro r T ⟨rfl,j⟩;exact⟨_,rfl,trivial,j⟩
 simp only[UW,UX,UY,UZ];refine aK (by kernel_rfl) ?_;rintro⟨⟨_,v⟩,e⟩ W2 O hR;replace O:ah (dp C.h C.sv C.MX) l W2:=O;dsimp only;simp only[U0,U1,U2,U3,Nat.reduceAdd,Nat.zero_add]at hR;obtain⟨w1,w2,D,-,g3,g4⟩:=bJ (hR 6 _ _ (by repeat (first|exact Or.inl ⟨rfl,rfl,rfl⟩|apply Or.inr))) rfl;obtain⟨s',X',L',C',hS⟩:=V.o.at_.nt' (D rfl) g3 (g4.below λ_ h=>h.1 rfl);clear O hR g3 g4 D HF CA A;have H:=V.o.res hS.mod;have α:=cO H rfl Ev.zero e;have HX:=U9 (V.o.o hS Ev.zero e);have lr:=H.lt;have fr:=H.frozen;clear hS H;go_wp2_with fail;exact aE (s:=4) results176 rfl HX.o.1 underlying55 rfl (aV _ _) rfl (dv.weak HX.o.2)
theorem Qc{C:aN}(h:bg w0 w c C N)(x:eE):
  Yt 177 #[Yr c,.agg (bD x)] w (dv w0 w c C N λ_ _ _=>True):=by
 obtain⟨z,A⟩:∃z,z=(w.alloc (.cells (bD x) 45)).alloc (.cells (dC Ev.zero 0) 55):=⟨_,rfl⟩;have E:=h.enter x;rw[<-A]at E;generalize β:w.heap.size+1=r0 at E;have HW:=U9 A;have HF:=U9 (λ(Y:Yu) (hm:ah (dp C.h C.sv C.MX) z Y)=>Nq.of (hm.blk E.at_.blk E.at_.cn) (hm.blk E.B λhG=>by
  have:=E.I w.heap.size (.inr (.inr hG));omega))
 have CA:=U9 (λ(Y:Yu) (l:Ys z Y)=>(E.at_.call l).ne);have D:=U9 (show∀q,dp C.h C.sv C.MX q->q<z.heap.size from λq i=>E.at_.ne.inh q i);have HH:=U9 E;clear h E A;go_enter func177,ntmps177;go_upto_region 1 with fail;generalize hg:(w.alloc _).alloc _=X0;obtain rfl:z=X0:=HW.o.trans hg;clear HW hg;refine eO 10 [] (dp C.h C.sv C.MX) 8 D.o (by kernel_rfl) (by simp) (by decide+kernel) (by decide+kernel) (by decide+kernel) (by decide+kernel) ?_;simp only[U4,U5,U6,U7]
 iterate 8
  first
  |refine bT rfl ?_;apply aA
   ·intro _ ρ T S O W l;have i:=HF.o W l;simp[execOp,go_sem,T,S,O,i,i.ch,i.fr,i.lt,i.fb,i.lb,i.ww,i.wk,i.wj]<;>exact rfl
  |refine al (λ_=>rfl) ?_
  simp only[UW,UX,UY,UZ]
 refine bP (λ_=>rfl) rfl 191 (λ_=>#[Yr C.h,.int .i64 x.w,.int .i64 x.j]) (λv:Int=>.int .i64 v) 0 (λY _ V=>d7 w0 Y V C.h C.sv C.MX C.ML) (λ_ w=>by simp[execOp,go_sem]<;>rfl) (λ_ Y l=>?ca) ?_
 case ca=>
  refine(OD (CA.o Y l) x.w x.j).mono ?_;rintro r V ⟨⟨v,rfl⟩,hn⟩;exact⟨v,rfl,hn,by
   obtain⟨_,_,_,_,_,m,_⟩:=hn;exact m⟩
 simp only[UW,UX,UY,UZ];refine dM (λ_=>rfl) (Vm rfl) 27 (λu=>#[.int .i64 u.2]) (λe:Int=>.agg (dC Ev.zero e)) 0 (λ_ _ _=>True) (λ_ w=>by simp[execOp,go_sem]<;>rfl) (λ_ Y l=>?cb) ?_
 case cb=>
  refine(cD _ Y).mono ?_;rintro r V ⟨rfl,l⟩;exact⟨_,rfl,trivial,l⟩
 simp only[UW,UX,UY,UZ];refine aK (by kernel_rfl) ?_;rintro⟨⟨_,v⟩,e⟩ W2 R hR;replace R:ah (dp C.h C.sv C.MX) z W2:=R;dsimp only;simp only[U0,U1,U2,U3,Nat.reduceAdd,Nat.zero_add]at hR;obtain⟨w1,w2,H,-,g3,g4⟩:=bJ (hR 8 _ _ (by repeat (first|exact Or.inl ⟨rfl,rfl,rfl⟩|apply Or.inr))) rfl;obtain⟨s',X',L',C',hS⟩:=HH.o.at_.nt' (H rfl) g3 (g4.below λ_ h=>h.1 rfl);clear R hR g3 g4 H HF CA D;have J:=HH.o.res hS.mod;have α:=cO J rfl Ev.zero e;have HX:=U9 (HH.o.o hS Ev.zero e);have lr:=J.lt;have fr:=J.frozen;clear hS J;go_wp2_with fail;exact aE (s:=4) results177 rfl HX.o.1 underlying55 rfl (aV _ _) rfl (dv.weak HX.o.2)
theorem EM{C:aN}(h:bg w0 w c C N)(x:eE):
  Yt 178 #[Yr c,.agg (bD x)] w (dv w0 w c C N λ_ _ _=>True):=by
 obtain⟨e,i⟩:∃e,e=(w.alloc (.cells (bD x) 45)).alloc (.cells (dC Ev.zero 0) 55):=⟨_,rfl⟩;have E:=h.enter x;rw[<-i]at E;generalize β:w.heap.size+1=r0 at E;have J:=U9 i;have D:=U9 (λ(Y:Yu) (O:ah (dp C.h C.sv C.MX) e Y)=>Nq.of (O.blk E.at_.blk E.at_.cn) (O.blk E.B λhG=>by
  have:=E.I w.heap.size (.inr (.inr hG));omega))
 have S:=U9 (λ(Y:Yu) (hb:Ys e Y)=>(E.at_.call hb).ne);have m:=U9 (show∀q,dp C.h C.sv C.MX q->q<e.heap.size from λq hq=>E.at_.ne.inh q hq);have v:=U9 E;clear h E i;go_enter func178,ntmps178;go_upto_region 1 with fail;generalize A:(w.alloc _).alloc _=X0;obtain rfl:e=X0:=J.o.trans A;clear J A;obtain⟨ch,H,lt,-,-,-,-,-⟩:=D.o e ah.refl;have T:=U9 (KO (S.o e (Vd _ _)));clear D S m;go_wp2_with fail;refine T.o.mono ?_;rintro r W2 ⟨rfl,V⟩;obtain⟨s',X',L',C',j⟩:=v.o.at_.nt' (Vd _ _) V (Vd _ _);clear V T ch H lt;go_wp2_with fail;refine(cD 0 W2).mono ?_;rintro r W3 ⟨rfl,z⟩;have j:=j.call z;have l:=v.o.res j.mod;have α:=cO l rfl Ev.zero 0;have R:=U9 (v.o.o j Ev.zero 0);have lr:=l.lt;have H:=l.frozen;clear j l;go_wp2_with fail;exact aE (s:=4) results178 rfl R.o.1 underlying55 rfl (aV _ _) rfl (dv.weak R.o.2)
theorem bg.tm{C:aN}(h:bg w0 w c C N){t:Int}(l:aT t):iC w0 w (w.setCell ⟨c,14,none⟩ (.int .u64 t)) c C {C with now:=t} N:=by
 have m:ah (cj c) w (w.setCell ⟨c,14,none⟩ (.int .u64 t)):=ah.set ⟨c,14,none⟩ (show cj c c from rfl) _;refine⟨⟨h.blk.set_ 14 (.int .u64 t),h.n1,h.n6,λk j=>(h.si k j).mod m λq i e=>?_,h.ne.mod m (λq i e=>?_) λq e=>?_,h.ml,l,h.cb,h.xb,h.cx,h.cn,h.xx,h.xn⟩,m.mono λq e=>.inl e,λq i=>.inl i,rfl⟩
 ·have e:q=c:=e
  subst e;exact h.cx k j i
 ·have e:q=c:=e
  subst e;exact h.cn i
 ·have e:q=c:=e
  subst e;exact h.cb
structure Tp(w:Yu)(c b:Nat)(now:Int)(x:eE):Prop where
 cw:w.cell? ⟨c,14,none⟩=some (.int .u64 now)
 fr:∀i,w.frozen? ⟨c,i,none⟩=false
 lt:c<w.heap.size
 fb:∀i,w.frozen? ⟨b,i,none⟩=false
 lb:b<w.heap.size
 wn:w.cell? ⟨b,10,none⟩=some (.int .i64 x.n)
theorem Tp.of{C:aN}{x:eE}(e:ai w c 75 C.A)(i:ai w b 45 (bD x)):Tp w c b C.now x:=
 ⟨by rw[e.cell];rfl,e.frozen,e.lt,i.frozen,i.lt,by rw[i.cell];rfl⟩
theorem EL{C:aN}(h:bg w0 w c C N)(x:eE):
  Yt 173 #[Yr c,.agg (bD x)] w (dv w0 w c C N λ_ _ _=>True):=by
 obtain⟨j,O⟩:∃j,j=(w.alloc (.cells (bD x) 45)).alloc (.cells (dC Ev.zero 0) 55):=⟨_,rfl⟩;have E:=h.enter x;rw[<-O]at E;generalize η:w.heap.size+1=r0 at E;have H:=U9 O;have HF:=U9 (λ(Y:Yu) (S:Ys j Y)=>Tp.of (E.at_.call S).blk (E.B.call S));have v:=U9 E;obtain⟨cw,D,lt,T,lb,V⟩:=HF.o j (Vd _ _);have ow:aT C.now:=E.at_.nw;clear h E O;by_cases t1:x.n<0
 ·go_enter func173,ntmps173
  go_upto_region 1 with fail;generalize z:(w.alloc _).alloc _=X0;obtain rfl:j=X0:=H.o.trans z;clear H z;go_quiet (fail);have e:Ys j (j.drewN nq):=bC (Vd _ _) nq;have i:=(iC.refl v.o.at_).call e;generalize j.drewN nq=W1 at e i⊢;clear cw D lt T lb V;go_wp2_with fail;refine(cD 1 W1).mono ?_;rintro r W3 ⟨rfl,q⟩;have m:=i.call q;have l:=v.o.res m.mod;have I:=cO l rfl Ev.zero 1;have A:=U9 (v.o.o m Ev.zero 1);have lr:=l.lt;have D:=l.frozen;clear m l;go_wp2_with fail;exact aE (s:=4) results173 rfl A.o.1 underlying55 rfl (aV _ _) rfl (dv.weak A.o.2)
 by_cases t2:1099511627776<x.n
 ·go_enter func173,ntmps173
  go_upto_region 1 with fail;generalize z:(w.alloc _).alloc _=X0;obtain rfl:j=X0:=H.o.trans z;clear H z;go_quiet (fail);have e:Ys j (j.drewN nq):=bC (Vd _ _) nq;have i:=(iC.refl v.o.at_).call e;generalize j.drewN nq=W1 at e i⊢;clear cw D lt T lb V;go_wp2_with fail;refine(cD 1 W1).mono ?_;rintro r W3 ⟨rfl,q⟩;have m:=i.call q;have l:=v.o.res m.mod;have I:=cO l rfl Ev.zero 1;have A:=U9 (v.o.o m Ev.zero 1);have lr:=l.lt;have D:=l.frozen;clear m l;go_wp2_with fail;exact aE (s:=4) results173 rfl A.o.1 underlying55 rfl (aV _ _) rfl (dv.weak A.o.2)
 have e1:IntKind.u64.wrap x.n=x.n:=by rw[WW];omega
 by_cases t3:1099511627776<IntKind.u64.wrap (C.now+x.n)
 ·go_enter func173,ntmps173
  go_upto_region 1 with fail;generalize z:(w.alloc _).alloc _=X0;obtain rfl:j=X0:=H.o.trans z;clear H z;go_quiet (fail);have e:Ys j (j.drewN nq):=bC (Vd _ _) nq;have i:=(iC.refl v.o.at_).call e;generalize j.drewN nq=W1 at e i⊢;clear cw D lt T lb V;go_wp2_with fail;refine(cD 1 W1).mono ?_;rintro r W3 ⟨rfl,q⟩;have m:=i.call q;have l:=v.o.res m.mod;have I:=cO l rfl Ev.zero 1;have A:=U9 (v.o.o m Ev.zero 1);have lr:=l.lt;have D:=l.frozen;clear m l;go_wp2_with fail;exact aE (s:=4) results173 rfl A.o.1 underlying55 rfl (aV _ _) rfl (dv.weak A.o.2)
 ·go_enter func173,ntmps173
  go_upto_region 1 with fail;generalize z:(w.alloc _).alloc _=X0;obtain rfl:j=X0:=H.o.trans z;clear H z;go_quiet (fail);have e:Ys j (j.drewN nq):=bC (Vd _ _) nq;have i:=(iC.refl v.o.at_).call e;generalize j.drewN nq=W1 at e i⊢;clear cw D lt T lb V;go_upto_region 3 with fail;have γ:=U9 (λ(Y:Yu) (S:Ys W1 Y)=>HF.o Y (e.trans (S.mono e.size)));refine aP 10 (by kernel_rfl) (by simp) (by decide+kernel) (by decide+kernel) (by decide+kernel) (by decide+kernel) ?_;simp only[U4,U5,U6,U7]
  iterate 10
   first
   |refine dx rfl ?_;apply aA
    ·intro _ ρ ζ ε δ W S;have J:=γ.o W S;simp[execOp,go_sem,ζ,ε,δ,J,J.cw,J.fr,J.lt,J.fb,J.lb,J.wn,e1]<;>exact rfl
   |refine aw (λ_=>rfl) ?_
   simp only[UW,UX,UY,UZ]
  refine aH ?_;intro _ W2 β _;obtain⟨cw,D,lt,T,lb,V⟩:=γ.o W2 β;have R:=i.call β;have α:=R.trans (R.at_.tm (t:=IntKind.u64.wrap (C.now+x.n)) (JX _));clear T lb V i R;go_upto_region 4 with fail;generalize World.setCell W2 _ _=W4 at α⊢;go_wp2_with fail;refine(cD 0 W4).mono ?_;rintro r W3 ⟨rfl,q⟩;have m:=α.call q;have l:=v.o.res m.mod;have I:=cO l rfl Ev.zero 0;have A:=U9 (v.o.o m Ev.zero 0);have lr:=l.lt;have D:=l.frozen;clear m l;go_wp2_with fail;exact aE (s:=4) results173 rfl A.o.1 underlying55 rfl (aV _ _) rfl (dv.weak A.o.2)
section
variable{w w':Yu}{k n:Nat}{X:fT}{s s':cE}{p p':Pw}
theorem dl.disk(h:dl w k X n s p)(m:ah X.F w w')(i:sj w' X.F X.d s' p'):dI w k X n w' λ_ _ _=>True:=
 ⟨X,s',p',⟨m.blk h.du h.uF,h.re.mod m h.rF,m.blk h.jo h.jF,i,h.lv,h.uj,h.uF,h.jF,h.uR,h.jR,h.rF⟩,⟨rfl,rfl⟩,m.mono λq e=>.inr (.inr (.inr e)),λq e=>.inl e,trivial⟩
theorem Mm(h:dl w k X n s p){z:Int}(e:od z):Yt 192 #[Yr X.d,.int .i64 z] w λr w'=>r=.returned (.tuple #[])/\dI w k X n w' λ_ _ _=>True:=by
 rcases h.dk with⟨i,j⟩|⟨i,m,M,j,l⟩
 ·exact(Jz j z e.1 e.2).mono λr w' q=>⟨q.1,h.disk (s':=s) (p':=⟨p.dark,decide (0<=z),z⟩) q.2.2 (.inl ⟨i,q.2.1⟩)⟩
 ·exact(Jz j z e.1 e.2).mono λr w' q=>⟨q.1,h.disk (s':=s) (p':=⟨p.dark,decide (0<=z),z⟩) q.2.2 (.inr ⟨i,m,M,q.2.1,l⟩)⟩
theorem Jx{s n:cE}(h:bI w F d s n M p):Yt 82 #[Yr d] w λr w'=>r=.returned (.tuple #[])/\bI w' F d s n M ⟨true,false,p.fuse⟩/\ah F w w':=by
 obtain⟨z,l,m⟩:=h.blk;refine(PY l).mono λr w' q=>⟨q.1,h.renew q.2.2 ⟨h.ok.1,λh=>by cases h⟩ (λi v=>?_),q.2.2.mono λj e=>by have e:j=d:=e;rw[e];exact h.fd⟩
 have e:=(ai.type_eq v l).2;obtain rfl:i=z:=by simpa[kV]using e
 exact q.2.1
theorem PO(h:dl w k X n s p):Yt 82 #[Yr X.d] w λr w'=>r=.returned (.tuple #[])/\dI w k X n w' λ_ _ _=>True:=by
 rcases h.dk with⟨i,e⟩|⟨i,m,M,e,l⟩
 ·exact(Jx e).mono λr w' q=>⟨q.1,h.disk q.2.2 (.inr ⟨rfl,_,_,q.2.1,λx j=>by cases j⟩)⟩
 ·exact(Jx e).mono λr w' q=>⟨q.1,h.disk q.2.2 (.inr ⟨rfl,m,M,q.2.1,l⟩)⟩
end
structure Ts(w:Yu)(c b k d:Nat)(x:eE):Prop where
 cd:w.cell? ⟨c,1+k*2,none⟩=some (Yr d)
 fr:∀i,w.frozen? ⟨c,i,none⟩=false
 lt:c<w.heap.size
 fb:∀i,w.frozen? ⟨b,i,none⟩=false
 lb:b<w.heap.size
 wn:w.cell? ⟨b,10,none⟩=some (.int .i64 x.n)
 ls:(dR 45 (Yr b)).run prog w=.ok (.value (.agg (bD x))) w
theorem Ts.of{C:aN}{x:eE}(i:ai w c 75 C.A)(j:k<6)(e:ai w b 45 (bD x)):Ts w c b k (C.X k).d x:=
 ⟨by rw[i.cell];exact zb _ _ _ _ _ k j,i.frozen,i.lt,e.frozen,e.lt,by rw[e.cell];rfl,fB e⟩
theorem ME{C:aN}(h:bg w0 w c C N){x:eE}(ox:x.ok)(z:k<6)(hx:x.w=(k:Int)+1):
  Yt 179 #[Yr c,.agg (bD x)] w (dv w0 w c C N λ_ _ _=>True):=by
 obtain⟨i,A⟩:∃i,i=(w.alloc (.cells (bD x) 45)).alloc (.cells (dC Ev.zero 0) 55):=⟨_,rfl⟩;have E:=h.enter x;rw[<-A]at E;generalize γ:w.heap.size+1=r0 at E;have HW:=U9 A;have CW:=U9 (λW=>rX (c:=c) z x hx W);have T:=U9 (λ(Y:Yu) (hm:ah (C.X k).G i Y)=>Ts.of (hm.blk E.at_.blk (E.at_.cx k z)) z (hm.blk E.B λhG=>by
  have:=E.I w.heap.size (.inr (.inl ⟨k,z,hG⟩));omega))
 have CA:=U9 (λ(Y:Yu) (v:Ys i Y)=>Mm ((E.at_.si k z).call v) ox.n);have O:=U9 (show∀q,(C.X k).G q->q<i.heap.size from λq e=>(E.at_.si k z).inh q e);have V:=U9 E;clear h E A;go_enter func179,ntmps179;go_upto_region 1 with fail;generalize hg:(w.alloc _).alloc _=X0;obtain rfl:i=X0:=HW.o.trans hg;clear HW hg;refine ay [] (C.X k).G 8 O.o (by kernel_rfl) (by kernel_rfl) ?_
 iterate 2
  first
  |refine bT rfl ?_;apply aA
   ·intro _ ρ D l j W v;have e:=T.o W v;simp[execOp,go_sem,D,l,j,e,e.ls,e.fb,e.lb]<;>exact rfl
  |refine al (λ_=>rfl) ?_
  simp only[UW,UX,UY,UZ]
 refine cU (λ_=>rfl) (Vm rfl) 183 (λ_=>#[Yr c,.agg (bD x)]) (.pointer (some ⟨c,1+k*2,none⟩)) (λ_ w=>by simp[execOp,go_sem]<;>rfl) (λ_ Y _=>CW.o Y) ?_;simp only[UW,UX,UY,UZ]
 iterate 5
  first
  |refine bT rfl ?_;apply aA
   ·intro _ ρ D l j W v;have e:=T.o W v;simp[execOp,go_sem,D,l,j,e,e.cd,e.fr,e.lt,e.fb,e.lb,e.wn]<;>exact rfl
  |refine al (λ_=>rfl) ?_
  simp only[UW,UX,UY,UZ]
 refine bP (λ_=>rfl) rfl 192 (λ_=>#[Yr ((C.X k).d),.int .i64 x.n]) (λ_:Unit=>.tuple #[]) () (λY _ Y'=>dI Y k (C.X k) N Y' λ_ _ _=>True) (λ_ w=>by simp[execOp,go_sem]<;>rfl) (λ_ Y v=>?ca) ?_
 case ca=>
  refine(CA.o Y v).mono ?_;rintro r Y' ⟨rfl,hT⟩;exact⟨(),rfl,hT,by
   obtain⟨_,_,_,_,_,m,_⟩:=hT;exact m⟩
 simp only[UW,UX,UY,UZ];refine aK (by kernel_rfl) ?_;rintro⟨_,_⟩ W2 S hR;replace S:ah (C.X k).G i W2:=S
 try dsimp only
 simp only[U0,U1,U2,U3,Nat.reduceAdd,Vk]at hR;obtain⟨w1,w2,J,-,g3,g4⟩:=bJ (hR 8 _ _ (by repeat (first|exact Vs ⟨rfl,rfl,rfl⟩|apply Vr))) rfl;obtain⟨X',s',p',H,-⟩:=(V.o.at_.call (J rfl)).site' (Vc _) z g3;replace H:=(H.pre (J rfl)).call (g4.below λ_ h=>h.1 rfl);clear S hR g3 g4 J T CA O CW;go_wp2_with fail;refine(cD 0 W2).mono ?_;rintro r W3 ⟨rfl,α⟩;have H:=H.call α;have R:=V.o.res H.mod;have β:=cO R rfl Ev.zero 0;have HX:=U9 (V.o.o H Ev.zero 0);have lr:=R.lt;have fr:=R.frozen;clear H R;go_wp2_with fail;exact aE (s:=4) results179 rfl HX.o.1 underlying55 rfl (aV _ _) rfl (dv.weak HX.o.2)
theorem P6{C:aN}(h:bg w0 w c C N){x:eE}(m:k<6)(hx:x.w=(k:Int)+1):
  Yt 180 #[Yr c,.agg (bD x)] w (dv w0 w c C N λ_ _ _=>True):=by
 obtain⟨l,e⟩:∃l,l=(w.alloc (.cells (bD x) 45)).alloc (.cells (dC Ev.zero 0) 55):=⟨_,rfl⟩;have E:=h.enter x;rw[<-e]at E;generalize α:w.heap.size+1=r0 at E;have R:=U9 e;have T:=U9 (λW=>rX (c:=c) m x hx W);have A:=fB E.B;have z:=U9 E;have fb:=E.B.frozen;have lb:=E.B.lt;clear h E e;go_enter func180,ntmps180;go_upto_region 1 with fail;generalize H:(w.alloc _).alloc _=X0;obtain rfl:l=X0:=R.o.trans H;clear R H;go_wp2_with fail;refine(T.o l).mono ?_;rintro r W1 ⟨rfl,j⟩;have q:=z.o.at_.call j;obtain⟨cd,-,-,-,-,J,lt⟩:=q.rd m;have I:=U9 (PO (q.si k m));have O:=U9 (Vb q j);clear q j A fb lb T;go_wp2_with fail;refine I.o.mono ?_;rintro r W2 ⟨rfl,V⟩;obtain⟨X',s',p',i,-⟩:=O.o.1.site' (Vc _) m V;replace i:=i.pre O.o.2;clear V cd J lt I;go_wp2_with fail;refine(cD 0 W2).mono ?_;rintro r W3 ⟨rfl,D⟩;have i:=i.call D;have v:=z.o.res i.mod;have Y:=cO v rfl Ev.zero 0;have S:=U9 (z.o.o i Ev.zero 0);have lr:=v.lt;have J:=v.frozen;clear i v;go_wp2_with fail;exact aE (s:=4) results180 rfl S.o.1 underlying55 rfl (aV _ _) rfl (dv.weak S.o.2)
end
section
open Go.RowKit Go
attribute [local go_sem ↓ high] jp
def Qk(w0 w:Yu)(h:Nat)(s:Yv)(X:List Mc)(L:List Ms)(v:Yv)(w':Yu):Prop:=
 ∃(x:Mt) (b:Bool),v=.tuple #[.agg (kT x),.bool b]/\ah (dp h s X) w w'/\(∃s' X' L' C',dK w0 w' [] h s' X' L' C'/\s'.ownBlock=s.ownBlock/\(∀y∈X',y∈X)/\∀m∈L',m∈L)/\
  (b=true->x.m∈L/\x.m.ok/\w'.ownsRow w0.heap.size 53 14 (.slice x.A x.m.l.length x.c) x.m.l.length (dH x.m.l)/\∃y∈X,Value.slice x.A x.m.l.length x.c=y.s)
theorem KM{h:Nat}{s:Yv}{X:List Mc}{L:List Ms}{C:Nat->Bool}(N:dK w0 w [] h s X L C)(k:Int):Yt 187 #[Yr h,.int .i64 k] w λe w'=>∃v:Mt×Bool,e=.returned (.tuple #[.agg (kT v.1),.bool v.2])/\Qk w0 w h s X L (.tuple #[.agg (kT v.1),.bool v.2]) w':=by
 have V:=N.evs.len;by_cases D:0<=k/\k<(X.length:Int)
 ·obtain⟨i,rfl⟩:∃i:Nat,k=i:=⟨k.toNat,by omega⟩
  have B:i<L.length:=by omega
  have z:=Ve B;obtain⟨_,_,j⟩:=N.evs.get z;refine(rK i _ z N).mono λe w' ⟨u,R,l,⟨s',X',T,J,S,H⟩,y,O,e⟩=>?_
  obtain⟨A,c,rfl,-⟩:=aF l;exact⟨(⟨L[i],A,c⟩,true),R,⟨L[i],A,c⟩,true,rfl,ah.of_fr J (.inl rfl) (λq I=>.inr (.inl I)),⟨s',X',_,_,T,S,H,λm j=>Yg j⟩,λ_=>⟨List.getElem_mem B,j.ok,l,y,O,e⟩⟩
 ·obtain⟨A,c,rfl,-⟩:=aF N.own
  refine(pJ k A X.length c N.blk (Vj D)).mono λe w' q=>⟨(⟨Ms.zero,none,0⟩,false),q.1,⟨Ms.zero,none,0⟩,false,rfl,ah.of_below q.2,⟨_,X,L,C,N.call q.2,rfl,λ_ h=>h,λ_ h=>h⟩,λh=>by cases h⟩
theorem dK.since{W:Yu}{h B:Nat}{s:Yv}{X:List Mc}{L:List Ms}{C:Nat->Bool}{l:Nat->Prop}(N:dK w0 w2 [] h s X L C)(g:cR [297] l B w2 W)(hF:∀q,¬l q)(H:w0.heap.size<=B)(I:∀q,s.ownBlock=some q->q<B):
  dK w0 W [] h s X L C/\ah (λq=>B<=q/\Fp [297] w2 q) w2 W:=by
 have m:ah (λq=>B<=q/\Fp [297] w2 q) w2 W:=⟨g.os,g.tape,g.output,g.size,λk A O=>by
  rcases g.block k A with h|⟨v,D,-⟩|h
  ·exact h
  ·exact absurd ⟨v,D⟩ O
  ·exact absurd h (hF k)⟩
 refine⟨N.mod m (λq hq J=>?_) λq hq=>Vi H hq.1,m⟩;obtain⟨v,cs,t,R,i⟩:=J;rw[VH.1 R]at i;rcases hq with rfl|hq|⟨x,hx,hq⟩
 ·exact absurd (ai.type_eq i N.blk).1 (by decide)
 ·have:=I q hq;omega
 ·obtain⟨S,-,z⟩:=N.evs.left hx
  rcases z.own.2 with⟨e,-⟩|⟨T,cap,cur,e,-,j,-⟩
  ·rw[e]at hq;cases hq
  ·rw[e]at hq
   injection hq with hq;subst hq;exact absurd (ai.type_eq i j).1 (by decide)
theorem yJ(x:Mt):(kT x).all (·.oneCell')=true:=by simp[kT,aR,Mt.mc,Ms.mc,Value.oneCell']
theorem sD(x:Mt):(prog.info? 297).map (·.size)=some (kT x).size:=yr _
structure Ra(w:Yu)(c g k u:Nat)(now:Int)(x:Mt):Prop where
 cu:w.cell? ⟨c,1+k*2+1,none⟩=some (Yr u)
 cw:w.cell? ⟨c,14,none⟩=some (.int .u64 now)
 fr:∀i,w.frozen? ⟨c,i,none⟩=false
 lt:c<w.heap.size
 fg:∀i,w.frozen? ⟨g,i,none⟩=false
 lg:g<w.heap.size
 gt:w.cell? ⟨g,2,none⟩=some (.int .i64 ((k:Int)+1))
 lm:(dR 297 (Yr g)).run prog w=.ok (.value (.agg (kT x))) w
theorem Ra.of{C:aN}{x:Mt}(e:ai w c 75 C.A)(j:k<6)(i:ai w g 297 (kT x))(l:x.m.t=(k:Int)+1):Ra w c g k (C.X k).u C.now x:=
 ⟨by rw[e.cell];exact qp _ _ _ _ _ k j,by rw[e.cell];rfl,e.frozen,e.lt,i.frozen,i.lt,by rw[i.cell,<-l];rfl,uV i⟩
theorem rY{C:aN}(h:bg w0 w c C N)(hN:N+64<=900000)(hT:dh w)(hK:1<w0.heap.size/\0<w0.heap.size)(x:eE):
  Yt 174 #[Yr c,.agg (bD x)] w (dv w0 w c C (N+64) λ_ _ _=>True):=by
 obtain⟨W0,κ⟩:∃W0,W0=(w.alloc (.cells (bD x) 45)).alloc (.cells (dC Ev.zero 0) 55):=⟨_,rfl⟩;have E:=h.enter x;rw[<-κ]at E;generalize hb0:w.heap.size+1=r0 at E;have HW:=U9 κ;have HF:=U9 (λ(Y:Yu) (hm:ah (dp C.h C.sv C.MX) W0 Y)=>Nq.of (hm.blk E.at_.blk E.at_.cn) (hm.blk E.B λhG=>by
  have:=E.I w.heap.size (.inr (.inr hG));omega))
 have CA:=U9 (λ(Y:Yu) (i:Ys W0 Y)=>KM (E.at_.call i).ne x.k);have J:=U9 (show∀q,dp C.h C.sv C.MX q->q<W0.heap.size from λq hq=>E.at_.ne.inh q hq);have HT:=U9 (hT.call' E.D);have S:=U9 E;clear h E κ hT;go_enter func174,ntmps174;go_upto_region 1 with fail;generalize hg:(w.alloc _).alloc _=X0;obtain rfl:W0=X0:=HW.o.trans hg;clear HW hg;refine ay [297] (dp C.h C.sv C.MX) 6 J.o (by kernel_rfl) (by kernel_rfl) ?_
 iterate 6
  first
  |refine bT rfl ?_;apply aA
   ·intro _ ρ γ V α W i;have hq:=HF.o W i;simp[execOp,go_sem,γ,V,α,hq,hq.ch,hq.fr,hq.lt,hq.fb,hq.lb,hq.wk]<;>exact rfl
  |refine al (λ_=>rfl) ?_
  simp only[UW,UX,UY,UZ]
 refine bP (λ_=>rfl) rfl 187 (λ_=>#[Yr C.h,.int .i64 x.k]) (λv:Mt×Bool=>.tuple #[.agg (kT v.1),.bool v.2]) (⟨Ms.zero,none,0⟩,false) (λY v Y'=>Qk w0 Y C.h C.sv C.MX C.ML v Y') (λ_ w=>by simp[execOp,go_sem]<;>rfl) (λ_ Y i=>?ca) ?_
 case ca=>
  refine(CA.o Y i).mono ?_;rintro r Y' ⟨v,rfl,hn⟩;exact⟨v,rfl,hn,by
   obtain⟨_,_,_,m,_⟩:=hn;exact m⟩
 simp only[UW,UX,UY,UZ]
 iterate 3
  refine bH rfl ?_;simp only[UW,UX,UY,UZ]
 refine eW (λ_=>rfl) 297 (kT ⟨Ms.zero,none,0⟩) (λ_ _=>by simp[execOp,go_sem]<;>exact rfl) ?_;simp only[UW,UX,UY,UZ];refine cZ (λ_=>rfl) 10 297 297 12 _ _ rfl (by decide) rfl (by simp) J.o _ _ _ (λ_=>rfl) (λ_=>rfl) (λ_=>by repeat (first|exact Vs ⟨rfl,rfl,rfl⟩|apply Vr)) (sD ⟨Ms.zero,none,0⟩) (λ_=>rfl) (λ_=>yJ _) ?_;simp only[UW,UX,UY,UZ]
 iterate 1
  refine bH rfl ?_;simp only[UW,UX,UY,UZ]
 refine aK (by kernel_rfl) ?_;rintro⟨⟨_,⟨y,b⟩⟩,v⟩ W2 hC hR;replace hC:ah (dp C.h C.sv C.MX) W0 W2:=hC
 try dsimp only
 simp only[U0,U1,U2,U3,Nat.reduceAdd,Vk]at hR;obtain⟨w1,w2,δ,-,⟨y',b',he,hm2,⟨s',X',L',C',n1,n2,n3,n4⟩,υ⟩,g4⟩:=bJ (hR 6 _ _ (by repeat (first|exact Vs ⟨rfl,rfl,rfl⟩|apply Vr))) rfl;obtain⟨g,v',hx,n6,B6⟩:∃g v',[v,Value.agg (kT y)]=[Yr g,v']/\W0.heap.size<=g/\ai W2 g 297 (Value.toArr v'):=hR 11 _ _ (by repeat (first|exact Vs ⟨rfl,rfl,rfl⟩|apply Vr));injection hx with h6 μ;injection μ with μ;subst h6 μ;replace B6:ai W2 g 297 (kT y):=B6;obtain⟨hy,rfl⟩:kT y=kT y'/\b=b':=by
  injection he with he;injection he with he;injection he with h1 h2;injection h2 with h2 _;injection h1 with h1;injection h2 with h2;exact⟨h1,h2⟩
 rw[hy]at B6;obtain⟨n5,Ψ⟩:=n1.since g4 (λ_ h=>h.1 rfl) S.o.at_.ne.T.below.size (λq hq=>J.o q (.inr (.inl (n2▸hq))));have θ:∀q,dp C.h s' X' q->dp C.h C.sv C.MX q:=λq hq=>by
  rcases hq with hq|hq|⟨z,hz,hq⟩
  ·exact .inl hq
  ·exact .inr (.inl (n2▸hq))
  ·exact .inr (.inr ⟨z,n3 z hz,hq⟩)
 obtain⟨sn,Xn,Ln,cn,H⟩:=S.o.at_.nt ⟨s',X',L',C',n5,hC,λq hq=>.inl (θ q hq),λm hm=>.inl (n4 m hm)⟩;have β:b=true->dr W2 0 (.slice y'.A y'.m.l.length y'.c) y'.m.l/\(y'.m∈C.ML/\y'.m.ok)/\∀q,(Value.slice y'.A y'.m.l.length y'.c).ownBlock=some q->dp C.h C.sv C.MX q:=λi=>by
  obtain⟨z1,z2,z3,z,z4,z5⟩:=υ i;have ho:∀q,(Value.slice y'.A y'.m.l.length y'.c).ownBlock=some q->dp C.h C.sv C.MX q:=λq hq=>.inr (.inr ⟨z,z4,z5▸hq⟩)
  refine⟨Row.mono (show dr W2 w0.heap.size _ _ from Ψ.own z3 λq hq hG=>?_) (VX _),⟨z1,z2⟩,ho⟩;have:=J.o q (ho q hq);have:=hG.1;omega
 have σ:∀j,j<6->¬(C.X j).G g:=λj hj hG=>by
  have:=(S.o.at_.si j hj).inh g hG;omega
 have HT2:=U9 (HT.o.mod hC (λhq=>by have:=S.o.at_.ne.base _ hq;omega) (λhq=>by have:=S.o.at_.ne.base _ hq;omega));clear hC hR g4 δ HF CA J he υ n1 n2 n3 n4 n5 n6 hm2 Ψ θ hy;cases b with
 |false=>
  clear β;go_wp2_with fail;refine(cD 4 W2).mono ?_;rintro r W9 ⟨rfl,ι⟩;have H:=(H.more (Wa N 64)).call ι;have O:=S.o.res H.mod;have ψ:=cO O rfl Ev.zero 4;have HX:=U9 (S.o.o H Ev.zero 4);have lr:=O.lt;have fr:=O.frozen;clear H O;go_wp2_with fail;exact aE (s:=4) results174 rfl HX.o.1 underlying55 rfl (aV _ _) rfl (dv.weak HX.o.2)
 |true=>
  obtain⟨φ,⟨τ,Δ⟩,Ξ⟩:=β rfl;obtain⟨-,j,-,hj,-,-,Φ⟩:=uJ (S.o.at_.ml _ τ).2;have h1:=H.at_;have π:=U9 (λ(Y:Yu) (hm:ah (C.X j).G W2 Y)=>(show Ra Y c g j (C.X j).u C.now y' from Ra.of (C:=C.nt sn Xn Ln cn) (hm.blk h1.blk (h1.cx j hj)) hj (hm.blk B6 (σ j hj)) Φ));have Θ:=U9 (λ(Y:Yu) (hm:Ys W2 Y)=>π.o Y (ah.of_below hm));have hw:IntKind.i64.wrap (j:Int)=j:=VE _ (by omega);have χ:(0:Int)<=(j:Int):=by omega
  have Ω:(j:Int)<6:=by omega
  have H1:=U9 (Vb H (Vb φ (Vb Δ (Vb Ξ B6))));clear h1 φ τ Δ Ξ H B6 β Φ σ;go_upto_region 4 with fail;refine bS (by kernel_rfl) (by kernel_rfl) ?_
  iterate 8
   first
   |refine dx rfl ?_;apply aA
    ·intro _ ρ γ V α W i;have hq:=Θ.o W i;simp[execOp,go_sem,γ,V,α,hq,hq.fr,hq.lt,hq.fg,hq.lg,hq.gt,hw,χ,Ω]<;>exact rfl
   |refine aw (λ_=>rfl) ?_
   simp only[UW,UX,UY,UZ]
  refine aH ?_;intro _ W3 ζ;have h3:=H1.o.1.at_.call ζ;obtain⟨b,i⟩:∃b,C.up j=b:=⟨_,rfl⟩;have CU:=U9 (AT h3 hj (show _=b from i));have ε:=U9 (H1.o.1.call ζ);have η:=U9 (Vb ζ i);clear h3 ζ Θ hw χ Ω;cases b with
  |false=>
   go_wp2_with (go_at_call 16;refine CU.o.mono ?_;rintro r W4 ⟨rfl,rfl⟩);refine(cD 8 W3).mono ?_;rintro r W9 ⟨rfl,ι⟩;have H:=(ε.o.more (Wa N 64)).call ι;have O:=S.o.res H.mod;have ψ:=cO O rfl Ev.zero 8;have HX:=U9 (S.o.o H Ev.zero 8);have lr:=O.lt;have fr:=O.frozen;clear H O;go_wp2_with fail;exact aE (s:=4) results174 rfl HX.o.1 underlying55 rfl (aV _ _) rfl (dv.weak HX.o.2)
  |true=>
   go_upto_region 7 with(go_at_call 16;refine CU.o.mono ?_;rintro r W4 ⟨rfl,rfl⟩);have h3:=ε.o.at_;have ν:dl W3 j (C.X j) N (C.s j) (C.p j):=h3.si j hj;have ξ:(C.p j).dark=false/\(C.X j).dead=false:=by
    have:=η.o.2;unfold aN.up at this;simpa using this
   have Γ:=U9 (λ(Y:Yu) (hm:ah (C.X j).G W3 Y)=>π.o Y ((ah.of_below η.o.1).trans hm));have ω:tz ((C.X j).R.F (C.X j).r):=⟨λhq=>by have:=h3.xb j hj _ (.inr (.inr (.inl hq)));omega,λhq=>by have:=h3.xb j hj _ (.inr (.inr (.inl hq)));omega⟩;have CA:=U9 (λ(Y:Yu) (i:Ys W3 Y)=>(show Yt 188 #[Yr ((C.X j).u),.agg (kT y'),.int .u64 C.now] Y (yd Y j (C.X j) N)from Ml (ν.call i) ξ.2 ξ.1 hN ((HT2.o.call' η.o.1).call' i) ω H1.o.2.2.1 ((Row.call H1.o.2.1 η.o.1).call i) (λq hq hF=>S.o.at_.xn j hj q (.inr (.inr (.inl hF))) (H1.o.2.2.2.1 q hq))));have J:=U9 (show∀q,(C.X j).G q->q<W3.heap.size from λq hq=>ν.inh q hq);clear h3 ν ξ ω CU;refine eO 11 [] (C.X j).G 9 J.o (by kernel_rfl) (by simp) (by decide+kernel) (by decide+kernel) (by decide+kernel) (by decide+kernel) ?_;simp only[U4,U5,U6,U7]
   iterate 9
    first
    |refine bT rfl ?_;apply aA
     ·intro _ ρ γ V α W i;have hq:=Γ.o W i;simp[execOp,go_sem,γ,V,α,hq,hq.cu,hq.cw,hq.fr,hq.lt,hq.fg,hq.lg,hq.lm]<;>exact rfl
    |refine al (λ_=>rfl) ?_
    simp only[UW,UX,UY,UZ]
   refine bP (λ_=>rfl) rfl 188 (λ_=>#[Yr ((C.X j).u),.agg (kT y'),.int .u64 C.now]) (λe:Int=>.int .i64 e) 0 (λY _ Y'=>dI Y j (C.X j) (N+64) Y' λ_ _ _=>True) (λ_ w=>by simp[execOp,go_sem]<;>rfl) (λ_ Y i=>?ca7) ?_
   case ca7=>
    refine(CA.o Y i).mono ?_;rintro r Y' ⟨e,rfl,hT⟩;exact⟨e,rfl,hT,by
     obtain⟨_,_,_,_,_,m,_⟩:=hT;exact m⟩
   simp only[UW,UX,UY,UZ];refine dM (λ_=>rfl) (Vm (by kernel_rfl)) 27 (λu=>#[.int .i64 u.2]) (λe:Int=>.agg (dC Ev.zero e)) 0 (λ_ _ _=>True) (λ_ w=>by simp[execOp,go_sem]<;>rfl) (λ_ Y i=>?cb7) ?_
   case cb7=>
    refine(cD _ Y).mono ?_;rintro r Y' ⟨rfl,i⟩;exact⟨_,rfl,trivial,i⟩
   simp only[UW,UX,UY,UZ];refine aK (by kernel_rfl) ?_;rintro⟨⟨_,v⟩,e⟩ W5 hC hR;replace hC:ah (C.X j).G W3 W5:=hC
   try dsimp only
   simp only[U0,U1,U2,U3,Nat.reduceAdd,Vk]at hR;obtain⟨w1,w2,δ,-,g3,g4⟩:=bJ (hR 9 _ _ (by repeat (first|exact Vs ⟨rfl,rfl,rfl⟩|apply Vr))) rfl;obtain⟨X',s',p',H,-⟩:=(ε.o.at_.call (δ rfl)).site' (Wa N 64) hj g3;replace H:=ε.o.trans ((H.pre (δ rfl)).call (g4.below λ_ h=>h.1 rfl));clear hC hR g3 g4 δ Γ CA J π;have O:=S.o.res H.mod;have ψ:=cO O rfl Ev.zero e;have HX:=U9 (S.o.o H Ev.zero e);have lr:=O.lt;have fr:=O.frozen;clear H O;go_wp2_with fail;exact aE (s:=4) results174 rfl HX.o.1 underlying55 rfl (aV _ _) rfl (dv.weak HX.o.2)
end
section
open Go.RowKit Go
attribute [local go_sem ↓ high] jp
theorem DP(e:Mt)(w:Yu):∃i,(eR 297 (Yr w.heap.size) (.agg (kT e))).run prog (w.alloc (.cells (aR Mc.zero) 297))=.ok .skip i/\ai i w.heap.size 297 (kT e)/\Ys w i:=by
 have B:ai (w.alloc (.cells (aR Mc.zero) 297)) w.heap.size 297 (aR Mc.zero):=ai.new _ _ _;exact⟨_,bX B (sD e) rfl (yJ e),ax B _,Below.rowN ((Vd _ _).alloc (Vc _) _) (Vc _) _⟩
theorem tj(ρ:Yx->Yv)(dst:Option Tmp)(x y:Yx)(ty:Yw)(pos:String)(after:Array Edge)(guard:Option (Nat×Bool)):execOp ρ {dst,op:=.store 297 x y,type:=ty,pos,after,guard}=eR 297 (ρ x) (ρ y):=by simp[execOp,eR]
attribute [local go_sem ↓ high] tj
structure To(w:Yu)(c k u:Nat)(now:Int):Prop where
 cu:w.cell? ⟨c,1+k*2+1,none⟩=some (Yr u)
 cw:w.cell? ⟨c,14,none⟩=some (.int .u64 now)
 fr:∀i,w.frozen? ⟨c,i,none⟩=false
 lt:c<w.heap.size
theorem To.of{C:aN}(e:ai w c 75 C.A)(i:k<6):To w c k (C.X k).u C.now:=
 ⟨by rw[e.cell];exact qp _ _ _ _ _ k i,by rw[e.cell];rfl,e.frozen,e.lt⟩
structure Q9(w:Yu)(c g h:Nat)(x:Mt):Prop where
 ch:w.cell? ⟨c,13,none⟩=some (Yr h)
 fr:∀i,w.frozen? ⟨c,i,none⟩=false
 lt:c<w.heap.size
 fg:∀i,w.frozen? ⟨g,i,none⟩=false
 lg:g<w.heap.size
 lm:(dR 297 (Yr g)).run prog w=.ok (.value (.agg (kT x))) w
theorem Q9.of{C:aN}{x:Mt}(e:ai w c 75 C.A)(i:ai w g 297 (kT x)):Q9 w c g C.h x:=⟨by rw[e.cell];rfl,e.frozen,e.lt,i.frozen,i.lt,uV i⟩
theorem MD{C:aN}(h:bg w0 w c C N)(hN:N<=100000){x:eE}(hk:k<6)(hx:x.w=(k:Int)+1):
  Yt 172 #[Yr c,.agg (bD x)] w (dv w0 w c C N λ_ _ _=>True):=by
 obtain⟨W0,η⟩:∃W0,W0=(w.alloc (.cells (bD x) 45)).alloc (.cells (dC Ev.zero 0) 55):=⟨_,rfl⟩;have E:=h.enter x;rw[<-η]at E;generalize Ω:w.heap.size+1=r0 at E;have HW:=U9 η;have CW:=U9 (λW=>rX (c:=c) hk x hx W);obtain⟨b,I⟩:∃b,C.up k=b:=⟨_,rfl⟩;have ξ:=fB E.B;have fb:=E.B.frozen;have lb:=E.B.lt;have HH:=U9 E;clear h E η;go_enter func172,ntmps172;go_upto_region 1 with fail;generalize hg:(w.alloc _).alloc _=X0;obtain rfl:W0=X0:=HW.o.trans hg;clear HW hg;go_wp2_with fail;refine(CW.o W0).mono ?_;rintro r S ⟨rfl,D⟩;have h1:=HH.o.at_.call D;have CU:=U9 (AT h1 hk (show _=b from I));have O:=U9 ((iC.refl HH.o.at_).call D);have HB:=U9 (Vb D I);clear ξ fb lb CW h1 D;cases b with
 |false=>
  go_wp2_with (go_at_call 16;refine CU.o.mono ?_;rintro r W2 ⟨rfl,rfl⟩);refine(cD 8 S).mono ?_;rintro r W2 ⟨rfl,Γ⟩;have H:=O.o.call Γ;have Br:=HH.o.res H.mod;have χ:=cO Br rfl Ev.zero 8;have T:=U9 (HH.o.o H Ev.zero 8);have lr:=Br.lt;have fr:=Br.frozen;clear H Br;go_wp2_with fail;exact aE (s:=4) results172 rfl T.o.1 underlying55 rfl (aV _ _) rfl (dv.weak T.o.2)
 |true=>
  go_upto_region 4 with(go_at_call 16;refine CU.o.mono ?_;rintro r W2 ⟨rfl,rfl⟩);have h1:=O.o.at_;have ι:=h1.si k hk;have υ:(C.X k).dead=false:=by
   have:=HB.o.2;unfold aN.up at this;simp at this;exact this.2
  have HF:=U9 (λ(Y:Yu) (hm:ah (C.X k).G S Y)=>To.of (hm.blk h1.blk (h1.cx k hk)) hk);have CA:=U9 (λ(Y:Yu) (I:Ys S Y)=>Mk (ι.call I) υ hN h1.nw);have V:=U9 (show∀q,(C.X k).G q->q<S.heap.size from λq z=>ι.inh q z);clear h1 ι υ CU;refine ay [] (C.X k).G 8 V.o (by kernel_rfl) (by kernel_rfl) ?_
  iterate 8
   first
   |refine bT rfl ?_;apply aA
    ·intro _ ρ J δ ζ W I;have z:=HF.o W I;simp[execOp,go_sem,J,δ,ζ,z,z.cu,z.cw,z.fr,z.lt]<;>exact rfl
   |refine al (λ_=>rfl) ?_
   simp only[UW,UX,UY,UZ]
  refine bP (λ_=>rfl) rfl 185 (λ_=>#[Yr ((C.X k).u),.int .u64 C.now]) (λu:Option Addr×Nat×Nat=>.slice u.1 u.2.1 u.2.2) (none,0,0) (λY v Y'=>Qw Y k (C.X k) N (.returned v) Y') (λ_ w=>by simp[execOp,go_sem]<;>rfl) (λ_ Y I=>?ca) ?_
  case ca=>
   refine(CA.o Y I).mono ?_;rintro r Y' ⟨v,L,rfl,q1,q2,q3,q4⟩;obtain⟨A2,c2,rfl,-,-⟩:=q1.sl;refine⟨(A2,L.length,c2),rfl,⟨_,L,rfl,q1,q2,q3,q4⟩,?_⟩;obtain⟨_,_,_,_,_,m,_⟩:=q4;exact m
  simp only[UW,UX,UY,UZ];refine Pb (λ_=>rfl) (by kernel_rfl) _ rfl _ (λ_=>rfl) ?_;apply Exists.intro;apply Vb
  ·intro u ρ J w
   have J:ρ (.tmp 23)=.slice u.2.1 u.2.2.1 u.2.2.2:=J;simp[execOp,go_sem,J]<;>exact rfl
  simp only[UW,UX,UY,UZ]
  iterate 1
   first
   |refine eV HF.o rfl ?_
   |refine al (λ_=>rfl) ?_
   |refine bH rfl ?_
   simp only[UW,UX,UY,UZ]
  refine aK (by kernel_rfl) ?_;rintro⟨_,⟨A2,n2,c2⟩⟩ W2 hC hR;replace hC:ah (C.X k).G S W2:=hC
  try dsimp only
  simp only[U0,U1,U2,U3,Nat.reduceAdd,Vk]at hR;obtain⟨w1,w2,D,-,⟨v,L,he,q1,q2,q3,q4⟩,g4⟩:=bJ (hR 8 _ _ (by repeat (first|exact Vs ⟨rfl,rfl,rfl⟩|apply Vr))) rfl;have α:=g4.below λ_ h=>h.1 rfl
  have θ:=(D rfl).size;injection he with he;subst he;obtain⟨A3,c3,e3,hc1,ω⟩:=q1.sl;obtain⟨rfl,rfl,rfl⟩:A2=A3/\n2=L.length/\c2=c3:=by injection e3 with a b c;exact⟨a,b,c⟩
  obtain⟨X',s',p',H,-⟩:=(O.o.at_.call (D rfl)).site' (Vc _) hk q4;replace H:=(H.pre (D rfl)).call α;have γ:ik W2 S.heap.size (.slice A2 L.length c2) L:=Row.mono (Row.call q1 α) θ;have mt:∀y∈L,qH W2 S.heap.size y:=λy hy=>⟨(q2 y hy).ok,Row.mono (Row.call (q2 y hy).row α) θ⟩
  have hcm:c2<=9223372036854775807:=ω;have σ:=U9 (O.o.trans H);have HM:=U9 (Vb γ mt);have Δ:=U9 (show∀q,dp C.h C.sv C.MX q->q<S.heap.size from λq z=>O.o.at_.ne.inh q z);have HN:=U9 (show dK w0 W2 [] C.h C.sv C.MX C.ML C.cut from H.at_.ne);have HC:=U9 (show ai W2 c 75 (C.put k X' s' p').A/\c<S.heap.size from⟨H.at_.blk,O.o.at_.blk.lt⟩);clear hC hR D q1 q2 q4 g4 α θ H γ mt HF CA e3;go_wp2_with fail
  go_loopw [25] (λi wr=>∃j:Nat,j<=L.length/\i=.int .i64 j/\d7 w0 W2 wr C.h C.sv C.MX C.ML) (λi _=>L.length-(intOf i).toNat)
  case atStart=>exact⟨0,by omega,rfl,HN.o.any⟩
  case round=>
   obtain⟨j,hj,rfl,hW⟩:=hrel;by_cases φ:j<L.length
   ·have hd:decide ((j:Int)<L.length)=true:=Vg (by omega)
    obtain⟨y,hy⟩:∃y,L[j]? =some y:=⟨L[j],Ve φ⟩;obtain⟨sn,Xn,Ln,cn,n1,n2,n3,n4⟩:=hW;obtain⟨g,cap,hs,ν,Θ,Φ,π⟩:=HM.o.1.sl_pos (by omega);obtain⟨rfl,Ξ⟩:A2=some ⟨g,0,none⟩/\c2=cap:=by injection hs with a b c;exact⟨a,c⟩
    have ε:∀q,S.heap.size<=q->¬dp C.h C.sv C.MX q:=λq h1 h2=>by have:=Δ.o q h2;omega
    have β:=n2.row HM.o.1 λq z=>ε q (HM.o.1.ge q z).1
    have ξ:=aY (P:=prog) (β.rng mp hy) underlying297 rfl (sD y);obtain⟨W3,Ψ,B3,D3⟩:=DP y wr;have hg2:g<wr.heap.size:=Vq π n2.size;have R:=Vn hy;have τ:dr W3 S.heap.size (.slice y.A y.m.l.length y.c) y.m.l:=Row.call (n2.row (HM.o.2 y R).row λq z=>ε q ((HM.o.2 y R).row.ge q z).1) D3;have μ:¬dp C.h sn Xn c:=λz=>(n3 c z).elim HH.o.at_.cn λh=>by
     have:=HC.o.2;have:=HM.o.1.lt;have:=HC.o.1.lt;omega
    have Bc:=(n2.blk HC.o.1 HH.o.at_.cn).call D3;have κ:∀q,dp C.h sn Xn q->q<wr.heap.size:=λq z=>n1.inh q z
    have CA:=U9 (λ(Y:Yu) (I:Ys W3 Y)=>Ow ((n1.call D3).call I) y.m (HM.o.2 y R).ok.1 (Row.call τ I) (HM.o.2 y R).ok.2);have HF:=U9 (λ(Y:Yu) (hm:ah (dp C.h sn Xn) W3 Y)=>(show Q9 Y c wr.heap.size C.h y from Q9.of (C:=C.put k X' s' p') (hm.blk Bc μ) (hm.blk B3 λz=>by
     have:=κ _ z;omega)))
    have V:=U9 (show∀q,dp C.h sn Xn q->q<W3.heap.size from λq z=>Vq (κ q z) D3.size);have T:=U9 (Vb n2 (Vb n3 (Vb n4 D3)));clear n1 n2 n3 n4 hs ν Θ Φ π Ξ ε β B3 D3 R τ μ Bc κ hy;go_upto_region 7 with fail;refine ay [] (dp C.h sn Xn) 5 V.o (by kernel_rfl) (by kernel_rfl) ?_
    iterate 5
     first
     |refine bT rfl ?_;apply aA
      ·intro _ ρ J δ ζ W I;have z:=HF.o W I;simp[execOp,go_sem,J,δ,ζ,z,z.ch,z.fr,z.lt,z.fg,z.lg,z.lm]<;>exact rfl
     |refine al (λ_=>rfl) ?_
     simp only[UW,UX,UY,UZ]
    refine bP (λ_=>rfl) rfl 186 (λ_=>#[Yr C.h,.agg (kT y)]) (λe:Int=>.int .i64 e) 0 (λY _ Y'=>d7 w0 Y Y' C.h sn Xn Ln) (λ_ w=>by simp[execOp,go_sem]<;>rfl) (λ_ Y I=>?ca) ?_
    case ca=>
     refine(CA.o Y I).mono ?_;rintro r Y' ⟨⟨e,rfl⟩,hT⟩;exact⟨e,rfl,hT,by
      obtain⟨_,_,_,_,_,m,_⟩:=hT;exact m⟩
    simp only[UW,UX,UY,UZ];refine aK (by kernel_rfl) ?_;rintro⟨_,e⟩ W4 hC hR;replace hC:ah (dp C.h sn Xn) W3 W4:=hC
    try dsimp only
    simp only[U0,U1,U2,U3,Nat.reduceAdd,Vk]at hR;obtain⟨w1,w2,D,-,g3,g4⟩:=bJ (hR 5 _ _ (by repeat (first|exact Vs ⟨rfl,rfl,rfl⟩|apply Vr))) rfl;have HT:=U9 (d7.trans T.o.1 T.o.2.1 T.o.2.2.1 (((g3.call (g4.below λ_ h=>h.1 rfl)).pre (D rfl)).pre T.o.2.2.2));clear hC hR g3 g4 D CA HF V T;go_wp2_with fail;go_roundw
    case rel=>exact⟨j+1,by omega,by go_num,HT.o⟩
    case measure=>simp[intOf];omega
   ·obtain rfl:j=L.length:=by omega
    have hd:decide ((L.length:Int)<L.length)=false:=Vj (by omega);obtain⟨sn,Xn,Ln,cn,H⟩:=σ.o.at_.nt hW;have H:=σ.o.trans H;clear hW;go_wp2_with fail;refine(cD 0 _).mono ?_;rintro r W9 ⟨rfl,ψ⟩;have H:=H.call ψ;have Br:=HH.o.res H.mod;have χ:=cO Br rfl Ev.zero 0;have T:=U9 (HH.o.o H Ev.zero 0);have lr:=Br.lt;have fr:=Br.frozen;clear H Br;go_wp2_with fail;exact aE (s:=4) results172 rfl T.o.1 underlying55 rfl (aV _ _) rfl (dv.weak T.o.2)
end
section
open Go.RowKit Go
section
variable{P:Program}{ops:Array Oper}{Z:List Yw}{F:Nat->Prop}{W:Yu}{c:Nat}{E:List Eg}{Q:List Eg->Act->iI->Prop}{o:Oper}{rest:List Oper}{U:Type}{a:U->Act}{K:U->iI}
theorem DE(H:∀u,Region.wanted o (yielded ops (a u).tmps)=true)(v:E.length≠c)(k:Nat)(I:mi o k=true)(A:k<E.length)(f:FuncId)(args:U->Array Yv){V:Type}(j:V->Yv)(d:V)(i:Yu->Yv->Yu->Prop)(J:∀u,∀w,(execOp (a u).eval o).run P w=.ok (.enter f (args u)) w)
  (z:U->Yv) (xs:U->List Yv) (R:∀u,K u k (xs u) (z u)) (S:∀u w,ah F W w->gR Z F W c E k (xs u) (z u) w->Calls P f (args u) w λe w'=>∃p,e=.returned (j p)/\i w (j p) w'/\Ys w w')
  (h:gY P ops Z F W c (E++[.cal (λu=>∃p,u=j p) ⟨j d,d,rfl⟩ i]) Q rest (U×V) (λp=>(a p.1).put o.dst (j p.2)) (λp=>(K p.1).ins E.length (jA (a p.1) o) (j p.2))):gY P ops Z F W c E Q (o::rest) U a K:=by
 obtain⟨Y,B,h⟩:=h.more;refine⟨_,B,λu=>gB (H u) (λb w _ _ _ l O=>?_) λx T=>?_⟩;rotate_left
 ·obtain⟨p,rfl⟩:∃p,x=j p:=by simpa only[gT,dd]using T
  exact h (u,p)
 have m:=O k _ _ (R u) (eD I);rw[te A]at m;rw[J u w];refine(S u w (dN l) m).mono ?_;rintro e w' ⟨r,rfl,D,q⟩;refine⟨_,rfl,(by simp only[gT,dd];exact⟨r,rfl⟩),?_,by simp only[gS,dd,Vf v];exact q,?_⟩
 ·rw[show(b||E.length==c)=b from by simp[v]]
  cases b with
  |true=>exact(dN l).call q
  |false=>exact XC l (q.mono (Xj l))
 ·simp only[gR,dd]
  exact⟨w,w',λe=>absurd e v,dN l,D,cR.refl _ _ _ _⟩
end
theorem zY{m:az}(h:m.ok):(aW m).length<=32/\∀x∈aW m,xU x.id:=by
 refine⟨by rw[aW,Wd,jm];exact h.tr.le,λx j=>?_⟩;obtain⟨id,hid,rfl⟩:=VJ.1 j;obtain⟨y,i,e⟩:=VJ.1 ((jl m.tr).mem_iff.1 hid);exact e▸(h.tr.rg y i).1
theorem iC.tabs{M:Nat}{C C':aN}(h:bg w0 w c C M)(S:iC w0 w w' c C C' N)(i:dh w)(j:1<w0.heap.size/\0<w0.heap.size):dh w':=
 i.mod S.mod (λe=>by have:=h.base _ e;omega) λe=>by have:=h.base _ e;omega
structure Tq(w:Yu)(c b k u:Nat)(x:eE):Prop where
 cu:w.cell? ⟨c,1+k*2+1,none⟩=some (Yr u)
 fr:∀i,w.frozen? ⟨c,i,none⟩=false
 lt:c<w.heap.size
 fb:∀i,w.frozen? ⟨b,i,none⟩=false
 lb:b<w.heap.size
 ww:w.cell? ⟨b,1,none⟩=some (.int .i64 x.w)
 wj:w.cell? ⟨b,9,none⟩=some (.int .i64 x.j)
theorem Tq.of{C:aN}{x:eE}(i:ai w c 75 C.A)(j:k<6)(e:ai w b 45 (bD x)):Tq w c b k (C.X k).u x:=
 ⟨by rw[i.cell];exact qp _ _ _ _ _ k j,i.frozen,i.lt,e.frozen,e.lt,by rw[e.cell];rfl,by rw[e.cell];rfl⟩
structure Ij(w:Yu)(c g k u:Nat)(now:Int)(a:cJ):Prop where
 cu:w.cell? ⟨c,1+k*2+1,none⟩=some (Yr u)
 cw:w.cell? ⟨c,14,none⟩=some (.int .u64 now)
 fr:∀i,w.frozen? ⟨c,i,none⟩=false
 lt:c<w.heap.size
 lg:g<w.heap.size
 ak:(dR 42 (Yr g)).run prog w=.ok (.value (.agg (cQ a))) w
theorem Ij.of{C:aN}{a:cJ}(e:ai w c 75 C.A)(j:k<6)(i:ai w g 42 (cQ a)):Ij w c g k (C.X k).u C.now a:=
 ⟨by rw[e.cell];exact qp _ _ _ _ _ k j,by rw[e.cell];rfl,e.frozen,e.lt,i.lt,pQ i⟩
theorem DR(e:cJ)(w:Yu):∃i,(eR 42 (Yr w.heap.size) (.agg (cQ e))).run prog (w.alloc (.cells #[.int .u8 0,.int .u64 0,.int .i64 0,.int .i64 0,.int .u64 0,.int .u64 0] 42))=.ok .skip i/\ai i w.heap.size 42 (cQ e)/\Ys w i:=by
 have B:ai (w.alloc (.cells #[.int .u8 0,.int .u64 0,.int .i64 0,.int .i64 0,.int .u64 0,.int .u64 0] 42)) w.heap.size 42 #[.int .u8 0,.int .u64 0,.int .i64 0,.int .i64 0,.int .u64 0,.int .u64 0]:=ai.new _ _ _;exact⟨_,bX B (oG e) rfl (by simp[cQ,Value.oneCell']),ax B _,Below.rowN ((Vd _ _).alloc (Vc _) _) (Vc _) _⟩
theorem Hq{C:aN}(h:bg w0 w c C N)(hN:N+34<=100000)(hT:dh w)(hK:1<w0.heap.size/\0<w0.heap.size){x:eE}(ox:x.ok)(hk:k<6)(hx:x.w=(k:Int)+1):
  Yt 182 #[Yr c,.agg (bD x)] w (dv w0 w c C (N+34) λ_ _ _=>True):=by
 obtain⟨W0,κ⟩:∃W0,W0=(w.alloc (.cells (bD x) 45)).alloc (.cells (dC Ev.zero 0) 55):=⟨_,rfl⟩;have E:=h.enter x;rw[<-κ]at E;generalize hb0:w.heap.size+1=r0 at E;have HW:=U9 κ;have HT:=U9 (hT.call' E.D);have CW:=U9 (λW=>rX (c:=c) hk x hx W);obtain⟨b,S⟩:∃b,C.up k=b:=⟨_,rfl⟩;have σ:=fB E.B;have fb:=E.B.frozen;have lb:=E.B.lt;have HH:=U9 E;clear h E κ hT;go_enter func182,ntmps182;go_upto_region 1 with fail;generalize hg:(w.alloc _).alloc _=X0;obtain rfl:W0=X0:=HW.o.trans hg;clear HW hg;go_wp2_with fail;refine(CW.o W0).mono ?_;rintro r W1 ⟨rfl,V⟩;have h1:=HH.o.at_.call V;have CU:=U9 (AT h1 hk (show _=b from S));have ζ:=U9 ((iC.refl HH.o.at_).call V);have HB:=U9 (Vb V S);clear σ fb lb CW h1 V;cases b with
 |false=>
  go_wp2_with (go_at_call 16;refine CU.o.mono ?_;rintro r W2 ⟨rfl,rfl⟩);refine(cD 8 W1).mono ?_;rintro r W2 ⟨rfl,ι⟩;have l:=(ζ.o.more (Wa N 34)).call ι;have I:=HH.o.res l.mod;have θ:=cO I rfl Ev.zero 8;have T:=U9 (HH.o.o l Ev.zero 8);have lr:=I.lt;have fr:=I.frozen;clear l I;go_wp2_with fail;exact aE (s:=4) results182 rfl T.o.1 underlying55 rfl (aV _ _) rfl (dv.weak T.o.2)
 |true=>
  go_upto_region 4 with(go_at_call 16;refine CU.o.mono ?_;rintro r W2 ⟨rfl,rfl⟩);have h1:=ζ.o.at_;have ν:=h1.si k hk;have H:(C.p k).dark=false/\(C.X k).dead=false:=by
   have:=HB.o.2;unfold aN.up at this;simpa using this
  have HF:=U9 (λ(Y:Yu) (hm:ah cM W1 Y)=>Tq.of ((h1.call hm.no).blk) hk ((HH.o.stp (ah.of_below HB.o.1)).call hm.no));have CS:=U9 (λ(Y:Yu) (hm:ah cM W1 Y)=>yW (ν.call hm.no) (show N<=900000 by omega));have HU:=U9 H;obtain⟨m,hm⟩:∃m,(C.X k).R.m=m:=⟨_,rfl⟩;have HO:=U9 (zY (hm▸ν.re.ok));rw[hm]at CS;clear h1 ν H CU;refine ay [] cM 15 (λ_ h=>h.elim) (by kernel_rfl) (by kernel_rfl) ?_
  iterate 4
   first
   |refine bT rfl ?_;apply aA
    ·intro _ ρ ε α β W S;have z:=HF.o W S;simp[execOp,go_sem,ε,α,β,z,z.cu,z.fr,z.lt]<;>exact rfl
   |refine al (λ_=>rfl) ?_
   simp only[UW,UX,UY,UZ]
  refine dM (λ_=>rfl) (Vm rfl) 17 (λ_=>#[Yr ((C.X k).u)]) (λv:Yv×Yv=>.agg (cy m.inn m.kn v.1 v.2)) (.nilFunc,.nilFunc) (λY v Y'=>∃vN vG,v=.agg (cy m.inn m.kn vN vG)/\eM Y' Y.heap.size vN (aW m)) (λ_ w=>by simp[execOp,go_sem]<;>rfl) (λ_ Y S=>?ca) ?_
  case ca=>
   refine(CS.o Y S).mono ?_;rintro r Y' ⟨vN,vG,rfl,q1,-,q2⟩;exact⟨(vN,vG),rfl,⟨vN,vG,rfl,q1⟩,q2⟩
  simp only[UW,UX,UY,UZ]
  iterate 4
   first
   |refine bT rfl ?_;apply aA
    ·intro _ ρ ε α β W S;have z:=HF.o W S;simp[execOp,go_sem,ε,α,β,z,z.fb,z.lb,z.ww,z.wj]<;>exact rfl
   |refine al (λ_=>rfl) ?_
   simp only[UW,UX,UY,UZ]
  refine DE (λ_=>rfl) (Vm rfl) 4 (by decide) (VZ rfl) 194 (λu=>#[.agg (cy m.inn m.kn u.2.1 u.2.2),.int .i64 x.w,.int .i64 x.j]) (λu:Option Addr×Nat×Nat×Int=>.tuple #[.slice u.1 u.2.1 u.2.2.1,.int .i64 u.2.2.2]) (none,0,0,0) (λY v Y'=>Fk (aW m) Y (.returned v) Y') (λ_ w=>by simp[execOp,go_sem]<;>rfl) (λu=>.agg (cy m.inn m.kn u.2.1 u.2.2)) _ (λ_=>by repeat (first|exact Vs ⟨rfl,rfl,rfl⟩|apply Vr)) (λu X S hR=>?cb) ?_
  case cb=>
   simp only[U0,U1,U2,U3,Nat.reduceAdd,Vk]at hR;obtain⟨w1,w2,-,g2,⟨vN,vG,hv,q1⟩,g4⟩:∃w1 w2,(4=15->Ys W1 w1)/\ah cM W1 w1/\(∃vN vG,Value.agg (cy m.inn m.kn u.2.1 u.2.2)=.agg (cy m.inn m.kn vN vG)/\eM w2 w1.heap.size vN (aW m))/\cR [] (λk=>4≠15/\cM k) W1.heap.size w2 X:=hR;obtain⟨rfl,rfl⟩:=yq hv;have ι:=g4.below λ_ h=>h.2
   refine(K0 (Row.call q1 ι) (Vi HO.o.1 (by decide)) HO.o.2 x.w x.j ox.j).mono ?_;rintro r Y' ⟨v,L,e,rfl,k1,k2,k3,k4⟩;obtain⟨A,c',rfl,-,-⟩:=k1.sl;exact⟨(A,L.length,c',e),rfl,⟨_,L,e,rfl,k1,k2,k3,k4⟩,k4⟩
  simp only[UW,UX,UY,UZ]
  iterate 5
   refine bH rfl ?_;simp only[UW,UX,UY,UZ]
  refine aK (by kernel_rfl) ?_;rintro⟨⟨_,vN,vG⟩,⟨A2,n2,c2,e⟩⟩ W2 hC hR;replace hC:Ys W1 W2:=hC
  try dsimp only
  simp only[U0,U1,U2,U3,Nat.reduceAdd,Vk]at hR;obtain⟨w1,w2,-,g2,⟨v,L,e',he,q1,q2,q3,q4⟩,g4⟩:=bJ (hR 9 _ _ (by repeat (first|exact Vs ⟨rfl,rfl,rfl⟩|apply Vr))) rfl;obtain⟨A3,c3,rfl,hc1,Δ⟩:=q1.sl;obtain⟨rfl,rfl,rfl,rfl⟩:A2=A3/\n2=L.length/\c2=c3/\e=e':=by
   injection he with he;injection he with he;injection he with he;injection he with h1 h2;injection h2 with h2 _;injection h1 with a b c;injection h2 with _ h2;exact⟨a,b,c,h2⟩
  have O:qE W2 W1.heap.size (.slice A2 L.length c2) L:=Row.mono (Row.call q1 (g4.below λ_ h=>h.2)) g2.size;have hcm:c2<=9223372036854775807:=Δ;have hL33:L.length<=33:=by have:=HO.o.1;omega
  have γ:=U9 (ζ.o.call hC);have HM:=U9 (Vb O (Vb q3 (Vb hC (Xj hC))));have ψ:=U9 ((HT.o.call' HB.o.1).call' hC);clear hC hR g2 q1 q2 q3 q4 g4 O HF CS HT he;by_cases hz:e=0
  ·subst hz
   go_wp2_with fail
   go_loopw [38] (λi wr=>∃j:Nat,j<=L.length/\i=.int .i64 j/\∃C',iC w0 W2 wr c C C' (N+j)/\(C'.p k).dark=false/\(C'.X k).dead=false) (λi _=>L.length-(intOf i).toNat)
   case atStart=>exact⟨0,by omega,rfl,C,iC.refl γ.o.at_,HU.o⟩
   case round=>
    obtain⟨j,hj,rfl,J,l,H⟩:=hrel;by_cases ω:j<L.length
    ·have hd:decide ((j:Int)<L.length)=true:=Vg (by omega)
     obtain⟨y,hy⟩:∃y,L[j]? =some y:=⟨L[j],Ve ω⟩;obtain⟨g,cap,hs,ξ,Ξ,hgb,τ⟩:=HM.o.1.sl_pos (by omega);obtain⟨rfl,Ω⟩:A2=some ⟨g,0,none⟩/\c2=cap:=by injection hs with a b c;exact⟨a,c⟩
     have O:=l.mod.row HM.o.1 λq z hG=>by
      have:=(HM.o.1.ge q z).1;have:=ζ.o.at_.inh q hG;omega
     have σ:=aY (P:=prog) (O.rng mN hy) underlying42 rfl (oG y);obtain⟨W3,hst3,B3,D3⟩:=DR y wr;have hg2:g<wr.heap.size:=Vq τ l.mod.size;have ha:=HM.o.2.1 y (Vn hy);have π:=(l.tabs γ.o.at_ ψ.o hK).call' D3;have h3:=l.at_.call D3;have μ:=h3.si k hk;have υ:∀q,wr.heap.size<=q->¬J.G c q:=λq h1 h2=>by have:=l.at_.inh q h2;omega
     have HF:=U9 (λ(Y:Yu) (hm:ah (J.X k).G W3 Y)=>(show Ij Y c wr.heap.size k (J.X k).u J.now y from Ij.of (hm.blk h3.blk (h3.cx k hk)) hk (hm.blk B3 λhG=>υ _ (Vc _) (.inr (.inl ⟨k,hk,hG⟩)))));have CA:=U9 (λ(Y:Yu) (S:Ys W3 Y)=>PQ (μ.call S) H.2 H.1 (show N+j+1<=900000 by omega) (π.call' S) ha h3.nw);have η:=U9 (show∀q,(J.X k).G q->q<W3.heap.size from λq z=>μ.inh q z);have T:=U9 (Vb l (Vb D3 h3));clear l H hs ξ Ξ hgb τ Ω O B3 D3 ha π h3 μ υ hy;go_upto_region 10 with fail;refine ay [53] (J.X k).G 9 η.o (by kernel_rfl) (by kernel_rfl) ?_
     iterate 9
      first
      |refine bT rfl ?_;apply aA
       ·intro _ ρ ε α β W S;have z:=HF.o W S;simp[execOp,go_sem,ε,α,β,z,z.cu,z.cw,z.fr,z.lt,z.lg,z.ak]<;>exact rfl
      |refine al (λ_=>rfl) ?_
      simp only[UW,UX,UY,UZ]
     refine bP (λ_=>rfl) rfl 184 (λ_=>#[Yr ((J.X k).u),.agg (cQ y),.int .u64 J.now]) (λv:Ev×Int=>.tuple #[.agg (ao v.1),.int .i64 v.2]) (Ev.zero,0) (λY v Y'=>∃M' e',v=.tuple #[.agg (ao M'),.int .i64 e']/\dI Y k (J.X k) (N+j+1) Y' (No (cH (J.X k).R.m k y).1 (cH (J.X k).R.m k y).2.1 (cH (J.X k).R.m k y).2.2 (J.s k) (J.p k) M' e')) (λ_ w=>by simp[execOp,go_sem]<;>rfl) (λ_ Y S=>?cd) ?_
     case cd=>
      refine(CA.o Y S).mono ?_;rintro r Y' ⟨e,M,rfl,hT⟩;exact⟨(M,e),rfl,⟨M,e,rfl,hT⟩,by
       obtain⟨_,_,_,_,_,m,_⟩:=hT;exact m⟩
     simp only[UW,UX,UY,UZ]
     iterate 3
      refine bH rfl ?_;simp only[UW,UX,UY,UZ]
     refine eW (λ_=>rfl) 53 (ao Ev.zero) (λ_ _=>by simp[execOp,go_sem]<;>exact rfl) ?_;simp only[UW,UX,UY,UZ];refine cZ (λ_=>rfl) 13 53 53 14 _ _ rfl (by decide) rfl (by simp) η.o _ _ _ (λ_=>rfl) (λ_=>rfl) (λ_=>by repeat (first|exact Vs ⟨rfl,rfl,rfl⟩|apply Vr)) (bY Ev.zero) (λ_=>rfl) (λ_=>kz _) ?_;simp only[UW,UX,UY,UZ]
     iterate 1
      refine bH rfl ?_;simp only[UW,UX,UY,UZ]
     refine aK (by kernel_rfl) ?_;rintro⟨⟨_,⟨M,e⟩⟩,v⟩ W4 hC hR;replace hC:ah (J.X k).G W3 W4:=hC
     try dsimp only
     simp only[U0,U1,U2,U3,Nat.reduceAdd,Vk]at hR;obtain⟨w1,w2,V,-,⟨M',e',he,g3⟩,g4⟩:=bJ (hR 9 _ _ (by repeat (first|exact Vs ⟨rfl,rfl,rfl⟩|apply Vr))) rfl;obtain⟨g9,v',Ψ,n6,B6⟩:∃g v',[v,Value.agg (ao M)]=[Yr g,v']/\W3.heap.size<=g/\ai W4 g 53 (Value.toArr v'):=hR 14 _ _ (by repeat (first|exact Vs ⟨rfl,rfl,rfl⟩|apply Vr));injection Ψ with h6 Θ;subst h6;obtain⟨rfl,rfl⟩:=yT he;obtain⟨X',s',p',r1,r2,r3,r4,-⟩:=g3.since g4 (λ_ h=>h.1 rfl) λ_ _ _ h=>h
     have χ:=(V rfl).size;obtain⟨X',s',p',l,hQ⟩:=T.o.2.2.site' (N':=N+(j+1)) (by omega) hk ⟨X',s',p',r1,r2,hC,λq z=>(r3 q z).imp id λh=>Vi χ h,r4⟩;replace l:=T.o.1.trans (l.pre T.o.2.1);have φ:=U9 l;have H:e=0->(J.put k X' s' p').p k=p'/\(J.put k X' s' p').X k=X'/\p'.dark=false/\X'.dead=false:=λh0=>⟨bG _ _ _,bG _ _ _,by
      rcases hQ.2 with⟨-,-,-,a,b,-⟩|⟨-,⟨-,-,a,b,-⟩|⟨a,-⟩,-⟩
      ·exact⟨b,a⟩
      ·exact⟨b,a⟩
      ·exact absurd h0 a⟩
     have Γ:=U9 H;clear hC hR g3 g4 n6 B6 r1 r2 r3 r4 l hQ HF CA η H he χ V Θ;by_cases hz:e=0
     ·subst hz
      go_wp2_with fail;go_roundw
      case rel=>
       refine⟨j+1,by omega,by go_num,J.put k X' s' p',φ.o,?_⟩;obtain⟨a,b,c',d⟩:=Γ.o rfl;rw[a,b];exact⟨c',d⟩
      case measure=>simp[intOf];omega
     ·have Φ:(e==0)=false:=by simpa using hz
      have l:=γ.o.trans (φ.o.more (show N+(j+1)<=N+34 by omega));go_wp2_with fail;refine(cD e _).mono ?_;rintro r W9 ⟨rfl,δ⟩;have l:=(l).call δ;have I:=HH.o.res l.mod;have θ:=cO I rfl Ev.zero e;have T:=U9 (HH.o.o l Ev.zero e);have lr:=I.lt;have fr:=I.frozen;clear l I;go_wp2_with fail;exact aE (s:=4) results182 rfl T.o.1 underlying55 rfl (aV _ _) rfl (dv.weak T.o.2)
    ·obtain rfl:j=L.length:=by omega
     have hd:decide ((L.length:Int)<L.length)=false:=Vj (by omega);have l:=γ.o.trans (l.more (show N+L.length<=N+34 by omega));clear H;go_wp2_with fail;refine(cD 0 _).mono ?_;rintro r W9 ⟨rfl,δ⟩;have l:=(l).call δ;have I:=HH.o.res l.mod;have θ:=cO I rfl Ev.zero 0;have T:=U9 (HH.o.o l Ev.zero 0);have lr:=I.lt;have fr:=I.frozen;clear l I;go_wp2_with fail;exact aE (s:=4) results182 rfl T.o.1 underlying55 rfl (aV _ _) rfl (dv.weak T.o.2)
  ·have Φ:(e==0)=false:=by simpa using hz
   go_wp2_with fail;refine(cD e W2).mono ?_;rintro r W9 ⟨rfl,δ⟩;have l:=(γ.o.more (Wa N 34)).call δ;have I:=HH.o.res l.mod;have θ:=cO I rfl Ev.zero e;have T:=U9 (HH.o.o l Ev.zero e);have lr:=I.lt;have fr:=I.frozen;clear l I;go_wp2_with fail;exact aE (s:=4) results182 rfl T.o.1 underlying55 rfl (aV _ _) rfl (dv.weak T.o.2)
theorem eE.At.zsl{x:eE}(h:x.At w):Nc w x.pa x.pk x.pc:=⟨λl=>by
 obtain⟨b,o,e,m,q⟩:=h.rd.2 (by cases j:x.pk with|nil=>exact absurd j l|cons=>simp);refine⟨b,o,e,m,λi z v=>?_⟩;have:=q i (.int .i64 z) (by rw[show cC oB x.pk=x.pk.map (λz=>Value.int .i64 z)from vx _ _,Wm,v];rfl);exact this,h.le,h.mx⟩
section
variable{w w':Yu}{k n:Nat}{X:fT}{s s':cE}{p p':Pw}{G:Nat->Prop}
theorem dl.disk2{Q:fT->cE->Pw->Prop}(h:dl w k X n s p)(m:ah X.F w w')(j:sj w' G X.d s' p')(i:∀q,G q->X.F q\/w.heap.size<=q)(z:Q {X with F:=G} s' p'):dI w k X n w' Q:=by
 have A:=h.inh;have e:∀q,X.G q->G q->X.F q:=λq v l=>(i q l).elim id λh=>by have:=A q v;omega
 exact⟨{X with F:=G},s',p',⟨m.blk h.du h.uF,h.re.mod m h.rF,m.blk h.jo h.jF,j,h.lv,h.uj,λhq=>h.uF (e _ (.inl rfl) hq),λhq=>h.jF (e _ (.inr (.inl rfl)) hq),h.uR,h.jR,λq a b=>h.rF q a (e q (.inr (.inr (.inl a))) b)⟩,⟨rfl,rfl⟩,m.mono λq hq=>.inr (.inr (.inr hq)),λq hq=>by
  rcases hq with hq|hq|hq|hq
  ·exact .inl (.inl hq)
  ·exact .inl (.inr (.inl hq))
  ·exact .inl (.inr (.inr (.inl hq)))
  ·exact(i q hq).imp (λh=>.inr (.inr (.inr h))) id,z⟩
theorem MA{s n:cE}(h:bI w F d s n M p)(i:p.dark=false)(v:Yv):Yt 193 #[Yr d,v] w λr w'=>r=.returned (.int .i64 3)/\Ys w w':=by
 obtain⟨A,e,-⟩:=h.blk;obtain⟨j,z,q⟩:=p;obtain rfl:j=false:=i;obtain⟨m,B⟩:=e.rules;have l:=e.lt;clear h e;go_enter func193,ntmps193;go_wp2_with fail;go_ret;exact⟨rfl,Vd _ _⟩
theorem SG(h:dl w k X n s p){A:Option Addr}{l:List Int}(H:Nc w A l c):Yt 193 #[Yr X.d,.slice A l.length c] w λr w'=>∃e:Int,r=.returned (.int .i64 e)/\dI w k X n w' λ_ _ p'=>e=0->p'.dark=false:=by
 rcases h.dk with⟨j,i⟩|⟨j,m,M,i,B⟩
 ·exact(MA i j _).mono λr w' q=>⟨3,q.1,dI.same h q.2 (Vc _) λh=>absurd h (by decide)⟩
 ·refine(UK i B H j).mono λr w' q=>?_
  obtain⟨s',rfl,z,D⟩:=q;exact⟨0,rfl,h.disk2 D (.inl ⟨rfl,z⟩) (λq v=>v.imp id λh=>h.1) λ_=>rfl⟩
end
theorem Hr(n:Nat)(d u:Nat->Nat)(h:Nat)(now:Int)(v:Nat)(k:Nat)(e:k<6):(xM n d u h now).setIfInBounds (1+k*2+1) (Yr v)=xM n d (iD u k v) h now:=
 av.six (P:=λk=>(xM n d u h now).setIfInBounds (1+k*2+1) (Yr v)=xM n d (iD u k v) h now) rfl rfl rfl rfl rfl rfl k e
theorem bg.fresh{C:aN}(h:bg w0 w c C N)(hN:N<=N')(z:k<6){X':fT}{s':cE}{p':Pw}(h1:dl w' k X' N' s' p')(hd:X'.d=(C.X k).d)(Y:ah (C.X k).G w w')(O:∀q,X'.G q->(C.X k).G q\/w.heap.size<=q):
  iC w0 w (w'.setCell ⟨c,1+k*2+1,none⟩ (Yr X'.u)) c C (C.put k X' s' p') N':=by
 have S:ah (cj c) w' (w'.setCell ⟨c,1+k*2+1,none⟩ (Yr X'.u)):=ah.set ⟨c,1+k*2+1,none⟩ (show cj c c from rfl) _;have hi:=h.inh;have D:∀j,j<6->∀q,(C.X j).G q->j≠k->¬X'.G q:=λj l q H α hX=>by
  rcases O q hX with h'|h'
  ·exact h.xx j k l z α q H h'
  ·have:=hi q (.inr (.inl ⟨j,l,H⟩));omega
 have J:¬X'.G c:=λhq=>by
  rcases O c hq with h'|h'
  ·exact h.cx k z h'
  ·have:=h.blk.lt;omega
 have β:=h.blk.lt;have hA:C.A.setIfInBounds (1+k*2+1) (Yr X'.u)=(C.put k X' s' p').A:=by
  have R:(λj=>(iD C.X k X' j).d)=λj=>(C.X j).d:=funext λj=>by
   by_cases e:j=k
   ·subst e;rw[bG];exact hd
   ·rw[bR _ _ e]
  have V:(λj=>(iD C.X k X' j).u)=iD (λj=>(C.X j).u) k X'.u:=funext λj=>by
   by_cases e:j=k
   ·subst e;rw[bG,bG]
   ·rw[bR _ _ e,bR _ _ e]
  show _=xM _ (λj=>(iD C.X k X' j).d) (λj=>(iD C.X k X' j).u) _ _;rw[R,V];exact Hr _ _ _ _ _ _ k z
 have one:∀q,cj c q->q=c:=λq e=>e
 refine⟨⟨?_,h.n1,h.n6,λj l=>?_,(h.ne.mod Y (h.xn k z).symm (h.xb k z)).mod S (λq hq e=>h.cn (one q e▸hq)) (λq e=>one q e▸h.cb),h.ml,h.nw,h.cb,λj l q hq=>?_,λj l hq=>?_,h.cn,λi j I l B q v m=>?_,λj l q hq hn=>?_⟩,(Y.mono λq hq=>.inr (.inl ⟨k,z,hq⟩)).trans' S λq _ e=>.inl (one q e),λq hq=>?_,rfl⟩
 ·rw[<-hA]
  exact(Y.blk h.blk (h.cx k z)).set_ _ _
 ·by_cases e:j=k
  ·subst e
   simp only[aN.put,bG];exact h1.mod S λq hq e=>J (one q e▸hq)
  ·simp only[aN.put,bR _ _ e]
   exact(((h.si j l).more hN).mod Y (h.xx j k l z e)).mod S λq hq e=>h.cx j l (one q e▸hq)
 ·by_cases e:j=k
  ·subst e
   simp only[aN.put,bG]at hq;rcases O q hq with h'|h'
   ·exact h.xb j l q h'
   ·have:=h.ne.T.below.size;omega
  ·simp only[aN.put,bR _ _ e]at hq
   exact h.xb j l q hq
 ·by_cases e:j=k
  ·subst e
   simp only[aN.put,bG]at hq;exact J hq
  ·simp only[aN.put,bR _ _ e]at hq
   exact h.cx j l hq
 ·by_cases R:i=k
  ·subst R
   simp only[aN.put,bG]at v;simp only[aN.put,bR _ _ (V1 B)]at m;exact D j l q m (V1 B) v
  ·simp only[aN.put,bR _ _ R]at v
   by_cases V:j=k
   ·subst V
    simp only[aN.put,bG]at m;exact D i I q v R m
   ·simp only[aN.put,bR _ _ V]at m
    exact h.xx i j I l B q v m
 ·by_cases e:j=k
  ·subst e
   simp only[aN.put,bG]at hq;rcases O q hq with h'|h'
   ·exact h.xn j l q h' hn
   ·have:=h.ne.inh q hn;omega
  ·simp only[aN.put,bR _ _ e]at hq
   exact h.xn j l q hq hn
 ·rcases hq with hq|⟨j,l,hq⟩|hq
  ·exact .inl (.inl hq)
  ·by_cases e:j=k
   ·subst e
    simp only[aN.put,bG]at hq;exact(O q hq).imp (λh=>.inr (.inl ⟨j,l,h⟩)) id
   ·simp only[aN.put,bR _ _ e]at hq
    exact .inl (.inr (.inl ⟨j,l,hq⟩))
  ·exact .inl (.inr (.inr hq))
structure QA(w:Yu)(c b k d n:Nat)(x:eE):Prop where
 cn:w.cell? ⟨c,0,none⟩=some (.int .i64 n)
 cd:w.cell? ⟨c,1+k*2,none⟩=some (Yr d)
 fr:∀i,w.frozen? ⟨c,i,none⟩=false
 lt:c<w.heap.size
 fb:∀i,w.frozen? ⟨b,i,none⟩=false
 lb:b<w.heap.size
 ww:w.cell? ⟨b,1,none⟩=some (.int .i64 ((k:Int)+1))
 wp:w.cell? ⟨b,11,none⟩=some (.slice x.pa x.pk.length x.pc)
theorem QA.of{C:aN}{x:eE}(e:ai w c 75 C.A)(j:k<6)(l:x.w=(k:Int)+1)(i:ai w b 45 (bD x)):QA w c b k (C.X k).d C.n x:=
 ⟨by rw[e.cell];rfl,by rw[e.cell];exact zb _ _ _ _ _ k j,e.frozen,e.lt,i.frozen,i.lt,by rw[i.cell];exact Vt (λz=>some (Value.int .i64 z)) l,by rw[i.cell];rfl⟩
theorem SK{C:aN}(h:bg w0 w c C N)(hN:50000<=N)(hT:dh w)(hK:1<w0.heap.size/\0<w0.heap.size){x:eE}(xa:x.At w)(R:k<6)(hx:x.w=(k:Int)+1):
  Yt 181 #[Yr c,.agg (bD x)] w (dv w0 w c C N λ_ _ _=>True):=by
 obtain⟨W0,ν⟩:∃W0,W0=(w.alloc (.cells (bD x) 45)).alloc (.cells (dC Ev.zero 0) 55):=⟨_,rfl⟩;have E:=h.enter x;rw[<-ν]at E;generalize Δ:w.heap.size+1=r0 at E;have HW:=U9 ν;have HT:=U9 (hT.call' E.D);have HP:=U9 (xa.call E.D).zsl;have CW:=U9 (λW=>rX (c:=c) R x hx W);have ω:=fB E.B;have fb:=E.B.frozen;have lb:=E.B.lt;have T:=U9 E;clear h E ν hT xa;go_enter func181,ntmps181;go_upto_region 1 with fail;generalize hg:(w.alloc _).alloc _=X0;obtain rfl:W0=X0:=HW.o.trans hg;clear HW hg;go_upto_region 2 with(refine(CW.o W0).mono ?_;rintro r W1 ⟨rfl,i⟩);have J:=T.o.at_.call i;have π:=J.si k R;have ι:=U9 ((iC.refl T.o.at_).call i);have HB:=U9 i;have HF:=U9 (λ(Y:Yu) (hm:ah (C.X k).G W1 Y)=>QA.of (hm.blk J.blk (J.cx k R)) R hx (hm.blk (T.o.stp (ah.of_below i)) λhG=>by
  have:=T.o.I w.heap.size (.inr (.inl ⟨k,R,hG⟩));omega))
 have CA:=U9 (λ(Y:Yu) (hb:Ys W1 Y)=>SG (π.call hb) ((HP.o.call i).call hb));have α:=U9 (show∀q,(C.X k).G q->q<W1.heap.size from λq j=>π.inh q j);clear ω fb lb CW J i π;refine ay [] (C.X k).G 6 α.o (by kernel_rfl) (by kernel_rfl) ?_
 iterate 6
  first
  |refine bT rfl ?_;apply aA
   ·intro _ ρ σ θ μ W hb;have j:=HF.o W hb;simp[execOp,go_sem,σ,θ,μ,j,j.cd,j.fr,j.lt,j.fb,j.lb,j.wp]<;>exact rfl
  |refine al (λ_=>rfl) ?_
  simp only[UW,UX,UY,UZ]
 refine bP (λ_=>rfl) rfl 193 (λ_=>#[Yr ((C.X k).d),.slice x.pa x.pk.length x.pc]) (λe:Int=>.int .i64 e) 0 (λY v Y'=>∃e:Int,v=.int .i64 e/\dI Y k (C.X k) N Y' λ_ _ p'=>e=0->p'.dark=false) (λ_ w=>by simp[execOp,go_sem]<;>rfl) (λ_ Y hb=>?ca) ?_
 case ca=>
  refine(CA.o Y hb).mono ?_;rintro r Y' ⟨e,rfl,hT⟩;exact⟨e,rfl,⟨e,rfl,hT⟩,by
   obtain⟨_,_,_,_,_,m,_⟩:=hT;exact m⟩
 simp only[UW,UX,UY,UZ]
 iterate 1
  refine bH rfl ?_;simp only[UW,UX,UY,UZ]
 refine aK (by kernel_rfl) ?_;rintro⟨_,e⟩ W2 hC hR;replace hC:ah (C.X k).G W1 W2:=hC
 try dsimp only
 simp only[U0,U1,U2,U3,Nat.reduceAdd,Vk]at hR;obtain⟨w1,w2,i,-,⟨e',H,g3⟩,g4⟩:=bJ (hR 6 _ _ (by repeat (first|exact Vs ⟨rfl,rfl,rfl⟩|apply Vr))) rfl;injection H with _ H;subst H;obtain⟨z,s2,p2,l,ζ⟩:=(ι.o.at_.call (i rfl)).site' (Vc _) R g3;replace l:=ι.o.trans ((l.pre (i rfl)).call (g4.below λ_ h=>h.1 rfl));clear hC hR g3 g4 i HF CA α ι;by_cases hz:e=0
 ·subst hz
  go_upto_region 5 with fail;have A:=l.at_;have eX:(C.put k z s2 p2).X k=z:=bG _ _ _;have S:dl W2 k z N s2 p2:=by
   have:=A.si k R;rw[eX,show(C.put k z s2 p2).s k=s2 from bG _ _ _,show(C.put k z s2 p2).p k=p2 from bG _ _ _]at this;exact this
  have κ:bI W2 z.F z.d s2 s2 none p2:=by
   rcases S.dk with⟨-,h⟩|⟨h,-⟩
   ·exact h
   ·rw[ζ rfl]at h;cases h
  have η:∀q,z.F q->(C.put k z s2 p2).G c q:=λq j=>.inr (.inl ⟨k,R,by rw[eX];exact .inr (.inr (.inr j))⟩)
  have γ:¬z.F c:=λj=>A.cx k R (by rw[eX];exact .inr (.inr (.inr j)))
  have χ:tz z.F:=⟨λj=>by have:=A.base _ (η _ j);omega,λj=>by have:=A.base _ (η _ j);omega⟩;have υ:=l.tabs T.o.at_ HT.o hK;have HF:=U9 (λ(Y:Yu) (hm:ah z.F W2 Y)=>(show QA Y c w.heap.size k z.d C.n x from eX▸QA.of (C:=C.put k z s2 p2) (hm.blk A.blk γ) R hx (hm.blk (T.o.stp l.mod) λhG=>by
   rcases l.sub _ (η _ hG)with h|h
   ·have:=T.o.I _ h;omega
   ·have:=T.o.B.lt;omega)))
  have CA:=U9 (λ(Y:Yu) (hb:Ys W2 Y)=>Ju A.n1 A.n6 R (κ.call hb) (ζ rfl) (υ.call' hb) χ);have α:=U9 (show∀q,z.F q->q<W2.heap.size from λq j=>κ.inh q j);have O:=U9 (Vb l (Vb S ζ));clear l A κ η γ χ υ S ζ;refine ay [] z.F 10 α.o (by kernel_rfl) (by kernel_rfl) ?_
  iterate 10
   first
   |refine bT rfl ?_;apply aA
    ·intro _ ρ σ θ μ W hb;have j:=HF.o W hb;simp[execOp,go_sem,σ,θ,μ,j,j.cn,j.cd,j.fr,j.lt,j.fb,j.lb,j.ww]<;>exact rfl
   |refine al (λ_=>rfl) ?_
   simp only[UW,UX,UY,UZ]
  refine bP (λ_=>rfl) rfl 23 (λ_=>#[.int .i64 C.n,.int .i64 ((k:Int)+1),Yr z.d]) (λv:Option Nat×Int=>.tuple #[.pointer (v.1.map λu=>⟨u,0,none⟩),.int .i64 v.2]) (none,0) (λY v Y'=>JE Y C.n k z.F z.d s2 p2 (.returned v) Y') (λ_ w=>by simp[execOp,go_sem]<;>rfl) (λ_ Y hb=>?cc) ?_
  case cc=>
   refine(CA.o Y hb).mono ?_;rintro r Y' hN;obtain⟨hm,⟨e,G,s',p',q1,rfl,q2⟩|⟨X,s',p',rfl,q⟩⟩:=id hN
   ·exact⟨(none,e),rfl,hN,hm⟩
   ·exact⟨(some X.u,0),rfl,hN,hm⟩
  simp only[UW,UX,UY,UZ]
  iterate 5
   refine bH rfl ?_;simp only[UW,UX,UY,UZ]
  refine aK (by kernel_rfl) ?_;rintro⟨_,⟨uo,e⟩⟩ W3 hC hR;replace hC:ah z.F W2 W3:=hC
  try dsimp only
  simp only[U0,U1,U2,U3,Nat.reduceAdd,Vk]at hR;obtain⟨w3,w4,i,-,g3,g4⟩:=bJ (hR 10 _ _ (by repeat (first|exact Vs ⟨rfl,rfl,rfl⟩|apply Vr))) rfl;have ε:=g4.below λ_ h=>h.1 rfl
  have ξ:=(i rfl).size;have S:=O.o.2.1;have δ:∀q,z.F q->((C.put k z s2 p2).X k).G q:=λq j=>by rw[eX];exact .inr (.inr (.inr j))
  clear hR g4 HF CA α;obtain⟨hm,⟨e',G,s',p',τ,H,q1,q2,-⟩|⟨X',s',p',H,q1,q2,-,-,-,-,q3,-⟩⟩:=g3
  ·injection H with H
   injection H with H;injection H with H;injection H with J A;injection A with A _;injection J with J;injection A with _ A;subst A;obtain rfl:uo=none:=by simpa using J
   have Γ:(e==0)=false:=by simpa using τ
   have hT:dI w3 k ((C.put k z s2 p2).X k) N w4 λ_ _ _=>True:=by
    rw[eX];exact(S.call (i rfl)).disk2 hm q1 q2 trivial
   obtain⟨X5,s5,p5,l,-⟩:=(O.o.1.at_.call (i rfl)).site' (Vc _) R hT;replace l:=O.o.1.trans ((l.pre (i rfl)).call ε);clear hC i hm q1 q2 hT ε ξ S δ τ J;simp only[Option.map_none];go_wp2_with fail;refine(cD e _).mono ?_;rintro r W9 ⟨rfl,β⟩;have l:=(l).call β;have V:=T.o.res l.mod;have φ:=cO V rfl Ev.zero e;have HX:=U9 (T.o.o l Ev.zero e);have lr:=V.lt;have fr:=V.frozen;clear l V;go_wp2_with fail;exact aE (s:=4) results181 rfl HX.o.1 underlying55 rfl (aV _ _) rfl (dv.weak HX.o.2)
  ·injection H with H
   injection H with H;injection H with H;injection H with J A;injection A with A _;injection J with J;injection A with _ A;subst A;obtain rfl:uo=some X'.u:=by
    cases uo with
    |none=>cases J
    |some u=>
     injection J with J;injection J with J;rw[J]
   have l:=O.o.1.at_.fresh (Vc N) R (X':=X') (s':=s') (p':=p') ((q1.call ε).more hN) (by rw[eX];exact q2) (hC.mono δ) (λq j=>by
    rcases q3 q j with h|h
    ·exact .inl (δ q h)
    ·exact .inr (Vi ξ h))
   replace l:=O.o.1.trans l;have γ:¬z.F c:=λj=>O.o.1.at_.cx k R (δ c j)
   have Bc:=hC.blk O.o.1.at_.blk γ;obtain⟨-,cu,-,-,-,fr,lt⟩:UC W3 c k ((C.put k z s2 p2).X k).d ((C.put k z s2 p2).X k).u C.h C.n C.now:=⟨by rw[Bc.cell];exact zb _ _ _ _ _ k R,by rw[Bc.cell];exact qp _ _ _ _ _ k R,by rw[Bc.cell];rfl,by rw[Bc.cell];rfl,by rw[Bc.cell];rfl,Bc.frozen,Bc.lt⟩;have ψ:=U9 l;clear hC i hm q1 q2 q3 ε ξ S δ J l γ Bc O;simp only[WE];go_upto_region 8 with fail;have l:=ψ.o;generalize World.setCell W3 _ _=W5 at l⊢;clear ψ cu fr lt;go_wp2_with fail;refine(cD 0 _).mono ?_;rintro r W9 ⟨rfl,β⟩;have l:=(l).call β;have V:=T.o.res l.mod;have φ:=cO V rfl Ev.zero 0;have HX:=U9 (T.o.o l Ev.zero 0);have lr:=V.lt;have fr:=V.frozen;clear l V;go_wp2_with fail;exact aE (s:=4) results181 rfl HX.o.1 underlying55 rfl (aV _ _) rfl (dv.weak HX.o.2)
 ·have Γ:(e==0)=false:=by simpa using hz
  go_wp2_with fail;refine(cD e W2).mono ?_;rintro r W9 ⟨rfl,β⟩;have l:=l.call β;have V:=T.o.res l.mod;have φ:=cO V rfl Ev.zero e;have HX:=U9 (T.o.o l Ev.zero e);have lr:=V.lt;have fr:=V.frozen;clear l V;go_wp2_with fail;exact aE (s:=4) results181 rfl HX.o.1 underlying55 rfl (aV _ _) rfl (dv.weak HX.o.2)
def Mu(f:FuncId)(b:Bool):Array Yv:=#[.func (.func f) #[] #[],.bool b]
section
variable(ρ:Yx->Yv)(dst:Option Tmp)(x y:Yx)(ty:Yw)(pos:String)(after:Array Edge)(guard:Option (Nat×Bool))
@[go_sem ↓ high] theorem IZ:execOp ρ {dst,op:=.load 104 x,type:=ty,pos,after,guard}=dR 104 (ρ x):=by simp[execOp,dR]
@[go_sem ↓ high] theorem IJ:execOp ρ {dst,op:=.store 104 x y,type:=ty,pos,after,guard}=eR 104 (ρ x) (ρ y):=by simp[execOp,eR]
end
theorem yt(f:FuncId)(b:Bool):(prog.info? 104).map (·.size)=some (Mu f b).size:=by rw[show(Mu f b).size=2 from rfl];kernel_rfl
theorem vu(f:FuncId)(b:Bool)(w:Yu):∃e,(eR 104 (Yr w.heap.size) (.agg (Mu f b))).run prog (w.alloc (.cells #[.nilFunc,.bool false] 104))=.ok .skip e/\ai e w.heap.size 104 (Mu f b)/\Ys w e:=by
 have B:ai (w.alloc (.cells #[.nilFunc,.bool false] 104)) w.heap.size 104 #[.nilFunc,.bool false]:=ai.new _ _ _;exact⟨_,bX B (yt f b) rfl (by simp[Mu,Value.oneCell']),ax B _,Below.rowN ((Vd _ _).alloc (Vc _) _) (Vc _) _⟩
theorem Iz(i:dh w){b:Bool}(l:Fy[d*2]? =some (.func (.func f) #[] #[]))(m:Fy[d*2+1]? =some (.bool b)):(dR 104 (.pointer (some ⟨0,d*2,none⟩))).run prog w=.ok (.value (.agg (Mu f b))) w:=
 aY (λj v e=>by
  match j,e with
  |0,e=>cases e;exact i.d _ _ l
  |1,e=>cases e;exact i.d _ _ m
  |j+2,e=>simp[Mu]at e) underlying104 rfl (yt f b)
theorem gp{C:aN}(h:bg w0 w c C N)(hT:dh w){x:eE}(hd:x.d=(d:Int))(γ:1<=d)(β:d<13){b:Bool}(t1:Fy[d*2]? =some (.func (.func f) #[] #[]))(V:Fy[d*2+1]? =some (.bool b))(hw:(!b&& !decide (1<=x.w/\x.w<=6))=false)(hf:∀args w,(callFunc f args).run prog w=.ok (.enter f args) w){Q:aN->Ev->Int->Prop}
  (hC:∀Y,Ys w Y->Calls prog f #[Yr c,.agg (bD x)] Y (dv w0 Y c C N' Q)):
  Yt 18 #[Yr c,.agg (bD x)] w (dv w0 w c C N' Q):=by
 obtain⟨l,q⟩:∃l,l=(w.alloc (.cells (bD x) 45)).alloc (.cells (dC Ev.zero 0) 55):=⟨_,rfl⟩;have E:=h.enter x;rw[<-q]at E;generalize δ:w.heap.size+1=r0 at E;have HW:=U9 q;have c0:l.cell? ⟨w.heap.size,0,none⟩=some (.int .u8 (d:Int)):=by rw[E.B.cell];exact Vt (λz=>some (Value.int .u8 z)) hd
 have c1:l.cell? ⟨w.heap.size,1,none⟩=some (.int .i64 x.w):=by rw[E.B.cell];rfl
 have fb:=E.B.frozen;have lb:=E.B.lt;have ε:=Iz (hT.call' E.D) t1 V;have e1:IntKind.i64.wrap (d:Int)=d:=VE _ (by omega);have a1:((d:Int)==0)=false:=by rw[Vz];omega
 have a2:(d:Int)<13:=by omega
 have a3:(0:Int)<=(d:Int):=by omega
 obtain⟨O,α,H,m⟩:=vu f b l;have c3:O.cell? ⟨l.heap.size,0,none⟩=some (.func (.func f) #[] #[]):=H.cell 0;have c4:O.cell? ⟨l.heap.size,1,none⟩=some (.bool b):=H.cell 1;have f3:=H.frozen;have l3:=H.lt;have ζ:=fB (E.stp (ah.of_below (F:=C.G c) m));have c5:O.cell? ⟨w.heap.size,1,none⟩=some (.int .i64 x.w):=(E.stp (ah.of_below (F:=C.G c) m)).cell 1;have f5:=(E.stp (ah.of_below (F:=C.G c) m)).frozen;have l5:=(E.stp (ah.of_below (F:=C.G c) m)).lt;have HC:=U9 (hC O (E.D.trans (m.mono E.D.size)));have v:=U9 (Vb E m);have CR:=U9 (λW=>mJ x.w W);clear h E q hT t1 V hC H m;go_enter func18,ntmps18;go_upto_region 1 with fail;generalize hg:(w.alloc _).alloc _=X0;obtain rfl:l=X0:=HW.o.trans hg;clear HW hg;go_upto_region 6 with fail;cases b with
 |true=>
  go_wp2_with fail;refine HC.o.mono ?_;rintro r W4 ⟨e,I,C4,rfl,i,A⟩;replace i:=i.pre v.o.2;have j:=v.o.1.res i.mod;have S:=cO j rfl e I;have J:=U9 (v.o.1.o i e I);have R:=U9 A;have lr:=j.lt;have fr:=j.frozen;clear i j A;go_wp2_with fail;exact aE (s:=4) results18 rfl J.o.1 underlying55 rfl (aV _ _) rfl ⟨_,_,_,rfl,J.o.2,R.o⟩
 |false=>
  have T:decide (1<=x.w/\x.w<=6)=true:=by simpa using hw
  rw[T]at CR;go_wp2_with (go_at_call 15;refine(CR.o _).mono ?_;rintro r w2 ⟨rfl,rfl⟩);refine HC.o.mono ?_;rintro r W4 ⟨e,I,C4,rfl,i,A⟩;replace i:=i.pre v.o.2;have j:=v.o.1.res i.mod;have S:=cO j rfl e I;have J:=U9 (v.o.1.o i e I);have R:=U9 A;have lr:=j.lt;have fr:=j.frozen;clear i j A;go_wp2_with fail;exact aE (s:=4) results18 rfl J.o.1 underlying55 rfl (aV _ _) rfl ⟨_,_,_,rfl,J.o.2,R.o⟩
theorem Qa{C:aN}(h:bg w0 w c C N)(R:dh w){x:eE}(hd:x.d=(d:Int))(γ:1<=d)(α:d<13)(S:Fy[d*2]? =some (.func (.func f) #[] #[]))(I:Fy[d*2+1]? =some (.bool false))(hw:decide (1<=x.w/\x.w<=6)=false){Q:aN->Ev->Int->Prop}(J:Q C Ev.zero 10):
  Yt 18 #[Yr c,.agg (bD x)] w (dv w0 w c C N Q):=by
 obtain⟨e,i⟩:∃e,e=(w.alloc (.cells (bD x) 45)).alloc (.cells (dC Ev.zero 0) 55):=⟨_,rfl⟩;have E:=h.enter x;rw[<-i]at E;generalize δ:w.heap.size+1=r0 at E;have T:=U9 i;have c0:e.cell? ⟨w.heap.size,0,none⟩=some (.int .u8 (d:Int)):=by rw[E.B.cell];exact Vt (λz=>some (Value.int .u8 z)) hd
 have c1:e.cell? ⟨w.heap.size,1,none⟩=some (.int .i64 x.w):=by rw[E.B.cell];rfl
 have fb:=E.B.frozen;have lb:=E.B.lt;have ε:=Iz (R.call' E.D) S I;have e1:IntKind.i64.wrap (d:Int)=d:=VE _ (by omega);have a1:((d:Int)==0)=false:=by rw[Vz];omega
 have a2:(d:Int)<13:=by omega
 have a3:(0:Int)<=(d:Int):=by omega
 obtain⟨m,Y,l,j⟩:=vu f false e;have c3:m.cell? ⟨e.heap.size,0,none⟩=some (.func (.func f) #[] #[]):=l.cell 0;have c4:m.cell? ⟨e.heap.size,1,none⟩=some (.bool false):=l.cell 1;have f3:=l.frozen;have l3:=l.lt;have c5:m.cell? ⟨w.heap.size,1,none⟩=some (.int .i64 x.w):=(E.stp (ah.of_below (F:=C.G c) j)).cell 1;have f5:=(E.stp (ah.of_below (F:=C.G c) j)).frozen;have l5:=(E.stp (ah.of_below (F:=C.G c) j)).lt;have HQ:=U9 J;have q:=U9 (Vb E j);have V:=U9 (λW=>mJ x.w W);clear h E i R S I J l j;go_enter func18,ntmps18;go_upto_region 1 with fail;generalize O:(w.alloc _).alloc _=X0;obtain rfl:e=X0:=T.o.trans O;clear T O;go_upto_region 6 with fail;rw[hw]at V;go_wp2_with (go_at_call 15;refine(V.o _).mono ?_;rintro r w2 ⟨rfl,rfl⟩);refine(cD 10 m).mono ?_;rintro r W9 ⟨rfl,A⟩;have H:=((iC.refl q.o.1.at_).call q.o.2).call A;have v:=q.o.1.res H.mod;have β:=cO v rfl Ev.zero 10;have HX:=U9 (q.o.1.o H Ev.zero 10);have lr:=v.lt;have fr:=v.frozen;clear H v;go_wp2_with fail;exact aE (s:=4) results18 rfl HX.o.1 underlying55 rfl (aV _ _) rfl ⟨_,_,_,rfl,HX.o.2,HQ.o⟩
theorem Qb{C:aN}(h:bg w0 w c C N){x:eE}(O:x.d=0\/13<=x.d)(J:U8 x.d){Q:aN->Ev->Int->Prop}(R:Q C Ev.zero 1):
  Yt 18 #[Yr c,.agg (bD x)] w (dv w0 w c C N Q):=by
 obtain⟨i,j⟩:∃i,i=(w.alloc (.cells (bD x) 45)).alloc (.cells (dC Ev.zero 0) 55):=⟨_,rfl⟩;have E:=h.enter x;rw[<-j]at E;generalize α:w.heap.size+1=r0 at E;have D:=U9 j;have c0:i.cell? ⟨w.heap.size,0,none⟩=some (.int .u8 x.d):=by rw[E.B.cell];rfl
 have fb:=E.B.frozen;have lb:=E.B.lt;have e1:IntKind.i64.wrap x.d=x.d:=VE _ (by have:=J.1;have:=J.2;omega);have q:=U9 E;have S:=U9 R;clear h E j R;obtain⟨z,V⟩:∃z,x.d=z:=⟨_,rfl⟩;rw[V]at c0 e1 O J;by_cases H:z=0
 ·subst H
  go_enter func18,ntmps18;go_upto_region 1 with fail;generalize v:(w.alloc _).alloc _=X0;obtain rfl:i=X0:=D.o.trans v;clear D v;go_wp2_with fail;refine(cD 1 i).mono ?_;rintro r W3 ⟨rfl,m⟩;have l:=(iC.refl q.o.at_).call m;have e:=q.o.res l.mod;have I:=cO e rfl Ev.zero 1;have A:=U9 (q.o.o l Ev.zero 1);have lr:=e.lt;have Y:=e.frozen;clear l e;go_wp2_with fail;exact aE (s:=4) results18 rfl A.o.1 underlying55 rfl (aV _ _) rfl ⟨_,_,_,rfl,A.o.2,S.o⟩
 ·have T:13<=z:=O.resolve_left H
  have a1:(z==0)=false:=by rw[Vz];exact H
  go_enter func18,ntmps18;go_upto_region 1 with fail;generalize v:(w.alloc _).alloc _=X0;obtain rfl:i=X0:=D.o.trans v;clear D v;go_wp2_with fail;refine(cD 1 i).mono ?_;rintro r W3 ⟨rfl,m⟩;have l:=(iC.refl q.o.at_).call m;have e:=q.o.res l.mod;have I:=cO e rfl Ev.zero 1;have A:=U9 (q.o.o l Ev.zero 1);have lr:=e.lt;have Y:=e.frozen;clear l e;go_wp2_with fail;exact aE (s:=4) results18 rfl A.o.1 underlying55 rfl (aV _ _) rfl ⟨_,_,_,rfl,A.o.2,S.o⟩
def Q8(C:aN)(x:eE)(C':aN)(E:Ev)(e:Int):Prop:=x.d=1->(∃k:Nat,k<6/\x.w=(k:Int)+1/\QC C k x C' E e)\/(¬(1<=x.w/\x.w<=6)/\C'=C/\E=Ev.zero/\e=10)
theorem dv.to{C:aN}{Q i:aN->Ev->Int->Prop}{x:Ending}(h:dv w0 w c C N Q x w')(v:N<=N')(q:∀C' E e,Q C' E e->i C' E e):dv w0 w c C N' i x w':=by
 obtain⟨E,e,C',l,j,m⟩:=h;exact⟨E,e,C',l,j.more v,q _ _ _ m⟩
theorem SL{C:aN}(h:bg w0 w c C N)(hN:50000<=N/\N+64<=100000)(z:dh w)(I:1<w0.heap.size/\0<w0.heap.size){x:eE}(H:x.ok)(T:x.At w):
  Yt 18 #[Yr c,.agg (bD x)] w (dv w0 w c C (N+64) (Q8 C x)):=by
 by_cases R:x.d=0\/13<=x.d
 ·exact(Qb h R H.d (Q:=λ_ _ _=>True) trivial).mono λr w' q=>q.to (by omega) λ_ _ _ _ A=>by omega
 ·obtain⟨d,m⟩:∃d:Nat,x.d=(d:Int):=⟨x.d.toNat,by have:=H.d.1;omega⟩
  have l:1<=d:=by omega
  have j:d<13:=by omega
  by_cases O:1<=x.w/\x.w<=6
  ·obtain⟨k,D⟩:∃k:Nat,x.w=(k:Int)+1:=⟨(x.w-1).toNat,by omega⟩
   have B:k<6:=by omega
   have v:decide (1<=x.w/\x.w<=6)=true:=Vg O;have key:d=1\/d=2\/d=3\/d=4\/d=5\/d=6\/d=7\/d=8\/d=9\/d=10\/d=11\/d=12:=by omega
   rcases key with rfl|rfl|rfl|rfl|rfl|rfl|rfl|rfl|rfl|rfl|rfl|rfl
   ·exact(gp h z m l j rfl rfl (by rw[v];rfl) (λ_ _=>by kernel_rfl) λY i=>Qd (h.call i) (by omega) (z.call' i) H B D).mono λr w' q=>q.to (by omega) λ_ _ _ J _=>.inl ⟨k,B,D,J⟩
   ·exact(gp h z m l j rfl rfl (by rw[v];rfl) (λ_ _=>by kernel_rfl) λY i=>MD (h.call i) (by omega) B D).mono λr w' q=>q.to (by omega) λ_ _ _ _ A=>by omega
   ·exact(gp h z m l j rfl rfl (by rw[v];rfl) (λ_ _=>by kernel_rfl) λY i=>EL (h.call i) x).mono λr w' q=>q.to (by omega) λ_ _ _ _ A=>by omega
   ·exact(gp h z m l j rfl rfl (by rw[v];rfl) (λ_ _=>by kernel_rfl) λY i=>rY (h.call i) (by omega) (z.call' i) I x).mono λr w' q=>q.to (by omega) λ_ _ _ _ A=>by omega
   ·exact(gp h z m l j rfl rfl (by rw[v];rfl) (λ_ _=>by kernel_rfl) λY i=>EN (h.call i) x).mono λr w' q=>q.to (by omega) λ_ _ _ _ A=>by omega
   ·exact(gp h z m l j rfl rfl (by rw[v];rfl) (λ_ _=>by kernel_rfl) λY i=>za (h.call i) x).mono λr w' q=>q.to (by omega) λ_ _ _ _ A=>by omega
   ·exact(gp h z m l j rfl rfl (by rw[v];rfl) (λ_ _=>by kernel_rfl) λY i=>Qc (h.call i) x).mono λr w' q=>q.to (by omega) λ_ _ _ _ A=>by omega
   ·exact(gp h z m l j rfl rfl (by rw[v];rfl) (λ_ _=>by kernel_rfl) λY i=>EM (h.call i) x).mono λr w' q=>q.to (by omega) λ_ _ _ _ A=>by omega
   ·exact(gp h z m l j rfl rfl (by rw[v];rfl) (λ_ _=>by kernel_rfl) λY i=>ME (h.call i) H B D).mono λr w' q=>q.to (by omega) λ_ _ _ _ A=>by omega
   ·exact(gp h z m l j rfl rfl (by rw[v];rfl) (λ_ _=>by kernel_rfl) λY i=>P6 (h.call i) B D).mono λr w' q=>q.to (by omega) λ_ _ _ _ A=>by omega
   ·exact(gp h z m l j rfl rfl (by rw[v];rfl) (λ_ _=>by kernel_rfl) λY i=>SK (h.call i) hN.1 (z.call' i) I (T.call i) B D).mono λr w' q=>q.to (by omega) λ_ _ _ _ A=>by omega
   ·exact(gp h z m l j rfl rfl (by rw[v];rfl) (λ_ _=>by kernel_rfl) λY i=>Hq (h.call i) (by omega) (z.call' i) I H B D).mono λr w' q=>q.to (by omega) λ_ _ _ _ A=>by omega
  ·have v:decide (1<=x.w/\x.w<=6)=false:=Vj O
   have key:(d=1\/d=2\/d=7\/d=9\/d=10\/d=11\/d=12)\/d=3\/d=4\/d=5\/d=6\/d=8:=by omega
   rcases key with key|rfl|rfl|rfl|rfl|rfl
   ·have V:∃f:FuncId,Fy[d*2]? =some (.func (.func f) #[] #[])/\Fy[d*2+1]? =some (.bool false):=by
     rcases key with rfl|rfl|rfl|rfl|rfl|rfl|rfl<;>exact⟨_,rfl,rfl⟩
    obtain⟨f,t1,S⟩:=V;exact(Qa h z m l j t1 S v (Q:=λC' E e=>C'=C/\E=Ev.zero/\e=10) ⟨rfl,rfl,rfl⟩).mono λr w' q=>q.to (by omega) λ_ _ _ J _=>.inr ⟨O,J⟩
   ·exact(gp h z m l j rfl rfl rfl (λ_ _=>by kernel_rfl) λY i=>EL (h.call i) x).mono λr w' q=>q.to (by omega) λ_ _ _ _ A=>by omega
   ·exact(gp h z m l j rfl rfl rfl (λ_ _=>by kernel_rfl) λY i=>rY (h.call i) (by omega) (z.call' i) I x).mono λr w' q=>q.to (by omega) λ_ _ _ _ A=>by omega
   ·exact(gp h z m l j rfl rfl rfl (λ_ _=>by kernel_rfl) λY i=>EN (h.call i) x).mono λr w' q=>q.to (by omega) λ_ _ _ _ A=>by omega
   ·exact(gp h z m l j rfl rfl rfl (λ_ _=>by kernel_rfl) λY i=>za (h.call i) x).mono λr w' q=>q.to (by omega) λ_ _ _ _ A=>by omega
   ·exact(gp h z m l j rfl rfl rfl (λ_ _=>by kernel_rfl) λY i=>EM (h.call i) x).mono λr w' q=>q.to (by omega) λ_ _ _ _ A=>by omega
structure qD where
 inn:Nat->Bool
 kn:av
 N:List Nd
 G:List gF
def qD.zero:qD:=⟨λ_=>false,av.zero,[],[]⟩
def az.sta(m:az):qD:=⟨m.inn,m.kn,aW m,bh m⟩
structure qD.At(s:qD)(w:Yu)(base:Nat)(v:Yv):Prop where
 ex:∃vN vG,v=.agg (cy s.inn s.kn vN vG)/\eM w base vN s.N/\iH w base vG s.G
def pb(C:aN)(i:Int):qD×Bool:=if(1<=i/\i<=6)/\C.up (i-1).toNat=true then((C.X (i-1).toNat).R.m.sta,true)else(qD.zero,false)
def yg(w:Yu)(p:qD×Bool)(x:Ending)(w':Yu):Prop:=∃v,x=.returned (.tuple #[v,.bool p.2])/\p.1.At w' w.heap.size v/\Ys w w'
theorem o9{i:Int}{b1 b2:Bool}(O:b1=true->b2=false)(A:decide (1<=i/\i<=6)=b1)
  (v:b1=true->∀Y,Ys w Y->Yt 16 #[.pointer (some ⟨c,1+(i-1).toNat*2,none⟩)] Y λr w'=>r=.returned (.bool false)/\Y=w') (hc:c<w.heap.size):
  Yt 8 #[Yr c,.int .i64 i] w (yg w (qD.zero,false)):=by
 obtain⟨e,l,m,D⟩:=AV w 38 (cy (λ_=>false) av.zero (.slice none 0 0) (.slice none 0 0));have H:=U9 (λW=>mJ i W);have I:(eR 38 (Yr w.heap.size) (.agg #[.bool false,.bool false,.bool false,.bool false,.bool false,.bool false,.bool false,.bool false,.bool false,.bool false,.bool false,.bool false,.int .u64 0,.int .u64 0,.int .u64 0,.int .u64 0,.int .u64 0,.int .u64 0,.slice none 0 0,.slice none 0 0])).run prog e=.ok .skip (e.setRow w.heap.size (cy (λ_=>false) av.zero (.slice none 0 0) (.slice none 0 0))):=by
  have:=bX (P:=prog) (ty:=38) m (dn (λ_=>false) av.zero (.slice none 0 0) (.slice none 0 0)) rfl kg;exact this
 have z:=U9 (Vb (ax m (cy (λ_=>false) av.zero (.slice none 0 0) (.slice none 0 0))) (Below.rowN D (g:=w.heap.size) (Vc _) (cy (λ_=>false) av.zero (.slice none 0 0) (.slice none 0 0))));have q:=U9 l;have J:=U9 D;have V:=m.lt;have R:=m.frozen;clear D m l;rw[A]at H;cases b1 with
 |false=>
  clear v;go_enter func8,ntmps8;go_upto_region 1 with fail;generalize j:w.alloc _=X0;obtain rfl:e=X0:=q.o.trans j;clear q j;go_wp2_with (go_at_call 15;refine(H.o _).mono ?_;rintro r w2 ⟨rfl,rfl⟩);refine cP (s:=4) (u:=5) results8 rfl rfl z.o.1 underlying38 rfl (dn _ _ _ _) rfl ?_;exact⟨_,rfl,⟨_,_,rfl,Row.nil,Row.nil⟩,z.o.2⟩
 |true=>
  obtain⟨k,rfl⟩:∃k:Nat,i=(k:Int)+1:=⟨(i-1).toNat,by have:=Wo A;omega⟩;have S:k<6:=by have:=Wo A;omega
  have T:IntKind.i64.wrap (k:Int)=k:=VE _ (by omega);have a1:(0:Int)<=(k:Int):=by omega
  have a2:(k:Int)<6:=by omega
  rw[show((k:Int)+1-1).toNat=k by omega]at v;have B:=U9 (v rfl e J.o);clear v;go_enter func8,ntmps8;go_upto_region 1 with fail;generalize j:w.alloc _=X0;obtain rfl:e=X0:=q.o.trans j;clear q j;go_wp2_with (first|(go_at_call 15;refine(H.o _).mono ?_;rintro r w2 ⟨rfl,rfl⟩)|(go_at_call 16;refine B.o.mono ?_;rintro r w2 ⟨rfl,rfl⟩));refine cP (s:=4) (u:=5) results8 rfl rfl z.o.1 underlying38 rfl (dn _ _ _ _) rfl ?_;exact⟨_,rfl,⟨_,_,rfl,Row.nil,Row.nil⟩,z.o.2⟩
theorem tt{C:aN}(h:bg w0 w c C N)(z:N<=900000)(i:Int):Yt 8 #[Yr c,.int .i64 i] w (yg w (pb C i)):=by
 by_cases v:1<=i/\i<=6
 ·obtain⟨k,rfl⟩:∃k:Nat,i=(k:Int)+1:=⟨(i-1).toNat,by omega⟩
  have O:k<6:=by omega
  have B:((k:Int)+1-1).toNat=k:=by omega
  cases e:C.up k with
  |false=>
   rw[show pb C ((k:Int)+1)=(qD.zero,false)from Vf λq=>by have:=q.2;rw[B,e]at this;cases this];refine o9 (b1:=true) (b2:=false) (λ_=>rfl) (Vg v) (λ_ Y hb=>?_) h.blk.lt;rw[B];exact(AT (h.call hb) O (show _=false from e)).mono λr w' q=>⟨q.1,q.2⟩
  |true=>
   rw[show pb C ((k:Int)+1)=((C.X k).R.m.sta,true)from(Vh ⟨v,by rw[B];exact e⟩).trans (by rw[B])];obtain⟨W0,j,B0,D0⟩:=AV w 38 (cy (λ_=>false) av.zero (.slice none 0 0) (.slice none 0 0));have z0:W0.heap.size=w.heap.size+1:=by rw[j];simp
   have J:=h.call D0;have CR:=U9 (λW=>mJ ((k:Int)+1) W);have CU:=U9 (AT J O (show _=true from e));have CS:=U9 (yW (J.si k O) z);obtain⟨m,hm⟩:∃m,(C.X k).R.m=m:=⟨_,rfl⟩;rw[hm]at CS⊢;have hw:IntKind.i64.wrap (k:Int)=k:=VE _ (by omega);have a1:(0:Int)<=(k:Int):=by omega
   have a2:(k:Int)<6:=by omega
   have I:decide (1<=(k:Int)+1/\(k:Int)+1<=6)=true:=Vg v;rw[I]at CR;obtain⟨-,cu,-,-,-,fr,lt⟩:=J.rd O;have HW:=U9 j;have V:=U9 (Vb B0 (Vb D0 z0));clear D0 B0 j J z0 h v B e I;go_enter func8,ntmps8;go_upto_region 1 with fail;generalize hg:w.alloc _=X0;obtain rfl:W0=X0:=HW.o.trans hg;clear HW hg;go_wp2_with (first|(go_at_call 15;refine(CR.o _).mono ?_;rintro r w2 ⟨rfl,rfl⟩)|(go_at_call 16;refine CU.o.mono ?_;rintro r w2 ⟨rfl,rfl⟩));refine CS.o.mono ?_;rintro x W1 ⟨vN,vG,rfl,z,T,l⟩;obtain⟨A1,c1,e1,-,-⟩:=z.sl;obtain⟨A2,c2,e2,-,-⟩:=T.sl;have S:=V.o.1.call l;have α:=bX (P:=prog) (ty:=38) S (dn m.inn m.kn vN vG) rfl (by rw[e1,e2];exact kg);have m2:ah (cj w.heap.size) W1 (W1.setRow w.heap.size (cy m.inn m.kn vN vG)):=ah.of_fr1 (aM W1 w.heap.size _) rfl;have D:=z.ge;have A:=T.ge;have z0:=V.o.2.2;have N2:=m2.row z λq hq H=>by
    have H:q=w.heap.size:=H;have:=(D q hq).1;omega
   have G2:=m2.row T λq hq H=>by
    have H:q=w.heap.size:=H;have:=(A q hq).1;omega
   have HX:=U9 (Vb (ax S (cy m.inn m.kn vN vG)) (Vb (Row.mono N2 (by omega):eM _ w.heap.size vN (aW m)) (Vb (Row.mono G2 (by omega):iH _ w.heap.size vG (bh m)) (Below.rowN (V.o.2.1.trans (l.mono V.o.2.1.size)) (g:=w.heap.size) (Vc _) (cy m.inn m.kn vN vG)))));have l1:=S.lt;clear z T l e1 e2 S m2 D A z0 N2 G2 CS CR CU;go_wp2_with fail;refine cP (s:=4) (u:=5) results8 rfl rfl HX.o.1 underlying38 rfl (dn _ _ _ _) rfl ?_;exact⟨_,rfl,⟨vN,vG,rfl,HX.o.2.1,HX.o.2.2.1⟩,HX.o.2.2.2⟩
 ·rw[show pb C i=(qD.zero,false)from Vf λq=>v q.1]
  exact o9 (b1:=false) (b2:=false) (λh=>by cases h) (Vj v) (λh=>by cases h) h.blk.lt
def Bg(n:Nat)(d u:Nat->Yv)(h:Nat)(now:Int):Array Yv:=#[.int .i64 n,d 0,u 0,d 1,u 1,d 2,u 2,d 3,u 3,d 4,u 4,d 5,u 5,Yr h,.int .u64 now]
def tI(j:Nat)(f:Nat->Nat):Nat->Yv:=λk=>.pointer (if k<j then some ⟨f k,0,none⟩else none)
theorem Hp(n:Nat)(d u:Nat->Nat)(h:Nat)(now:Int)(i e:Nat)(j:Nat)(l:j<6):
  ((Bg n (tI j d) (tI j u) h now).toList.take (1+j*2)++(#[Yr i,Yr e]:Array Yv).toList++(Bg n (tI j d) (tI j u) h now).toList.drop (1+j*2+(#[Yr i,Yr e]:Array Yv).size)).toArray=Bg n (tI (j+1) (iD d j i)) (tI (j+1) (iD u j e)) h now:=
 av.six (P:=λj=>((Bg n (tI j d) (tI j u) h now).toList.take (1+j*2)++(#[Yr i,Yr e]:Array Yv).toList++(Bg n (tI j d) (tI j u) h now).toList.drop (1+j*2+(#[Yr i,Yr e]:Array Yv).size)).toArray=Bg n (tI (j+1) (iD d j i)) (tI (j+1) (iD u j e)) h now) rfl rfl rfl rfl rfl rfl j l
section
variable(ρ:Yx->Yv)(dst:Option Tmp)(x y:Yx)(ty:Yw)(pos:String)(after:Array Edge)(guard:Option (Nat×Bool))
@[go_sem ↓ high] theorem ID:execOp ρ {dst,op:=.store 71 x y,type:=ty,pos,after,guard}=eR 71 (ρ x) (ρ y):=by simp[execOp,eR]
end
theorem FY(x y:Yv):(prog.info? 71).map (·.size)=some (#[x,y]:Array Yv).size:=by rw[show(#[x,y]:Array Yv).size=2 from rfl];kernel_rfl
def fT.any:fT:=⟨⟨⟨0,0,0,0,0,0,0⟩,iV 1,0,0,λ_=>.nilFunc,λ_=>[],av.zero,0,0,0,[],0,λ_=>0,0,0,[],cM⟩,0,0,0,0,0,false,false,cM⟩
structure QB(w wr:Yu)(n j:Nat)(X:Nat->fT)(s:Nat->cE)(p:Nat->Pw):Prop where
 blk:ai wr (w.heap.size+1) 75 (Bg n (tI j λk=>(X k).d) (tI j λk=>(X k).u) w.heap.size 0)
 ne:dK w wr [] w.heap.size (.slice none 0 0) [] [] (λ_=>false)
 si:∀k,k<j->dl wr k (X k) 50000 (s k) (p k)
 gt:∀k,k<j->∀q,(X k).G q->w.heap.size+2<=q
 ds:∀i k,i<j->k<j->i≠k->iB (X i).G (X k).G
 pr:∀k,k<j->(X k).R.m=iV n/\(X k).dead=false/\(p k).dark=false/\(p k).burning=false/\(s k).l.length=0
structure oR(C:aN)(n:Nat):Prop where
 nn:C.n=n
 pr:∀k,k<6->(C.X k).R.m=iV n/\(C.X k).dead=false/\(C.p k).dark=false/\(C.p k).burning=false/\(C.s k).l.length=0
theorem QB.full{wr:Yu}{X:Nat->fT}{s:Nat->cE}{p:Nat->Pw}(h:QB w wr n 6 X s p)(v:1<=n)(l:n<=6):∃C,bg w wr (w.heap.size+1) C 50000/\oR C n:=by
 refine⟨⟨n,X,s,p,w.heap.size,.slice none 0 0,[],[],λ_=>false,0⟩,⟨h.blk,v,l,h.si,h.ne,(λm j=>by cases j),(show aT 0 by constructor<;>decide),XV _,λk e q hq=>by have:=h.gt k e q hq;omega,λk e hq=>by have:=h.gt k e _ hq;omega,λhq=>?_,h.ds,λk e q hq z=>?_⟩,rfl,h.pr⟩
 ·rcases hq with hq|hq|⟨x,i,-⟩
  ·have hq:w.heap.size+1=w.heap.size:=hq
   omega
  ·cases hq
  ·cases i
 ·have:=h.gt k e q hq
  rcases z with hq|hq|⟨x,i,-⟩
  ·have hq:q=w.heap.size:=hq
   omega
  ·cases hq
  ·cases i
def Ii(w:Yu)(n:Nat)(x:Ending)(w':Yu):Prop:=∃c C,x=.returned (.tuple #[Yr c,.int .i64 0])/\bg w w' c C 50000/\oR C n/\Ys w w'
theorem P9(h1:1<=n)(h6:n<=6)(hT:dh w):Yt 13 #[.int .i64 n] w (Ii w n):=by
 have CN:=U9 (Rw w);have HT:=U9 hT;have N0:=dK.new w;obtain⟨S,D⟩:∃S,S=(w.alloc (.cells (dP (.slice none 0 0) λ_=>false) 120)).alloc (.cells (Bg n (λ_=>.pointer none) (λ_=>.pointer none) w.heap.size 0) 75):=⟨_,rfl⟩;have D2:Below (w.alloc (.cells (dP (.slice none 0 0) λ_=>false) 120)).heap.size (w.alloc (.cells (dP (.slice none 0 0) λ_=>false) 120)) S:=D▸(Vd _ _).alloc (Vc _) _;have B2:ai S (w.heap.size+1) 75 (Bg n (λ_=>.pointer none) (λ_=>.pointer none) w.heap.size 0):=by
  have:=ai.new (w.alloc (.cells (dP (.slice none 0 0) λ_=>false) 120)) 75 (Bg n (λ_=>.pointer none) (λ_=>.pointer none) w.heap.size 0);rw[<-D]at this;simpa using this
 have I0:QB w S n 0 (λ_=>fT.any) (λ_=>⟨none,[],0⟩) (λ_=>⟨false,false,0⟩):=⟨B2,N0.call D2,λk B=>by omega,λk B=>by omega,λi k hi=>by omega,λk B=>by omega⟩;have HI:=U9 I0;have HW:=U9 D;have β:=U9 hT.lt;clear N0 D2 B2 I0 hT D;go_enter func13,ntmps13;go_wp2_with fail;refine CN.o.mono ?_;rintro r W1 ⟨rfl,rfl⟩;go_wp2_with fail;generalize hg:(w.alloc _).alloc _=X0;obtain rfl:S=X0:=HW.o.trans hg;clear HW hg CN
 go_loopw [19] (λi wr=>∃j:Nat,j<=6/\i=.int .i64 j/\∃X s p,QB w wr n j X s p) (λi _=>6-(intOf i).toNat)
 case atStart=>exact⟨0,by omega,rfl,_,_,_,HI.o⟩
 case round=>
  obtain⟨j,hj,rfl,X,s,p,hI⟩:=hrel;have m:=U9 hI;clear hI;by_cases V:j<6
  ·have hd:((j:Int)<6):=by omega
   have a0:(0:Int)<=(j:Int):=by omega
   go_wp2_with fail;refine(SH wr).mono ?_;rintro r W3 ⟨rfl,O,R⟩;have γ:=m.o.ne.T.below.size;have hD:bI W3 (cj wr.heap.size) wr.heap.size ⟨none,[],0⟩ ⟨none,[],0⟩ none ⟨false,false,0⟩:=⟨⟨_,O,rfl⟩,bA.nil _,bA.nil _,(λ_ _ h=>by cases h),(λ_ _ h=>by cases h),rfl,⟨by constructor<;>decide,λh=>by cases h⟩,by simp,by simp,λq hq=>by have hq:q=wr.heap.size:=hq;rw[hq];exact O.lt⟩;have CD:=U9 (Ju h1 h6 V hD rfl ((HT.o.call' m.o.ne.T.below).call' R) ⟨λhq=>by have hq:1=wr.heap.size:=hq;have:=β.o.1;omega,λhq=>by have hq:0=wr.heap.size:=hq;have:=β.o.2;omega⟩);have J:=U9 (Vb R γ);clear O R γ hD;go_wp2_with fail;refine CD.o.mono ?_;rintro r W4 ⟨hm,⟨e,G,s',p',q1,rfl,-,-,q4⟩|⟨X',s',p',rfl,q1,q2,q3,q4,q5,q6,q7,q8⟩⟩
   ·exact absurd ⟨rfl,rfl⟩ q4
   ·have H:Ys wr W4:=J.o.1.trans (hm.belowC J.o.1.size λk B e=>by have e:k=wr.heap.size:=e;omega)
    have B4:=m.o.blk.call H;have z:∀q,X'.G q->wr.heap.size<=q:=λq hq=>by
     rcases q7 q hq with h|h
     ·have h:q=wr.heap.size:=h;omega
     ·exact Vi J.o.1.size h
    have Y:=oJ (P:=prog) (ty:=71) (o:=1+j*2) (cells:=#[Yr X'.d,Yr X'.u]) B4 (FY _ _) (by show 1+j*2+2<=15;omega) (by simp[Value.oneCell']);rw[Hp _ _ _ _ _ _ _ j V]at Y;have m2:ah (cj (w.heap.size+1)) W4 (W4.setRow (w.heap.size+1) (Bg n (tI (j+1) (iD (λk=>(X k).d) j X'.d)) (tI (j+1) (iD (λk=>(X k).u) j X'.u)) w.heap.size 0)):=ah.of_fr1 (aM W4 _ _) rfl;have δ:=m.o.blk.lt;have α:QB w (W4.setRow (w.heap.size+1) (Bg n (tI (j+1) (iD (λk=>(X k).d) j X'.d)) (tI (j+1) (iD (λk=>(X k).u) j X'.u)) w.heap.size 0)) n (j+1) (iD X j X') (iD s j s') (iD p j p'):=by
     have e1:(λk=>(iD X j X' k).d)=iD (λk=>(X k).d) j X'.d:=funext λk=>by
      by_cases e:k=j
      ·subst e;rw[bG,bG]
      ·rw[bR _ _ e,bR _ _ e]
     have e2:(λk=>(iD X j X' k).u)=iD (λk=>(X k).u) j X'.u:=funext λk=>by
      by_cases e:k=j
      ·subst e;rw[bG,bG]
      ·rw[bR _ _ e,bR _ _ e]
     have l:∀k,k<j+1->k≠j->k<j:=λk h1 h2=>by omega
     refine⟨?_,(m.o.ne.call H).mod m2 (λq hq e=>?_) (λq e=>?_),λk B=>?_,λk B q hq=>?_,λa b ha hb I q A v=>?_,λk B=>?_⟩
     ·rw[e1,e2]
      exact ax B4 _
     ·have e:q=w.heap.size+1:=e
      rcases hq with hq|hq|⟨x,hx,-⟩
      ·omega
      ·cases hq
      ·cases hx
     ·have e:q=w.heap.size+1:=e
      omega
     ·by_cases e:k=j
      ·subst e
       simp only[bG];exact q1.mod m2 λq hq e=>by
        have e:q=w.heap.size+1:=e;have:=z q hq;omega
      ·simp only[bR _ _ e]
       exact((m.o.si k (l k B e)).call H).mod m2 λq hq e'=>by
        have e':q=w.heap.size+1:=e';have:=m.o.gt k (l k B e) q hq;omega
     ·by_cases e:k=j
      ·subst e
       simp only[bG]at hq;have:=z q hq;omega
      ·simp only[bR _ _ e]at hq
       exact m.o.gt k (l k B e) q hq
     ·by_cases ea:a=j
      ·subst ea
       simp only[bG]at A;simp only[bR _ _ (V1 I)]at v;have:=z q A;have:=(m.o.si b (l b hb (V1 I))).inh q v;omega
      ·simp only[bR _ _ ea]at A
       by_cases eb:b=j
       ·subst eb
        simp only[bG]at v;have:=z q v;have:=(m.o.si a (l a ha ea)).inh q A;omega
       ·simp only[bR _ _ eb]at v
        exact m.o.ds a b (l a ha ea) (l b hb eb) I q A v
     ·by_cases e:k=j
      ·subst e
       simp only[bG];exact⟨q8 rfl,q3,q4,q5,by simpa using q6⟩
      ·simp only[bR _ _ e]
       exact m.o.pr k (l k B e)
    have H5:=U9 α;rw[q2]at Y;have lc:=B4.lt;have fc:=B4.frozen;clear hm q1 q3 q4 q5 q6 q7 q8 H B4 z m2 α CD;go_wp2_with fail;go_roundw
    case rel=>exact⟨j+1,by omega,by go_num,_,_,_,q2▸H5.o⟩
    case measure=>simp[intOf];omega
  ·obtain rfl:j=6:=by omega
   go_wp2_with fail;go_ret2;obtain⟨C,hC,hF⟩:=m.o.full h1 h6;exact⟨_,C,rfl,hC,hF,hC.ne.T.below⟩
end
