import Derived.Test.YtghdobdjfnimmaaGreatDoorZ34
set_option maxRecDepth 100000
set_option maxHeartbeats 0
set_option linter.all false
namespace Go.Proofs.YtghdobdjfnimmaaGreatDoor
open Go.Proofs.Tryz
variable{w w0:Yu}{c g N n:Nat}{s:cE}{x:eE}
section
open Go.RowKit Go
def QH(c a:Nat):Array Yv:=#[Yr c,Yr a]
structure i7(w0 w:Yu)(g c:Nat)(C:aN)(N:Nat)(B:jI)(m:cA):Prop where
 blk:ai w g 66 (QH c B.b)
 cl:bg w0 w c C N
 au:el w B m
 ok:m.ok
 gb:w0.heap.size<=g
 ab:∀q,B.F q->w0.heap.size<=q
 gc:¬C.G c g
 ga:¬B.F g
 ca:iB (C.G c) B.F
section
variable{w0 w w':Yu}{g c N:Nat}{C:aN}{B:jI}{m:cA}
def Fb(c:Nat)(C:aN)(B:jI)(g:Nat):Nat->Prop:=λq=>q=g\/C.G c q\/B.F q
theorem i7.mod{G:Nat->Prop}(h:i7 w0 w g c C N B m)(k:ah G w w')(d:iB (Fb c C B g) G)(f:∀q,G q->w0.heap.size<=q):i7 w0 w' g c C N B m:=
 ⟨k.blk h.blk λe=>d g (.inl rfl) e,h.cl.mod k (λq a b=>d q (.inr (.inl a)) b) f,h.au.mod k λq a b=>d q (.inr (.inr a)) b,h.ok,h.gb,h.ab,h.gc,h.ga,h.ca⟩
theorem i7.call(h:i7 w0 w g c C N B m)(a:Ys w w'):i7 w0 w' g c C N B m:=h.mod (ah.of_below (F:=cM) a) (λ_ _ h=>h) λ_ h=>h.elim
end
theorem ke{a:Nat}(h:ai w g 66 (QH c a)):Yt 7 #[Yr g] w λr w'=>r=.returned (Yr c)/\w=w':=by
 have b:w.cell? ⟨g,0,none⟩=some (Yr c):=h.cell 0;have d:=h.frozen;have e:=h.lt;clear h;go_enter func7,ntmps7;go_wp2_with fail;go_ret;exact⟨rfl,rfl⟩
theorem wt{C:aN}{B:jI}{m:cA}(h:i7 w0 w g c C N B m){id:Int}(hid:aT id):Yt 11 #[Yr g,.int .u64 id] w λr w'=>r=.returned (.tuple #[.int .i64 (iq m id).1,.int .i64 (iq m id).2.1,.int .i64 (iq m id).2.2])/\Ys w w':=by
 have i:w.cell? ⟨g,1,none⟩=some (Yr B.b):=h.blk.cell 1;have j:=h.blk.frozen;have f:=h.blk.lt;have a:=U9 (MZ h.au h.ok hid);clear h;go_enter func11,ntmps11;go_wp2_with fail;refine a.o.mono ?_;rintro r e ⟨rfl,d⟩;go_wp2_with fail;exact VF (v:=.tuple #[.int .i64 (iq m id).1,.int .i64 (iq m id).2.1,.int .i64 (iq m id).2.2]) (by simp[results,results11]) rfl ⟨rfl,d⟩
def Hy(w:Yu)(n:Nat)(x:Ending)(w':Yu):Prop:=∃g c C B,x=.returned (.tuple #[Yr g,.int .i64 0])/\i7 w w' g c C 50000 B cA.zero/\oR C n/\Ys w w'
theorem Im(G:1<=n)(D:n<=6)(z:dh w):Yt 6 #[.int .i64 n] w (Hy w n):=by
 have E:=U9 (P9 G D z);clear z;go_enter func6,ntmps6;go_wp2_with fail;refine E.o.mono ?_;rintro r F ⟨c,C,rfl,y,hF,k⟩;have t:=U9 (Vb y (Vb hF k));clear y hF k;go_wp2_with fail;refine(Qg F).mono ?_;rintro r v ⟨B,rfl,A,u,p⟩;have e:=U9 (Vb A (Vb u p));clear A u p;go_wp2_with fail;go_ret2;have f:Ys v (v.alloc (.cells (QH c B.b) 66)):=(Vd _ _).alloc (Vc _) _;have i:=t.o.1.call e.o.2.2;have d:=t.o.2.2.size;have l:=e.o.2.2.size;refine⟨v.heap.size,c,C,B,rfl,⟨ai.new _ _ _,i.call f,e.o.1.call f,⟨(λ_ h=>by cases h),(λ_ h=>by cases h)⟩,Vi d l,λq j=>Vi d (e.o.2.1 q j),λj=>by have:=i.inh _ j;omega,λj=>by have:=e.o.1.inh _ j;omega,λq a b=>by have:=t.o.1.inh q a;have:=e.o.2.1 q b;omega⟩,t.o.2.1,(t.o.2.2.trans (e.o.2.2.mono d)).trans (f.mono (Vi d l))⟩
theorem bV.tightA{r k:Nat}{R:gI}(h:bV w r k R n):bV w r k R.tight n/\(∀q,R.tight.F r q->R.F r q)/\∀q cs,R.tight.F r q->¬ai w q 55 cs:=by
 have d:∀q,R.tight.FD q->R.FD q:=λq hq=>by
  rcases hq with rfl|rfl|⟨x,o,e⟩
  ·exact h.dem.fd
  ·exact h.dem.fm
  ·obtain⟨E,l,-,z⟩:=h.dem.els x o
   rw[e]at l;injection l with l;exact l▸z
 have hF:∀q,R.tight.F r q->R.F r q:=λq hq=>by
  rcases hq with hq|hq|hq|hq|hq|hq
  ·exact .inl hq
  ·exact .inr (.inl hq)
  ·exact .inr (.inr (.inl hq))
  ·exact .inr (.inr (.inr (.inl hq)))
  ·exact .inr (.inr (.inr (.inr (.inl hq))))
  ·exact .inr (.inr (.inr (.inr (.inr (d q hq)))))
 have j:=h.ap;refine⟨⟨h.blk,h.led,h.ok,h.log,h.bs,h.hold,h.hok,h.peer,h.pok,⟨h.dem.blk,h.dem.map,λx o=>?_,h.dem.len,.inl rfl,.inr (.inl rfl),λq hq=>h.dem.inh q (d q hq)⟩,
  ⟨j.ab,j.ac,j.ad,j.ae,λq a b=>j.af q a (d q b),j.bc,j.bd,j.be,λq a b=>j.bf q a (d q b),j.cd,j.ce,λq a b=>j.cf q a (d q b),j.de,λq a b=>j.df q a (d q b),λq a b=>j.ef q a (d q b)⟩,h.cn,h.sn,h.k6⟩,hF,λq cs hq f=>?_⟩
 ·obtain⟨q,e,A,-⟩:=h.dem.els x o
  exact⟨q,e,A,.inr (.inr ⟨x,o,e⟩)⟩
 ·rcases hq with rfl|hq|hq|hq|rfl|hq
  ·exact absurd (ai.type_eq f h.blk).1 (by decide)
  ·rcases hq with rfl|rfl|rfl|rfl|rfl|rfl|rfl
   ·exact absurd (ai.type_eq f h.led.blk).1 (by decide)
   ·exact absurd (ai.type_eq f h.led.tre.blk).1 (by decide)
   ·exact h.led.tre.map.ne_blk f rfl
   ·exact h.led.pa.ne_blk f rfl
   ·exact h.led.ri.ne_blk f rfl
   ·exact h.led.gr.ne_blk f rfl
   ·exact h.led.qs.ne_blk f rfl
  ·rcases hq with rfl|⟨i,hi,e⟩
   ·exact absurd (ai.type_eq f h.log.blk).1 (by decide)
   ·change (R.v i).ownBlock=some q at e
    rcases(h.log.row i hi).2 with⟨t,-⟩|⟨g,cap,cur,t,-,y,-⟩
    ·rw[t]at e;cases e
    ·rw[t]at e
     injection e with e;subst e;exact absurd (ai.type_eq f y).1 (by decide)
  ·rcases hq with rfl|rfl
   ·exact absurd (ai.type_eq f h.hold.blk).1 (by decide)
   ·obtain⟨J,H,D,-⟩:=h.hold.map.ex
    have p:w.heap[R.hm]? =_:=f;rw[D]at p;cases p
  ·exact absurd (ai.type_eq f h.peer).1 (by decide)
  ·rcases hq with rfl|rfl|⟨x,o,e⟩
   ·exact absurd (ai.type_eq f h.dem.blk).1 (by decide)
   ·exact h.dem.map.ne_blk f rfl
   ·obtain⟨E,l,⟨L,K,I,G,u,-⟩,-⟩:=h.dem.els x o
    rw[e]at l;injection l with l;subst l;exact absurd (ai.type_eq f u).1 (by decide)
theorem bI.tightA{F:Nat->Prop}{d:Nat}{n:cE}{M:Option dQ}{p:Pw}(h:bI w F d s n M p):bI w (λq=>F q/\∀cs,¬ai w q 55 cs) d s n M p:=by
 have r:∀{q:Nat} {t:Yw} {cs:Array Yv},ai w q t cs->t≠55->∀u,¬ai w q 55 u:=λk E u D=>E (ai.type_eq k D).1
 have i:∀{A:Option Addr} {l:List Int} {c:Nat},bA w A l c->vZ F A l->vZ (λq=>F q/\∀cs,¬ai w q 55 cs) A l:=λI H b o e f=>by
  obtain⟨L,o',cs,v,k,-⟩:=I.blk f;rw[e]at v;injection v with v;injection v with J y;subst J;exact⟨H b o e f,r k (by decide)⟩
 obtain⟨K,k,f⟩:=h.blk;refine⟨⟨K,k,?_⟩,h.hs,h.hn,i h.hs h.sf,i h.hn h.nf,⟨h.fd,r k (by decide)⟩,h.ok,h.sl,h.nl,λq G=>h.inh q G.1⟩;cases M with
 |none=>exact f
 |some x=>
  refine⟨f.1,λg j=>⟨f.2.1 g j,?_⟩,?_⟩
  ·rcases f.1.2 with⟨y,-⟩|⟨O,cap,cur,y,-,z,-⟩
   ·rw[y]at j;cases j
   ·rw[y]at j
    injection j with j;subst j;exact r z (by decide)
  ·have a:=f.2.2
   cases x with
   |app bx A l c=>exact⟨a.1,a.2.1,⟨a.2.2.1,r a.1 (by decide)⟩,i a.2.1 a.2.2.2⟩
   |cut bf bn n=>exact⟨a.1,⟨a.2.1,r a.1.head (by decide)⟩,⟨a.2.2,r a.1.drop.head (by decide)⟩⟩
theorem sj.tightA{F:Nat->Prop}{d:Nat}{p:Pw}(h:sj w F d s p):sj w (λq=>F q/\∀cs,¬ai w q 55 cs) d s p:=by
 rcases h with⟨a,b⟩|⟨a,n,M,b,e⟩
 ·exact .inl ⟨a,b.tightA⟩
 ·exact .inr ⟨a,n,M,b.tightA,e⟩
def fT.tightA(w:Yu)(X:fT):fT:={X with R:=X.R.tight,F:=λq=>X.F q/\∀cs,¬ai w q 55 cs}
theorem dl.tightA{k:Nat}{X:fT}{p:Pw}(h:dl w k X n s p):dl w k (X.tightA w) n s p/\(∀q,(X.tightA w).G q->X.G q)/\∀q cs,(X.tightA w).G q->¬ai w q 55 cs:=by
 obtain⟨i,d,f⟩:=h.re.tightA;refine⟨⟨h.du,i,h.jo,h.dk.tightA,h.lv,h.uj,λhq=>h.uF hq.1,λhq=>h.jF hq.1,λhq=>h.uR (d _ hq),λhq=>h.jR (d _ hq),λq a b=>h.rF q (d q a) b.1⟩,λq hq=>?_,λq cs hq e=>?_⟩
 ·rcases hq with hq|hq|hq|hq
  ·exact .inl hq
  ·exact .inr (.inl hq)
  ·exact .inr (.inr (.inl (d q hq)))
  ·exact .inr (.inr (.inr hq.1))
 ·rcases hq with hq|hq|hq|hq
  ·have hq:q=X.u:=hq
   subst hq;exact absurd (ai.type_eq e h.du).1 (by decide)
  ·have hq:q=X.j:=hq
   subst hq;exact absurd (ai.type_eq e h.jo).1 (by decide)
  ·exact f q cs hq e
  ·exact hq.2 cs e
def aN.tightA(w:Yu)(C:aN):aN:={C with X:=λk=>(C.X k).tightA w}
theorem bg.tightA{C:aN}(h:bg w0 w c C N):bg w0 w c (C.tightA w) N/\(∀q,(C.tightA w).G c q->C.G c q)/\∀q cs,(C.tightA w).G c q->¬ai w q 55 cs:=by
 have i:∀k,k<6->∀q,((C.X k).tightA w).G q->(C.X k).G q:=λk d=>(h.si k d).tightA.2.1
 refine⟨⟨h.blk,h.n1,h.n6,λk d=>(h.si k d).tightA.1,h.ne,h.ml,h.nw,h.cb,λk d q hq=>h.xb k d q (i k d q hq),λk d hq=>h.cx k d (i k d _ hq),h.cn,λj k p d o q a b=>h.xx j k p d o q (i j p q a) (i k d q b),λk d q a b=>h.xn k d q (i k d q a) b⟩,λq hq=>?_,λq cs hq l=>?_⟩
 ·rcases hq with hq|⟨k,d,hq⟩|hq
  ·exact .inl hq
  ·exact .inr (.inl ⟨k,d,i k d q hq⟩)
  ·exact .inr (.inr hq)
 ·rcases hq with rfl|⟨k,d,hq⟩|hq
  ·exact absurd (ai.type_eq l h.blk).1 (by decide)
  ·exact(h.si k d).tightA.2.2 q cs hq l
  ·rcases hq with rfl|hq|⟨x,hx,hq⟩
   ·exact absurd (ai.type_eq l h.ne.blk).1 (by decide)
   ·replace hq:C.sv.ownBlock=some q:=hq
    rcases h.ne.own.2 with⟨e,-⟩|⟨t,cap,cur,e,-,f,-⟩
    ·rw[e]at hq;cases hq
    ·rw[e]at hq
     injection hq with hq;subst hq;exact absurd (ai.type_eq l f).1 (by decide)
   ·obtain⟨u,-,r⟩:=h.ne.evs.left hx
    rcases r.own.2 with⟨e,-⟩|⟨t,cap,cur,e,-,f,-⟩
    ·rw[e]at hq;cases hq
    ·rw[e]at hq
     injection hq with hq;subst hq;exact absurd (ai.type_eq l f).1 (by decide)
def wd(L:List Sq):Bool:=decide (L.length<=70)&&L.all λx=>decide (x.s.pk.length<=20)
theorem PA{A:Option Addr}{L:List Sq}(h:RowsIn w 16 Nv A L c):Yt 4 #[.slice A L.length c] w λr w'=>r=.returned (.bool (wd L))/\w=w':=by
 have O:=h.mx;have K:=h.le;have J:maxLen<=9223372036854775807:=by decide
 have z:=U9 h;by_cases a:L.length<=70
 ·have f:=U9 (show wd L=L.all λx=>decide (x.s.pk.length<=20)by unfold wd;rw[Vg a,Bool.true_and])
  generalize wd L=F at f⊢;clear h;go_enter func4,ntmps4;go_wp2_with fail
  go_loopw [3] (λi wr=>∃j:Nat,j<=L.length/\i=.int .i64 j/\w=wr/\∀x∈L.take j,x.s.pk.length<=20) (λi _=>L.length-(intOf i).toNat)
  case atStart=>exact⟨0,by omega,rfl,rfl,by simp⟩
  case round=>
   obtain⟨j,P,rfl,rfl,u⟩:=hrel;have E:=U9 u;clear u;by_cases l:j<L.length
   ·have G:decide ((j:Int)<L.length)=true:=Vg (by omega)
    obtain⟨y,p⟩:∃y,L[j]? =some y:=⟨L[j],Ve l⟩;obtain⟨b,o,rfl,M,D⟩:=z.o.at_ pg (by decide) p;have H:w.cell? ⟨b,o+j*16+11,none⟩=some (.slice y.s.pa y.s.pk.length y.s.pc):=D 11 _ rfl;have v:=U9 p;clear D p;by_cases t:y.s.pk.length<=20
    ·have k:decide ((20:Int)<y.s.pk.length)=false:=Vj (by omega)
     have ve:∀x∈L.take (j+1),x.s.pk.length<=20:=λx q=>by
      rw[VN,v.o]at q;rcases Vw.1 q with h|h
      ·exact E.o x h
      ·obtain rfl:x=y:=by simpa using h
       exact t
     have I:=U9 ve;clear ve;go_wp2_with fail;go_roundw
     case rel=>exact⟨j+1,by omega,by go_num,trivial,I.o⟩
     case measure=>simp[intOf];omega
    ·have k:decide ((20:Int)<y.s.pk.length)=true:=Vg (by omega)
     obtain rfl:F=false:=by
      rw[f.o,List.all_eq_false];exact⟨y,Vn v.o,by simpa using t⟩
     clear f;go_wp2_with fail;go_ret;exact⟨rfl,rfl⟩
   ·obtain rfl:j=L.length:=by omega
    have G:decide ((L.length:Int)<L.length)=false:=Vj (by omega);obtain rfl:F=true:=by rw[f.o,Wl];exact λx q=>Vg (E.o x (by rwa[WN]))
    clear f;go_wp2_with fail;go_ret;exact⟨rfl,rfl⟩
 ·have e:wd L=false:=by unfold wd;rw[Vj a,Bool.false_and]
  rw[e];have d:decide ((70:Int)<L.length)=true:=Vg (by omega);clear h z;go_enter func4,ntmps4;go_wp2_with fail;go_ret;exact⟨rfl,rfl⟩
def Tt(C:aN)(k:Nat)(x:eE)(a:aN)(E:Ev)(e:Int):Prop:=
 (C.up k=false/\E=Ev.zero/\e=8)\/(C.up k=true/\No (cH (C.X k).R.m k x.ask).1 (cH (C.X k).R.m k x.ask).2.1 (cH (C.X k).R.m k x.ask).2.2 (C.s k) (C.p k) E e (a.X k) (a.s k) (a.p k))
def Ih(C:aN)(x:eE)(a:aN)(E:Ev)(e:Int):Prop:=x.d=1->aT E.s/\((∃k:Nat,k<6/\x.w=(k:Int)+1/\Tt C k x a E e)\/(¬(1<=x.w/\x.w<=6)/\E=Ev.zero/\e=10))
theorem Q8.p{C i:aN}{E:Ev}{e:Int}(l:∀k,k<6->(C.X k).R.m.ok)(q:x.ask.ok)(h:Q8 C x i E e):Ih C x i E e:=λj=>by
 have z:aT Ev.zero.s:=⟨by decide,by decide⟩;rcases h j with⟨k,b,f,h|⟨d,X',s',p',rfl,a⟩⟩|⟨d,-,a,o⟩
 ·exact⟨h.2.1▸z,.inl ⟨k,b,f,.inl ⟨h.1,h.2.1,h.2.2.1⟩⟩⟩
 ·refine⟨?_,.inl ⟨k,b,f,.inr ⟨d,?_⟩⟩⟩
  ·rcases a.2 with⟨-,h,-⟩|⟨-,⟨-,h,-⟩|⟨-,h,-⟩,-⟩
   ·rw[h];exact z
   ·rw[h];exact(ir (l k b) b q).2.2.s
   ·rw[h];exact z
  ·show No _ _ _ _ _ _ _ (iD C.X k X' k) (iD C.s k s' k) (iD C.p k p' k)
   rw[bG,bG,bG];exact a
 ·exact⟨a▸z,.inr ⟨d,a,o⟩⟩
theorem iC.sinceA{k e W:Yu}{o:Nat}{C f:aN}{r:Nat->Prop}(j:Ys w k)(S:iC w0 k e c C f N)(g:cR [55] r o e W)(hF:∀q,¬r q)(H:w0.heap.size<=o)(E:ah (C.G c) w W):
  iC w0 w W c C (f.tightA e) N/\∀q cs,(f.tightA e).G c q->¬ai W q 55 cs:=by
 obtain⟨u,v,l⟩:=S.at_.tightA;have p:∀q,(f.tightA e).G c q->W.heap[q]? =e.heap[q]?:=λq d=>by
  rcases g.block q (u.inh q d)with h|⟨-,⟨cs,t,A,i⟩,-⟩|h
  ·exact h
  ·rw[VH.1 A]at i
   exact absurd i (l q cs d)
  ·exact absurd h (hF q)
 have m:ah (λq=>w0.heap.size<=q/\¬(f.tightA e).G c q) e W:=⟨g.os,g.tape,g.output,g.size,λq d D=>by
  by_cases h:(f.tightA e).G c q
  ·exact p q h
  ·have y:q<w0.heap.size:=Nat.lt_of_not_le λz=>D ⟨z,h⟩
   rcases g.block q d with h|⟨F,-⟩|h
   ·exact h
   ·omega
   ·exact absurd h (hF q)⟩
 refine⟨⟨u.mod m (λq a b=>b.2 a) λq h=>h.1,E,λq d=>?_,S.n⟩,λq cs d i=>l q cs d ((p q d).symm.trans i)⟩;rcases S.sub q (v q d)with h|h
 ·exact .inl h
 ·exact .inr (Vi j.size h)
theorem Hx{E b:Ev}{e d:Int}(h:Value.agg (dC E e)=.agg (dC b d)):E=b/\e=d:=by
 obtain⟨o,s,⟨y,G,v,z,A,I⟩,k,n,t,a,r,f⟩:=E;obtain⟨o',s',⟨i,j,u,l,p,q⟩,k',n',t',F,D,H⟩:=b;simp[dC]at h⊢;simp[h]
def SY(w0 w:Yu)(g c:Nat)(C:aN)(N:Nat)(B:jI)(m:cA)(x:eE)(r:Ending)(w':Yu):Prop:=
 ∃E e a,r=.returned (.agg (dC E e))/\i7 w0 w' g c a (N+64) B (if x.d=1 then d9 m x.w x.ask E e else m)/\ah (Fb c C B g) w w'/\Ih C x a E e/\a.n=C.n/\∀q,a.G c q->C.G c q\/w.heap.size<=q
structure Q6(w:Yu)(g c a b:Nat)(x:eE):Prop where
 c0:w.cell? ⟨g,0,none⟩=some (Yr c)
 c1:w.cell? ⟨g,1,none⟩=some (Yr a)
 fr:∀i,w.frozen? ⟨g,i,none⟩=false
 lt:g<w.heap.size
 b0:w.cell? ⟨b,0,none⟩=some (.int .u8 x.d)
 b1:w.cell? ⟨b,1,none⟩=some (.int .i64 x.w)
 fb:∀i,w.frozen? ⟨b,i,none⟩=false
 lb:b<w.heap.size
 ls:(dR 45 (Yr b)).run prog w=.ok (.value (.agg (bD x))) w
 la:(dR 42 (.pointer (some ⟨b,2,none⟩))).run prog w=.ok (.value (.agg (cQ x.ask))) w
theorem Q6.of{a b:Nat}(h:ai w g 66 (QH c a))(d:ai w b 45 (bD x)):Q6 w g c a b x:=
 ⟨h.cell 0,h.cell 1,h.frozen,h.lt,d.cell 0,d.cell 1,d.frozen,d.lt,fB d,Dk d⟩
theorem Bo{C:aN}{B:jI}{m:cA}(h:i7 w0 w g c C N B m)(hN:50000<=N/\N+64<=100000)(hT:dh w)(hK:1<w0.heap.size/\0<w0.heap.size)(ox:x.ok)(xa:x.At w):
  Yt 10 #[Yr g,.agg (bD x)] w (SY w0 w g c C N B m x):=by
 obtain⟨W0,D,B0,D0⟩:=qy w 45 (bD x) 55 (dC Ev.zero 0);have h0:=h.call D0;have α:∀q,Fb c C B g q->q<w.heap.size:=λq hq=>by
  rcases hq with rfl|hq|hq
  ·exact h.blk.lt
  ·exact h.cl.inh q hq
  ·exact h.au.inh q hq
 have HF:=U9 (λ(Y:Yu) (Q:ah (C.G c) W0 Y)=>Q6.of (Q.blk h0.blk h0.gc) (Q.blk B0.drop.head λhG=>by have:=α _ (.inr (.inl hG));omega));have CA:=U9 (λ(Y:Yu) (z:Ys W0 Y)=>SL (h0.cl.call z) hN ((hT.call' D0).call' z) hK ox ((xa.call D0).call z));have A:=U9 (show∀q,C.G c q->q<W0.heap.size from λq hq=>h0.cl.inh q hq);have HW:=U9 D;have f:=U9 (Vb h0 (Vb B0 (Vb D0 α)));clear h hT xa B0 D0 h0 α D;go_enter func10,ntmps10;go_upto_region 1 with fail;generalize hg:(w.alloc _).alloc _=X0;obtain rfl:W0=X0:=HW.o.trans hg;clear HW hg;go_upto_region 3 with fail;refine ay [55] (C.G c) 5 A.o (by kernel_rfl) (by kernel_rfl) ?_
 iterate 5
  first
  |refine bT rfl ?_;apply aA
   ·intro _ ρ X M P W z;have hq:=HF.o W z;simp[execOp,go_sem,X,M,P,hq,hq.c0,hq.fr,hq.lt,hq.fb,hq.lb,hq.ls]<;>exact rfl
  |refine al (λ_=>rfl) ?_
  simp only[UW,UX,UY,UZ]
 refine bP (λ_=>rfl) rfl 18 (λ_=>#[Yr c,.agg (bD x)]) (λv:Ev×Int=>.agg (dC v.1 v.2)) (Ev.zero,0) (λY v Y'=>∃E e K,v=.agg (dC E e)/\iC w0 Y Y' c C K (N+64)/\Q8 C x K E e) (λ_ w=>by simp[execOp,go_sem]<;>rfl) (λ_ Y z=>?ca) ?_
 case ca=>
  refine(CA.o Y z).mono ?_;rintro r Y' ⟨E,e,K,rfl,hS,hQ⟩;exact⟨(E,e),rfl,⟨E,e,K,rfl,hS,hQ⟩,hS.mod⟩
 simp only[UW,UX,UY,UZ];refine eW (λ_=>rfl) 55 (dC Ev.zero 0) (λ_ _=>by simp[execOp,go_sem]<;>exact rfl) ?_;simp only[UW,UX,UY,UZ];refine cZ (λ_=>rfl) 6 55 55 15 _ _ rfl (by decide) rfl (by simp) A.o _ _ _ (λ_=>rfl) (λ_=>rfl) (λ_=>by repeat (first|exact Vs ⟨rfl,rfl,rfl⟩|apply Vr)) (aV Ev.zero 0) (λ_=>rfl) (λ_=>zd _ _) ?_;simp only[UW,UX,UY,UZ];refine aK (by kernel_rfl) ?_;rintro⟨⟨_,⟨E,e⟩⟩,v⟩ y t L;replace t:ah (C.G c) W0 y:=t
 try dsimp only
 simp only[U0,U1,U2,U3,Nat.reduceAdd,Vk]at L;obtain⟨w1,w2,J,-,⟨E',e',K,l,hS,hQ⟩,g4⟩:=bJ (L 5 _ _ (by repeat (first|exact Vs ⟨rfl,rfl,rfl⟩|apply Vr))) rfl;obtain⟨b5,v',hx,n6,B6⟩:∃g v',[v,Value.agg (dC E e)]=[Yr g,v']/\W0.heap.size<=g/\ai y g 55 (Value.toArr v'):=L 7 _ _ (by repeat (first|exact Vs ⟨rfl,rfl,rfl⟩|apply Vr));injection hx with h6 U;injection U with U;subst h6 U;replace B6:ai y b5 55 (dC E e):=B6;obtain⟨rfl,rfl⟩:=Hx l;have hP:=hQ.p (λk hk=>(f.o.1.cl.si k hk).re.ok) ox.ask;obtain⟨I,hA⟩:=iC.sinceA (J rfl) hS g4 (λ_ h=>h.1 rfl) f.o.1.cl.ne.T.below.size t;have Z:Ih C x (K.tightA w2) E e:=hP;have u:=I.sub;have V:¬(K.tightA w2).G c (w.heap.size+1):=λhG=>hA _ _ hG (t.blk f.o.2.1.head λh=>by have:=f.o.2.2.2 _ (.inr (.inl h));omega)
 generalize K.tightA w2=C2 at I hA Z u V;have ζ:=f.o.2.2.1.size;have R:i7 w0 y g c C2 (N+64) B m:=⟨t.blk f.o.1.blk f.o.1.gc,I.at_,f.o.1.au.mod t f.o.1.ca.symm,f.o.1.ok,f.o.1.gb,f.o.1.ab,λhG=>by
  rcases u g hG with h|h
  ·exact f.o.1.gc h
  ·have:=f.o.2.2.2 g (.inl rfl);omega,f.o.1.ga,λq a b=>by
  rcases u q a with h|h
  ·exact f.o.1.ca q h b
  ·have:=f.o.2.2.2 q (.inr (.inr b));omega⟩
 have hr:ai y (w.heap.size+1) 55 (dC Ev.zero 0):=t.blk f.o.2.1.head λh=>by have:=f.o.2.2.2 _ (.inr (.inl h));omega
 have hs:ai y w.heap.size 45 (bD x):=t.blk f.o.2.1.drop.head λh=>by have:=f.o.2.2.2 _ (.inr (.inl h));omega
 have m0:ah (Fb c C B g) w y:=(ah.of_below f.o.2.2.1).trans (t.mono λq hq=>.inr (.inl hq));have γ:=U9 V;have O:=U9 Z;have δ:=U9 (Vb I.n (show∀q,C2.G c q->C.G c q\/w.heap.size<=q from λq hq=>(u q hq).imp id λh=>Vi ζ h));have k0:y.cell? ⟨w.heap.size,0,none⟩=some (.int .u8 x.d):=hs.cell 0;have fk:=hs.frozen;have θ:=hs.lt;have j:=U9 (Vb R (Vb m0 (Vb hs (Vb B6 hr))));have N6:=U9 n6;clear t L J hS hQ g4 n6 B6 l hP I hA Z u V R hr hs m0 HF CA A ζ;by_cases hd:x.d=1
 ·have μ:(x.d==1)=true:=by simpa using hd
  have β:=j.o.1.au;have H:∀q,w.heap.size<=q->¬B.F q:=λq h1 R=>by have:=f.o.2.2.2 q (.inr (.inr R));omega
  have D:=f.o.2.2.1.size;have HF:=U9 (λ(Y:Yu) (Q:ah B.F y Y)=>Vb (Q6.of (Q.blk j.o.1.blk j.o.1.ga) (Q.blk j.o.2.2.1 (H _ (Vc _)))) (Vb (uW (Q.blk j.o.2.2.2.1 (H _ (Vi D N6.o)))) (Q.blk j.o.2.2.2.1 (H _ (Vi D N6.o))).lt));have CA:=U9 (λ(Y:Yu) (z:Ys y Y)=>Qf (β.call z) ox.w ox.ask (O.o hd).1 (e:=e));have A:=U9 (show∀q,B.F q->q<y.heap.size from λq hq=>β.inh q hq);have ε:=U9 H;clear β H D;go_upto_region 5 with fail;refine ay [] B.F 9 A.o (by kernel_rfl) (by kernel_rfl) ?_
  iterate 9
   first
   |refine bT rfl ?_;apply aA
    ·intro _ ρ X M P W z;have hq:=HF.o W z;simp[execOp,go_sem,X,M,P,hq,hq.1.c1,hq.1.fr,hq.1.lt,hq.1.fb,hq.1.lb,hq.1.b1,hq.1.la,hq.2.1,hq.2.2]<;>exact rfl
   |refine al (λ_=>rfl) ?_
   simp only[UW,UX,UY,UZ]
  refine bP (λ_=>rfl) rfl 19 (λ_=>#[Yr B.b,.int .i64 x.w,.agg (cQ x.ask),.agg (dC E e)]) (λ_:Unit=>.tuple #[]) () (λY v Y'=>jC Y B (d9 m x.w x.ask E e) (.returned v) Y') (λ_ w=>by simp[execOp,go_sem]<;>rfl) (λ_ Y z=>?cb) ?_
  case cb=>
   refine(CA.o Y z).mono ?_;rintro r Y' ⟨rfl,h1,R⟩;exact⟨(),rfl,⟨rfl,h1,R⟩,R⟩
  simp only[UW,UX,UY,UZ];refine aK (by kernel_rfl) ?_;rintro⟨_,_⟩ W4 t L;replace t:ah B.F y W4:=t
  try dsimp only
  simp only[U0,U1,U2,U3,Nat.reduceAdd,Vk]at L;obtain⟨w3,w4,J,-,⟨-,g3,-⟩,g4⟩:=bJ (L 9 _ _ (by repeat (first|exact Vs ⟨rfl,rfl,rfl⟩|apply Vr))) rfl;have h4:i7 w0 W4 g c C2 (N+64) B (d9 m x.w x.ask E e):=⟨t.blk j.o.1.blk j.o.1.ga,j.o.1.cl.mod t j.o.1.ca j.o.1.ab,g3.call (g4.below λ_ h=>h.1 rfl),FZ j.o.1.ok ox.ask,j.o.1.gb,j.o.1.ab,j.o.1.gc,j.o.1.ga,j.o.1.ca⟩;have HE:=U9 (Vb h4 (j.o.2.1.trans' t λq _ hq=>.inr (.inr hq)));have i:=U9 (Vb (t.blk j.o.2.2.2.1 (ε.o _ (Vi f.o.2.2.1.size N6.o))) (t.blk j.o.2.2.2.2 (ε.o _ (XV _))));clear t L J g3 g4 h4 HF CA A k0 fk θ;have η:=uW i.o.1;have ι:=cO i.o.2 rfl E e;have S:ah (cj (w.heap.size+1)) W4 (World.setRow W4 (w.heap.size+1) (dC E e)):=ah.of_fr1 (aM W4 _ _) rfl;have hE:=HE.o.1.mod S (λq hq l=>by
   have l:q=w.heap.size+1:=l;subst l;rcases hq with hq|hq|hq
   ·have:=f.o.2.2.2 g (.inl rfl);omega
   ·exact γ.o hq
   ·have:=f.o.2.2.2 _ (.inr (.inr hq));omega) λq l=>by
   have l:q=w.heap.size+1:=l;have:=f.o.2.2.2 g (.inl rfl);have:=f.o.1.gb;omega
  have hM:=HE.o.2.trans' S λq hq l=>by
   have l:q=w.heap.size+1:=l;omega
  have HX:=U9 (Vb (ax i.o.2 (dC E e)) (Vb hE hM));have lr:=i.o.2.lt;have κ:=i.o.2.frozen;have l5:=i.o.1.lt;have f5:=i.o.1.frozen;clear S hE hM;go_wp2_with fail;exact aE (s:=4) results10 rfl HX.o.1 underlying55 rfl (aV _ _) rfl ⟨E,e,C2,rfl,by rw[Vh hd];exact HX.o.2.1,HX.o.2.2,O.o,δ.o⟩
 ·have μ:(x.d==1)=false:=by simpa using hd
  have HE:=U9 (Vb j.o.1 j.o.2.1);have i:=U9 (Vb j.o.2.2.2.1 j.o.2.2.2.2);have η:=uW i.o.1;have ι:=cO i.o.2 rfl E e;have S:ah (cj (w.heap.size+1)) y (World.setRow y (w.heap.size+1) (dC E e)):=ah.of_fr1 (aM y _ _) rfl;have hE:=HE.o.1.mod S (λq hq l=>by
   have l:q=w.heap.size+1:=l;subst l;rcases hq with hq|hq|hq
   ·have:=f.o.2.2.2 g (.inl rfl);omega
   ·exact γ.o hq
   ·have:=f.o.2.2.2 _ (.inr (.inr hq));omega) λq l=>by
   have l:q=w.heap.size+1:=l;have:=f.o.2.2.2 g (.inl rfl);have:=f.o.1.gb;omega
  have hM:=HE.o.2.trans' S λq hq l=>by
   have l:q=w.heap.size+1:=l;omega
  have HX:=U9 (Vb (ax i.o.2 (dC E e)) (Vb hE hM));have lr:=i.o.2.lt;have κ:=i.o.2.frozen;have l5:=i.o.1.lt;have f5:=i.o.1.frozen;clear S hE hM;go_wp2_with fail;exact aE (s:=4) results10 rfl HX.o.1 underlying55 rfl (aV _ _) rfl ⟨E,e,C2,rfl,by rw[Vf hd];exact HX.o.2.1,HX.o.2.2,O.o,δ.o⟩
end
