import Derived.Test.YtghdobdjfnimmaaGreatDoorZ02
set_option maxRecDepth 100000
set_option maxHeartbeats 0
set_option linter.all false
namespace Go.Proofs.YtghdobdjfnimmaaGreatDoor
open Go.Proofs.Tryz
variable{a:Act}{i id n g cap sz k:Nat}{w:Yu}{l:List Oper}{o:Oper}{t ty:Yw}{v:Yv}{A:Option Addr}{cs:Array Yv}{K:Act->Yu->Prop}{md:Region.Mode}{ops:Array Oper}
section
open Go.RowKit Go
section
variable{P:Program}(w:Yu)
theorem ov(base:Nat)(t ty e:Yw)(i:TypeInfo)(z:Yv)(size bytes:Nat)(M:P.underlying t=some (.slice e))(N:P.info? e=some i)(Y:i.zero=some z)
  (q:i.size=size) (D:i.bytes=bytes) (J:z.cells.size=size) (y:0<size)
  (v:Yv) (n:Nat) (xs:List Yv) (d:w.ownsRow base e size v n xs) (B:Nat) (A:Option Addr) (m c:Nat) (f:List Yv) (X:Rd w B size A m f) (h1:∀u∈f,u.oneCell'=true)
  (x:n+m<=maxLen) (p:(n+m)*bytes<=140737488355328) (h:base<=w.heap.size):
  ∃s w',(Builtin.append_ #[t,t] ty #[v,.slice A m c]).run P w=.ok s w'/\w'.ownsRow base e size s (n+m) (xs++f)/\Below base w w'/\w.grownBy w' v.ownBlock:=by
 have G:∀w',w.grownBy w' v.ownBlock->Below base w w':=λw' hg=>(Vd _ _).grown hg h λk hk=>(d.lt k hk).1
 by_cases hm:m=0
 ·subst hm
  obtain rfl:f=[]:=VM (by simpa using X.1);rcases A with _|ad
  ·refine⟨v,w,?_,by simpa using d,Vd _ _,⟨rfl,rfl,rfl,Vc _,λ_ _ _=>rfl⟩⟩
   rcases d.2 with⟨rfl,rfl⟩|⟨g,cap,cur,rfl,_,_,V,_⟩
   ·simp[Builtin.append_,VD M,sizeOf,typeInfo,N,Builtin.lenOf,Builtin.firstCells]
   ·simp[Builtin.append_,VD M,sizeOf,typeInfo,N,Builtin.lenOf,Builtin.firstCells,V,storeCells]
  ·obtain⟨s,w',r,O,I,_⟩:=XJ (P:=P) w base t ty e i z size bytes M N Y q D J y v n xs d ad 0 c [] (by simp) (λj u H=>by simp at H) (λu H=>by cases H) x p h
   exact⟨s,w',r,O,G w' I,I⟩
 ·obtain⟨b,o,rfl,Z,hc⟩:=X.2 (by omega)
  obtain⟨s,w',r,O,I,_⟩:=XJ (P:=P) w base t ty e i z size bytes M N Y q D J y v n xs d ⟨b,o,none⟩ m c f X.1 (λj u H=>by rw[d6];exact hc j u H) h1 x p h;exact⟨s,w',r,O,G w' I,I⟩
theorem oy(base:Nat)(t ty e:Yw)(i:TypeInfo)(z:Yv)(size bytes:Nat)(D:P.underlying t=some (.slice e))(G:P.info? e=some i)(hz:i.zero=some z)
  (s:i.size=size) (Z:i.bytes=bytes) (ζ:z.cells.size=size) (δ:0<size)
  (v:Yv) (n:Nat) (xs:List Yv) (h:w.ownsRow base e size v n xs) (B:Nat) (A:Option Addr) (m c:Nat) (d:List Yv) (q:Rd w B size A m d) (h1:∀u∈d,u.oneCell'=true)
  (J:n+m<=maxLen) (f:(n+m)*bytes<=140737488355328) (H:base<=w.heap.size):
  ∃X w',(Builtin.append_ #[t,t] ty #[v,.slice A m c]).run P w=.ok X w'/\w'.ownsRow base e size X (n+m) (xs++d)/\Below base w w'/\w.grownBy w' v.ownBlock/\(X.ownBlock=v.ownBlock\/∀b,X.ownBlock=some b->w.heap.size<=b):=by
 obtain⟨X,w',r,h2,h3,h4⟩:=ov (P:=P) w base t ty e i z size bytes D G hz s Z ζ δ v n xs h B A m c d q h1 J f H;refine⟨X,w',r,h2,h3,h4,?_⟩;subst s;subst Z;by_cases hm:m=0
 ·subst hm
  rcases h.2 with⟨rfl,rfl⟩|⟨g,cap,cur,rfl,ε,hg,y,γ,N,M⟩
  ·rcases h2.2 with⟨rfl,_⟩|⟨g',η,θ,rfl,_,ι,_⟩
   ·exact .inl rfl
   ·refine .inr λb hb=>?_
    obtain rfl:g'=b:=by simpa[Value.ownBlock]using hb
    rcases WG g' w.heap.size with β|hge
    ·exfalso
     have Y:=r;rcases A with _|ad
     ·simp[Builtin.append_,VD D,sizeOf,typeInfo,G,Builtin.lenOf,Builtin.firstCells]at Y
     ·simp[Builtin.append_,VD D,sizeOf,typeInfo,G,Builtin.lenOf,Builtin.firstCells,loadCells,loadCellsFrom]at Y
    ·exact hge
  ·obtain rfl:d=[]:=VM (by simpa using q.1)
   left;rcases A with _|ad
   ·simp[Builtin.append_,VD D,sizeOf,typeInfo,G,Builtin.lenOf,Builtin.firstCells,y,storeCells]at r
    rw[<-r.1]
   ·rw[XY (P:=P) w t ty e i D G g n cap cur hg ad 0 c [] (by simp) (λj u hu=>by simp at hu) (λu hu=>by cases hu) y (by rw[N];simp;exact Xh _ y)]at r
    injection r with O _;rw[<-O]
    rfl
 ·obtain⟨b,o,rfl,β,hc⟩:=q.2 (by omega)
  have p:∀j u,d[j]? =some u->w.cell? ((⟨b,o,none⟩:Addr).add j)=some u:=λj u hu=>by rw[d6];exact hc j u hu
  rcases h.2 with⟨rfl,rfl⟩|⟨g,cap,cur,rfl,ε,hg,y,γ,N,M⟩
  ·rw[run_append_nil (P:=P) w t ty e i z D G hz ⟨b,o,none⟩ m c d q.1 p (by omega) (by simp only[maxLen]at J;omega) (by have hb:=f;simp only[Vk]at hb;omega)]at r
   injection r with O _;rw[<-O];refine .inr λb' V=>?_
   have:w.heap.size=b':=by simpa[Value.ownBlock]using V
   omega
  ·by_cases x:n+m<=cap
   ·rw[XY (P:=P) w t ty e i D G g n cap cur hg ⟨b,o,none⟩ m c d q.1 p h1 x (by rw[q.1,N,<-Nat.add_mul];exact Xh _ x)]at r
    injection r with O _;rw[<-O];exact .inl rfl
   ·have I:∀j u,xs[j]? =some u->w.cell? ((⟨g,0,none⟩:Addr).add j)=some u:=h.cells (g:=g) rfl
    rw[run_append_grow (P:=P) w t ty e i z D G hz ⟨g,0,none⟩ n cap xs h.1 I ⟨b,o,none⟩ m c d q.1 p (by omega) (by simp only[maxLen]at J;omega) (growslice_fits (by omega) f)]at r;injection r with O _;rw[<-O];refine .inr λb' V=>?_
    have:w.heap.size=b':=by simpa[Value.ownBlock]using V
    omega
end
def cC{α:Type}(c:α->Array Yv)(L:List α):List Yv:=L.flatMap λx=>(c x).toList
section
variable{α:Type}{c:α->Array Yv}{sz:Nat}
theorem kx(x:α)(L:List α):cC c (x::L)=(c x).toList++cC c L:=rfl
theorem nX(L M:List α):cC c (L++M)=cC c L++cC c M:=by simp[cC]
theorem vw(x:α):cC c [x]=(c x).toList:=by simp[cC]
theorem bN(b:∀x,(c x).size=sz)(L:List α):(cC c L).length=L.length*sz:=by
 induction L with
 |nil=>simp[cC]
 |cons x L ih=>rw[kx,Vl,ih,VW,b,VB,Nat.succ_mul];omega
theorem i6(f:∀x,(c x).size=sz){L:List α}{x:α}(h:L[i]? =some x){j:Nat}(m:j<sz):(cC c L)[i*sz+j]? =(c x)[j]?:=by
 induction L generalizing i with
 |nil=>simp at h
 |cons a L ih=>
  have b:((c a).toList).length=sz:=by rw[VW,f]
  cases i with
  |zero=>
   simp at h;subst h;rw[kx,V0 (by rw[b];omega),Xp,Vk,VK]
  |succ i=>
   have d:L[i]? =some x:=by simpa using h
   rw[kx,VY (by rw[b,Nat.succ_mul];omega),b,show(i+1)*sz+j-sz=i*sz+j from by rw[Nat.succ_mul];omega];exact ih d
theorem DU(L:List α)(u:Yv)(h:u∈cC c L):∃x∈L,u∈(c x).toList:=by
 unfold cC at h;obtain⟨x,d,b⟩:=List.mem_flatMap.1 h;exact⟨x,d,b⟩
def Row(w:Yu)(base:Nat)(e:Yw)(sz:Nat)(c:α->Array Yv)(v:Yv)(L:List α):Prop:=w.ownsRow base e sz v L.length (cC c L)
variable{w w':Yu}{base:Nat}{e:Yw}{v:Yv}{L:List α}
theorem Row.sl(h:Row w base e sz c v L):∃A cap,v=.slice A L.length cap/\L.length<=cap/\cap<=maxLen:=by
 obtain⟨A,cap,e,b,d,_⟩:=aF h;exact⟨A,cap,e,b,d⟩
theorem Row.sl_pos(h:Row w base e sz c v L)(p:0<L.length):∃g cap,v=.slice (some ⟨g,0,none⟩) L.length cap/\L.length<=cap/\cap<=maxLen/\base<=g/\g<w.heap.size:=by
 rcases h.2 with⟨rfl,m⟩|⟨g,cap,cur,rfl,j,d,f,b,_⟩
 ·omega
 ·exact⟨g,cap,rfl,f,b,j,(Vv.1 d).1⟩
theorem Row.rng(b:∀x,(c x).size=sz)(h:Row w base e sz c (.slice (some ⟨g,0,none⟩) n cap) L){x:α}(m:L[i]? =some x):zg w g (i*sz) (c x):=λj u d=>by
 have f:j<sz:=by rw[<-b x];exact(Vv.1 d).1
 have:=h.cells (g:=g) rfl (i*sz+j) u (by rw[i6 b m f];exact d);rwa[d6,Vk]at this
theorem Row.blk(h:Row w base e sz c (.slice (some ⟨g,0,none⟩) n cap) L):∃cur,ai w g e cur/\cur.size=cap*sz/\cur.toList.take (L.length*sz)=cC c L/\L.length<=cap/\base<=g:=by
 rcases h.2 with⟨d,_⟩|⟨y,f,cur,d,s,m,q,u,r,p⟩
 ·cases d
 ·injection d with b x j
  injection b with b;injection b with b;subst b;subst j;exact⟨cur,m,r,p,q,s⟩
theorem Row.frozen(h:Row w base e sz c (.slice (some ⟨g,0,none⟩) n cap) L)(i:Nat):w.frozen? ⟨g,i,none⟩=false:=by
 obtain⟨cur,b,_⟩:=h.blk;exact b.frozen i
theorem Row.rd(h:Row w base e sz c v L)(j:v=.slice A n cap):Rd w w.heap.size sz A L.length (cC c L):=by
 subst j;obtain⟨s,b,e,r,q,m⟩:=aF h;injection e with d p f;subst d;subst p;subst f;exact m
theorem Row.call(h:Row w base e sz c v L)(b:Ys w w'):Row w' base e sz c v L:=dE h b
theorem Row.mono{b:Nat}(h:Row w b e sz c v L)(d:base<=b):Row w base e sz c v L:=db h d
theorem Row.nil:Row w base e sz c (.slice none 0 0) []:=WT w base e sz
theorem Row.ge(h:Row w base e sz c v L):∀k,v.ownBlock=some k->base<=k/\k<w.heap.size:=XP h
theorem Row.blocks(h:Row w base e sz c v L)(d:∀g cs,ai w g e cs->ai w' g e cs):Row w' base e sz c v L:=by
 refine⟨h.1,?_⟩;rcases h.2 with f|⟨g,cap,cur,rfl,j,b,rest⟩
 ·exact .inl f
 ·exact .inr ⟨g,cap,cur,rfl,j,d g cur b,rest⟩
end
structure Kt(base:Nat)(ts:List Yw)(w w':Yu):Prop where
 below:Below base w w'
 blk:∀g t cs,ai w g t cs->t∉ts->ai w' g t cs
section
variable{base:Nat}{ts:List Yw}{w w' w'':Yu}
theorem Kt.size(a:Kt base ts w w'):w.heap.size<=w'.heap.size:=a.below.size
theorem ai.call(h:ai w g t cs)(b:Ys w w'):ai w' g t cs:=h.below b h.lt
theorem ai.type_eq{t':Yw}{b:Array Yv}(h:ai w g t cs)(d:ai w g t' b):t=t'/\cs=b:=by
 unfold ai at h d;rw[h]at d;injection d with j;injection j with f m;exact⟨m,f⟩
theorem Kt.row{α:Type}{c:α->Array Yv}{b:Nat}{e:Yw}{L:List α}(k:Kt base ts w w')(h:Row w b e sz c v L)(d:e∉ts):Row w' b e sz c v L:=h.blocks λg cs f=>k.blk g e cs f d
end
def dR(ty:Yw)(x:Yv):Sem Next:=do pure (.value (<-Instr.loadAt ty x))
def eR(ty:Yw)(x y:Yv):Sem Next:=do Instr.storeAt ty x y;pure .skip
def iy(t ty:Yw)(s x:Yv):Sem Next:=do pure (.value (<-Builtin.append_ #[t,t] ty #[s,x]))
section
variable{P:Program}{α:Type}{c:α->Array Yv}{sz:Nat}{w w':Yu}{base:Nat}{e:Yw}{v:Yv}{L:List α}
theorem aY{b o:Nat}{d:TypeDesc}(h:zg w b o cs)(j:P.underlying ty=some d)(f:d.isRow=true)(m:(P.info? ty).map (·.size)=some cs.size):
  (dR ty (.pointer (some ⟨b,o,none⟩))).run P w=.ok (.value (.agg cs)) w:=by
 unfold dR;simp[sG w b o ty cs d h j f m]
theorem oJ{o:Nat}{b cells:Array Yv}(h:ai w g t b)(j:(P.info? ty).map (·.size)=some cells.size)(d:o+cells.size<=b.size)(f:cells.all (·.oneCell')=true):
  (eR ty (.pointer (some ⟨g,o,none⟩)) (.agg cells)).run P w=.ok .skip (w.setRow g (b.toList.take o++cells.toList++b.toList.drop (o+cells.size)).toArray):=by
 unfold eR;simp[Instr.storeAt,Instr.sureAddr,iS w g o t ty b cells h j d f]
theorem oK{s x b:Yv}(h:(Builtin.append_ #[t,t] ty #[s,x]).run P w=.ok b w'):(iy t ty s x).run P w=.ok (.value b) w':=by
 unfold iy;simp[h]
end
structure RowsIn{α:Type}(w:Yu)(sz:Nat)(c:α->Array Yv)(A:Option Addr)(L:List α)(cap:Nat):Prop where
 rd:Rd w w.heap.size sz A L.length (cC c L)
 le:L.length<=cap
 mx:cap<=maxLen
theorem RowsIn.call{α:Type}{w':Yu}{c:α->Array Yv}{L:List α}(h:RowsIn w sz c A L cap)(b:Ys w w'):RowsIn w' sz c A L cap:=⟨(h.rd.below b).mono b.size,h.le,h.mx⟩
theorem RowsIn.at_{α:Type}{c:α->Array Yv}{L:List α}(h:RowsIn w sz c A L cap)(m:∀x,(c x).size=sz)(B:0<sz){x:α}(p:L[i]? =some x):
  ∃b o,A=some ⟨b,o,none⟩/\b<w.heap.size/\zg w b (o+i*sz) (c x):=by
 have q:i<L.length:=(Vx.1 p).1;have r:L.length*sz≠0:=Nat.mul_ne_zero (by omega) (by omega);obtain⟨b,o,z,y,d⟩:=h.rd.2 (by omega);refine⟨b,o,z,y,λj u f=>?_⟩;have s:j<sz:=by rw[<-m x];exact(Vv.1 f).1
 have:=d (i*sz+j) u (by rw[i6 m p s];exact f);rw[VO];exact this
section
variable{P:Program}{ops:Array Oper}{md:Region.Mode}{C:Yu->Prop}{T:Nat->Option Yv}{R:Nat->Yv->Yu->Prop}
def qG(md:Region.Mode)(o:Oper)(k:Nat):Prop:=∃e∈o.after,Region.binds md e=true/\e.on=k
def i9(T:Nat->Option Yv)(i:Nat)(u:Yv):Prop:=∀v,T i=some v->u=v
theorem kp(T:Nat->Option Yv)(i:Nat):∃u,i9 T i u:=by
 cases h:T i with
 |none=>exact⟨undef,λv b=>by rw[h]at b;cases b⟩
 |some v=>exact⟨v,λd b=>by rw[h]at b;cases b;rfl⟩
def nH(P:Program)(C:Yu->Prop)(T:Nat->Option Yv)(R:Nat->Yv->Yu->Prop)(i:Nat)(w:Yu):Result Next->Prop
 |.ok (.value u) w'=>i9 T i u/\C w'/\Ys w w'/\R i u w'
 |.ok (.enter f args) w'=>Calls P f args w' λe w''=>∃u,e=.returned u/\i9 T i u/\C w''/\Ys w w''/\R i u w''
 |_=>False
abbrev aI:=Nat->Yv->Prop
def aI.ins(i:Nat)(u:Yv)(F:aI):aI:=λj v=>(j=i/\v=u)\/F j v
theorem aI.ins_comm(i j:Nat)(u v:Yv)(F:aI):(F.ins i u).ins j v=(F.ins j v).ins i u:=by
 funext k x;simp only[aI.ins,eq_iff_iff];constructor
 ·rintro(h|h|h)
  ·exact .inr (.inl h)
  ·exact .inl h
  ·exact .inr (.inr h)
 ·rintro(h|h|h)
  ·exact .inr (.inl h)
  ·exact .inl h
  ·exact .inr (.inr h)
def Ob(P:Program)(md:Region.Mode)(C:Yu->Prop)(T:Nat->Option Yv)(R:Nat->Yv->Yu->Prop)(i:Nat)(o:Oper)(a:Act)(F:aI):Prop:=
 ∀w,C w->(∀k u,F k u->qG md o k->R k u w)->nH P C T R i w ((execOp a.eval o).run P w)
def uX(P:Program)(md:Region.Mode)(ops:Array Oper)(C:Yu->Prop)(T:Nat->Option Yv)(R:Nat->Yv->Yu->Prop)(i:Nat)(K:Act->aI->Prop)(a:Act)(F:aI):Prop:=
 match ops[i]? with
 |none=>K a F
 |some o=>if Region.wanted o (yielded ops a.tmps)then Ob P md C T R i o a F/\∀u,i9 T i u->K (a.put o.dst u) (F.ins i u)else K (a.put o.dst undef) F
theorem Do{F:aI}{K f:Act->aI->Prop}(h:∀a F,K a F->f a F)(b:uX P md ops C T R i K a F):uX P md ops C T R i f a F:=by
 unfold uX at*;split
 ·exact h _ _ (by simpa[*]using b)
 ·rename_i o j
  simp only[j]at b;split
  ·rename_i d;simp only[d,We]at b;exact⟨b.1,λu m=>h _ _ (b.2 u m)⟩
  ·rename_i d;simp only[d]at b;exact h _ _ b
def oX(P:Program)(md:Region.Mode)(ops:Array Oper)(C:Yu->Prop)(T:Nat->Option Yv)(R:Nat->Yv->Yu->Prop)(Q:Act->aI->Prop):Nat->Array Bool->Act->aI->Prop
 |0,listed,a,F=>Region.ready md ops listed=[]/\Q a F
 |fuel+1,listed,a,F=>
  (Region.ready md ops listed=[]->Q a F)/\
  ∀i∈Region.ready md ops listed,uX P md ops C T R i (oX P md ops C T R Q fuel (listed.setIfInBounds i true)) a F
theorem cK{Q:Act->aI->Prop}{M:Exit->Act->Yu->Prop}(z:∀i u w w',R i u w->Ys w w'->R i u w')(p:∀a F w,C w->(∀k u,F k u->R k u w)->Q a F->M .normal a w):
  ∀(fuel:Nat) (b:Array Bool) (a:Act) (F:aI) (w:Yu),C w->(∀k u,F k u->R k u w)->oX P md ops C T R Q fuel b a F->wpAny P md ops M fuel b a w
 |0,_,_,_,_,hw,hF,h=>⟨h.1,p _ _ _ hw hF h.2⟩
 |fuel+1,b,a,F,w,hw,hF,h=>by
  refine⟨λN=>p _ _ _ hw hF (h.1 N),λi O=>?_⟩;have j:=h.2 i O;unfold uX at j;unfold wpOp;split
  ·rename_i G;simp only[G]at j;exact cK z p fuel _ _ _ _ hw hF j
  ·rename_i o G
   simp only[G]at j;split
   ·rename_i d
    simp only[d,We]at j;obtain⟨D,J⟩:=j;have q:=D w hw λk u B _=>hF k u B
    have m:∀u w',Ys w w'->R i u w'->∀k v,(F.ins i u) k v->R k v w':=λu w' s y k v pU=>by
     rcases pU with⟨rfl,rfl⟩|pU
     ·exact y
     ·exact z _ _ _ _ (hF k v pU) s
    refine .inl ?_;unfold Oper.wp;generalize (execOp a.eval o).run P w=r at q;cases r with
    |ok n w'=>
     cases n<;>simp only[nH]at q<;>simp only[Oper.upon]
     case value u=>
      obtain⟨H,I,s,y⟩:=q;exact cK z p fuel _ _ _ _ I (m u w' s y) (J u H)
     case enter f args=>
      refine q.mono λe w'' ⟨u,V,H,I,s,y⟩=>?_
      subst V;exact cK z p fuel _ _ _ _ I (m u w'' s y) (J u H)
    |halt x w'=>simp only[nH]at q
   ·rename_i d
    simp only[d]at j;exact cK z p fuel _ _ _ _ hw hF j
theorem so{Q:Act->aI->Prop}{r:Oper}(hi:ops[i]? =some r)(N:∀(j:Nat) (o:Oper) cs b,ops[j]? =some o->o.op≠ .select cs b):
  ∀(fuel:Nat) (d:Array Bool) (a:Act) (F:aI),
   (∀j m,ops[j]? =some m->j≠i->d.getD j true=false->(∀e∈m.after,Region.binds md e=true->e.on≠i)->r.apart ops m=true)->
   i∈Region.ready md ops d->uX P md ops C T R i (oX P md ops C T R Q fuel (d.setIfInBounds i true)) a F->oX P md ops C T R Q (fuel+1) d a F:=by
 intro fuel
 induction fuel with
 |zero=>
  intro d a F _ hr H;refine⟨λh=>(by rw[h]at hr;cases hr),λj hj=>?_⟩;by_cases q:j=i
  ·subst q;exact H
  ·have M:=Xz hj q
   have h2:Region.ready md ops (d.setIfInBounds i true)=[]:=by
    unfold uX at H;simp only[hi]at H;split at H
    ·obtain⟨u,hu⟩:=kp T i;exact(H.2 u hu).1
    ·exact H.1
   rw[h2]at M;cases M
 |succ fuel ih=>
  intro d a F y hr H;refine⟨λh=>(by rw[h]at hr;cases hr),λj hj=>?_⟩;by_cases q:j=i
  ·subst q;exact H
  obtain⟨I,m,z,μ⟩:=WZ.1 hj;have J:∀e∈m.after,Region.binds md e=true->e.on≠i:=λe he hb X=>by
   have M:=μ e he hb;have h0:=(WZ.1 hr).1;rw[X]at M;rcases WG i d.size with h'|h'
   ·simp[h']at h0 M;rw[h0]at M;cases M
   ·simp[VP h']at M
  have β:¬qG md m i:=λ⟨e,he,hb,X⟩=>J e he hb X
  have π:=y j m z q I J;obtain⟨p1,p2,p3⟩:=Oper.apart_spec π;have σ:=λcs b=>N i r cs b hi
  have υ:=λcs b=>N j m cs b z
  have f:∀k ok,ops[k]? =some ok->k≠i->(d.setIfInBounds j true).getD k true=false->
    (∀e∈ok.after,Region.binds md e=true->e.on≠i)->r.apart ops ok=true:=λk ok hk ξ κ ν=>by
   refine y k ok hk ξ ?_ ν;by_cases ε:j=k
   ·subst ε;exact I
   ·rw[WH true ε]at κ;exact κ
  have B:(d.setIfInBounds i true).setIfInBounds j true=(d.setIfInBounds j true).setIfInBounds i true:=Yd _ _ (V1 q);have ζ:=Xz hj q;have G:=Xz hr (V1 q);have θ:∀u,∀Y,(∀k v,Y k v->k=i\/F k v)->Ob P md C T R j m (a.put r.dst u) Y->Ob P md C T R j m a F:=λu Y O h w hw hf=>by
   have:=h w hw λk v hk hn=>by
    rcases O k v hk with rfl|hk
    ·exact absurd hn β
    ·exact hf k v hk hn
   rwa[execOp_put m υ a r.dst u p1]at this
  have η:∀u Y,(∀k v,F k v->Y k v)->Ob P md C T R i r a F->Ob P md C T R i r (a.put m.dst u) Y:=λu Y O h w hw hf=>by
   rw[execOp_put r σ a m.dst u p3];exact h w hw λk v hk hn=>hf k v (O k v hk) hn
  have γ:∀u k v,F k v->(F.ins j u) k v:=λu k v h=>.inr h
  have V:∀u k v,(F.ins i u) k v->k=i\/F k v:=λu k v h=>h.imp And.left id
  unfold uX at H;simp only[hi]at H;unfold uX;simp only[z];split at H
  ·rename_i x
   obtain⟨ι,HK⟩:=H;have p:∀u,i9 T i u->_:=λu hu=>(HK u hu).2 j ζ
   unfold uX at p;simp only[z,Wi m a r.dst _ p1,B]at p;split
   ·rename_i s
    simp only[s,We]at p;obtain⟨u0,τ⟩:=kp T i;refine⟨θ u0 _ (V u0) (p u0 τ).1,λD Z=>ih _ _ _ f G ?_⟩;unfold uX;simp only[hi,Wi r a m.dst D p3,x,We];refine⟨η D _ (γ D) ι,λui δ=>?_⟩;have:=(p ui δ).2 D Z;rw[Wz a ui D p2,aI.ins_comm]at this;exact this
   ·rename_i s
    simp only[s]at p;refine ih _ _ _ f G ?_;unfold uX;simp only[hi,Wi r a m.dst undef p3,x,We];refine⟨η undef _ (λk v h=>h) ι,λui δ=>?_⟩;have:=p ui δ;simp only[V5,Xq]at this;rw[Wz a ui undef p2]at this;exact this
  ·rename_i x
   have p:=H.2 j ζ;unfold uX at p;simp only[z,Wi m a r.dst _ p1,B]at p;split
   ·rename_i s
    simp only[s,We]at p;refine⟨θ undef _ (λk v h=>.inr h) p.1,λD Z=>ih _ _ _ f G ?_⟩;unfold uX;simp only[hi,Wi r a m.dst D p3,x];have:=p.2 D Z;rw[Wz a undef D p2]at this;exact this
   ·rename_i s
    simp only[s]at p;refine ih _ _ _ f G ?_;unfold uX;simp only[hi,Wi r a m.dst undef p3,x];simp only[V5,Xq]at p⊢;rw[Wz a undef undef p2]at p;exact p
def fP(P:Program)(md:Region.Mode)(ops:Array Oper)(C:Yu->Prop)(T:Nat->Option Yv)(R:Nat->Yv->Yu->Prop)(Q:Act->aI->Prop):Nat->List Oper->Act->aI->Prop
 |_,[],a,F=>Q a F
 |i,o::rest,a,F=>if Region.wanted o (yielded ops a.tmps)then Ob P md C T R i o a F/\∀u,i9 T i u->fP P md ops C T R Q (i+1) rest (a.put o.dst u) (F.ins i u)else fP P md ops C T R Q (i+1) rest (a.put o.dst undef) F
theorem gZ{Q:Act->aI->Prop}(p:Region.noSelect ops=true):∀(l:List Oper) (k:Nat) (b:Array Bool) (a:Act) (F:aI),(∀j,l[j]? =ops[k+j]?)->
  Region.lexFrom md ops l.length k b=true->fP P md ops C T R Q k l a F->oX P md ops C T R Q l.length b a F
 |[],_,_,_,_,_,hB,h=>⟨by simpa[Region.lexFrom]using hB,h⟩
 |o::l,k,b,a,F,hl,hB,h=>by
  have m:ops[k]? =some o:=by simpa using(hl 0).symm
  simp only[VB,Region.lexFrom,Vo]at hB;obtain⟨⟨r,q⟩,f⟩:=hB;refine so m (Region.noSelect_spec p) l.length b a F (Region.free_spec m q) (by simpa using r) ?_;have d:uX P md ops C T R k (fP P md ops C T R Q (k+1) l) a F:=by unfold uX;simp only[m];exact h
  exact Do (λa F h=>gZ p l (k+1) _ _ _ (λj=>by have:=hl (j+1);simpa[VO,Nat.add_comm 1 j]using this) f h) d
theorem oh{Q:Exit->Act->Yu->Prop}(T:Nat->Option Yv)(R:Nat->Yv->Yu->Prop)(C:Yu->Prop)
  (j:P.follows .mixedOrders=true) (f:Region.lexB .any l.toArray=true) (m:C w.drew) (p:∀i u w w',R i u w->Ys w w'->R i u w')
  (h:fP P .any l.toArray C T R (λd _=>∀w',C w'->Q .normal d w') 0 l a λ_ _=>False):(Code.region id l.toArray true).wp P Q a w:=by
 simp only[Region.lexB,Vo]at f;refine WV j (cK (T:=T) (Q:=λd _=>∀w',C w'->Q .normal d w') p (λ_ _ w' b _ h=>h w' b) _ _ _ (λ_ _=>False) _ m (λ_ _ h=>False.elim h) ?_);have:=gZ (P:=P) (C:=C) (T:=T) (R:=R) (md:=.any) f.1 l 0 (Array.replicate l.length false) a (λ_ _=>False) (by simp) (by simpa using f.2) h;simpa using this
theorem lC{Q:Act->aI->Prop}{rest:List Oper}{F:aI}(d:Region.wanted o (yielded ops a.tmps)=true)(b:Ob P md C T R i o a F)
  (f:∀u,i9 T i u->fP P md ops C T R Q (i+1) rest (a.put o.dst u) (F.ins i u)):fP P md ops C T R Q i (o::rest) a F:=by
 unfold fP;rw[Vh d];exact⟨b,f⟩
end
end
section
open Go.RowKit Go.BigFrame
inductive En where
 |is (v:Yv)
 |rel (r:Yv->Yu->Prop) (h:∀u w w',r u w->Ys w w'->r u w')
def Bf(E:List En)(i:Nat):Option Yv:=match E[i]? with
 |some (.is v)=>some v
 |_=>none
def tN(E:List En)(i:Nat)(u:Yv)(w:Yu):Prop:=match E[i]? with
 |some (.rel r _)=>r u w
 |_=>True
theorem kC{E:List En}(i:Nat)(u:Yv)(w w':Yu)(h:tN E i u w)(d:Ys w w'):tN E i u w':=by
 unfold tN at*;split
 ·rename_i r f b
  simp only[b]at h;exact f _ _ _ h d
 ·trivial
def mi(o:Oper)(k:Nat):Bool:=o.after.toList.any λe=>Region.binds .any e&&e.on==k
theorem eD(h:mi o k=true):qG .any o k:=by
 unfold mi at h;rw[List.any_eq_true]at h;obtain⟨e,d,b⟩:=h;simp only[Vo,Xg]at b;exact⟨e,by simpa using d,b⟩
section
variable{P:Program}{ops:Array Oper}{W:Yu}{E:List En}{Q:Act->aI->Prop}{i:Nat}{o:Oper}{rest:List Oper}{a:Act}{F:aI}
abbrev Lw(P:Program)(ops:Array Oper)(W:Yu)(E:List En)(Q:Act->aI->Prop)(i:Nat)(l:List Oper)(a:Act)(F:aI):Prop:=
 fP P .any ops (λw=>Ys W w) (Bf E) (tN E) Q i l a F
theorem Al{Q:Exit->Act->Yu->Prop}(E:List En)(b:P.follows .mixedOrders=true)(d:Region.lexB .any l.toArray=true)
  (h:Lw P l.toArray w E (λf _=>∀w',Ys w w'->Q .normal f w') 0 l a λ_ _=>False):(Code.region id l.toArray true).wp P Q a w:=
 oh (Bf E) (tN E) (λw'=>Ys w w') b d (Vd _ _).drew kC h
theorem GA(b:Region.wanted o (yielded ops a.tmps)=false)(h:Lw P ops W E Q (i+1) rest (a.put o.dst undef) F):Lw P ops W E Q i (o::rest) a F:=by
 unfold Lw fP;rw[Vf (by rw[b];exact Bool.false_ne_true)];exact h
theorem jk(m:Region.wanted o (yielded ops a.tmps)=true)(v:Yv)(f:E[i]? =some (.is v))(d:∀w,Ys W w->(execOp a.eval o).run P w=.ok (.value v) w)
  (h:Lw P ops W E Q (i+1) rest (a.put o.dst v) (F.ins i v)):Lw P ops W E Q i (o::rest) a F:=by
 refine lC m (λw j _=>?_) λu p=>?_
 ·rw[d w j]
  exact⟨λq b=>by simp only[Bf,f]at b;cases b;rfl,j,Vd _ _,by simp only[tN,f]⟩
 ·have:=p v (by simp only[Bf,f])
  subst this;exact h
theorem iw(p:Region.wanted o (yielded ops a.tmps)=true)(f:FuncId)(args:Array Yv)(v:Yv)(d:E[i]? =some (.is v))(q:∀w,(execOp a.eval o).run P w=.ok (.enter f args) w)
  (c:∀w,Ys W w->Calls P f args w λe w'=>e=.returned v/\Ys w w')
  (h:Lw P ops W E Q (i+1) rest (a.put o.dst v) (F.ins i v)):Lw P ops W E Q i (o::rest) a F:=by
 refine lC p (λw j _=>?_) λu r=>?_
 ·rw[q w]
  refine(c w j).mono ?_;rintro e w' ⟨rfl,m⟩;exact⟨_,rfl,λs b=>by simp only[Bf,d]at b;cases b;rfl,j.trans (m.mono j.size),m,by simp only[tN,d]⟩
 ·have:=r v (by simp only[Bf,d])
  subst this;exact h
theorem uO(q:Region.wanted o (yielded ops a.tmps)=true)(f:FuncId)(args:Array Yv)(r:Yv->Yu->Prop)(hr)(m:E[i]? =some (.rel r hr))(s:∀w,(execOp a.eval o).run P w=.ok (.enter f args) w)
  (c:∀w,Ys W w->Calls P f args w λe w'=>∃u,e=.returned u/\r u w'/\Ys w w')
  (h:∀u,Lw P ops W E Q (i+1) rest (a.put o.dst u) (F.ins i u)):Lw P ops W E Q i (o::rest) a F:=by
 refine lC q (λw j _=>?_) λu _=>h u
 rw[s w];refine(c w j).mono ?_;rintro e w' ⟨u,rfl,d,p⟩;exact⟨_,rfl,λx b=>(by simp only[Bf,m]at b;cases b),j.trans (p.mono j.size),p,by simp only[tN,m];exact d⟩
end
def fU(l:List Int)(u:Yv)(w:Yu):Prop:=∃A c,u=.slice A l.length c/\l.length<=c/\c<=maxLen/\gM w w.heap.size A l
theorem fU.keep(l:List Int)(u:Yv)(w w':Yu)(h:fU l u w)(f:Ys w w'):fU l u w':=by
 obtain⟨A,c,e,q,m,p⟩:=h;refine⟨A,c,e,q,m,λj=>?_⟩;obtain⟨b,o,e,d,r⟩:=(p.below f) j;exact⟨b,o,e,Vq d f.size,r⟩
abbrev En.bytes(l:List Int):En:=.rel (fU l) (fU.keep l)
theorem fU.of_own{base:Nat}{e:Yw}{l:List Int}(h:w.ownsRow base e 1 v l.length (aU l)):fU l v w:=by
 obtain⟨A,c,rfl,b,d,f⟩:=aF h;exact⟨A,c,rfl,b,d,py f⟩
end
section
open Go.RowKit Go
def oA(Q:Exit->Act->Yu->Prop)(K:Act->Yu->Prop):Exit->Act->Yu->Prop
 |.normal,a,w=>K a w
 |x,a,w=>Q x a w
def eP(md:Region.Mode)(ops:Array Oper):Nat->Nat->Array Bool->Bool
 |0,_,_=>true
 |n+1,k,listed=>(Region.ready md ops listed==[k])&&eP md ops n (k+1) (listed.setIfInBounds k true)
def aO:Nat->Nat->Array Bool->Array Bool
 |0,_,listed=>listed
 |n+1,k,listed=>aO n (k+1) (listed.setIfInBounds k true)
section
variable{P:Program}{ops:Array Oper}{md:Region.Mode}{Q:Exit->Act->Yu->Prop}
theorem tV{next:Act->Yu->Prop}(r:Result Next)(h:o.upon P a next (oA Q K) r):o.upon P a next Q r:=by
 cases r with
 |ok n w=>
  cases n with
  |enter f args=>
   refine Xi (show Calls P f args w _ from h) ?_;intro e w' h;cases e<;>exact h
  |_=>exact h
 |halt x w=>cases x<;>exact h
theorem fh:∀(n k:Nat) (b:Array Bool) (l:List Oper) (a:Act) (w:Yu) (fuel:Nat),(∀a w,K a w->wpAny P md ops Q fuel (aO n k b) a w)->l.length=n->(∀j,j<n->l[j]? =ops[k+j]?)->eP md ops n k b=true->
  wpList P ops (oA Q K) l a w->wpAny P md ops Q (n+fuel) b a w
 |0,k,b,l,a,w,fuel,hK,d,_,_,h=>by
  obtain rfl:l=[]:=VM d;rw[Vk];exact hK _ _ h
 |n+1,k,b,l,a,w,fuel,hK,d,hj,hf,h=>by
  obtain⟨o,l,rfl⟩:∃o r,l=o::r:=by
   cases l with
   |nil=>cases d
   |cons o r=>exact⟨o,r,rfl⟩
  simp only[eP,Vo,Xg]at hf;have x:ops[k]? =some o:=by simpa using(hj 0 (by omega)).symm
  rw[show n+1+fuel=(n+fuel)+1 from by omega];refine⟨λh=>(by rw[hf.1]at h;cases h),λi p=>?_⟩;rw[hf.1]at p;obtain rfl:i=k:=by simpa using p
  have m:=λa w=>fh n (i+1) (b.setIfInBounds i true) l a w fuel hK (by simpa using d) (λj q=>by have:=hj (j+1) (by omega);simpa[VO,Nat.add_comm 1 j]using this) hf.2
  unfold wpOp;simp only[x];unfold wpList at h;split at h
  ·rename_i f
   rw[Vh f];rcases h with h|⟨u,s⟩
   ·exact .inl (Oper.wp_mono m (tV _ h))
   ·exact .inr ⟨u,s⟩
  ·rename_i f
   rw[Vf f];exact m _ _ h
structure Qn(P:Program)(ops:Array Oper)(Q:Exit->Act->Yu->Prop)(n:Nat)(r:List Oper)(a:Act)(w1:Yu):Prop where
 out:∃E,Lw P ops w1 E (λa' _=>∀w',Ys w1 w'->Q .normal a' w') n r a (λ_ _=>False)
theorem Fq{Q:Exit->Act->Yu->Prop}(n:Nat)(p:P.follows .mixedOrders=true)(x:Region.noSelect l.toArray=true)(y:n<=l.length)
  (hF:eP .any l.toArray n 0 (Array.replicate l.length false)=true) (u:Region.lexFrom .any l.toArray (l.drop n).length n (aO n 0 (Array.replicate l.length false))=true)
  (h:wpList P l.toArray (oA Q (Qn P l.toArray Q n (l.drop n))) (l.take n) a w.drew):(Code.region id l.toArray true).wp P Q a w:=by
 refine WV p ?_;have s:∀a b,Qn P l.toArray Q n (l.drop n) a b->wpAny P .any l.toArray Q (l.drop n).length (aO n 0 (Array.replicate l.length false)) a b:=λa b ⟨⟨E,m⟩⟩=>
  cK (T:=Bf E) (Q:=λr _=>∀w',Ys b w'->Q .normal r w') kC (λ_ _ w' d _ h=>h w' d) _ _ _ (λ_ _=>False) _ (Vd _ _) (λ_ _ h=>False.elim h)
   (gZ x (l.drop n) n _ a _ (λj=>by simp) u m)
 have f:=fh (md:=.any) n 0 (Array.replicate l.length false) (l.take n) a w.drew (l.drop n).length s (by simp;omega) (λj q=>by simp[q]) hF h;rw[VS,Nat.add_sub_cancel' y]at f;simpa using f
structure Nh(P:Program)(ops:Array Oper)(Q:Exit->Act->Yu->Prop)(r:List Oper)(a:Act)(w1:Yu):Prop where
 out:wpQuiet P ops (λw'=>∃x:eh w1,w'=x.w) (λa'=>∀w',(∃x:eh w1,w'=x.w)->Q .normal a' w') r a
theorem On{r:List Oper}{b:Yu}(h:wpQuiet P ops (λw'=>∃x:eh b,w'=x.w) (λd=>∀w',(∃x:eh b,w'=x.w)->Q .normal d w') r a):oA Q (Nh P ops Q r) .normal a b:=⟨h⟩
theorem jJ{Q:Exit->Act->Yu->Prop}(n:Nat)(p:P.follows .mixedOrders=true)(y:Region.noSelect l.toArray=true)(z:n<=l.length)
  (hF:eP .any l.toArray n 0 (Array.replicate l.length false)=true) (u:Region.lexFrom .any l.toArray (l.drop n).length n (aO n 0 (Array.replicate l.length false))=true)
  (h:wpList P l.toArray (oA Q (Nh P l.toArray Q (l.drop n))) (l.take n) a w.drew):(Code.region id l.toArray true).wp P Q a w:=by
 refine WV p ?_;have s:∀a b,Nh P l.toArray Q (l.drop n) a b->wpAny P .any l.toArray Q (l.drop n).length (aO n 0 (Array.replicate l.length false)) a b:=λa b ⟨m⟩=>
  wpAny_of_quiet (Q:=λr=>∀w',(∃x:eh b,w'=x.w)->Q .normal r w') (λ_ w' d h=>h w' d) _ _ _ _ ⟨⟨b,Vd _ _⟩,rfl⟩
   (wpAnyQ_lex y (l.drop n) n _ a (λj=>by simp) u m)
 have f:=fh (md:=.any) n 0 (Array.replicate l.length false) (l.take n) a w.drew (l.drop n).length s (by simp;omega) (λj q=>by simp[q]) hF h;rw[VS,Nat.add_sub_cancel' z]at f;simpa using f
end
def tw(md:Region.Mode)(ops:Array Oper)(k:Nat):Nat->Nat->Bool
 |0,_=>false
 |f+1,i=>((ops[i]?).map λo=>o.after.toList.any λe=>Region.binds md e&&(e.on==k||tw md ops k f e.on)).getD false
def jz(md:Region.Mode)(ops:Array Oper)(n:Nat):Bool:=
 ((List.range n).all λi=>((ops[i]?).map λo=>(o.guard.all λg=>decide (g.1<n))&&o.after.toList.all λe=> !Region.binds md e||decide (e.on<i)).getD false)&&
 ((List.range ops.size).all λi=>decide (i<n)||(List.range n).all λk=>tw md ops k ops.size i)
theorem pC(h:jz md ops n=true)(r:i<n):∃o,ops[i]? =some o/\(∀j b,o.guard=some (j,b)->j<n)/\∀e∈o.after,Region.binds md e=true->e.on<i:=by
 simp only[jz,Vo,Wl,XL]at h;have d:=h.1 i r;cases f:ops[i]? with
 |none=>rw[f]at d;cases d
 |some o=>
  rw[f]at d;simp only[WE,Xr,Vo,Wl,Wx,Yk,VC]at d;refine⟨o,rfl,λj b q=>by have:=d.1;rw[q]at this;simpa using this,λe p m=>?_⟩;rcases d.2 e (by simpa using p)with h2|h2
  ·rw[h2]at m;cases m
  ·exact h2
theorem wN(h:jz md ops n=true)(b:i<ops.size)(f:n<=i)(d:k<n):tw md ops k ops.size i=true:=by
 simp only[jz,Vo,Wl,XL,Wx,VC]at h;rcases h.2 i b with h2|h2
 ·omega
 ·exact h2 k d
def qJ(md:Region.Mode)(ops:Array Oper)(b:Array Bool):Prop:=∀j o,ops[j]? =some o->b.getD j false=true->∀e∈o.after,Region.binds md e=true->b.getD e.on false=true
theorem ju{j:Array Bool}(r:qJ md ops j):∀(f i:Nat),tw md ops k f i=true->(∀o,ops[i]? =some o->∀e∈o.after,Region.binds md e=true->j.getD e.on false=true)->j.getD k false=true
 |0,_,h,_=>by cases h
 |f+1,i,h,hi=>by
  unfold tw at h;cases b:ops[i]? with
  |none=>rw[b]at h;cases h
  |some o=>
   rw[b]at h;simp only[WE,Xr,List.any_eq_true,Vo,Wx,Xg]at h;obtain⟨e,s,x,h2⟩:=h;have q:=hi o b e (by simpa using s) x;rcases h2 with h2|h2
   ·rw[<-h2];exact q
   ·exact ju r f e.on h2 λo' m u p d=>r e.on o' m q u p d
theorem bB(n i:Nat):(Array.replicate n false).getD i false=false:=by
 rw[Array.getD_eq_getD_getElem?,Array.getElem?_replicate];split<;>rfl
theorem ms:∀(n k:Nat) (A:Array Bool),(aO n k A).size=A.size
 |0,_,_=>rfl
 |n+1,k,A=>by rw[aO,ms n];simp
theorem nU:∀(n k i:Nat) (A:Array Bool),i<A.size->(aO n k A).getD i false=if k<=i/\i<k+n then true else A.getD i false
 |0,k,i,A,_=>by rw[Vf (by omega)];rfl
 |n+1,k,i,A,hi=>by
  rw[aO,nU n (k+1) i _ (by simpa using hi)];by_cases b:k=i
  ·subst b
   rw[Vf (by omega),Vh (by omega)];simp[hi]
  ·rw[WH false b]
   by_cases h:k+1<=i/\i<k+1+n
   ·rw[Vh h,Vh (by omega)]
   ·rw[Vf h,Vf (by omega)]
theorem j9:∀(l:List Bool) (i:Nat),l[i]? =some false->(l.set i true).count false+1=l.count false
 |[],i,h=>by simp at h
 |b::l,0,h=>by
  simp at h;subst h;simp
 |b::l,i+1,h=>by
  have:=j9 l i (by simpa using h);rw[XA,List.count_cons,List.count_cons];omega
section
variable{P:Program}{md:Region.Mode}{Q:Exit->Act->Yu->Prop}
theorem ff{m:Nat}(hn:n<=l.length)(hP:jz md l.toArray n=true)(hK:∀a w,K a w->wpAny P md l.toArray Q m (aO n 0 (Array.replicate l.length false)) a w):∀(fuel:Nat) (d p:Array Bool) (a:Act) (w:Yu),
  d.size=n->p.size=l.length->(∀i,i<n->d.getD i false=p.getD i false)->(∀i,n<=i->p.getD i false=false)->qJ md l.toArray p->d.toList.count false=fuel->
  wpAny P md (l.take n).toArray (oA Q K) fuel d a w->wpAny P md l.toArray Q (fuel+m) p a w
 |0,d,p,a,w,s1,s2,hE,hT,hD,hc,h=>by
  have e:p=aO n 0 (Array.replicate l.length false):=by
   refine Array.ext (by rw[ms,s2];simp) λi x X=>?_
   have g:=nU n 0 i (Array.replicate l.length false) (by simpa using s2▸x);have g1:p.getD i false=p[i]:=by simp[x]
   have g2:(aO n 0 (Array.replicate l.length false)).getD i false=(aO n 0 (Array.replicate l.length false))[i]:=by simp[X]
   rw[<-g1,<-g2,g];by_cases D:i<n
   ·rw[Vh (by omega),<-hE i D]
    have hz:false∉d.toList:=List.count_eq_zero.1 hc;have ι:d[i]'(by omega)≠false:=λhh=>hz (by rw[<-hh];simp)
    simp[s1,D];simpa using ι
   ·rw[Vf (by omega),hT i (by omega)]
    simp[<-s2,x]
  rw[Vk,e];exact hK a w h.2
 |k+1,d,p,a,w,s1,s2,hE,hT,hD,hc,h=>by
  have f:∀i,i<n->(l.take n).toArray[i]? =l.toArray[i]?:=λi D=>by simp[VU,D]
  have ε:∃i,i∈Region.ready md l.toArray p:=by
   have hm:false∈d.toList:=by
    rw[<-List.count_pos_iff];omega
   have Y:d.toList.findIdx (λb=> !b)<d.toList.length:=List.findIdx_lt_length_of_exists ⟨false,hm,rfl⟩;have I:d.toList.findIdx (λb=> !b)<n:=by simpa[s1]using Y
   have h0:=List.findIdx_getElem (w:=Y);have z:∀j,j<d.toList.findIdx (λb=> !b)->d.getD j false=true:=λj G=>by
    have:=List.not_of_lt_findIdx G;have N:j<d.size:=by omega
    simpa[N]using this
   generalize d.toList.findIdx (λb=> !b)=i at*;refine⟨i,WZ.2 ⟨?_,?_⟩⟩
   ·have x:=hE i I
    have u:i<d.size:=by omega
    have y:i<p.size:=by omega
    have X:d.getD i false=false:=by simpa[u]using h0
    rw[X]at x;simpa[y]using x.symm
   ·obtain⟨o,M,_,hd⟩:=pC hP I
    refine⟨o,M,λe H τ=>?_⟩;have:=hd e H τ;rw[<-hE e.on (by omega)];exact z e.on this
  rw[show k+1+m=(k+m)+1 from by omega];refine⟨λh0=>?_,λi D=>?_⟩
  ·obtain⟨i,D⟩:=ε
   rw[h0]at D;cases D
  ·obtain⟨θ,o,M,s⟩:=WZ.1 D
   have ξ:i<l.length:=by simpa using(Vv.1 M).1
   have B:i<n:=by
    rcases WG i n with hh|hh
    ·exact hh
    ·exfalso
     have hm:false∈d.toList:=by
      rw[<-List.count_pos_iff];omega
     obtain⟨j,G,ν⟩:=List.mem_iff_getElem.1 hm;have γ:j<n:=by simpa[s1]using G
     have x:=ju hD _ i (wN hP (by simpa using ξ) hh γ) λo' r e H z=>by
      rw[M]at r;cases r;exact s e H z
     rw[<-hE j γ]at x;have N:j<d.size:=by omega
     have X:d.getD j false=false:=by simpa[N]using ν
     rw[x]at X;cases X
   obtain⟨o',r,hg,hd⟩:=pC hP B;rw[M]at r;cases r;have u:i<d.size:=by omega
   have y:i<p.size:=by omega
   have ζ:p.getD i false=false:=by simpa[y]using θ
   have β:d.getD i false=false:=by rw[hE i B];exact ζ
   have π:i∈Region.ready md (l.take n).toArray d:=WZ.2 ⟨by simpa[u]using β,o,by rw[f i B];exact M,λe H z=>by
    have x:=hd e H z;rw[hE e.on (by omega)];exact s e H z⟩
   have J:=h.2 i π;have hw:Region.wanted o (yielded (l.take n).toArray a.tmps)=Region.wanted o (yielded l.toArray a.tmps):=by
    unfold Region.wanted;cases δ:o.guard with
    |none=>rfl
    |some g=>
     obtain⟨j,b⟩:=g;have G:=hg j b δ;have ey:yielded (l.take n).toArray a.tmps j=yielded l.toArray a.tmps j:=by unfold yielded;rw[f j G]
     simp only[ey]
   have κ:qJ md l.toArray (p.setIfInBounds i true):=λj oj O Z e H z=>by
    by_cases q:i=j
    ·subst q
     rw[M]at O;cases O;exact getD_set_true (s e H z)
    ·rw[WH false q]at Z
     exact getD_set_true (hD j oj O Z e H z)
   have μ:(d.setIfInBounds i true).toList.count false=k:=by
    have:=j9 d.toList i (by
     have:d[i]? =some false:=by simpa[u]using β
     simpa using this)
    rw[Array.toList_setIfInBounds];omega
   have σ:∀j,j<n->(d.setIfInBounds i true).getD j false=(p.setIfInBounds i true).getD j false:=λj G=>by
    by_cases q:i=j
    ·subst q
     simp[u,y]
    ·rw[WH false q,WH false q]
     exact hE j G
   have η:∀j,n<=j->(p.setIfInBounds i true).getD j false=false:=λj G=>by
    rw[WH false (by omega)];exact hT j G
   have ih:=λa w hh=>ff hn hP hK k (d.setIfInBounds i true) (p.setIfInBounds i true) a w (by simpa using s1) (by simpa using s2) σ η κ μ hh
   unfold wpOp at J⊢;simp only[f i B,M,hw]at J⊢;split
   ·rename_i V
    simp only[V,We]at J;rcases J with J|⟨g1,g2⟩
    ·exact .inl (Oper.wp_mono ih (tV _ J))
    ·exact .inr ⟨g1,g2⟩
   ·rename_i V
    simp only[V]at J;exact ih _ _ (by simpa using J)
theorem iT:oA Q (λa w=>Q .normal a w)=Q:=by
 funext x a w;cases x<;>rfl
theorem ev{Q:Exit->Act->Yu->Prop}(n:Nat)(E:List En)(z:P.follows .mixedOrders=true)(M:n<=l.length)
  (G:jz .any l.toArray n=true)
  (q:Region.lexB .any (l.take n).toArray=true) (hF:eP .any l.toArray (l.drop n).length n (aO n 0 (Array.replicate l.length false))=true)
  (x:(Region.ready .any l.toArray (aO (l.drop n).length n (aO n 0 (Array.replicate l.length false)))).isEmpty=true)
  (h:Lw P (l.take n).toArray w E (λd b=>∀w',Ys w w'->(∀k u,b k u->tN E k u w')->wpList P l.toArray Q (l.drop n) d w') 0 (l.take n) a (λ_ _=>False)):(Code.region id l.toArray true).wp P Q a w:=by
 refine WV z ?_;simp only[Region.lexB,Vo]at q;have H:∀a w,wpList P l.toArray Q (l.drop n) a w->wpAny P .any l.toArray Q (l.drop n).length (aO n 0 (Array.replicate l.length false)) a w:=λa w f=>by
  have D:=fh (P:=P) (md:=.any) (Q:=Q) (K:=λa w=>Q .normal a w) (l.drop n).length n (aO n 0 (Array.replicate l.length false)) (l.drop n) a w 0
   (λa w B=>⟨by simpa using x,B⟩) rfl (λj _=>by simp) hF (by rw[iT];exact f)
  exact D
 have J:=gZ (P:=P) (C:=λw'=>Ys w w') (T:=Bf E) (R:=tN E) (md:=.any) (Q:=λd b=>∀w',Ys w w'->(∀k u,b k u->tN E k u w')->wpList P l.toArray Q (l.drop n) d w') q.1 (l.take n) 0 (Array.replicate (l.take n).length false) a (λ_ _=>False) (by simp) (by simpa using q.2) h;have I:wpAny P .any (l.take n).toArray (oA Q (λa w=>wpList P l.toArray Q (l.drop n) a w)) (l.take n).length (Array.replicate (l.take n).length false) a w.drew:=
  cK (T:=Bf E) (Q:=λd b=>∀w',Ys w w'->(∀k u,b k u->tN E k u w')->wpList P l.toArray Q (l.drop n) d w') kC (λ_ F w' p hF f=>f w' p hF) _ _ _ (λ_ _=>False) _ (Vd _ _).drew (λ_ _ f=>False.elim f) J
 have y:(l.take n).length=n:=by simp;omega
 have s:=ff (n:=n) (m:=(l.drop n).length) M G H (l.take n).length (Array.replicate (l.take n).length false) (Array.replicate l.length false) a w.drew (by simp;omega) (by simp)
  (λi N=>by
   rw[bB,bB]) (λi _=>bB _ _) (λj o _ r=>by rw[bB]at r;cases r) (by simp) I
 have e:(l.take n).length+(l.drop n).length=l.length:=by rw[<-Vl,Wf]
 rw[e]at s;simpa using s
end
abbrev iI:=Nat->List Yv->Yv->Prop
def iI.ins(i:Nat)(xs:List Yv)(u:Yv)(F:iI):iI:=λj b v=>(j=i/\b=xs/\v=u)\/F j b v
theorem iI.ins_comm(i j:Nat)(xs b:List Yv)(u v:Yv)(F:iI):(F.ins i xs u).ins j b v=(F.ins j b v).ins i xs u:=by
 funext k d x;simp only[iI.ins,eq_iff_iff];constructor
 ·rintro(h|h|h)
  ·exact .inr (.inl h)
  ·exact .inl h
  ·exact .inr (.inr h)
 ·rintro(h|h|h)
  ·exact .inr (.inl h)
  ·exact .inl h
  ·exact .inr (.inr h)
def jA(a:Act)(o:Oper):List Yv:=o.op.operands.toList.map a.eval
section
variable{P:Program}{ops:Array Oper}{md:Region.Mode}{c:Nat}{C:Bool->Yu->Prop}{T:Nat->List Yv->Yv->Prop}{R:Nat->List Yv->Yv->Yu->Prop}{S:Nat->Yu->Yu->Prop}
theorem yD{dst:Option Tmp}(h:∀d,dst=some d->d∉o.looksAt ops):jA (a.put dst v) o=jA a o:=by
 unfold jA;refine List.map_congr_left λx j=>Act.eval_put λd f b=>h d f ?_
 subst b;exact Wj _ (List.mem_filterMap.2 ⟨.tmp d,j,rfl⟩)
def Fn(P:Program)(C:Yu->Prop)(s:Yu->Yu->Prop)(t:Yv->Prop)(r:Yv->Yu->Prop)(w:Yu):Result Next->Prop
 |.ok (.value u) w'=>t u/\C w'/\s w w'/\r u w'
 |.ok .skip w'=>t undef/\C w'/\s w w'/\r undef w'
 |.ok (.enter f args) w'=>Calls P f args w' λe w''=>∃u,e=.returned u/\t u/\C w''/\s w w''/\r u w''
 |_=>False
def Nm(P:Program)(md:Region.Mode)(ops:Array Oper)(c:Nat)(C:Bool->Yu->Prop)(T:Nat->List Yv->Yv->Prop)(R:Nat->List Yv->Yv->Yu->Prop)(S:Nat->Yu->Yu->Prop)(i:Nat)(o:Oper)(a:Act)(F:iI):Prop:=
 ∀b w,(tw md ops i ops.size c=true->b=false)->(i=c->b=false)->(tw md ops c ops.size i=true->b=true)->C b w->(∀k xs u,F k xs u->qG md o k->R k xs u w)->Fn P (C (b||i==c)) (S i) (T i (jA a o)) (R i (jA a o)) w ((execOp a.eval o).run P w)
def vo(P:Program)(md:Region.Mode)(ops:Array Oper)(c:Nat)(C:Bool->Yu->Prop)(T:Nat->List Yv->Yv->Prop)(R:Nat->List Yv->Yv->Yu->Prop)(S:Nat->Yu->Yu->Prop)(i:Nat)(K:Act->iI->Prop)(a:Act)(F:iI):Prop:=
 match ops[i]? with
 |none=>K a F
 |some o=>if Region.wanted o (yielded ops a.tmps)then Nm P md ops c C T R S i o a F/\∀u,T i (jA a o) u->K (a.put o.dst u) (F.ins i (jA a o) u)else K (a.put o.dst undef) F
theorem DH{F:iI}{K f:Act->iI->Prop}(h:∀a F,K a F->f a F)(b:vo P md ops c C T R S i K a F):vo P md ops c C T R S i f a F:=by
 unfold vo at*;split
 ·exact h _ _ (by simpa[*]using b)
 ·rename_i o j
  simp only[j]at b;split
  ·rename_i d;simp only[d,We]at b;exact⟨b.1,λu m=>h _ _ (b.2 u m)⟩
  ·rename_i d;simp only[d]at b;exact h _ _ b
def oY(P:Program)(md:Region.Mode)(ops:Array Oper)(c:Nat)(C:Bool->Yu->Prop)(T:Nat->List Yv->Yv->Prop)(R:Nat->List Yv->Yv->Yu->Prop)(S:Nat->Yu->Yu->Prop)(Q:Act->iI->Prop):Nat->Array Bool->Act->iI->Prop
 |0,listed,a,F=>Region.ready md ops listed=[]/\Q a F
 |fuel+1,listed,a,F=>
  (Region.ready md ops listed=[]->Q a F)/\
  ∀i∈Region.ready md ops listed,vo P md ops c C T R S i (oY P md ops c C T R S Q fuel (listed.setIfInBounds i true)) a F
theorem qJ.set{m:Array Bool}(u:qJ md ops m)(s:ops[i]? =some o)(h:∀e∈o.after,Region.binds md e=true->m.getD e.on false=true):qJ md ops (m.setIfInBounds i true):=λj r b d e p q=>by
 by_cases f:i=j
 ·subst f
  rw[s]at b;cases b;exact getD_set_true (h e p q)
 ·rw[WH false f]at d
  exact getD_set_true (u j r b d e p q)
theorem eQ{Q:Act->iI->Prop}{Q':Exit->Act->Yu->Prop}(q:∀w,C false w->C true w)(hR:∀i j xs u w w',i≠j->R i xs u w->S j w w'->R i xs u w')(hQ:∀a F w,C (decide (c<ops.size)) w->(∀k xs u,F k xs u->R k xs u w)->Q a F->Q' .normal a w):
  ∀(fuel:Nat) (d:Array Bool) (a:Act) (F:iI) (w:Yu),d.size=ops.size->qJ md ops d->(∀k xs u,F k xs u->d.getD k true=true)->C (d.getD c false) w->(∀k xs u,F k xs u->R k xs u w)->oY P md ops c C T R S Q fuel d a F->wpAny P md ops Q' fuel d a w
 |fuel,d,a,F,w,hz,hD,hl,hw,hF,h=>by
  have β:∀b,(b=true->c<ops.size)->C b w->C (decide (c<ops.size)) w:=λb p D=>by
   cases b with
   |false=>
    by_cases z:c<ops.size
    ·rw[Vg z];exact q _ D
    ·rw[Vj z];exact D
   |true=>rw[Vg (p rfl)];exact D
  have z:d.getD c false=true->c<ops.size:=λD=>by
   rw[<-hz];rcases WG c d.size with h1|h1
   ·exact h1
   ·simp[VP h1]at D
  match fuel with
  |0=>exact⟨h.1,hQ _ _ _ (β _ z hw) hF h.2⟩
  |fuel+1=>
  refine⟨λh0=>hQ _ _ _ (β _ z hw) hF (h.1 h0),λi hi=>?_⟩;have h1:=h.2 i hi;obtain⟨H,o,ho,N⟩:=WZ.1 hi;have κ:i<ops.size:=(Vv.1 ho).1;have y:d.getD i false=false:=by
   have:i<d.size:=by omega
   simpa[this]using H
  have J:=hD.set ho N;have I:(d.setIfInBounds i true).size=ops.size:=by simpa using hz
  have M:(d.setIfInBounds i true).getD c false=(d.getD c false||i==c):=by
   by_cases e:i=c
   ·subst e
    have:i<d.size:=by omega
    simp[this]
   ·rw[WH false e];simp[e]
  have γ:∀k xs u,F k xs u->(d.setIfInBounds i true).getD k true=true:=λk xs u hk=>by
   have:=hl k xs u hk;by_cases e:i=k
   ·subst e;rw[this]at H;cases H
   ·rw[WH true e];exact this
  have X:∀xs u k ys v,(F.ins i xs u) k ys v->(d.setIfInBounds i true).getD k true=true:=λxs u k ys v hk=>by
   rcases hk with⟨rfl,-,-⟩|hk
   ·by_cases hs:k<d.size
    ·simp[hs]
    ·simp[VP (Nat.not_lt.1 hs)]
   ·exact γ k ys v hk
  have O:C ((d.setIfInBounds i true).getD c false) w:=by
   rw[M];cases p:d.getD c false with
   |true=>rw[p]at hw;exact hw
   |false=>
    rw[p]at hw;cases ι:(i==c)with
    |true=>exact q _ hw
    |false=>exact hw
  unfold vo at h1;unfold wpOp;simp only[ho]at h1⊢;split
  ·rename_i m
   simp only[m,We]at h1;obtain⟨ε,hk⟩:=h1;have η:tw md ops i ops.size c=true->d.getD c false=false:=λs=>by
    cases p:d.getD c false with
    |false=>rfl
    |true=>
     have:=ju hD _ c s λo' G e he Z=>hD c o' G p e he Z
     rw[this]at y;cases y
   have ζ:i=c->d.getD c false=false:=λe=>by rw[<-e];exact y
   have θ:tw md ops c ops.size i=true->d.getD c false=true:=λs=>ju hD _ i s λo' G e he Z=>by
    rw[ho]at G;cases G;exact N e he Z
   have V:=ε _ w η ζ θ hw λk xs u δ _=>hF k xs u δ
   rw[<-M]at V;have B:∀u w',S i w w'->R i (jA a o) u w'->∀k xs v,(F.ins i (jA a o) u) k xs v->R k xs v w':=λu w' p Y k xs v pU=>by
    rcases pU with⟨rfl,rfl,rfl⟩|pU
    ·exact Y
    ·refine hR _ i _ _ _ _ (λe=>?_) (hF k xs v pU) p
     have:=hl k xs v pU;rw[e,H]at this;cases this
   refine .inl ?_;unfold Oper.wp;generalize (execOp a.eval o).run P w=r at V;cases r with
   |ok n w'=>
    cases n<;>simp only[Fn]at V<;>simp only[Oper.upon]
    case value u=>
     obtain⟨hm,D,p,Y⟩:=V;exact eQ q hR hQ fuel _ _ _ _ I J (X _ _) D (B u w' p Y) (hk u hm)
    case skip=>
     obtain⟨hm,D,p,Y⟩:=V;exact eQ q hR hQ fuel _ _ _ _ I J (X _ _) D (B undef w' p Y) (hk undef hm)
    case enter f args=>
     refine V.mono λe w'' ⟨u,he,hm,D,p,Y⟩=>?_
     subst he;exact eQ q hR hQ fuel _ _ _ _ I J (X _ _) D (B u w'' p Y) (hk u hm)
   |halt x w'=>simp only[Fn]at V
  ·rename_i m
   simp only[m]at h1;exact eQ q hR hQ fuel _ _ _ _ I J γ O hF h1
theorem sq(ι:∀i xs,∃u,T i xs u){Q:Act->iI->Prop}{p:Oper}(hi:ops[i]? =some p)(N:∀(j:Nat) (o:Oper) cs b,ops[j]? =some o->o.op≠ .select cs b):
  ∀(fuel:Nat) (d:Array Bool) (a:Act) (F:iI),
   (∀j m,ops[j]? =some m->j≠i->d.getD j true=false->(∀e∈m.after,Region.binds md e=true->e.on≠i)->p.apart ops m=true)->
   i∈Region.ready md ops d->vo P md ops c C T R S i (oY P md ops c C T R S Q fuel (d.setIfInBounds i true)) a F->oY P md ops c C T R S Q (fuel+1) d a F:=by
 intro fuel
 induction fuel with
 |zero=>
  intro d a F _ hr H;refine⟨λh=>(by rw[h]at hr;cases hr),λj hj=>?_⟩;by_cases r:j=i
  ·subst r;exact H
  ·have M:=Xz hj r
   have h2:Region.ready md ops (d.setIfInBounds i true)=[]:=by
    unfold vo at H;simp only[hi]at H;split at H
    ·obtain⟨u,hu⟩:=ι i (jA a p);exact(H.2 u hu).1
    ·exact H.1
   rw[h2]at M;cases M
 |succ fuel ih=>
  intro d a F y hr H;refine⟨λh=>(by rw[h]at hr;cases hr),λj hj=>?_⟩;by_cases r:j=i
  ·subst r;exact H
  obtain⟨I,m,z,τ⟩:=WZ.1 hj;have J:∀e∈m.after,Region.binds md e=true->e.on≠i:=λe he hb Y=>by
   have M:=τ e he hb;have h0:=(WZ.1 hr).1;rw[Y]at M;rcases WG i d.size with h'|h'
   ·simp[h']at h0 M;rw[h0]at M;cases M
   ·simp[VP h']at M
  have γ:¬qG md m i:=λ⟨e,he,hb,Y⟩=>J e he hb Y
  have χ:=y j m z r I J;obtain⟨p1,p2,p3⟩:=Oper.apart_spec χ;have ψ:=λcs b=>N i p cs b hi
  have Γ:=λcs b=>N j m cs b z
  have Z:∀u,jA (a.put p.dst u) m=jA a m:=λu=>yD p1
  have V:∀u,jA (a.put m.dst u) p=jA a p:=λu=>yD p3
  have f:∀k ok,ops[k]? =some ok->k≠i->(d.setIfInBounds j true).getD k true=false->
    (∀e∈ok.after,Region.binds md e=true->e.on≠i)->p.apart ops ok=true:=λk ok hk φ σ υ=>by
   refine y k ok hk φ ?_ υ;by_cases κ:j=k
   ·subst κ;exact I
   ·rw[WH true κ]at σ;exact σ
  have B:(d.setIfInBounds i true).setIfInBounds j true=(d.setIfInBounds j true).setIfInBounds i true:=Yd _ _ (V1 r);have μ:=Xz hj r;have D:=Xz hr (V1 r);have ξ:∀u,∀F',(∀k xs v,F' k xs v->k=i\/F k xs v)->Nm P md ops c C T R S j m (a.put p.dst u) F'->Nm P md ops c C T R S j m a F:=λu F' O h b w ζ δ θ hw hf=>by
   have:=h b w ζ δ θ hw λk xs v hk hn=>by
    rcases O k xs v hk with rfl|hk
    ·exact absurd hn γ
    ·exact hf k xs v hk hn
   rwa[execOp_put m Γ a p.dst u p1,Z]at this
  have ν:∀u F',(∀k xs v,F k xs v->F' k xs v)->Nm P md ops c C T R S i p a F->Nm P md ops c C T R S i p (a.put m.dst u) F':=λu F' O h b w ζ δ θ hw hf=>by
   rw[execOp_put p ψ a m.dst u p3,V];exact h b w ζ δ θ hw λk xs v hk hn=>hf k xs v (O k xs v hk) hn
  have ε:∀ys u k xs v,F k xs v->(F.ins j ys u) k xs v:=λys u k xs v h=>.inr h
  have X:∀ys u k xs v,(F.ins i ys u) k xs v->k=i\/F k xs v:=λys u k xs v h=>h.imp And.left id
  unfold vo at H;simp only[hi]at H;unfold vo;simp only[z];split at H
  ·rename_i x
   obtain⟨π,HK⟩:=H;have q:∀u,T i (jA a p) u->_:=λu hu=>(HK u hu).2 j μ
   unfold vo at q;simp only[z,Wi m a p.dst _ p1,B,Z]at q;split
   ·rename_i s
    simp only[s,We]at q;obtain⟨u0,ω⟩:=ι i (jA a p);refine⟨ξ u0 _ (X _ u0) (q u0 ω).1,λG β=>ih _ _ _ f D ?_⟩;unfold vo;simp only[hi,Wi p a m.dst G p3,x,We,V];refine⟨ν G _ (ε _ G) π,λui η=>?_⟩;have:=(q ui η).2 G β;rw[Wz a ui G p2,iI.ins_comm]at this;exact this
   ·rename_i s
    simp only[s]at q;refine ih _ _ _ f D ?_;unfold vo;simp only[hi,Wi p a m.dst undef p3,x,We,V];refine⟨ν undef _ (λk xs v h=>h) π,λui η=>?_⟩;have:=q ui η;simp only[V5,Xq]at this;rw[Wz a ui undef p2]at this;exact this
  ·rename_i x
   have q:=H.2 j μ;unfold vo at q;simp only[z,Wi m a p.dst _ p1,B,Z]at q;split
   ·rename_i s
    simp only[s,We]at q;refine⟨ξ undef _ (λk xs v h=>.inr h) q.1,λG β=>ih _ _ _ f D ?_⟩;unfold vo;simp only[hi,Wi p a m.dst G p3,x];have:=q.2 G β;rw[Wz a undef G p2]at this;exact this
   ·rename_i s
    simp only[s]at q;refine ih _ _ _ f D ?_;unfold vo;simp only[hi,Wi p a m.dst undef p3,x];simp only[V5,Xq]at q⊢;rw[Wz a undef undef p2]at q;exact q
def zk(P:Program)(md:Region.Mode)(ops:Array Oper)(c:Nat)(C:Bool->Yu->Prop)(T:Nat->List Yv->Yv->Prop)(R:Nat->List Yv->Yv->Yu->Prop)(S:Nat->Yu->Yu->Prop)(Q:Act->iI->Prop):Nat->List Oper->Act->iI->Prop
 |_,[],a,F=>Q a F
 |i,o::rest,a,F=>if Region.wanted o (yielded ops a.tmps)then Nm P md ops c C T R S i o a F/\∀u,T i (jA a o) u->zk P md ops c C T R S Q (i+1) rest (a.put o.dst u) (F.ins i (jA a o) u)else zk P md ops c C T R S Q (i+1) rest (a.put o.dst undef) F
theorem jb(d:∀i xs,∃u,T i xs u){Q:Act->iI->Prop}(q:Region.noSelect ops=true):∀(l:List Oper) (k:Nat) (b:Array Bool) (a:Act) (F:iI),(∀j,l[j]? =ops[k+j]?)->
  Region.lexFrom md ops l.length k b=true->zk P md ops c C T R S Q k l a F->oY P md ops c C T R S Q l.length b a F
 |[],_,_,_,_,_,hB,h=>⟨by simpa[Region.lexFrom]using hB,h⟩
 |o::l,k,b,a,F,hl,hB,h=>by
  have p:ops[k]? =some o:=by simpa using(hl 0).symm
  simp only[VB,Region.lexFrom,Vo]at hB;obtain⟨⟨s,r⟩,m⟩:=hB;refine sq d p (Region.noSelect_spec q) l.length b a F (Region.free_spec p r) (by simpa using s) ?_;have f:vo P md ops c C T R S k (zk P md ops c C T R S Q (k+1) l) a F:=by unfold vo;simp only[p];exact h
  exact DH (λa F h=>jb d q l (k+1) _ _ _ (λj=>by have:=hl (j+1);simpa[VO,Nat.add_comm 1 j]using this) m h) f
theorem tQ{Q:Exit->Act->Yu->Prop}(c:Nat)(T:Nat->List Yv->Yv->Prop)(R:Nat->List Yv->Yv->Yu->Prop)(S:Nat->Yu->Yu->Prop)(C:Bool->Yu->Prop)
  (s:P.follows .mixedOrders=true) (q:Region.lexB .any l.toArray=true) (x:C false w.drew) (m:∀i xs,∃u,T i xs u) (b:∀w,C false w->C true w) (y:∀i j xs u w w',i≠j->R i xs u w->S j w w'->R i xs u w')
  (h:zk P .any l.toArray c C T R S (λp f=>∀w',C (decide (c<l.length)) w'->(∀k xs u,f k xs u->R k xs u w')->Q .normal p w') 0 l a λ_ _ _=>False):(Code.region id l.toArray true).wp P Q a w:=by
 simp only[Region.lexB,Vo]at q;refine WV s (eQ (c:=c) (C:=C) (T:=T) (Q:=λp f=>∀w',C (decide (c<l.length)) w'->(∀k xs u,f k xs u->R k xs u w')->Q .normal p w') b y (λ_ F w' d hF h=>h w' (by simpa using d) hF) _ _ _ (λ_ _ _=>False) _ (by simp)
  (λj o _ r=>by rw[bB]at r;cases r) (λ_ _ _ h=>False.elim h) (by rw[bB];exact x) (λ_ _ _ h=>False.elim h) ?_)
 have:=jb (P:=P) (c:=c) (C:=C) (T:=T) (R:=R) (S:=S) (md:=.any) m q.1 l 0 (Array.replicate l.length false) a (λ_ _ _=>False) (by simp) (by simpa using q.2) h;simpa using this
theorem iL{Q:Act->iI->Prop}(j:∀a F d,(∀k xs u,F k xs u->d k xs u)->Q a F->Q a d):∀(l:List Oper) (i:Nat) (a:Act) (F d:iI),(∀k xs u,F k xs u->d k xs u)->zk P md ops c C T R S Q i l a F->zk P md ops c C T R S Q i l a d
 |[],_,a,F,d,hs,h=>j a F d hs h
 |o::rest,i,a,F,d,hs,h=>by
  unfold zk at h⊢;split
  ·rename_i f
   rw[Vh f]at h;refine⟨λb w r p x m q=>h.1 b w r p x m λk xs u hk y=>q k xs u (hs k xs u hk) y,λu s=>?_⟩;refine iL j rest _ _ _ _ (λk xs v hk=>?_) (h.2 u s);rcases hk with hk|hk
   ·exact .inl hk
   ·exact .inr (hs k xs v hk)
  ·rename_i f
   rw[Vf f]at h;exact iL j rest _ _ _ _ hs h
theorem gB{Q:Act->iI->Prop}{rest:List Oper}{F:iI}(d:Region.wanted o (yielded ops a.tmps)=true)(b:Nm P md ops c C T R S i o a F)
  (f:∀u,T i (jA a o) u->zk P md ops c C T R S Q (i+1) rest (a.put o.dst u) (F.ins i (jA a o) u)):zk P md ops c C T R S Q i (o::rest) a F:=by
 unfold zk;rw[Vh d];exact⟨b,f⟩
end
end
section
open Go.RowKit Go.BigFrame
def UP(o:Oper):Option Yx:=match o.op with
 |.move x|.assign x|.load _ x|.nilCheck x|.unOp _ _ x|.convert _ _ x|.makeInterface _ x|.fieldAddr _ x _|.field _ x _|.extract x _|.typeAssert x _ _ _|.sliceToArrayPointer _ x|.slice _ x none none none=>some x
 |.makeFunc _ #[] #[x]=>some x
 |.build _ #[(_,x)]=>some x
 |_=>none
def UO(o:Oper):Option (Yx×Yx):=match o.op with
 |.binOp _ _ x y _|.indexAddr _ x y|.index _ x y|.lookup _ x y _|.slice _ x (some y) none none|.slice _ x none (some y) none=>some (x,y)
 |.makeFunc _ #[] #[x,y]=>some (x,y)
 |.build _ #[(_,x),(_,y)]=>some (x,y)
 |_=>none
def UN(o:Oper):Option (Yx×Yx×Yx):=match o.op with
 |.pick x y z|.slice _ x (some y) (some z) none=>some (x,y,z)
 |.makeFunc _ #[] #[x,y,z]=>some (x,y,z)
 |.build _ #[(_,x),(_,y),(_,z)]=>some (x,y,z)
 |_=>none
def cT(a:Act):Yx->Option Yv
 |.tmp t=>a.tmps.toList[t]?
 |.const v=>some v
 |.global g=>some (Yr g)
 |.func f=>some (.func (.func f) #[] #[])
theorem aQ{x:Yx}(h:cT a x=some v):a.eval x=v:=by
 cases x with
 |tmp t=>
  have h:a.tmps.toList[t]? =some v:=h;rw[VK]at h;show a.tmps.getD t undef=v;rw[Array.getD_eq_getD_getElem?,h]
  rfl
 |const c=>exact VT h
 |global g=>exact VT h
 |func f=>exact VT h
section
variable{P:Program}{ops:Array Oper}{W:Yu}{E:List En}{Q:List En->Act->aI->Prop}{o:Oper}{rest:List Oper}{U:Type}{a:U->Act}{F:U->aI}
def wm(P:Program)(ops:Array Oper)(W:Yu)(E:List En)(Q:List En->Act->aI->Prop)(l:List Oper)(U:Type)(a:U->Act)(F:U->aI):Prop:=
 ∃b,∀u,Lw P ops W (E++b) (Q (E++b)) E.length l (a u) (F u)
theorem E9(E:List En)(x:En)(b:List En):(E++x::b)[E.length]? =some x:=by
 rw[VY (Vc _),Nat.sub_self]
 rfl
theorem wm.more{x:En}(h:wm P ops W (E++[x]) Q rest U a F):∃b,∀u,Lw P ops W (E++x::b) (Q (E++x::b)) (E.length+1) rest (a u) (F u):=by
 obtain⟨b,h⟩:=h;rw[Wn,Vl]at h;exact⟨b,h⟩
theorem aH(h:∀u,Q E (a u) (F u)):wm P ops W E Q [] U a F:=⟨[],by
 rw[Xa];exact h⟩
theorem bS{a:Act}{Q:Exit->Act->Yu->Prop}(b:P.follows .mixedOrders=true)(d:Region.lexB .any l.toArray=true)
  (h:wm P l.toArray w [] (λE f j=>∀w',Ys w w'->Q .normal f w') l Unit (λ_=>a) (λ_ _ _=>False)):(Code.region id l.toArray true).wp P Q a w:=by
 obtain⟨E,h⟩:=h;exact Al E b d (h ())
theorem aP{a:Act}{Q:Exit->Act->Yu->Prop}(n:Nat)(d:P.follows .mixedOrders=true)(q:n<=l.length)
  (m:jz .any l.toArray n=true)
  (p:Region.lexB .any (l.take n).toArray=true) (hF:eP .any l.toArray (l.drop n).length n (aO n 0 (Array.replicate l.length false))=true)
  (b:(Region.ready .any l.toArray (aO (l.drop n).length n (aO n 0 (Array.replicate l.length false)))).isEmpty=true)
  (h:wm P (l.take n).toArray w [] (λE j f=>∀w',Ys w w'->(∀k u,f k u->tN E k u w')->wpList P l.toArray Q (l.drop n) j w') (l.take n) Unit (λ_=>a) (λ_ _ _=>False)):(Code.region id l.toArray true).wp P Q a w:=by
 obtain⟨E,h⟩:=h;exact ev n E d q m p hF b (h ())
theorem aw(b:∀u,Region.wanted o (yielded ops (a u).tmps)=false)(h:wm P ops W (E++[.is undef]) Q rest U (λu=>(a u).put o.dst undef) F):wm P ops W E Q (o::rest) U a F:=by
 obtain⟨d,h⟩:=h.more;exact⟨_,λu=>GA (b u) (h u)⟩
theorem iv(b:∀u,Region.wanted o (yielded ops (a u).tmps)=true)(h:∃v,(∀u,∀w,Ys W w->(execOp (a u).eval o).run P w=.ok (.value v) w)/\wm P ops W (E++[.is v]) Q rest U (λu=>(a u).put o.dst v) (λu=>(F u).ins E.length v)):wm P ops W E Q (o::rest) U a F:=by
 obtain⟨v,f,h⟩:=h;obtain⟨d,h⟩:=h.more;exact⟨_,λu=>jk (b u) v (E9 E _ d) (f u) (h u)⟩
theorem fA(b:∀u,Region.wanted o (yielded ops (a u).tmps)=true)(f:FuncId)(args:Array Yv)(v:Yv)(d:∀u,∀w,(execOp (a u).eval o).run P w=.ok (.enter f args) w)
  (c:∀w,Ys W w->Calls P f args w λe w'=>e=.returned v/\Ys w w')
  (h:wm P ops W (E++[.is v]) Q rest U (λu=>(a u).put o.dst v) (λu=>(F u).ins E.length v)):wm P ops W E Q (o::rest) U a F:=by
 obtain⟨j,h⟩:=h.more;exact⟨_,λu=>iw (b u) f args v (E9 E _ j) (d u) c (h u)⟩
end
end
