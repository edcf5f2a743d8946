import Derived.Test.YtemcfhlbmhbjeaaGreatDoorZ01
set_option maxRecDepth 100000
set_option maxHeartbeats 0
set_option linter.all false
namespace Go.Proofs.YtemcfhlbmhbjeaaGreatDoor
open Go.Proofs.Tryz
variable{i id n g cap k sz:Nat}{w w':D}{a:Act}{l:List Oper}{o:Oper}{v:H}{t ty:ay}{x1 x2 x3:aO}{A:Option Addr}{cs:Array H}{K:Act->D->Prop}{md:Region.Mode}{ops:Array Oper}{listed:Array Bool}
open Go Go.RowKit
section
variable{P:Program}(w:D)
def Zn(base:Nat)(t ty e:ay)(i:TypeInfo)(x:H)(size bytes:Nat)(R:P.underlying t=some (.slice e))(T:P.info? e=some i)(hz:i.zero=some x)
  (r:i.size=size) (F:i.bytes=bytes) (Q:x.cells.size=size) (E:0<size)
  (v:H) (n:Nat) (xs:List H) (d:w.ownsRow base e size v n xs) (B:Nat) (A:Option Addr) (m c:Nat) (f:List H) (hr:dK w B size A m f) (h1:∀u∈f,u.oneCell'=true)
  (C:n+m<=maxLen) (p:(n+m)*bytes<=140737488355328) (h:base<=w.heap.size):
  ∃y w',(Builtin.append_ #[t,t] ty #[v,.slice A m c]).run P w=.ok y w'/\w'.ownsRow base e size y (n+m) (xs++f)/\Below base w w'/\w.grownBy w' v.ownBlock:=by
 have G:∀w',w.grownBy w' v.ownBlock->Below base w w':=λw' hg=>(aq _ _).grown hg h λk hk=>(d.lt k hk).1;by_cases hm:m=0;subst hm;obtain rfl:f=[]:=lR (az hr.1);rcases A with _|ad;refine⟨v,w,?_,az d,aq _ _,⟨rfl,rfl,rfl,ao _,λ_ _ _=>rfl⟩⟩;rcases d.2 with⟨rfl,rfl⟩|⟨g,cap,β,rfl,_,_,X,_⟩;simp[Builtin.append_,eT R,sizeOf,typeInfo,T,Builtin.lenOf,Builtin.firstCells];simp[Builtin.append_,eT R,sizeOf,typeInfo,T,Builtin.lenOf,Builtin.firstCells,X,storeCells];obtain⟨y,w',s,W,L,_⟩:=tT (P:=P) w base t ty e i x size bytes R T hz r F Q E v n xs d ad 0 c [] ah (λj u J=>by simp at J) (λu J=>aK J) C p h;exact⟨y,w',s,W,G w' L,L⟩;obtain⟨b,o,rfl,α,hc⟩:=hr.2 V;obtain⟨y,w',s,W,L,_⟩:=tT (P:=P) w base t ty e i x size bytes R T hz r F Q E v n xs d (I b o) m c f hr.1 (λj u J=>by rw[mU];exact hc j u J) h1 C p h;exact⟨y,w',s,W,G w' L,L⟩
def Zo(base:Nat)(t ty e:ay)(i:TypeInfo)(C:H)(size bytes:Nat)(F:P.underlying t=some (.slice e))(G:P.info? e=some i)(hz:i.zero=some C)
  (x:i.size=size) (γ:i.bytes=bytes) (θ:C.cells.size=size) (ζ:0<size)
  (v:H) (n:Nat) (xs:List H) (h:w.ownsRow base e size v n xs) (B:Nat) (A:Option Addr) (m c:Nat) (d:List H) (r:dK w B size A m d) (h1:∀u∈d,u.oneCell'=true)
  (Q:n+m<=maxLen) (f:(n+m)*bytes<=140737488355328) (J:base<=w.heap.size):
  ∃v' w',(Builtin.append_ #[t,t] ty #[v,.slice A m c]).run P w=.ok v' w'/\w'.ownsRow base e size v' (n+m) (xs++d)/\Below base w w'/\w.grownBy w' v.ownBlock/\(v'.ownBlock=v.ownBlock\/∀b,v'.ownBlock=some b->w.heap.size<=b):=by
 obtain⟨v',w',s,h2,h3,h4⟩:=Zn (P:=P) w base t ty e i C size bytes F G hz x γ θ ζ v n xs h B A m c d r h1 Q f J;refine⟨v',w',s,h2,h3,h4,?_⟩;subst x;subst γ;by_cases hm:m=0
 ·subst hm;rcases h.2 with⟨rfl,rfl⟩|⟨g,cap,R,rfl,η,hg,E,ε,W,T⟩
  ·rcases h2.2 with⟨rfl,_⟩|⟨g',ι,κ,rfl,_,μ,_⟩;exact .inl rfl;refine .inr λb hb=>?_;obtain rfl:g'=b:=by simpa[Value.ownBlock]using hb
   rcases mI g' w.heap.size with δ|hge;exfalso;have β:=s;rcases A with _|ad;simp[Builtin.append_,eT F,sizeOf,typeInfo,G,Builtin.lenOf,Builtin.firstCells]at β;simp[Builtin.append_,eT F,sizeOf,typeInfo,G,Builtin.lenOf,Builtin.firstCells,loadCells,loadCellsFrom]at β;exact hge
  obtain rfl:d=[]:=lR (az r.1);left;rcases A with _|ad;simp[Builtin.append_,eT F,sizeOf,typeInfo,G,Builtin.lenOf,Builtin.firstCells,E,storeCells]at s;rw[<-s.1];rw[vJ (P:=P) w t ty e i F G g n cap R hg ad 0 c [] ah (λj u hu=>by simp at hu) (λu hu=>aK hu) E (by rw[W];simp;exact vy _ E)]at s;injection s with X _;rw[<-X];rfl
 obtain⟨b,o,rfl,δ,hc⟩:=r.2 V;have p:∀j u,d[j]? =some u->w.cell? (((I b o):Addr).add j)=some u:=λj u hu=>by rw[mU];exact hc j u hu
 rcases h.2 with⟨rfl,rfl⟩|⟨g,cap,R,rfl,η,hg,E,ε,W,T⟩
 ·rw[run_append_nil (P:=P) w t ty e i C F G hz (I b o) m c d r.1 p V (by simp only[maxLen]at Q;omega) (by have hb:=f;simp only[cA]at hb;omega)]at s;injection s with X _;rw[<-X];refine .inr λb' α=>?_;have:w.heap.size=b':=by simpa[Value.ownBlock]using α
  omega
 by_cases y:n+m<=cap;rw[vJ (P:=P) w t ty e i F G g n cap R hg (I b o) m c d r.1 p h1 y (by rw[r.1,W,<-Nat.add_mul];exact vy _ y)]at s;injection s with X _;rw[<-X];exact .inl O;have L:∀j u,xs[j]? =some u->w.cell? (((I g 0):Addr).add j)=some u:=h.cells (g:=g) O;rw[run_append_grow (P:=P) w t ty e i C F G hz (I g 0) n cap xs h.1 L (I b o) m c d r.1 p V (by simp only[maxLen]at Q;omega) (growslice_fits V f)]at s;injection s with X _;rw[<-X];refine .inr λb' α=>?_;have:w.heap.size=b':=by simpa[Value.ownBlock]using α
 omega
end
def cZ{α:Type}(c:α->Array H)(L:List α):List H:=L.flatMap λx=>(c x).toList
section
variable{α:Type}{c:α->Array H}{sz:Nat}
def yS(x:α)(L:List α):cZ c (x::L)=(c x).toList++cZ c L:=rfl
def Jn(L aeL:List α):cZ c (L++aeL)=cZ c L++cZ c aeL:=by simp[cZ]
def Li(x:α):cZ c [x]=(c x).toList:=by simp[cZ]
def lF(b:∀x,(c x).size=sz)(L:List α):(cZ c L).length=L.length*sz:=by
 induction L with
 |nil=>simp[cZ]
 |cons x L ih=>rw[yS,bW,ih,lW,b,dN,Nat.succ_mul];omega
def uy(e:∀x,(c x).size=sz){L:List α}{x:α}(h:L[i]? =some x){j:Nat}(f:j<sz):(cZ c L)[i*sz+j]? =(c x)[j]?:=by
 induction L generalizing i with
 |nil=>simp at h
 |cons a L ih=>
  have b:((c a).toList).length=sz:=by rw[lW,e]
  cases i with
  |zero=>simp at h;subst h;rw[yS,p9 (by rw[b];omega),nV,cA,i5]
  |succ i=>have d:L[i]? =some x:=az h;rw[yS,pZ (by rw[b,Nat.succ_mul];omega),b,show(i+1)*sz+j-sz=i*sz+j from by rw[Nat.succ_mul];omega];exact ih d
def Qq(L:List α)(u:H)(h:u∈cZ c L):∃x∈L,u∈(c x).toList:=by unfold cZ at h;obtain⟨x,d,b⟩:=List.mem_flatMap.1 h;exact⟨x,d,b⟩
def Row(w:D)(base:Nat)(e:ay)(sz:Nat)(c:α->Array H)(v:H)(L:List α):Prop:=w.ownsRow base e sz v L.length (cZ c L)
variable{w w':D}{base:Nat}{e:ay}{v:H}{L:List α}
def Row.sl(h:Row w base e sz c v L):∃A cap,v=.slice A L.length cap/\L.length<=cap/\cap<=maxLen:=by obtain⟨A,cap,e,b,d,_⟩:=dS h;exact⟨A,cap,e,b,d⟩
def Row.sl_pos(h:Row w base e sz c v L)(r:0<L.length):∃g cap,v=bh g L.length cap/\L.length<=cap/\cap<=maxLen/\base<=g/\g<w.heap.size:=by rcases h.2 with⟨rfl,p⟩|⟨g,cap,b,rfl,m,f,j,d,_⟩;omega;exact⟨g,cap,O,j,d,m,(fI.1 f).1⟩
def Row.rng(b:∀x,(c x).size=sz)(h:Row w base e sz c (bh g n cap) L){x:α}(m:L[i]? =some x):lB w g (i*sz) (c x):=λj u d=>by
 have f:j<sz:=by rw[<-b x];exact(fI.1 d).1
 have:=h.cells (g:=g) O (i*sz+j) u (by rw[uy b m f];exact d);rwa[mU,cA]at this
def Row.blk(h:Row w base e sz c (bh g n cap) L):∃b,M w g e b/\b.size=cap*sz/\b.toList.take (L.length*sz)=cZ c L/\L.length<=cap/\base<=g:=by
 rcases h.2 with⟨f,_⟩|⟨C,j,b,f,x,p,s,y,u,r⟩
 ·cases f
 injection f with d B m;injection d with d;injection d with d;subst d;subst m;exact⟨b,p,u,r,s,x⟩
def Row.frozen(h:Row w base e sz c (bh g n cap) L)(i:Nat):w.frozen? (I g i)=false:=by obtain⟨b,d,_⟩:=h.blk;exact d.frozen i
def Row.rd(h:Row w base e sz c v L)(j:v=.slice A n cap):dK w w.heap.size sz A L.length (cZ c L):=by subst j;obtain⟨u,b,e,s,r,m⟩:=dS h;injection e with d p f;subst d;subst p;subst f;exact m
def Row.call(h:Row w base e sz c v L)(b:S w w'):Row w' base e sz c v L:=sR h b
def Row.mono{b:Nat}(h:Row w b e sz c v L)(d:base<=b):Row w base e sz c v L:=kB h d
def Row.nil:Row w base e sz c (.slice none 0 0) []:=sK w base e sz
def Row.ge(h:Row w base e sz c v L):∀k,v.ownBlock=some k->base<=k/\k<w.heap.size:=World.ownsRow.lt h
def Row.blocks(h:Row w base e sz c v L)(f:∀g cs,M w g e cs->M w' g e cs):Row w' base e sz c v L:=by refine⟨h.1,?_⟩;rcases h.2 with p|⟨g,cap,b,rfl,j,m,d⟩;exact .inl p;exact .inr ⟨g,cap,b,O,j,f g b m,d⟩
end
structure iO(base:Nat)(ts:List ay)(w w':D):Prop where
 below:Below base w w'
 blk:∀g t cs,M w g t cs->t∉ts->M w' g t cs
section
variable{base:Nat}{ts:List ay}{w w' w'':D}
def iO.size(a:iO base ts w w'):w.heap.size<=w'.heap.size:=a.below.size
def M.call(h:M w g t cs)(b:S w w'):M w' g t cs:=h.below b h.lt
def M.type_eq{t':ay}{b:Array H}(h:M w g t cs)(c:M w g t' b):t=t'/\cs=b:=by unfold M at h c;rw[h]at c;injection c with e;injection e with d f;exact⟨f,d⟩
def iO.row{α:Type}{c:α->Array H}{b:Nat}{e:ay}{L:List α}(k:iO base ts w w')(h:Row w b e sz c v L)(d:e∉ts):Row w' b e sz c v L:=h.blocks λg cs f=>k.blk g e cs f d
end
def dQ(ty:ay)(x:H):Sem Next:=do pure (.value (<-Instr.loadAt ty x))
def iY(t:ay)(ρ:aO->H)(dst:Option Tmp)(x:aO)(ty:ay)(pos:String)(after:Array Edge)(guard:Option (Nat×Bool)):execOp ρ {dst,op:=.load t x,type:=ty,pos,after,guard}=dQ t (ρ x):=by simp[execOp,dQ]
def eQ(ty:ay)(x y:H):Sem Next:=do Instr.storeAt ty x y;pure .skip
def jC(t:ay)(ρ:aO->H)(dst:Option Tmp)(x y:aO)(ty:ay)(pos:String)(after:Array Edge)(guard:Option (Nat×Bool)):execOp ρ {dst,op:=.store t x y,type:=ty,pos,after,guard}=eQ t (ρ x) (ρ y):=by simp[execOp,eQ]
def iU(t ty:ay)(s x:H):Sem Next:=do pure (.value (<-Builtin.append_ #[t,t] ty #[s,x]))
def mr(t:ay)(ρ:aO->H)(dst:Option Tmp)(x y:aO)(ty:ay)(pos:String)(after:Array Edge)(guard:Option (Nat×Bool)):execOp ρ {dst,op:=.call {callee:=.builtin .append,args:=#[x,y],argTypes:=#[t,t]},type:=ty,pos,after,guard}=iU t ty (ρ x) (ρ y):=by simp[execOp,iU,resolve,invoke,builtin]
section
variable{P:Program}{α:Type}{c:α->Array H}{sz:Nat}{w w':D}{base:Nat}{e:ay}{v:H}{L:List α}
def eO{b o:Nat}{d:TypeDesc}(h:lB w b o cs)(j:P.underlying ty=some d)(f:d.isRow=true)(m:(P.info? ty).map (·.size)=some cs.size):
  (dQ ty (.pointer (some (I b o)))).run P w=.ok (.value (.agg cs)) w:=by
 unfold dQ;simp[ZI w b o ty cs d h j f m]
def zI{o:Nat}{b cells:Array H}(h:M w g t b)(j:(P.info? ty).map (·.size)=some cells.size)(d:o+cells.size<=b.size)(f:cells.all (·.oneCell')=true):
  (eQ ty (.pointer (some (I g o))) (.agg cells)).run P w=.ok .skip (w.setRow g (b.toList.take o++cells.toList++b.toList.drop (o+cells.size)).toArray):=by
 unfold eQ;simp[Instr.storeAt,Instr.sureAddr,IU w g o t ty b cells h j d f]
def zJ{s x b:H}(h:(Builtin.append_ #[t,t] ty #[s,x]).run P w=.ok b w'):(iU t ty s x).run P w=.ok (.value b) w':=by unfold iU;simp[h]
end
structure RowsIn{α:Type}(w:D)(sz:Nat)(c:α->Array H)(A:Option Addr)(L:List α)(cap:Nat):Prop where
 rd:dK w w.heap.size sz A L.length (cZ c L)
 le:L.length<=cap
 mx:cap<=maxLen
def RowsIn.call{α:Type}{c:α->Array H}{L:List α}(h:RowsIn w sz c A L cap)(b:S w w'):RowsIn w' sz c A L cap:=⟨(h.rd.below b).mono b.size,h.le,h.mx⟩
def RowsIn.at_{α:Type}{c:α->Array H}{L:List α}(h:RowsIn w sz c A L cap)(f:∀x,(c x).size=sz)(B:0<sz){x:α}(m:L[i]? =some x):
  ∃b o,A=some (I b o)/\b<w.heap.size/\lB w b (o+i*sz) (c x):=by
 have p:i<L.length:=(fN.1 m).1;obtain⟨b,o,y,s,d⟩:=h.rd.2 V;refine⟨b,o,y,s,λj u e=>?_⟩;have r:j<sz:=by rw[<-f x];exact(fI.1 e).1
 have:=d (i*sz+j) u (by rw[uy f m r];exact e);rw[gQ];exact this
section
variable{P:Program}{ops:Array Oper}{md:Region.Mode}{C:D->Prop}{T:Nat->Option H}{R:Nat->H->D->Prop}
def tz(md:Region.Mode)(o:Oper)(k:Nat):Prop:=∃e∈o.after,Region.binds md e=true/\e.on=k
def mh(T:Nat->Option H)(i:Nat)(u:H):Prop:=∀v,T i=some v->u=v
def ze(T:Nat->Option H)(i:Nat):∃u,mh T i u:=by
 cases h:T i with
 |none=>exact⟨undef,λv b=>by rw[h]at b;cases b⟩
 |some v=>exact⟨v,λc b=>by rw[h]at b;cases b;rfl⟩
def DI(P:Program)(C:D->Prop)(T:Nat->Option H)(R:Nat->H->D->Prop)(i:Nat)(w:D):Result Next->Prop
 |.ok (.value u) w'=>mh T i u/\C w'/\S w w'/\R i u w'
 |.ok (.enter f args) w'=>Calls P f args w' λe b=>∃u,e=.returned u/\mh T i u/\C b/\S w b/\R i u b
 |_=>False
abbrev bN:=Nat->H->Prop
def bN.ins(i:Nat)(u:H)(F:bN):bN:=λj v=>(j=i/\v=u)\/F j v
def bN.ins_comm(i j:Nat)(u v:H)(F:bN):(F.ins i u).ins j v=(F.ins j v).ins i u:=by funext k x;simp only[bN.ins,eq_iff_iff];constructor;rintro(h|h|h);exact .inr (.inl h);exact .inl h;exact .inr (.inr h);rintro(h|h|h);exact .inr (.inl h);exact .inl h;exact .inr (.inr h)
def sd(P:Program)(md:Region.Mode)(C:D->Prop)(T:Nat->Option H)(R:Nat->H->D->Prop)(i:Nat)(o:Oper)(a:Act)(F:bN):Prop:=
 ∀w,C w->(∀k u,F k u->tz md o k->R k u w)->DI P C T R i w ((execOp a.eval o).run P w)
def km(P:Program)(md:Region.Mode)(ops:Array Oper)(C:D->Prop)(T:Nat->Option H)(R:Nat->H->D->Prop)(i:Nat)(K:Act->bN->Prop)(a:Act)(F:bN):Prop:=
 match ops[i]? with
 |none=>K a F
 |some o=>if Region.wanted o (yielded ops a.tmps)then sd P md C T R i o a F/\∀u,mh T i u->K (a.put o.dst u) (F.ins i u)else K (a.put o.dst undef) F
def Px{F:bN}{K d:Act->bN->Prop}(h:∀a F,K a F->d a F)(b:km P md ops C T R i K a F):km P md ops C T R i d a F:=by
 unfold km at*;split;exact h _ _ (by simpa[*]using b);rename_i o e;simp only[e]at b;split
 ·rename_i c;simp only[c,gR]at b;exact⟨b.1,λu f=>h _ _ (b.2 u f)⟩
 rename_i c;simp only[c]at b;exact h _ _ b
def wS(P:Program)(md:Region.Mode)(ops:Array Oper)(C:D->Prop)(T:Nat->Option H)(R:Nat->H->D->Prop)(Q:Act->bN->Prop):Nat->Array Bool->Act->bN->Prop
 |0,listed,a,F=>Region.ready md ops listed=[]/\Q a F
 |fuel+1,listed,a,F=>
  (Region.ready md ops listed=[]->Q a F)/\
  ∀i∈Region.ready md ops listed,km P md ops C T R i (wS P md ops C T R Q fuel (listed.setIfInBounds i true)) a F
def rx{Q:Act->bN->Prop}{Q':Exit->Act->D->Prop}(y:∀i u w w',R i u w->S w w'->R i u w')(j:∀a F w,C w->(∀k u,F k u->R k u w)->Q a F->Q' .normal a w):
  ∀(fuel:Nat) (listed:Array Bool) (a:Act) (F:bN) (w:D),C w->(∀k u,F k u->R k u w)->wS P md ops C T R Q fuel listed a F->wpAny P md ops Q' fuel listed a w
 |0,_,_,_,_,hw,hF,h=>⟨h.1,j _ _ _ hw hF h.2⟩
 |fuel+1,listed,a,F,w,hw,hF,h=>by
  refine⟨λh0=>j _ _ _ hw hF (h.1 h0),λi hi=>?_⟩;have c:=h.2 i hi;unfold km at c;unfold wpOp;split
  ·rename_i G;simp only[G]at c;exact rx y j fuel _ _ _ _ hw hF c
  rename_i o G;simp only[G]at c;split
  ·rename_i b;simp only[b,gR]at c;obtain⟨E,X⟩:=c;have m:=E w hw λk u B _=>hF k u B;have d:∀u w',S w w'->R i u w'->∀k v,(F.ins i u) k v->R k v w':=λu w' p s k v iM=>by rcases iM with⟨rfl,rfl⟩|iM;exact s;exact y _ _ _ _ (hF k v iM) p
   refine .inl ?_;unfold Oper.wp;generalize (execOp a.eval o).run P w=r at m;cases r with
   |ok n w'=>
    cases n<;>simp only[DI]at m<;>simp only[Oper.upon]
    case value u=>obtain⟨L,W,p,s⟩:=m;exact rx y j fuel _ _ _ _ W (d u w' p s) (X u L)
    case enter f args=>refine m.mono λe J ⟨u,he,L,W,p,s⟩=>?_;subst he;exact rx y j fuel _ _ _ _ W (d u J p s) (X u L)
   |halt x w'=>simp only[DI]at m
  rename_i b;simp only[b]at c;exact rx y j fuel _ _ _ _ hw hF c
theorem ZP{Q:Act->bN->Prop}{r:Oper}(hi:ops[i]? =some r)(α:∀(j:Nat) (o:Oper) cs b,ops[j]? =some o->o.op≠ .select cs b):
  ∀(fuel:Nat) (listed:Array Bool) (a:Act) (F:bN),
   (∀j f,ops[j]? =some f->j≠i->listed.getD j true=false->(∀e∈f.after,Region.binds md e=true->e.on≠i)->r.apart ops f=true)->
   i∈Region.ready md ops listed->km P md ops C T R i (wS P md ops C T R Q fuel (listed.setIfInBounds i true)) a F->wS P md ops C T R Q (fuel+1) listed a F:=by
 intro fuel
 induction fuel with
 |zero=>
  intro listed a F _ hr c;refine⟨λh=>(by rw[h]at hr;cases hr),λj hj=>?_⟩;by_cases p:j=i;subst p;exact c;have X:=qe hj p;have h2:Region.ready md ops (listed.setIfInBounds i true)=[]:=by unfold km at c;simp only[hi]at c;split at c;obtain⟨u,hu⟩:=ze T i;exact(c.2 u hu).1;exact c.1
  rw[h2]at X;cases X
 |succ fuel ih=>
  intro listed a F y hr c;refine⟨λh=>(by rw[h]at hr;cases hr),λj hj=>?_⟩;by_cases p:j=i;subst p;exact c;obtain⟨L,f,B,σ⟩:=mQ.1 hj;have W:∀e∈f.after,Region.binds md e=true->e.on≠i:=λe he hb δ=>by
   have X:=σ e he hb;have h0:=(mQ.1 hr).1;rw[δ]at X;rcases mI i listed.size with h'|h'
   ·simp[h']at h0 X;rw[h0]at X;cases X
   simp[kQ h']at X
  have ζ:¬tz md f i:=λ⟨e,he,hb,δ⟩=>W e he hb δ;have φ:=y j f B p L W;obtain⟨p1,p2,p3⟩:=Oper.apart_spec φ;have χ:=λcs b=>α i r cs b hi;have ω:=λcs b=>α j f cs b B;have d:∀k ok,ops[k]? =some ok->k≠i->(listed.setIfInBounds j true).getD k true=false->
    (∀e∈ok.after,Region.binds md e=true->e.on≠i)->r.apart ops ok=true:=λk ok hk υ π τ=>by
   refine y k ok hk υ ?_ τ;by_cases ι:j=k;subst ι;exact L;rw[mH true ι]at π;exact π
  have E:(listed.setIfInBounds i true).setIfInBounds j true=(listed.setIfInBounds j true).setIfInBounds i true:=Cy _ _ (eC p);have κ:=qe hj p;have J:=qe hr (eC p);have ν:∀u,∀F',(∀k v,F' k v->k=i\/F k v)->sd P md C T R j f (a.put r.dst u) F'->sd P md C T R j f a F:=λu F' β h w hw hf=>by
   have:=h w hw λk v hk hn=>by rcases β k v hk with rfl|hk;exact absurd hn ζ;exact hf k v hk hn
   rwa[execOp_put f ω a r.dst u p1]at this
  have μ:∀u F',(∀k v,F k v->F' k v)->sd P md C T R i r a F->sd P md C T R i r (a.put f.dst u) F':=λu F' β h w hw hf=>by rw[execOp_put r χ a f.dst u p3];exact h w hw λk v hk hn=>hf k v (β k v hk) hn
  have η:∀u k v,F k v->(F.ins j u) k v:=λu k v h=>.inr h;have γ:∀u k v,(F.ins i u) k v->k=i\/F k v:=λu k v h=>h.imp And.left id;unfold km at c;simp only[hi]at c;unfold km;simp only[B];split at c
  ·rename_i x;obtain⟨ξ,HK⟩:=c;have m:∀u,mh T i u->_:=λu hu=>(HK u hu).2 j κ;unfold km at m;simp only[B,jD f a r.dst _ p1,E]at m;split
   ·rename_i s;simp only[s,gR]at m;obtain⟨u0,ψ⟩:=ze T i;refine⟨ν u0 _ (γ u0) (m u0 ψ).1,λG ε=>ih _ _ _ d J ?_⟩;unfold km;simp only[hi,jD r a f.dst G p3,x,gR];refine⟨μ G _ (η G) ξ,λui θ=>?_⟩;have:=(m ui θ).2 G ε;rw[mK a ui G p2,bN.ins_comm]at this;exact this
   rename_i s;simp only[s]at m;refine ih _ _ _ d J ?_;unfold km;simp only[hi,jD r a f.dst undef p3,x,gR];refine⟨μ undef _ (λk v h=>h) ξ,λui θ=>?_⟩;have:=m ui θ;simp only[mN,mP]at this;rw[mK a ui undef p2]at this;exact this
  rename_i x;have m:=c.2 j κ;unfold km at m;simp only[B,jD f a r.dst _ p1,E]at m;split
  ·rename_i s;simp only[s,gR]at m;refine⟨ν undef _ (λk v h=>.inr h) m.1,λG ε=>ih _ _ _ d J ?_⟩;unfold km;simp only[hi,jD r a f.dst G p3,x];have:=m.2 G ε;rw[mK a undef G p2]at this;exact this
  rename_i s;simp only[s]at m;refine ih _ _ _ d J ?_;unfold km;simp only[hi,jD r a f.dst undef p3,x];simp only[mN,mP]at m⊢;rw[mK a undef undef p2]at m;exact m
def pp(P:Program)(md:Region.Mode)(ops:Array Oper)(C:D->Prop)(T:Nat->Option H)(R:Nat->H->D->Prop)(Q:Act->bN->Prop):Nat->List Oper->Act->bN->Prop
 |_,[],a,F=>Q a F
 |i,o::rest,a,F=>if Region.wanted o (yielded ops a.tmps)then sd P md C T R i o a F/\∀u,mh T i u->pp P md ops C T R Q (i+1) rest (a.put o.dst u) (F.ins i u)else pp P md ops C T R Q (i+1) rest (a.put o.dst undef) F
def wd{Q:Act->bN->Prop}(e:Region.noSelect ops=true):∀(l:List Oper) (k:Nat) (listed:Array Bool) (a:Act) (F:bN),(∀j,l[j]? =ops[k+j]?)->
  Region.lexFrom md ops l.length k listed=true->pp P md ops C T R Q k l a F->wS P md ops C T R Q l.length listed a F
 |[],_,_,_,_,_,hB,h=>⟨by simpa[Region.lexFrom]using hB,h⟩
 |o::l,k,listed,a,F,hl,hB,h=>by
  have d:ops[k]? =some o:=by simpa using(hl 0).symm
  simp only[dN,Region.lexFrom,bZ]at hB;obtain⟨⟨m,f⟩,c⟩:=hB;refine ZP d (Region.noSelect_spec e) l.length listed a F (Region.free_spec d f) (az m) ?_;have b:km P md ops C T R k (pp P md ops C T R Q (k+1) l) a F:=by unfold km;simp only[d];exact h
  exact Px (λa F h=>wd e l (k+1) _ _ _ (λj=>by have:=hl (j+1);simpa[gQ,Nat.add_comm 1 j]using this) c h) b
def Zh{Q:Exit->Act->D->Prop}(T:Nat->Option H)(R:Nat->H->D->Prop)(C:D->Prop)
  (e:P.follows .mixedOrders=true) (d:Region.lexB .any l.toArray=true) (f:C w.drew) (j:∀i u w w',R i u w->S w w'->R i u w')
  (h:pp P .any l.toArray C T R (λc _=>∀w',C w'->Q .normal c w') 0 l a λ_ _=>False):(Code.region id l.toArray true).wp P Q a w:=by
 simp only[Region.lexB,bZ]at d;refine qf e (rx (T:=T) (Q:=λc _=>∀w',C w'->Q .normal c w') j (λ_ _ w' b _ h=>h w' b) _ _ _ (λ_ _=>False) _ f (λ_ _ h=>False.elim h) ?_);have:=wd (P:=P) (C:=C) (T:=T) (R:=R) (md:=.any) d.1 l 0 (Array.replicate l.length false) a (λ_ _=>False) ah (az d.2) h;simpa using this
def Di{Q:Act->bN->Prop}{b:List Oper}{F:bN}(d:Region.wanted o (yielded ops a.tmps)=true)(c:sd P md C T R i o a F)
  (e:∀u,mh T i u->pp P md ops C T R Q (i+1) b (a.put o.dst u) (F.ins i u)):pp P md ops C T R Q i (o::b) a F:=by
 unfold pp;rw[av d];exact⟨c,e⟩
end
section
open Go.BigFrame
inductive iB where
 |is (v:H)
 |rel (r:H->D->Prop) (h:∀u w w',r u w->S w w'->r u w')
def mu(E:List iB)(i:Nat):Option H:=match E[i]? with
 |some (.is v)=>some v
 |_=>none
def jW(E:List iB)(i:Nat)(u:H)(w:D):Prop:=match E[i]? with
 |some (.rel r _)=>r u w
 |_=>True
def yV{E:List iB}(i:Nat)(u:H)(w w':D)(h:jW E i u w)(c:S w w'):jW E i u w':=by
 unfold jW at*;split
 ·rename_i r d b;simp only[b]at h;exact d _ _ _ h c
 trivial
def rR(o:Oper)(k:Nat):Bool:=o.after.toList.any λe=>Region.binds .any e&&e.on==k
def mW(h:rR o k=true):tz .any o k:=by unfold rR at h;rw[List.any_eq_true]at h;obtain⟨e,c,b⟩:=h;simp only[bZ,qd]at b;exact⟨e,az c,b⟩
section
variable{P:Program}{ops:Array Oper}{W:D}{E:List iB}{Q:Act->bN->Prop}{i:Nat}{o:Oper}{rest:List Oper}{a:Act}{F:bN}
abbrev iE(P:Program)(ops:Array Oper)(W:D)(E:List iB)(Q:Act->bN->Prop)(i:Nat)(l:List Oper)(a:Act)(F:bN):Prop:=
 pp P .any ops (λw=>S W w) (mu E) (jW E) Q i l a F
def Nu{Q:Exit->Act->D->Prop}(E:List iB)(b:P.follows .mixedOrders=true)(c:Region.lexB .any l.toArray=true)
  (h:iE P l.toArray w E (λd _=>∀w',S w w'->Q .normal d w') 0 l a λ_ _=>False):(Code.region id l.toArray true).wp P Q a w:=
 Zh (mu E) (jW E) (λw'=>S w w') b c (aq _ _).drew yV h
def Sd(b:Region.wanted o (yielded ops a.tmps)=false)(h:iE P ops W E Q (i+1) rest (a.put o.dst undef) F):iE P ops W E Q i (o::rest) a F:=by unfold iE pp;rw[al (by rw[b];exact Bool.false_ne_true)];exact h
def qA(f:Region.wanted o (yielded ops a.tmps)=true)(v:H)(d:E[i]? =some (.is v))(c:∀w,S W w->(execOp a.eval o).run P w=.ok (.value v) w)
  (h:iE P ops W E Q (i+1) rest (a.put o.dst v) (F.ins i v)):iE P ops W E Q i (o::rest) a F:=by
 refine Di f (λw e _=>?_) λu j=>?_;rw[c w e];exact⟨λm b=>by simp only[mu,d]at b;cases b;rfl,e,aq _ _,by simp only[jW,d]⟩;have:=j v (by simp only[mu,d]);subst this;exact h
def rI(p:Region.wanted o (yielded ops a.tmps)=true)(f:FuncId)(args:Array H)(v:H)(d:E[i]? =some (.is v))(r:∀w,(execOp a.eval o).run P w=.ok (.enter f args) w)
  (c:∀w,S W w->Calls P f args w λe w'=>e=.returned v/\S w w')
  (h:iE P ops W E Q (i+1) rest (a.put o.dst v) (F.ins i v)):iE P ops W E Q i (o::rest) a F:=by
 refine Di p (λw j _=>?_) λu s=>?_;rw[r w];apply(c w j).mono;rintro e w' ⟨rfl,m⟩;exact⟨_,O,λx b=>by simp only[mu,d]at b;cases b;rfl,j.trans (m.mono j.size),m,by simp only[jW,d]⟩;have:=s v (by simp only[mu,d]);subst this;exact h
def JA(s:Region.wanted o (yielded ops a.tmps)=true)(f:FuncId)(args:Array H)(r:H->D->Prop)(hr)(m:E[i]? =some (.rel r hr))(x:∀w,(execOp a.eval o).run P w=.ok (.enter f args) w)
  (c:∀w,S W w->Calls P f args w λe w'=>∃u,e=.returned u/\r u w'/\S w w')
  (h:∀u,iE P ops W E Q (i+1) rest (a.put o.dst u) (F.ins i u)):iE P ops W E Q i (o::rest) a F:=by
 refine Di s (λw j _=>?_) λu _=>h u;rw[x w];apply(c w j).mono;rintro e w' ⟨u,rfl,d,p⟩;exact⟨_,O,λy b=>(by simp only[mu,m]at b;cases b),j.trans (p.mono j.size),p,by simp only[jW,m];exact d⟩
end
def pv(l:List Int)(u:H)(w:D):Prop:=∃A c,u=.slice A l.length c/\l.length<=c/\c<=maxLen/\kD w w.heap.size A l
def pv.keep(l:List Int)(u:H)(w w':D)(h:pv l u w)(f:S w w'):pv l u w':=by obtain⟨A,c,e,r,m,p⟩:=h;refine⟨A,c,e,r,m,λj=>?_⟩;obtain⟨b,o,e,d,s⟩:=(p.below f) j;exact⟨b,o,e,ee d f.size,s⟩
abbrev iB.bytes(l:List Int):iB:=.rel (pv l) (pv.keep l)
def pv.of_own{base:Nat}{e:ay}{l:List Int}(h:w.ownsRow base e 1 v l.length (dD l)):pv l v w:=by obtain⟨A,c,rfl,b,d,f⟩:=dS h;exact⟨A,c,O,b,d,El f⟩
end
def nB(Q:Exit->Act->D->Prop)(K:Act->D->Prop):Exit->Act->D->Prop
 |.normal,a,w=>K a w
 |x,a,w=>Q x a w
def mY(md:Region.Mode)(ops:Array Oper):Nat->Nat->Array Bool->Bool
 |0,_,_=>true
 |n+1,k,listed=>(Region.ready md ops listed==[k])&&mY md ops n (k+1) (listed.setIfInBounds k true)
def dM:Nat->Nat->Array Bool->Array Bool
 |0,_,listed=>listed
 |n+1,k,listed=>dM n (k+1) (listed.setIfInBounds k true)
section
variable{P:Program}{ops:Array Oper}{md:Region.Mode}{Q:Exit->Act->D->Prop}
def K1{next:Act->D->Prop}(r:Result Next)(h:o.upon P a next (nB Q K) r):o.upon P a next Q r:=by
 cases r with
 |ok n w=>
  cases n with
  |enter f args=>refine o4 (show Calls P f args w _ from h) ?_;intro e w' h;cases e<;>exact h
  |_=>exact h
 |halt x w=>cases x<;>exact h
def rB:∀(n k:Nat) (listed:Array Bool) (l:List Oper) (a:Act) (w:D) (fuel:Nat),(∀a w,K a w->wpAny P md ops Q fuel (dM n k listed) a w)->l.length=n->(∀j,j<n->l[j]? =ops[k+j]?)->mY md ops n k listed=true->
  wpList P ops (nB Q K) l a w->wpAny P md ops Q (n+fuel) listed a w
 |0,k,listed,l,a,w,fuel,hK,b,_,_,h=>by obtain rfl:l=[]:=lR b;rw[cA];exact hK _ _ h
 |n+1,k,listed,l,a,w,fuel,hK,b,hj,hf,h=>by
  obtain⟨o,l,rfl⟩:∃o r,l=o::r:=by
   cases l with
   |nil=>cases b
   |cons o r=>exact⟨o,r,O⟩
  simp only[mY,bZ,qd]at hf;have s:ops[k]? =some o:=by simpa using(hj 0 V).symm
  rw[bU (n+1+fuel=(n+fuel)+1)];refine⟨λh=>(by rw[hf.1]at h;cases h),λi e=>?_⟩;rw[hf.1]at e;obtain rfl:i=k:=az e;have d:=λa w=>rB n (i+1) (listed.setIfInBounds i true) l a w fuel hK (az b) (λj f=>by have:=hj (j+1) V;simpa[gQ,Nat.add_comm 1 j]using this) hf.2;unfold wpOp;simp only[s];unfold wpList at h;split at h
  ·rename_i c;rw[av c];rcases h with h|⟨p,m⟩;exact .inl (Oper.wp_mono d (K1 _ h));exact .inr ⟨p,m⟩
  rename_i c;rw[al c];exact d _ _ h
structure Ij(P:Program)(ops:Array Oper)(Q:Exit->Act->D->Prop)(n:Nat)(r:List Oper)(a:Act)(w1:D):Prop where
 out:∃E,iE P ops w1 E (λa' _=>∀w',S w1 w'->Q .normal a' w') n r a (λ_ _=>False)
def aaK{Q:Exit->Act->D->Prop}(n:Nat)(f:P.follows .mixedOrders=true)(u:Region.noSelect l.toArray=true)(x:n<=l.length)
  (hF:mY .any l.toArray n 0 (Array.replicate l.length false)=true) (s:Region.lexFrom .any l.toArray (l.drop n).length n (dM n 0 (Array.replicate l.length false))=true)
  (h:wpList P l.toArray (nB Q (Ij P l.toArray Q n (l.drop n))) (l.take n) a w.drew):(Code.region id l.toArray true).wp P Q a w:=by
 refine qf f ?_;have r:∀a b,Ij P l.toArray Q n (l.drop n) a b->wpAny P .any l.toArray Q (l.drop n).length (dM n 0 (Array.replicate l.length false)) a b:=λa b ⟨⟨E,e⟩⟩=>
  rx (T:=mu E) (Q:=λp _=>∀w',S b w'->Q .normal p w') yV (λ_ _ w' c _ h=>h w' c) _ _ _ (λ_ _=>False) _ (aq _ _) (λ_ _ h=>False.elim h)
   (wd u (l.drop n) n _ a _ (λj=>ah) s e)
 have d:=rB (md:=.any) n 0 (Array.replicate l.length false) (l.take n) a w.drew (l.drop n).length r aQ (λj m=>by simp[m]) hF h;rw[kx,Nat.add_sub_cancel' x]at d;simpa using d
structure BP(P:Program)(ops:Array Oper)(Q:Exit->Act->D->Prop)(r:List Oper)(a:Act)(w1:D):Prop where
 out:wpQuiet P ops (λw'=>∃x:iy w1,w'=x.w) (λa'=>∀w',(∃x:iy w1,w'=x.w)->Q .normal a' w') r a
def Hw{r:List Oper}{b:D}(h:wpQuiet P ops (λw'=>∃x:iy b,w'=x.w) (λc=>∀w',(∃x:iy b,w'=x.w)->Q .normal c w') r a):nB Q (BP P ops Q r) .normal a b:=⟨h⟩
def IV{Q:Exit->Act->D->Prop}(n:Nat)(f:P.follows .mixedOrders=true)(u:Region.noSelect l.toArray=true)(y:n<=l.length)
  (hF:mY .any l.toArray n 0 (Array.replicate l.length false)=true) (s:Region.lexFrom .any l.toArray (l.drop n).length n (dM n 0 (Array.replicate l.length false))=true)
  (h:wpList P l.toArray (nB Q (BP P l.toArray Q (l.drop n))) (l.take n) a w.drew):(Code.region id l.toArray true).wp P Q a w:=by
 refine qf f ?_;have r:∀a b,BP P l.toArray Q (l.drop n) a b->wpAny P .any l.toArray Q (l.drop n).length (dM n 0 (Array.replicate l.length false)) a b:=λa b ⟨e⟩=>
  wpAny_of_quiet (Q:=λp=>∀w',(∃x:iy b,w'=x.w)->Q .normal p w') (λ_ w' c h=>h w' c) _ _ _ _ ⟨⟨b,aq _ _⟩,O⟩
   (wpAnyQ_lex u (l.drop n) n _ a (λj=>ah) s e)
 have d:=rB (md:=.any) n 0 (Array.replicate l.length false) (l.take n) a w.drew (l.drop n).length r aQ (λj m=>by simp[m]) hF h;rw[kx,Nat.add_sub_cancel' y]at d;simpa using d
end
def qM(md:Region.Mode)(ops:Array Oper)(k:Nat):Nat->Nat->Bool
 |0,_=>false
 |f+1,i=>((ops[i]?).map λo=>o.after.toList.any λe=>Region.binds md e&&(e.on==k||qM md ops k f e.on)).getD false
def nv(md:Region.Mode)(ops:Array Oper)(n:Nat):Bool:=
 ((List.range n).all λi=>((ops[i]?).map λo=>(o.guard.all λg=>decide (g.1<n))&&o.after.toList.all λe=> !Region.binds md e||decide (e.on<i)).getD false)&&
 ((List.range ops.size).all λi=>decide (i<n)||(List.range n).all λk=>qM md ops k ops.size i)
def JU(h:nv md ops n=true)(r:i<n):∃o,ops[i]? =some o/\(∀j b,o.guard=some (j,b)->j<n)/\∀e∈o.after,Region.binds md e=true->e.on<i:=by
 simp only[nv,bZ,lZ,rq]at h;have c:=h.1 i r;cases d:ops[i]? with
 |none=>rw[d]at c;cases c
 |some o=>
  rw[d]at c;simp only[pX,tV,bZ,lZ,pY,ua,eN]at c;refine⟨o,O,λj b p=>by have:=c.1;rw[p]at this;simpa using this,λe m f=>?_⟩;rcases c.2 e (az m)with h2|h2
  ·rw[h2]at f;cases f
  exact h2
def aaA(h:nv md ops n=true)(b:i<ops.size)(d:n<=i)(c:k<n):qM md ops k ops.size i=true:=by simp only[nv,bZ,lZ,rq,pY,eN]at h;rcases h.2 i b with h2|h2;omega;exact h2 k c
def tA(md:Region.Mode)(ops:Array Oper)(b:Array Bool):Prop:=∀j o,ops[j]? =some o->b.getD j false=true->∀e∈o.after,Region.binds md e=true->b.getD e.on false=true
def yK{d:Array Bool}(r:tA md ops d):∀(f i:Nat),qM md ops k f i=true->(∀o,ops[i]? =some o->∀e∈o.after,Region.binds md e=true->d.getD e.on false=true)->d.getD k false=true
 |0,_,h,_=>aK h
 |f+1,i,h,hi=>by
  unfold qM at h;cases b:ops[i]? with
  |none=>rw[b]at h;cases h
  |some o=>rw[b]at h;simp only[pX,tV,List.any_eq_true,bZ,pY,qd]at h;obtain⟨e,s,x,h2⟩:=h;have p:=hi o b e (az s) x;rcases h2 with h2|h2;rw[<-h2];exact p;exact yK r f e.on h2 λy j u m c=>r e.on y j p u m c
def hU(n i:Nat):(Array.replicate n false).getD i false=false:=by rw[Array.getD_eq_getD_getElem?,Array.getElem?_replicate];split<;>rfl
def Jk:∀(n k:Nat) (A:Array Bool),(dM n k A).size=A.size
 |0,_,_=>rfl
 |n+1,k,A=>by rw[dM,Jk n];simp
def JB:∀(n k i:Nat) (A:Array Bool),i<A.size->(dM n k A).getD i false=if k<=i/\i<k+n then true else A.getD i false
 |0,k,i,A,_=>by rw[al V];rfl
 |n+1,k,i,A,hi=>by rw[dM,JB n (k+1) i _ (az hi)];by_cases b:k=i;subst b;rw[al V,av V];simp[hi];rw[mH false b];by_cases h:k+1<=i/\i<k+1+n;rw[av h,av V];rw[al h,al V]
def I6:∀(l:List Bool) (i:Nat),l[i]? =some false->(l.set i true).count false+1=l.count false
 |[],i,h=>by simp at h
 |b::l,0,h=>by simp at h;subst h;simp
 |b::l,i+1,h=>by have:=I6 l i (az h);rw[vz,List.count_cons,List.count_cons];omega
section
variable{P:Program}{md:Region.Mode}{Q:Exit->Act->D->Prop}
def ug{m:Nat}(hn:n<=l.length)(hP:nv md l.toArray n=true)(hK:∀a w,K a w->wpAny P md l.toArray Q m (dM n 0 (Array.replicate l.length false)) a w):∀(fuel:Nat) (c f:Array Bool) (a:Act) (w:D),
  c.size=n->f.size=l.length->(∀i,i<n->c.getD i false=f.getD i false)->(∀i,n<=i->f.getD i false=false)->tA md l.toArray f->c.toList.count false=fuel->
  wpAny P md (l.take n).toArray (nB Q K) fuel c a w->wpAny P md l.toArray Q (fuel+m) f a w
 |0,c,f,a,w,s1,s2,hE,hT,hD,hc,h=>by
  have e:f=dM n 0 (Array.replicate l.length false):=by
   refine Array.ext (by rw[Jk,s2];simp) λi x h2=>?_;have g:=JB n 0 i (Array.replicate l.length false) (az (s2▸x));have g1:f.getD i false=f[i]:=by simp[x]
   have g2:(dM n 0 (Array.replicate l.length false)).getD i false=(dM n 0 (Array.replicate l.length false))[i]:=by simp[h2]
   rw[<-g1,<-g2,g];by_cases E:i<n;rw[av V,<-hE i E];have hz:false∉c.toList:=List.count_eq_zero.1 hc;have κ:c[i]' V≠false:=λhh=>hz (by rw[<-hh];simp);simp[s1,E];simpa using κ;rw[al V,hT i V];simp[<-s2,x]
  rw[cA,e];exact hK a w h.2
 |k+1,c,f,a,w,s1,s2,hE,hT,hD,hc,h=>by
  have d:∀i,i<n->(l.take n).toArray[i]? =l.toArray[i]?:=λi E=>by simp[kw,E]
  have ζ:∃i,i∈Region.ready md l.toArray f:=by
   have hm:false∈c.toList:=by rw[<-List.count_pos_iff];omega
   have α:c.toList.findIdx (λb=> !b)<c.toList.length:=List.findIdx_lt_length_of_exists ⟨false,hm,O⟩;have J:c.toList.findIdx (λb=> !b)<n:=by simpa[s1]using α
   have h0:=List.findIdx_getElem (w:=α);have B:∀j,j<c.toList.findIdx (λb=> !b)->c.getD j false=true:=λj F=>by have:=List.not_of_lt_findIdx F;have T:j<c.size:=V;simpa[T]using this
   generalize c.toList.findIdx (λb=> !b)=i at*;refine⟨i,mQ.2 ⟨?_,?_⟩⟩
   ·have x:=hE i J;have u:i<c.size:=V;have y:i<f.size:=V;have h2:c.getD i false=false:=by simpa[u]using h0
    rw[h2]at x;simpa[y]using x.symm
   obtain⟨o,R,_,hd⟩:=JU hP J;refine⟨o,R,λe G υ=>?_⟩;have:=hd e G υ;rw[<-hE e.on V];exact B e.on this
  rw[bU (k+1+m=(k+m)+1)];refine⟨λh0=>?_,λi E=>?_⟩
  ·obtain⟨i,E⟩:=ζ;rw[h0]at E;cases E
  obtain⟨ι,o,R,s⟩:=mQ.1 E;have π:i<l.length:=by simpa using(fI.1 R).1
  have C:i<n:=by
   rcases mI i n with hh|hh;exact hh;exfalso;have hm:false∈c.toList:=by rw[<-List.count_pos_iff];omega
   obtain⟨j,F,ξ⟩:=List.mem_iff_getElem.1 hm;have δ:j<n:=by simpa[s1]using F
   have x:=yK hD _ i (aaA hP (az π) hh δ) λo' r e G B=>by rw[R]at r;cases r;exact s e G B
   rw[<-hE j δ]at x;have T:j<c.size:=V;have h2:c.getD j false=false:=by simpa[T]using ξ
   rw[x]at h2;cases h2
  obtain⟨o',r,hg,hd⟩:=JU hP C;rw[R]at r;cases r;have u:i<c.size:=V;have y:i<f.size:=V;have η:f.getD i false=false:=by simpa[y]using ι
  have γ:c.getD i false=false:=by rw[hE i C];exact η
  have σ:i∈Region.ready md (l.take n).toArray c:=mQ.2 ⟨by simpa[u]using γ,o,by rw[d i C];exact R,λe G B=>by have x:=hd e G B;rw[hE e.on V];exact s e G B⟩;have L:=h.2 i σ;have hw:Region.wanted o (yielded (l.take n).toArray a.tmps)=Region.wanted o (yielded l.toArray a.tmps):=by
   unfold Region.wanted;cases ε:o.guard with
   |none=>rfl
   |some g=>
    obtain⟨j,b⟩:=g;have F:=hg j b ε;have ey:yielded (l.take n).toArray a.tmps j=yielded l.toArray a.tmps j:=by unfold yielded;rw[d j F]
    simp only[ey]
  have μ:tA md l.toArray (f.setIfInBounds i true):=λj oj W β e G B=>by by_cases p:i=j;subst p;rw[R]at W;cases W;exact getD_set_true (s e G B);rw[mH false p]at β;exact getD_set_true (hD j oj W β e G B)
  have ν:(c.setIfInBounds i true).toList.count false=k:=by
   have:=I6 c.toList i (by
    have:c[i]? =some false:=by simpa[u]using γ
    simpa using this)
   rw[Array.toList_setIfInBounds];omega
  have τ:∀j,j<n->(c.setIfInBounds i true).getD j false=(f.setIfInBounds i true).getD j false:=λj F=>by by_cases p:i=j;subst p;simp[u,y];rw[mH false p,mH false p];exact hE j F
  have θ:∀j,n<=j->(f.setIfInBounds i true).getD j false=false:=λj F=>by rw[mH false V];exact hT j F
  have ih:=λa w hh=>ug hn hP hK k (c.setIfInBounds i true) (f.setIfInBounds i true) a w (az s1) (az s2) τ θ μ ν hh;unfold wpOp at L⊢;simp only[d i C,R,hw]at L⊢;split
  ·rename_i X;simp only[X,gR]at L;rcases L with L|⟨g1,g2⟩;exact .inl (Oper.wp_mono ih (K1 _ L));exact .inr ⟨g1,g2⟩
  rename_i X;simp only[X]at L;exact ih _ _ (az L)
def vV:nB Q (λa w=>Q .normal a w)=Q:=by funext x a w;cases x<;>rfl
def vS{Q:Exit->Act->D->Prop}(n:Nat)(E:List iB)(B:P.follows .mixedOrders=true)(hn:n<=l.length)
  (L:nv .any l.toArray n=true)
  (p:Region.lexB .any (l.take n).toArray=true) (hF:mY .any l.toArray (l.drop n).length n (dM n 0 (Array.replicate l.length false))=true)
  (x:(Region.ready .any l.toArray (dM (l.drop n).length n (dM n 0 (Array.replicate l.length false)))).isEmpty=true)
  (h:iE P (l.take n).toArray w E (λc b=>∀w',S w w'->(∀k u,b k u->jW E k u w')->wpList P l.toArray Q (l.drop n) c w') 0 (l.take n) a (λ_ _=>False)):(Code.region id l.toArray true).wp P Q a w:=by
 refine qf B ?_;simp only[Region.lexB,bZ]at p;have W:∀a w,wpList P l.toArray Q (l.drop n) a w->wpAny P .any l.toArray Q (l.drop n).length (dM n 0 (Array.replicate l.length false)) a w:=λa w d=>by
  have J:=rB (P:=P) (md:=.any) (Q:=Q) (K:=λa w=>Q .normal a w) (l.drop n).length n (dM n 0 (Array.replicate l.length false)) (l.drop n) a w 0
   (λa w G=>⟨az x,G⟩) O (λj _=>ah) hF (by rw[vV];exact d)
  exact J
 have hL:=wd (P:=P) (C:=λw'=>S w w') (T:=mu E) (R:=jW E) (md:=.any) (Q:=λc b=>∀w',S w w'->(∀k u,b k u->jW E k u w')->wpList P l.toArray Q (l.drop n) c w') p.1 (l.take n) 0 (Array.replicate (l.take n).length false) a (λ_ _=>False) ah (az p.2) h;have X:wpAny P .any (l.take n).toArray (nB Q (λa w=>wpList P l.toArray Q (l.drop n) a w)) (l.take n).length (Array.replicate (l.take n).length false) a w.drew:=
  rx (T:=mu E) (Q:=λc b=>∀w',S w w'->(∀k u,b k u->jW E k u w')->wpList P l.toArray Q (l.drop n) c w') yV (λ_ F w' f hF d=>d w' f hF) _ _ _ (λ_ _=>False) _ (aq _ _).drew (λ_ _ d=>False.elim d) hL
 have y:(l.take n).length=n:=by simp;omega
 have s:=ug (n:=n) (m:=(l.drop n).length) hn L W (l.take n).length (Array.replicate (l.take n).length false) (Array.replicate l.length false) a w.drew aQ ah
  (λi hi=>by rw[hU,hU]) (λi _=>hU _ _) (λj o _ r=>by rw[hU]at r;cases r) ah X
 have e:(l.take n).length+(l.drop n).length=l.length:=by rw[<-bW,lV]
 rw[e]at s;simpa using s
end
section
open Go.BigFrame
def Y0(o:Oper):Option aO:=match o.op with
 |.move x|.assign x|.load _ x|.nilCheck x|.unOp _ _ x|.convert _ _ x|.makeInterface _ x|.fieldAddr _ x _|.field _ x _|.extract x _|.typeAssert x _ _ _|.sliceToArrayPointer _ x|.slice _ x none none none=>some x
 |.makeFunc _ #[] #[x]=>some x
 |.build _ #[(_,x)]=>some x
 |_=>none
def Y1(o:Oper):Option (aO×aO):=match o.op with
 |.binOp _ _ x y _|.indexAddr _ x y|.index _ x y|.lookup _ x y _|.slice _ x (some y) none none|.slice _ x none (some y) none=>some (x,y)
 |.makeFunc _ #[] #[x,y]=>some (x,y)
 |.build _ #[(_,x),(_,y)]=>some (x,y)
 |_=>none
def Y3(o:Oper):Option (aO×aO×aO):=match o.op with
 |.pick x y aeU|.slice _ x (some y) (some aeU) none=>some (x,y,aeU)
 |.makeFunc _ #[] #[x,y,aeU]=>some (x,y,aeU)
 |.build _ #[(_,x),(_,y),(_,aeU)]=>some (x,y,aeU)
 |_=>none
def fw(a:Act):aO->Option H
 |.tmp t=>a.tmps.toList[t]?
 |.const v=>some v
 |.global g=>some (N g)
 |.func f=>some (.func (.func f) #[] #[])
def fo{x:aO}(h:fw a x=some v):a.eval x=v:=by
 cases x with
 |tmp t=>have h:a.tmps.toList[t]? =some v:=h;rw[i5]at h;show a.tmps.getD t undef=v;rw[Array.getD_eq_getD_getElem?,h];rfl
 |const c=>exact eZ h
 |global g=>exact eZ h
 |func f=>exact eZ h
section
variable{P:Program}{ops:Array Oper}{W:D}{E:List iB}{Q:List iB->Act->bN->Prop}{o:Oper}{rest:List Oper}{aeP:Type}{a:aeP->Act}{F:aeP->bN}
def jO(P:Program)(ops:Array Oper)(W:D)(E:List iB)(Q:List iB->Act->bN->Prop)(l:List Oper)(aeP:Type)(a:aeP->Act)(F:aeP->bN):Prop:=
 ∃b,∀u,iE P ops W (E++b) (Q (E++b)) E.length l (a u) (F u)
def AD(E:List iB)(x:iB)(b:List iB):(E++x::b)[E.length]? =some x:=by rw[pZ (ao _),Nat.sub_self];rfl
def jO.more{x:iB}(h:jO P ops W (E++[x]) Q rest aeP a F):∃b,∀u,iE P ops W (E++x::b) (Q (E++x::b)) (E.length+1) rest (a u) (F u):=by obtain⟨b,h⟩:=h;rw[i6,bW]at h;exact⟨b,h⟩
def dg(h:∀u,Q E (a u) (F u)):jO P ops W E Q [] aeP a F:=⟨[],by rw[eF];exact h⟩
def kW{a:Act}{Q:Exit->Act->D->Prop}(b:P.follows .mixedOrders=true)(c:Region.lexB .any l.toArray=true)
  (h:jO P l.toArray w [] (λE d e=>∀w',S w w'->Q .normal d w') l Unit (λ_=>a) (λ_ _ _=>False)):(Code.region id l.toArray true).wp P Q a w:=by
 obtain⟨E,h⟩:=h;exact Nu E b c (h ())
def eS{a:Act}{Q:Exit->Act->D->Prop}(n:Nat)(c:P.follows .mixedOrders=true)(m:n<=l.length)
  (f:nv .any l.toArray n=true)
  (j:Region.lexB .any (l.take n).toArray=true) (hF:mY .any l.toArray (l.drop n).length n (dM n 0 (Array.replicate l.length false))=true)
  (b:(Region.ready .any l.toArray (dM (l.drop n).length n (dM n 0 (Array.replicate l.length false)))).isEmpty=true)
  (h:jO P (l.take n).toArray w [] (λE e d=>∀w',S w w'->(∀k u,d k u->jW E k u w')->wpList P l.toArray Q (l.drop n) e w') (l.take n) Unit (λ_=>a) (λ_ _ _=>False)):(Code.region id l.toArray true).wp P Q a w:=by
 obtain⟨E,h⟩:=h;exact vS n E c m f j hF b (h ())
def kz(b:∀u,Region.wanted o (yielded ops (a u).tmps)=false)(h:jO P ops W (E++[.is undef]) Q rest aeP (λu=>(a u).put o.dst undef) F):jO P ops W E Q (o::rest) aeP a F:=by obtain⟨c,h⟩:=h.more;exact⟨_,λu=>Sd (b u) (h u)⟩
def zM(b:∀u,Region.wanted o (yielded ops (a u).tmps)=true)(h:∃v,(∀u,∀w,S W w->(execOp (a u).eval o).run P w=.ok (.value v) w)/\jO P ops W (E++[.is v]) Q rest aeP (λu=>(a u).put o.dst v) (λu=>(F u).ins E.length v)):jO P ops W E Q (o::rest) aeP a F:=by obtain⟨v,d,h⟩:=h;obtain⟨c,h⟩:=h.more;exact⟨_,λu=>qA (b u) v (AD E _ c) (d u) (h u)⟩
def oh(b:∀u,Region.wanted o (yielded ops (a u).tmps)=true)(f:FuncId)(args:Array H)(v:H)(d:∀u,∀w,(execOp (a u).eval o).run P w=.ok (.enter f args) w)
  (c:∀w,S W w->Calls P f args w λe w'=>e=.returned v/\S w w')
  (h:jO P ops W (E++[.is v]) Q rest aeP (λu=>(a u).put o.dst v) (λu=>(F u).ins E.length v)):jO P ops W E Q (o::rest) aeP a F:=by
 obtain⟨j,h⟩:=h.more;exact⟨_,λu=>rI (b u) f args v (AD E _ j) (d u) c (h u)⟩
def Ji(d:∀u,Region.wanted o (yielded ops (a u).tmps)=true)(f:FuncId)(args:Array H)(r:H->D->Prop)(hr)(j:∀u,∀w,(execOp (a u).eval o).run P w=.ok (.enter f args) w)
  (c:∀w,S W w->Calls P f args w λe w'=>∃u,e=.returned u/\r u w'/\S w w')
  (h:jO P ops W (E++[.rel r hr]) Q rest (aeP×H) (λp=>(a p.1).put o.dst p.2) (λp=>(F p.1).ins E.length p.2)):jO P ops W E Q (o::rest) aeP a F:=by
 obtain⟨m,h⟩:=h.more;exact⟨_,λu=>JA (d u) f args r hr (AD E _ m) (j u) c λb=>h (u,b)⟩
end
def cV{α:Sort _}{p b:α->Prop}{v:α}(c:p v)(d:b v):∃v,p v/\b v:=⟨v,c,d⟩
def Y4(o:Oper):Option (aO×aO×aO):=match o.op with
 |.call ⟨.builtin _,#[x],_⟩=>some (x,x,x)
 |.call ⟨.builtin _,#[x,y],_⟩=>some (x,y,y)
 |.build _ #[]=>some (.const undef,.const undef,.const undef)
 |_=>none
def tK(o:Oper):Option (aO×aO×aO):=match Y4 o with
 |some t=>some t
 |none=>match Y0 o with
  |some x=>some (x,x,x)
  |none=>match Y1 o with
   |some (x,y)=>some (x,y,y)
   |none=>Y3 o
section
variable{P:Program}{ops:Array Oper}{W:D}{E:List iB}{Q:List iB->Act->bN->Prop}{o:Oper}{rest:List Oper}{aeP:Type}{a:aeP->Act}{F:aeP->bN}
def kX(m:tK o=some (x1,x2,x3)){v1 v2 v3:aeP->H}
  (h:∃v,(∀u,∀ρ:aO->H,ρ x1=v1 u->ρ x2=v2 u->ρ x3=v3 u->∀w,S W w->(execOp ρ o).run P w=.ok (.value v) w)/\jO P ops W (E++[.is v]) Q rest aeP (λu=>(a u).put o.dst v) (λu=>(F u).ins E.length v))
  (b:∀u,Region.wanted o (yielded ops (a u).tmps)=true:=by exact λ_=>rfl)
  (e:∀u,fw (a u) x1=some (v1 u):=by exact λ_=>rfl) (c:∀u,fw (a u) x2=some (v2 u):=by exact λ_=>rfl) (f:∀u,fw (a u) x3=some (v3 u):=by exact λ_=>rfl):jO P ops W E Q (o::rest) aeP a F:=by
 obtain⟨v,d,h⟩:=h;exact zM b ⟨v,λu w j=>d u (a u).eval (fo (e u)) (fo (c u)) (fo (f u)) w j,h⟩
def J2{p e f g:Prop}(F:f)(G:g)(k:e)(h:f->g->kN e->p:=by intro F G k;(first|(refine kX rfl ?_;apply cV;intro _ ρ a b c W d;have j:=F W d;simp[execOp,go_sem,a,b,c,j,j.1,j.2,G]<;>exact rfl)|refine kz (λ_=>rfl) ?_);simp only[aD];exact k.o):p:=h F G ⟨k⟩
def JZ{p e f:Prop}(F:f)(k:e)(h:f->kN e->p:=by intro F k;(first|(refine kX rfl ?_;apply cV;intro _ ρ a b c W d;have j:=F W d;simp[execOp,go_sem,a,b,c,j,j.1.c0,j.1.c1,j.1.c2,j.1.c3,j.1.fr,j.1.lt,j.1.k1,j.1.k3,j.1.k4,j.1.k5,j.1.fk,j.1.lk,j.1.e0,j.1.e1,j.1.e14,j.1.fe,j.1.le,j.2]<;>exact rfl)|refine kz (λ_=>rfl) ?_);simp only[aD];exact k.o):p:=h F ⟨k⟩
def zN{p e f:Prop}(F:f)(k:e)(h:f->kN e->p:=by intro F k;(first|(refine kX rfl ?_;apply cV;intro _ ρ a b c W d;have j:=F W d;simp[execOp,go_sem,a,b,c,j,j.c0,j.c1,j.c2,j.c3,j.fr,j.lt,j.k1,j.k3,j.k4,j.k5,j.fk,j.lk,j.e0,j.e1,j.e14,j.fe,j.le]<;>exact rfl)|refine kz (λ_=>rfl) ?_);simp only[aD];exact k.o):p:=h F ⟨k⟩
def pE{p e f g:Prop}(F:f)(G:g)(k:e)(h:f->g->kN e->p:=by intro F G k;(first|(refine kX rfl ?_;apply cV;intro _ ρ a b c W d;have j:=F W d;simp[execOp,go_sem,a,b,c,j,G]<;>exact rfl)|refine kz (λ_=>rfl) ?_);simp only[aD];exact k.o):p:=h F G ⟨k⟩
def Y6{T:D->Prop}(r:∀w,S W w->T w)(s:tK o=some (x1,x2,x3)){v1 v2 v3:aeP->H}
  (h:jO P ops W (E++[.is v]) Q rest aeP (λu=>(a u).put o.dst v) (λu=>(F u).ins E.length v))
  (d:∀u,Region.wanted o (yielded ops (a u).tmps)=true:=by exact λ_=>rfl)
  (j:∀u,fw (a u) x1=some (v1 u):=by exact λ_=>rfl) (e:∀u,fw (a u) x2=some (v2 u):=by exact λ_=>rfl) (m:∀u,fw (a u) x3=some (v3 u):=by exact λ_=>rfl)
  (f:∀u,∀ρ:aO->H,ρ x1=v1 u->ρ x2=v2 u->ρ x3=v3 u->∀w,T w->(execOp ρ o).run P w=.ok (.value v) w:=by intro _ ρ x y c w b;simp[execOp,go_sem,x,y,c,b]<;>exact O):jO P ops W E Q (o::rest) aeP a F:=
 zM d ⟨v,λu w p=>f u (a u).eval (fo (j u)) (fo (e u)) (fo (m u)) w (r w p),h⟩
def fX{p e f:Prop}(F:f)(k:e)(h:f->kN e->p:=by intro F k;(first|refine Y6 F rfl ?_|refine kz (λ_=>rfl) ?_);simp only[aD];exact k.o):p:=h F ⟨k⟩
end
section
variable{P:Program}{ops:Array Oper}{W:D}{E:List iB}{Q:Act->bN->Prop}{i:Nat}{o:Oper}{rest:List Oper}{a:Act}{F:bN}
def qS(p:tK o=some (x1,x2,x3))(d:E[i]? =some (.is v)){v1 v2 v3:H}(b:∀ρ:aO->H,ρ x1=v1->ρ x2=v2->ρ x3=v3->∀w,S W w->(execOp ρ o).run P w=.ok (.value v) w)
  (h:iE P ops W E Q (i+1) rest (a.put o.dst v) (F.ins i v)) (c:Region.wanted o (yielded ops a.tmps)=true:=by rfl) (f:fw a x1=some v1:=by rfl) (e:fw a x2=some v2:=by rfl) (j:fw a x3=some v3:=by rfl):iE P ops W E Q i (o::rest) a F:=
 qA c v d (λw m=>b a.eval (fo f) (fo e) (fo j) w m) h
end
end
section
variable{P:Program}{ops:Array Oper}{md:Region.Mode}{C:D->Prop}{T:Nat->Option H}{R:Nat->H->D->Prop}{fp:Nat->H->Option Nat}{c:Nat->Option Nat}
def oG(md:Region.Mode)(ops:Array Oper)(o:Oper)(k:Nat):Prop:=tz md o k\/ops.size<=k
def uE(md:Region.Mode)(ops:Array Oper)(fp:Nat->H->Option Nat)(c:Nat->Option Nat)(i:Nat)(o:Oper)(F:bN)(u:H)(w w':D):Prop:=
 ∃K:Option Nat,w.grownBy w' K/\(K=none\/∃k x,F k x/\oG md ops o k/\c k=some i/\K=fp k x)/\∀b,fp i u=some b->b<w'.heap.size/\(w.heap.size<=b\/K=some b)
def rJ(P:Program)(md:Region.Mode)(ops:Array Oper)(C:D->Prop)(T:Nat->Option H)(R:Nat->H->D->Prop)(fp:Nat->H->Option Nat)(c:Nat->Option Nat)(i:Nat)(o:Oper)(F:bN)(w:D):Result Next->Prop
 |.ok (.value u) w'=>mh T i u/\C w'/\uE md ops fp c i o F u w w'/\R i u w'
 |.ok (.enter f args) w'=>Calls P f args w' λe b=>∃u,e=.returned u/\mh T i u/\C b/\uE md ops fp c i o F u w b/\R i u b
 |_=>False
def uE.mono{F j:bN}{u:H}(h:uE md ops fp c i o F u w w')(hF:∀k x,F k x->oG md ops o k->j k x):uE md ops fp c i o j u w w':=by obtain⟨K,m,f,p⟩:=h;refine⟨K,m,?_,p⟩;rcases f with f|⟨k,x,a,b,d,e⟩;exact .inl f;exact .inr ⟨k,x,hF k x a b,b,d,e⟩
def rJ.mono{F b:bN}{r:Result Next}(h:rJ P md ops C T R fp c i o F w r)(hF:∀k x,F k x->oG md ops o k->b k x):rJ P md ops C T R fp c i o b w r:=by
 cases r with
 |ok n w'=>
  cases n<;>simp only[rJ]at h⊢
  case value u=>exact⟨h.1,h.2.1,h.2.2.1.mono hF,h.2.2.2⟩
  case enter f args=>refine o4 h ?_;rintro e y ⟨u,d,p,j,s,m⟩;exact⟨u,d,p,j,s.mono hF,m⟩
 |halt x w'=>simp only[rJ]at h
def sr(P:Program)(md:Region.Mode)(ops:Array Oper)(C:D->Prop)(T:Nat->Option H)(R:Nat->H->D->Prop)(fp:Nat->H->Option Nat)(c:Nat->Option Nat)(i:Nat)(o:Oper)(a:Act)(F:bN):Prop:=
 ∀w,C w->(∀k u,F k u->oG md ops o k->(c k=none\/c k=some i)->R k u w)->rJ P md ops C T R fp c i o F w ((execOp a.eval o).run P w)
def kh(P:Program)(md:Region.Mode)(ops:Array Oper)(C:D->Prop)(T:Nat->Option H)(R:Nat->H->D->Prop)(fp:Nat->H->Option Nat)(c:Nat->Option Nat)(i:Nat)(K:Act->bN->Prop)(a:Act)(F:bN):Prop:=
 match ops[i]? with
 |none=>K a F
 |some o=>if Region.wanted o (yielded ops a.tmps)then sr P md ops C T R fp c i o a F/\∀u,mh T i u->K (a.put o.dst u) (F.ins i u)else K (a.put o.dst undef) F
def Nx{F:bN}{K e:Act->bN->Prop}(h:∀a F,K a F->e a F)(b:kh P md ops C T R fp c i K a F):kh P md ops C T R fp c i e a F:=by
 unfold kh at*;split;exact h _ _ (by simpa[*]using b);rename_i o f;simp only[f]at b;split
 ·rename_i d;simp only[d,gR]at b;exact⟨b.1,λu j=>h _ _ (b.2 u j)⟩
 rename_i d;simp only[d]at b;exact h _ _ b
def wR(P:Program)(md:Region.Mode)(ops:Array Oper)(C:D->Prop)(T:Nat->Option H)(R:Nat->H->D->Prop)(fp:Nat->H->Option Nat)(c:Nat->Option Nat)(Q:Act->bN->Prop):Nat->Array Bool->Act->bN->Prop
 |0,listed,a,F=>Region.ready md ops listed=[]/\Q a F
 |fuel+1,listed,a,F=>
  (Region.ready md ops listed=[]->Q a F)/\
  ∀i∈Region.ready md ops listed,kh P md ops C T R fp c i (wR P md ops C T R fp c Q fuel (listed.setIfInBounds i true)) a F
def oq(c:Nat->Option Nat)(listed:Array Bool)(k:Nat):Prop:=∀j,c k=some j->listed.getD j true=false
structure mi(R:Nat->H->D->Prop)(fp:Nat->H->Option Nat)(c:Nat->Option Nat)(listed:Array Bool)(F:bN)(w:D):Prop where
 rel:∀k u,F k u->oq c listed k->R k u w
 lt:∀k u,F k u->oq c listed k->∀b,fp k u=some b->b<w.heap.size
 ne:∀k u k' u',F k u->F k' u'->oq c listed k->oq c listed k'->k≠k'->∀b,fp k u=some b->fp k' u'≠some b
def mR(h:oq c (listed.setIfInBounds i true) k):oq c listed k:=λj b=>by have:=h j b;by_cases e:i=j;subst e;rcases mI i listed.size with h'|h';simp[h']at this;simp[kQ h']at this;rwa[mH true e]at this
def NX(b:c k=some i)(d:listed.getD i true=false):¬oq c (listed.setIfInBounds i true) k:=λh=>by have:=h i b;rcases mI i listed.size with h'|h';simp[h']at this;simp[kQ h']at d
def mi.step(hR:∀k u w w' K,R k u w->w.grownBy w' K->(∀b,fp k u=some b->b<w.heap.size/\K≠some b)->R k u w'){F:bN}{u:H}
  (r:mi R fp c listed F w) (hi:listed.getD i true=false) (hs:uE md ops fp c i o F u w w') (hr:R i u w'):mi R fp c (listed.setIfInBounds i true) (F.ins i u) w':=by
 obtain⟨K,hg,Q,G⟩:=hs;have f:∀k x,F k x->oq c (listed.setIfInBounds i true) k->∀b,fp k x=some b->K≠some b:=λk x hF p b d s=>by
  rcases Q with Q|⟨L,x0,J,_,E,α⟩
  ·rw[Q]at s;cases s
  have hk:k≠L:=λe=>by subst e;exact NX E hi p
  have β:oq c listed L:=λj hj=>by rw[E]at hj;cases hj;exact hi
  exact r.ne k x L x0 hF J (mR p) β hk b d (α▸s)
 refine⟨λk x hF p=>?_,λk x hF p b d=>?_,λk x X W hF hF' p y B b d=>?_⟩;rcases hF with⟨rfl,rfl⟩|hF;exact hr;exact hR k x w w' K (r.rel k x hF (mR p)) hg λb d=>⟨r.lt k x hF (mR p) b d,f k x hF p b d⟩;rcases hF with⟨rfl,rfl⟩|hF;exact(G b d).1;exact ee (r.lt k x hF (mR p) b d) hg.size;intro m;rcases hF with⟨rfl,rfl⟩|hF;rcases hF' with⟨rfl,rfl⟩|hF';exact B rfl;rcases(G b d).2 with h|h;have:=r.lt X W hF' (mR y) b m;omega;exact f X W hF' y b m h;rcases hF' with⟨rfl,rfl⟩|hF';rcases(G b m).2 with h|h;have:=r.lt k x hF (mR p) b d;omega;exact f k x hF p b d h;exact r.ne k x X W hF hF' (mR p) (mR y) B b d m
def yD{Q:Act->bN->Prop}{Q':Exit->Act->D->Prop}(E:∀k u w w' K,R k u w->w.grownBy w' K->(∀b,fp k u=some b->b<w.heap.size/\K≠some b)->R k u w')(y:∀a F w listed,C w->mi R fp c listed F w->Q a F->Q' .normal a w):
  ∀(fuel:Nat) (listed:Array Bool) (a:Act) (F:bN) (w:D),C w->mi R fp c listed F w->wR P md ops C T R fp c Q fuel listed a F->wpAny P md ops Q' fuel listed a w
 |0,_,_,_,_,hw,hJ,h=>⟨h.1,y _ _ _ _ hw hJ h.2⟩
 |fuel+1,listed,a,F,w,hw,hJ,h=>by
  refine⟨λh0=>y _ _ _ _ hw hJ (h.1 h0),λi hi=>?_⟩;have p:=h.2 i hi;have m:=(mQ.1 hi).1;unfold kh at p;unfold wpOp;obtain⟨o0,L,_⟩:=(mQ.1 hi).2;split
  ·rename_i G;rw[L]at G;cases G
  rename_i o G;simp only[G]at p;split
  ·rename_i d;simp only[d,gR]at p;obtain⟨α,hk⟩:=p;have s:=α w hw λk u X _ hc=>hJ.rel k u X λj J=>by
    rcases hc with hc|hc
    ·rw[hc]at J;cases J
    rw[hc]at J;cases J;exact m
   refine .inl ?_;unfold Oper.wp;generalize (execOp a.eval o).run P w=r at s;cases r with
   |ok n w'=>
    cases n<;>simp only[rJ]at s<;>simp only[Oper.upon]
    case value u=>obtain⟨hm,hc,hs,hr⟩:=s;exact yD E y fuel _ _ _ _ hc (hJ.step E m hs hr) (hk u hm)
    case enter f args=>refine s.mono λe γ ⟨u,he,hm,hc,hs,hr⟩=>?_;subst he;exact yD E y fuel _ _ _ _ hc (hJ.step E m hs hr) (hk u hm)
   |halt x w'=>simp only[rJ]at s
  rename_i d;simp only[d]at p;refine yD E y fuel _ _ _ _ hw ⟨λk u hF B=>hJ.rel k u hF (mR B),λk u hF B=>hJ.lt k u hF (mR B),λk u k' u' hF W B β=>hJ.ne k u k' u' hF W (mR B) (mR β)⟩ p
theorem ZO{Q:Act->bN->Prop}{s:Oper}(hi:ops[i]? =some s)(δ:∀(j:Nat) (o:Oper) cs b,ops[j]? =some o->o.op≠ .select cs b):
  ∀(fuel:Nat) (listed:Array Bool) (a:Act) (F:bN),
   (∀j m,ops[j]? =some m->j≠i->listed.getD j true=false->(∀e∈m.after,Region.binds md e=true->e.on≠i)->s.apart ops m=true)->
   i∈Region.ready md ops listed->kh P md ops C T R fp c i (wR P md ops C T R fp c Q fuel (listed.setIfInBounds i true)) a F->wR P md ops C T R fp c Q (fuel+1) listed a F:=by
 intro fuel
 induction fuel with
 |zero=>
  intro listed a F _ hr d;refine⟨λh=>(by rw[h]at hr;cases hr),λj hj=>?_⟩;by_cases r:j=i;subst r;exact d;have h1:=qe hj r;have h2:Region.ready md ops (listed.setIfInBounds i true)=[]:=by unfold kh at d;simp only[hi]at d;split at d;obtain⟨u,hu⟩:=ze T i;exact(d.2 u hu).1;exact d.1
  rw[h2]at h1;cases h1
 |succ fuel ih=>
  intro listed a F J hr d;refine⟨λh=>(by rw[h]at hr;cases hr),λj hj=>?_⟩;by_cases r:j=i;subst r;exact d;obtain⟨β,m,L,υ⟩:=mQ.1 hj;have γ:∀e∈m.after,Region.binds md e=true->e.on≠i:=λe he hb ζ=>by
   have h1:=υ e he hb;have h0:=(mQ.1 hr).1;rw[ζ]at h1;rcases mI i listed.size with h'|h'
   ·simp[h']at h0 h1;rw[h0]at h1;cases h1
   simp[kQ h']at h1
  have θ:¬tz md m i:=λ⟨e,he,hb,ζ⟩=>γ e he hb ζ;have ψ:=J j m L r β γ;obtain⟨p1,p2,p3⟩:=Oper.apart_spec ψ;have ω:=λcs b=>δ i s cs b hi;have Δ:=λcs b=>δ j m cs b L;have f:∀k ok,ops[k]? =some ok->k≠i->(listed.setIfInBounds j true).getD k true=false->
    (∀e∈ok.after,Region.binds md e=true->e.on≠i)->s.apart ops ok=true:=λk ok hk χ τ φ=>by
   refine J k ok hk χ ?_ φ;by_cases μ:j=k;subst μ;exact β;rw[mH true μ]at τ;exact τ
  have W:(listed.setIfInBounds i true).setIfInBounds j true=(listed.setIfInBounds j true).setIfInBounds i true:=Cy _ _ (eC r);have ν:=qe hj r;have α:=qe hr (eC r);have B:¬oG md ops m i:=λh=>by rcases h with h|h;exact θ h;have:=(fI.1 hi).1;omega
  have π:∀u,∀F',(∀k v,F' k v->k=i\/F k v)->sr P md ops C T R fp c j m (a.put s.dst u) F'->sr P md ops C T R fp c j m a F:=λu F' G h w hw hf=>by
   have:=h w hw λk v hk hn hc=>by rcases G k v hk with rfl|hk;exact absurd hn B;exact hf k v hk hn hc
   rw[execOp_put m Δ a s.dst u p1]at this;exact this.mono λk x hk hn=>by rcases G k x hk with rfl|hk;exact absurd hn B;exact hk
  have ξ:∀u F',(∀k v,F k v->F' k v)->(∀k v,F' k v->oG md ops s k->F k v\/True)->sr P md ops C T R fp c i s a F->sr P md ops C T R fp c i s (a.put m.dst u) F':=λu F' G _ h w hw hf=>by rw[execOp_put s ω a m.dst u p3];exact(h w hw λk v hk hn hc=>hf k v (G k v hk) hn hc).mono λk x hk _=>G k x hk
  have ι:∀u k v,F k v->(F.ins j u) k v:=λu k v h=>.inr h;have ε:∀u k v,(F.ins i u) k v->k=i\/F k v:=λu k v h=>h.imp And.left id;unfold kh at d;simp only[hi]at d;unfold kh;simp only[L];split at d
  ·rename_i E;obtain⟨σ,HK⟩:=d;have p:∀u,mh T i u->_:=λu hu=>(HK u hu).2 j ν;unfold kh at p;simp only[L,jD m a s.dst _ p1,W]at p;split
   ·rename_i y;simp only[y,gR]at p;obtain⟨u0,Γ⟩:=ze T i;refine⟨π u0 _ (ε u0) (p u0 Γ).1,λX η=>ih _ _ _ f α ?_⟩;unfold kh;simp only[hi,jD s a m.dst X p3,E,gR];refine⟨ξ X _ (ι X) (λ_ _ _ _=>.inr trivial) σ,λui κ=>?_⟩;have:=(p ui κ).2 X η;rw[mK a ui X p2,bN.ins_comm]at this;exact this
   rename_i y;simp only[y]at p;refine ih _ _ _ f α ?_;unfold kh;simp only[hi,jD s a m.dst undef p3,E,gR];refine⟨ξ undef _ (λk v h=>h) (λ_ _ _ _=>.inr trivial) σ,λui κ=>?_⟩;have:=p ui κ;simp only[mN,mP]at this;rw[mK a ui undef p2]at this;exact this
  rename_i E;have p:=d.2 j ν;unfold kh at p;simp only[L,jD m a s.dst _ p1,W]at p;split
  ·rename_i y;simp only[y,gR]at p;refine⟨π undef _ (λk v h=>.inr h) p.1,λX η=>ih _ _ _ f α ?_⟩;unfold kh;simp only[hi,jD s a m.dst X p3,E];have:=p.2 X η;rw[mK a undef X p2]at this;exact this
  rename_i y;simp only[y]at p;refine ih _ _ _ f α ?_;unfold kh;simp only[hi,jD s a m.dst undef p3,E];simp only[mN,mP]at p⊢;rw[mK a undef undef p2]at p;exact p
def qG(P:Program)(md:Region.Mode)(ops:Array Oper)(C:D->Prop)(T:Nat->Option H)(R:Nat->H->D->Prop)(fp:Nat->H->Option Nat)(c:Nat->Option Nat)(Q:Act->bN->Prop):Nat->List Oper->Act->bN->Prop
 |_,[],a,F=>Q a F
 |i,o::rest,a,F=>if Region.wanted o (yielded ops a.tmps)then sr P md ops C T R fp c i o a F/\∀u,mh T i u->qG P md ops C T R fp c Q (i+1) rest (a.put o.dst u) (F.ins i u)else qG P md ops C T R fp c Q (i+1) rest (a.put o.dst undef) F
def JE{Q:Act->bN->Prop}(f:Region.noSelect ops=true):∀(l:List Oper) (k:Nat) (listed:Array Bool) (a:Act) (F:bN),(∀j,l[j]? =ops[k+j]?)->
  Region.lexFrom md ops l.length k listed=true->qG P md ops C T R fp c Q k l a F->wR P md ops C T R fp c Q l.length listed a F
 |[],_,_,_,_,_,hB,h=>⟨by simpa[Region.lexFrom]using hB,h⟩
 |o::l,k,listed,a,F,hl,hB,h=>by
  have e:ops[k]? =some o:=by simpa using(hl 0).symm
  simp only[dN,Region.lexFrom,bZ]at hB;obtain⟨⟨p,m⟩,d⟩:=hB;refine ZO e (Region.noSelect_spec f) l.length listed a F (Region.free_spec e m) (az p) ?_;have b:kh P md ops C T R fp c k (qG P md ops C T R fp c Q (k+1) l) a F:=by unfold kh;simp only[e];exact h
  exact Nx (λa F h=>JE f l (k+1) _ _ _ (λj=>by have:=hl (j+1);simpa[gQ,Nat.add_comm 1 j]using this) d h) b
def Zx{Q:Exit->Act->D->Prop}(T:Nat->Option H)(R:Nat->H->D->Prop)(fp:Nat->H->Option Nat)(c:Nat->Option Nat)(C:D->Prop)(d:bN)
  (p:P.follows .mixedOrders=true) (m:Region.lexB .any l.toArray=true) (r:C w.drew) (x:∀k u w w' K,R k u w->w.grownBy w' K->(∀b,fp k u=some b->b<w.heap.size/\K≠some b)->R k u w')
  (y:mi R fp c (Array.replicate l.length false) d w.drew)
  (h:qG P .any l.toArray C T R fp c (λj f=>∀w' listed,C w'->mi R fp c listed f w'->Q .normal j w') 0 l a d):(Code.region id l.toArray true).wp P Q a w:=by
 simp only[Region.lexB,bZ]at m;have:=JE (P:=P) (C:=C) (T:=T) (R:=R) (fp:=fp) (c:=c) (md:=.any) m.1 l 0 (Array.replicate l.length false) a d ah (az m.2) h;refine qf p (yD (T:=T) (Q:=λj f=>∀w' listed,C w'->mi R fp c listed f w'->Q .normal j w') x (λ_ F w' listed e s h=>h w' listed e s) _ _ _ d _ r ?_ ?_);simpa using y;simpa using this
def ws{Q:Act->bN->Prop}{b:List Oper}{F:bN}(e:Region.wanted o (yielded ops a.tmps)=true)(d:sr P md ops C T R fp c i o a F)
  (f:∀u,mh T i u->qG P md ops C T R fp c Q (i+1) b (a.put o.dst u) (F.ins i u)):qG P md ops C T R fp c Q i (o::b) a F:=by
 unfold qG;rw[av e];exact⟨d,f⟩
end
inductive iC where
 |is (v:H)
 |row (base:Nat) (e:ay) (size n:Nat) (xs:List H)
def qY(E:List iC)(i:Nat):Option H:=match E[i]? with
 |some (.is v)=>some v
 |_=>none
def iX(E:List iC)(i:Nat)(u:H)(w:D):Prop:=match E[i]? with
 |some (.row base e size n xs)=>w.ownsRow base e size u n xs
 |_=>True
def jf(E:List iC)(i:Nat)(u:H):Option Nat:=match E[i]? with
 |some (.row ..)=>u.ownBlock
 |_=>none
def jV(cs:List (Nat×Nat))(k:Nat):Option Nat:=(cs.find? λp=>p.1==k).map (·.2)
def PX{E:List iC}(k:Nat)(u:H)(w w':D)(K:Option Nat)(h:iX E k u w)(p:w.grownBy w' K)(d:∀b,jf E k u=some b->b<w.heap.size/\K≠some b):iX E k u w':=by
 unfold iX jf at*;split
 ·rename_i c e size n r f;simp only[f]at h d;refine h.kept p ?_;cases m:u.ownBlock with
  |none=>exact .inl O
  |some b=>exact .inr λj=>(d b m).2 j.symm
 trivial
def IZ(b:S w w'):w.grownBy w' none:=⟨b.os,b.tape,b.output,b.size,λi c _=>b.block i c⟩
section
variable{P:Program}{ops:Array Oper}{W:D}{base:Nat}{E:List iC}{cs:List (Nat×Nat)}{Q:Act->bN->Prop}{i:Nat}{o:Oper}{rest:List Oper}{a:Act}{F:bN}
abbrev iZ(P:Program)(ops:Array Oper)(W:D)(base:Nat)(E:List iC)(cs:List (Nat×Nat))(Q:Act->bN->Prop)(i:Nat)(l:List Oper)(a:Act)(F:bN):Prop:=
 qG P .any ops (λw=>Below base W w) (qY E) (iX E) (jf E) (jV cs) Q i l a F
def EW(m:Region.wanted o (yielded ops a.tmps)=true)(v:H)(e:E[i]? =some (.is v))(d:∀w,Below base W w->(execOp a.eval o).run P w=.ok (.value v) w)
  (h:iZ P ops W base E cs Q (i+1) rest (a.put o.dst v) (F.ins i v)):iZ P ops W base E cs Q i (o::rest) a F:=by
 refine ws m (λw f _=>?_) λu p=>?_
 ·rw[d w f];refine⟨λr c=>by simp only[qY,e]at c;cases c;rfl,f,⟨none,World.grownBy.refl w none,.inl O,λb j=>?_⟩,by simp only[iX,e]⟩;simp only[jf,e]at j;cases j
 have:=p v (by simp only[qY,e]);subst this;exact h
def abc(G:Region.wanted o (yielded ops a.tmps)=true)(f:FuncId)(args:Array H)(B:Nat)(e:ay)(size n:Nat)(xs:List H)(p:E[i]? =some (.row B e size n xs))(R:B<=base)(y:base<=W.heap.size)(L:∀w,(execOp a.eval o).run P w=.ok (.enter f args) w)
  (c:∀w,Below base W w->Calls P f args w λr w'=>∃u,r=.returned u/\w'.ownsRow w.heap.size e size u n xs/\S w w')
  (h:∀u,iZ P ops W base E cs Q (i+1) rest (a.put o.dst u) (F.ins i u)):iZ P ops W base E cs Q i (o::rest) a F:=by
 refine ws G (λw x _=>?_) λu _=>h u;rw[L w];apply(c w x).mono;rintro r w' ⟨u,rfl,d,C⟩;have s:=x.size;refine⟨u,O,λX m=>(by simp only[qY,p]at m;cases m),x.trans (C.mono (aZ y s)),⟨none,IZ C,.inl O,λb j=>?_⟩,?_⟩;simp only[jf,p]at j;obtain⟨T,J⟩:=d.lt b j;exact⟨J,.inl T⟩;simp only[iX,p];exact kB d V
def Tt(B:Region.wanted o (yielded ops a.tmps)=true)(x:Nat)(e:ay)(size n:Nat)(xs:List H)(m:E[i]? =some (.row x e size n xs))(C:x<=base)(s:base<=W.heap.size)
  (f:∀w,Below base W w->∃u w',(execOp a.eval o).run P w=.ok (.value u) w'/\S w w'/\w'.ownsRow w.heap.size e size u n xs)
  (h:∀u,iZ P ops W base E cs Q (i+1) rest (a.put o.dst u) (F.ins i u)):iZ P ops W base E cs Q i (o::rest) a F:=by
 refine ws B (λw r _=>?_) λu _=>h u;obtain⟨u,w',L,y,c⟩:=f w r;rw[L];have p:=r.size;refine⟨λR j=>(by simp only[qY,m]at j;cases j),r.trans (y.mono (aZ s p)),⟨none,IZ y,.inl O,λb d=>?_⟩,?_⟩;simp only[jf,m]at d;obtain⟨J,G⟩:=c.lt b d;exact⟨G,.inl J⟩;simp only[iX,m];exact kB c V
end
section
open Go.BigFrame
section
variable{P:Program}{ops:Array Oper}{W:D}{base:Nat}{E:List iC}{cs:List (Nat×Nat)}{Q:Act->bN->Prop}{i:Nat}{o:Oper}{rest:List Oper}{a:Act}{F:bN}
def xL(p:tK o=some (x1,x2,x3))(d:E[i]? =some (.is v)){v1 v2 v3:H}(b:∀ρ:aO->H,ρ x1=v1->ρ x2=v2->ρ x3=v3->∀w,Below base W w->(execOp ρ o).run P w=.ok (.value v) w)
  (h:iZ P ops W base E cs Q (i+1) rest (a.put o.dst v) (F.ins i v)) (c:Region.wanted o (yielded ops a.tmps)=true:=by rfl) (f:fw a x1=some v1:=by rfl) (e:fw a x2=some v2:=by rfl) (j:fw a x3=some v3:=by rfl):iZ P ops W base E cs Q i (o::rest) a F:=
 EW c v d (λw m=>b a.eval (fo f) (fo e) (fo j) w m) h
end
end
