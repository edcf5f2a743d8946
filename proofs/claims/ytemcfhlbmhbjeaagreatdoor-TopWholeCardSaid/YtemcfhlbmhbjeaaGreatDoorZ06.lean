import Derived.Test.YtemcfhlbmhbjeaaGreatDoorZ05
set_option maxRecDepth 100000
set_option maxHeartbeats 0
set_option linter.all false
namespace Go.Proofs.YtemcfhlbmhbjeaaGreatDoor
open Go.Proofs.Tryz
variable{w:D}{a:Act}{id i:Nat}{l:List Oper}{o:Oper}{x1 x2 x3:aO}{e:z}{v:H}{Q:Exit->Act->D->Prop}{F:Nat->Prop}
open Go Go.RowKit
def Nb{b1 b2:Nat}{f k:ay}{s1 s2 s y:Nat}{v1 v2:H}{d c:List H}(t:w.ownsRow b1 f s1 v1 s d)(p:w.ownsRow b2 k s2 v2 y c)(n:f≠k):v1.ownBlock=none\/v1.ownBlock≠v2.ownBlock:=by
 rcases t.2 with⟨rfl,_⟩|⟨g,u,m,rfl,_,A,_⟩;exact .inl rfl;rcases p.2 with⟨rfl,_⟩|⟨B,h,j,rfl,_,b,_⟩;exact .inr (by simp[Value.ownBlock]);refine .inr λe=>?_;obtain rfl:g=B:=by simpa[Value.ownBlock]using e
 rw[A]at b;injection b with x;injection x with _ r;exact n r
section
variable{P:Program}(w:D)
def Zp(base:Nat)(t ty e:ay)(i:TypeInfo)(y:H)(size bytes:Nat)(W:P.underlying t=some (.slice e))(X:P.info? e=some i)(hz:i.zero=some y)
  (s:i.size=size) (J:i.bytes=bytes) (T:y.cells.size=size) (G:0<size)
  (v:H) (n:Nat) (xs:List H) (d:w.ownsRow base e size v n xs) (B:Nat) (A:Option Addr) (m c:Nat) (f:List H) (hr:dK w B size A m f) (h1:∀u∈f,u.oneCell'=true)
  (E:n+m<=maxLen) (r:(n+m)*bytes<=140737488355328) (h:base<=w.heap.size):
  ∃C p,(Builtin.append_ #[t,t] ty #[v,.slice A m c]).run P w=.ok C p/\p.ownsRow base e size C (n+m) (xs++f)/\Below base w p/\w.grownBy p v.ownBlock:=by
 have K:∀p,w.grownBy p v.ownBlock->Below base w p:=λp hg=>(aq _ _).grown hg h λk hk=>(d.lt k hk).1;by_cases hm:m=0;subst hm;obtain rfl:f=[]:=lR (az hr.1);rcases A with _|ad;refine⟨v,w,?_,az d,aq _ _,⟨rfl,rfl,rfl,ao _,λ_ _ _=>rfl⟩⟩;rcases d.2 with⟨rfl,rfl⟩|⟨g,γ,δ,rfl,_,_,α,_⟩;simp[Builtin.append_,eT W,sizeOf,typeInfo,X,Builtin.lenOf,Builtin.firstCells];simp[Builtin.append_,eT W,sizeOf,typeInfo,X,Builtin.lenOf,Builtin.firstCells,α,storeCells];obtain⟨C,p,x,h2,R,_⟩:=tT (P:=P) w base t ty e i y size bytes W X hz s J T G v n xs d ad 0 c [] ah (λj u L=>by simp at L) (λu L=>aK L) E r h;exact⟨C,p,x,h2,K p R,R⟩;obtain⟨b,o,rfl,β,hc⟩:=hr.2 V;obtain⟨C,p,x,h2,R,_⟩:=tT (P:=P) w base t ty e i y size bytes W X hz s J T G v n xs d (I b o) m c f hr.1 (λj u L=>by rw[mU];exact hc j u L) h1 E r h;exact⟨C,p,x,h2,K p R,R⟩
end
section
open Go.BigFrame
section
variable{P:Program}(w:D)
def IW(base:Nat)(t ty e:ay)(i:TypeInfo)(C:H)(size bytes:Nat)(G:P.underlying t=some (.slice e))(J:P.info? e=some i)(hz:i.zero=some C)
  (s:i.size=size) (γ:i.bytes=bytes) (θ:C.cells.size=size) (ζ:0<size)
  (v:H) (n:Nat) (xs:List H) (h:w.ownsRow base e size v n xs) (B:Nat) (A:Option Addr) (m c:Nat) (d:List H) (p:dK w B size A m d) (h1:∀u∈d,u.oneCell'=true)
  (R:n+m<=maxLen) (f:(n+m)*bytes<=140737488355328) (K:base<=w.heap.size):
  ∃v' w',(Builtin.append_ #[t,t] ty #[v,.slice A m c]).run P w=.ok v' w'/\w'.ownsRow base e size v' (n+m) (xs++d)/\Below base w w'/\w.grownBy w' v.ownBlock/\(v'.ownBlock=v.ownBlock\/∀b,v'.ownBlock=some b->w.heap.size<=b):=by
 obtain⟨v',w',r,h2,h3,h4⟩:=Zp (P:=P) w base t ty e i C size bytes G J hz s γ θ ζ v n xs h B A m c d p h1 R f K;refine⟨v',w',r,h2,h3,h4,?_⟩;subst s;subst γ;by_cases hm:m=0
 ·subst hm;rcases h.2 with⟨rfl,rfl⟩|⟨g,y,T,rfl,η,hg,E,ε,X,W⟩
  ·rcases h2.2 with⟨rfl,_⟩|⟨g',ι,κ,rfl,_,μ,_⟩;exact .inl rfl;refine .inr λb hb=>?_;obtain rfl:g'=b:=by simpa[Value.ownBlock]using hb
   rcases mI g' w.heap.size with δ|hge;exfalso;have β:=r;rcases A with _|ad;simp[Builtin.append_,eT G,sizeOf,typeInfo,J,Builtin.lenOf,Builtin.firstCells]at β;simp[Builtin.append_,eT G,sizeOf,typeInfo,J,Builtin.lenOf,Builtin.firstCells,loadCells,loadCellsFrom]at β;exact hge
  obtain rfl:d=[]:=lR (az p.1);left;rcases A with _|ad;simp[Builtin.append_,eT G,sizeOf,typeInfo,J,Builtin.lenOf,Builtin.firstCells,E,storeCells]at r;rw[<-r.1];rw[vJ (P:=P) w t ty e i G J g n y T hg ad 0 c [] ah (λj u hu=>by simp at hu) (λu hu=>aK hu) E (by rw[X];simp;exact vy _ E)]at r;injection r with e1 _;rw[<-e1];rfl
 obtain⟨b,o,rfl,δ,hc⟩:=p.2 V;have k:∀j u,d[j]? =some u->w.cell? (((I b o):Addr).add j)=some u:=λj u hu=>by rw[mU];exact hc j u hu
 rcases h.2 with⟨rfl,rfl⟩|⟨g,y,T,rfl,η,hg,E,ε,X,W⟩
 ·rw[run_append_nil (P:=P) w t ty e i C G J hz (I b o) m c d p.1 k V (by simp only[maxLen]at R;omega) (by have hb:=f;simp only[cA]at hb;omega)]at r;injection r with e1 _;rw[<-e1];refine .inr λb' α=>?_;have:w.heap.size=b':=by simpa[Value.ownBlock]using α
  omega
 by_cases x:n+m<=y;rw[vJ (P:=P) w t ty e i G J g n y T hg (I b o) m c d p.1 k h1 x (by rw[p.1,X,<-Nat.add_mul];exact vy _ x)]at r;injection r with e1 _;rw[<-e1];exact .inl O;have L:∀j u,xs[j]? =some u->w.cell? (((I g 0):Addr).add j)=some u:=h.cells (g:=g) O;rw[run_append_grow (P:=P) w t ty e i C G J hz (I g 0) n y xs h.1 L (I b o) m c d p.1 k V (by simp only[maxLen]at R;omega) (growslice_fits V f)]at r;injection r with e1 _;rw[<-e1];refine .inr λb' α=>?_;have:w.heap.size=b':=by simpa[Value.ownBlock]using α
 omega
end
section
variable{P:Program}{ops:Array Oper}{W:D}{base:Nat}{E:List iC}{cs:List (Nat×Nat)}{Q:Act->bN->Prop}{i:Nat}{o:Oper}{rest:List Oper}{a:Act}{F:bN}
def MJ(hw:Region.wanted o (yielded ops a.tmps)=true)(s x:aO)(t:ay)(ho:o.op=.call {callee:=.builtin .append,args:=#[s,x],argTypes:=#[t,t]})
  (e:ay) (J:TypeInfo) (j:H) (size bytes:Nat) (ht:P.underlying t=some (.slice e)) (hi:P.info? e=some J) (hz:J.zero=some j)
  (g:J.size=size) (α:J.bytes=bytes) (η:j.cells.size=size) (X:0<size)
  (p r:Nat) (u1 u2:H) (n m:Nat) (xs d ys:List H) (nm:Nat) (y:E[p]? =some (.row base e size n xs)) (θ:E[r]? =some (.row base e size m d)) (hE:E[i]? =some (.row base e size nm ys)) (ι:nm=n+m) (R:ys=xs++d)
  (K:jV cs p=some i) (γ:jV cs r=none\/jV cs r=some i) (B:F p u1) (κ:F r u2) (G:oG .any ops o p) (ε:oG .any ops o r) (ζ:a.eval s=u1) (δ:a.eval x=u2)
  (h1:∀u∈d,u.oneCell'=true) (T:n+m<=maxLen) (f:(n+m)*bytes<=140737488355328) (μ:base<=W.heap.size)
  (h:∀u,iZ P ops W base E cs Q (i+1) rest (a.put o.dst u) (F.ins i u)):iZ P ops W base E cs Q i (o::rest) a F:=by
 subst ι R;refine ws hw (λw hC hK=>?_) λu _=>h u;have r1:=hK p u1 B G (.inr K);have r2:=hK r u2 κ ε γ;simp only[iX,y]at r1;simp only[iX,θ]at r2;have ν:=hC.size;obtain⟨A,c,rfl,_,_,β⟩:=dS r2;obtain⟨v',w',C,g1,g2,g3,g4⟩:=IW (P:=P) w base t o.type e J j size bytes ht hi hz g α η X u1 n xs r1 _ A m c d β h1 T f V;have k:(execOp a.eval o).run P w=.ok (.value v') w':=by unfold execOp;simp only[ho,resolve,invoke,builtin,lS,sF,lX,pW,cW,mJ,ζ,δ,C]
 rw[k];refine⟨λv hv=>(by simp only[qY,hE]at hv;cases hv),hC.trans g2,⟨u1.ownBlock,g3,.inr ⟨p,u1,B,G,K,by simp only[jf,y]⟩,λb L=>?_⟩,by simp only[iX,hE];exact g1⟩;simp only[jf,hE]at L;refine⟨(g1.lt b L).2,?_⟩;rcases g4 with g4|g4;exact .inr (by rw[<-g4];exact L);exact .inl (g4 b L)
end
section
variable{ops:Array Oper}{W:D}{base:Nat}{E:List iC}{cs:List (Nat×Nat)}{Q:Act->bN->Prop}{i:Nat}{o:Oper}{rest:List Oper}{a:Act}{F:bN}
def PH{b:Array Bool}:mi (iX E) (jf E) (jV cs) b (λ_ _=>False) w:=
 ⟨λ_ _ h=>h.elim,λ_ _ h=>h.elim,λ_ _ _ _ h=>h.elim⟩
def Ku{Q:Exit->Act->D->Prop}{a:Act}(base:Nat)(E:List iC)(cs:List (Nat×Nat))(c:bN)(d:prog.follows .mixedOrders=true)(k:Region.lexB .any l.toArray=true)
  (j:mi (iX E) (jf E) (jV cs) (Array.replicate l.length false) c w.drew)
  (h:iZ prog l.toArray w base E cs (λg f=>∀w' b,Below base w w'->mi (iX E) (jf E) (jV cs) b f w'->Q .normal g w') 0 l a c):(Code.region id l.toArray true).wp prog Q a w:=
 Zx (qY E) (iX E) (jf E) (jV cs) (λw'=>Below base w w') c d k (aq _ _).drew PX j h
end
end
def tH(w:D)(t:ay)(c:Array H):∃b,b=w.alloc (.cells c t)/\M b w.heap.size t c/\S w b:=⟨_,O,M.new _ _ _,(aq _ _).alloc (ao _) _⟩
def oC(w:D)(f:ay)(c1:Array H)(d:ay)(b:Array H):∃c,c=(w.alloc (.cells c1 f)).alloc (.cells b d)/\ax c [(w.heap.size+1,d,b),(w.heap.size,f,c1)]/\S w c:=
 ⟨_,O,((ax.nil (w:=w)).push (t:=f) (cs:=c1) (g:=w.heap.size) O).push (t:=d) (cs:=b) (g:=w.heap.size+1) ah,((aq _ _).alloc (ao _) _).alloc ah _⟩
def YC(w:D)(h:ay)(c1:Array H)(d:ay)(b:Array H)(f:ay)(j:Array H):∃c,c=((w.alloc (.cells c1 h)).alloc (.cells b d)).alloc (.cells j f)/\ax c [(w.heap.size+2,f,j),(w.heap.size+1,d,b),(w.heap.size,h,c1)]/\S w c:=
 ⟨_,O,(((ax.nil (w:=w)).push (t:=h) (cs:=c1) (g:=w.heap.size) O).push (t:=d) (cs:=b) (g:=w.heap.size+1) ah).push (t:=f) (cs:=j) (g:=w.heap.size+2) ah,(((aq _ _).alloc (ao _) _).alloc ah _).alloc aQ _⟩
abbrev d7:=Nat->List H->H->Prop
def d7.ins(i:Nat)(xs:List H)(u:H)(F:d7):d7:=λj b v=>(j=i/\b=xs/\v=u)\/F j b v
def d7.ins_comm(i j:Nat)(xs b:List H)(u v:H)(F:d7):(F.ins i xs u).ins j b v=(F.ins j b v).ins i xs u:=by funext k c x;simp only[d7.ins,eq_iff_iff];constructor;rintro(h|h|h);exact .inr (.inl h);exact .inl h;exact .inr (.inr h);rintro(h|h|h);exact .inr (.inl h);exact .inl h;exact .inr (.inr h)
def eM(a:Act)(o:Oper):List H:=o.op.operands.toList.map a.eval
section
variable{P:Program}{ops:Array Oper}{md:Region.Mode}{c:Nat}{C:Bool->D->Prop}{T:Nat->List H->H->Prop}{R:Nat->List H->H->D->Prop}{aeO:Nat->D->D->Prop}
def Ft{dst:Option Tmp}(h:∀d,dst=some d->d∉o.looksAt ops):eM (a.put dst v) o=eM a o:=by unfold eM;refine List.map_congr_left λx g=>Act.eval_put λd f b=>h d f ?_;subst b;exact ik _ (List.mem_filterMap.2 ⟨.tmp d,g,O⟩)
def AU(P:Program)(C:D->Prop)(s:D->D->Prop)(t:H->Prop)(r:H->D->Prop)(w:D):Result Next->Prop
 |.ok (.value u) w'=>t u/\C w'/\s w w'/\r u w'
 |.ok .skip w'=>t undef/\C w'/\s w w'/\r undef w'
 |.ok (.enter f args) w'=>Calls P f args w' λe b=>∃u,e=.returned u/\t u/\C b/\s w b/\r u b
 |_=>False
def ss(P:Program)(md:Region.Mode)(ops:Array Oper)(c:Nat)(C:Bool->D->Prop)(T:Nat->List H->H->Prop)(R:Nat->List H->H->D->Prop)(aeO:Nat->D->D->Prop)(i:Nat)(o:Oper)(a:Act)(F:d7):Prop:=
 ∀b w,(qM md ops i ops.size c=true->b=false)->(i=c->b=false)->(qM md ops c ops.size i=true->b=true)->C b w->(∀k d u,F k d u->tz md o k->R k d u w)->AU P (C (b||i==c)) (aeO i) (T i (eM a o)) (R i (eM a o)) w ((execOp a.eval o).run P w)
def ki(P:Program)(md:Region.Mode)(ops:Array Oper)(c:Nat)(C:Bool->D->Prop)(T:Nat->List H->H->Prop)(R:Nat->List H->H->D->Prop)(aeO:Nat->D->D->Prop)(i:Nat)(K:Act->d7->Prop)(a:Act)(F:d7):Prop:=
 match ops[i]? with
 |none=>K a F
 |some o=>if Region.wanted o (yielded ops a.tmps)then ss P md ops c C T R aeO i o a F/\∀u,T i (eM a o) u->K (a.put o.dst u) (F.ins i (eM a o) u)else K (a.put o.dst undef) F
def Qi{F:d7}{K f:Act->d7->Prop}(h:∀a F,K a F->f a F)(b:ki P md ops c C T R aeO i K a F):ki P md ops c C T R aeO i f a F:=by
 unfold ki at*;split;exact h _ _ (by simpa[*]using b);rename_i o g;simp only[g]at b;split
 ·rename_i d;simp only[d,gR]at b;exact⟨b.1,λu j=>h _ _ (b.2 u j)⟩
 rename_i d;simp only[d]at b;exact h _ _ b
def wT(P:Program)(md:Region.Mode)(ops:Array Oper)(c:Nat)(C:Bool->D->Prop)(T:Nat->List H->H->Prop)(R:Nat->List H->H->D->Prop)(aeO:Nat->D->D->Prop)(Q:Act->d7->Prop):Nat->Array Bool->Act->d7->Prop
 |0,listed,a,F=>Region.ready md ops listed=[]/\Q a F
 |fuel+1,listed,a,F=>
  (Region.ready md ops listed=[]->Q a F)/\
  ∀i∈Region.ready md ops listed,ki P md ops c C T R aeO i (wT P md ops c C T R aeO Q fuel (listed.setIfInBounds i true)) a F
def tA.set{g:Array Bool}(r:tA md ops g)(p:ops[i]? =some o)(h:∀e∈o.after,Region.binds md e=true->g.getD e.on false=true):tA md ops (g.setIfInBounds i true):=λj n b d e k m=>by by_cases f:i=j;subst f;rw[p]at b;cases b;exact getD_set_true (h e k m);rw[mH false f]at d;exact getD_set_true (r j n b d e k m)
def sU{Q:Act->d7->Prop}{Q':Exit->Act->D->Prop}(p:∀w,C false w->C true w)(hR:∀i j xs u w w',i≠j->R i xs u w->aeO j w w'->R i xs u w')(hQ:∀a F w,C (decide (c<ops.size)) w->(∀k xs u,F k xs u->R k xs u w)->Q a F->Q' .normal a w):
  ∀(fuel:Nat) (d:Array Bool) (a:Act) (F:d7) (w:D),d.size=ops.size->tA md ops d->(∀k xs u,F k xs u->d.getD k true=true)->C (d.getD c false) w->(∀k xs u,F k xs u->R k xs u w)->wT P md ops c C T R aeO Q fuel d a F->wpAny P md ops Q' fuel d a w
 |fuel,d,a,F,w,hz,hD,hl,hw,hF,h=>by
  have γ:∀b,(b=true->c<ops.size)->C b w->C (decide (c<ops.size)) w:=λb m t=>by
   cases b with
   |false=>by_cases A:c<ops.size;rw[fa A];exact p _ t;rw[fO A];exact t
   |true=>rw[fa (m rfl)];exact t
  have A:d.getD c false=true->c<ops.size:=λt=>by rw[<-hz];rcases mI c d.size with h1|h1;exact h1;simp[kQ h1]at t
  match fuel with
  |0=>exact⟨h.1,hQ _ _ _ (γ _ A hw) hF h.2⟩
  |fuel+1=>
  refine⟨λh0=>hQ _ _ _ (γ _ A hw) hF (h.1 h0),λi hi=>?_⟩;have h1:=h.2 i hi;obtain⟨G,o,ho,W⟩:=mQ.1 hi;have ν:i<ops.size:=(fI.1 ho).1;have y:d.getD i false=false:=by have:i<d.size:=V;simpa[this]using G
  have K:=hD.set ho W;have J:(d.setIfInBounds i true).size=ops.size:=az hz;have L:(d.setIfInBounds i true).getD c false=(d.getD c false||i==c):=by by_cases e:i=c;subst e;have:i<d.size:=V;simp[this];rw[mH false e];simp[e]
  have δ:∀k xs u,F k xs u->(d.setIfInBounds i true).getD k true=true:=λk xs u hk=>by
   have:=hl k xs u hk;by_cases e:i=k
   ·subst e;rw[this]at G;cases G
   rw[mH true e];exact this
  have α:∀xs u k ys v,(F.ins i xs u) k ys v->(d.setIfInBounds i true).getD k true=true:=λxs u k ys v hk=>by
   rcases hk with⟨rfl,-,-⟩|hk
   ·by_cases hs:k<d.size;simp[hs];simp[kQ (Nat.not_lt.1 hs)]
   exact δ k ys v hk
  have X:C ((d.setIfInBounds i true).getD c false) w:=by
   rw[L];cases m:d.getD c false with
   |true=>rw[m]at hw;exact hw
   |false=>
    rw[m]at hw;cases μ:(i==c)with
    |true=>exact p _ hw
    |false=>exact hw
  unfold ki at h1;unfold wpOp;simp only[ho]at h1⊢;split
  ·rename_i g;simp only[g,gR]at h1;obtain⟨ζ,hk⟩:=h1;have ι:qM md ops i ops.size c=true->d.getD c false=false:=λs=>by
    cases m:d.getD c false with
    |false=>rfl
    |true=>have:=yK hD _ c s λo' E e he β=>hD c o' E m e he β;rw[this]at y;cases y
   have θ:i=c->d.getD c false=false:=λe=>by rw[<-e];exact y
   have κ:qM md ops c ops.size i=true->d.getD c false=true:=λs=>yK hD _ i s λo' E e he β=>by rw[ho]at E;cases E;exact W e he β
   have h2:=ζ _ w ι θ κ hw λk xs u ε _=>hF k xs u ε;rw[<-L]at h2;have B:∀u w',aeO i w w'->R i (eM a o) u w'->∀k xs v,(F.ins i (eM a o) u) k xs v->R k xs v w':=λu w' m hr k xs v iM=>by rcases iM with⟨rfl,rfl,rfl⟩|iM;exact hr;refine hR _ i _ _ _ _ (λe=>?_) (hF k xs v iM) m;have:=hl k xs v iM;rw[e,G]at this;cases this
   refine .inl ?_;unfold Oper.wp;generalize (execOp a.eval o).run P w=r at h2;cases r with
   |ok n w'=>
    cases n<;>simp only[AU]at h2<;>simp only[Oper.upon]
    case value u=>obtain⟨hm,t,m,hr⟩:=h2;exact sU p hR hQ fuel _ _ _ _ J K (α _ _) t (B u w' m hr) (hk u hm)
    case skip=>obtain⟨hm,t,m,hr⟩:=h2;exact sU p hR hQ fuel _ _ _ _ J K (α _ _) t (B undef w' m hr) (hk undef hm)
    case enter f args=>refine h2.mono λe η ⟨u,he,hm,t,m,hr⟩=>?_;subst he;exact sU p hR hQ fuel _ _ _ _ J K (α _ _) t (B u η m hr) (hk u hm)
   |halt x w'=>simp only[AU]at h2
  rename_i g;simp only[g]at h1;exact sU p hR hQ fuel _ _ _ _ J K δ X hF h1
theorem ZR(μ:∀i xs,∃u,T i xs u){Q:Act->d7->Prop}{n:Oper}(hi:ops[i]? =some n)(L:∀(j:Nat) (o:Oper) cs b,ops[j]? =some o->o.op≠ .select cs b):
  ∀(fuel:Nat) (d:Array Bool) (a:Act) (F:d7),
   (∀j m,ops[j]? =some m->j≠i->d.getD j true=false->(∀e∈m.after,Region.binds md e=true->e.on≠i)->n.apart ops m=true)->
   i∈Region.ready md ops d->ki P md ops c C T R aeO i (wT P md ops c C T R aeO Q fuel (d.setIfInBounds i true)) a F->wT P md ops c C T R aeO Q (fuel+1) d a F:=by
 intro fuel
 induction fuel with
 |zero=>
  intro d a F _ hr f;refine⟨λh=>(by rw[h]at hr;cases hr),λj hj=>?_⟩;by_cases r:j=i;subst r;exact f;have K:=qe hj r;have h2:Region.ready md ops (d.setIfInBounds i true)=[]:=by unfold ki at f;simp only[hi]at f;split at f;obtain⟨u,hu⟩:=μ i (eM a n);exact(f.2 u hu).1;exact f.1
  rw[h2]at K;cases K
 |succ fuel ih=>
  intro d a F x hr f;refine⟨λh=>(by rw[h]at hr;cases hr),λj hj=>?_⟩;by_cases r:j=i;subst r;exact f;obtain⟨G,m,y,φ⟩:=mQ.1 hj;have J:∀e∈m.after,Region.binds md e=true->e.on≠i:=λe he hb β=>by
   have K:=φ e he hb;have h0:=(mQ.1 hr).1;rw[β]at K;rcases mI i d.size with h'|h'
   ·simp[h']at h0 K;rw[h0]at K;cases K
   simp[kQ h']at K
  have ε:¬tz md m i:=λ⟨e,he,hb,β⟩=>J e he hb β;have ω:=x j m y r G J;obtain⟨p1,p2,p3⟩:=Oper.apart_spec ω;have Γ:=λcs b=>L i n cs b hi;have Θ:=λcs b=>L j m cs b y;have γ:∀u,eM (a.put n.dst u) m=eM a m:=λu=>Ft p1;have X:∀u,eM (a.put m.dst u) n=eM a n:=λu=>Ft p3;have g:∀k ok,ops[k]? =some ok->k≠i->(d.setIfInBounds j true).getD k true=false->
    (∀e∈ok.after,Region.binds md e=true->e.on≠i)->n.apart ops ok=true:=λk ok hk ψ υ χ=>by
   refine x k ok hk ψ ?_ χ;by_cases ν:j=k;subst ν;exact G;rw[mH true ν]at υ;exact υ
  have A:(d.setIfInBounds i true).setIfInBounds j true=(d.setIfInBounds j true).setIfInBounds i true:=Cy _ _ (eC r);have ξ:=qe hj r;have B:=qe hr (eC r);have σ:∀u,∀F',(∀k xs v,F' k xs v->k=i\/F k xs v)->ss P md ops c C T R aeO j m (a.put n.dst u) F'->ss P md ops c C T R aeO j m a F:=λu F' W h b w θ ζ κ hw hf=>by
   have:=h b w θ ζ κ hw λk xs v hk hn=>by rcases W k xs v hk with rfl|hk;exact absurd hn ε;exact hf k xs v hk hn
   rwa[execOp_put m Θ a n.dst u p1,γ]at this
  have π:∀u F',(∀k xs v,F k xs v->F' k xs v)->ss P md ops c C T R aeO i n a F->ss P md ops c C T R aeO i n (a.put m.dst u) F':=λu F' W h b w θ ζ κ hw hf=>by rw[execOp_put n Γ a m.dst u p3,X];exact h b w θ ζ κ hw λk xs v hk hn=>hf k xs v (W k xs v hk) hn
  have η:∀ys u k xs v,F k xs v->(F.ins j ys u) k xs v:=λys u k xs v h=>.inr h;have α:∀ys u k xs v,(F.ins i ys u) k xs v->k=i\/F k xs v:=λys u k xs v h=>h.imp And.left id;unfold ki at f;simp only[hi]at f;unfold ki;simp only[y];split at f
  ·rename_i t;obtain⟨τ,HK⟩:=f;have p:∀u,T i (eM a n) u->_:=λu hu=>(HK u hu).2 j ξ;unfold ki at p;simp only[y,jD m a n.dst _ p1,A,γ]at p;split
   ·rename_i s;simp only[s,gR]at p;obtain⟨u0,Δ⟩:=μ i (eM a n);refine⟨σ u0 _ (α _ u0) (p u0 Δ).1,λE δ=>ih _ _ _ g B ?_⟩;unfold ki;simp only[hi,jD n a m.dst E p3,t,gR,X];refine⟨π E _ (η _ E) τ,λui ι=>?_⟩;have:=(p ui ι).2 E δ;rw[mK a ui E p2,d7.ins_comm]at this;exact this
   rename_i s;simp only[s]at p;refine ih _ _ _ g B ?_;unfold ki;simp only[hi,jD n a m.dst undef p3,t,gR,X];refine⟨π undef _ (λk xs v h=>h) τ,λui ι=>?_⟩;have:=p ui ι;simp only[mN,mP]at this;rw[mK a ui undef p2]at this;exact this
  rename_i t;have p:=f.2 j ξ;unfold ki at p;simp only[y,jD m a n.dst _ p1,A,γ]at p;split
  ·rename_i s;simp only[s,gR]at p;refine⟨σ undef _ (λk xs v h=>.inr h) p.1,λE δ=>ih _ _ _ g B ?_⟩;unfold ki;simp only[hi,jD n a m.dst E p3,t];have:=p.2 E δ;rw[mK a undef E p2]at this;exact this
  rename_i s;simp only[s]at p;refine ih _ _ _ g B ?_;unfold ki;simp only[hi,jD n a m.dst undef p3,t];simp only[mN,mP]at p⊢;rw[mK a undef undef p2]at p;exact p
def lN(P:Program)(md:Region.Mode)(ops:Array Oper)(c:Nat)(C:Bool->D->Prop)(T:Nat->List H->H->Prop)(R:Nat->List H->H->D->Prop)(aeO:Nat->D->D->Prop)(Q:Act->d7->Prop):Nat->List Oper->Act->d7->Prop
 |_,[],a,F=>Q a F
 |i,o::rest,a,F=>if Region.wanted o (yielded ops a.tmps)then ss P md ops c C T R aeO i o a F/\∀u,T i (eM a o) u->lN P md ops c C T R aeO Q (i+1) rest (a.put o.dst u) (F.ins i (eM a o) u)else lN P md ops c C T R aeO Q (i+1) rest (a.put o.dst undef) F
def yL(d:∀i xs,∃u,T i xs u){Q:Act->d7->Prop}(n:Region.noSelect ops=true):∀(l:List Oper) (k:Nat) (b:Array Bool) (a:Act) (F:d7),(∀j,l[j]? =ops[k+j]?)->
  Region.lexFrom md ops l.length k b=true->lN P md ops c C T R aeO Q k l a F->wT P md ops c C T R aeO Q l.length b a F
 |[],_,_,_,_,_,hB,h=>⟨by simpa[Region.lexFrom]using hB,h⟩
 |o::l,k,b,a,F,hl,hB,h=>by
  have m:ops[k]? =some o:=by simpa using(hl 0).symm
  simp only[dN,Region.lexFrom,bZ]at hB;obtain⟨⟨r,p⟩,g⟩:=hB;refine ZR d m (Region.noSelect_spec n) l.length b a F (Region.free_spec m p) (az r) ?_;have f:ki P md ops c C T R aeO k (lN P md ops c C T R aeO Q (k+1) l) a F:=by unfold ki;simp only[m];exact h
  exact Qi (λa F h=>yL d n l (k+1) _ _ _ (λj=>by have:=hl (j+1);simpa[gQ,Nat.add_comm 1 j]using this) g h) f
def Z6(c:Nat)(T:Nat->List H->H->Prop)(R:Nat->List H->H->D->Prop)(aeO:Nat->D->D->Prop)(C:Bool->D->Prop)
  (r:P.follows .mixedOrders=true) (n:Region.lexB .any l.toArray=true) (s:C false w.drew) (g:∀i xs,∃u,T i xs u) (b:∀w,C false w->C true w) (t:∀i j xs u w w',i≠j->R i xs u w->aeO j w w'->R i xs u w')
  (h:lN P .any l.toArray c C T R aeO (λm f=>∀w',C (decide (c<l.length)) w'->(∀k xs u,f k xs u->R k xs u w')->Q .normal m w') 0 l a λ_ _ _=>False):(Code.region id l.toArray true).wp P Q a w:=by
 simp only[Region.lexB,bZ]at n;refine qf r (sU (c:=c) (C:=C) (T:=T) (Q:=λm f=>∀w',C (decide (c<l.length)) w'->(∀k xs u,f k xs u->R k xs u w')->Q .normal m w') b t (λ_ F w' d hF h=>h w' (az d) hF) _ _ _ (λ_ _ _=>False) _ ah
  (λj o _ p=>by rw[hU]at p;cases p) (λ_ _ _ h=>False.elim h) (by rw[hU];exact s) (λ_ _ _ h=>False.elim h) ?_)
 have:=yL (P:=P) (c:=c) (C:=C) (T:=T) (R:=R) (aeO:=aeO) (md:=.any) g n.1 l 0 (Array.replicate l.length false) a (λ_ _ _=>False) ah (az n.2) h;simpa using this
def ut{Q:Act->d7->Prop}(g:∀a F d,(∀k xs u,F k xs u->d k xs u)->Q a F->Q a d):∀(l:List Oper) (i:Nat) (a:Act) (F d:d7),(∀k xs u,F k xs u->d k xs u)->lN P md ops c C T R aeO Q i l a F->lN P md ops c C T R aeO Q i l a d
 |[],_,a,F,d,hs,h=>g a F d hs h
 |o::rest,i,a,F,d,hs,h=>by
  unfold lN at h⊢;split
  ·rename_i f;rw[av f]at h;refine⟨λb w p m s j n=>h.1 b w p m s j λk xs u hk t=>n k xs u (hs k xs u hk) t,λu r=>?_⟩;refine ut g rest _ _ _ _ (λk xs v hk=>?_) (h.2 u r);rcases hk with hk|hk;exact .inl hk;exact .inr (hs k xs v hk)
  rename_i f;rw[al f]at h;exact ut g rest _ _ _ _ hs h
def oo{Q:Act->d7->Prop}{b:List Oper}{F:d7}(f:Region.wanted o (yielded ops a.tmps)=true)(d:ss P md ops c C T R aeO i o a F)
  (g:∀u,T i (eM a o) u->lN P md ops c C T R aeO Q (i+1) b (a.put o.dst u) (F.ins i (eM a o) u)):lN P md ops c C T R aeO Q i (o::b) a F:=by
 unfold lN;rw[av f];exact⟨d,g⟩
end
section
open Go.BigFrame
section
variable{P:Program}
open Classical in
noncomputable def xc(P:Program)(o:Oper)(xs:List H):Option H:=
 if h:∃v,∀(ρ:aO->H) (w:D),o.op.operands.toList.map ρ=xs->(execOp ρ o).run P w=.ok (.value v) w then some h.choose else none
def OR(W:D)(h:∀(ρ:aO->H) (w:D),o.op.operands.toList.map ρ=eM a o->(execOp ρ o).run P w=.ok (.value v) w):xc P o (eM a o)=some v:=by have c:∃v,∀(ρ:aO->H) (w:D),o.op.operands.toList.map ρ=eM a o->(execOp ρ o).run P w=.ok (.value v) w:=⟨v,h⟩;unfold xc;rw[dif_pos c];have d:=c.choose_spec a.eval W O;have b:=h a.eval W O;rw[d]at b;injection b with b _;injection b with b;rw[b]
end
structure Ns(B:Nat)(t:ay)(w w':D):Prop where
 os:w'.os=w.os
 tape:w'.tape=w.tape
 output:w'.output=w.output
 size:w.heap.size<=w'.heap.size
 block:∀k,k<w.heap.size->w'.heap[k]? =w.heap[k]?\/(B<=k/\∃cs cs',cs'.size=cs.size/\M w k t cs/\M w' k t cs')
def vn(b:List ay)(w:D)(k:Nat):Prop:=∃c t,t∈b/\M w k t c
structure fB(aeS:List ay)(F:Nat->Prop)(B:Nat)(w0 w:D):Prop where
 os:w.os=w0.os
 tape:w.tape=w0.tape
 output:w.output=w0.output
 size:w0.heap.size<=w.heap.size
 block:∀k,k<w0.heap.size->w.heap[k]? =w0.heap[k]?\/(B<=k/\vn aeS w0 k/\vn aeS w k)\/F k
def fB.refl(b:List ay)(F:Nat->Prop)(B:Nat)(w:D):fB b F B w w:=⟨O,O,O,ao _,λ_ _=>.inl O⟩
def fB.below{B:Nat}{w0:D}(h:fB [] F B w0 w)(hF:∀k,¬F k):S w0 w:=
 ⟨h.os,h.tape,h.output,h.size,λk b=>by
  rcases h.block k b with h1|⟨-,⟨d,t,c,-⟩,-⟩|h1;exact h1
  ·cases c
  exact absurd h1 (hF k)⟩
inductive fY where
 |is (v:H)
 |fn
 |box (t:ay) (n:Nat)
 |st (t:ay) (ct:H->Array H)
 |cal (sh:H->Prop) (hne:∃u,sh u) (post:D->H->D->Prop)
def Value.toArr:H->Array H
 |.agg cs=>cs
 |_=>#[]
noncomputable def gp(P:Program)(b:Array Oper)(E:List fY)(i:Nat)(xs:List H)(u:H):Prop:=match E[i]? with
 |some (.is v)=>u=v
 |some .fn=>∀v,((b[i]?).bind λo=>xc P o xs)=some v->u=v
 |some (.st _ _)=>u=undef
 |some (.cal sh _ _)=>sh u
 |_=>True
def Ad(P:Program)(b:Array Oper)(E:List fY)(i:Nat)(xs:List H):∃u,gp P b E i xs u:=by
 unfold gp;split;exact⟨_,O⟩
 ·cases h:(b[i]?).bind λo=>xc P o xs with
  |none=>exact⟨undef,λv d=>aK d⟩
  |some v=>exact⟨v,λg d=>by cases d;rfl⟩
 exact⟨_,O⟩
 ·rename_i k c f j;exact c
 exact⟨undef,trivial⟩
def fD(b:List ay)(F:Nat->Prop)(W:D)(c:Nat)(E:List fY)(i:Nat)(xs:List H)(u:H)(w:D):Prop:=match E[i]? with
 |some (.box t n)=>∃g,u=.pointer (some (I g 0))/\W.heap.size<=g/\∃h,h.size=n/\M w g t h
 |some (.st t ct)=>∃g v,xs=[N g,v]/\W.heap.size<=g/\M w g t (ct v)
 |some (.cal _ _ post)=>∃d f,(i=c->S W d)/\aa F W d/\post d u f/\fB b (λk=>i≠c/\F k) W.heap.size f w
 |_=>True
def iJ(b:List ay)(F:Nat->Prop)(W:D)(c:Nat)(E:List fY)(i:Nat)(w w':D):Prop:=match E[i]? with
 |some (.st t _)=>t∈b/\Ns W.heap.size t w w'
 |some (.cal _ _ _)=>if i=c then aa F w w' else S w w'
 |_=>S w w'
def mZ(F:Nat->Prop)(W:D)(b:Bool)(w:D):Prop:=if b then aa F W w else S W w
def j9{W:D}{b:Bool}(h:mZ F W b w):aa F W w:=by
 cases b with
 |true=>exact h
 |false=>exact aa.of_below h
def tw{W:D}{b c:Bool}(h:mZ F W b w)(d:b=true->c=true):mZ F W c w:=by
 cases c with
 |true=>exact j9 h
 |false=>
  cases b with
  |true=>cases d O
  |false=>exact h
def va(t:ay):List fY->Bool
 |[]=>true
 |.st t' _::r=> !(t==t')&&va t r
 |_::r=>va t r
def qF:List fY->Bool
 |[]=>true
 |.st t _::r=>va t r&&qF r
 |_::r=>qF r
def KH{t t':ay}{b:H->Array H}:∀{E:List fY} {j:Nat},va t E=true->E[j]? =some (.st t' b)->t≠t'
 |e::r,0,h,hj=>by simp only[List.getElem?_cons_zero,ud]at hj;subst hj;simp only[va,bZ,ua,fH]at h;exact h.1
 |e::r,j+1,h,hj=>by
  rw[yi]at hj;refine KH (E:=r) ?_ hj;cases e with
  |st t'' c=>simp only[va,bZ]at h;exact h.2
  |is v=>exact h
  |fn=>exact h
  |box t n=>exact h
  |cal s n p=>exact h
def DB{t t':ay}{d b:H->Array H}:∀{E:List fY} {i j:Nat},qF E=true->i<j->E[i]? =some (.st t d)->E[j]? =some (.st t' b)->t≠t'
 |e::r,0,j+1,h,_,hi,hj=>by simp only[List.getElem?_cons_zero,ud]at hi;subst hi;rw[yi]at hj;simp only[qF,bZ]at h;exact KH h.1 hj
 |e::r,i+1,j+1,h,hl,hi,hj=>by
  rw[yi]at hi hj;refine DB (E:=r) ?_ V hi hj;cases e with
  |st t'' c=>simp only[qF,bZ]at h;exact h.2
  |is v=>exact h
  |fn=>exact h
  |box t n=>exact h
  |cal s n p=>exact h
section
variable{P:Program}{ops:Array Oper}{aeS:List ay}{F:Nat->Prop}{W:D}{c:Nat}{E:List fY}
def RM{j:Nat}{w':D}(d:iJ aeS F W c E j w w'):w'.os=w.os/\w'.tape=w.tape/\w'.output=w.output/\w.heap.size<=w'.heap.size/\
  ∀k,k<w.heap.size->w'.heap[k]? =w.heap[k]?\/(j=c/\F k)\/∃t n,E[j]? =some (.st t n)/\t∈aeS/\W.heap.size<=k/\∃m b,b.size=m.size/\M w k t m/\M w' k t b:=by
 have f:S w w'->w'.os=w.os/\w'.tape=w.tape/\w'.output=w.output/\w.heap.size<=w'.heap.size/\
  ∀k,k<w.heap.size->w'.heap[k]? =w.heap[k]?\/(j=c/\F k)\/∃t n,E[j]? =some (.st t n)/\t∈aeS/\W.heap.size<=k/\∃m b,b.size=m.size/\M w k t m/\M w' k t b:=λh=>⟨h.os,h.tape,h.output,h.size,λk g=>.inl (h.block k g)⟩
 unfold iJ at d;split at d
 ·rename_i t n s;obtain⟨y,h⟩:=d;refine⟨h.os,h.tape,h.output,h.size,λk g=>?_⟩;rcases h.block k g with p|⟨p,u⟩;exact .inl p;exact .inr (.inr ⟨t,n,s,y,p,u⟩)
 ·split at d
  ·rename_i x;refine⟨d.os,d.tape,d.output,d.size,λk g=>?_⟩;by_cases r:F k;exact .inr (.inl ⟨x,r⟩);exact .inl (d.block k g r)
  exact f d
 exact f d
def EM(hF:∀k,F k->k<W.heap.size)(hE:qF E=true):∀i j xs u w w',i≠j->fD aeS F W c E i xs u w->iJ aeS F W c E j w w'->fD aeS F W c E i xs u w':=by
 intro i j xs u w w' γ B hs;obtain⟨s1,s2,s3,s4,T⟩:=RM hs;unfold fD at B⊢;split at B
 ·rename_i t n R;obtain⟨g,hu,J,s,hn,f⟩:=B;rcases T g f.lt with b|⟨-,b⟩|⟨p,ct,-,-,-,d,h,A,b,G⟩;exact⟨g,hu,J,s,hn,b.trans f⟩;have:=hF g b;omega;have e:=eZ ((show w.heap[g]? =_ from f).symm.trans b);injection e with e1 L e3;subst e1 L;exact⟨g,hu,J,h,by rw[A,hn],G⟩
 ·rename_i t ct R;obtain⟨g,v,hx,J,f⟩:=B;rcases T g f.lt with b|⟨-,b⟩|⟨p,β,y,-,-,d,h,A,b,G⟩;exact⟨g,v,hx,J,b.trans f⟩;have:=hF g b;omega;have e:=eZ ((show w.heap[g]? =_ from f).symm.trans b);injection e with e1 L e3;rcases mI i j with hl|hl;exact absurd L (DB hE hl R y);exact absurd L.symm (DB hE V y R)
 ·rename_i α R;obtain⟨w1,w2,b,G,h3,r⟩:=B;refine⟨w1,w2,b,G,h3,⟨s1.trans r.os,s2.trans r.tape,s3.trans r.output,aZ r.size s4,λk hk=>?_⟩⟩;have x:=ee hk r.size;rcases r.block k hk with g1|⟨g1,g2,g3⟩|g1;rcases T k x with m|⟨m,C⟩|⟨p,ct,-,K,m,s,d,C,f3,X⟩;exact .inl (m.trans g1);exact .inr (.inr ⟨V,C⟩);exact .inr (.inl ⟨m,⟨s,p,K,g1.symm.trans f3⟩,⟨d,p,K,X⟩⟩);rcases T k x with m|⟨m,C⟩|⟨p,ct,-,K,m,s,d,C,f3,X⟩;obtain⟨s,t,hz,f⟩:=g3;exact .inr (.inl ⟨g1,g2,s,t,hz,m.trans f⟩);have:=hF k C;omega;exact .inr (.inl ⟨g1,g2,⟨d,p,K,X⟩⟩);exact .inr (.inr g1)
 trivial
end
section
variable{P:Program}{ops:Array Oper}{aeS:List ay}{F:Nat->Prop}{W:D}{c:Nat}{E:List fY}{Q:List fY->Act->d7->Prop}{o:Oper}{rest:List Oper}{aeP:Type}{a:aeP->Act}{K:aeP->d7}
abbrev AK(P:Program)(ops:Array Oper)(aeS:List ay)(F:Nat->Prop)(W:D)(c:Nat)(E:List fY)(Q:Act->d7->Prop)(i:Nat)(l:List Oper)(a:Act)(K:d7):Prop:=
 lN P .any ops c (mZ F W) (gp P ops E) (fD aeS F W c E) (iJ aeS F W c E) Q i l a K
def dE(P:Program)(ops:Array Oper)(aeS:List ay)(F:Nat->Prop)(W:D)(c:Nat)(E:List fY)(Q:List fY->Act->d7->Prop)(l:List Oper)(aeP:Type)(a:aeP->Act)(K:aeP->d7):Prop:=
 ∃b,qF (E++b)=true/\∀u,AK P ops aeS F W c (E++b) (Q (E++b)) E.length l (a u) (K u)
def dP(E:List fY)(x:fY)(b:List fY):(E++x::b)[E.length]? =some x:=by rw[pZ (ao _),Nat.sub_self];rfl
def dE.more{x:fY}(h:dE P ops aeS F W c (E++[x]) Q rest aeP a K):∃b,qF (E++x::b)=true/\∀u,AK P ops aeS F W c (E++x::b) (Q (E++x::b)) (E.length+1) rest (a u) (K u):=by obtain⟨b,d,h⟩:=h;rw[i6]at d h;rw[bW]at h;exact⟨b,d,h⟩
def cT(b:qF E=true)(h:∀u,Q E (a u) (K u)):dE P ops aeS F W c E Q [] aeP a K:=⟨[],by rw[eF];exact⟨b,h⟩⟩
def dL{a:Act}{Q:Exit->Act->D->Prop}(aeS:List ay)(F:Nat->Prop)(c:Nat)(hF:∀k,F k->k<w.heap.size)(f:P.follows .mixedOrders=true)(j:Region.lexB .any l.toArray=true)
  (h:dE P l.toArray aeS F w c [] (λE g m=>∀w',mZ F w (decide (c<l.length)) w'->(∀k xs u,m k xs u->fD aeS F w c E k xs u w')->Q .normal g w') l Unit (λ_=>a) (λ_ _ _ _=>False)):(Code.region id l.toArray true).wp P Q a w:=by
 obtain⟨E,b,h⟩:=h;exact Z6 c (gp P l.toArray E) (fD aeS F w c E) (iJ aeS F w c E) (mZ F w) f j (aq _ _).drew (Ad _ _ _) (λ_ d=>tw d λ_=>rfl) (EM hF b) (h ())
def oS(Q:List fY->Act->d7->Prop):Prop:=∀E a K d,(∀k b u,K k b u->d k b u)->Q E a K->Q E a d
def gz(d:∀u,Region.wanted o (yielded ops (a u).tmps)=false)(h:dE P ops aeS F W c (E++[.is undef]) Q rest aeP (λu=>(a u).put o.dst undef) K):dE P ops aeS F W c E Q (o::rest) aeP a K:=by obtain⟨f,b,h⟩:=h.more;exact⟨_,b,λu=>by unfold AK lN;rw[al (by rw[d u];exact Bool.false_ne_true)];exact h u⟩
def Aa(n:∀u,Region.wanted o (yielded ops (a u).tmps)=true)(h:∃v,(∀u,∀w,aa F W w->(execOp (a u).eval o).run P w=.ok (.value v) w)/\dE P ops aeS F W c (E++[.is v]) Q rest aeP (λu=>(a u).put o.dst v) K)(p:oS Q:=by exact λ_ _ _ _ s h r t f=>h r t λk g u d=>f k g u (s k g u d)):dE P ops aeS F W c E Q (o::rest) aeP a K:=by
 obtain⟨v,f,h⟩:=h;obtain⟨A,m,h⟩:=h.more;refine⟨_,m,λu=>oo (n u) (λb w _ _ _ j _=>?_) λx y=>?_⟩;rw[f u w (j9 j)];exact⟨by simp only[gp,dP],tw j λh=>by simp[h],by simp only[iJ,dP];exact aq _ _,by simp only[fD,dP]⟩;have:x=v:=by simpa only[gp,dP]using y
 subst this;exact ut (p _) _ _ _ _ _ (λk g u d=>.inr d) (h u)
def GP(s:∀u,Region.wanted o (yielded ops (a u).tmps)=true)(A:ops[E.length]? =some o)
  (h:∃v:aeP->H,(∀u,∀ρ:aO->H,o.op.operands.toList.map ρ=eM (a u) o->∀w,(execOp ρ o).run P w=.ok (.value (v u)) w)/\dE P ops aeS F W c (E++[.fn]) Q rest aeP (λu=>(a u).put o.dst (v u)) K) (y:oS Q:=by exact λ_ _ _ _ C h B G f=>h B G λk m u g=>f k m u (C k m u g)):dE P ops aeS F W c E Q (o::rest) aeP a K:=by
 obtain⟨v,f,h⟩:=h;obtain⟨L,r,h⟩:=h.more;have n:∀u,((ops[E.length]?).bind λJ=>xc P J (eM (a u) o))=some (v u):=λu=>by simp only[A,Option.bind_some];exact OR W λρ w j=>f u ρ j w
 refine⟨_,r,λu=>oo (s u) (λb w _ _ _ t _=>?_) λx p=>?_⟩;rw[f u (a u).eval rfl w];exact⟨by simp only[gp,dP];intro R d;rw[n u]at d;cases d;rfl,tw t λh=>by simp[h],by simp only[iJ,dP];exact aq _ _,by simp only[fD,dP]⟩;have:x=v u:=by simp only[gp,dP]at p;exact p (v u) (n u)
 subst this;exact ut (y _) _ _ _ _ _ (λk m u g=>.inr g) (h u)
def wI{ρ b:aO->H}:∀{l:List aO} {x:aO},l.map ρ=l.map b->x∈l->ρ x=b x
 |y::l,x,h,hx=>by simp only[cW,vM]at h;rcases dh.1 hx with rfl|hx;exact h.1;exact wI h.2 hx
def Xl(g:∀u,Region.wanted o (yielded ops (a u).tmps)=true)(m:ops[E.length]? =some o)(x1:aO)(r:o.op.operands.toList=[x1])(v1:aeP->H)(s:∀u,fw (a u) x1=some (v1 u))
  (h:∃v:aeP->H,(∀u,∀ρ:aO->H,ρ x1=v1 u->∀w,(execOp ρ o).run P w=.ok (.value (v u)) w)/\dE P ops aeS F W c (E++[.fn]) Q rest aeP (λu=>(a u).put o.dst (v u)) K) (n:oS Q:=by exact λ_ _ _ _ t h p x d=>h p x λk f u j=>d k f u (t k f u j)):dE P ops aeS F W c E Q (o::rest) aeP a K:=by
 obtain⟨v,d,h⟩:=h;exact GP g m ⟨v,λu ρ b w=>d u ρ ((wI b (by rw[r];simp)).trans (fo (s u))) w,h⟩ n
def j8(s:∀u,Region.wanted o (yielded ops (a u).tmps)=true)(p:E.length≠c)(f:FuncId)(args:aeP->Array H)(v:H)(y:∀u,∀w,(execOp (a u).eval o).run P w=.ok (.enter f (args u)) w)
  (B:∀u w,aa F W w->Calls P f (args u) w λe g=>e=.returned v/\S w g)
  (h:dE P ops aeS F W c (E++[.is v]) Q rest aeP (λu=>(a u).put o.dst v) K) (t:oS Q:=by exact λ_ _ _ _ C h g p A=>h g p λk m u j=>A k m u (C k m u j)):dE P ops aeS F W c E Q (o::rest) aeP a K:=by
 obtain⟨J,r,h⟩:=h.more;refine⟨_,r,λu=>oo (s u) (λb w _ _ _ d _=>?_) λx G=>?_⟩
 ·rw[y u w];apply(B u w (j9 d)).mono;rintro e g ⟨rfl,n⟩;refine⟨_,O,by simp only[gp,dP],?_,by simp only[iJ,dP];exact n,by simp only[fD,dP]⟩;rw[show(b||E.length==c)=b from by simp[p]];cases b with
  |true=>exact(j9 d).call n
  |false=>exact sH d (n.mono (Below.size d))
 have:x=v:=by simpa only[gp,dP]using G
 subst this;exact ut (t _) _ _ _ _ _ (λk m u j=>.inr j) (h u)
def pn(B:∀u,Region.wanted o (yielded ops (a u).tmps)=true)(t:E.length≠c)(f:FuncId)(args:aeP->Array H){j:Type}(k:j->H)(d:j)(g:D->H->D->Prop)(C:∀u,∀w,(execOp (a u).eval o).run P w=.ok (.enter f (args u)) w)
  (G:∀u w,aa F W w->Calls P f (args u) w λe n=>∃p,e=.returned (k p)/\g w (k p) n/\S w n)
  (h:dE P ops aeS F W c (E++[.cal (λu=>∃p,u=k p) ⟨k d,d,O⟩ g]) Q rest (aeP×j) (λp=>(a p.1).put o.dst (k p.2)) (λp=>(K p.1).ins E.length (eM (a p.1) o) (k p.2))):dE P ops aeS F W c E Q (o::rest) aeP a K:=by
 obtain⟨L,y,h⟩:=h.more;refine⟨_,y,λu=>oo (B u) (λb w _ _ _ m _=>?_) λx J=>?_⟩;rotate_left
 ·obtain⟨p,rfl⟩:∃p,x=k p:=by simpa only[gp,dP]using J
  exact h (u,p)
 rw[C u w];apply(G u w (j9 m)).mono;rintro e n ⟨r,rfl,A,s⟩;refine⟨_,O,(by simp only[gp,dP];exact⟨r,O⟩),?_,by simp only[iJ,dP,al t];exact s,?_⟩
 ·rw[show(b||E.length==c)=b from by simp[t]];cases b with
  |true=>exact(j9 m).call s
  |false=>exact sH m (s.mono (Below.size m))
 simp only[fD,dP];exact⟨w,n,λe=>absurd e t,j9 m,A,fB.refl _ _ _ _⟩
def jl(C:∀u,Region.wanted o (yielded ops (a u).tmps)=true)(y:E.length=c)(f:FuncId)(args:aeP->Array H){j:Type}(k:j->H)(d:j)(g:D->H->D->Prop)(G:∀u,∀w,(execOp (a u).eval o).run P w=.ok (.enter f (args u)) w)
  (J:∀u w,S W w->Calls P f (args u) w λe n=>∃p,e=.returned (k p)/\g w (k p) n/\aa F w n)
  (h:dE P ops aeS F W c (E++[.cal (λu=>∃p,u=k p) ⟨k d,d,O⟩ g]) Q rest (aeP×j) (λp=>(a p.1).put o.dst (k p.2)) (λp=>(K p.1).ins E.length (eM (a p.1) o) (k p.2))):dE P ops aeS F W c E Q (o::rest) aeP a K:=by
 obtain⟨R,A,h⟩:=h.more;refine⟨_,A,λu=>oo (C u) (λb w _ t _ m _=>?_) λx L=>?_⟩;rotate_left
 ·obtain⟨p,rfl⟩:∃p,x=k p:=by simpa only[gp,dP]using L
  exact h (u,p)
 have s:=t y;subst s;have m:S W w:=m;rw[G u w];apply(J u w m).mono;rintro e n ⟨r,rfl,B,s⟩;refine⟨_,O,(by simp only[gp,dP];exact⟨r,O⟩),?_,by simp only[iJ,dP,av y];exact s,?_⟩
 ·rw[show(false||E.length==c)=true from by simp[y]];exact(aa.of_below m).trans s
 simp only[fD,dP];exact⟨w,n,λ_=>m,aa.of_below m,B,fB.refl _ _ _ _⟩
def ng(k:∀u,Region.wanted o (yielded ops (a u).tmps)=true)(t:ay)(cs:Array H)
  (d:∀(ρ:aO->H) w,(execOp ρ o).run P w=.ok (.value (N w.heap.size)) (w.alloc (.cells cs t)))
  (h:dE P ops aeS F W c (E++[.box t cs.size]) Q rest (aeP×H) (λp=>(a p.1).put o.dst p.2) (λp=>(K p.1).ins E.length (eM (a p.1) o) p.2)):dE P ops aeS F W c E Q (o::rest) aeP a K:=by
 obtain⟨m,j,h⟩:=h.more;refine⟨_,j,λu=>oo (k u) (λb w _ _ _ f _=>?_) λx _=>h (u,x)⟩;rw[d];have g:S w (w.alloc (.cells cs t)):=(aq _ _).alloc (ao _) _;refine⟨(by simp only[gp,dP]),?_,by simp only[iJ,dP];exact g,?_⟩
 ·refine tw (b:=b) ?_ λh=>by simp[h]
  cases b with
  |true=>exact(j9 f).call g
  |false=>exact sH f (g.mono (Below.size f))
 simp only[fD,dP];exact⟨_,O,(j9 f).size,cs,O,M.new _ _ _⟩
def Lb(hw:∀u,Region.wanted o (yielded ops (a u).tmps)=true)(k:Nat)(t:ay)(n:Nat)(L:H->Array H)(hk:rR o k=true)(C:E[k]? =some (.box t n))(hZ:t∈aeS)(hF:∀j,F j->j<W.heap.size)(f v:aeP->H)(xs:aeP->List H)(hK:∀u,K u k (xs u) (f u))(hx:∀u,eM (a u) o=[f u,v u])(hn:∀u,(L (v u)).size=n)
  (s:∀u w g cs,f u=.pointer (some (I g 0))->cs.size=n->M w g t cs->∃G,(execOp (a u).eval o).run P w=.ok .skip G/\M G g t (L (v u))/\aH w G g none)
  (h:dE P ops aeS F W c (E++[.st t L]) Q rest aeP (λu=>(a u).put o.dst undef) (λu=>(K u).ins E.length (eM (a u) o) undef)):dE P ops aeS F W c E Q (o::rest) aeP a K:=by
 obtain⟨E',hd,h⟩:=h.more;have p:(E++fY.st t L::E')[k]? =some (.box t n):=by have:=(fN.1 C).1;rw[p9 this];exact C
 refine⟨_,hd,λu=>oo (hw u) (λb w _ _ _ X hR=>?_) λx R=>?_⟩
 ·have r:=hR k _ _ (hK u) (mW hk);simp only[fD,p]at r;obtain⟨g,hz,hg,cs,y,r⟩:=r;obtain⟨G,hr,A,d⟩:=s u w g cs hz y r;rw[hr];refine⟨(by simp only[gp,dP]),?_,?_,?_⟩
  ·refine tw (b:=b) ?_ λh=>by simp[h]
   cases b with
   |true=>have m:aa F W w:=X;exact⟨d.os.trans m.os,d.tape.trans m.tape,d.output.trans m.output,aZ m.size d.size,λj J T=>(d.block j (ee J m.size) V ah).trans (m.block j J T)⟩
   |false=>exact d.below X V (λ_ h=>aK h)
  ·simp only[iJ,dP];refine⟨hZ,d.os,d.tape,d.output,d.size,λj J=>?_⟩;by_cases B:j=g;subst B;exact .inr ⟨hg,cs,_,by rw[hn u,y],r,A⟩;exact .inl (d.block j J B ah)
  simp only[fD,dP];exact⟨g,v u,by rw[hx u,hz],hg,A⟩
 have:x=undef:=by simpa only[gp,dP]using R
 subst this;exact h u
def o8(T:∀u,Region.wanted o (yielded ops (a u).tmps)=true)(k:Nat)(t ty:ay)(n:Nat)(x y:aO)(A:o.op=.store ty x y)(G:rR o k=true)(r:E[k]? =some (.box t n))(hZ:t∈aeS)(hF:∀j,F j->j<W.heap.size)(b:aeP->H)(cs:aeP->Array H)(xs:aeP->List H)(C:∀u,fw (a u) x=some (b u))(B:∀u,fw (a u) y=some (.agg (cs u)))(J:∀u,K u k (xs u) (b u))(hi:(P.info? ty).map (·.size)=some n)(m:∀u,(cs u).size=n)(L:∀u,(cs u).all (·.oneCell')=true)
  (h:dE P ops aeS F W c (E++[.st t Value.toArr]) Q rest aeP (λu=>(a u).put o.dst undef) (λu=>(K u).ins E.length (eM (a u) o) undef)):dE P ops aeS F W c E Q (o::rest) aeP a K:=by
 refine Lb T k t n Value.toArr G r hZ hF b (λu=>.agg (cs u)) xs J (λu=>?_) (λu=>m u) (λu w g d R f s=>?_) h;unfold eM;rw[A];simp[Op.operands,fo (C u),fo (B u)];refine⟨w.setRow g (cs u),?_,lU w g _ _ t _ s,⟨O,O,O,by simp[World.setRow],λj hj p _=>lT w g j _ p⟩⟩;have he:(execOp (a u).eval o).run P w=(eQ ty (b u) (.agg (cs u))).run P w:=by unfold execOp eQ;rw[A];simp[fo (C u),fo (B u)]
 have X:=zI (P:=P) (ty:=ty) (o:=0) s (by rw[hi,m u]) (by rw[m u,f];omega) (L u);rw[he,R,X];have e:(d.toList.take 0++(cs u).toList++d.toList.drop (0+(cs u).size)).toArray=cs u:=by rw[yk (by simp[m u,f])];simp
 rw[e]
def Kd(B:∀u,Region.wanted o (yielded ops (a u).tmps)=true)(k:Nat)(t:ay)(x y:aO)(G:o.op.operands.toList=[x,y])(C:rR o k=true)(r:E[k]? =some (.box t 1))(L:t∈aeS)(hF:∀j,F j->j<W.heap.size)(b v:aeP->H)(xs:aeP->List H)(A:∀u,fw (a u) x=some (b u))(s:∀u,fw (a u) y=some (v u))(R:∀u,K u k (xs u) (b u))
  (d:∀u (ρ:aO->H) w g cs,ρ x=.pointer (some (I g 0))->ρ y=v u->cs.size=1->M w g t cs->g<w.heap.size->w.cell? (I g 0)=cs[0]?->w.frozen? (I g 0)=false->(execOp ρ o).run P w=.ok .skip (w.setCell (I g 0) (v u)))
  (h:dE P ops aeS F W c (E++[.st t (λv=>#[v])]) Q rest aeP (λu=>(a u).put o.dst undef) (λu=>(K u).ins E.length (eM (a u) o) undef)):dE P ops aeS F W c E Q (o::rest) aeP a K:=by
 refine Lb B k t 1 (λv=>#[v]) C r L hF b v xs R (λu=>?_) (λu=>rfl) (λu w g f T m n=>?_) h;unfold eM;rw[G];simp[fo (A u),fo (s u)];refine⟨_,d u (a u).eval w g f ((fo (A u)).trans T) (fo (s u)) m n n.lt (n.rules.1 0) (n.rules.2 0),?_,aH.of_set _ O _⟩;have p:=n.set_ 0 (v u);have e:f.setIfInBounds 0 (v u)=#[v u]:=by
  apply Array.ext;simp[m];intro i X J;have:i=0:=by simp at J;omega
  subst this;simp
 rw[e]at p;exact p
end
section
variable{P:Program}{ops:Array Oper}{aeS:List ay}{F:Nat->Prop}{W:D}{c:Nat}{E:List fY}{Q:List fY->Act->d7->Prop}{o:Oper}{rest:List Oper}{aeP:Type}{a:aeP->Act}{K:aeP->d7}
def Af{d:List fY}{k:Nat}(b:k<E.length){xs:List H}{u:H}:fD aeS F W c (E++d) k xs u w=fD aeS F W c E k xs u w:=by unfold fD;rw[p9 b]
def mX{a:Act}{Q:Exit->Act->D->Prop}(n:Nat)(aeS:List ay)(F:Nat->Prop)(c:Nat)(hF:∀k,F k->k<w.heap.size)(hm:P.follows .mixedOrders=true)(hn:n<=l.length)
  (B:nv .any l.toArray n=true) (r:Region.lexB .any (l.take n).toArray=true) (p:mY .any l.toArray (l.drop n).length n (dM n 0 (Array.replicate l.length false))=true)
  (hE:(Region.ready .any l.toArray (dM (l.drop n).length n (dM n 0 (Array.replicate l.length false)))).isEmpty=true)
  (h:dE P (l.take n).toArray aeS F w c [] (λE s K'=>∀w',mZ F w (decide (c<(l.take n).length)) w'->(∀k xs u,K' k xs u->fD aeS F w c E k xs u w')->wpList P l.toArray Q (l.drop n) s w') (l.take n) Unit (λ_=>a) (λ_ _ _ _=>False)):(Code.region id l.toArray true).wp P Q a w:=by
 obtain⟨E,x,h⟩:=h;have h:=h ();refine qf hm ?_;simp only[Region.lexB,bZ]at r;have G:∀a w,wpList P l.toArray Q (l.drop n) a w->wpAny P .any l.toArray Q (l.drop n).length (dM n 0 (Array.replicate l.length false)) a w:=λa w b=>by
  have y:=rB (P:=P) (md:=.any) (Q:=Q) (K:=λa w=>Q .normal a w) (l.drop n).length n (dM n 0 (Array.replicate l.length false)) (l.drop n) a w 0
   (λa w A=>⟨az hE,A⟩) O (λj _=>ah) p (by rw[vV];exact b)
  exact y
 have L:=yL (P:=P) (c:=c) (C:=mZ F w) (T:=gp P (l.take n).toArray E) (R:=fD aeS F w c E) (aeO:=iJ aeS F w c E) (md:=.any) (Ad _ _ _) r.1 (l.take n) 0 (Array.replicate (l.take n).length false) a (λ_ _ _=>False) ah (az r.2) h;have J:wpAny P .any (l.take n).toArray (nB Q (λa w=>wpList P l.toArray Q (l.drop n) a w)) (l.take n).length (Array.replicate (l.take n).length false) a w.drew:=
  sU (c:=c) (C:=mZ F w) (T:=gp P (l.take n).toArray E) (R:=fD aeS F w c E) (aeO:=iJ aeS F w c E) (λ_ X=>tw X λ_=>rfl) (EM hF x)
   (λs F' w' f g b=>b w' (az f) g) _ _ _ (λ_ _ _=>False) _ ah (λj o _ d=>by rw[hU]at d;cases d) (λ_ _ _ b=>False.elim b) (by rw[hU];exact(aq _ _).drew) (λ_ _ _ b=>False.elim b) L
 have α:(l.take n).length=n:=by simp;omega
 have t:=ug (n:=n) (m:=(l.drop n).length) hn B G (l.take n).length (Array.replicate (l.take n).length false) (Array.replicate l.length false) a w.drew aQ ah
  (λi hi=>by rw[hU,hU]) (λi _=>hU _ _) (λj o _ d=>by rw[hU]at d;cases d) ah J
 have e:(l.take n).length+(l.drop n).length=l.length:=by rw[<-bW,lV]
 rw[e]at t;simpa using t
def uP(B:∀u,Region.wanted o (yielded ops (a u).tmps)=true)(t:E.length≠c){g:Type}(j:g->H)(d:g)(f:D->H->D->Prop)
  (m:∀u w,aa F W w->∃p n,(execOp (a u).eval o).run P w=.ok (.value (j p)) n/\f w (j p) n/\S w n)
  (h:dE P ops aeS F W c (E++[.cal (λu=>∃p,u=j p) ⟨j d,d,O⟩ f]) Q rest (aeP×g) (λp=>(a p.1).put o.dst (j p.2)) (λp=>(K p.1).ins E.length (eM (a p.1) o) (j p.2))):dE P ops aeS F W c E Q (o::rest) aeP a K:=by
 obtain⟨J,y,h⟩:=h.more;refine⟨_,y,λu=>oo (B u) (λb w _ _ _ k _=>?_) λx G=>?_⟩;rotate_left
 ·obtain⟨p,rfl⟩:∃p,x=j p:=by simpa only[gp,dP]using G
  exact h (u,p)
 obtain⟨r,n,C,A,s⟩:=m u w (j9 k);rw[C];refine⟨(by simp only[gp,dP];exact⟨r,O⟩),?_,by simp only[iJ,dP,al t];exact s,?_⟩
 ·rw[show(b||E.length==c)=b from by simp[t]];cases b with
  |true=>exact(j9 k).call s
  |false=>exact sH k (s.mono (Below.size k))
 simp only[fD,dP];exact⟨w,n,λe=>absurd e t,j9 k,A,fB.refl _ _ _ _⟩
def uA(X:∀u,Region.wanted o (yielded ops (a u).tmps)=true)(C:E.length=c)(k:Nat)(L:rR o k=true)(G:k<E.length){j:Type}(g:j->H)(d:j)(f:D->H->D->Prop)(t:aeP->H)(xs:aeP->List H)(R:∀u,K u k (xs u) (t u))
  (s:∀u w,S W w->fD aeS F W c E k (xs u) (t u) w->∃p n,(execOp (a u).eval o).run P w=.ok (.value (g p)) n/\f w (g p) n/\aa F w n)
  (h:dE P ops aeS F W c (E++[.cal (λu=>∃p,u=g p) ⟨g d,d,O⟩ f]) Q rest (aeP×j) (λp=>(a p.1).put o.dst (g p.2)) (λp=>(K p.1).ins E.length (eM (a p.1) o) (g p.2))):dE P ops aeS F W c E Q (o::rest) aeP a K:=by
 obtain⟨E',J,h⟩:=h.more;refine⟨_,J,λu=>oo (X u) (λb w _ B _ m hR=>?_) λx hx=>?_⟩;rotate_left
 ·obtain⟨p,rfl⟩:∃p,x=g p:=by simpa only[gp,dP]using hx
  exact h (u,p)
 have A:=B C;subst A;have m:S W w:=m;have y:=hR k _ _ (R u) (mW L);rw[Af G]at y;obtain⟨r,n,hr,T,A⟩:=s u w m y;rw[hr];refine⟨(by simp only[gp,dP];exact⟨r,O⟩),?_,by simp only[iJ,dP,av C];exact A,?_⟩
 ·rw[show(false||E.length==c)=true from by simp[C]];exact(aa.of_below m).trans A
 simp only[fD,dP];exact⟨w,n,λ_=>m,aa.of_below m,T,fB.refl _ _ _ _⟩
def Lc(B:∀u,Region.wanted o (yielded ops (a u).tmps)=true)(r:E.length≠c)(k:Nat)(d:rR o k=true)(s:k<E.length)(f:FuncId)(args:aeP->Array H)(v:H)(L:∀u,∀w,(execOp (a u).eval o).run P w=.ok (.enter f (args u)) w)
  (g:aeP->H) (xs:aeP->List H) (A:∀u,K u k (xs u) (g u)) (T:∀u w,aa F W w->fD aeS F W c E k (xs u) (g u) w->Calls P f (args u) w λe n=>e=.returned v/\S w n)
  (h:dE P ops aeS F W c (E++[.is v]) Q rest aeP (λu=>(a u).put o.dst v) K) (y:oS Q:=by exact λ_ _ _ _ G h n r C=>h n r λk xs u d=>C k xs u (G k xs u d)):dE P ops aeS F W c E Q (o::rest) aeP a K:=by
 obtain⟨X,t,h⟩:=h.more;refine⟨_,t,λu=>oo (B u) (λb w _ _ _ m R=>?_) λx J=>?_⟩
 ·have j:=R k _ _ (A u) (mW d);rw[Af s]at j;rw[L u w];apply(T u w (j9 m) j).mono;rintro e n ⟨rfl,p⟩;refine⟨_,O,by simp only[gp,dP],?_,by simp only[iJ,dP];exact p,by simp only[fD,dP]⟩;rw[show(b||E.length==c)=b from by simp[r]];cases b with
  |true=>exact(j9 m).call p
  |false=>exact sH m (p.mono (Below.size m))
 have:x=v:=by simpa only[gp,dP]using J
 subst this;exact ut (y _) _ _ _ _ _ (λk xs u d=>.inr d) (h u)
def ve(t:ay)(cs:Array H)(w:D)(u:H)(w':D):Prop:=∃g,u=bh g 1 1/\w.heap.size<=g/\M w' g t cs
end
def Bd(p:Op):List aO:=match p with
 |.call c=>match c.callee with
  |.builtin _=>c.args.toList
  |_=>c.operands.toList
 |p=>p.operands.toList
def QU(p:Op):Bd p=p.operands.toList:=by
 unfold Bd;split
 ·rename_i c;split
  ·rename_i e;simp[Op.operands,Call.operands,e]
  rfl
 rfl
def xX(o:Oper):Option (aO×aO×aO):=match Bd o.op with
 |[x]=>some (x,x,x)
 |[x,y]=>some (x,y,y)
 |[x,y,aeU]=>some (x,y,aeU)
 |_=>none
def SG(h:xX o=some (x1,x2,x3)):x1∈o.op.operands.toList/\x2∈o.op.operands.toList/\x3∈o.op.operands.toList:=by
 unfold xX at h;rw[<-QU];split at h
 all_goals first|cases h|skip
 all_goals
  rename_i e;rw[e];simp
section
variable{P:Program}{ops:Array Oper}{aeS:List ay}{F:Nat->Prop}{W:D}{c:Nat}{E:List fY}{Q:List fY->Act->d7->Prop}{o:Oper}{rest:List Oper}{aeP:Type}{a:aeP->Act}{K:aeP->d7}
def gS(y:tK o=some (x1,x2,x3)){v1 v2 v3:aeP->H}
  (h:∃v,(∀u,∀ρ:aO->H,ρ x1=v1 u->ρ x2=v2 u->ρ x3=v3 u->∀w,aa F W w->(execOp ρ o).run P w=.ok (.value v) w)/\dE P ops aeS F W c (E++[.is v]) Q rest aeP (λu=>(a u).put o.dst v) K)
  (f:∀u,Region.wanted o (yielded ops (a u).tmps)=true:=by exact λ_=>rfl)
  (p:∀u,fw (a u) x1=some (v1 u):=by exact λ_=>rfl) (n:∀u,fw (a u) x2=some (v2 u):=by exact λ_=>rfl) (r:∀u,fw (a u) x3=some (v3 u):=by exact λ_=>rfl)
  (j:oS Q:=by exact λ_ _ _ _ t h m x b=>h m x λk d u g=>b k d u (t k d u g)):dE P ops aeS F W c E Q (o::rest) aeP a K:=by
 obtain⟨v,b,h⟩:=h;exact Aa f ⟨v,λu w s=>b u (a u).eval (fo (p u)) (fo (n u)) (fo (r u)) w s,h⟩ j
def J1{p e f:Prop}(F:f)(k:e)(h:f->kN e->p:=by intro F k;(first|(refine gS rfl ?_;apply cV;intro _ ρ a b c W d;have j:=F W d;simp[execOp,go_sem,a,b,c,j,j.1.c0,j.1.c1,j.1.c2,j.1.c3,j.1.fr,j.1.lt,j.1.k1,j.1.k3,j.1.k4,j.1.k5,j.1.fk,j.1.lk,j.1.e0,j.1.e1,j.1.e14,j.1.fe,j.1.le,j.2.1,j.2.2]<;>exact rfl)|refine gz (λ_=>rfl) ?_);simp only[aD];exact k.o):p:=h F ⟨k⟩
def JY{p e f g:Prop}(F:f)(G:g)(k:e)(h:f->g->kN e->p:=by intro F G k;(first|(refine gS rfl ?_;apply cV;intro _ ρ a b c W d;have j:=F W d;simp[execOp,go_sem,a,b,c,j,j.cb,j.fr,j.lt,j.ln,j.lk,j.ct,j.fg,j.lg,G]<;>exact rfl)|refine gz (λ_=>rfl) ?_);simp only[aD];exact k.o):p:=h F G ⟨k⟩
def Ep{p e f:Prop}(F:f)(k:e)(h:f->kN e->p:=by intro F k;(first|(refine gS rfl ?_;apply cV;intro _ ρ a b c W d;have j:=F W d;simp[execOp,go_sem,a,b,c,j,j.ch,j.fr,j.lt,j.fb,j.lb,j.ww,j.wk,j.wj]<;>exact rfl)|refine gz (λ_=>rfl) ?_);simp only[aD];exact k.o):p:=h F ⟨k⟩
def lG(m:ops[E.length]? =some o)(t:xX o=some (x1,x2,x3)){v1 v2 v3:aeP->H}
  (h:∃v:aeP->H,(∀u,∀ρ:aO->H,ρ x1=v1 u->ρ x2=v2 u->ρ x3=v3 u->∀w,(execOp ρ o).run P w=.ok (.value (v u)) w)/\dE P ops aeS F W c (E++[.fn]) Q rest aeP (λu=>(a u).put o.dst (v u)) K)
  (g:∀u,Region.wanted o (yielded ops (a u).tmps)=true:=by exact λ_=>rfl)
  (y:∀u,fw (a u) x1=some (v1 u):=by exact λ_=>rfl) (s:∀u,fw (a u) x2=some (v2 u):=by exact λ_=>rfl) (B:∀u,fw (a u) x3=some (v3 u):=by exact λ_=>rfl)
  (n:oS Q:=by exact λ_ _ _ _ C h p G d=>h p G λk f u j=>d k f u (C k f u j)):dE P ops aeS F W c E Q (o::rest) aeP a K:=by
 obtain⟨v,d,h⟩:=h;obtain⟨A,r,x⟩:=SG t;exact GP g m ⟨v,λu ρ b w=>d u ρ ((wI b A).trans (fo (y u))) ((wI b r).trans (fo (s u))) ((wI b x).trans (fo (B u))) w,h⟩ n
def nI{p e f g:Prop}(F:f)(G:g)(k:e)(h:f->g->kN e->p:=by intro F G k;(first|(refine gS rfl ?_;apply cV;intro _ ρ a b c W d;have j:=F W d;simp[execOp,go_sem,a,b,c,j,G]<;>exact rfl)|refine gz (λ_=>rfl) ?_|(refine lG Y rfl ?_;apply cV;intro u ρ a b c w;simp[execOp,go_sem,a,b,c,G]<;>exact rfl));simp only[aD];exact k.o):p:=h F G ⟨k⟩
def Zc{T:D->Prop}(G:∀w,aa F W w->T w)(J:tK o=some (x1,x2,x3)){v1 v2 v3:aeP->H}
  (h:dE P ops aeS F W c (E++[.is v]) Q rest aeP (λu=>(a u).put o.dst v) K)
  (j:∀u,Region.wanted o (yielded ops (a u).tmps)=true:=by exact λ_=>rfl)
  (s:∀u,fw (a u) x1=some (v1 u):=by exact λ_=>rfl) (r:∀u,fw (a u) x2=some (v2 u):=by exact λ_=>rfl) (t:∀u,fw (a u) x3=some (v3 u):=by exact λ_=>rfl)
  (f:∀u,∀ρ:aO->H,ρ x1=v1 u->ρ x2=v2 u->ρ x3=v3 u->∀w,T w->(execOp ρ o).run P w=.ok (.value v) w:=by intro _ ρ x y d w b;simp[execOp,go_sem,x,y,d,b]<;>exact O)
  (n:oS Q:=by exact λ_ _ _ _ B h p C f=>h p C λk g u m=>f k g u (B k g u m)):dE P ops aeS F W c E Q (o::rest) aeP a K:=
 Aa j ⟨v,λu w A=>f u (a u).eval (fo (s u)) (fo (r u)) (fo (t u)) w (G w A),h⟩ n
def kU(r:xX o=some (x1,x2,x3)){v v1 v2 v3:aeP->H}
  (h:dE P ops aeS F W c (E++[.fn]) Q rest aeP (λu=>(a u).put o.dst (v u)) K) (m:ops[E.length]? =some o:=by kernel_rfl)
  (g:∀u,Region.wanted o (yielded ops (a u).tmps)=true:=by exact λ_=>rfl)
  (t:∀u,fw (a u) x1=some (v1 u):=by exact λ_=>rfl) (s:∀u,fw (a u) x2=some (v2 u):=by exact λ_=>rfl) (A:∀u,fw (a u) x3=some (v3 u):=by exact λ_=>rfl)
  (d:∀u,∀ρ:aO->H,ρ x1=v1 u->ρ x2=v2 u->ρ x3=v3 u->∀w,(execOp ρ o).run P w=.ok (.value (v u)) w:=by intro _ ρ x y b w;simp[execOp,go_sem,x,y,b]<;>exact O)
  (n:oS Q:=by exact λ_ _ _ _ B h p C d=>h p C λk f u j=>d k f u (B k f u j)):dE P ops aeS F W c E Q (o::rest) aeP a K:=
 lG m r ⟨v,d,h⟩ g t s A n
def gx{p e f:Prop}(F:f)(k:e)(h:f->kN e->p:=by intro F k;(first|refine Zc F rfl ?_|refine gz (λ_=>rfl) ?_|refine kU rfl ?_);simp only[aD];exact k.o):p:=h F ⟨k⟩
def fK{xs:List H}{u:H}{j:H->Prop}{f:∃u,j u}{b:D->H->D->Prop}(h:fD aeS F W c E i xs u w)(m:E[i]? =some (.cal j f b)):
  ∃d g,(i=c->S W d)/\aa F W d/\b d u g/\fB aeS (λk=>i≠c/\F k) W.heap.size g w:=by
 unfold fD at h;rw[m]at h;exact h
end
end
def kL(e:z):List Int:=e.o::(dO e.s++(gT e.d++(e.k::(dO e.n++(e.t::(dO e.a++(dO e.r++dO e.f)))))))
def wg(e:z):(kL e).length=91:=rfl
def fT(e:z):List Int:=if bG e=true then kL e else[]
def us(h:bG e=true):fT e=kL e:=av h
def ED(h:bG e=false):fT e=[]:=al (by simp[h])
def IX(e:z):(fT e).length<=91:=by unfold fT;split<;>simp[wg]
structure kO(e:z):Prop where
 o1:1<=e.o
 o2:e.o<=6
 s1:1<=e.s
 s2:e.s<1099511627776
 k1:1<=e.k
 k2:e.k<=7
 t1:0<=e.t
 t2:e.t<=6
 a1:0<=e.a
 a2:e.a<=1125899906842624
def iH(h:bG e=true):kO e:=by
 unfold bG at h;simp only[bZ]at h;obtain⟨g,c,b⟩:=h;have b:=(Pv e).1 (nY b);have G:(1<=e.o/\e.o<=6)/\1<=e.s/\e.s<1099511627776:=by unfold ol cY at g;simp only[bZ,eN]at g;exact⟨g.1.1.1.1,g.1.1.1.2,g.1.1.2⟩
 obtain⟨⟨E,C⟩,A,m⟩:=G;have key:(1<=e.k/\e.k<=7)/\(0<=e.t/\e.t<=6)/\0<=e.a/\e.a<=1125899906842624:=by obtain⟨o,s,d,k,n,t,a,r,f⟩:=e;unfold AX z.bare at b;unfold ib pt qV cY at c;simp only at b c E C A m⊢;by_cases x:k=1;subst x;simp at b c;omega;by_cases p:k=2;subst p;simp at b c;omega;by_cases B:k=3;subst B;simp at b c;omega;by_cases u:k=4;subst u;simp at b c;omega;by_cases y:k=5;subst y;simp at b c;omega;by_cases j:k=6;subst j;simp at b c;omega;simp[x,p,B,u,y,j]at b c;omega
 exact⟨E,C,A,m,key.1.1,key.1.2,key.2.1.1,key.2.1.2,key.2.2.1,key.2.2.2⟩
def uh(n:Int):∀c∈dO n,0<=c/\c<=255:=by intro c b;simp only[dO,dh,sL,lE]at b;rcases b with rfl|rfl|rfl|rfl|rfl|rfl|rfl|rfl<;>exact gZ _ _
def NL(h:kO e):∀c∈kL e,0<=c/\c<=255:=by intro c hc;obtain⟨r,p,n,j,b,f,g,d,k,m⟩:=h;simp only[kL,dh,bP]at hc;rcases hc with rfl|hc|hc|rfl|hc|rfl|hc|hc|hc;omega;exact uh _ c hc;exact aap _ c hc;omega;exact uh _ c hc;omega;exact uh _ c hc;exact uh _ c hc;exact uh _ c hc
def JT(e:z):∀c∈fT e,0<=c/\c<=255:=by
 intro c b;cases h:bG e with
 |true=>rw[us h]at b;exact NL (iH h) c b
 |false=>rw[ED h]at b;cases b
def vq(l:List Int):z:=
 ⟨l.getD 0 0,cy ((l.drop 1).take 8),jT ((l.drop 9).take 48),l.getD 57 0,cy ((l.drop 58).take 8),l.getD 66 0,cy ((l.drop 67).take 8),cy ((l.drop 75).take 8),cy ((l.drop 83).take 8)⟩
def QY(b:e.ok)(h:kO e):vq (kL e)=e:=by obtain⟨J,G,E,B,u,y,A,x,m,C⟩:=h;have g:((kL e).drop 1).take 8=dO e.s:=rfl;have t:((kL e).drop 9).take 48=gT e.d:=rfl;have j:((kL e).drop 58).take 8=dO e.n:=rfl;have p:((kL e).drop 67).take 8=dO e.a:=rfl;have c:((kL e).drop 75).take 8=dO e.r:=rfl;have k:((kL e).drop 83).take 8=dO e.f:=rfl;unfold vq;rw[g,t,j,p,c,k,uk _ b.s.1 b.s.2,O0 _ b.d,uk _ b.n.1 b.n.2,uk e.a m V,uk _ b.r.1 b.r.2,uk _ b.f.1 b.f.2];rfl
def w9(l:List Int):z:={vq l with a:=IntKind.i64.wrap (vq l).a}
section
variable{F:Fence}{n:Nat}{P:Program}{α:Type}
def Aj(F:Fence)(n:Nat)(P:Program)(gf:Nat)(lb:Array H)(c:α->Array H)(j:D->D->Prop)(Inv:D->Prop)(h:D->D->Prop)(f:Nat)(Ok:α->Prop)(xs:List α)(w0:D):Prop:=
 ∀(l:Nat) (J:List α->D->Prop) (W:D),(∀b A B,J b A->j A B->J b B)->(∀b A,J b A->Inv A)->
  (∀b x g,J b g->b.length<f->Ok x->YieldAt F (n-1) P l (c x) g λe d=>e=.returned (.bool true)/\J (b++[x]) d/\h g d)->
  h w0 W->J [] W->CallsIn F n P gf (#[.func (.yield l) #[] #[]]++lb) W λe d=>(∃v,e=.returned v)/\J xs d
def Gf(B:Nat)(c:D->D->Prop)(b:List α->D->Prop)(d:List α)(W:D):Exit->Act->D->Prop
 |.normal,_,W'=>KeepsFrom B W W'/\c W W'/\b d W'
 |_,_,_=>False
theorem Fn{g:aO}{ps:Array Tmp}{assign body:Code}
  (ξ:F.round=none) (h1:1<=n) {gf:Nat} {lb:Array H} (hg:a.eval g=.func (.func gf) #[] lb) (Γ:F.fn gf) (eg:∀args w,(callFunc gf args).run P w=.ok (.enter gf args) w)
  {k:α->Array H} {St:D->D->Prop} {Inv:D->Prop} {y:D->D->Prop} {κ:Nat} {Ok:α->Prop} {xs:List α} (β:Aj F (n-1) P gf lb k St Inv y κ Ok xs w)
  (θ:∀{A B C:D},y A B->y B C->y A C) (σ:y w w) (ε:∀(W:D) (o:Obj),y w W->y w (W.alloc o)) (μ:∀(W:D) (l:Nat) (o:Obj),w.heap.size<=l->y W (W.putObj l o)) (φ:∀x,(k x).size=ps.size)
  (j:List α->D->Prop) (δ:∀W o,j [] W->j [] (W.alloc o)) (υ:∀c W l o o',w.heap.size<=l->W.heap[l]? =some o->o.isCells=false->j c W->j c (W.putObj l o'))
  (ψ:∀c A B,j c A->St A B->j c B/\KeepsFrom w.heap.size A B) (η:∀c A,j c A->Inv A) (h0:j [] w) (E:α->Act)
  (m:∀(l:Nat) (x:α) (W:D) (K:Act->D->Prop),K (E x) W->
   assign.wpIn (F.inRound l) (n-1-1) P (Exit.then K (λ_ _ _=>False)) {tmps:=(ps.zip (k x)).foldl (λt (p,v)=>t.setIfInBounds p v) a.tmps,defers:=[]} W)
  (T:∀(l:Nat) (c:List α) (x:α) (W:D),j c W->c.length<κ->Ok x->body.wpIn (F.inRound l) (n-1-1) P (Gf w.heap.size y j (c++[x]) W) (E x) W)
  (J:∀(L:Nat) (W:D),w.heap.size<=L->j xs W->W.heap[L]? =some (.deferred (some []))->Q .normal {a with defers:={target:=.collected L,args:=#[]}::a.defers} W):
  (Code.rangeFunc g ps assign body).wpIn F n P Q a w:=by
 refine wpIn_rangeFunc λfn χ=>?_;rw[ξ];generalize hb:w.heap.size=b at*;obtain⟨f,d⟩:∃f:LoopState->Option Code->Loop,f=λst pe=>{state:=st,pending:=pe,fn,tmps:=a.tmps,params:=ps,assign,body,defers:=b}:=⟨_,O⟩;have ν:((w.alloc (.deferred (some []))).alloc (.loop (f .ready none))).heap[b+1]? =some (.loop (f .ready none)):=by have:=yf (w.alloc (.deferred (some []))) (.loop (f .ready none));rwa[oX,hb]at this
 have ω:((w.alloc (.deferred (some []))).alloc (.loop (f .ready none))).heap[b]? =some (.deferred (some [])):=
  (oW _ _ _ (by simp[hb])).trans (by have:=yf w (.deferred (some []));rwa[hb]at this)
 have γ:(Instr.enterLoop fn a.tmps ps assign body none).run P w=.ok (b+1,[{target:=.collected b,args:=#[]}]) ((w.alloc (.deferred (some []))).alloc (.loop (f .ready none))):=by rw[d,<-hb];exact run_enterLoop_outer _ _ _ _ _
 refine⟨b+1,[{target:=.collected b,args:=#[]}],_,{target:=.fn (.func gf) lb,args:=#[.func (.yield (b+1)) #[] #[]]},(w.alloc (.deferred (some []))).alloc (.loop (f .ready none)),gf,#[.func (.yield (b+1)) #[] #[]]++lb,(w.alloc (.deferred (some []))).alloc (.loop (f .ready none)),γ,?_,?_,?_,λ_=>h1,?_⟩
 ·simp only[resolve,hg];simp[go_sem]
 intro f' ζ;simp[Target.leads]at ζ;subst ζ;exact Γ
 ·simp[invoke,go_sem,eg]
 have u:∀(c:List α) (W:D) (r r':Loop),W.heap[b+1]? =some (.loop r)->W.heap[b]? =some (.deferred (some []))->j c W->
   j c (W.putObj (b+1) (.loop r'))/\(W.putObj (b+1) (.loop r')).heap[b+1]? =some (.loop r')/\(W.putObj (b+1) (.loop r')).heap[b]? =some (.deferred (some [])):=λc W r r' s G R=>
  ⟨υ c W _ _ _ V s O R,World.putObj_heap_same (fI.1 s).1,(rh V).trans G⟩
 refine(β (b+1) (λc W=>j c W/\W.heap[b+1]? =some (.loop (f .ready none))/\W.heap[b]? =some (.deferred (some []))) _
  (λc A B ⟨R,s,G⟩ hs=>?_) (λc A h=>η c A h.1) ?_ (ε _ _ (ε _ _ σ)) ⟨δ _ _ (δ _ _ h0),ν,ω⟩).mono ?_
 obtain⟨h2,h3⟩:=ψ c A B R hs;exact⟨h2,h3.same _ _ V s O,h3.same _ _ (ao _) G O⟩
 ·rintro c x W ⟨R,s,G⟩ ι π;have hy:=run_yield (P:=P) (args:=k x) s (by rw[d];exact φ x);rw[d]at hy;refine⟨fn,_,assign,body,hy,roundIn_of_wpIn χ (m _ x W _ ⟨_,run_beginRound s (by rw[d]),?_⟩)⟩;obtain⟨i2,l2,d2⟩:=u c W _ {f .ready none with state:=.busy} s G R;refine wpIn_mono (T _ c x _ i2 ι π) ?_;rintro e a3 W3 X;cases e with
  |normal=>obtain⟨k3,τ,i3⟩:=X;have l3:=k3.same _ _ V l2 O;have d3:=k3.same _ _ (ao _) d2 O;obtain⟨i4,l4,d4⟩:=u (c++[x]) W3 _ (f .ready none) l3 d3 i3;refine⟨_,_,run_endRound none l3,O,⟨?_,?_,?_⟩,?_⟩;rw[d]at i4⊢;exact i4;rw[d]at l4⊢;exact l4;rw[d]at d4⊢;exact d4;exact θ (θ (μ _ _ _ V) τ) (μ _ _ _ V)
  |ret=>exact X.elim
  |exit id=>exact X.elim
  |goto t=>exact X.elim
  |panic ch=>exact X.elim
  |outgrown=>exact X.elim
 rintro e W2 ⟨⟨v,rfl⟩,R,s,G⟩;have h2:=run_endLoop (P:=P) s (by rw[d];simp);obtain⟨i4,l4,d4⟩:=u xs W2 _ {f .ready none with state:=.exhausted} s G R;have h3:(Instr.endLoop (b+1)).run P W2=.ok none (W2.putObj (b+1) (.loop {f .ready none with state:=.exhausted})):=by rw[h2];rw[d]
 exact⟨none,_,h3,J _ _ (ao _) i4 d4⟩
end
section
open Go.BigFrame
def EE(b:Array Oper):Bool:=b.all λo=>match o.op with
 |.defer _=>false
 |_=>true
section
variable{P:Program}
section
variable{ops:Array Oper}{md:Region.Mode}{Q:Exit->Act->D->Prop}{l n:Nat}
def ZL{b:String}{args:Array H}{R:H->D->Prop}(h:Rows P b args w R):Go.RowsIn (Fence.wide.inRound l) n P b args w R:=
 λc d _=>let⟨v,w',r,s⟩:=h c d;⟨v,w',r,stepsIn_wide.2 s⟩
def Je{f:FuncId}{args:Array H}{R:Ending->D->Prop}(h:Calls P f args w R):CallsIn (Fence.wide.inRound l) n P f args w R:=(j4.2 h).inRound l
def Mf(b:∀c,o.op≠ .defer c){K:Act->D->Prop}(h:o.wp P a w K Q):o.wpIn (Fence.wide.inRound l) n P a w K Q:=by
 refine⟨λ_ _=>trivial,?_⟩;rw[Oper.semAt_eq _ _ _ b];unfold Oper.wp at h;generalize (execOp a.eval o).run P w=r at h⊢;cases r with
 |ok x w'=>
  cases x<;>simp only[Oper.upon,Oper.uponIn]at h⊢<;>
   first
    |exact h
    |exact⟨λh=>(aK h),Je h⟩
    |exact⟨λh=>(aK h),ZL h⟩
 |halt x w'=>cases x<;>simp only[Oper.upon,Oper.uponIn]at h⊢<;>exact h
def yB(f:EE ops=true)(j:∀a w,¬Q .outgrown a w):∀(fuel:Nat) (b:Array Bool) (a:Act) (w:D),wpAny P md ops Q fuel b a w->wpAnyIn (Fence.wide.inRound l) n P md ops Q fuel b a w
 |0,_,_,_,h=>h
 |fuel+1,b,a,w,h=>by
  refine⟨h.1,λi u=>?_⟩;have d:=h.2 i u;unfold wpOp at d;unfold wpOpIn;split
  ·rename_i g;simp only[g]at d;exact yB f j fuel _ _ _ d
  rename_i o g;simp only[g]at d;have m:∀c,o.op≠ .defer c:=λc e=>by have:=(nU.1 f) o (Array.mem_of_getElem? g);rw[e]at this;cases this
  split
  ·rename_i k;simp only[k,gR]at d;rcases d with d|⟨_,t,p,r⟩;exact Oper.wpIn_mono (λa w s=>yB f j fuel _ _ _ s) (Mf m d);exact absurd r (j t p)
  rename_i k;simp only[k]at d;exact⟨λ_ _=>trivial,yB f j fuel _ _ _ (az d)⟩
end
def Zg{J L:Nat}(n:Nat)(E:List iB)(hm:P.follows .mixedOrders=true)(hn:n<=l.length)
  (A:nv .any l.toArray n=true)
  (g:Region.lexB .any (l.take n).toArray=true) (hF:mY .any l.toArray (l.drop n).length n (dM n 0 (Array.replicate l.length false))=true)
  (X:(Region.ready .any l.toArray (dM (l.drop n).length n (dM n 0 (Array.replicate l.length false)))).isEmpty=true)
  (s:EE l.toArray=true) (x:∀a w,¬Q .outgrown a w)
  (h:iE P (l.take n).toArray w E (λc b=>∀w',S w w'->(∀k u,b k u->jW E k u w')->wpList P l.toArray Q (l.drop n) c w') 0 (l.take n) a (λ_ _=>False)):(Code.region id l.toArray true).wpIn (Fence.wide.inRound J) L P Q a w:=by
 refine wpIn_region_any hm (yB s x _ _ _ _ ?_);show wpAny P .any l.toArray Q l.toArray.size (Array.replicate l.toArray.size false) a w.drew;simp only[Region.lexB,bZ]at g;have B:∀a w,wpList P l.toArray Q (l.drop n) a w->wpAny P .any l.toArray Q (l.drop n).length (dM n 0 (Array.replicate l.length false)) a w:=λa w d=>by
  have t:=rB (P:=P) (md:=.any) (Q:=Q) (K:=λa w=>Q .normal a w) (l.drop n).length n (dM n 0 (Array.replicate l.length false)) (l.drop n) a w 0
   (λa w y=>⟨az X,y⟩) O (λj _=>ah) hF (by rw[vV];exact d)
  exact t
 have W:=wd (P:=P) (C:=λw'=>S w w') (T:=mu E) (R:=jW E) (md:=.any) (Q:=λc b=>∀w',S w w'->(∀k u,b k u->jW E k u w')->wpList P l.toArray Q (l.drop n) c w') g.1 (l.take n) 0 (Array.replicate (l.take n).length false) a (λ_ _=>False) ah (az g.2) h;have G:wpAny P .any (l.take n).toArray (nB Q (λa w=>wpList P l.toArray Q (l.drop n) a w)) (l.take n).length (Array.replicate (l.take n).length false) a w.drew:=
  rx (T:=mu E) (Q:=λc b=>∀w',S w w'->(∀k u,b k u->jW E k u w')->wpList P l.toArray Q (l.drop n) c w') yV (λ_ F w' f hF d=>d w' f hF) _ _ _ (λ_ _=>False) _ (aq _ _).drew (λ_ _ d=>False.elim d) W
 have α:(l.take n).length=n:=by simp;omega
 have p:=ug (n:=n) (m:=(l.drop n).length) hn A B (l.take n).length (Array.replicate (l.take n).length false) (Array.replicate l.length false) a w.drew aQ ah
  (λi hi=>by rw[hU,hU]) (λi _=>hU _ _) (λj o _ r=>by rw[hU]at r;cases r) ah G
 have e:(l.take n).length+(l.drop n).length=l.length:=by rw[<-bW,lV]
 rw[e]at p;simpa using p
def aal{m r:Nat}(n:Nat)(d:P.follows .mixedOrders=true)(t:n<=l.length)
  (j:nv .any l.toArray n=true)
  (p:Region.lexB .any (l.take n).toArray=true) (hF:mY .any l.toArray (l.drop n).length n (dM n 0 (Array.replicate l.length false))=true)
  (c:(Region.ready .any l.toArray (dM (l.drop n).length n (dM n 0 (Array.replicate l.length false)))).isEmpty=true)
  (b:EE l.toArray=true) (s:∀a w,¬Q .outgrown a w)
  (h:jO P (l.take n).toArray w [] (λE g f=>∀w',S w w'->(∀k u,f k u->jW E k u w')->wpList P l.toArray Q (l.drop n) g w') (l.take n) Unit (λ_=>a) (λ_ _ _=>False)):(Code.region id l.toArray true).wpIn (Fence.wide.inRound m) r P Q a w:=by
 obtain⟨E,h⟩:=h;exact Zg n E d t j p hF c b s (h ())
end
end
section
variable{P:Program}{fn:Func}{R:Ending->D->Prop}{a:Act}{w:D}{s u:Nat}{ty t:ay}{g:Nat}{cs:Array H}{d:TypeDesc}
def eI(h:fn.results=#[.cell s ty])(f:a.tmps.getD s undef=.pointer (some (I g 0)))(m:M w g t cs)(k:P.underlying ty=some d)(c:(match d with|.struct _|.array _ _=>true|_=>false)=true)
  (n:(P.info? ty).map (·.size)=some cs.size) (b:a.defers=[]) (j:R (.returned (.agg cs)) w):bodyPost P fn R .ret a w:=
 eu (results_cell_row h a.tmps w g t cs _ d f m k c n) b j
def kA(h:fn.results=#[.cell s ty,.tmp u])(f:a.tmps.getD s undef=.pointer (some (I g 0)))(j:a.tmps.getD u undef=v)(n:M w g t cs)(m:P.underlying ty=some d)(c:(match d with|.struct _|.array _ _=>true|_=>false)=true)
  (p:(P.info? ty).map (·.size)=some cs.size) (b:a.defers=[]) (k:R (.returned (.tuple #[.agg cs,v])) w):bodyPost P fn R .ret a w:=by
 refine eu (v:=.tuple #[.agg cs,v]) ?_ b k;rw[results_cell_tmp h,f,j];simp[asAddr,run_loadVar_row w g t ty cs _ d n m c p]
end
