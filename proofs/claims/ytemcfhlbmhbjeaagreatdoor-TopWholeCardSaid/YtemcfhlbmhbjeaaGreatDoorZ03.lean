import GoSem.Claim
import GoSem.ClaimJoined
import Derived.Deep.Slices
import Derived.Test.YtemcfhlbmhbjeaaGreatDoorZ02
set_option maxRecDepth 100000
set_option maxHeartbeats 0
set_option linter.all false
namespace Go.Proofs.YtemcfhlbmhbjeaaGreatDoor
open Go.Proofs.Tryz
variable{w:D}{o s n:Int}{e:z}{L:List z}{cs:List H}{fuel:Nat}{t:ay}{P:Program}{es:Array MapEntry}
open Go Go.RowKit
section
open Go.ChangeShapes Go.WideShapes Go.ChangeAt
def OW:ownKnob prog.godebug=none:=Y
def vT:laidOutB prog=true:=Y
def DC:prog.cellsOf 31=1:=Y
section
variable{aeJ:Type}{enc:ay×H->aeJ}
def I8(m:laidOutB P=true){W u:D}{l:Nat->Bool}(r:S W u):∀(g:List ay) (f:List H) (i:List (DataW aeJ)) (b:List MemPlace),
  g.all (λt=>P.readableRec t&&decide (t<P.types.size))=true->DataW.TrodAll enc P W 0 (λ_=>true) true g f i b->(∀p∈b,p.block<W.heap.size)->(∀p∈b,l p.block=true)->
  DataW.TrodAll enc P u 0 l true g f i b
 |[],f,i,b,_,h,_,_=>by cases f<;>cases i<;>simp_all [DataW.TrodAll]
 |t::g,f,i,b,hts,h,hlt,hsp=>by
  obtain⟨v,k,d,j,p,c,rfl,rfl,rfl,A,y⟩:=trodAll_cons h;simp only[List.all_cons,bZ,eN]at hts;exact⟨p,c,WideElems.Trod_stays m hts.1.1 hts.1.2 A (λx a=>r.same (hlt x (ik _ a))) (λx a=>hsp x (ik _ a)),
   I8 m r g k j c hts.2 y (λx a=>hlt x (mL _ a)) (λx a=>hsp x (mL _ a)),O⟩
def Pw{f:Func}{s:ChangeSpec}{W y:D}{args:Array H}{c i:List (DataW aeJ)}{a:List MemPlace}
  (k:DataW.Whole enc prog f.params.toList s.vars false W args.toList c i a) (r:S W y) (u:s.vars=[])
  (l:f.params.toList.all (λt=>prog.readableRec t&&decide (t<prog.types.size))=true) (m:f.resultTypes=#[4])
  (C:(s.fn aeJ (c++i)).results=[.lit (.bool true)]) (A:(s.fn aeJ (c++i)).args=c) (G:(s.fn aeJ (c++i)).vars=[]):
  s.post enc prog f false true false false W args (.bool true) y:=by
 have g:∀p∈a,p.block<W.heap.size:=λp F=>k.lt p F;have j:=k;obtain⟨p,b,E,v,rfl,_,_⟩:=j;rw[u]at v;obtain⟨J,B⟩:=trodVars_none v;refine⟨c,i,p++b,[],p,b,k,?_,?_,?_,World.keptBut_mono (λx d=>⟨d,?_⟩) (r.frame (·∈p++b)),λh=>aK h⟩;rw[C,m];exact trodAll_mk1 (shut_bool underlying4 true);rw[A];exact I8 vT r _ _ _ _ l E (λx d=>g x (ik _ d)) (λx d=>az (g x (ik _ d)));rw[G,u,B];rfl;exact jk (az d)
def EU(h:(Lit.int .u64 n).wf=true):0<=n/\n<=18446744073709551615:=by simpa[Lit.wf,IntKind.min,IntKind.max,IntKind.signed,IntKind.bits]using h
def rL(h:(Lit.int .i64 n).wf=true):-9223372036854775808<=n/\n<=9223372036854775807:=by simpa[Lit.wf,IntKind.min,IntKind.max,IntKind.signed,IntKind.bits]using h
def uU(h:(Lit.int .u8 n).wf=true):0<=n/\n<=255:=by simpa[Lit.wf,IntKind.min,IntKind.max,IntKind.signed,IntKind.bits]using h
def wJ{α:Type}{P:Nat->α->Prop}:∀n:Nat,(∀i,i<n->∃u,P i u)->∃L:List α,L.length=n/\∀i u,L[i]? =some u->P i u
 |0,_=>⟨[],O,λi u h=>by simp at h⟩
 |n+1,h=>by obtain⟨L,b,d⟩:=wJ n λi f=>h i V;obtain⟨u,c⟩:=h n V;refine⟨L++[u],by simp[b],λi x a=>?_⟩;by_cases f:i<n;rw[p9 V]at a;exact d i x a;by_cases g:i=n;subst g;rw[pZ V,b,Nat.sub_self]at a;simp at a;subst a;exact c;rw[tQ aQ]at a;cases a
def zg(a:Addr)(n:Nat)(b:a.spot=none):a.add n=(I a.block (a.off+n)):=by
 unfold Addr.add;split
 ·rename_i h;subst h;cases a;simp_all
 cases a;simp_all
def NR{e:ay}{s:Nat}{r:Reach}{b0:Nat}{v:H}{d:DataW aeJ}{p:List MemPlace}(ht:P.underlying t=some (.slice e))(hs:P.cellsOf e=s)(B:0<s)
  (C:Value.okWide P w r b0 t v) (h:DataW.Trod enc P w 0 (λ_=>true) true t v d p):
  ∃(A:Option Addr) (c cap:Nat) (F:Nat->List H),v=.slice A c cap/\c<=cap/\cap<=maxLen/\
   (0<c->∃b o,A=some (I b o)/\b<w.heap.size/\∀i,i<c->∀j,j<s->w.cell? (I b (o+i*s+j))=(F i)[j]?)/\
   ∀i,i<c->(F i).length=s/\∃n x,DataW.trod enc P w 0 (λ_=>true) true n e (F i)=some x:=by
 obtain⟨A,c,cap,rfl⟩:=okWide_slice ht C;obtain⟨fuel,hf⟩:=h;rcases Deep.open_slice ht hf with⟨k,_⟩|⟨a,β,α,m,n,δ,Pl,k,_,hl,hm,y,_,J⟩;simp[Value.cells]at k;obtain⟨rfl,rfl,rfl⟩:=k;exact⟨_,_,_,λ_=>[],O,ao _,ai,λh=>absurd h V,λi J=>absurd J V⟩;simp[Value.cells]at k;obtain⟨rfl,rfl,rfl⟩:=k;simp only[gR]at y;subst y;rw[hs]at J;have Q:∀i,i<c->∃g:List H,(g.length=s/\∀j,j<s->w.cell? ((a.add (i*s)).add j)=g[j]?)/\∃n x,DataW.trod enc P w 0 (λ_=>true) true n e g=some x:=λi f=>by obtain⟨g,hc,T⟩:=J i V;obtain⟨_,X,K⟩:=World.cells?_some hc;exact⟨g,⟨X,K⟩,_,_,T⟩
 obtain⟨G,γ,R⟩:=wJ c Q;have hF:∀i,i<c->((G.getD i []).length=s/\∀j,j<s->w.cell? ((a.add (i*s)).add j)=(G.getD i [])[j]?)/\∃n x,DataW.trod enc P w 0 (λ_=>true) true n e (G.getD i [])=some x:=λi f=>by have:=R i (G[i]' V) (bY V);rw[sB,bY V];exact this
 refine⟨some a,c,_,λi=>G.getD i [],O,hl,hm,λu=>?_,λi f=>⟨(hF i f).1.1,(hF i f).2⟩⟩;have l:=(hF 0 u).1.2 0 B;rw[nV]at l;have hz:(a.add 0).add 0=a:=by simp[Addr.add]
 rw[hz,bY (by rw[(hF 0 u).1.1];exact B)]at l;have W:a.spot=none:=by
  unfold World.cell? at l;split at l
  ·split at l
   ·cases l
   rename_i h;simpa using h
  cases l
 have E:a.block<w.heap.size:=vD w a l;refine⟨a.block,a.off,by cases a;simp_all,E,λi f j hj=>?_⟩;have:=(hF i f).1.2 j hj;rw[zg a _ W,zg _ _ rfl]at this;exact this
def uz:prog.cellsOf 5=1:=Y
end
def sZ:prog.cellsOf 3=1:=Y
def MA:prog.cellsOf 2=1:=Y
section
variable{aeJ:Type}{enc:ay×H->aeJ}
def KG{α:Type}{c:α->Array H}{sz:Nat}{e:ay}{ok:α->Prop}(g:prog.underlying t=some (.slice e))(J:prog.cellsOf e=sz)(T:0<sz)(Q:∀x,(c x).size=sz)
  {r:Reach} {b0:Nat}  {v:H} {d:DataW aeJ} {p:List MemPlace} (E:∀(n:Nat) (cs:List H) (x:DataW aeJ×List MemPlace),DataW.trod enc prog w 0 (λ_=>true) true n e cs=some x->∃l:α,cs=(c l).toList/\ok l)
  (k:Value.okWide prog w r b0 t v) (h:DataW.Trod enc prog w 0 (λ_=>true) true t v d p):
  ∃(A:Option Addr) (cap:Nat) (L:List α),v=.slice A L.length cap/\RowsIn w sz c A L cap/\∀u∈L,ok u:=by
 obtain⟨A,K,cap,F,rfl,hl,hm,C,hF⟩:=NR g J T k h;obtain⟨L,rfl,X⟩:=wJ (P:=λi (u:α)=>F i=(c u).toList/\ok u) K λi G=>by obtain⟨_,n,x,hx⟩:=hF i G;exact E n _ x hx
 refine⟨A,cap,L,O,⟨⟨lF Q L,λB=>?_⟩,hl,hm⟩,λu g=>?_⟩
 ·obtain⟨b,o,hA,y,f⟩:=C B;refine⟨b,o,hA,y,λj u g=>?_⟩;have hj:j<L.length*sz:=by have:=(fN.1 g).1;rwa[lF Q]at this
  have a:j/sz<L.length:=Nat.div_lt_of_lt_mul (by rw[ro];exact hj);have m:j%sz<sz:=Nat.mod_lt _ T;obtain⟨e,he⟩:∃e,L[j/sz]? =some e:=⟨L[j/sz]'a,bY a⟩;have W:=f (j/sz) a (j%sz) m;have R:=uy Q he m;rw[show j/sz*sz+j%sz=j from by rw[ro];exact vK j sz,g]at R;rw[show o+j/sz*sz+j%sz=o+j from by rw[gQ,ro (j/sz),vK j sz],(X _ e he).1,i5,<-R]at W;exact W
 obtain⟨i,G⟩:=List.getElem?_of_mem g;exact(X i u G).2
def Mg{e:ay}{s:Nat}{x:DataW aeJ×List MemPlace}(W:P.underlying t=some (.slice e))(hs:P.cellsOf e=s)(u:0<s)
  (hf:DataW.trod enc P w 0 (λ_=>true) true fuel t cs=some x):
  ∃(A:Option Addr) (g cap:Nat) (F:Nat->List H),cs=[.slice A g cap]/\g<=cap/\cap<=maxLen/\
   (0<g->∃b o,A=some (I b o)/\b<w.heap.size/\∀i,i<g->∀j,j<s->w.cell? (I b (o+i*s+j))=(F i)[j]?)/\
   ∀i,i<g->(F i).length=s/\∃n x,DataW.trod enc P w 0 (λ_=>true) true n e (F i)=some x:=by
 rcases Deep.open_slice W hf with⟨p,_⟩|⟨a,c,R,m,n,α,Pl,p,_,hl,hm,r,_,B⟩;exact⟨_,_,_,λ_=>[],p,ao _,ai,λh=>absurd h V,λi B=>absurd B V⟩;simp only[gR]at r;subst r;rw[hs]at B;have E:∀i,i<c->∃f:List H,(f.length=s/\∀j,j<s->w.cell? ((a.add (i*s)).add j)=f[j]?)/\∃n x,DataW.trod enc P w 0 (λ_=>true) true n e f=some x:=λi d=>by obtain⟨f,hc,J⟩:=B i V;obtain⟨_,Q,C⟩:=World.cells?_some hc;exact⟨f,⟨Q,C⟩,_,_,J⟩
 obtain⟨y,T,G⟩:=wJ c E;have hF:∀i,i<c->((y.getD i []).length=s/\∀j,j<s->w.cell? ((a.add (i*s)).add j)=(y.getD i [])[j]?)/\∃n x,DataW.trod enc P w 0 (λ_=>true) true n e (y.getD i [])=some x:=λi d=>by have:=G i (y[i]' V) (bY V);rw[sB,bY V];exact this
 refine⟨some a,c,_,λi=>y.getD i [],p,hl,hm,λl=>?_,λi d=>⟨(hF i d).1.1,(hF i d).2⟩⟩;have k:=(hF 0 l).1.2 0 u;rw[nV]at k;have X:(a.add 0).add 0=a:=by simp[Addr.add]
 rw[X,bY (by rw[(hF 0 l).1.1];exact u)]at k;have K:a.spot=none:=by
  unfold World.cell? at k;split at k
  ·split at k
   ·cases k
   rename_i h;simpa using h
  cases k
 have v:a.block<w.heap.size:=vD w a k;refine⟨a.block,a.off,by cases a;simp_all,v,λi d j hj=>?_⟩;have:=(hF i d).1.2 j hj;rw[zg a _ K,zg _ _ rfl]at this;exact this
def Mi{α:Type}{c:α->Array H}{sz:Nat}{e:ay}{ok:α->Prop}(f:prog.underlying t=some (.slice e))(B:prog.cellsOf e=sz)(J:0<sz)(E:∀x,(c x).size=sz)
     {y:DataW aeJ×List MemPlace} (r:∀(n:Nat) (cs:List H) (x:DataW aeJ×List MemPlace),DataW.trod enc prog w 0 (λ_=>true) true n e cs=some x->∃g:α,cs=(c g).toList/\ok g)
  (h:DataW.trod enc prog w 0 (λ_=>true) true fuel t cs=some y):
  ∃(A:Option Addr) (cap:Nat) (L:List α),cs=[.slice A L.length cap]/\RowsIn w sz c A L cap/\∀u∈L,ok u:=by
 obtain⟨A,C,cap,F,rfl,W,hm,p,hF⟩:=Mg f B J h;obtain⟨L,rfl,Q⟩:=wJ (P:=λi (u:α)=>F i=(c u).toList/\ok u) C λi v=>by obtain⟨_,n,x,X⟩:=hF i v;exact r n _ x X
 refine⟨A,cap,L,O,⟨⟨lF E L,λm=>?_⟩,W,hm⟩,λu f=>?_⟩
 ·obtain⟨b,o,T,l,d⟩:=p m;refine⟨b,o,T,l,λj u f=>?_⟩;have hj:j<L.length*sz:=by have:=(fN.1 f).1;rwa[lF E]at this
  have a:j/sz<L.length:=Nat.div_lt_of_lt_mul (by rw[ro];exact hj);have k:j%sz<sz:=Nat.mod_lt _ J;obtain⟨e,R⟩:∃e,L[j/sz]? =some e:=⟨L[j/sz]'a,bY a⟩;have K:=d (j/sz) a (j%sz) k;have G:=uy E R k;rw[show j/sz*sz+j%sz=j from by rw[ro];exact vK j sz,f]at G;rw[show o+j/sz*sz+j%sz=o+j from by rw[gQ,ro (j/sz),vK j sz],(Q _ e R).1,i5,<-G]at K;exact K
 obtain⟨i,v⟩:=List.getElem?_of_mem f;exact(Q i u v).2
end
end
def nD(x:Int):Array H:=#[Z x]
def vX(x:Int):(nD x).size=1:=rfl
structure tN where
 k:Int
 n:Int
 t:Int
 a:Int
 r:Int
 f:Int
def If(x:tN):Array H:=#[.int .u8 x.k,q x.n,Z x.t,Z x.a,q x.r,q x.f]
@[reducible] def fG(x:Int):Prop:=-9223372036854775808<=x/\x<=9223372036854775807
@[reducible] def mA(x:Int):Prop:=0<=x/\x<=18446744073709551615
@[reducible] def j2(x:Int):Prop:=0<=x/\x<=255
structure tN.ok(x:tN):Prop where
 k:j2 x.k
 n:mA x.n
 t:fG x.t
 a:fG x.a
 r:mA x.r
 f:mA x.f
structure bD where
 d:Int
 w:Int
 a:tN
 k:Int
 j:Int
 n:Int
 pa:Option Addr
 pc:Nat
 pk:List Int
def aX(x:bD):Array H:=#[.int .u8 x.d,Z x.w,.int .u8 x.a.k,q x.a.n,Z x.a.t,Z x.a.a,q x.a.r,q x.a.f,Z x.k,Z x.j,Z x.n,.slice x.pa x.pk.length x.pc]
def vZ(x:bD):(aX x).size=12:=rfl
structure bD.ok(x:bD):Prop where
 d:j2 x.d
 w:fG x.w
 a:x.a.ok
 k:fG x.k
 j:fG x.j
 n:fG x.n
 pk:∀u∈x.pk,fG u
def bD.At(x:bD)(w:D):Prop:=RowsIn w 1 nD x.pa x.pk x.pc
def bD.At.call{x:bD}{w':D}(h:x.At w)(a:S w w'):x.At w':=RowsIn.call h a
structure j1 where
 s:bD
 near:Bool
 nd:Int
 calm:Bool
 cn:Int
def AQ:List H:=[.nilFunc,.func (.func 333) #[] #[],.func (.func 334) #[] #[],.func (.func 335) #[] #[],.func (.func 336) #[] #[],
 .func (.func 337) #[] #[],.func (.func 338) #[] #[],.func (.func 339) #[] #[]]
def oI:List H:=[.nilFunc,.bool false,.func (.func 207) #[] #[],.bool false,.func (.func 208) #[] #[],.bool false,.func (.func 209) #[] #[],.bool true,
 .func (.func 210) #[] #[],.bool true,.func (.func 211) #[] #[],.bool true,.func (.func 212) #[] #[],.bool true,.func (.func 213) #[] #[],.bool false,
 .func (.func 214) #[] #[],.bool true,.func (.func 215) #[] #[],.bool false,.func (.func 216) #[] #[],.bool false,.func (.func 217) #[] #[],.bool false,
 .func (.func 218) #[] #[],.bool false]
structure dr(w:D):Prop where
 k:∀i u,AQ[i]? =some u->w.cell? (I 2 i)=some u
 d:∀i u,oI[i]? =some u->w.cell? (I 1 i)=some u
def dr.lt(h:dr w):2<w.heap.size/\1<w.heap.size:=
 ⟨vD w _ (h.k 0 _ O),vD w _ (h.d 0 _ O)⟩
def dr.call{w':D}(h:dr w){B:Nat}(b:Below B w w')(c:2<B)(f:1<B):dr w':=
 ⟨λi u a=>(b.cell (p:=(I _ i)) c).trans (h.k i u a),λi u a=>(b.cell (p:=(I _ i)) f).trans (h.d i u a)⟩
section
open Go.ChangeShapes Go.WideShapes Go.ChangeAt
def Dp:prog.cellsOf 4=1:=Y
def Mz:prog.cellsOf 56=1:=Y
def Ko:prog.cellsOf 55=6:=Y
def yW:prog.cellsOf 58=12:=Y
def JL:prog.cellsOf 60=14:=Y
def QK:prog.cellsOf 306=1:=Y
def LF:prog.cellsOf 131=1:=Y
def QH:prog.cellsOf 307=8:=Y
def QI:prog.cellsOf 134=26:=Y
def QL:prog.cellsOf 133=2:=Y
section
variable{aeJ:Type}{enc:ay×H->aeJ}
def Ol{x:DataW aeJ×List MemPlace}
  (h:DataW.trod enc prog w 0 (λ_=>true) true fuel 55 cs=some x):∃c:tN,cs=(If c).toList/\c.ok:=by
 obtain⟨Q,m,_,_,i,b,a⟩:=vC underlying55 h;rw[Ko]at i
 match Q,b,cs,i with
 |[y0,y1,y2,y3,y4,y5],_,[c0,c1,c2,c3,c4,c5],_=>
  have J:DataW.trod enc prog w 0 (λ_=>true) true m 5 [c0]=some y0:=by have:=a 0 _ O;simpa[uz]using this
  obtain⟨G,d,_,R⟩:=ky underlying5 J;have K:DataW.trod enc prog w 0 (λ_=>true) true m 31 [c1]=some y1:=by have:=a 1 _ O;simpa[DC]using this
  obtain⟨T,j,_,v⟩:=ky underlying31 K;have r:DataW.trod enc prog w 0 (λ_=>true) true m 3 [c2]=some y2:=by have:=a 2 _ O;simpa[sZ]using this
  obtain⟨X,g,_,W⟩:=ky underlying3 r;have u:DataW.trod enc prog w 0 (λ_=>true) true m 2 [c3]=some y3:=by have:=a 3 _ O;simpa[MA]using this
  obtain⟨C,k,_,A⟩:=ky underlying2 u;have B:DataW.trod enc prog w 0 (λ_=>true) true m 31 [c4]=some y4:=by have:=a 4 _ O;simpa[DC]using this
  obtain⟨E,l,_,p⟩:=ky underlying31 B;have t5:DataW.trod enc prog w 0 (λ_=>true) true m 31 [c5]=some y5:=by have:=a 5 _ O;simpa[DC]using this
  obtain⟨y,f,_,F⟩:=ky underlying31 t5;simp only[vM,qj]at d j g k l f;subst d j g k l f;exact⟨⟨G,T,X,C,E,y⟩,O,⟨uU R,EU v,rL W,rL A,EU p,EU F⟩⟩
def Mh{x:DataW aeJ×List MemPlace}(h:DataW.trod enc prog w 0 (λ_=>true) true fuel 56 cs=some x):
  ∃(A:Option Addr) (cap:Nat) (L:List Int),cs=[.slice A L.length cap]/\RowsIn w 1 nD A L cap/\∀u∈L,fG u:=
 Mi underlying56 sZ V vX (λn cs x c=>by obtain⟨k,a,_,b⟩:=ky underlying3 c;exact⟨k,a,rL b⟩) h
def Oh{x:DataW aeJ×List MemPlace}
  (h:DataW.trod enc prog w 0 (λ_=>true) true fuel 58 cs=some x):∃c:bD,cs=(aX c).toList/\c.ok/\c.At w:=by
 obtain⟨xs,m,_,_,p,d,b⟩:=vC underlying58 h;rw[yW]at p
 match xs,d,cs,p with
 |[y0,y1,y2,y3,y4,y5,y6],_,[c0,c1,c2,c3,c4,c5,c6,c7,c8,c9,c10,c11],_=>
  have t0:DataW.trod enc prog w 0 (λ_=>true) true m 5 [c0]=some y0:=by have:=b 0 _ O;simpa[uz]using this
  obtain⟨n0,i,_,w0⟩:=ky underlying5 t0;have t1:DataW.trod enc prog w 0 (λ_=>true) true m 3 [c1]=some y1:=by have:=b 1 _ O;simpa[sZ]using this
  obtain⟨n1,r,_,E⟩:=ky underlying3 t1;have B:DataW.trod enc prog w 0 (λ_=>true) true m 55 [c2,c3,c4,c5,c6,c7]=some y2:=by have:=b 2 _ O;simpa[Ko]using this
  obtain⟨a,l,w2⟩:=Ol B;have C:DataW.trod enc prog w 0 (λ_=>true) true m 3 [c8]=some y3:=by have:=b 3 _ O;simpa[sZ]using this
  obtain⟨R,u,_,J⟩:=ky underlying3 C;have K:DataW.trod enc prog w 0 (λ_=>true) true m 3 [c9]=some y4:=by have:=b 4 _ O;simpa[sZ]using this
  obtain⟨W,v,_,y⟩:=ky underlying3 K;have t5:DataW.trod enc prog w 0 (λ_=>true) true m 3 [c10]=some y5:=by have:=b 5 _ O;simpa[sZ]using this
  obtain⟨G,j,_,w5⟩:=ky underlying3 t5;have T:DataW.trod enc prog w 0 (λ_=>true) true m 56 [c11]=some y6:=by have:=b 6 _ O;simpa[Mz]using this
  obtain⟨A,g,L,k,f,Q⟩:=Mh T;simp only[If,vM,qj]at i r l u v j k;obtain⟨X,g3,g4,g5,F,g7⟩:=l;subst i r u v j k X g3 g4 g5 F g7;exact⟨⟨n0,n1,a,R,W,G,A,g,L⟩,O,⟨uU w0,rL E,w2,rL J,rL y,rL w5,Q⟩,f⟩
end
end
def oB(x:j1):Array H:=#[.int .u8 x.s.d,Z x.s.w,.int .u8 x.s.a.k,q x.s.a.n,Z x.s.a.t,Z x.s.a.a,q x.s.a.r,q x.s.a.f,Z x.s.k,Z x.s.j,Z x.s.n,.slice x.s.pa x.s.pk.length x.s.pc,.bool x.near,.int .u8 x.nd]
def za(x:j1):(oB x).size=14:=rfl
def sb(L:List j1):Bool:=decide (L.length<=100)&&L.all λx=>decide (x.s.pk.length<=20)
def WI{A:Option Addr}{L:List j1}{c:Nat}(h:RowsIn w 14 oB A L c):Calls prog 4 #[.slice A L.length c] w λr J=>r=.returned (.bool (sb L))/\w=J:=by
 have B:=U h;by_cases a:L.length<=100
 ·have f:=U (show sb L=L.all λx=>decide (x.s.pk.length<=20)by unfold sb;rw[fa a,Bool.true_and]);generalize sb L=F at f⊢;clear h;go_wp2;go_loopw [3] (λi wr=>∃j:Nat,j<=L.length/\i=Z j/\w=wr/\∀x∈L.take j,x.s.pk.length<=20) (λi _=>L.length-(intOf i).toNat);exact⟨0,V,O,O,ah⟩;obtain⟨j,R,rfl,rfl,p⟩:=hrel;replace p:=U p;by_cases k:j<L.length
  ·have G:=cO ((j:Int)<L.length);obtain⟨y,l⟩:∃y,L[j]? =some y:=⟨L[j],bY k⟩;obtain⟨b,o,rfl,T,E⟩:=B.o.at_ za ai l;have K:w.cell? (I b (o+j*14+11))=some (.slice y.s.pa y.s.pk.length y.s.pc):=E 11 _ O;have v:=U l;clear E l;by_cases u:y.s.pk.length<=20
   ·have g:=cP ((20:Int)<y.s.pk.length);have xg:∀x∈L.take (j+1),x.s.pk.length<=20:=λx m=>by rw[gP,v.o]at m;rcases bP.1 m with h|h;exact p.o x h;obtain rfl:x=y:=az h;exact u
    have Q:=U xg;clear xg;go_wp2;go_roundw
    ·exact⟨j+1,V,by go_num,trivial,Q.o⟩
    simp[intOf];omega
   have g:=cO ((20:Int)<y.s.pk.length);obtain rfl:F=false:=by rw[f.o,List.all_eq_false];exact⟨y,cX v.o,az u⟩
   go_wp2;go_ret;exact⟨O,O⟩
  obtain rfl:j=L.length:=V;have G:=cP ((L.length:Int)<L.length);obtain rfl:F=true:=by rw[f.o,lZ];exact λx m=>fa (p.o x (by rwa[jt]))
  go_wp2;go_ret;exact⟨O,O⟩
 have e:sb L=false:=by unfold sb;rw[fO a,Bool.false_and]
 rw[e];have d:=cO ((100:Int)<L.length);go_wp2;go_ret;exact⟨O,O⟩
section
open Go.ChangeMaps (setBlock heap_setBlock_same heap_setBlock_other)
open Go.MapKept (Stamped stamped_iff stamped_push stamped_erase stamped_empty)
open Go.Maps (Keyed)
def cM(o s:Int):Array H:=#[Z o,q s]
def wF{o' s':Int}(h:(Value.agg (cM o s))=.agg (cM o' s')):o=o'/\s=s':=by simp[cM]at h;exact h
def Ge:(335:ay)<prog.types.size:=nY Y
def Rz:(match prog.underlying 335 with|some (.array _ _)|some (.struct _)=>true|_=>false)=true:=Y
def qw:Keyed prog 335:=Keyed.of_law (deep_law_laid vT (m:=2) V Ge Y Rz)
def s8:prog.underlying 237=some (.map 335 64):=Y
def LE:prog.cellsOf 335=2:=Y
def DE:prog.cellsOf 3=1:=Y
def yX:prog.cellsOf 31=1:=Y
def LW:prog.keyType 335=true:=Y
def yN:∃m,prog.types.size=m+2:=⟨prog.types.size-2,(Nat.sub_add_cancel (aZ (show 2<=(335:Nat)by decide) (Nat.le_of_lt Ge))).symm⟩
def fM(o s:Int):Prop:=(-9223372036854775808<=o/\o<=9223372036854775807)/\0<=s/\s<=18446744073709551615
def AH(h:fM o s):(Lit.int .i64 o).wf=true/\(Lit.int .u64 s).wf=true:=by obtain⟨⟨a,b⟩,d,c⟩:=h;exact⟨by simp[Lit.wf,IntKind.min,IntKind.max,IntKind.signed,IntKind.bits];omega,by simp[Lit.wf,IntKind.min,IntKind.max,IntKind.signed,IntKind.bits];omega⟩
def wz(h:fM o s):∃l,keyOf prog 335 (.agg (cM o s))=some l:=by obtain⟨b,c⟩:=AH h;obtain⟨m,a⟩:=yN;refine⟨.string (keyBytes [.int .i64 o,.int .u64 s]),?_⟩;unfold keyOf;simp only[underlying335];rw[av (by simp[LW,Value.formed,underlying335,LE,cM]),a];unfold Program.keyLits;simp only[underlying335,Value.cells,cM];rw[av (by rw[LE];exact⟨O,ah⟩)];simp[List.mapM_cons,List.mapM_nil,DE,yX,Program.keyLits,underlying3,underlying31,b,c]
def iM(e:z):H×H:=(.agg (cM e.o e.s),.agg (aj e))
def eA(x:MapEntry):H×H:=(x.key,x.val)
def SK{x y:z}(h:Value.agg (aj x)=.agg (aj y)):x=y:=by obtain⟨o,s,⟨F,C,m,u,Q,J⟩,k,n,t,a,r,f⟩:=x;obtain⟨K,p,⟨g,b,c,d,j,i⟩,E,l,A,B,v,G⟩:=y;simp[aj]at h⊢;simp[h]
def Bf(o s:Int)(e:z):Bool:=e.o==o&&e.s==s
def zj:Bf o s e=true↔e.o=o/\e.s=s:=by simp[Bf]
structure fy(w:D)(b:Nat)(L:List z):Prop where
 ex:∃es clock,w.heap[b]? =some (.map es clock)/\Stamped es clock/\(es.toList.map eA).Perm (L.map iM)
 ok:∀e∈L,fM e.o e.s
def oL(L:List z):Prop:=L.Pairwise λx y=>¬(x.o=y.o/\x.s=y.s)
def iI(L:List z)(o s:Int):Option z:=L.find? (Bf o s)
def Dj(h:iI L o s=some e):e∈L/\e.o=o/\e.s=s:=
 ⟨Cu h,zj.1 (List.find?_some h)⟩
def Dk(h:iI L o s=none):∀e∈L,¬(e.o=o/\e.s=s):=λe a b=>by have:=vA.1 h e a;exact this (zj.2 b)
def oL.eq(h:oL L){x y:z}(f:x∈L)(g:y∈L)(c:x.o=y.o)(b:x.s=y.s):x=y:=by
 induction L with
 |nil=>cases f
 |cons a r ih=>obtain⟨d,i⟩:=n9.1 h;rcases dh.1 f with rfl|hx'<;>rcases dh.1 g with rfl|hy';rfl;exact absurd ⟨c,b⟩ (d y hy');exact absurd ⟨c.symm,b.symm⟩ (d x hx');exact ih i hx' hy'
def oL.perm{aeL:List z}(h:oL L)(p:L.Perm aeL):oL aeL:=(p.pairwise_iff (λ{_ _} hn he=>hn ⟨he.1.symm,he.2.symm⟩)).1 h
def oL.look(h:oL L)(b:e∈L):iI L e.o e.s=some e:=by
 cases a:iI L e.o e.s with
 |none=>exact absurd ⟨O,O⟩ (Dk a e b)
 |some x=>obtain⟨d,c,f⟩:=Dj a;rw[h.eq d b c f]
def LQ{aeL:List z}(h:oL L)(p:L.Perm aeL)(o s:Int):iI aeL o s=iI L o s:=by
 cases a:iI L o s with
 |none=>refine vA.2 λe c d=>?_;exact Dk a e (p.mem_iff.2 c) (zj.1 d)
 |some x=>obtain⟨b,rfl,rfl⟩:=Dj a;exact(h.perm p).look (p.mem_iff.1 b)
section
variable{w w':D}{b:Nat}{L aeL:List z}
def fy.lt(h:fy w b L):b<w.heap.size:=by obtain⟨es,a,c,_⟩:=h.ex;exact(fI.1 c).1
def fy.same(h:fy w b L)(e:w'.heap[b]? =w.heap[b]?):fy w' b L:=by obtain⟨es,a,c,r⟩:=h.ex;exact⟨⟨es,a,e.trans c,r⟩,h.ok⟩
def fy.fr{g:Nat}{r:Option Nat}(h:fy w b L)(f:aH w w' g r)(a:b≠g)(c:some b≠r):fy w' b L:=h.same (f.block b h.lt a c)
def fy.call(h:fy w b L)(a:S w w'):fy w' b L:=h.same (a.block b h.lt)
def fy.ndn(h:fy w b L):oL L:=by obtain⟨es,a,l,k,f⟩:=h.ex;have i:=((sI _ _).1 k).2.2;have g:(es.toList.map eA).Pairwise (λx y=>x.1≠y.1):=yx.2 i;have j:=(f.pairwise_iff (λ{_ _} c=>eC c)).1 g;refine(yx.1 j).imp λc d=>c ?_;simp[iM,d.1,d.2]
def yI(c:(es.toList.map eA).Perm (L.map iM)){x:MapEntry}(f:x∈es.toList):∃e∈L,x.key=.agg (cM e.o e.s)/\x.val=.agg (aj e):=by have:=c.mem_iff.1 (dY.2 ⟨x,f,O⟩);obtain⟨e,d,a⟩:=dY.1 this;simp only[iM,eA,ru]at a;exact⟨e,d,a.1.symm,a.2.symm⟩
def zf(c:(es.toList.map eA).Perm (L.map iM))(a:∀e∈L,fM e.o e.s):∀x∈es.toList,∃l,keyOf prog 335 x.key=some l:=λx g=>by obtain⟨e,f,d,_⟩:=yI c g;rw[d];exact wz (a e f)
def fy.made(w:D):fy (w.alloc (.map #[] 0)) w.heap.size []:=⟨⟨#[],0,vP w _,stamped_empty 0,nZ _⟩,λ_ h=>aK h⟩
def PV:aj z.zero=#[Z 0,q 0,q 0,q 0,q 0,q 0,q 0,q 0,.int .u8 0,q 0,Z 0,Z 0,q 0,q 0]:=rfl
def Rq(w:D):(zeroValue 64).run prog w=.ok (.agg (aj z.zero)) w:=Y
def pB(r:Option z):H:=.tuple #[.agg (aj (r.getD z.zero)),.bool r.isSome]
def fy.look(h:fy w b L)(u:fM o s):(Instr.lookup 237 (.map (some b)) (.agg (cM o s)) true).run prog w=.ok (pB (iI L o s)) w:=by
 have B:=h.ndn;obtain⟨es,m,r,E,l⟩:=h.ex;obtain⟨F,a⟩:=wz u;rcases qw.find w a es.toList (zf l h.ok)with⟨k,f⟩|⟨j,C,k,f,y⟩
 ·have v:iI L o s=none:=vA.2 λe p d=>by have:=l.mem_iff.2 (dY.2 ⟨e,p,O⟩);obtain⟨x,A,c⟩:=dY.1 this;simp only[iM,eA,ru]at c;obtain⟨rfl,rfl⟩:=zj.1 d;exact f x A c.1
  rw[v];simp[Instr.lookup,eT s8,kS r,qw.check w _ a,k,Rq,Result.andThen,pB,PV]
 obtain⟨e,p,i,g⟩:=yI l (cX f);obtain⟨rfl,rfl⟩:=wF (i.symm.trans y);rw[B.look p];simp[Instr.lookup,eT s8,kS r,qw.check w _ a,k,Result.andThen,pB,g]
def Dc(c:b<w.heap.size)(o:Obj):aH w (setBlock w b o) b none:=
 ⟨O,O,O,by simp[setBlock],λk _ a _=>by simp[setBlock,eC a]⟩
def fy.put(h:fy w b L)(l:fM e.o e.s)(A:iI L e.o e.s=none):
  ∃w',(Instr.mapUpdate 237 (.map (some b)) (.agg (cM e.o e.s)) (.agg (aj e))).run prog w=.ok () w'/\fy w' b (L++[e])/\aH w w' b none:=by
 obtain⟨es,a,k,v,d⟩:=h.ex;obtain⟨C,c⟩:=wz l;rcases qw.find w c es.toList (zf d h.ok)with⟨m,g⟩|⟨j,B,m,g,u⟩;refine⟨setBlock w b (.map (es.push ⟨.agg (cM e.o e.s),.agg (aj e),a⟩) (a+1)),?_,⟨⟨_,_,sC k _,stamped_push v g,?_⟩,?_⟩,Dc h.lt _⟩;simp[Instr.mapUpdate,eT s8,kS k,qw.check w false c,m,sD _ k,Result.andThen,setBlock];rw[Array.toList_push,jh,jh];exact d.append (nZ _);intro x hx;rcases bP.1 hx with hx|hx;exact h.ok x hx;obtain rfl:=dd.1 hx;exact l;exfalso;obtain⟨y,i,f,_⟩:=yI d (cX g);obtain⟨p,r⟩:=wF (f.symm.trans u);exact Dk A y i ⟨p,r⟩
def fy.len(h:fy w b L)(ty:ay):(Builtin.len_ #[237] ty #[.map (some b)]).run prog w=.ok (Z L.length) w:=by obtain⟨es,a,f,g,c⟩:=h.ex;have d:es.size=L.length:=az c.length_eq;simp[Builtin.len_,eT s8,kS f,goInt,Result.andThen,d]
def Jd{α:Type}:∀(l:List α) (j:Nat) (x:α),l[j]? =some x->l.Perm (x::l.eraseIdx j)
 |a::l,0,x,h=>by simp at h;subst h;exact nZ _
 |a::l,j+1,x,h=>by have:=Jd l j x (az h);exact(this.cons a).trans (List.Perm.swap x a _)
 |[],_,_,h=>by simp at h
def Ei{j:Nat}{d:MapEntry}(c:es.toList[j]? =some d):(es.eraseIdxIfInBounds j).toList=es.toList.eraseIdx j/\es.toList.Perm (d::es.toList.eraseIdx j):=by have a:j<es.toList.length:=(fN.1 c).1;constructor;unfold Array.eraseIdxIfInBounds;rw[dif_pos (az a)];simp;exact Jd _ _ _ c
def fy.drop(h:fy w b L)(l:e∈L)(ty:ay):
  ∃w' A,(Builtin.delete_ #[237,335] ty #[.map (some b),.agg (cM e.o e.s)]).run prog w=.ok (.tuple #[]) w'/\L.Perm (e::A)/\fy w' b A/\aH w w' b none:=by
 have R:=h.ndn;have m:=h.lt;obtain⟨es,a,p,Q,k⟩:=h.ex;obtain⟨W,d⟩:=wz (h.ok e l);have f:L.Perm (e::L.erase e):=List.perm_cons_erase l;rcases qw.find w d es.toList (zf k h.ok)with⟨B,i⟩|⟨j,F,B,i,K⟩;exfalso;obtain⟨x,y,c⟩:=dY.1 (k.mem_iff.2 (dY.2 ⟨e,l,O⟩));simp only[iM,eA,ru]at c;exact i x y c.1;obtain⟨C,u,g,r⟩:=yI k (cX i);obtain⟨G,J⟩:=wF (g.symm.trans K);obtain rfl:=R.eq u l G J;obtain⟨E,T⟩:=Ei i;refine⟨setBlock w b (.map (es.eraseIdxIfInBounds j) a),L.erase C,?_,f,⟨⟨_,_,sC p _,Cz Q j,?_⟩,λx y=>h.ok x (List.mem_of_mem_erase y)⟩,Dc m _⟩;simp[Builtin.delete_,eT s8,kS p,qw.check w _ d,B,sD _ p,Result.andThen,setBlock];rw[E];have v:=(T.map eA).symm.trans (k.trans (f.map iM));simp only[cW]at v;rw[show eA F=iM C by simp[eA,iM,g,r]]at v;exact v.cons_inv
def vU:∀(l:List MapEntry) (p c:MapEntry->Bool) (d:MapEntry),(l.map (·.born)).Nodup->d∈l->p d=false->(∀x∈l,c x=(p x||x.born==d.born))->(l.filter c).Perm (d::l.filter p)
 |[],_,_,_,_,h,_,_=>aK h
 |a::l,p,c,d,hn,h,hp,hq=>by
  simp only[cW,rf]at hn;have f:=hq a ah;rcases dh.1 h with rfl|he'
  ·have k:l.filter c=l.filter p:=List.filter_congr λx g=>by
    rw[hq x (by simp[g])];have:(x.born==d.born)=false:=by rw[fH];exact λe=>hn.1 (e▸dY.2 ⟨x,g,O⟩)
    rw[this,Bool.or_false]
   rw[lC,lC,f,hp,k];simp
  have j:=vU l p c d hn.2 he' hp (λx g=>hq x (by simp[g]));have i:(a.born==d.born)=false:=by rw[fH];exact λe=>hn.1 (e▸dY.2 ⟨d,he',O⟩)
  rw[i,Bool.or_false]at f;rw[lC,lC,f];split;exact(j.cons a).trans (List.Perm.swap d a _);exact j
def JC(es:Array MapEntry)(seen:Array Nat):(leftOf es seen).toList=es.toList.filter λx=> !seen.contains x.born:=by unfold leftOf;rw[<-Array.toList_filter]
def Dm{α:Type}(p:α->Bool):∀l:List α,l.Perm (l.filter (λx=> !p x)++l.filter p)
 |[]=>nZ _
 |a::l=>by have c:=Dm p l;cases h:p a;simp only[lC,h,Bool.not_false,gR,mN,mP,sM];exact c.cons a;simp only[lC,h,Bool.not_true,gR,mN,mP];exact(c.cons a).trans List.perm_middle.symm
structure iu(w:D)(b r:Nat)(left kept:List z):Prop where
 ex:∃es clock since seen c0,w.heap[b]? =some (.map es clock)/\Stamped es clock/\w.heap[r]? =some (.mapIter (some b) since seen c0)/\(∀x∈es.toList,x.born<since)/\since<=c0/\since<=clock/\
  ((es.toList.filter λx=> !seen.contains x.born).map eA).Perm (left.map iM)/\((es.toList.filter λx=>seen.contains x.born).map eA).Perm (kept.map iM)
 ok:∀e∈left++kept,fM e.o e.s
variable{r:Nat}{left kept:List z}
def iu.map(h:iu w b r left kept):fy w b (left++kept):=by obtain⟨es,a,c,seen,p,g,i,k,l,j,m,d,f⟩:=h.ex;refine⟨⟨es,a,g,i,?_⟩,h.ok⟩;have:=(Dm (λx:MapEntry=>seen.contains x.born) es.toList).map eA;rw[jh]at this⊢;exact this.trans (d.append f)
def iu.lt(h:iu w b r left kept):r<w.heap.size:=by obtain⟨es,c,a,seen,i,f,g,d,_⟩:=h.ex;exact(fI.1 d).1
def iu.ne(h:iu w b r left kept):r≠b:=λe=>by obtain⟨es,c,a,seen,i,d,g,f,_⟩:=h.ex;subst e;rw[f]at d;cases d
def iu.same(h:iu w b r left kept)(d:w'.heap[b]? =w.heap[b]?)(l:w'.heap[r]? =w.heap[r]?):iu w' b r left kept:=by obtain⟨es,c,a,seen,k,i,j,f,g⟩:=h.ex;exact⟨⟨es,c,a,seen,k,d.trans i,j,l.trans f,g⟩,h.ok⟩
def iu.call(h:iu w b r left kept)(a:S w w'):iu w' b r left kept:=h.same (a.block b h.map.lt) (a.block r h.lt)
def fy.range(h:fy w b L):∃w',(Instr.range 237 (.map (some b))).run prog w=.ok (N w.heap.size) w'/\iu w' b w.heap.size L []/\S w w'/\w'.heap.size=w.heap.size+1:=by have c:=h.lt;obtain⟨es,a,d,f,g⟩:=h.ex;refine⟨_,run_range_map w _ _ _ b es a s8 d,⟨⟨es,a,a,#[],a,?_,f,vP w _,((sI _ _).1 f).1,ao _,ao _,?_,?_⟩,?_⟩,(aq _ _).alloc (ao _) _,ah⟩;rw[(MapKept.heap_alloc w _).2 b c];exact d;rw[yq.2 (λx _=>ah)];exact g;simp;simpa using h.ok
def iu.next(h:iu w b r left kept)(ty:ay):
  (left=[]/\(Instr.next (N r) false ty).run prog w=.ok (.tuple #[.bool false]) w)\/
  ∃e i w',left.Perm (e::i)/\(Instr.next (N r) false ty).run prog w=.ok (.tuple #[.bool true,.agg (cM e.o e.s),.agg (aj e)]) w'/\
   iu w' b r i (e::kept)/\aH w w' r none/\(Instr.entry (N r)).run prog w'=.ok (.tuple #[.agg (cM e.o e.s),.agg (aj e)]) w':=by
 have R:=h.ne;have δ:=h.lt;obtain⟨es,a,c,seen,c0,hb,hs,hr,m,β,C,X,W⟩:=h.ex;have u:=(sI es a).1 hs;rcases run_next_at (P:=prog) w ty r b c c0 seen es a hr hb m β with⟨h0,f⟩|⟨d,T,Q,A,f⟩;refine .inl ⟨?_,f⟩;have:(leftOf es seen).toList.length=0:=az h0;rw[JC]at this;have h1:=X.length_eq;simp only[j3]at h1;exact lR V;obtain⟨l,y⟩:=mem_left T;have K:eA d∈left.map iM:=X.mem_iff.1 (dY.2 ⟨d,lD.2 ⟨l,by rw[y];rfl⟩,O⟩);obtain⟨e,he,j⟩:=dY.1 K;have E:left.Perm (e::left.erase e):=List.perm_cons_erase he;have F:d.key=.agg (cM e.o e.s):=(bH Prod.fst j).symm;have G:d.val=.agg (aj e):=(bH Prod.snd j).symm;have α:Q.heap[r]? =some (.mapIter (some b) c seen c0):=by rcases A with rfl|rfl<;>exact hr
 have γ:Q.heap[b]? =some (.map es a):=by rcases A with rfl|rfl<;>exact hb
 have g:=MapKept.heap_set (o':=.mapIter (some b) c (seen.push d.born) a) α;have J:(setBlock Q r (.mapIter (some b) c (seen.push d.born) a)).heap[b]? =some (.map es a):=(g.2 b (λe1=>R e1.symm)).trans γ;have v:=vU es.toList (λx=>seen.contains x.born) (λx=>(seen.push d.born).contains x.born) d u.2.1 l y (λx _=>contains_push ..);have p:=vU es.toList (λx=> !(seen.push d.born).contains x.born) (λx=> !seen.contains x.born) d u.2.1 l ah (λx _=>by rw[contains_push];by_cases hx:x.born=d.born;rw[hx,y];simp;rw[show(x.born==d.born)=false from fH.2 hx];simp);rw[F,G]at f;refine .inr ⟨e,left.erase e,_,E,f,⟨⟨es,a,c,seen.push d.born,a,J,hs,g.1,m,C,C,?_,?_⟩,?_⟩,?_,?_⟩;have B:=(p.map eA).symm.trans (X.trans (E.map iM));simp only[cW]at B;rw[<-j]at B;exact B.cons_inv;have B:=(v.map eA);simp only[cW]at B⊢;rw[j];exact B.trans (W.cons _);intro x hx;refine h.ok x ?_;simp only[bP,dh]at hx⊢;rcases hx with hx|rfl|hx;exact .inl (List.mem_of_mem_erase hx);exact .inl he;exact .inr hx
 ·rcases A with rfl|rfl<;>exact⟨rfl,rfl,rfl,by simp[setBlock],λk _ W _=>g.2 k W⟩
 rw[<-F,<-G];exact run_entry_at _ r b c seen es a d g.1 J l u.2.1
def iu.drop(h:iu w b r left (e::kept))(ty:ay):
  ∃w',(Builtin.delete_ #[237,335] ty #[.map (some b),.agg (cM e.o e.s)]).run prog w=.ok (.tuple #[]) w'/\iu w' b r left kept/\aH w w' b none:=by
 have E:=h.ne;have G:=h.map;obtain⟨es,a,d,seen,c0,k,X,hr,l,R,C,hl,T⟩:=h.ex;have J:=(sI es a).1 X;have Q:fM e.o e.s:=h.ok e ah;obtain⟨kl,i⟩:=wz Q;obtain⟨x,hx,g⟩:=dY.1 (T.mem_iff.2 (dY.2 ⟨e,ah,O⟩));obtain⟨m,f⟩:=lD.1 hx;have u:x.key=.agg (cM e.o e.s):=bH Prod.fst g;obtain⟨β,A,c,α,K⟩:=G.ex;rw[k]at c;injection c with c;injection c with e1 e2;subst e1;subst e2;rcases qw.find w i es.toList (zf K G.ok)with⟨W,v⟩|⟨j,e0,W,v,h3⟩;exact absurd u (v x m);obtain rfl:e0=x:=entry_eq_of_key J.2.2 (cX v) m (h3.trans u.symm);obtain⟨B,k2⟩:=Ei v;refine⟨setBlock w b (.map (es.eraseIdxIfInBounds j) a),?_,⟨⟨_,_,d,seen,c0,sC k _,Cz X j,(heap_setBlock_other k _ E).trans hr,λy hy=>l y ?_,R,C,?_,?_⟩,λy hy=>h.ok y ?_⟩,Dc G.lt _⟩;simp[Builtin.delete_,eT s8,kS k,qw.check w _ i,W,sD _ k,Result.andThen,setBlock];rw[B]at hy;exact(List.eraseIdx_sublist _ _).subset hy;rw[B];have p:=k2.filter (λx=> !seen.contains x.born);rw[lC,al (by rw[f];simp)]at p;exact(p.symm.map eA).trans hl;rw[B];have p:=k2.filter (λx=>seen.contains x.born);rw[lC,av f]at p;have F:=(p.symm.map eA).trans T;simp only[cW]at F;rw[g]at F;exact F.cons_inv;simp only[bP,dh]at hy⊢;rcases hy with hy|hy;exact .inl hy;exact .inr (.inr hy)
end
end
