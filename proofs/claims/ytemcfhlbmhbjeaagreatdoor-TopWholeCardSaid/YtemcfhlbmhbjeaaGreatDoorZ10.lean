import Derived.Test.YtemcfhlbmhbjeaaGreatDoorZ09
import Derived.Deep.LoopGhost
set_option maxRecDepth 100000
set_option maxHeartbeats 0
set_option linter.all false
namespace Go.Proofs.YtemcfhlbmhbjeaaGreatDoor
open Go.Proofs.Tryz
variable{e:z}{turn:(Nat->Int)->Int×(Nat->Int)}
open Go Go.RowKit
section
variable{w:D}{t tm:Nat}{T:List (Int×Int)}
def zB(w:D)(t tm:Nat)(T:List (Int×Int))(x p:Int)(r:Ending)(w':D):Prop:=r=.returned (Z (jK T x p))/\it w' t tm (jM T x p)/\aH w w' tm none
def zB.no{x p e:Int}{w':D}(h:it w t tm T)(b:jK T x p=e)(a:e≠0)(c:S w w'):zB w t tm T x p (.returned (Z e)) w':=by refine⟨by rw[b],?_,aH.of_below c⟩;unfold jM;rw[al (by rw[b];exact a)];exact h.call c
def xP(h:it w t tm T)(hT:jg T){x p:Int}(hx:bo x)(hp:bo p):Calls prog 342 #[N t,q x,q p] w (zB w t tm T x p):=by
 have a:=U (show jK T x p=if x=0 then 1 else if(lk T x).isSome then 14 else if p≠0/\(lk T p).isSome=false then 9 else if 32<=T.length\/4<=(aL T p).length then 6 else 0 from O);have B:=U (λ(w':D) (e:Int) (he:jK T x p=e) (Q:e≠0) (hb:S w w')=>zB.no (w':=w') h he Q hb);have G:=U h;obtain⟨γ,-⟩:=h.blk.rules;by_cases d:x=0
 ·have d0:(x==0)=true:=by simp[d]
  rw[av d]at a;clear d h;go_wp2;go_ret;exact B.o _ _ a.o ai (aq _ _)
 have d0:(x==0)=false:=by simp[d]
 rw[al d]at a;obtain⟨J,s⟩:=aM ((lk T x).isSome);have E:=U (vh h hx J s);rw[s]at a;obtain⟨C,n⟩:=aM ((lk T p).isSome);have K:=U (vh h hp C n);rw[n]at a;have C3:=U (xB h hT hp);clear s n d h;rcases(show J=true\/J=false from by cases J<;>simp)with rfl|rfl
 ·go_in;go_wp2_with fail;apply E.o.mono;rintro r m ⟨rfl,rfl⟩;go_wp2;go_ret;exact B.o _ _ a.o ai (aq _ _)
 have g:((p !=0)=false\/((p !=0)=true/\C=true))\/((p !=0)=true/\C=false):=by
  by_cases F:p=0;left;left;simp[F];have e:(p !=0)=true:=by simp[F]
  cases C;exact .inr ⟨e,O⟩;exact .inl (.inr ⟨e,O⟩)
 rcases g with g|⟨P,rfl⟩;rotate_left
 ·have hz:p≠0:=az P;rw[al ah,av ⟨hz,rfl⟩]at a;clear hz;go_in;go_wp2_with fail;apply E.o.mono;rintro r m ⟨rfl,rfl⟩;go_wp2_with fail;apply K.o.mono;rintro r m ⟨rfl,rfl⟩;go_wp2;go_ret;exact B.o _ _ a.o ai (aq _ _)
 rw[al ah,al (by rintro⟨s,n⟩;rcases g with e|⟨_,e⟩;exact s (az e);rw[e]at n;cases n)]at a;have β:∀ty,(Builtin.len_ #[181] ty #[.map (some tm)]).run prog w=.ok (Z T.length) w:=λty=>G.o.map.len uM ty;have α:(T.length:Int)<=32:=aA hT.le;have y:=U (sT T p);generalize aL T p=L at a C3 y;have W2:∀R:Prop,(∀(e:(p !=0)=false),R)->(∀(e:(p !=0)=true),C=true->R)->R:=λR r1 r2=>by rcases g with e|⟨e,e2⟩;exact r1 e;exact r2 e e2
 refine W2 _ (λP=>?_) (λP e2=>?_);rotate_left;subst e2
 all_goals
  clear W2 g;by_cases v:32<=T.length
  ·have d2:decide (32<=(T.length:Int))=true:=by simp;omega
   rw[av (.inl v)]at a;clear v;go_in;go_wp2_with fail;apply E.o.mono;rintro r m ⟨rfl,rfl⟩;go_wp2_with fail
   try
    apply K.o.mono;rintro r m ⟨rfl,rfl⟩;go_wp2
   go_ret;exact B.o _ _ a.o ai (aq _ _)
  have d2:decide (32<=(T.length:Int))=false:=by simp;omega
  go_in;go_wp2_with fail;apply E.o.mono;rintro r m ⟨rfl,rfl⟩;go_wp2_with fail
  try
   with_reducible refine K.o.mono ?_
   rintro r m ⟨rfl,rfl⟩;go_wp2_with fail
  apply C3.o.mono;rintro r w2 ⟨u,rfl,i,f⟩;obtain⟨A,c,rfl,ε,δ⟩:=i.sl;clear i E K C3;have hL:(L.length:Int)<=32:=aA y.o;obtain⟨w3,cH,k,j⟩:=(G.o.call f).map.put uM hx p;have l:(Instr.mapUpdate 181 (.map (some tm)) (q x) (q p)).run prog w2=.ok () w3:=cH;have hq:=((G.o.call f).blk.rules).1;by_cases X:4<=L.length
  ·have d4:decide (4<=(L.length:Int))=true:=by simp;omega
   rw[av (.inr X)]at a;clear X cH l j k;go_wp2;go_ret;exact B.o _ _ a.o ai f
  have d4:decide (4<=(L.length:Int))=false:=by simp;omega
  rw[al V]at a;have W:=aB k j;clear X cH j k;go_wp2;go_ret;refine⟨by rw[a.o];rfl,?_,(aH.of_below f).trans W.o.2⟩;unfold jM;rw[av a.o];refine⟨W.o.2.blk (G.o.call f).blk G.o.ne ah,?_⟩;have e:=W.o.1;rw[show putL T x p=(x,p)::T from by unfold putL;rw[wi (qo a.o).2.1]]at e;exact e
end
@[go_sem] theorem adr(x:Int):ms.kc x=q x:=rfl
@[go_sem] theorem adq(x:Int):ms.vc x=q x:=rfl
def aa.belowB{F:Nat->Prop}{w w':D}(a:aa F w w'){B:Nat}(h:∀k,k<w.heap.size->F k->B<=k)(d:B<=w.heap.size):Below B w w':=
 ⟨a.os,a.tape,a.output,a.size,λk c=>a.block k V λb=>aA (h k V b)⟩
def aas{L aeL:List Int}(p:L.Perm aeL):nu L=nu aeL:=by
 have d:∀X:List Int,(nu X).Pairwise (λa b=>a<=b):=λX=>by have:=vF (le:=λa b:Int=>decide (a<=b)) (by intro a b c f g;simp at*;omega) (by intro a b;simp;omega) X;exact this.imp (by intro a b h;simpa using h)
 refine List.Perm.eq_of_pairwise (le:=λa b:Int=>a<=b) ?_ (d L) (d aeL) ?_;intro a b _ _ f g;omega;exact(pU _ _).trans (p.trans (pU _ _).symm)
section
variable{α β:Type}[DecidableEq α]{m:eR α β}{w:D}{b r:Nat}{L left kept:List (α×β)}
variable{ops:Array Oper}{rest:List Oper}{o:Oper}{a:Act}{Q:Exit->Act->D->Prop}
def sP(f:m.Ok)(s:o.guard=none)(i:aO)(g:o.op=Op.range m.T i)(k:a.eval i=.map (some b))(h:bA m w b L)
  (p:∀w',fP m w' b w.heap.size L []->S w w'->w'.heap.size=w.heap.size+1->wpList prog ops Q rest (a.put o.dst (N w.heap.size)) w'):wpList prog ops Q (o::rest) a w:=by
 refine rk s λt d=>?_;obtain⟨w',c,n,j,l⟩:=h.range f;unfold Oper.wp;simp[execOp,g,k,c,Result.andThen];exact d _ _ (p w' n j l)
omit [DecidableEq α]in
def sQ(v:o.guard=none)(p:aO)(j:o.op=Op.next p false)(k:a.eval p=.pointer (some (I r 0)))(h:fP m w b r left kept)
  (g:left=[]->wpList prog ops Q rest (a.put o.dst (.tuple #[.bool false])) w)
  (i:∀e c w',left.Perm (e::c)->fP m w' b r c (e::kept)->aH w w' r none->(Instr.entry (N r)).run prog w'=.ok (.tuple #[m.kc e.1,m.vc e.2]) w'->
   wpList prog ops Q rest (a.put o.dst (.tuple #[.bool true,m.kc e.1,m.vc e.2])) w'):wpList prog ops Q (o::rest) a w:=by
 refine rk v λx l=>?_;unfold Oper.wp;rcases h.next o.type with⟨u,d⟩|⟨e,c,w',s,d,t,f,n⟩;simp[execOp,j,k,d,Result.andThen];exact l _ _ (g u);simp[execOp,j,k,d,Result.andThen];exact l _ _ (i e c w' s t f n)
end
section
variable{w:D}{t tm:Nat}{T:List (Int×Int)}
def Ts(x:Int)(w:D):Calls prog 89 #[q x] w λr a=>r=.returned (.bool true)/\w=a:=by go_wp2;go_ret;exact⟨O,O⟩
structure Ce(w:D)(t tm r:Nat)(T left kept:List (Int×Int))(v:H)(ks:List Int)(W:D):Prop where
 rg:fP ms W tm r left kept
 row:gI W (w.heap.size+1) v ks
 ks:ks.Perm (kept.map (·.1))
 pm:T.Perm (left++kept)
 below:S w W
 sz:w.heap.size+1<=W.heap.size
def LK(w:D)(T:List (Int×Int))(r:Ending)(w':D):Prop:=∃u,r=.returned u/\gI w' w.heap.size u (eG T)/\S w w'
def Tp(h:it w t tm T)(hl:T.length<=49):Calls prog 88 #[N t,.func (.func 89) #[] #[]] w (LK w T):=by
 obtain⟨β,-⟩:=h.blk.rules;have HM:=U h.map;have C1:=U Ts;clear h;go_in;go_wp2_with (first|(at_range;refine sP uM rfl _ rfl rfl HM.o ?_;intro w0 p Q α));go_frame;have A0:Ce w t tm w.heap.size T T [] (.slice none 0 0) [] w0:=⟨p,Row.nil,nZ _,ah,Q,V⟩;clear p Q α β HM;go_loopg [4] T.length (λg v wr=>∃left f y,left.length=g/\Ce w t tm w.heap.size T left f v y wr);exact⟨T,[],[],O,A0⟩;obtain⟨left,f,y,R,A⟩:=hrel;clear A0;go_wp2_with (first|(at_next;refine sQ rfl _ rfl rfl A.rg ?_ ?_))
 ·intro X;obtain rfl:=X;have G:y.length<=49:=by have K:=A.ks.length_eq;have W:=A.pm.length_eq;simp at K W;omega
  obtain⟨A1,c1,rfl,ζ,δ⟩:=A.row.sl;have C2:=U (GV A.row G);have C:=U A;clear A R;go_wp2_with fail;apply C2.o.mono;rintro r s ⟨rfl,a,i⟩;go_wp2;go_ret;refine⟨_,O,?_,?_⟩
  ·have e:nu y=eG T:=by refine aas (C.o.ks.trans ?_);have:=C.o.pm;rw[ju]at this;exact(this.map _).symm
   rw[<-e];exact kB a (mO _ _)
  exact C.o.below.trans ((aa.of_grown (F:=λk=>w.heap.size<=k) i (λk J=>aA ((C.o.row.ge k J).1))).belowB (λk _ h=>h) C.o.below.size)
 intro l ep b s hp d n η;have B:b.length+1=left.length:=by have:=hp.length_eq;simpa using this.symm
 have G:y.length<=1000:=by have K:=A.ks.length_eq;have W:=A.pm.length_eq;simp at K W;omega
 have u:u4.ownBlock≠some w.heap.size:=λe=>aA ((A.row.ge _ e).1);have a:=n.own A.row u (by cases u4.ownBlock<;>simp);have m:=n.below A.below (ao _) (λ_ h=>aK h);have θ:=aZ A.sz n.size;have ha:S s (s.alloc (.cells #[q l] 31)):=(aq _ _).alloc (ao _) _;obtain⟨v',w3,P,j,γ,i,hf⟩:=gI.app (w:=s.alloc (.cells #[q l] 31)) (cap:=1) 113 (Row.call a ha) (jn (c:=mq) kV (x:=l) (M.new s 31 (mq l))) aQ aQ;simp only[dN,g8,cA]at P;have E:∀{k:Nat},k<s.heap.size->u4.ownBlock≠some k->w3.heap[k]? =s.heap[k]?:=λ{k} J hn=>by rw[i.block k aQ (λe=>hn e.symm)];exact oW s _ k J
 have L:Ce w t tm w.heap.size T b ((l,ep)::f) v' (y++[l]) w3:=by refine⟨d.same (E d.map.lt λe=>?_) (E d.lt u),j,?_,A.pm.trans ((sE _ hp).trans List.perm_middle.symm),?_,?_⟩;have K:=oe a tm;obtain⟨es,ck,ε,_⟩:=d.map.ex;have:=K _ e ε;simp[Obj.isCells]at this;rw[cW];exact(List.perm_append_comm.trans (nZ _)).trans (A.ks.cons l);refine(m.trans (ha.mono m.size)).trans ((aa.of_grown (F:=λk=>w.heap.size<=k) i (λk J=>?_)).belowB (λk _ h=>h) (by have:=m.size;simp;omega));have:=(a.lt k J).1;omega;have:=i.size;simp at this;omega
 have C:=U L;obtain⟨A1,c1,rfl,ζ,δ⟩:=A.row.sl;clear A hp d n u a m ha j γ i hf E L;have HL:=U B;have HG:=U R;clear B R;go_wp2_with fail;apply(C1.o _ _).mono;rintro r w4 ⟨rfl,rfl⟩;go_wp2_with fail;have B:=HL.o;have R:=HG.o;go_roundg b.length
 case measure=>omega
 exact⟨b,(l,ep)::f,y++[l],O,C.o⟩
def GW(h:it w t tm T)(a:T.length<=49):Calls prog 62 #[N t] w (LK w T):=by have b:=U (Tp h a);clear h;go_in;go_wp2_with fail;apply b.o.mono;rintro r d ⟨u,rfl,c⟩;go_wp2;go_ret;exact⟨u,O,c⟩
end
section
variable{α β:Type}[DecidableEq α]{L aeL R:List (α×β)}
def yO:∀{L aeL:List (α×β)},dR L->dR aeL->(∀a,lk L a=lk aeL a)->L.Perm aeL
 |[],[],_,_,_=>nZ _
 |[],(a,v)::r,_,_,h=>by have:=h a;rw[iG,av rfl]at this;cases this
 |(a,v)::r,aeL,hL,hM,h=>by
  obtain⟨f,d⟩:=n9.1 hL;have c:=h a;rw[iG,av rfl]at c;have g:=hM.split (dX c.symm);refine List.Perm.trans ?_ g.symm;refine List.Perm.cons _ (yO d (hM.dropL a) λb=>?_);by_cases e:b=a
  ·subst e;rw[ZD];cases i:lk r b with
   |none=>rfl
   |some u=>exact absurd O (f (b,u) (dX i))
  rw[IY aeL e,<-h b,iG,al (eC e)]
def putsL(R a:List (α×β)):List (α×β):=a.foldl (λR e=>putL R e.1 e.2) R
def JS(e:α×β)(a:List (α×β)):putsL R (e::a)=putsL (putL R e.1 e.2) a:=rfl
def JR(e:α×β)(a:List (α×β)):putsL R (a++[e])=putL (putsL R a) e.1 e.2:=by unfold putsL;rw[uc];rfl
def dR.putsL(h:dR R)(a:List (α×β)):dR (putsL R a):=by
 induction a generalizing R with
 |nil=>exact h
 |cons e a ih=>exact ih (h.putL e.1 e.2)
def iF(a b:α)(v:β):lk (putL R a v) b=if b=a then some v else lk R b:=by by_cases e:b=a;subst e;rw[av rfl,Jj];rw[al e,ZB R v e]
def DT{b:List (α×β)}(h:dR b)(x:α):lk (putsL R b) x=match lk b x with
  |some v=>some v
  |none=>lk R x:=by
 induction b generalizing R with
 |nil=>rfl
 |cons e b ih=>
  obtain⟨a,v⟩:=e;obtain⟨d,c⟩:=n9.1 h;rw[JS,ih c,iF,iG];by_cases e:x=a
  ·subst e;have g:lk b x=none:=by
    cases f:lk b x with
    |none=>rfl
    |some u=>exact absurd O (d (x,u) (dX f))
   rw[g,av rfl,av rfl]
  rw[al e,al (eC e)]
def DU(g:α->β)(b:List α)(x:α):lk (putsL R (b.map λid=>(id,g id))) x=if x∈b then some (g x)else lk R x:=by
 induction b generalizing R with
 |nil=>rfl
 |cons a r ih=>rw[cW,JS,ih,iF];by_cases c:x∈r;rw[av c,av (dC _ c)];rw[al c];by_cases e:x=a;subst e;rw[av rfl,av cz];rw[al e,al (by simp[e,c])]
def aay{b c:List (α×β)}(d:dR R)(h:dR b)(p:b.Perm c):(putsL R b).Perm (putsL R c):=
 yO (d.putsL b) (d.putsL c) λa=>by rw[DT h,DT (h.perm p),Se h p]
def Z3(g:α->β)(b:List α)(c:dR R):(putsL R (putsL [] (b.map λid=>(id,g id)))).Perm (putsL R (b.map λid=>(id,g id))):=by have d:dR (putsL ([]:List (α×β)) (b.map λid=>(id,g id))):=dR.putsL (vx) _;refine yO (c.putsL _) (c.putsL _) λa=>?_;rw[DT d,DU,DU];by_cases h:a∈b;rw[av h,av h];rw[al h,al h];rfl
end
def KJ(m:aG)(turn:(Nat->Int)->Int×(Nat->Int))(l:List Int):jv m turn l=putsL m.ri (l.map λid=>(id,(turn (m.r id)).2)):=by unfold jv putsL;rw[List.foldl_map]
def Js{m:aG}:∀{l:List Int} {k:Nat} {x:Int},(∀id∈l.take k,(turn (m.r id)).1=0)->l[k]? =some x->(turn (m.r x)).1≠0->jw m turn l=(turn (m.r x)).1
 |[],k,x,_,h,_=>by simp at h
 |a::l,0,x,_,h,hx=>by simp at h;subst h;unfold jw;rw[al hx]
 |a::l,k+1,x,h0,h,hx=>by unfold jw;rw[av (h0 a ah)];exact Js (k:=k) (λid b=>h0 id (by simp[b])) (az h) hx
def Jt{m:aG}:∀{l:List Int},(∀id∈l,(turn (m.r id)).1=0)->jw m turn l=0
 |[],_=>rfl
 |a::l,h=>by unfold jw;rw[av (h a ah)];exact Jt λid b=>h id (by simp[b])
def K7(v:an)(k:Nat)(a:k<6):gG (v.set k (v.get k+1))=gG v+1:=
 an.six (P:=λk=>gG (v.set k (v.get k+1))=gG v+1) (by simp only[gG,an.set,an.get];omega) (by simp only[gG,an.set,an.get];omega) (by simp only[gG,an.set,an.get];omega) (by simp only[gG,an.set,an.get];omega) (by simp only[gG,an.set,an.get];omega) (by simp only[gG,an.set,an.get];omega) k a
def zo(v:an)(k j:Nat)(b:k<6)(a:j<6)(x:Int):(v.set k x).get j=if j=k then x else v.get j:=
 an.six (P:=λk=>(v.set k x).get j=if j=k then x else v.get j)
  (an.six (P:=λj=>(v.set 0 x).get j=if j=0 then x else v.get j) O O O O O O j a) (an.six (P:=λj=>(v.set 1 x).get j=if j=1 then x else v.get j) O O O O O O j a)
  (an.six (P:=λj=>(v.set 2 x).get j=if j=2 then x else v.get j) O O O O O O j a) (an.six (P:=λj=>(v.set 3 x).get j=if j=3 then x else v.get j) O O O O O O j a)
  (an.six (P:=λj=>(v.set 4 x).get j=if j=4 then x else v.get j) O O O O O O j a) (an.six (P:=λj=>(v.set 5 x).get j=if j=5 then x else v.get j) O O O O O O j a) k b
structure Im(m m':aG):Prop where
 kn:m'.kn=m.kn
 tr:jg m'.tr
 ow:∀k,k<6->0<=m'.ow.get k/\m'.ow.get k<=5
 ri:∀x∈m'.ri,dx x.2
 pu:∀x∈m'.pa,0<=x.2/\x.2<=18446744073709551615
 gl:m'.gr.length<=m.gr.length+1
 gk:∀x∈m'.gr,x.1=(x.2.o,x.2.r)/\m'.aeT x.1=true
 gb:∀x∈m'.gr,x.2.b≠0->m'.aeT (x.2.o,x.2.b)=true
 gu:∀x∈m'.gr,∀y∈m'.gr,x.2.o=y.2.o->y.2.b≠0->x.2.r≠y.2.b/\(x.2.b=y.2.b->x=y)
 gi:∀x∈m'.gr,(1<=x.2.o/\x.2.o<=6)/\(0<x.2.r/\x.2.r<=18446744073709551615)/\(0<=x.2.n/\x.2.n<=18446744073709551615)/\(1<=x.2.a/\x.2.a<=1125899906842624)/\(0<=x.2.b/\x.2.b<=18446744073709551615)
def aG.ok.kept{m:aG}(h:m.ok):Im m m:=⟨O,h.tr,h.ow,h.ri,h.pu,V,h.gk,h.gb,h.gu,h.gi⟩
def KW{α β:Type}[DecidableEq α](L:List (α×β))(a:α)(v:β):(putL L a v).length<=L.length+1:=by unfold putL dropL;rw[dN];have:=List.length_filter_le (λx:α×β=>decide (x.1≠a)) L;omega
def aac{m m':aG}(h:m.ok){o r n a:Int}(p:m.aeT (o,r)=false)(v:m'.gr=putL m.gr (o,r) ⟨o,r,n,a,0⟩)(s:m'.qs=putL m.qs (o,r) true)(l:1<=o/\o<=6)(u:0<r/\r<=18446744073709551615)(w:0<=n/\n<=18446744073709551615)(t:1<=a/\a<=1125899906842624):
  (∀x∈m'.gr,x.1=(x.2.o,x.2.r)/\m'.aeT x.1=true)/\(∀x∈m'.gr,x.2.b≠0->m'.aeT (x.2.o,x.2.b)=true)/\(∀x∈m'.gr,∀y∈m'.gr,x.2.o=y.2.o->y.2.b≠0->x.2.r≠y.2.b/\(x.2.b=y.2.b->x=y))/\
  (∀x∈m'.gr,(1<=x.2.o/\x.2.o<=6)/\(0<x.2.r/\x.2.r<=18446744073709551615)/\(0<=x.2.n/\x.2.n<=18446744073709551615)/\(1<=x.2.a/\x.2.a<=1125899906842624)/\(0<=x.2.b/\x.2.b<=18446744073709551615)):=by
 have i:∀y,m'.aeT y=if y=(o,r)then true else m.aeT y:=λy=>by unfold aG.aeT;rw[s,iF];by_cases e:y=(o,r);rw[av e,av e];rfl;rw[al e,al e]
 have k:∀y,m.aeT y=true->m'.aeT y=true:=λy g=>by rw[i];split<;>simp[g]
 have c:∀x,x∈m'.gr↔x=((o,r),⟨o,r,n,a,0⟩)\/(x∈m.gr/\x.1≠(o,r)):=λx=>by rw[v,lH]
 refine⟨λx d=>?_,λx d f=>?_,λx d y g j f=>?_,λx d=>?_⟩;rcases(c x).1 d with rfl|⟨d,-⟩;exact⟨rfl,by rw[i,av rfl]⟩;exact⟨(h.gk x d).1,k _ (h.gk x d).2⟩;rcases(c x).1 d with rfl|⟨d,-⟩;exact absurd rfl f;exact k _ (h.gb x d f)
 ·rcases(c y).1 g with rfl|⟨g,hyk⟩;exact absurd rfl f;rcases(c x).1 d with rfl|⟨d,hxk⟩
  ·refine⟨λe=>?_,λe=>absurd e.symm f⟩;have:=h.gb y g f;rw[<-j]at this;simp only at e this;rw[<-e,p]at this;cases this
  exact h.gu x d y g j f
 rcases(c x).1 d with rfl|⟨d,-⟩;exact⟨l,u,w,t,ah⟩;exact h.gi x d
def aad{m m':aG}(h:m.ok){o r f:Int}{g:cI}(B:m.aeT (o,r)=false)(w:((o,f),g)∈m.gr)(J:g.b=0)(F:m'.gr=putL m.gr (o,f) {g with b:=r})(C:m'.qs=putL m.qs (o,r) true)(R:0<r/\r<=18446744073709551615):
  (∀x∈m'.gr,x.1=(x.2.o,x.2.r)/\m'.aeT x.1=true)/\(∀x∈m'.gr,x.2.b≠0->m'.aeT (x.2.o,x.2.b)=true)/\(∀x∈m'.gr,∀y∈m'.gr,x.2.o=y.2.o->y.2.b≠0->x.2.r≠y.2.b/\(x.2.b=y.2.b->x=y))/\
  (∀x∈m'.gr,(1<=x.2.o/\x.2.o<=6)/\(0<x.2.r/\x.2.r<=18446744073709551615)/\(0<=x.2.n/\x.2.n<=18446744073709551615)/\(1<=x.2.a/\x.2.a<=1125899906842624)/\(0<=x.2.b/\x.2.b<=18446744073709551615)):=by
 have v:∀y,m'.aeT y=if y=(o,r)then true else m.aeT y:=λy=>by unfold aG.aeT;rw[C,iF];by_cases e:y=(o,r);rw[av e,av e];rfl;rw[al e,al e]
 have A:∀y,m.aeT y=true->m'.aeT y=true:=λy l=>by rw[v];split<;>simp[l]
 have d:∀x,x∈m'.gr↔x=((o,f),{g with b:=r})\/(x∈m.gr/\x.1≠(o,f)):=λx=>by rw[F,lH]
 have t:=h.gk _ w;have s:o=g.o/\f=g.r:=az t.1;obtain⟨u,G⟩:=s;have i:∀x∈m.gr,x.2.o=o->x.2.r≠r/\(x.2.b≠0->x.2.b≠r):=λx c p=>by
  refine⟨λe=>?_,λk e=>?_⟩
  ·have:=(h.gk x c).2;rw[(h.gk x c).1,p,e,B]at this;cases this
  have:=h.gb x c k;rw[p,e,B]at this;cases this
 refine⟨λx c=>?_,λx c k=>?_,λx c y l p k=>?_,λx c=>?_⟩;rcases(d x).1 c with rfl|⟨c,-⟩;exact⟨by simp only[u,G],A _ t.2⟩;exact⟨(h.gk x c).1,A _ (h.gk x c).2⟩;rcases(d x).1 c with rfl|⟨c,-⟩;show m'.aeT (g.o,r)=true;rw[v,<-u,av rfl];exact A _ (h.gb x c k)
 ·rcases(d y).1 l with rfl|⟨l,hyk⟩
  ·rcases(d x).1 c with rfl|⟨c,hxk⟩;refine⟨?_,λ_=>rfl⟩;have:=(i _ w u.symm).1;simpa using this;have j:x.2.o=o:=by rw[p];exact u.symm
   refine⟨(i x c j).1,λe=>?_⟩;have e:x.2.b=r:=e;exact absurd e ((i x c j).2 V)
  rcases(d x).1 c with rfl|⟨c,hxk⟩
  ·have j:y.2.o=o:=by rw[<-p];exact u.symm
   refine⟨?_,λe=>?_⟩;have:=h.gu _ w y l (az p) k;exact this.1;have e:r=y.2.b:=e;exact absurd e.symm ((i y l j).2 k)
  exact h.gu x c y l p k
 rcases(d x).1 c with rfl|⟨c,-⟩;obtain⟨P,E,K,L,Q⟩:=h.gi _ w;exact⟨P,E,K,L,by simp only;omega⟩;exact h.gi x c
def Kq{m:aG}(h:∀x∈m.ri,dx x.2)(c:∀f,dx f->dx (turn f).2)(d:∀id,dx (m.r id))(l:List Int):∀x∈jv m turn l,dx x.2:=by
 unfold jv
 suffices hs:∀(l:List Int) (R:List (Int×(Nat->Int))),(∀x∈R,dx x.2)->∀x∈l.foldl (λR id=>putL R id (turn (m.r id)).2) R,dx x.2 from hs l m.ri h
 intro l
 induction l with
 |nil=>intro R b;exact b
 |cons id l ih=>intro R b;rw[List.foldl_cons];refine ih _ λx a=>?_;rcases lH.1 a with rfl|⟨a,-⟩;exact c _ (d id);exact b x a
def E0{R:List (Int×(Nat->Int))}(h:∀x∈R,dx x.2)(id:Int){f:Nat->Int}(b:dx f):∀x∈putL R id f,dx x.2:=λx a=>by rcases lH.1 a with rfl|⟨a,-⟩;exact b;exact h x a
def wL(o s:Int):0<=bg o s/\bg o s<=18446744073709551615:=by unfold bg;split<;>omega
def Dl{m:aG}(h:m.ok)(A:bG e=true)(v:e.ok):Im m (eU m e).2:=by
 have i:=iH A;have t:e.w<6:=by unfold z.w;have:=i.o1;have:=i.o2;omega
 have J:e.to_<6:=by unfold z.to_;have:=i.t1;have:=i.t2;omega
 have l:ib e=true:=by unfold bG at A;simp only[bZ]at A;exact A.2.1
 have c:=h.kept;unfold eU;split
 ·rename_i X;unfold qz;split;exact c;split;exact c;rename_i s p;have K:=h.ow e.w t;refine⟨O,h.tr.add (wL _ _) v.n,λk u=>?_,E0 h.ri _ (dx.aeU.set _ i.a1 (aA i.a2)),λx F=>?_,by show m.gr.length<=_;omega,h.gk,h.gb,h.gu,h.gi⟩
  ·show 0<=(m.ow.set e.w (m.ow.get e.w+1)).get k/\(m.ow.set e.w (m.ow.get e.w+1)).get k<=5;rw[zo _ _ _ t u];split;omega;exact h.ow k u
  rcases lH.1 F with rfl|⟨F,-⟩;exact v.n;exact h.pu x F
 split
 ·unfold qu;split;exact c;split;exact c;rename_i s p;refine⟨O,h.tr,h.ow,E0 h.ri _ ((h.r e.n).set _ (by have:=(h.r e.n e.w V).1;have:=i.a1;omega) V),h.pu,by show m.gr.length<=_;omega,h.gk,h.gb,h.gu,h.gi⟩
 split
 ·rename_i L;have R:(1<=e.a/\e.a<=1125899906842624)/\1<=e.r:=by have d:=l;unfold ib pt at d;simp[L]at d;omega
  unfold na;split;exact c;split;exact c;split;exact c;rename_i s p Q;have C:m.aeT (e.o,e.r)=false:=az s;have P:=v.r;have j:=aac (m':={m with ri:=jv m (λf=>fQ f e.w e.a) (aL m.tr e.n),qs:=putL m.qs (e.o,e.r) true,gr:=putL m.gr (e.o,e.r) ⟨e.o,e.r,e.n,e.a,0⟩}) h C O O ⟨i.o1,i.o2⟩ ⟨V,V⟩ v.n R.1;exact⟨O,h.tr,h.ow,Kq h.ri (λf l=>l.take t _) h.r _,h.pu,KW _ _ _,j.1,j.2.1,j.2.2.1,j.2.2.2⟩
 split
 ·rename_i T;have f4:(1<=e.r/\1<=e.f)/\e.r≠e.f:=by have d:=l;unfold ib at d;simp[T]at d;omega
  unfold nh;split;exact c;split;exact c;split;exact c;rename_i s p Q;have C:m.aeT (e.o,e.r)=false:=az s;have P:=v.r;obtain⟨g,G⟩:∃g,lk m.gr (e.o,e.f)=some g:=by
   cases W:lk m.gr (e.o,e.f)with
   |none=>exact absurd (gO (by rw[W];rfl)) p
   |some g=>exact⟨g,O⟩
  have y:m.g (e.o,e.f)=g:=by unfold aG.g;rw[G];rfl
  have E:g.b=0:=by refine yh λB=>p (jk ?_);rw[y];exact B
  rw[y];have j:=aad (m':={m with ri:=jv m (λf=>fR f e.w g.a) (aL m.tr g.n),qs:=putL m.qs (e.o,e.r) true,gr:=putL m.gr (e.o,e.f) {g with b:=e.r}}) h C (dX G) E O O ⟨V,V⟩;exact⟨O,h.tr,h.ow,Kq h.ri (λf l=>l.free t _) h.r _,h.pu,KW _ _ _,j.1,j.2.1,j.2.2.1,j.2.2.2⟩
 split
 ·unfold qx;split;exact c;split;exact c;split;exact c;exact⟨O,h.tr,h.ow,E0 h.ri _ ((h.r e.n).move t J _),h.pu,by show m.gr.length<=_;omega,h.gk,h.gb,h.gu,h.gi⟩
 split
 exact⟨O,h.tr,h.ow,h.ri,h.pu,by show m.gr.length<=_;omega,h.gk,h.gb,h.gu,h.gi⟩;exact⟨O,h.tr,h.ow,h.ri,h.pu,by show m.gr.length<=_;omega,h.gk,h.gb,h.gu,h.gi⟩
def wm{m:aG}(h:(ev m e).1=0):bG e=true/\m.kn.get e.w=e.s-1/\m.inn e.w=true/\m.inn (6+e.w)=false/\ev m e=eU m e:=by
 unfold ev at h⊢;split at h
 ·cases h
 rename_i f;split at h
 ·cases h
 rename_i i;split at h
 ·cases h
 rename_i g;split at h
 ·cases h
 rename_i b;have c:bG e=true:=az f;have a:ka m.kn e=true:=az g;have j:m.kn.get (e.o-1).toNat=e.s-1:=by unfold ka at a;simp only[bZ,eN]at a;exact a.2.1
 refine⟨c,j,?_,?_,?_⟩
 ·cases d:m.inn e.w with
  |true=>rfl
  |false=>exact absurd (gO d) b
 ·cases d:m.inn (6+e.w)with
  |false=>rfl
  |true=>exact absurd (jk d) b
 rw[al f,al i,al g,al b]
def DF{m:aG}(h:m.ok)(i:e.ok):(cU m e).2.ok:=by
 unfold cU;split
 ·rename_i l;obtain⟨f,g,-,-,c⟩:=wm l;have b:=iH f;have a:e.w<6:=by unfold z.w;have:=b.o1;have:=b.o2;omega
  have K:=Dl h f i;rw[c];generalize (eU m e).2=m' at K⊢;have n:=h.kn e.w a;have j:=b.s2;refine⟨K.tr,λk d=>?_,K.ow,K.ri,K.pu,?_,K.gk,K.gb,K.gu,K.gi⟩
  ·show 0<=(m'.kn.set e.w (m'.kn.get e.w+1)).get k/\(m'.kn.set e.w (m'.kn.get e.w+1)).get k<1099511627776;rw[K.kn,zo _ _ _ a d];split;omega;exact h.kn k d
  show(m'.gr.length:Int)<=gG (m'.kn.set e.w (m'.kn.get e.w+1));rw[K7 _ _ a,K.kn];have:=K.gl;have:=h.gl;omega
 exact h
def Kp{m:aG}(h:m.ok)(g:e.ok):gG (cU m e).2.kn<=gG m.kn+1:=by
 unfold cU;split
 ·rename_i i;obtain⟨b,f,-,-,a⟩:=wm i;have c:=iH b;have d:e.w<6:=by unfold z.w;have:=c.o1;have:=c.o2;omega
  have K:=Dl h b g;rw[a];show gG ((eU m e).2.kn.set e.w ((eU m e).2.kn.get e.w+1))<=_;rw[K7 _ _ d,K.kn];omega
 show gG m.kn<=_;omega
def fC(m:aG):List z->Option aG
 |[]=>some m
 |e::L=>if(cU m e).1=0 then fC (cU m e).2 L else none
def Es(m:aG)(L aeL:List z):fC m (L++aeL)=(fC m L).bind λa=>fC a aeL:=by
 induction L generalizing m with
 |nil=>rfl
 |cons e L ih=>show(if(cU m e).1=0 then fC (cU m e).2 (L++aeL)else none)=(if(cU m e).1=0 then fC (cU m e).2 L else none).bind _;split;exact ih _;rfl
def LI(m:aG)(e:z):fC m [e]=if(cU m e).1=0 then some (cU m e).2 else none:=rfl
def DG{m a:aG}{L:List z}(h:fC m L=some a)(b:(cU a e).1=0):fC m (L++[e])=some (cU a e).2:=by rw[Es,h];show fC a [e]=_;rw[LI,av b]
def Nr{m a:aG}{L:List z}{j:Nat}(h:fC m (L.take j)=some a)(c:L[j]? =some e):((cU a e).1=0->fC m (L.take (j+1))=some (cU a e).2)/\((cU a e).1≠0->fC m L=none):=by
 refine⟨λb=>?_,λb=>?_⟩;rw[gP,c];exact DG h b;have d:L=L.take j++(e::L.drop (j+1)):=by
  conv=>lhs;rw[<-lV j L,List.drop_eq_getElem_cons (fN.1 c).1]
  rw[(fN.1 c).2]
 rw[d,Es,h];show fC a (e::L.drop (j+1))=none;show(if(cU a e).1=0 then _ else none)=none;rw[al b]
section
variable{w:D}{base:Nat}{v:H}{l:List Int}
def TY(h:gI w base v l)(W:l.length<=1000000)(x:Int):Calls prog 367 #[v,q x] w λr L=>∃n:Int,r=.returned (Z n)/\(0<=n↔x∈l)/\w=L:=by
 obtain⟨A,c,rfl,X,hm⟩:=h.sl;have p:=U h;clear h;go_wp2;go_loop [8] (λi=>∃k:Nat,k<=l.length/\i=Z k/\x∉l.take k) (λi=>l.length-(intOf i).toNat);exact⟨0,V,O,ah⟩;obtain⟨k,T,rfl,u⟩:=hrel;by_cases B:k<l.length
 ·obtain⟨y,J⟩:∃y,l[k]? =some y:=⟨l[k],bY B⟩;obtain⟨g,F,K,m,G,R,Q⟩:=p.o.sl_pos V;have f:=p.o;rw[K]at f;have s:=f.rng kV J;obtain⟨rfl,E⟩:A=some (I g 0)/\c=F:=by injection K with a b c;exact⟨a,c⟩
  have P:w.cell? (I g k)=some (q y):=by have this:=s 0 (q y) O;rw[iP]at this;exact this
  have t:=aB u J;clear f s K m G E u J;by_cases d:x=y
  ·have C:(x==y)=true:=by simp[d]
   have j:=U d;clear d;go_wp2;go_ret;exact⟨_,O,⟨λ_=>j.o▸cX t.o.2,λ_=>V⟩,O⟩
  have C:(x==y)=false:=az d;have j:=U d;clear d;go_wp2;go_round;refine⟨k+1,V,ah,λhm=>?_⟩;rw[gP,t.o.2]at hm;rcases bP.1 hm with hm|hm;exact t.o.1 hm;exact j.o (az hm);simp[intOf];omega
 obtain rfl:k=l.length:=V;have t:=U u;clear u;go_wp2;go_ret;refine⟨_,O,⟨λh=>V,λh=>?_⟩,O⟩;have:=t.o;rw[jt]at this;exact absurd h this
def Nq(h:gI w base v l)(g:l.length<=1000000)(x:Int)(b:Bool)(a:decide (x∈l)=b):Calls prog 356 #[v,q x] w λr d=>r=.returned (.bool b)/\w=d:=by have i:=U (TY h g x);have f:=U a;obtain⟨A,c,rfl,p,k⟩:=h.sl;clear h a;go_in;go_wp2_with fail;apply i.o.mono;rintro r m ⟨n,rfl,j,rfl⟩;go_wp2;go_ret;refine⟨?_,O⟩;rw[<-f.o];simp[j]
end
