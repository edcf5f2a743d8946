import Derived.Test.YtghdobdjfnimmaaGreatDoorZ11
import Derived.Deep.LoopGhost
set_option maxRecDepth 100000
set_option maxHeartbeats 0
set_option linter.all false
namespace Go.Proofs.YtghdobdjfnimmaaGreatDoor
open Go.Proofs.Tryz
variable{e:Ev}{turn:(Nat->Int)->Int×(Nat->Int)}
section
open Go.RowKit Go
section
variable{w:Yu}{t tm:Nat}{T:List (Int×Int)}
def oS(w:Yu)(t tm:Nat)(T:List (Int×Int))(x p:Int)(r:Ending)(w':Yu):Prop:=r=.returned (.int .i64 (tx T x p))/\cV w' t tm (lN T x p)/\Fr w w' tm none
theorem oS.no{x p e:Int}{w':Yu}(h:cV w t tm T)(d:tx T x p=e)(c:e≠0)(f:Ys w w'):oS w t tm T x p (.returned (.int .i64 e)) w':=by
 refine⟨by rw[d],?_,Fr.of_below f⟩;unfold lN;rw[Vf (by rw[d];exact c)];exact h.call f
theorem FT(h:cV w t tm T)(V:tO T){x p:Int}(P:aT x)(O:aT p):Yt 311 #[Yr t,.int .u64 x,.int .u64 p] w (oS w t tm T x p):=by
 have d:=U9 (show tx T x p=if x=0 then 1 else if(lk T x).isSome then 14 else if p≠0/\(lk T p).isSome=false then 9 else if 32<=T.length\/4<=(aC T p).length then 6 else 0 from rfl);have C:=U9 (λ(w':Yu) (e:Int) (he:tx T x p=e) (I:e≠0) (hb:Ys w w')=>oS.no (w':=w') h he I hb);have F:=U9 h;obtain⟨q,-⟩:=h.blk.rules;have x0:=P.1;have p0:=O.1;by_cases f:x=0
 ·have d0:(x==0)=true:=by simp[f]
  rw[Vh f]at d;clear f h;go_enter func311,ntmps311;go_wp2_with fail;go_ret;exact C.o _ _ d.o (by decide) (Vd _ _)
 have d0:(x==0)=false:=by simp[f]
 rw[Vf f]at d;obtain⟨b1,y⟩:∃b,(lk T x).isSome=b:=⟨_,rfl⟩;have D:=U9 (BH h P b1 y);rw[y]at d;obtain⟨b2,v⟩:∃b,(lk T p).isSome=b:=⟨_,rfl⟩;have G:=U9 (BH h O b2 v);rw[v]at d;have S:=U9 (yn h V O);clear y v f h;rcases(show b1=true\/b1=false from by cases b1<;>simp)with rfl|rfl
 ·go_enter func311,ntmps311
  go_wp2_with fail;refine D.o.mono ?_;rintro r s ⟨rfl,rfl⟩;go_wp2_with fail;go_ret;exact C.o _ _ d.o (by decide) (Vd _ _)
 have i:((p !=0)=false\/((p !=0)=true/\b2=true))\/((p !=0)=true/\b2=false):=by
  by_cases E:p=0
  ·left;left;simp[E]
  ·have e:(p !=0)=true:=by simp[E]
   cases b2
   ·exact .inr ⟨e,rfl⟩
   ·exact .inl (.inr ⟨e,rfl⟩)
 rcases i with i|⟨H,rfl⟩;rotate_left
 ·have X:p≠0:=by simpa using H
  rw[Vf (by simp),Vh ⟨X,rfl⟩]at d;clear X;go_enter func311,ntmps311;go_wp2_with fail;refine D.o.mono ?_;rintro r s ⟨rfl,rfl⟩;go_wp2_with fail;refine G.o.mono ?_;rintro r s ⟨rfl,rfl⟩;go_wp2_with fail;go_ret;exact C.o _ _ d.o (by decide) (Vd _ _)
 rw[Vf (by simp),Vf (by
  rintro⟨y,v⟩;rcases i with e|⟨_,e⟩
  ·exact y (by simpa using e)
  ·rw[e]at v;cases v)]at d
 have W:∀ty,(Builtin.len_ #[165] ty #[.map (some tm)]).run prog w=.ok (.int .i64 T.length) w:=λty=>F.o.map.len nc ty
 have U:(T.length:Int)<=32:=by have:=V.le;omega
 have B:=U9 (dV T p);generalize aC T p=L at d S B;have Y:∀R:Prop,(∀(e:(p !=0)=false),R)->(∀(e:(p !=0)=true),b2=true->R)->R:=λR r1 r2=>by
  rcases i with e|⟨e,N⟩
  ·exact r1 e
  ·exact r2 e N
 refine Y _ (λH=>?_) (λH N=>?_);rotate_left;subst N
 all_goals
  clear Y i;by_cases z:32<=T.length
  ·have Z:decide (32<=(T.length:Int))=true:=by simp;omega
   rw[Vh (.inl z)]at d;clear z;go_enter func311,ntmps311;go_wp2_with fail;refine D.o.mono ?_;rintro r s ⟨rfl,rfl⟩;go_wp2_with fail
   try
    refine G.o.mono ?_;rintro r s ⟨rfl,rfl⟩;go_wp2_with fail
   go_ret;exact C.o _ _ d.o (by decide) (Vd _ _)
  have Z:decide (32<=(T.length:Int))=false:=by simp;omega
  go_enter func311,ntmps311;go_wp2_with fail;refine D.o.mono ?_;rintro r s ⟨rfl,rfl⟩;go_wp2_with fail
  try
   with_reducible refine G.o.mono ?_
   rintro r s ⟨rfl,rfl⟩;go_wp2_with fail
  refine S.o.mono ?_;rintro r w2 ⟨u,rfl,j,g⟩;obtain⟨A,c,rfl,δ,γ⟩:=j.sl;have HR:=U9 j;clear j D G S;have hL:(L.length:Int)<=32:=by have:=B.o;omega
  obtain⟨w3,bQ,l,k⟩:=(F.o.call g).map.put nc P p;have n:(Instr.mapUpdate 165 (.map (some tm)) (.int .u64 x) (.int .u64 p)).run prog w2=.ok () w3:=bQ;have hq:=((F.o.call g).blk.rules).1;by_cases K:4<=L.length
  ·have d4:decide (4<=(L.length:Int))=true:=by simp;omega
   rw[Vh (.inr K)]at d;clear K bQ n k l;go_wp2_with fail;go_ret;exact C.o _ _ d.o (by decide) g
  ·have d4:decide (4<=(L.length:Int))=false:=by simp;omega
   rw[Vf (by omega)]at d;have J:=U9 (Vb l k);clear K bQ k l;go_wp2_with fail;go_ret;refine⟨by rw[d.o];rfl,?_,(Fr.of_below g).trans J.o.2⟩;unfold lN;rw[Vh d.o];refine⟨J.o.2.blk (F.o.call g).blk F.o.ne (by simp),?_⟩;have e:=J.o.1;rw[show putL T x p=(x,p)::T from by
    unfold putL;rw[jr (se d.o).2.1]]at e
   exact e
end
@[go_sem] theorem RF(x:Int):Be.kc x=.int .u64 x:=rfl
@[go_sem] theorem RE(x:Int):Be.vc x=.int .u64 x:=rfl
theorem ah.belowB{F:Nat->Prop}{w w':Yu}(a:ah F w w'){B:Nat}(h:∀k,k<w.heap.size->F k->B<=k)(f:B<=w.heap.size):Below B w w':=
 ⟨a.os,a.tape,a.output,a.size,λk d=>a.block k (by omega) λc=>by have:=h k (by omega) c;omega⟩
theorem wD{L M:List Int}(p:L.Perm M):jM L=jM M:=by
 have d:∀X:List Int,(jM X).Pairwise (λa b=>a<=b):=λX=>by
  have:=List.pairwise_mergeSort (le:=λa b:Int=>decide (a<=b)) (by intro a b c f g;simp at*;omega) (by intro a b;simp;omega) X;exact this.imp (by intro a b h;simpa using h)
 refine List.Perm.eq_of_pairwise (le:=λa b:Int=>a<=b) ?_ (d L) (d M) ?_
 ·intro a b _ _ f g;omega
 ·exact(WF _ _).trans (p.trans (WF _ _).symm)
section
variable{α β:Type}[DecidableEq α]{m:MT α β}{w:Yu}{b r:Nat}{L left kept:List (α×β)}
variable{ops:Array Oper}{rest:List Oper}{o:Oper}{a:Act}{Q:Exit->Act->Yu->Prop}
theorem dL(H:m.Ok)(p:o.guard=none)(g:Yx)(f:o.op=Op.range m.T g)(j:a.eval g=.map (some b))(h:aZ m w b L)
  (n:∀w',cq m w' b w.heap.size L []->Ys w w'->w'.heap.size=w.heap.size+1->wpList prog ops Q rest (a.put o.dst (Yr w.heap.size)) w'):wpList prog ops Q (o::rest) a w:=by
 refine Xo p λq d=>?_
 obtain⟨w',c,l,i,k⟩:=h.range H;unfold Oper.wp;simp[execOp,f,j,c,Result.andThen];exact d _ _ (n w' l i k)
omit [DecidableEq α]in
theorem d8(v:o.guard=none)(p:Yx)(j:o.op=Op.next p false)(k:a.eval p=.pointer (some ⟨r,0,none⟩))(h:cq m w b r left kept)
  (g:left=[]->wpList prog ops Q rest (a.put o.dst (.tuple #[.bool false])) w)
  (i:∀e c w',left.Perm (e::c)->cq m w' b r c (e::kept)->Fr w w' r none->(Instr.entry (Yr r)).run prog w'=.ok (.tuple #[m.kc e.1,m.vc e.2]) w'->
   wpList prog ops Q rest (a.put o.dst (.tuple #[.bool true,m.kc e.1,m.vc e.2])) w'):wpList prog ops Q (o::rest) a w:=by
 refine Xo v λx l=>?_
 unfold Oper.wp;rcases h.next o.type with⟨u,d⟩|⟨e,c,w',q,d,s,f,n⟩
 ·simp[execOp,j,k,d,Result.andThen]
  exact l _ _ (g u)
 ·simp[execOp,j,k,d,Result.andThen]
  exact l _ _ (i e c w' q s f n)
end
section
variable{w:Yu}{t tm:Nat}{T:List (Int×Int)}
theorem J1(x:Int)(w:Yu):Yt 76 #[.int .u64 x] w λr w'=>r=.returned (.bool true)/\w=w':=by
 go_enter func76,ntmps76;go_wp2_with fail;go_ret;exact⟨rfl,rfl⟩
structure Tb(w:Yu)(t tm r:Nat)(T left kept:List (Int×Int))(v:Yv)(ks:List Int)(W:Yu):Prop where
 rg:cq Be W tm r left kept
 row:ij W (w.heap.size+1) v ks
 ks:ks.Perm (kept.map (·.1))
 pm:T.Perm (left++kept)
 below:Ys w W
 sz:w.heap.size+1<=W.heap.size
def vY(w:Yu)(T:List (Int×Int))(r:Ending)(w':Yu):Prop:=∃u,r=.returned u/\ij w' w.heap.size u (cS T)/\Ys w w'
theorem JZ(h:cV w t tm T)(hl:T.length<=49):Yt 75 #[Yr t,.func (.func 76) #[] #[]] w (vY w T):=by
 obtain⟨q,-⟩:=h.blk.rules;have HM:=U9 h.map;have ζ:=h.map.lt;have C1:=U9 J1;clear h;go_enter func75,ntmps75;go_wp2_with (first|(at_range;refine dL nc rfl _ rfl rfl HM.o ?_;intro w0 u K U))
 go_frame
 have A0:Tb w t tm w.heap.size T T [] (.slice none 0 0) [] w0:=⟨u,Row.nil,WP _,by simp,K,by omega⟩;clear u K U q HM
 go_loopg [4] T.length (λg v wr=>∃left kept B,left.length=g/\Tb w t tm w.heap.size T left kept v B wr)
 case atStart=>exact⟨T,[],[],rfl,A0⟩
 case round=>
  obtain⟨left,kept,B,O,A⟩:=hrel;clear A0;go_wp2_with (first|(at_next;refine d8 rfl _ rfl rfl A.rg ?_ ?_))
  ·intro S
   obtain rfl:=S;have G:B.length<=49:=by have I:=A.ks.length_eq;have P:=A.pm.length_eq;simp at I P;omega
   obtain⟨A1,c1,rfl,γ,X⟩:=A.row.sl;have C2:=U9 (NJ A.row G);have D:=U9 A;clear A O;go_wp2_with fail;refine C2.o.mono ?_;rintro r y ⟨rfl,d,j⟩;go_wp2_with fail;go_ret;refine⟨_,rfl,?_,?_⟩
   ·have e:jM B=cS T:=by
     refine wD (D.o.ks.trans ?_);have:=D.o.pm;rw[V8]at this;exact(this.map _).symm
    rw[<-e];exact db d (Wa _ _)
   ·exact D.o.below.trans ((ah.of_grown (F:=λk=>w.heap.size<=k) j (λk H=>by have:=(D.o.row.ge k H).1;omega)).belowB (λk _ h=>h) D.o.below.size)
  ·intro n ep f y W i s δ
   have C:f.length+1=left.length:=by have:=W.length_eq;simpa using this.symm
   have G:B.length<=1000:=by have I:=A.ks.length_eq;have P:=A.pm.length_eq;simp at I P;omega
   have z:u4.ownBlock≠some w.heap.size:=λe=>by have:=(A.row.ge _ e).1;omega
   have d:=s.own A.row z (by cases u4.ownBlock<;>simp);have p:=s.below A.below (Vc _) (λ_ h=>by cases h);have ε:=Vi A.sz s.size;have Z:Ys y (y.alloc (.cells #[.int .u64 n] 32)):=(Vd _ _).alloc (Vc _) _;obtain⟨v',w3,N,l,V,j,hf⟩:=ij.app (w:=y.alloc (.cells #[.int .u64 n] 32)) (cap:=1) 172 (Row.call d Z) (dU (c:=o4) cY (x:=n) (ai.new y 32 (o4 n))) (by simp;omega) (by simp;omega);simp only[VB,VR,Vk]at N;have E:∀{k:Nat},k<y.heap.size->u4.ownBlock≠some k->w3.heap[k]? =y.heap[k]?:=λ{k} H hn=>by
    rw[j.block k (by simp;omega) (λe=>hn e.symm)];exact WK y _ k H
   have J:Tb w t tm w.heap.size T f ((n,ep)::kept) v' (B++[n]) w3:=by
    refine⟨i.same (E i.map.lt λe=>?_) (E i.lt z),l,?_,A.pm.trans ((WI _ W).trans List.perm_middle.symm),?_,?_⟩
    ·have I:=eC d tm
     obtain⟨es,ck,Y,_⟩:=i.map.ex;have:=I _ e Y;simp[Obj.isCells]at this
    ·rw[VG]
     exact(List.perm_append_comm.trans (WP _)).trans (A.ks.cons n)
    ·refine(p.trans (Z.mono p.size)).trans ((ah.of_grown (F:=λk=>w.heap.size<=k) j (λk H=>?_)).belowB (λk _ h=>h) (by have:=p.size;simp;omega))
     have:=(d.lt k H).1;omega
    ·have:=j.size;simp at this;omega
   have D:=U9 J;obtain⟨A1,c1,rfl,γ,X⟩:=A.row.sl;clear A W i s z d p Z l V j hf E J;have HL:=U9 C;have HG:=U9 O;clear C O;go_wp2_with fail;refine(C1.o _ _).mono ?_;rintro r w4 ⟨rfl,rfl⟩;go_wp2_with fail;have C:=HL.o;have O:=HG.o
   go_roundg f.length
   case measure=>omega
   case rel=>exact⟨f,(n,ep)::kept,B++[n],rfl,D.o⟩
theorem Io(h:cV w t tm T)(c:T.length<=49):Yt 53 #[Yr t] w (vY w T):=by
 have d:=U9 (JZ h c);clear h;go_enter func53,ntmps53;go_wp2_with fail;refine d.o.mono ?_;rintro r g ⟨u,rfl,f⟩;go_wp2_with fail;go_ret;exact⟨u,rfl,f⟩
end
section
variable{α β:Type}[DecidableEq α]{L M R:List (α×β)}
theorem lw:∀{L M:List (α×β)},jH L->jH M->(∀a,lk L a=lk M a)->L.Perm M
 |[],[],_,_,_=>WP _
 |[],(a,v)::r,_,_,h=>by
  have:=h a;rw[gO,Vh rfl]at this;cases this
 |(a,v)::r,M,hL,hM,h=>by
  obtain⟨f,d⟩:=Wk.1 hL;have c:=h a;rw[gO,Vh rfl]at c;have g:=hM.split (bK c.symm);refine List.Perm.trans ?_ g.symm;refine List.Perm.cons _ (lw d (hM.dropL a) λb=>?_);by_cases e:b=a
  ·subst e
   rw[qU];cases i:lk r b with
   |none=>rfl
   |some u=>exact absurd rfl (f (b,u) (bK i))
  ·rw[jX M e,<-h b,gO,Vf (V1 e)]
def putsL(R c:List (α×β)):List (α×β):=c.foldl (λR e=>putL R e.1 e.2) R
theorem pA(e:α×β)(c:List (α×β)):putsL R (e::c)=putsL (putL R e.1 e.2) c:=rfl
theorem pz(e:α×β)(c:List (α×β)):putsL R (c++[e])=putL (putsL R c) e.1 e.2:=by unfold putsL;rw[List.foldl_append];rfl
theorem jH.putsL(h:jH R)(c:List (α×β)):jH (putsL R c):=by
 induction c generalizing R with
 |nil=>exact h
 |cons e c ih=>exact ih (h.putL e.1 e.2)
theorem oL(a b:α)(v:β):lk (putL R a v) b=if b=a then some v else lk R b:=by
 by_cases e:b=a
 ·subst e;rw[Vh rfl,mr]
 ·rw[Vf e,qT R v e]
theorem pO{c:List (α×β)}(h:jH c)(x:α):lk (putsL R c) x=match lk c x with
  |some v=>some v
  |none=>lk R x:=by
 induction c generalizing R with
 |nil=>rfl
 |cons e c ih=>
  obtain⟨a,v⟩:=e;obtain⟨f,d⟩:=Wk.1 h;rw[pA,ih d,oL,gO];by_cases e:x=a
  ·subst e
   have i:lk c x=none:=by
    cases g:lk c x with
    |none=>rfl
    |some u=>exact absurd rfl (f (x,u) (bK g))
   rw[i,Vh rfl,Vh rfl]
  ·rw[Vf e,Vf (V1 e)]
theorem uQ(g:α->β)(c:List α)(x:α):lk (putsL R (c.map λid=>(id,g id))) x=if x∈c then some (g x)else lk R x:=by
 induction c generalizing R with
 |nil=>rfl
 |cons a r ih=>
  rw[VG,pA,ih,oL];by_cases d:x∈r
  ·rw[Vh d,Vh (VA _ d)]
  ·rw[Vf d]
   by_cases e:x=a
   ·subst e;rw[Vh rfl,Vh Vp]
   ·rw[Vf e,Vf (by simp[e,d])]
theorem wK{c d:List (α×β)}(f:jH R)(h:jH c)(p:c.Perm d):(putsL R c).Perm (putsL R d):=
 lw (f.putsL c) (f.putsL d) λa=>by rw[pO h,pO (h.perm p),GB h p]
theorem um(g:α->β)(c:List α)(d:jH R):(putsL R (putsL [] (c.map λid=>(id,g id)))).Perm (putsL R (c.map λid=>(id,g id))):=by
 have f:jH (putsL ([]:List (α×β)) (c.map λid=>(id,g id))):=jH.putsL (List.Pairwise.nil) _;refine lw (d.putsL _) (d.putsL _) λa=>?_
 rw[pO f,uQ,uQ];by_cases h:a∈c
 ·rw[Vh h,Vh h]
 ·rw[Vf h,Vf h];rfl
end
theorem AW(m:az)(turn:(Nat->Int)->Int×(Nat->Int))(l:List Int):fN m turn l=putsL m.ri (l.map λid=>(id,(turn (m.r id)).2)):=by
 unfold fN putsL;rw[List.foldl_map]
theorem n9{m:az}:∀{l:List Int} {k:Nat} {x:Int},(∀id∈l.take k,(turn (m.r id)).1=0)->l[k]? =some x->(turn (m.r x)).1≠0->eA m turn l=(turn (m.r x)).1
 |[],k,x,_,h,_=>by simp at h
 |a::l,0,x,_,h,hx=>by
  simp at h;subst h;unfold eA;rw[Vf hx]
 |a::l,k+1,x,h0,h,hx=>by
  unfold eA;rw[Vh (h0 a (by simp))];exact n9 (k:=k) (λid hid=>h0 id (by simp[hid])) (by simpa using h) hx
theorem ob{m:az}:∀{l:List Int},(∀id∈l,(turn (m.r id)).1=0)->eA m turn l=0
 |[],_=>rfl
 |a::l,h=>by
  unfold eA;rw[Vh (h a (by simp))];exact ob λid hid=>h id (by simp[hid])
theorem tX(v:av)(k:Nat)(c:k<6):fD (v.set k (v.get k+1))=fD v+1:=
 av.six (P:=λk=>fD (v.set k (v.get k+1))=fD v+1) (by simp only[fD,av.set,av.get];omega) (by simp only[fD,av.set,av.get];omega) (by simp only[fD,av.set,av.get];omega) (by simp only[fD,av.set,av.get];omega) (by simp only[fD,av.set,av.get];omega) (by simp only[fD,av.set,av.get];omega) k c
theorem o3(v:av)(k j:Nat)(d:k<6)(c:j<6)(x:Int):(v.set k x).get j=if j=k then x else v.get j:=
 av.six (P:=λk=>(v.set k x).get j=if j=k then x else v.get j)
  (av.six (P:=λj=>(v.set 0 x).get j=if j=0 then x else v.get j) rfl rfl rfl rfl rfl rfl j c) (av.six (P:=λj=>(v.set 1 x).get j=if j=1 then x else v.get j) rfl rfl rfl rfl rfl rfl j c)
  (av.six (P:=λj=>(v.set 2 x).get j=if j=2 then x else v.get j) rfl rfl rfl rfl rfl rfl j c) (av.six (P:=λj=>(v.set 3 x).get j=if j=3 then x else v.get j) rfl rfl rfl rfl rfl rfl j c)
  (av.six (P:=λj=>(v.set 4 x).get j=if j=4 then x else v.get j) rfl rfl rfl rfl rfl rfl j c) (av.six (P:=λj=>(v.set 5 x).get j=if j=5 then x else v.get j) rfl rfl rfl rfl rfl rfl j c) k d
structure Qs(m m':az):Prop where
 kn:m'.kn=m.kn
 tr:tO m'.tr
 ow:∀k,k<6->0<=m'.ow.get k/\m'.ow.get k<=5
 ri:∀x∈m'.ri,da x.2
 pu:∀x∈m'.pa,0<=x.2/\x.2<=18446744073709551615
 gl:m'.gr.length<=m.gr.length+1
 gk:∀x∈m'.gr,x.1=(x.2.o,x.2.r)/\m'.q x.1=true
 gb:∀x∈m'.gr,x.2.b≠0->m'.q (x.2.o,x.2.b)=true
 gu:∀x∈m'.gr,∀y∈m'.gr,x.2.o=y.2.o->y.2.b≠0->x.2.r≠y.2.b/\(x.2.b=y.2.b->x=y)
 gi:∀x∈m'.gr,(1<=x.2.o/\x.2.o<=6)/\(0<x.2.r/\x.2.r<=18446744073709551615)/\(0<=x.2.n/\x.2.n<=18446744073709551615)/\(1<=x.2.a/\x.2.a<=1125899906842624)/\(0<=x.2.b/\x.2.b<=18446744073709551615)
theorem az.ok.kept{m:az}(h:m.ok):Qs m m:=⟨rfl,h.tr,h.ow,h.ri,h.pu,by omega,h.gk,h.gb,h.gu,h.gi⟩
theorem uq{α β:Type}[DecidableEq α](L:List (α×β))(a:α)(v:β):(putL L a v).length<=L.length+1:=by
 unfold putL dropL;rw[VB];have:=List.length_filter_le (λx:α×β=>decide (x.1≠a)) L;omega
theorem vk{m m':az}(h:m.ok){o r n a:Int}(p:m.q (o,r)=false)(z:m'.gr=putL m.gr (o,r) ⟨o,r,n,a,0⟩)(s:m'.qs=putL m.qs (o,r) true)(l:1<=o/\o<=6)(v:0<r/\r<=18446744073709551615)(A:0<=n/\n<=18446744073709551615)(u:1<=a/\a<=1125899906842624):
  (∀x∈m'.gr,x.1=(x.2.o,x.2.r)/\m'.q x.1=true)/\(∀x∈m'.gr,x.2.b≠0->m'.q (x.2.o,x.2.b)=true)/\(∀x∈m'.gr,∀y∈m'.gr,x.2.o=y.2.o->y.2.b≠0->x.2.r≠y.2.b/\(x.2.b=y.2.b->x=y))/\
  (∀x∈m'.gr,(1<=x.2.o/\x.2.o<=6)/\(0<x.2.r/\x.2.r<=18446744073709551615)/\(0<=x.2.n/\x.2.n<=18446744073709551615)/\(1<=x.2.a/\x.2.a<=1125899906842624)/\(0<=x.2.b/\x.2.b<=18446744073709551615)):=by
 have i:∀y,m'.q y=if y=(o,r)then true else m.q y:=λy=>by
  unfold az.q;rw[s,oL];by_cases e:y=(o,r)
  ·rw[Vh e,Vh e];rfl
  ·rw[Vf e,Vf e]
 have k:∀y,m.q y=true->m'.q y=true:=λy g=>by rw[i];split<;>simp[g]
 have c:∀x,x∈m'.gr↔x=((o,r),⟨o,r,n,a,0⟩)\/(x∈m.gr/\x.1≠(o,r)):=λx=>by rw[z,ew]
 refine⟨λx d=>?_,λx d f=>?_,λx d y g j f=>?_,λx d=>?_⟩
 ·rcases(c x).1 d with rfl|⟨d,-⟩
  ·exact⟨rfl,by rw[i,Vh rfl]⟩
  ·exact⟨(h.gk x d).1,k _ (h.gk x d).2⟩
 ·rcases(c x).1 d with rfl|⟨d,-⟩
  ·exact absurd rfl f
  ·exact k _ (h.gb x d f)
 ·rcases(c y).1 g with rfl|⟨g,hyk⟩
  ·exact absurd rfl f
  rcases(c x).1 d with rfl|⟨d,hxk⟩
  ·refine⟨λe=>?_,λe=>absurd e.symm f⟩
   have:=h.gb y g f;rw[<-j]at this;simp only at e this;rw[<-e,p]at this;cases this
  ·exact h.gu x d y g j f
 ·rcases(c x).1 d with rfl|⟨d,-⟩
  ·exact⟨l,v,A,u,by simp⟩
  ·exact h.gi x d
theorem vm{m m':az}(h:m.ok){o r f:Int}{g:gF}(C:m.q (o,r)=false)(A:((o,f),g)∈m.gr)(H:g.b=0)(F:m'.gr=putL m.gr (o,f) {g with b:=r})(D:m'.qs=putL m.qs (o,r) true)(O:0<r/\r<=18446744073709551615):
  (∀x∈m'.gr,x.1=(x.2.o,x.2.r)/\m'.q x.1=true)/\(∀x∈m'.gr,x.2.b≠0->m'.q (x.2.o,x.2.b)=true)/\(∀x∈m'.gr,∀y∈m'.gr,x.2.o=y.2.o->y.2.b≠0->x.2.r≠y.2.b/\(x.2.b=y.2.b->x=y))/\
  (∀x∈m'.gr,(1<=x.2.o/\x.2.o<=6)/\(0<x.2.r/\x.2.r<=18446744073709551615)/\(0<=x.2.n/\x.2.n<=18446744073709551615)/\(1<=x.2.a/\x.2.a<=1125899906842624)/\(0<=x.2.b/\x.2.b<=18446744073709551615)):=by
 have z:∀y,m'.q y=if y=(o,r)then true else m.q y:=λy=>by
  unfold az.q;rw[D,oL];by_cases e:y=(o,r)
  ·rw[Vh e,Vh e];rfl
  ·rw[Vf e,Vf e]
 have B:∀y,m.q y=true->m'.q y=true:=λy l=>by rw[z];split<;>simp[l]
 have d:∀x,x∈m'.gr↔x=((o,f),{g with b:=r})\/(x∈m.gr/\x.1≠(o,f)):=λx=>by rw[F,ew]
 have u:=h.gk _ A;have s:o=g.o/\f=g.r:=by simpa using u.1
 obtain⟨v,G⟩:=s;have i:∀x∈m.gr,x.2.o=o->x.2.r≠r/\(x.2.b≠0->x.2.b≠r):=λx c p=>by
  refine⟨λe=>?_,λk e=>?_⟩
  ·have:=(h.gk x c).2
   rw[(h.gk x c).1,p,e,C]at this;cases this
  ·have:=h.gb x c k
   rw[p,e,C]at this;cases this
 refine⟨λx c=>?_,λx c k=>?_,λx c y l p k=>?_,λx c=>?_⟩
 ·rcases(d x).1 c with rfl|⟨c,-⟩
  ·exact⟨by simp only[v,G],B _ u.2⟩
  ·exact⟨(h.gk x c).1,B _ (h.gk x c).2⟩
 ·rcases(d x).1 c with rfl|⟨c,-⟩
  ·show m'.q (g.o,r)=true
   rw[z,<-v,Vh rfl]
  ·exact B _ (h.gb x c k)
 ·rcases(d y).1 l with rfl|⟨l,hyk⟩
  ·rcases(d x).1 c with rfl|⟨c,hxk⟩
   ·refine⟨?_,λ_=>rfl⟩
    have:=(i _ A v.symm).1;simpa using this
   ·have j:x.2.o=o:=by rw[p];exact v.symm
    refine⟨(i x c j).1,λe=>?_⟩;have e:x.2.b=r:=e;exact absurd e ((i x c j).2 (by omega))
  rcases(d x).1 c with rfl|⟨c,hxk⟩
  ·have j:y.2.o=o:=by rw[<-p];exact v.symm
   refine⟨?_,λe=>?_⟩
   ·have:=h.gu _ A y l (by simpa using p) k
    exact this.1
   ·have e:r=y.2.b:=e
    exact absurd e.symm ((i y l j).2 k)
  ·exact h.gu x c y l p k
 ·rcases(d x).1 c with rfl|⟨c,-⟩
  ·obtain⟨K,E,I,J,N⟩:=h.gi _ A
   exact⟨K,E,I,J,by simp only;omega⟩
  ·exact h.gi x c
theorem sa{m:az}(h:∀x∈m.ri,da x.2)(g:∀f,da f->da (turn f).2)(i:∀id,da (m.r id))(l:List Int):∀x∈fN m turn l,da x.2:=by
 unfold fN
 suffices hs:∀(l:List Int) (R:List (Int×(Nat->Int))),(∀x∈R,da x.2)->∀x∈l.foldl (λR id=>putL R id (turn (m.r id)).2) R,da x.2 from hs l m.ri h
 intro l
 induction l with
 |nil=>intro R d;exact d
 |cons id l ih=>
  intro R d;rw[List.foldl_cons];refine ih _ λx c=>?_
  rcases ew.1 c with rfl|⟨c,-⟩
  ·exact g _ (i id)
  ·exact d x c
theorem wJ{R:List (Int×(Nat->Int))}(h:∀x∈R,da x.2)(id:Int){f:Nat->Int}(d:da f):∀x∈putL R id f,da x.2:=λx c=>by
 rcases ew.1 c with rfl|⟨c,-⟩
 ·exact d
 ·exact h x c
theorem mB(o s:Int):0<=gH o s/\gH o s<=18446744073709551615:=by
 unfold gH;split<;>omega
theorem lF{m:az}(h:m.ok)(B:aX e=true)(y:e.ok):Qs m (cX m e).2:=by
 have i:=ji B;have u:e.w<6:=by unfold Ev.w;have:=i.o1;have:=i.o2;omega
 have H:e.to_<6:=by unfold Ev.to_;have:=i.t1;have:=i.t2;omega
 have l:bU e=true:=by unfold aX at B;simp only[Vo]at B;exact B.2.1
 have c:=h.kept;unfold cX;split
 ·rename_i U
  unfold jW;split
  ·exact c
  split
  ·exact c
  rename_i s p;have I:=h.ow e.w u;refine⟨rfl,h.tr.add (mB _ _) y.n,λk v=>?_,wJ h.ri _ (da.z.set _ i.a1 (by have:=i.a2;omega)),λx F=>?_,by show m.gr.length<=_;omega,h.gk,h.gb,h.gu,h.gi⟩
  ·show 0<=(m.ow.set e.w (m.ow.get e.w+1)).get k/\(m.ow.set e.w (m.ow.get e.w+1)).get k<=5
   rw[o3 _ _ _ u v];split
   ·omega
   ·exact h.ow k v
  ·rcases ew.1 F with rfl|⟨F,-⟩
   ·exact y.n
   ·exact h.pu x F
 split
 ·unfold iu
  split
  ·exact c
  split
  ·exact c
  rename_i s p;refine⟨rfl,h.tr,h.ow,wJ h.ri _ ((h.r e.n).set _ (by have:=(h.r e.n e.w (by omega)).1;have:=i.a1;omega) (by omega)),h.pu,by show m.gr.length<=_;omega,h.gk,h.gb,h.gu,h.gi⟩
 split
 ·rename_i J
  have O:(1<=e.a/\e.a<=1125899906842624)/\1<=e.r:=by
   have d:=l;unfold bU fS at d;simp[J]at d;omega
  unfold hU;split
  ·exact c
  split
  ·exact c
  split
  ·exact c
  rename_i s p N;have D:m.q (e.o,e.r)=false:=by simpa using s
  have K:=y.r;have j:=vk (m':={m with ri:=fN m (λf=>fX f e.w e.a) (aC m.tr e.n),qs:=putL m.qs (e.o,e.r) true,gr:=putL m.gr (e.o,e.r) ⟨e.o,e.r,e.n,e.a,0⟩}) h D rfl rfl ⟨i.o1,i.o2⟩ ⟨by omega,by omega⟩ y.n O.1;exact⟨rfl,h.tr,h.ow,sa h.ri (λf l=>l.take u _) h.r _,h.pu,uq _ _ _,j.1,j.2.1,j.2.2.1,j.2.2.2⟩
 split
 ·rename_i P
  have V:(1<=e.r/\1<=e.f)/\e.r≠e.f:=by
   have d:=l;unfold bU at d;simp[P]at d;omega
  unfold ie;split
  ·exact c
  split
  ·exact c
  split
  ·exact c
  rename_i s p N;have D:m.q (e.o,e.r)=false:=by simpa using s
  have K:=y.r;obtain⟨g,G⟩:∃g,lk m.gr (e.o,e.f)=some g:=by
   cases S:lk m.gr (e.o,e.f)with
   |none=>exact absurd (Vs (by rw[S];rfl)) p
   |some g=>exact⟨g,rfl⟩
  have A:m.g (e.o,e.f)=g:=by unfold az.g;rw[G];rfl
  have E:g.b=0:=by
   refine Decidable.byContradiction λC=>p (Vr ?_)
   rw[A];exact C
  rw[A];have j:=vm (m':={m with ri:=fN m (λf=>gh f e.w g.a) (aC m.tr g.n),qs:=putL m.qs (e.o,e.r) true,gr:=putL m.gr (e.o,e.f) {g with b:=e.r}}) h D (bK G) E rfl rfl ⟨by omega,by omega⟩;exact⟨rfl,h.tr,h.ow,sa h.ri (λf l=>l.free u _) h.r _,h.pu,uq _ _ _,j.1,j.2.1,j.2.2.1,j.2.2.2⟩
 split
 ·unfold jU
  split
  ·exact c
  split
  ·exact c
  split
  ·exact c
  exact⟨rfl,h.tr,h.ow,wJ h.ri _ ((h.r e.n).move u H _),h.pu,by show m.gr.length<=_;omega,h.gk,h.gb,h.gu,h.gi⟩
 split
 ·exact⟨rfl,h.tr,h.ow,h.ri,h.pu,by show m.gr.length<=_;omega,h.gk,h.gb,h.gu,h.gi⟩
 ·exact⟨rfl,h.tr,h.ow,h.ri,h.pu,by show m.gr.length<=_;omega,h.gk,h.gb,h.gu,h.gi⟩
theorem js{m:az}(h:(bE m e).1=0):aX e=true/\m.kn.get e.w=e.s-1/\m.inn e.w=true/\m.inn (6+e.w)=false/\bE m e=cX m e:=by
 unfold bE at h⊢;split at h
 ·cases h
 rename_i i;split at h
 ·cases h
 rename_i k;split at h
 ·cases h
 rename_i j;split at h
 ·cases h
 rename_i d;have f:aX e=true:=by simpa using i
 have c:eS m.kn e=true:=by simpa using j
 have l:m.kn.get (e.o-1).toNat=e.s-1:=by
  unfold eS at c;simp only[Vo,VC]at c;exact c.2.1
 refine⟨f,l,?_,?_,?_⟩
 ·cases g:m.inn e.w with
  |true=>rfl
  |false=>exact absurd (Vs g) d
 ·cases g:m.inn (6+e.w)with
  |false=>rfl
  |true=>exact absurd (Vr g) d
 ·rw[Vf i,Vf k,Vf j,Vf d]
theorem r8{m:az}(h:m.ok)(n:e.ok):(cz m e).2.ok:=by
 unfold cz;split
 ·rename_i q
  obtain⟨i,j,-,-,f⟩:=js q;have c:=ji i;have d:e.w<6:=by unfold Ev.w;have:=c.o1;have:=c.o2;omega
  have K:=lF h i n;rw[f];generalize (cX m e).2=m' at K⊢;have s:=h.kn e.w d;have l:=c.s1;have p:=c.s2;refine⟨K.tr,λk g=>?_,K.ow,K.ri,K.pu,?_,K.gk,K.gb,K.gu,K.gi⟩
  ·show 0<=(m'.kn.set e.w (m'.kn.get e.w+1)).get k/\(m'.kn.set e.w (m'.kn.get e.w+1)).get k<1099511627776
   rw[K.kn,o3 _ _ _ d g];split
   ·omega
   ·exact h.kn k g
  ·show(m'.gr.length:Int)<=fD (m'.kn.set e.w (m'.kn.get e.w+1))
   rw[tX _ _ d,K.kn];have:=K.gl;have:=h.gl;omega
 ·exact h
theorem r9{m:az}(h:m.ok)(j:e.ok):fD (cz m e).2.kn<=fD m.kn+1:=by
 unfold cz;split
 ·rename_i k
  obtain⟨d,i,-,-,c⟩:=js k;have f:=ji d;have g:e.w<6:=by unfold Ev.w;have:=f.o1;have:=f.o2;omega
  have K:=lF h d j;rw[c];show fD ((cX m e).2.kn.set e.w ((cX m e).2.kn.get e.w+1))<=_;rw[tX _ _ g,K.kn];omega
 ·show fD m.kn<=_;omega
end
