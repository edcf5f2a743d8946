import Derived.Test.YtghdobdjfnimmaaGreatDoorZ25
import Derived.Deep.RegionLaw
set_option maxRecDepth 100000
set_option maxHeartbeats 0
set_option linter.all false
namespace Go.Proofs.YtghdobdjfnimmaaGreatDoor
open Go.Proofs.Tryz
variable{v:av}{e:Ev}{M:List Ev}
section
open Go.RowKit Go
structure HO(w:Yu)(h m:Nat)(L:List Ev):Prop where
 blk:ai w h 188 #[.map (some m)]
 map:eF w m L
section
variable{w w':Yu}{h m:Nat}{L L':List Ev}
theorem HO.ne(H:HO w h m L):h≠m:=λe=>by
 subst e;obtain⟨f,c,d,_⟩:=H.map.ex;have:=H.blk;unfold ai at this;rw[this]at d;cases d
theorem HO.call(H:HO w h m L)(c:Ys w w'):HO w' h m L:=⟨H.blk.below c H.blk.lt,H.map.call c⟩
theorem HO.fr{g:Nat}{r:Option Nat}(H:HO w h m L)(f:Fr w w' g r)(c:h≠g)(d:some h≠r)(j:m≠g)(i:some m≠r):HO w' h m L:=⟨f.blk H.blk c d,H.map.fr f j i⟩
theorem HO.turn(H:HO w h m L)(f:Fr w w' m none)(c:eF w' m L'):HO w' h m L':=⟨f.blk H.blk H.ne (by simp),c⟩
def Ie(w w':Yu)(u:Yv):Prop:=∃h m,u=.pointer (some ⟨h,0,none⟩)/\HO w' h m []/\w.heap.size<=h/\w.heap.size<=m/\Ys w w'
theorem iY(w:Yu):Yt 38 #[] w λr w'=>∃u,r=.returned u/\Ie w w' u:=by
 have c:= @XE prog;go_enter func38,ntmps38;go_wp2_with fail;go_ret;refine⟨_,rfl,w.heap.size+1,w.heap.size,by simp,⟨ai.new_at (by simp) rfl,(eF.made w).call ((Vd _ _).alloc (Vc _) _)⟩,by omega,by omega,((Vd _ _).alloc (Vc _) _).alloc (by simp) _⟩
end
def iX(v:av)(L:List Ev)(e:Ev):Int:=if aX e then(if dJ v e||(ez L e.o e.s).isSome then 14 else if 64<=L.length then 7 else 0)else 1
def mC(v:av)(L:List Ev)(e:Ev):List Ev:=if iX v L e=0 then L++[e]else L
section
variable{w w':Yu}{h m:Nat}{L L':List Ev}
theorem DB(H:HO w h m L)(v:av)(e:Ev)(z:e.ok)(P:aX e=false):
  Yt 249 #[Yr h,.agg (aq v),.agg (ao e)] w λr w'=>r=.returned (.int .i64 1)/\Ys w w':=by
 have G:=U9 (ii e z false P);obtain⟨x,I⟩:∃x,(ez L e.o e.s).getD Ev.zero=x:=⟨_,rfl⟩;obtain⟨y,F⟩:∃y,(ez L e.o e.s).isSome=y:=⟨_,rfl⟩;have E:fa e.o e.s:=⟨z.o,z.s⟩;go_enter func249,ntmps249;go_upto_region 4 with fail;have i:bF w _ [(w.heap.size+1+1,301,#[.int .i64 e.o,.int .u64 e.s]),(w.heap.size+1,53,ao e),(w.heap.size,34,aq v)]:=(((bF.nil w).push (t:=34) (cs:=aq v) rfl).push (t:=53) (cs:=ao e) (g:=w.heap.size+1) (by simp)).push (t:=301) (cs:=#[.int .i64 e.o,.int .u64 e.s]) (g:=w.heap.size+1+1) (by simp);generalize ((w.alloc _).alloc _).alloc _=W at i⊢;have d:=H.call i.below;obtain⟨q,f⟩:=d.blk.rules;obtain⟨D,-,p,-,n,-,-⟩:=i.rules;obtain⟨C,B,u,-⟩:=i.lts;have O:=d.blk.lt;have l:=(d.map.same (w':=W.drew) rfl).look E;have k:=λcs t=>((d.map.call (w':=W.alloc (.cells cs t)) ((Vd W.heap.size W).alloc (Vc _) _)).same (w':=(W.alloc (.cells cs t)).drew) rfl).look E
 simp only[kU,fy,I,F]at l k;clear I F;have K:=U9 i;have J:=U9 d;clear H d i
 go_region
 clear l k q f n p D u B C O;have j:=(K.o.push (t:=53) (cs:=ao x) (g:=W.heap.size) rfl).drew;have A:=(J.o.call (w':=(W.alloc (.cells (ao x) 53)).drew) (((Vd W.heap.size W).alloc (Vc _) _).drew));clear K J;generalize (W.alloc _).drew=W1 at j A⊢;obtain⟨-,-,D,-,p,-,n,-,-⟩:=j.rules;obtain⟨N,C,B,u,-⟩:=j.lts;go_wp2_with fail;refine(G.o _).mono ?_;rintro r T ⟨rfl,c⟩;have R:=j.call c;have S:=A.call c;clear j A c n p D u B C N G;go_wp2_with fail;go_ret;exact⟨rfl,R.below⟩
theorem AH(H:HO w h m L)(v:av)(e:Ev)(D:e.ok)(X:aX e=true)(U:dJ v e=true):
  Yt 249 #[Yr h,.agg (aq v),.agg (ao e)] w λr w'=>r=.returned (.int .i64 14)/\Ys w w':=by
 have P:=U9 (ii e D true X);have I:=U9 (ly v e D true U);obtain⟨x,R⟩:∃x,(ez L e.o e.s).getD Ev.zero=x:=⟨_,rfl⟩;obtain⟨y,O⟩:∃y,(ez L e.o e.s).isSome=y:=⟨_,rfl⟩;have N:fa e.o e.s:=⟨D.o,D.s⟩;go_enter func249,ntmps249;go_upto_region 4 with fail;have j:bF w _ [(w.heap.size+1+1,301,#[.int .i64 e.o,.int .u64 e.s]),(w.heap.size+1,53,ao e),(w.heap.size,34,aq v)]:=(((bF.nil w).push (t:=34) (cs:=aq v) rfl).push (t:=53) (cs:=ao e) (g:=w.heap.size+1) (by simp)).push (t:=301) (cs:=#[.int .i64 e.o,.int .u64 e.s]) (g:=w.heap.size+1+1) (by simp);generalize ((w.alloc _).alloc _).alloc _=W at j⊢;have i:=H.call j.below;obtain⟨q,f⟩:=i.blk.rules;obtain⟨C,-,p,-,k,-,-⟩:=j.rules;obtain⟨B,A,u,-⟩:=j.lts;have V:=i.blk.lt;have z:=(i.map.same (w':=W.drew) rfl).look N;have n:=λcs t=>((i.map.call (w':=W.alloc (.cells cs t)) ((Vd W.heap.size W).alloc (Vc _) _)).same (w':=(W.alloc (.cells cs t)).drew) rfl).look N
 simp only[kU,fy,R,O]at z n;clear R O;have K:=U9 j;have S:=U9 i;clear H i j
 go_region
 clear z n q f k p C u A B V;have l:=(K.o.push (t:=53) (cs:=ao x) (g:=W.heap.size) rfl).drew;have G:=(S.o.call (w':=(W.alloc (.cells (ao x) 53)).drew) (((Vd W.heap.size W).alloc (Vc _) _).drew));clear K S;generalize (W.alloc _).drew=W1 at l G⊢;obtain⟨-,-,C,-,p,-,k,-,-⟩:=l.rules;obtain⟨F,B,A,u,-⟩:=l.lts;go_wp2_with fail;refine(P.o _).mono ?_;rintro r w2 ⟨rfl,c⟩;have E:=l.call c;have J:=G.call c;clear l G c k p C u A B F P;obtain⟨-,-,C,-,p,-,k,-,-⟩:=E.rules;obtain⟨F,B,A,u,-⟩:=E.lts;go_wp2_with fail;refine(I.o _).mono ?_;rintro r Y ⟨rfl,d⟩;have T:=E.call d;have Z:=J.call d;clear E J d k p C u A B F I;go_wp2_with fail;go_ret;exact⟨rfl,T.below⟩
theorem xz(H:HO w h m L)(v:av)(e:Ev)(C:e.ok)(U:aX e=true)(R:dJ v e=false){x:Ev}(T:ez L e.o e.s=some x):
  Yt 249 #[Yr h,.agg (aq v),.agg (ao e)] w λr w'=>r=.returned (.int .i64 14)/\Ys w w':=by
 have K:=U9 (ii e C true U);have G:=U9 (ly v e C false R);have J:fa e.o e.s:=⟨C.o,C.s⟩;go_enter func249,ntmps249;go_upto_region 4 with fail;have j:bF w _ [(w.heap.size+1+1,301,#[.int .i64 e.o,.int .u64 e.s]),(w.heap.size+1,53,ao e),(w.heap.size,34,aq v)]:=(((bF.nil w).push (t:=34) (cs:=aq v) rfl).push (t:=53) (cs:=ao e) (g:=w.heap.size+1) (by simp)).push (t:=301) (cs:=#[.int .i64 e.o,.int .u64 e.s]) (g:=w.heap.size+1+1) (by simp);generalize ((w.alloc _).alloc _).alloc _=W at j⊢;have i:=H.call j.below;obtain⟨q,f⟩:=i.blk.rules;obtain⟨B,-,p,-,k,-,-⟩:=j.rules;obtain⟨A,z,u,-⟩:=j.lts;have S:=i.blk.lt;have y:=(i.map.same (w':=W.drew) rfl).look J;have n:=λcs t=>((i.map.call (w':=W.alloc (.cells cs t)) ((Vd W.heap.size W).alloc (Vc _) _)).same (w':=(W.alloc (.cells cs t)).drew) rfl).look J
 simp only[kU,fy,T,Xr,Option.isSome_some]at y n;have O:=U9 j;have N:=U9 i;clear H i j
 go_region
 clear y n q f k p B u z A S;have l:=(O.o.push (t:=53) (cs:=ao x) (g:=W.heap.size) rfl).drew;have F:=(N.o.call (w':=(W.alloc (.cells (ao x) 53)).drew) (((Vd W.heap.size W).alloc (Vc _) _).drew));clear O N;generalize (W.alloc _).drew=W1 at l F⊢;obtain⟨-,-,B,-,p,-,k,-,-⟩:=l.rules;obtain⟨E,A,z,u,-⟩:=l.lts;go_wp2_with fail;refine(K.o _).mono ?_;rintro r Y ⟨rfl,c⟩;have D:=l.call c;have I:=F.call c;clear l F c k p B u z A E K;obtain⟨-,-,B,-,p,-,k,-,-⟩:=D.rules;obtain⟨E,A,z,u,-⟩:=D.lts;go_wp2_with fail;refine(G.o _).mono ?_;rintro r V ⟨rfl,d⟩;have P:=D.call d;have X:=I.call d;clear D I d k p B u z A E G;go_wp2_with fail;go_ret;exact⟨rfl,P.below⟩
theorem AI(H:HO w h m L)(v:av)(e:Ev)(B:e.ok)(U:aX e=true)(K:dJ v e=false)(T:ez L e.o e.s=none)(Y:64<=L.length):
  Yt 249 #[Yr h,.agg (aq v),.agg (ao e)] w λr w'=>r=.returned (.int .i64 7)/\Ys w w':=by
 have N:=U9 (ii e B true U);have F:=U9 (ly v e B false K);have I:fa e.o e.s:=⟨B.o,B.s⟩;go_enter func249,ntmps249;go_upto_region 4 with fail;have j:bF w _ [(w.heap.size+1+1,301,#[.int .i64 e.o,.int .u64 e.s]),(w.heap.size+1,53,ao e),(w.heap.size,34,aq v)]:=(((bF.nil w).push (t:=34) (cs:=aq v) rfl).push (t:=53) (cs:=ao e) (g:=w.heap.size+1) (by simp)).push (t:=301) (cs:=#[.int .i64 e.o,.int .u64 e.s]) (g:=w.heap.size+1+1) (by simp);generalize ((w.alloc _).alloc _).alloc _=W at j⊢;have i:=H.call j.below;obtain⟨q,f⟩:=i.blk.rules;obtain⟨A,-,p,-,k,-,-⟩:=j.rules;obtain⟨z,y,u,-⟩:=j.lts;have S:=i.blk.lt;have x:=(i.map.same (w':=W.drew) rfl).look I;have n:=λcs t=>((i.map.call (w':=W.alloc (.cells cs t)) ((Vd W.heap.size W).alloc (Vc _) _)).same (w':=(W.alloc (.cells cs t)).drew) rfl).look I
 simp only[kU,fy,T,Option.getD_none,Option.isSome_none]at x n;have P:=U9 j;have O:=U9 i;clear H i j
 go_region
 clear x n q f k p A u y z S;have l:=(P.o.push (t:=53) (cs:=ao Ev.zero) (g:=W.heap.size) rfl).drew;have E:=(O.o.call (w':=(W.alloc (.cells (ao Ev.zero) 53)).drew) (((Vd W.heap.size W).alloc (Vc _) _).drew));clear P O;generalize (W.alloc _).drew=W1 at l E⊢;obtain⟨-,-,A,-,p,-,k,-,-⟩:=l.rules;obtain⟨D,z,y,u,-⟩:=l.lts;go_wp2_with fail;refine(N.o _).mono ?_;rintro r Z ⟨rfl,c⟩;have C:=l.call c;have G:=E.call c;clear l E c k p A u y z D N;obtain⟨-,-,A,-,p,-,k,-,-⟩:=C.rules;obtain⟨D,z,y,u,-⟩:=C.lts;go_wp2_with fail;refine(F.o _).mono ?_;rintro r X ⟨rfl,d⟩;have R:=C.call d;have J:=G.call d;clear C G d k p A u y z D F;have K:=λty=>J.map.len ty
 obtain⟨q,f⟩:=J.blk.rules;have V:decide (64<=(L.length:Int))=true:=by simp;omega
 go_wp2_with fail;go_ret;exact⟨rfl,R.below⟩
theorem DC(H:HO w h m L)(v:av)(e:Ev)(D:e.ok)(hm:aX e=true)(K:dJ v e=false)(N:ez L e.o e.s=none)(hn:L.length<64):
  Yt 249 #[Yr h,.agg (aq v),.agg (ao e)] w λr w'=>r=.returned (.int .i64 0)/\HO w' h m (L++[e])/\Fr w w' m none:=by
 have U:=U9 (ii e D true hm);have R:=U9 (ly v e D false K);have HX:=U9 N;have G:fa e.o e.s:=⟨D.o,D.s⟩;go_enter func249,ntmps249;go_upto_region 4 with fail;have l:bF w _ [(w.heap.size+1+1,301,#[.int .i64 e.o,.int .u64 e.s]),(w.heap.size+1,53,ao e),(w.heap.size,34,aq v)]:=(((bF.nil w).push (t:=34) (cs:=aq v) rfl).push (t:=53) (cs:=ao e) (g:=w.heap.size+1) (by simp)).push (t:=301) (cs:=#[.int .i64 e.o,.int .u64 e.s]) (g:=w.heap.size+1+1) (by simp);generalize ((w.alloc _).alloc _).alloc _=W at l⊢;have k:=H.call l.below;obtain⟨q,f⟩:=k.blk.rules;obtain⟨n,-,j,-,i,-,-⟩:=l.rules;obtain⟨B,A,y,-⟩:=l.lts;have lh:=k.blk.lt;have z:=(k.map.same (w':=W.drew) rfl).look G;have u:=λcs t=>((k.map.call (w':=W.alloc (.cells cs t)) ((Vd W.heap.size W).alloc (Vc _) _)).same (w':=(W.alloc (.cells cs t)).drew) rfl).look G
 simp only[kU,fy,N,Option.getD_none,Option.isSome_none]at z u;have C:=U9 l;have F:=U9 k;clear H k l N
 go_region
 clear z u q f i j n y A B lh;have p:=(C.o.push (t:=53) (cs:=ao Ev.zero) (g:=W.heap.size) rfl).drew;have O:=(F.o.call (w':=(W.alloc (.cells (ao Ev.zero) 53)).drew) (((Vd W.heap.size W).alloc (Vc _) _).drew));clear C F;generalize (W.alloc _).drew=W1 at p O⊢;obtain⟨-,-,n,-,j,-,i,-,-⟩:=p.rules;obtain⟨J,B,A,y,-⟩:=p.lts;go_wp2_with fail;refine(U.o _).mono ?_;rintro r w2 ⟨rfl,c⟩;have E:=p.call c;have S:=O.call c;clear p O c i j n y A B J U;obtain⟨-,-,n,-,j,-,i,-,-⟩:=E.rules;obtain⟨J,B,A,y,-⟩:=E.lts;go_wp2_with fail;refine(R.o _).mono ?_;rintro r P ⟨rfl,d⟩;have I:=E.call d;have x:=S.call d;clear E S d i j n y A B J R;have K:=λty=>x.map.len ty
 obtain⟨q,f⟩:=x.blk.rules;have hd:decide (64<=(L.length:Int))=false:=by simp;omega
 go_upto_region 12 with fail;obtain⟨Y,bQ,X,V⟩:=(x.map.same (w':=P.drew) rfl).put G HX.o;simp only[fy]at bQ;obtain⟨-,-,n,-,j,-,i,-,-⟩:=I.rules;have C:=U9 I;have Z:=U9 X;have HF:=U9 V;have F:=U9 x;clear I X V x K
 go_region
 go_wp2_with fail;go_ret;have T:Fr P Y m none:=Fr.trans (Fr.of_below (Vd _ _).drew) HF.o;exact⟨rfl,F.o.turn T Z.o,(Fr.of_below C.o.below).trans T⟩
end
section
variable{w w' w'':Yu}{g h m b r:Nat}{L L' left left' kept:List Ev}
theorem bF.free(w:Yu):bF {w with heap:=#[]} w []:=⟨⟨rfl,rfl,rfl,VX _,λk c=>absurd c (Nat.not_lt_zero _)⟩,λ_ _ _ h=>by cases h⟩
theorem bF.fr{c:Yu}{bs:List (Nat×Yw×Array Yv)}(T:bF c w bs)(f:Fr w w' g none)(j:c.heap.size<=g)(k:mS g bs):bF c w' bs:=
 ⟨f.below T.below j (λ_ h=>by cases h),λi t cs d=>f.blk (T.blk i t cs d) (k.o i t cs d) (by simp)⟩
theorem Fr.new{d:Option Nat}(f:Fr w w' h d)(k:Fr w' w'' g none)(n:w.heap.size<=g):Fr w w'' h d:=
 ⟨k.os.trans f.os,k.tape.trans f.tape,k.output.trans f.output,Vi f.size k.size,λi c l j=>(k.block i (Vq c f.size) (by omega) (by simp)).trans (f.block i c l j)⟩
section
variable{ops:Array Oper}{rest:List Oper}{o:Oper}{a:Act}{Q:Exit->Act->Yu->Prop}
theorem oU(q:o.guard=none)(i:Yx)(f:o.op=Op.range 186 i)(k:a.eval i=.map (some b))(H:eF w b L)
  (p:∀w',cW w' b w.heap.size L []->Ys w w'->w'.heap.size=w.heap.size+1->wpList prog ops Q rest (a.put o.dst (Yr w.heap.size)) w'):wpList prog ops Q (o::rest) a w:=by
 refine Xo q λs d=>?_
 obtain⟨w',c,n,j,l⟩:=H.range;unfold Oper.wp;simp[execOp,f,k,c,Result.andThen];exact d _ _ (p w' n j l)
theorem qO(x:o.guard=none)(p:Yx)(j:o.op=Op.next p false)(k:a.eval p=.pointer (some ⟨r,0,none⟩))(H:cW w b r left kept)
  (d:left=[]->wpList prog ops Q rest (a.put o.dst (.tuple #[.bool false])) w)
  (i:∀e left' w',left.Perm (e::left')->cW w' b r left' (e::kept)->Fr w w' r none->(Instr.entry (Yr r)).run prog w'=.ok (.tuple #[.agg #[.int .i64 e.o,.int .u64 e.s],.agg (ao e)]) w'->
   wpList prog ops Q rest (a.put o.dst (.tuple #[.bool true,.agg #[.int .i64 e.o,.int .u64 e.s],.agg (ao e)])) w'):wpList prog ops Q (o::rest) a w:=by
 refine Xo x λy l=>?_
 unfold Oper.wp;rcases H.next o.type with⟨u,c⟩|⟨e,left',w',q,c,t,f,n⟩
 ·simp[execOp,j,k,c,Result.andThen]
  exact l _ _ (d u)
 ·simp[execOp,j,k,c,Result.andThen]
  exact l _ _ (i e left' w' q t f n)
end
theorem nP{P:Program}{ops:Array Oper}{o:Oper}{a:Act}{w:Yu}{K:Act->Yu->Prop}{Q:Exit->Act->Yu->Prop}{E:Prop}(n:o.guard=none)(f x:Yx)(t k:Yw)
  (d:o.op=Op.call {callee:=Callee.builtin Builtin.delete,args:=#[f,x],argTypes:=#[t,k]}) (key:Yv) (j:a.eval f=.map (some b)) (p:a.eval x=key) (w':Yu) (c:∀ty,(Builtin.delete_ #[t,k] ty #[.map (some b),key]).run P w=.ok (.tuple #[]) w')
  (l:K (a.put o.dst (.tuple #[])) w'):if Region.wanted o (yielded ops a.tmps)=true then Oper.wp P o a w K Q else E:=by
 have i:Region.wanted o (yielded ops a.tmps)=true:=by simp[Region.wanted,n]
 rw[Vh i];unfold Oper.wp;simp[execOp,d,resolve,invoke,builtin,j,p,c,Result.andThen];exact l
def iz(v:av)(L left kept:List Ev):Prop:=(L.filter λe=> !dJ v e).Perm ((left.filter λe=> !dJ v e)++kept)
theorem iz.start(v:av)(L:List Ev):iz v L L []:=by unfold iz;rw[Xa]
theorem iz.late(h:iz v L left kept)(p:left.Perm (e::left'))(c:dJ v e=true):iz v L left' kept:=by
 refine h.trans (WI _ ?_);have:=p.filter (λe=> !dJ v e);rwa[V9,c,Bool.not_true,Vf (by simp)]at this
theorem iz.keep(h:iz v L left kept)(p:left.Perm (e::left'))(c:dJ v e=false):iz v L left' (e::kept):=by
 have:=p.filter (λe=> !dJ v e);rw[V9,c,Bool.not_false,Vh rfl]at this;exact h.trans ((WI _ this).trans List.perm_middle.symm)
theorem iz.done(h:iz v L [] kept):(L.filter λe=> !dJ v e).Perm kept:=by simpa[iz]using h
end
structure Uu(wf w wr:Yu)(bs:List (Nat×Yw×Array Yv))(h m r:Nat)(v:av)(L left kept:List Ev):Prop where
 rg:cW wr m r left kept
 sw:iz v L left kept
 sub:∀e∈left++kept,e∈L
 T:bF wf wr bs
 blk:ai wr h 188 #[.map (some m)]
 fr:Fr w wr m none
structure Ut(wf w wr:Yu)(bs:List (Nat×Yw×Array Yv))(h m:Nat)(M:List Ev):Prop where
 H:HO wr h m M
 T:bF wf wr bs
 fr:Fr w wr m none
def gy(v:av)(L:List Ev)(k:Nat):Option Ev:=(ez L ((k:Int)+1) (v.get k+1)).filter (eS v)
def uv(v:av)(L:List Ev):Option Ev:=(List.range 6).findSome? (gy v L)
def wH(w:Yu)(g:Nat)(R:Ev):Yu:=((((((((((((((w.setCell ⟨g,0,none⟩ (.int .i64 R.o)).setCell ⟨g,1,none⟩ (.int .u64 R.s)).setCell ⟨g,2,none⟩ (.int .u64 R.d.v0)).setCell ⟨g,3,none⟩ (.int .u64 R.d.v1)).setCell ⟨g,4,none⟩ (.int .u64 R.d.v2)).setCell ⟨g,5,none⟩ (.int .u64 R.d.v3)).setCell ⟨g,6,none⟩ (.int .u64 R.d.v4)).setCell ⟨g,7,none⟩ (.int .u64 R.d.v5)).setCell ⟨g,8,none⟩ (.int .u8 R.k)).setCell ⟨g,9,none⟩ (.int .u64 R.n)).setCell ⟨g,10,none⟩ (.int .i64 R.t)).setCell ⟨g,11,none⟩ (.int .i64 R.a)).setCell ⟨g,12,none⟩ (.int .u64 R.r)).setCell ⟨g,13,none⟩ (.int .u64 R.f))
theorem ry(w:Yu)(g:Nat)(R:Ev):Fr w (wH w g R) g none:=((((((((((((((Fr.of_set ⟨g,0,none⟩ rfl _).set ⟨g,1,none⟩ rfl _).set ⟨g,2,none⟩ rfl _).set ⟨g,3,none⟩ rfl _).set ⟨g,4,none⟩ rfl _).set ⟨g,5,none⟩ rfl _).set ⟨g,6,none⟩ rfl _).set ⟨g,7,none⟩ rfl _).set ⟨g,8,none⟩ rfl _).set ⟨g,9,none⟩ rfl _).set ⟨g,10,none⟩ rfl _).set ⟨g,11,none⟩ rfl _).set ⟨g,12,none⟩ rfl _).set ⟨g,13,none⟩ rfl _)
theorem l9{fn:Func}{s1 s2:Nat}(h:fn.results=#[.cell s1 53,.tmp s2])(tmps:Array Yv)(g:Nat)(x:Ev)(b:Bool)(w:Yu)(i:tmps.getD s1 undef=.pointer (some ⟨g,0,none⟩))(c:tmps.getD s2 undef=.bool b)
  (j:ai w g 53 (ao x)):(results fn tmps).run prog w=.ok (.tuple #[.agg (ao x),.bool b]) w:=by
 obtain⟨q,-⟩:=j.rules;have f:tmps[s1]?.getD undef=.pointer (some ⟨g,0,none⟩):=by rw[<-i];simp
 have d:tmps[s2]?.getD undef=.bool b:=by rw[<-c];simp
 simp[results,h,f,d,go_sem,q]
def eU(v:av)(L:List Ev):Option Ev:=uv v (L.filter λe=> !dJ v e)
def pT(r:Option Ev):Yv:=.tuple #[.agg (ao (r.getD Ev.zero)),.bool r.isSome]
def nG(v:av)(L L':List Ev):Prop:=match eU v L with
 |none=>(L.filter λe=> !dJ v e).Perm L'
 |some e=>(L.filter λe=> !dJ v e).Perm (e::L')
def qF(w w':Yu)(h m:Nat)(v:av)(L:List Ev):Prop:=∃L',HO w' h m L'/\Fr w w' m none/\nG v L L'
theorem j8{α β:Type}{f g:α->Option β}:∀{l:List α},(∀x∈l,f x=g x)->l.findSome? f=l.findSome? g
 |[],_=>rfl
 |x::l,h=>by
  rw[List.findSome?_cons,List.findSome?_cons,h x (by simp),j8 (λy c=>h y (by simp[c]))]
theorem wP(v:av){L:List Ev}(p:L.Perm M)(h:FB L):uv v M=uv v L:=
 j8 λk _=>by unfold gy;rw[xj h p]
theorem wQ(h:∀j,j<6->gy v M j=none):uv v M=none:=
 List.findSome?_eq_none_iff.2 λj c=>h j (XL.1 c)
theorem j7{β:Type}{f:Nat->Option β}{y:β}:∀(n k:Nat),k<n->(∀j,j<k->f j=none)->f k=some y->(List.range n).findSome? f=some y
 |0,_,h,_,_=>by omega
 |n+1,k,h,hn,hy=>by
  rw[List.range_succ,List.findSome?_append];by_cases d:k<n
  ·rw[j7 n k d hn hy];rfl
  ·obtain rfl:k=n:=by omega
   rw[List.findSome?_eq_none_iff.2 λj c=>hn j (XL.1 c)];simp[hy]
theorem wO{k:Nat}(d:k<6)(h:∀j,j<k->gy v M j=none)(c:gy v M k=some e):uv v M=some e:=j7 6 k d h c
section
variable{w:Yu}{h m:Nat}{L:List Ev}
theorem ve(H:HO w h m L)(v:av)(hv:∀k,k<6->0<=v.get k/\v.get k<=1000000)(Z:∀e∈L,e.ok):
  Yt 251 #[Yr h,.agg (aq v)] w λr w'=>r=.returned (pT (eU v L))/\qF w w' h m v L:=by
 have C1:=U9 (λ(e:Ev) (D:e∈L) (b:Bool) (hb:dJ v e=b) (W:Yu)=>ly v e (Z e D) b hb W);have C2:=U9 (λ(e:Ev) (D:e∈L) (b:Bool) (hb:eS v e=b) (W:Yu)=>Gf v e (Z e D) b hb W);have HV:=U9 hv;have HOK:=U9 Z;obtain⟨q,f⟩:=H.blk.rules;have lh:=H.blk.lt;clear hv Z;go_enter func251,ntmps251;have H1:=H.call (w':=(w.alloc (.cells (aq v) 34)).alloc (.cells (ao Ev.zero) 53)) (((Vd _ _).alloc (Vc _) _).alloc (by simp) _);have HM:=U9 H1.map;go_wp2_with (first|(at_range;refine oU rfl _ rfl rfl HM.o ?_;intro w0 P Y Φ))
 go_frame
 have T0:bF {w with heap:=#[]} w0 [(w.heap.size+1,53,ao Ev.zero),(w.heap.size,34,aq v)]:=(((bF.free w).push (t:=34) (cs:=aq v) rfl).push (t:=53) (cs:=ao Ev.zero) (g:=w.heap.size+1) (by simp)).call Y;have ζ:((w.alloc (.cells (aq v) 34)).alloc (.cells (ao Ev.zero) 53)).heap.size=w.heap.size+2:=by simp
 have A0:Uu {w with heap:=#[]} w w0 [(w.heap.size+1,53,ao Ev.zero),(w.heap.size,34,aq v)] h m (w.heap.size+2) v L L []:=
  ⟨by rw[ζ]at P;exact P,iz.start v L,by simp,T0,(H1.call Y).blk,Fr.of_below ((((Vd _ _).alloc (Vc _) _).alloc (by simp) _).trans (Y.mono (by simp;omega)))⟩
 rw[ζ];have lm:=H.map.lt;have HH:=U9 H;clear H H1 HM P Y Φ T0 ζ q f
 go_loopg [21] L.length (λg _ wr=>∃left kept,left.length=g/\Uu {w with heap:=#[]} w wr [(w.heap.size+1,53,ao Ev.zero),(w.heap.size,34,aq v)] h m (w.heap.size+2) v L left kept)
 case atStart=>exact⟨L,[],rfl,A0⟩
 case round=>
  obtain⟨left,kept,hg,A⟩:=hrel;clear A0;go_wp2_with (first|(at_next;refine qO rfl _ rfl rfl A.rg ?_ ?_))
  ·intro ω
   obtain rfl:=ω;clear hg;have hM:=A.rg.map;rw[V8]at hM;have B0:Ut {w with heap:=#[]} w wr [(w.heap.size+1,53,ao Ev.zero),(w.heap.size,34,aq v)] h m kept:=⟨⟨A.blk,hM⟩,A.T,A.fr⟩;have N:=U9 A.sw.done;have C:=U9 (λe D=>A.sub e (by simpa using D));have τ:=U9 (wP v A.sw.done.symm hM.ndn);obtain⟨-,-,B,-,-⟩:=A.T.rules;have U:=(A.T.drop).lt;clear A hM HH;go_upto_region 8 with fail;go_wp2_with fail;clear B U
   go_loopg [35] 6 (λg i p=>∃k:Nat,k+g=6/\i=.int .i64 k/\Va (∀j,j<k->gy v kept j=none)/\Ut {w with heap:=#[]} w p [(w.heap.size+1,53,ao Ev.zero),(w.heap.size,34,aq v)] h m kept)
   case atStart=>exact⟨0,by omega,rfl,U9 (λj hj=>absurd hj (by omega)),B0⟩
   case round=>
    obtain⟨k,F,rfl,HK,S⟩:=hrel;clear B0;have ε:=U9 (F);obtain⟨I,f1,B,-,-⟩:=S.T.rules;obtain⟨l1,U,-⟩:=S.T.lts;have V:=S.H.blk.lt;by_cases η:k<6
    ·have hvk:=HV.o k η
     have ψ:=kP v k η;have hk:fa ((k:Int)+1) (v.get k+1):=⟨by omega,by omega,by omega⟩;have Ξ:decide ((k:Int)<6)=true:=by simp;omega
     clear F;go_upto_region 12 with fail;have n:=S.T.push (t:=301) (cs:=#[.int .i64 ((k:Int)+1),.int .u64 (v.get k+1)]) rfl;have d:Ys wr (wr.alloc (.cells #[.int .i64 ((k:Int)+1),.int .u64 (v.get k+1)] 301)):=(Vd _ _).alloc (Vc _) _;have H2:=S.H.call d;have F2:=S.fr.trans (Fr.of_below d);generalize wr.alloc _=p at n H2 F2 d⊢;have HS:=U9 S;clear S B I f1 U l1 V ψ hvk Ξ;obtain⟨q,f⟩:=H2.blk.rules;obtain⟨E,-,I,-,B,-,-⟩:=n.rules;obtain⟨l2,l1,U,-⟩:=n.lts;have V:=H2.blk.lt;have X:=(H2.map.same (w':=p.drew) rfl).look hk;have α:=λcs t=>((H2.map.call (w':=p.alloc (.cells cs t)) ((Vd p.heap.size p).alloc (Vc _) _)).same (w':=(p.alloc (.cells cs t)).drew) rfl).look hk
     obtain⟨x,hx⟩:∃x,ez kept ((k:Int)+1) (v.get k+1)=x:=⟨_,rfl⟩;have HX:=U9 hx;have HHH:=U9 H2;have Ψ:=U9 n;have HFF:=U9 F2;have J:=U9 d;cases x with
     |none=>
      simp only[kU,fy,hx,Option.getD_none,Option.isSome_none]at X α;have O:=U9 (show gy v kept k=none by unfold gy;rw[hx];rfl);clear H2 n F2 d hx
      go_region
      clear X α q f B I E U l1 l2 V;have c:=J.o.trans (((Vd p.heap.size p).alloc (Vc _) (.cells (ao Ev.zero) 53)).drew.mono J.o.size);generalize (p.alloc _).drew=w3 at c⊢;go_wp2_with fail;have F:=ε.o
      go_roundg (gk-1)
      case measure=>omega
      case rel=>exact⟨k+1,by omega,by go_num,U9 (λj hj=>if ej:j=k then ej▸O.o else HK.o j (by omega)),HS.o.H.call c,HS.o.T.call c,HS.o.fr.trans (Fr.of_below c)⟩
     |some e=>
      obtain⟨D,φ,υ⟩:=lD hx;obtain⟨rb,ι⟩:∃b,eS v e=b:=⟨_,rfl⟩;have CR:=U9 (C2.o e (C.o e D) rb ι);have ξ:=U9 ι;have HE:=U9 D;simp only[kU,fy,hx,Xr,Option.isSome_some]at X α;have χ:=U9 (Vb φ υ);clear H2 n F2 d hx ι φ υ D
      go_region
      clear X α q f B I E U l1 l2 V;have c:=((Vd p.heap.size p).alloc (Vc _) (.cells (ao e) 53)).drew;have G:=(Ψ.o.push (t:=53) (cs:=ao e) rfl).drew;have H3:=HHH.o.call c;generalize (p.alloc _).drew=w3 at c G H3⊢;obtain⟨q3,-,E,-,I,-,B,-,-⟩:=G.rules;obtain⟨l3,l2,l1,U,-⟩:=G.lts;go_wp2_with fail;refine(CR.o _).mono ?_;rintro rr R ⟨rfl,β⟩;have T4:=G.call β;have H4:=H3.call β;have γ:=c.trans (β.mono c.size);have K:=J.o.trans (γ.mono J.o.size);clear B I E q3 U l1 l2 l3 G H3 c β CR;rcases(show rb=false\/rb=true from by cases rb<;>simp)with rfl|rfl
      ·have O:=U9 (show gy v kept k=none by
        obtain⟨e1,e2⟩:=χ.o;have hf:ez kept ((k:Int)+1) (v.get k+1)=some e:=HX.o;unfold gy;rw[hf];simp[Option.filter,ξ.o])
       go_wp2_with fail;have F:=ε.o
       go_roundg (gk-1)
       case measure=>omega
       case rel=>exact⟨k+1,by omega,by go_num,U9 (λj hj=>if ej:j=k then ej▸O.o else HK.o j (by omega)),HS.o.H.call K,HS.o.T.call K,HS.o.fr.trans (Fr.of_below K)⟩
      ·have O:=U9 (show gy v kept k=some e by
        have hf:ez kept ((k:Int)+1) (v.get k+1)=some e:=HX.o;unfold gy;rw[hf];simp[Option.filter,ξ.o])
       go_upto_region 14 with fail;obtain⟨-,-,E,-,-⟩:=T4.rules;obtain⟨qh,-⟩:=H4.blk.rules;obtain⟨w5,L',u,ν,θ,F5⟩:∃w5 L',(∀ty,(Builtin.delete_ #[186,301] ty #[.map (some m),.agg #[.int .i64 ((k:Int)+1),.int .u64 (v.get k+1)]]).run prog R.drew=.ok (.tuple #[]) w5)/\eF w5 m L'/\kept.Perm (e::L')/\Fr R w5 m none:=by
        obtain⟨w5,L',hd,hp,Θ,f5⟩:=(H4.map.same (w':=R.drew) rfl).drop HE.o 0;refine⟨w5,L',λty=>?_,Θ,hp,(Fr.of_below (Vd _ _).drew).trans f5⟩;obtain⟨e1,e2⟩:=χ.o;rw[e1,e2]at hd;exact hd
       have HH5:=U9 (H4.turn F5 ν);have Γ:=HS.o.fr.size;have Δ:=J.o.size;have T5:=T4.fr F5 (VX _) ⟨by omega,by omega,by omega,by omega,trivial⟩;have HFA:=U9 ((HS.o.fr.trans (Fr.of_below K)).trans F5);have θ:=U9 θ;clear T4 H4 ν F5 K γ Γ Δ
       go_region_law (with_reducible refine nP rfl _ _ _ _ rfl _ rfl rfl _ u ?_)
       clear u E qh
       all_goals
        obtain⟨q3,f3,E,f2,I,f1,B,f0,-⟩:=T5.rules;go_wp2_with fail;have T6:=(T5.perm (cs:=[(w.heap.size+1,53,ao Ev.zero)]) (by intro y hy;simp at hy⊢;simp[hy])).setEv (by exact VX _) trivial e;have F6:Fr w5 (wH w5 (w.heap.size+1) e) (w.heap.size+1) none:=ry _ _ _;have hR:eU v L=some e:=by unfold eU;rw[τ.o];exact wO η HK.o O.o
        refine VF (v:=.tuple #[.agg (ao e),.bool true]) (l9 (s1:=4) (s2:=5) (by kernel_rfl) _ (w.heap.size+1) e true _ rfl rfl (T6.blk _ _ _ Vp)) rfl ⟨by rw[hR];rfl,?_⟩;exact⟨L',HH5.o.fr F6 (by omega) (by simp) (by omega) (by simp),HFA.o.new F6 (by omega),by unfold nG;rw[hR];exact N.o.trans θ.o⟩
    ·obtain rfl:k=6:=by omega
     have Ω:=U9 (wQ HK.o);have hd6:decide ((6:Int)<6)=false:=rfl;clear ε F B U HK;go_wp2_with fail;have T6:=S.T.setEv (by exact VX _) ⟨by omega,trivial⟩ Ev.zero;have F6:Fr wr (wH wr (w.heap.size+1) Ev.zero) (w.heap.size+1) none:=ry _ _ _;have hR:eU v L=none:=by unfold eU;rw[τ.o];exact Ω.o
     refine VF (v:=.tuple #[.agg (ao Ev.zero),.bool false]) (l9 (s1:=4) (s2:=5) (by kernel_rfl) _ (w.heap.size+1) Ev.zero false _ rfl rfl (T6.blk _ _ _ Vp)) rfl ⟨by rw[hR];rfl,?_⟩;exact⟨kept,S.H.fr F6 (by omega) (by simp) (by omega) (by simp),S.fr.new F6 (by omega),by unfold nG;rw[hR];exact N.o⟩
  ·intro e left' w1 hp δ κ hen
   have D:e∈L:=A.sub e (Wj _ (hp.mem_iff.2 (by simp)));have T1:=A.T.fr κ (VX _) ⟨by omega,by omega,trivial⟩;have B1:=κ.blk A.blk (by omega) (by simp);have F1:=A.fr.new κ (by omega);have z:left.length=left'.length+1:=by simpa using hp.length_eq
   obtain⟨lb,μ⟩:∃b,dJ v e=b:=⟨_,rfl⟩;have CL:=U9 (C1.o e D lb μ);have N:=U9 A.sw;have π:=U9 μ;have C:=U9 A.sub;have σ:=U9 (Vb hg z);have HP:=U9 hp;have l1:=T1.lt;have hw1:=F1.size;have HNE:=U9 (HO.mk A.blk A.rg.map).ne;clear A μ hg z hp D HH;rcases(show lb=false\/lb=true from by cases lb<;>simp)with rfl|rfl
   ·go_upto_region 6 with fail
    have n:=(T1.push (t:=301) (cs:=#[.int .i64 e.o,.int .u64 e.s]) rfl).push (t:=53) (cs:=ao e) (g:=w1.heap.size+1) (by simp);have d:Ys w1 ((w1.alloc (.cells #[.int .i64 e.o,.int .u64 e.s] 301)).alloc (.cells (ao e) 53)):=((Vd _ _).alloc (Vc _) _).alloc (by simp) _;generalize (w1.alloc _).alloc _=p at n d⊢;obtain⟨q3,-,E,-,I,-,B,-,-⟩:=n.rules;go_wp2_with fail;refine(CL.o _).mono ?_;rintro rr w3 ⟨rfl,c⟩;have l:=d.trans (c.mono d.size);have G:=T1.call l;have R3:=δ.call l;have B3:=B1.below l B1.lt;have F3:=F1.trans (Fr.of_below l);clear B I E q3 n d c CL;go_wp2_with fail;obtain⟨hg,z⟩:=σ.o
    go_roundg left'.length
    case measure=>omega
    case rel=>exact⟨left',e::kept,rfl,R3,N.o.keep HP.o π.o,λx hx=>C.o x (by
     simp only[Vw,Vy]at hx⊢;rcases hx with hx|rfl|hx
     ·exact .inl (HP.o.mem_iff.2 (by simp[hx]))
     ·exact .inl (HP.o.mem_iff.2 (by simp))
     ·exact .inr hx),G,B3,F3⟩
   ·go_upto_region 6 with fail
    have n:=(T1.push (t:=301) (cs:=#[.int .i64 e.o,.int .u64 e.s]) rfl).push (t:=53) (cs:=ao e) (g:=w1.heap.size+1) (by simp);have d:Ys w1 ((w1.alloc (.cells #[.int .i64 e.o,.int .u64 e.s] 301)).alloc (.cells (ao e) 53)):=((Vd _ _).alloc (Vc _) _).alloc (by simp) _;generalize (w1.alloc _).alloc _=p at n d⊢;obtain⟨q3,-,E,-,I,-,B,-,-⟩:=n.rules;go_wp2_with fail;refine(CL.o _).mono ?_;rintro rr w3 ⟨rfl,c⟩;have l:=d.trans (c.mono d.size);have G:=n.call c;have R3:=δ.call l;have B3:=B1.below l B1.lt;have F3:=F1.trans (Fr.of_below l);clear B I E q3 n d c CL;go_upto_region 7 with fail;obtain⟨-,-,E,-,-⟩:=G.rules;obtain⟨qh,-⟩:=B3.rules;obtain⟨R,u,R4,F4⟩:∃R,(∀ty,(Builtin.delete_ #[186,301] ty #[.map (some m),.agg #[.int .i64 e.o,.int .u64 e.s]]).run prog w3.drew=.ok (.tuple #[]) R)/\cW R m (w.heap.size+2) left' kept/\Fr w3 R m none:=by
     obtain⟨R,hd,r4,f4⟩:=(R3.same (w':=w3.drew) rfl rfl).drop 0;exact⟨R,λty=>hd,r4,(Fr.of_below (Vd _ _).drew).trans f4⟩
    have HT:=U9 (G.fr F4 (VX _) ⟨by omega,by omega,by omega,by omega,trivial⟩);have HB:=U9 (F4.blk B3 HNE.o (by simp));have HF:=U9 (F3.trans F4);have HR:=U9 R4;clear G B3 F3 R3 R4 F4 l
    go_region_law (with_reducible refine nP rfl _ _ _ _ rfl _ rfl rfl _ u ?_)
    all_goals
     go_wp2_with fail;obtain⟨hg,z⟩:=σ.o
     go_roundg left'.length
     case measure=>omega
     case rel=>exact⟨left',kept,rfl,HR.o,N.o.late HP.o π.o,λx hx=>C.o x (by
      simp only[Vw]at hx⊢;rcases hx with hx|hx
      ·exact .inl (HP.o.mem_iff.2 (by simp[hx]))
      ·exact .inr hx),HT.o.drop.drop,HB.o,HF.o⟩
end
section
variable{w w':Yu}{h m:Nat}{L L':List Ev}
def Hz(w w':Yu)(h m:Nat)(L':List Ev):Prop:=HO w' h m L'/\Fr w w' m none
theorem bQ(H:HO w h m L)(v:av)(e:Ev)(l:e.ok):
  Yt 249 #[Yr h,.agg (aq v),.agg (ao e)] w λr w'=>r=.returned (.int .i64 (iX v L e))/\Hz w w' h m (mC v L e):=by
 cases d:aX e with
 |false=>
  refine(DB H v e l d).mono λr w' ⟨i,c⟩=>?_
  have f:iX v L e=1:=by simp[iX,d]
  rw[mC,f,Vf (by decide)];exact⟨i,H.call c,Fr.of_below c⟩
 |true=>
  cases j:dJ v e with
  |true=>
   refine(AH H v e l d j).mono λr w' ⟨i,c⟩=>?_
   have f:iX v L e=14:=by simp[iX,d,j]
   rw[mC,f,Vf (by decide)];exact⟨i,H.call c,Fr.of_below c⟩
  |false=>
   cases k:ez L e.o e.s with
   |some x=>
    refine(xz H v e l d j k).mono λr w' ⟨i,c⟩=>?_
    have f:iX v L e=14:=by simp[iX,d,j,k]
    rw[mC,f,Vf (by decide)];exact⟨i,H.call c,Fr.of_below c⟩
   |none=>
    by_cases n:64<=L.length
    ·refine(AI H v e l d j k n).mono λr w' ⟨i,c⟩=>?_
     have f:iX v L e=7:=by simp[iX,d,j,k,n]
     rw[mC,f,Vf (by decide)];exact⟨i,H.call c,Fr.of_below c⟩
    ·refine(DC H v e l d j k (by omega)).mono λr w' ⟨i,c⟩=>?_
     have f:iX v L e=0:=by simp[iX,d,j,k,n]
     rw[mC,f,Vh rfl];exact⟨i,c⟩
end
end
