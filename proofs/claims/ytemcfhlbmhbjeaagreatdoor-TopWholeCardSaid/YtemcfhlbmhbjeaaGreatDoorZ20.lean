import Derived.Test.YtemcfhlbmhbjeaaGreatDoorZ19
import Derived.Deep.RegionLaw
set_option maxRecDepth 100000
set_option maxHeartbeats 0
set_option linter.all false
namespace Go.Proofs.YtemcfhlbmhbjeaaGreatDoor
open Go.Proofs.Tryz
variable{v:an}{e:z}{aeL:List z}
open Go Go.RowKit
structure bl(w:D)(h m:Nat)(L:List z):Prop where
 blk:M w h 239 #[.map (some m)]
 map:fy w m L
section
variable{w w':D}{h m:Nat}{L L':List z}
def bl.ne(a:bl w h m L):h≠m:=λe=>by subst e;obtain⟨d,b,c,_⟩:=a.map.ex;have:=a.blk;unfold M at this;rw[this]at c;cases c
def bl.call(a:bl w h m L)(b:S w w'):bl w' h m L:=⟨a.blk.below b a.blk.lt,a.map.call b⟩
def bl.fr{g:Nat}{r:Option Nat}(a:bl w h m L)(f:aH w w' g r)(d:h≠g)(b:some h≠r)(i:m≠g)(c:some m≠r):bl w' h m L:=⟨f.blk a.blk d b,a.map.fr f i c⟩
def bl.turn(a:bl w h m L)(f:aH w w' m none)(b:fy w' m L'):bl w' h m L':=⟨f.blk a.blk a.ne ah,b⟩
def Tf(w w':D)(u:H):Prop:=∃h m,u=.pointer (some (I h 0))/\bl w' h m []/\w.heap.size<=h/\w.heap.size<=m/\S w w'
def jq(w:D):Calls prog 73 #[] w λr w'=>∃u,r=.returned u/\Tf w w' u:=by have a:= @qc prog;go_wp2;go_ret;refine⟨_,O,w.heap.size+1,w.heap.size,ah,⟨M.new_at ah O,(fy.made w).call ((aq _ _).alloc (ao _) _)⟩,V,V,((aq _ _).alloc (ao _) _).alloc ah _⟩
end
def ma(v:an)(L:List z)(e:z):Int:=if bG e then(if gE v e||(iI L e.o e.s).isSome then 14 else if 64<=L.length then 7 else 0)else 1
def ov(v:an)(L:List z)(e:z):List z:=if ma v L e=0 then L++[e]else L
section
variable{w w':D}{h m:Nat}{L L':List z}
def Qc(k:bl w h m L)(v:an)(e:z)(A:e.ok)(hm:bG e=false):
  Calls prog 281 #[N h,.agg (aF v),.agg (aj e)] w λr w'=>r=.returned (Z 1)/\S w w':=by
 have K:=U (lf e A false hm);obtain⟨x,P⟩:=aM ((iI L e.o e.s).getD z.zero);obtain⟨y,J⟩:=aM ((iI L e.o e.s).isSome);have G:fM e.o e.s:=⟨A.o,A.s⟩;go_in;go_upto_region 4 with fail;have b:aI w _ [(w.heap.size+1+1,335,#[Z e.o,q e.s]),(w.heap.size+1,64,aj e),(w.heap.size,33,aF v)]:=(((aI.nil w).push (t:=33) (cs:=aF v) O).push (t:=64) (cs:=aj e) (g:=w.heap.size+1) ah).push (t:=335) (cs:=#[Z e.o,q e.s]) (g:=w.heap.size+1+1) ah;generalize ((w.alloc _).alloc _).alloc _=W at b⊢;have a:=k.call b.below;obtain⟨n,f⟩:=a.blk.rules;obtain⟨E,-,p,-,l,-,-⟩:=b.rules;obtain⟨C,B,u,-⟩:=b.lts;have X:=a.blk.lt;have j:=(a.map.same (w':=W.drew) O).look G;have d:=λcs t=>((a.map.call (w':=W.alloc (.cells cs t)) ((aq W.heap.size W).alloc (ao _) _)).same (w':=(W.alloc (.cells cs t)).drew) O).look G;simp only[pB,cM,P,J]at j d;clear P J;have F:=U b;have R:=U a;clear k a b;go_region;clear j d n f l p E u B C X;have c:=(F.o.push (t:=64) (cs:=aj x) (g:=W.heap.size) O).drew;have Q:=(R.o.call (w':=(W.alloc (.cells (aj x) 64)).drew) (((aq W.heap.size W).alloc (ao _) _).drew));clear F R;generalize (W.alloc _).drew=W1 at c Q⊢;obtain⟨-,-,E,-,p,-,l,-,-⟩:=c.rules;obtain⟨T,C,B,u,-⟩:=c.lts;go_wp2_with fail;apply(K.o _).mono;rintro r w2 ⟨rfl,i⟩;have T2:=c.call i;clear c Q i l p E u B C T K;go_wp2;go_ret;exact⟨O,T2.below⟩
def NC(B:bl w h m L)(v:an)(e:z)(E:e.ok)(hm:bG e=true)(hl:gE v e=true):
  Calls prog 281 #[N h,.agg (aF v),.agg (aj e)] w λr w'=>r=.returned (Z 14)/\S w w':=by
 have X:=U (lf e E true hm);have P:=U (tg v e E true hl);obtain⟨x,hx⟩:=aM ((iI L e.o e.s).getD z.zero);obtain⟨y,T⟩:=aM ((iI L e.o e.s).isSome);have R:fM e.o e.s:=⟨E.o,E.s⟩;go_in;go_upto_region 4 with fail;have c:aI w _ [(w.heap.size+1+1,335,#[Z e.o,q e.s]),(w.heap.size+1,64,aj e),(w.heap.size,33,aF v)]:=(((aI.nil w).push (t:=33) (cs:=aF v) O).push (t:=64) (cs:=aj e) (g:=w.heap.size+1) ah).push (t:=335) (cs:=#[Z e.o,q e.s]) (g:=w.heap.size+1+1) ah;generalize ((w.alloc _).alloc _).alloc _=W at c⊢;have b:=B.call c.below;obtain⟨G,f⟩:=b.blk.rules;obtain⟨C,-,k,-,d,-,-⟩:=c.rules;obtain⟨u,p,l,-⟩:=c.lts;have lh:=b.blk.lt;have n:=(b.map.same (w':=W.drew) O).look R;have j:=λcs t=>((b.map.call (w':=W.alloc (.cells cs t)) ((aq W.heap.size W).alloc (ao _) _)).same (w':=(W.alloc (.cells cs t)).drew) O).look R;simp only[pB,cM,hx,T]at n j;clear hx T;have Q:=U c;have HH:=U b;clear B b c;go_region;clear n j G f d k C l p u lh;have i:=(Q.o.push (t:=64) (cs:=aj x) (g:=W.heap.size) O).drew;have K:=(HH.o.call (w':=(W.alloc (.cells (aj x) 64)).drew) (((aq W.heap.size W).alloc (ao _) _).drew));clear Q HH;generalize (W.alloc _).drew=W1 at i K⊢;obtain⟨-,-,C,-,k,-,d,-,-⟩:=i.rules;obtain⟨J,u,p,l,-⟩:=i.lts;go_wp2_with fail;apply(X.o _).mono;rintro r w2 ⟨rfl,a⟩;have F:=i.call a;have H3:=K.call a;clear i K a d k C l p u J X;obtain⟨-,-,C,-,k,-,d,-,-⟩:=F.rules;obtain⟨J,u,p,l,-⟩:=F.lts;go_wp2_with fail;apply(P.o _).mono;rintro r w3 ⟨rfl,A⟩;have T3:=F.call A;clear F H3 A d k C l p u J P;go_wp2;go_ret;exact⟨O,T3.below⟩
def L8(A:bl w h m L)(v:an)(e:z)(C:e.ok)(hm:bG e=true)(hl:gE v e=false){x:z}(hx:iI L e.o e.s=some x):
  Calls prog 281 #[N h,.agg (aF v),.agg (aj e)] w λr w'=>r=.returned (Z 14)/\S w w':=by
 have R:=U (lf e C true hm);have K:=U (tg v e C false hl);have Q:fM e.o e.s:=⟨C.o,C.s⟩;go_in;go_upto_region 4 with fail;have c:aI w _ [(w.heap.size+1+1,335,#[Z e.o,q e.s]),(w.heap.size+1,64,aj e),(w.heap.size,33,aF v)]:=(((aI.nil w).push (t:=33) (cs:=aF v) O).push (t:=64) (cs:=aj e) (g:=w.heap.size+1) ah).push (t:=335) (cs:=#[Z e.o,q e.s]) (g:=w.heap.size+1+1) ah;generalize ((w.alloc _).alloc _).alloc _=W at c⊢;have b:=A.call c.below;obtain⟨F,f⟩:=b.blk.rules;obtain⟨B,-,k,-,d,-,-⟩:=c.rules;obtain⟨u,p,l,-⟩:=c.lts;have lh:=b.blk.lt;have n:=(b.map.same (w':=W.drew) O).look Q;have j:=λcs t=>((b.map.call (w':=W.alloc (.cells cs t)) ((aq W.heap.size W).alloc (ao _) _)).same (w':=(W.alloc (.cells cs t)).drew) O).look Q;simp only[pB,cM,hx,tV,Option.isSome_some]at n j;have P:=U c;have T:=U b;clear A b c;go_region;clear n j F f d k B l p u lh;have i:=(P.o.push (t:=64) (cs:=aj x) (g:=W.heap.size) O).drew;have J:=(T.o.call (w':=(W.alloc (.cells (aj x) 64)).drew) (((aq W.heap.size W).alloc (ao _) _).drew));clear P T;generalize (W.alloc _).drew=W1 at i J⊢;obtain⟨-,-,B,-,k,-,d,-,-⟩:=i.rules;obtain⟨G,u,p,l,-⟩:=i.lts;go_wp2_with fail;apply(R.o _).mono;rintro r w2 ⟨rfl,a⟩;have E:=i.call a;have X:=J.call a;clear i J a d k B l p u G R;obtain⟨-,-,B,-,k,-,d,-,-⟩:=E.rules;obtain⟨G,u,p,l,-⟩:=E.lts;go_wp2_with fail;apply(K.o _).mono;rintro r w3 ⟨rfl,y⟩;have T3:=E.call y;clear E X y d k B l p u G K;go_wp2;go_ret;exact⟨O,T3.below⟩
def ND(A:bl w h m L)(v:an)(e:z)(C:e.ok)(hm:bG e=true)(T:gE v e=false)(hx:iI L e.o e.s=none)(hn:64<=L.length):
  Calls prog 281 #[N h,.agg (aF v),.agg (aj e)] w λr w'=>r=.returned (Z 7)/\S w w':=by
 have X:=U (lf e C true hm);have J:=U (tg v e C false T);have Q:fM e.o e.s:=⟨C.o,C.s⟩;go_in;go_upto_region 4 with fail;have d:aI w _ [(w.heap.size+1+1,335,#[Z e.o,q e.s]),(w.heap.size+1,64,aj e),(w.heap.size,33,aF v)]:=(((aI.nil w).push (t:=33) (cs:=aF v) O).push (t:=64) (cs:=aj e) (g:=w.heap.size+1) ah).push (t:=335) (cs:=#[Z e.o,q e.s]) (g:=w.heap.size+1+1) ah;generalize ((w.alloc _).alloc _).alloc _=W at d⊢;have c:=A.call d.below;obtain⟨l,f⟩:=c.blk.rules;obtain⟨B,-,n,-,i,-,-⟩:=d.rules;obtain⟨y,x,p,-⟩:=d.lts;have lh:=c.blk.lt;have u:=(c.map.same (w':=W.drew) O).look Q;have k:=λcs t=>((c.map.call (w':=W.alloc (.cells cs t)) ((aq W.heap.size W).alloc (ao _) _)).same (w':=(W.alloc (.cells cs t)).drew) O).look Q;simp only[pB,cM,hx,Option.getD_none,Option.isSome_none]at u k;have P:=U d;have HH:=U c;clear A c d;go_region;clear u k l f i n B p x y lh;have j:=(P.o.push (t:=64) (cs:=aj z.zero) (g:=W.heap.size) O).drew;have G:=(HH.o.call (w':=(W.alloc (.cells (aj z.zero) 64)).drew) (((aq W.heap.size W).alloc (ao _) _).drew));clear P HH;generalize (W.alloc _).drew=W1 at j G⊢;obtain⟨-,-,B,-,n,-,i,-,-⟩:=j.rules;obtain⟨F,y,x,p,-⟩:=j.lts;go_wp2_with fail;apply(X.o _).mono;rintro r w2 ⟨rfl,a⟩;have E:=j.call a;have K:=G.call a;clear j G a i n B p x y F X;obtain⟨-,-,B,-,n,-,i,-,-⟩:=E.rules;obtain⟨F,y,x,p,-⟩:=E.lts;go_wp2_with fail;apply(J.o _).mono;rintro r w3 ⟨rfl,b⟩;have T3:=E.call b;have R:=K.call b;clear E K b i n B p x y F J;have T:=λty=>R.map.len ty;obtain⟨l,f⟩:=R.blk.rules;have hd:decide (64<=(L.length:Int))=true:=by simp;omega
 go_wp2;go_ret;exact⟨O,T3.below⟩
def Qd(C:bl w h m L)(v:an)(e:z)(F:e.ok)(hm:bG e=true)(R:gE v e=false)(T:iI L e.o e.s=none)(hn:L.length<64):
  Calls prog 281 #[N h,.agg (aF v),.agg (aj e)] w λr w'=>r=.returned (Z 0)/\bl w' h m (L++[e])/\aH w w' m none:=by
 have C1:=U (lf e F true hm);have C2:=U (tg v e F false R);have HX:=U T;have K:fM e.o e.s:=⟨F.o,F.s⟩;go_in;go_upto_region 4 with fail;have j:aI w _ [(w.heap.size+1+1,335,#[Z e.o,q e.s]),(w.heap.size+1,64,aj e),(w.heap.size,33,aF v)]:=(((aI.nil w).push (t:=33) (cs:=aF v) O).push (t:=64) (cs:=aj e) (g:=w.heap.size+1) ah).push (t:=335) (cs:=#[Z e.o,q e.s]) (g:=w.heap.size+1+1) ah;generalize ((w.alloc _).alloc _).alloc _=W at j⊢;have i:=C.call j.below;obtain⟨u,f⟩:=i.blk.rules;obtain⟨k,-,d,-,c,-,-⟩:=j.rules;obtain⟨B,A,x,-⟩:=j.lts;have lh:=i.blk.lt;have y:=(i.map.same (w':=W.drew) O).look K;have n:=λcs t=>((i.map.call (w':=W.alloc (.cells cs t)) ((aq W.heap.size W).alloc (ao _) _)).same (w':=(W.alloc (.cells cs t)).drew) O).look K;simp only[pB,cM,T,Option.getD_none,Option.isSome_none]at y n;have E:=U j;have J:=U i;clear C i j T;go_region;clear y n u f c d k x A B lh;have l:=(E.o.push (t:=64) (cs:=aj z.zero) (g:=W.heap.size) O).drew;have X:=(J.o.call (w':=(W.alloc (.cells (aj z.zero) 64)).drew) (((aq W.heap.size W).alloc (ao _) _).drew));clear E J;generalize (W.alloc _).drew=W1 at l X⊢;obtain⟨-,-,k,-,d,-,c,-,-⟩:=l.rules;obtain⟨Q,B,A,x,-⟩:=l.lts;go_wp2_with fail;apply(C1.o _).mono;rintro r w2 ⟨rfl,a⟩;have G:=l.call a;have H3:=X.call a;clear l X a c d k x A B Q C1;obtain⟨-,-,k,-,d,-,c,-,-⟩:=G.rules;obtain⟨Q,B,A,x,-⟩:=G.lts;go_wp2_with fail;apply(C2.o _).mono;rintro r w3 ⟨rfl,b⟩;have P:=G.call b;have p:=H3.call b;clear G H3 b c d k x A B Q C2;have R:=λty=>p.map.len ty;obtain⟨u,f⟩:=p.blk.rules;have hd:decide (64<=(L.length:Int))=false:=by simp;omega
 go_upto_region 12 with fail;obtain⟨w4,cH,M4,f4⟩:=(p.map.same (w':=w3.drew) O).put K HX.o;simp only[cM]at cH;obtain⟨-,-,k,-,d,-,c,-,-⟩:=P.rules;have E:=U P;have HM:=U M4;have HF:=U f4;have J:=U p;clear P M4 f4 p R;go_region;go_wp2;go_ret;have F0:aH w3 w4 m none:=aH.trans (aH.of_below (aq _ _).drew) HF.o;exact⟨O,J.o.turn F0 HM.o,(aH.of_below E.o.below).trans F0⟩
end
section
variable{w w' w'':D}{g h m b r:Nat}{L L' left left' kept:List z}
def aI.free(w:D):aI {w with heap:=#[]} w []:=⟨⟨O,O,O,gM _,λk a=>absurd a (Nat.not_lt_zero _)⟩,λ_ _ _ h=>aK h⟩
def aI.fr{w0:D}{bs:List (Nat×ay×Array H)}(T:aI w0 w bs)(f:aH w w' g none)(i:w0.heap.size<=g)(j:gv g bs):aI w0 w' bs:=
 ⟨f.below T.below i (λ_ h=>aK h),λd t c a=>f.blk (T.blk d t c a) (j.o d t c a) ah⟩
def aH.new{c:Option Nat}(f:aH w w' h c)(k:aH w' w'' g none)(l:w.heap.size<=g):aH w w'' h c:=
 ⟨k.os.trans f.os,k.tape.trans f.tape,k.output.trans f.output,aZ f.size k.size,λi a j d=>(k.block i (ee a f.size) V ah).trans (f.block i a j d)⟩
section
variable{ops:Array Oper}{rest:List Oper}{o:Oper}{a:Act}{Q:Exit->Act->D->Prop}
def Zr(t:o.guard=none)(j:aO)(i:o.op=Op.range 237 j)(l:a.eval j=.map (some b))(f:fy w b L)
  (s:∀w',iu w' b w.heap.size L []->S w w'->w'.heap.size=w.heap.size+1->wpList prog ops Q rest (a.put o.dst (N w.heap.size)) w'):wpList prog ops Q (o::rest) a w:=by
 refine rk t λu d=>?_;obtain⟨w',c,p,k,n⟩:=f.range;unfold Oper.wp;simp[execOp,i,l,c,Result.andThen];exact d _ _ (s w' p k n)
def Zy(A:o.guard=none)(t:aO)(j:o.op=Op.next t false)(k:a.eval t=.pointer (some (I r 0)))(n:iu w b r left kept)
  (d:left=[]->wpList prog ops Q rest (a.put o.dst (.tuple #[.bool false])) w)
  (i:∀e left' w',left.Perm (e::left')->iu w' b r left' (e::kept)->aH w w' r none->(Instr.entry (N r)).run prog w'=.ok (.tuple #[.agg #[Z e.o,q e.s],.agg (aj e)]) w'->
   wpList prog ops Q rest (a.put o.dst (.tuple #[.bool true,.agg #[Z e.o,q e.s],.agg (aj e)])) w'):wpList prog ops Q (o::rest) a w:=by
 refine rk A λB l=>?_;unfold Oper.wp;rcases n.next o.type with⟨y,c⟩|⟨e,left',w',u,c,x,f,p⟩;simp[execOp,j,k,c,Result.andThen];exact l _ _ (d y);simp[execOp,j,k,c,Result.andThen];exact l _ _ (i e left' w' u x f p)
end
def Jw{P:Program}{c:Array Oper}{o:Oper}{a:Act}{w:D}{K:Act->D->Prop}{Q:Exit->Act->D->Prop}{E:Prop}(p:o.guard=none)(i x:aO)(t k:ay)
  (f:o.op=Op.call {callee:=Callee.builtin Builtin.delete,args:=#[i,x],argTypes:=#[t,k]}) (key:H) (l:a.eval i=.map (some b)) (s:a.eval x=key) (w':D) (d:∀ty,(Builtin.delete_ #[t,k] ty #[.map (some b),key]).run P w=.ok (.tuple #[]) w')
  (n:K (a.put o.dst (.tuple #[])) w'):if Region.wanted o (yielded c a.tmps)=true then Oper.wp P o a w K Q else E:=by
 have j:Region.wanted o (yielded c a.tmps)=true:=by simp[Region.wanted,p]
 rw[av j];unfold Oper.wp;simp[execOp,f,resolve,invoke,builtin,l,s,d,Result.andThen];exact n
def lJ(v:an)(L left kept:List z):Prop:=(L.filter λe=> !gE v e).Perm ((left.filter λe=> !gE v e)++kept)
def lJ.start(v:an)(L:List z):lJ v L L []:=by unfold lJ;rw[eF]
def lJ.late(h:lJ v L left kept)(p:left.Perm (e::left'))(a:gE v e=true):lJ v L left' kept:=by refine h.trans (sE _ ?_);have:=p.filter (λe=> !gE v e);rwa[lC,a,Bool.not_true,al ah]at this
def lJ.keep(h:lJ v L left kept)(p:left.Perm (e::left'))(a:gE v e=false):lJ v L left' (e::kept):=by have:=p.filter (λe=> !gE v e);rw[lC,a,Bool.not_false,av rfl]at this;exact h.trans ((sE _ this).trans List.perm_middle.symm)
def lJ.done(h:lJ v L [] kept):(L.filter λe=> !gE v e).Perm kept:=by simpa[lJ]using h
end
structure Hk(wf w wr:D)(bs:List (Nat×ay×Array H))(h m r:Nat)(v:an)(L left kept:List z):Prop where
 rg:iu wr m r left kept
 sw:lJ v L left kept
 sub:∀e∈left++kept,e∈L
 T:aI wf wr bs
 blk:M wr h 239 #[.map (some m)]
 fr:aH w wr m none
structure Hl(wf w wr:D)(bs:List (Nat×ay×Array H))(h m:Nat)(aeL:List z):Prop where
 aeJ:bl wr h m aeL
 T:aI wf wr bs
 fr:aH w wr m none
def nc(v:an)(L:List z)(k:Nat):Option z:=(iI L ((k:Int)+1) (v.get k+1)).filter (ka v)
def xe(v:an)(L:List z):Option z:=(List.range 6).findSome? (nc v L)
def EY(w:D)(g:Nat)(R:z):D:=((((((((((((((w.setCell (I g 0) (Z R.o)).setCell (I g 1) (q R.s)).setCell (I g 2) (q R.d.v0)).setCell (I g 3) (q R.d.v1)).setCell (I g 4) (q R.d.v2)).setCell (I g 5) (q R.d.v3)).setCell (I g 6) (q R.d.v4)).setCell (I g 7) (q R.d.v5)).setCell (I g 8) (.int .u8 R.k)).setCell (I g 9) (q R.n)).setCell (I g 10) (Z R.t)).setCell (I g 11) (Z R.a)).setCell (I g 12) (q R.r)).setCell (I g 13) (q R.f))
def Kx(w:D)(g:Nat)(R:z):aH w (EY w g R) g none:=((((((((((((((aH.of_set (I g 0) O _).set (I g 1) O _).set (I g 2) O _).set (I g 3) O _).set (I g 4) O _).set (I g 5) O _).set (I g 6) O _).set (I g 7) O _).set (I g 8) O _).set (I g 9) O _).set (I g 10) O _).set (I g 11) O _).set (I g 12) O _).set (I g 13) O _)
def Jm{fn:Func}{s1 s2:Nat}(h:fn.results=#[.cell s1 64,.tmp s2])(tmps:Array H)(g:Nat)(x:z)(b:Bool)(w:D)(i:tmps.getD s1 undef=.pointer (some (I g 0)))(c:tmps.getD s2 undef=.bool b)
  (j:M w g 64 (aj x)):(results fn tmps).run prog w=.ok (.tuple #[.agg (aj x),.bool b]) w:=by
 obtain⟨a,-⟩:=j.rules;have f:tmps[s1]?.getD undef=.pointer (some (I g 0)):=by rw[<-i];simp
 have d:tmps[s2]?.getD undef=.bool b:=by rw[<-c];simp
 simp[results,h,f,d,go_sem,a]
def jE(v:an)(L:List z):Option z:=xe v (L.filter λe=> !gE v e)
def wW(r:Option z):H:=.tuple #[.agg (aj (r.getD z.zero)),.bool r.isSome]
def qD(v:an)(L L':List z):Prop:=match jE v L with
 |none=>(L.filter λe=> !gE v e).Perm L'
 |some e=>(L.filter λe=> !gE v e).Perm (e::L')
def Ev(w w':D)(h m:Nat)(v:an)(L:List z):Prop:=∃a,bl w' h m a/\aH w w' m none/\qD v L a
def I4{α β:Type}{f g:α->Option β}:∀{l:List α},(∀x∈l,f x=g x)->l.findSome? f=l.findSome? g
 |[],_=>rfl
 |x::l,h=>by rw[List.findSome?_cons,List.findSome?_cons,h x ah,I4 (λy a=>h y (by simp[a]))]
def Ma(v:an){L:List z}(p:L.Perm aeL)(h:oL L):xe v aeL=xe v L:=
 I4 λk _=>by unfold nc;rw[LQ h p]
def Mb(h:∀j,j<6->nc v aeL j=none):xe v aeL=none:=
 List.findSome?_eq_none_iff.2 λj a=>h j (rq.1 a)
def I3{β:Type}{f:Nat->Option β}{y:β}:∀(n k:Nat),k<n->(∀j,j<k->f j=none)->f k=some y->(List.range n).findSome? f=some y
 |0,_,h,_,_=>by omega
 |n+1,k,h,hn,hy=>by rw[List.range_succ,List.findSome?_append];by_cases b:k<n;rw[I3 n k b hn hy];rfl;obtain rfl:k=n:=V;rw[List.findSome?_eq_none_iff.2 λj a=>hn j (rq.1 a)];simp[hy]
def aaB{k:Nat}(b:k<6)(h:∀j,j<k->nc v aeL j=none)(a:nc v aeL k=some e):xe v aeL=some e:=I3 6 k b h a
section
variable{w:D}{h m:Nat}{L:List z}
def xg(R:bl w h m L)(v:an)(hv:∀k,k<6->0<=v.get k/\v.get k<=1000000)(υ:∀e∈L,e.ok):
  Calls prog 283 #[N h,.agg (aF v)] w λr w'=>r=.returned (wW (jE v L))/\Ev w w' h m v L:=by
 have C1:=U (λ(e:z) (J:e∈L) (b:Bool) (hb:gE v e=b) (W:D)=>tg v e (υ e J) b hb W);have C2:=U (λ(e:z) (J:e∈L) (b:Bool) (hb:ka v e=b) (W:D)=>QT v e (υ e J) b hb W);have HV:=U hv;obtain⟨κ,f⟩:=R.blk.rules;have lh:=R.blk.lt;clear hv υ;go_in;have H1:=R.call (w':=(w.alloc (.cells (aF v) 33)).alloc (.cells (aj z.zero) 64)) (((aq _ _).alloc (ao _) _).alloc ah _);have HM:=U H1.map;go_wp2_with (first|(at_range;refine Zr rfl _ rfl rfl HM.o ?_;intro w0 ε θ hs0));go_frame;have T0:aI {w with heap:=#[]} w0 [(w.heap.size+1,64,aj z.zero),(w.heap.size,33,aF v)]:=(((aI.free w).push (t:=33) (cs:=aF v) O).push (t:=64) (cs:=aj z.zero) (g:=w.heap.size+1) ah).call θ;have σ:((w.alloc (.cells (aF v) 33)).alloc (.cells (aj z.zero) 64)).heap.size=w.heap.size+2:=ah;have A0:Hk {w with heap:=#[]} w w0 [(w.heap.size+1,64,aj z.zero),(w.heap.size,33,aF v)] h m (w.heap.size+2) v L L []:=
  ⟨by rw[σ]at ε;exact ε,lJ.start v L,ah,T0,(H1.call θ).blk,aH.of_below ((((aq _ _).alloc (ao _) _).alloc ah _).trans (θ.mono aQ))⟩
 rw[σ];have lm:=R.map.lt;clear R H1 HM ε θ hs0 T0 σ κ f;go_loopg [21] L.length (λg _ wr=>∃left a,left.length=g/\Hk {w with heap:=#[]} w wr [(w.heap.size+1,64,aj z.zero),(w.heap.size,33,aF v)] h m (w.heap.size+2) v L left a);exact⟨L,[],O,A0⟩;obtain⟨left,a,hg,A⟩:=hrel;clear A0;go_wp2_with (first|(at_next;refine Zy rfl _ rfl rfl A.rg ?_ ?_))
 ·intro hl0;obtain rfl:=hl0;clear hg;have hM:=A.rg.map;rw[ju]at hM;have B0:Hl {w with heap:=#[]} w wr [(w.heap.size+1,64,aj z.zero),(w.heap.size,33,aF v)] h m a:=⟨⟨A.blk,hM⟩,A.T,A.fr⟩;have γ:=U A.sw.done;have G:=U (λe J=>A.sub e (az J));have Φ:=U (Ma v A.sw.done.symm hM.ndn);obtain⟨-,-,F,-,-⟩:=A.T.rules;have l0:=(A.T.drop).lt;clear A hM;go_upto_region 8 with fail;go_wp2_with fail;clear F l0;go_loopg [35] 6 (λg i B=>∃k:Nat,k+g=6/\i=Z k/\mG (∀j,j<k->nc v a j=none)/\Hl {w with heap:=#[]} w B [(w.heap.size+1,64,aj z.zero),(w.heap.size,33,aF v)] h m a);exact⟨0,V,O,U (λj hj=>absurd hj V),B0⟩;obtain⟨k,P,rfl,HK,p⟩:=hrel;clear B0;have π:=U (P);obtain⟨X,f1,F,-,-⟩:=p.T.rules;obtain⟨l1,l0,-⟩:=p.T.lts;have ζ:=p.aeJ.blk.lt;by_cases τ:k<6
  ·have hvk:=HV.o k τ;have hix:=Ja v k τ;have hk:fM ((k:Int)+1) (v.get k+1):=⟨V,V,V⟩;have hdk:decide ((k:Int)<6)=true:=by simp;omega
   clear P;go_upto_region 12 with fail;have u:=p.T.push (t:=335) (cs:=#[Z ((k:Int)+1),q (v.get k+1)]) O;have d:S wr (wr.alloc (.cells #[Z ((k:Int)+1),q (v.get k+1)] 335)):=(aq _ _).alloc (ao _) _;have H2:=p.aeJ.call d;have F2:=p.fr.trans (aH.of_below d);generalize wr.alloc _=B at u H2 F2 d⊢;have HS:=U p;clear p F X f1 l0 l1 ζ hix hvk hdk;obtain⟨κ,f⟩:=H2.blk.rules;obtain⟨K,-,X,-,F,-,-⟩:=u.rules;obtain⟨l2,l1,l0,-⟩:=u.lts;have ζ:=H2.blk.lt;have η:=(H2.map.same (w':=B.drew) O).look hk;have ι:=λcs t=>((H2.map.call (w':=B.alloc (.cells cs t)) ((aq B.heap.size B).alloc (ao _) _)).same (w':=(B.alloc (.cells cs t)).drew) O).look hk;obtain⟨x,hx⟩:=aM (iI a ((k:Int)+1) (v.get k+1));have HX:=U hx;have HHH:=U H2;have HTT:=U u;have α:=U d;cases x with
   |none=>
    simp only[pB,cM,hx,Option.getD_none,Option.isSome_none]at η ι;have δ:=U (show nc v a k=none by unfold nc;rw[hx];rfl);clear H2 u F2 d hx;go_region;clear η ι κ f F X K l0 l1 l2 ζ;have c:=α.o.trans (((aq B.heap.size B).alloc (ao _) (.cells (aj z.zero) 64)).drew.mono α.o.size);generalize (B.alloc _).drew=w3 at c⊢;go_wp2_with fail;have P:=π.o;go_roundg (gk-1)
    case measure=>omega
    exact⟨k+1,V,by go_num,U (λj hj=>if ej:j=k then ej▸δ.o else HK.o j V),HS.o.aeJ.call c,HS.o.T.call c,HS.o.fr.trans (aH.of_below c)⟩
   |some e=>
    obtain⟨J,Ω,Ψ⟩:=Dj hx;obtain⟨rb,χ⟩:=aM (ka v e);have CR:=U (C2.o e (G.o e J) rb χ);have Δ:=U χ;have HE:=U J;simp only[pB,cM,hx,tV,Option.isSome_some]at η ι;have HOO:=aB Ω Ψ;clear H2 u F2 d hx χ Ω Ψ J;go_region;clear η ι κ f F X K l0 l1 l2 ζ;have c:=((aq B.heap.size B).alloc (ao _) (.cells (aj e) 64)).drew;have Q:=(HTT.o.push (t:=64) (cs:=aj e) O).drew;have H3:=HHH.o.call c;generalize (B.alloc _).drew=w3 at c Q H3⊢;obtain⟨q3,-,K,-,X,-,F,-,-⟩:=Q.rules;obtain⟨l3,l2,l1,l0,-⟩:=Q.lts;go_wp2_with fail;apply(CR.o _).mono;rintro rr w4 ⟨rfl,μ⟩;have T4:=Q.call μ;have H4:=H3.call μ;have ν:=c.trans (μ.mono c.size);have β:=α.o.trans (ν.mono α.o.size);clear F X K q3 l0 l1 l2 l3 Q H3 c μ CR;rcases(show rb=false\/rb=true from by cases rb<;>simp)with rfl|rfl
    ·have δ:=U (show nc v a k=none by obtain⟨e1,e2⟩:=HOO.o;have hf:iI a ((k:Int)+1) (v.get k+1)=some e:=HX.o;unfold nc;rw[hf];simp[Option.filter,Δ.o]);go_wp2_with fail;have P:=π.o;go_roundg (gk-1)
     case measure=>omega
     exact⟨k+1,V,by go_num,U (λj hj=>if ej:j=k then ej▸δ.o else HK.o j V),HS.o.aeJ.call β,HS.o.T.call β,HS.o.fr.trans (aH.of_below β)⟩
    have δ:=U (show nc v a k=some e by have hf:iI a ((k:Int)+1) (v.get k+1)=some e:=HX.o;unfold nc;rw[hf];simp[Option.filter,Δ.o]);go_upto_region 14 with fail;obtain⟨-,-,K,-,-⟩:=T4.rules;obtain⟨qh,-⟩:=H4.blk.rules;obtain⟨w5,L',C,Γ,φ,F5⟩:∃w5 L',(∀ty,(Builtin.delete_ #[237,335] ty #[.map (some m),.agg #[Z ((k:Int)+1),q (v.get k+1)]]).run prog w4.drew=.ok (.tuple #[]) w5)/\fy w5 m L'/\a.Perm (e::L')/\aH w4 w5 m none:=by obtain⟨w5,L',hd,hp,hm5,f5⟩:=(H4.map.same (w':=w4.drew) O).drop HE.o 0;refine⟨w5,L',λty=>?_,hm5,hp,(aH.of_below (aq _ _).drew).trans f5⟩;obtain⟨e1,e2⟩:=HOO.o;rw[e1,e2]at hd;exact hd
    have HH5:=U (H4.turn F5 Γ);have hw4:=HS.o.fr.size;have hw2:=α.o.size;have T5:=T4.fr F5 (gM _) ⟨V,V,V,V,trivial⟩;have HFA:=U ((HS.o.fr.trans (aH.of_below β)).trans F5);have φ:=U φ;clear T4 H4 Γ F5 β ν hw4 hw2;go_region_law (with_reducible refine Jw O _ _ _ _ O _ O O _ C ?_);clear C K qh
    all_goals
     obtain⟨q3,f3,K,f2,X,f1,F,f0,-⟩:=T5.rules;go_wp2_with fail;have T6:=(T5.perm (cs:=[(w.heap.size+1,64,aj z.zero)]) (by intro y hy;simp at hy⊢;simp[hy])).setEv (by exact gM _) trivial e;have F6:aH w5 (EY w5 (w.heap.size+1) e) (w.heap.size+1) none:=Kx _ _ _;have hR:jE v L=some e:=by unfold jE;rw[Φ.o];exact aaB τ HK.o δ.o
     refine eu (v:=.tuple #[.agg (aj e),.bool true]) (Jm (s1:=4) (s2:=5) Y _ (w.heap.size+1) e true _ O O (T6.blk _ _ _ cz)) O ⟨by rw[hR];rfl,?_⟩;exact⟨L',HH5.o.fr F6 V ah V ah,HFA.o.new F6 V,by unfold qD;rw[hR];exact γ.o.trans φ.o⟩
  obtain rfl:k=6:=V;have HPN:=U (Mb HK.o);clear π P F l0 HK;go_wp2_with fail;have T6:=p.T.setEv (by exact gM _) ⟨V,trivial⟩ z.zero;have F6:aH wr (EY wr (w.heap.size+1) z.zero) (w.heap.size+1) none:=Kx _ _ _;have hR:jE v L=none:=by unfold jE;rw[Φ.o];exact HPN.o
  refine eu (v:=.tuple #[.agg (aj z.zero),.bool false]) (Jm (s1:=4) (s2:=5) Y _ (w.heap.size+1) z.zero false _ O O (T6.blk _ _ _ cz)) O ⟨by rw[hR];rfl,?_⟩;exact⟨a,p.aeJ.fr F6 V ah V ah,p.fr.new F6 V,by unfold qD;rw[hR];exact γ.o⟩
 intro e n w1 hp ξ ψ hen;have J:e∈L:=A.sub e (ik _ (hp.mem_iff.2 ah));have T1:=A.T.fr ψ (gM _) ⟨V,V,trivial⟩;have B1:=ψ.blk A.blk V ah;have F1:=A.fr.new ψ V;have E:left.length=n.length+1:=az hp.length_eq;obtain⟨lb,ω⟩:=aM (gE v e);have CL:=U (C1.o e J lb ω);have γ:=U A.sw;have Θ:=U ω;have G:=U A.sub;have Ξ:=aB hg E;have HP:=U hp;have l1:=T1.lt;have HNE:=U (bl.mk A.blk A.rg.map).ne;clear A ω hg E hp J;rcases(show lb=false\/lb=true from by cases lb<;>simp)with rfl|rfl
 ·go_upto_region 6 with fail;have u:=(T1.push (t:=335) (cs:=#[Z e.o,q e.s]) O).push (t:=64) (cs:=aj e) (g:=w1.heap.size+1) ah;have d:S w1 ((w1.alloc (.cells #[Z e.o,q e.s] 335)).alloc (.cells (aj e) 64)):=((aq _ _).alloc (ao _) _).alloc ah _;generalize (w1.alloc _).alloc _=B at u d⊢;obtain⟨q3,-,K,-,X,-,F,-,-⟩:=u.rules;go_wp2_with fail;apply(CL.o _).mono;rintro rr w3 ⟨rfl,c⟩;have l:=d.trans (c.mono d.size);have Q:=T1.call l;have R3:=ξ.call l;have B3:=B1.below l B1.lt;have F3:=F1.trans (aH.of_below l);clear F X K q3 u d c CL;go_wp2_with fail;obtain⟨hg,E⟩:=Ξ.o;go_roundg n.length
  case measure=>omega
  case rel=>exact⟨n,e::a,O,R3,γ.o.keep HP.o Θ.o,λx hx=>G.o x (by simp only[bP,dh]at hx⊢;rcases hx with hx|rfl|hx;exact .inl (HP.o.mem_iff.2 (by simp[hx]));exact .inl (HP.o.mem_iff.2 ah);exact .inr hx),Q,B3,F3⟩
 go_upto_region 6 with fail;have u:=(T1.push (t:=335) (cs:=#[Z e.o,q e.s]) O).push (t:=64) (cs:=aj e) (g:=w1.heap.size+1) ah;have d:S w1 ((w1.alloc (.cells #[Z e.o,q e.s] 335)).alloc (.cells (aj e) 64)):=((aq _ _).alloc (ao _) _).alloc ah _;generalize (w1.alloc _).alloc _=B at u d⊢;obtain⟨q3,-,K,-,X,-,F,-,-⟩:=u.rules;go_wp2_with fail;apply(CL.o _).mono;rintro rr w3 ⟨rfl,c⟩;have l:=d.trans (c.mono d.size);have Q:=u.call c;have R3:=ξ.call l;have B3:=B1.below l B1.lt;have F3:=F1.trans (aH.of_below l);clear F X K q3 u d c CL;go_upto_region 7 with fail;obtain⟨-,-,K,-,-⟩:=Q.rules;obtain⟨qh,-⟩:=B3.rules;obtain⟨w4,C,R4,F4⟩:∃w4,(∀ty,(Builtin.delete_ #[237,335] ty #[.map (some m),.agg #[Z e.o,q e.s]]).run prog w3.drew=.ok (.tuple #[]) w4)/\iu w4 m (w.heap.size+2) n a/\aH w3 w4 m none:=by obtain⟨w4,hd,r4,f4⟩:=(R3.same (w':=w3.drew) O O).drop 0;exact⟨w4,λty=>hd,r4,(aH.of_below (aq _ _).drew).trans f4⟩
 have HT:=U (Q.fr F4 (gM _) ⟨V,V,V,V,trivial⟩);have HB:=U (F4.blk B3 HNE.o ah);have HF:=U (F3.trans F4);have HR:=U R4;clear Q B3 F3 R3 R4 F4 l;go_region_law (with_reducible refine Jw O _ _ _ _ O _ O O _ C ?_)
 all_goals
  go_wp2_with fail;obtain⟨hg,E⟩:=Ξ.o;go_roundg n.length
  case measure=>omega
  case rel=>exact⟨n,a,O,HR.o,γ.o.late HP.o Θ.o,λx hx=>G.o x (by simp only[bP]at hx⊢;rcases hx with hx|hx;exact .inl (HP.o.mem_iff.2 (by simp[hx]));exact .inr hx),HT.o.drop.drop,HB.o,HF.o⟩
end
section
variable{w w':D}{h m:Nat}{L L':List z}
def Ta(w w':D)(h m:Nat)(L':List z):Prop:=bl w' h m L'/\aH w w' m none
def cH(a:bl w h m L)(v:an)(e:z)(j:e.ok):
  Calls prog 281 #[N h,.agg (aF v),.agg (aj e)] w λr w'=>r=.returned (Z (ma v L e))/\Ta w w' h m (ov v L e):=by
 cases c:bG e with
 |false=>
  refine(Qc a v e j c).mono λr w' ⟨f,b⟩=>?_;have d:ma v L e=1:=by simp[ma,c]
  rw[ov,d,al ai];exact⟨f,a.call b,aH.of_below b⟩
 |true=>
  cases g:gE v e with
  |true=>
   refine(NC a v e j c g).mono λr w' ⟨f,b⟩=>?_;have d:ma v L e=14:=by simp[ma,c,g]
   rw[ov,d,al ai];exact⟨f,a.call b,aH.of_below b⟩
  |false=>
   cases i:iI L e.o e.s with
   |some x=>
    refine(L8 a v e j c g i).mono λr w' ⟨f,b⟩=>?_;have d:ma v L e=14:=by simp[ma,c,g,i]
    rw[ov,d,al ai];exact⟨f,a.call b,aH.of_below b⟩
   |none=>
    by_cases k:64<=L.length
    ·refine(ND a v e j c g i k).mono λr w' ⟨f,b⟩=>?_;have d:ma v L e=7:=by simp[ma,c,g,i,k]
     rw[ov,d,al ai];exact⟨f,a.call b,aH.of_below b⟩
    refine(Qd a v e j c g i V).mono λr w' ⟨f,b⟩=>?_;have d:ma v L e=0:=by simp[ma,c,g,i,k]
    rw[ov,d,av rfl];exact⟨f,b⟩
end
