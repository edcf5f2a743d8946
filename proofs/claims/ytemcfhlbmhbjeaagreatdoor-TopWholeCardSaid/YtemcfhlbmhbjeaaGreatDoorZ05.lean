import Derived.Test.YtemcfhlbmhbjeaaGreatDoorZ04
import Derived.Deep.DeepCutAuto
import Derived.Deep.CutBlock
set_option maxRecDepth 100000
set_option maxHeartbeats 0
set_option linter.all false
namespace Go.Proofs.YtemcfhlbmhbjeaaGreatDoor
open Go.Proofs.Tryz
open Go Go.RowKit
def SL(b R:z):(((((((((((((((aj b).setIfInBounds 0 (Z R.o)).setIfInBounds 1 (q R.s)).setIfInBounds 2 (q R.d.v0)).setIfInBounds 3 (q R.d.v1)).setIfInBounds 4 (q R.d.v2)).setIfInBounds 5 (q R.d.v3)).setIfInBounds 6 (q R.d.v4)).setIfInBounds 7 (q R.d.v5)).setIfInBounds 8 (.int .u8 R.k)).setIfInBounds 9 (q R.n)).setIfInBounds 10 (Z R.t)).setIfInBounds 11 (Z R.a)).setIfInBounds 12 (q R.r)).setIfInBounds 13 (q R.f))=aj R:=Y
def aI.setEv{w0 w:D}{g:Nat}{t:ay}{e:z}{bs:List (Nat×ay×Array H)}(h:aI w0 w ((g,t,aj e)::bs))(c:w0.heap.size<=g)(b:gv g bs)(R:z):
  aI w0 ((((((((((((((w.setCell (I g 0) (Z R.o)).setCell (I g 1) (q R.s)).setCell (I g 2) (q R.d.v0)).setCell (I g 3) (q R.d.v1)).setCell (I g 4) (q R.d.v2)).setCell (I g 5) (q R.d.v3)).setCell (I g 6) (q R.d.v4)).setCell (I g 7) (q R.d.v5)).setCell (I g 8) (.int .u8 R.k)).setCell (I g 9) (q R.n)).setCell (I g 10) (Z R.t)).setCell (I g 11) (Z R.a)).setCell (I g 12) (q R.r)).setCell (I g 13) (q R.f)) ((g,t,aj R)::bs):=by
 rw[<-SL e R];exact((((((((((((((h.set_ c b 0 (Z R.o)).set_ c b 1 (q R.s)).set_ c b 2 (q R.d.v0)).set_ c b 3 (q R.d.v1)).set_ c b 4 (q R.d.v2)).set_ c b 5 (q R.d.v3)).set_ c b 6 (q R.d.v4)).set_ c b 7 (q R.d.v5)).set_ c b 8 (.int .u8 R.k)).set_ c b 9 (q R.n)).set_ c b 10 (Z R.t)).set_ c b 11 (Z R.a)).set_ c b 12 (q R.r)).set_ c b 13 (q R.f))
def ka(v:an)(e:z):Bool:=bG e&&(decide (v.get (e.o-1).toNat=e.s-1)&&tu e.d v)
def gE(v:an)(e:z):Bool:=bG e&&decide (e.s<=v.get (e.o-1).toNat)
def JN{e:z}(h:bG e=true):ol e=true:=by unfold bG at h;rw[bZ]at h;exact h.1
def FW(v:an)(e:z)(B:e.ok)(w:D):Calls prog 144 #[.agg (aF v),.agg (aj e)] w λr i=>r=.returned (.bool (ka v e))/\S w i:=by
 cases a:bG e with
 |false=>
  have p:=U (lf e B false a);have m:=U (show ka v e=false by unfold ka;rw[a];rfl);clear a;go_in;go_wp2_with fail;have T:aI w _ _:=((aI.nil w).push (t:=33) (cs:=aF v) O).push (t:=64) (cs:=aj e) (g:=w.heap.size+1) ah;generalize (w.alloc _).alloc _=W at T⊢;obtain⟨G,-,C,-,-⟩:=T.rules;obtain⟨Q,J,-⟩:=T.lts;refine vR Y Y ?_
  repeat (go_big_quiet_step (first|(go_at_call 117;with_reducible exact Calls.later (p.o _))))
  refine qa ?_;rintro j ⟨x,rfl⟩;have f:=T.call x.below;generalize x.w=j at f;go_wp2;go_ret;exact⟨by rw[m.o];rfl,f.below⟩
 |true=>
  obtain⟨k,E,u,h1,R,L,F⟩:=Dr e (JN a);obtain⟨y,n⟩:=aM (tu e.d v);have A:(e.o-1).toNat=k:=V;have m:=U (show ka v e=(decide (v.get k=e.s-1)&&y)by unfold ka;rw[a,A,n];rfl);have p:=U (lf e B true a);have l:=U λW=>VN e.d v W;have l:mG (∀W,Calls prog 153 #[.agg (aF e.d),.agg (aF v)] W λe i=>e=.returned (.bool y)/\S W i):=by have c:=l.o;rw[n]at c;exact U c
  have s1:IntKind.u64.wrap (e.s-1)=e.s-1:=tU _ V;have o1:IntKind.i64.wrap (e.o-1)=(k:Int):=by rw[u];simp;exact bS _ V
  have i1:(0:Int)<=(k:Int):=V;have X:(k:Int)<6:=V;have g1:=rH v k E;obtain⟨h,P⟩:=aM ((v.get k==e.s-1));have K:=U (show decide (v.get k=e.s-1)=h by rw[<-P];rfl);clear a u L F n A;rcases(show h=false\/h=true from by cases h<;>simp)with rfl|rfl
  all_goals
   go_in;go_wp2_with fail;have T:aI w _ _:=((aI.nil w).push (t:=33) (cs:=aF v) O).push (t:=64) (cs:=aj e) (g:=w.heap.size+1) ah;generalize (w.alloc _).alloc _=W at T⊢;obtain⟨G,-,C,-,-⟩:=T.rules;obtain⟨Q,J,-⟩:=T.lts;refine vR Y Y ?_
   repeat (go_big_quiet_step (first|(go_at_call 117;with_reducible exact Calls.later (p.o _))|(go_at_call 153;with_reducible exact Calls.later (l.o _))))
   refine qa ?_;rintro j ⟨x,rfl⟩;have f:=T.call x.below;generalize x.w=j at f;go_wp2;go_ret;exact⟨by rw[m.o,K.o];rfl,f.below⟩
def Wh(v:an)(e:z)(h:e.ok)(w:D):Calls prog 143 #[.agg (aF v),.agg (aj e)] w λr l=>r=.returned (.bool (gE v e))/\S w l:=by
 cases a:bG e with
 |false=>have b:=U (lf e h false a);have d:=U (show gE v e=false by unfold gE;rw[a];rfl);clear a;go_in;go_wp2_with fail;have T:aI w _ _:=((aI.nil w).push (t:=33) (cs:=aF v) O).push (t:=64) (cs:=aj e) (g:=w.heap.size+1) ah;apply(Calls.trk (b.o _) T).mono;rintro r i ⟨rfl,c,-⟩;go_wp2;go_ret;exact⟨by rw[d.o];rfl,c.below⟩
 |true=>obtain⟨k,j,f,B,y,p,m⟩:=Dr e (JN a);have d:=U (show gE v e=qH v e.o e.s by unfold gE qH;rw[a,show lw e.o=true from by rw[f];exact KU k j,show decide (0<e.s)=true from by simp;omega];rfl);have b:=U (lf e h true a);have n:=U λW=>Yf v e.o e.s W;clear a f p m;go_in;go_wp2_with fail;have T:aI w _ _:=((aI.nil w).push (t:=33) (cs:=aF v) O).push (t:=64) (cs:=aj e) (g:=w.heap.size+1) ah;apply(Calls.trk (b.o _) T).mono;rintro r i ⟨rfl,c,A,-,x,-,-⟩;go_wp2_with (go_at_call 159;(with_reducible refine(Calls.trk (n.o _) c).mono ?_);rintro r C ⟨rfl,u,-⟩);go_ret;exact⟨by rw[d.o];rfl,u.below⟩
def z8:(prog.info? 5).map (λi=>(i.zero,i.size,i.bytes))=some (some (.int .u8 0),1,1):=Y
def ql{g:Array Oper}{b:List Oper}{o:Oper}{a:Act}{Q:Exit->Act->D->Prop}(w:D)(j:o.guard=none)(s x:aO)
  (C:o.op=.call {callee:=.builtin .append,args:=#[s,x],argTypes:=#[150,150]})
  (base:Nat) (v:H) (L aeL:List Int) (E:a.eval s=v) (f:w.ownsRow base 5 1 v L.length (dD L)) (A:Option Addr) (c B:Nat) (F:a.eval x=.slice A aeL.length c) (r:kD w B A aeL)
  (G:L.length+aeL.length<=1000000000) (d:base<=w.heap.size)
  (h:∀i w',w'.ownsRow base 5 1 i (L++aeL).length (dD (L++aeL))->Below base w w'->wpList prog g Q b (a.put o.dst i) w'):wpList prog g Q (o::b) a w:=by
 obtain⟨u,n,k,l,m⟩:=i7 z8;refine IT w j s x 150 C base 5 u (.int .u8 0) 1 1 underlying150 n k l m O ai v L.length (dD L) E f B A aeL.length c (dD aeL) F (LH r) ?_ ?_ ?_ d ?_;intro y p;unfold dD at p;obtain⟨v,_,rfl⟩:=dY.1 p;rfl;unfold maxLen;omega;omega;intro i w' e t;refine h i w' ?_ t;rw[Jf,bW];exact e
def yY{e:Array Oper}{b:List Oper}{o:Oper}{a:Act}{Q:Exit->Act->D->Prop}(w:D)(j:o.guard=none)(s x:aO)
  (l:o.op=.call {callee:=.builtin .append,args:=#[s,x],argTypes:=#[150,150]})
  (base:Nat) (v:H) (L:List Int) (y:Int) (n:a.eval s=v) (d:w.ownsRow base 5 1 v L.length (dD L)) (g:Nat) (p:a.eval x=bh g 1 1) (m:M w g 5 #[.int .u8 y])
  (r:L.length+1<=1000000000) (c:base<=w.heap.size)
  (h:∀k w',w'.ownsRow base 5 1 k (L++[y]).length (dD (L++[y]))->Below base w w'->wpList prog e Q b (a.put o.dst k) w'):wpList prog e Q (o::b) a w:=
 ql w j s x l base v L [y] n d _ 1 (g+1) p (λ_=>⟨g,0,O,V,λi x f=>by
  rw[m.cell]
  match i,f with
  |0,f=>simp at f;subst f;rfl⟩) r c h
def te(l:List Int)(w:D)(e:Ending)(w':D):Prop:=∃u,e=.returned u/\w'.ownsRow w.heap.size 5 1 u l.length (dD l)/\S w w'
def wE(x y:Int)(a:0<=y)(b:y<256):bits .or .u64 (x*256%18446744073709551616) y=x*256%18446744073709551616+y:=by rw[u64_or _ _ V V a V,nat_join 8 _ _ V V];omega
def UA(x:Int)(b:0<=x)(a:x<=18446744073709551615):bits .or .u64 (x*256%18446744073709551616) (x/72057594037927936)=tB x:=
 wE x _ V V
def Pp(x:Int)(c:0<=x)(a:x<=18446744073709551615)(w:D):
  Calls prog 288 #[q x,Z 8] w λe b=>e=.returned (q (tB x))/\w=b:=by
 have d:bits .and .u64 8 63=8:=Y;go_wp2;go_ret;refine⟨EB ?_,O⟩;exact UA x c a
def TW(v:an)(hv:v.ok)(w:D):Calls prog 268 #[.agg (aF v)] w (te (gT v) w):=by
 have α:∀W:D,(Instr.makeSlice 150 (Z 0) (Z 48)).run prog W=.ok (bh W.heap.size 0 48) (W.alloc (.cells (Array.replicate 48 (.int .u8 0)) 5)):=λW=>Y;go_wp2;go_loopw [3,8] (λo i wr=>∃k:Nat,k<=6/\i=Z k/\wr.ownsRow w.heap.size 5 1 o ((gT v).take (8*k)).length (dD ((gT v).take (8*k)))/\S w wr) (λ_ i _=>6-(intOf i).toNat)
 ·exact⟨0,V,O,by simpa[dD]using t6 (base:=w.heap.size) (size:=1) (e:=5) (w.alloc (.cells (aF v) 33)) (Array.replicate 48 (.int .u8 0)) 48 ah ai ah,by go_grown⟩
 obtain⟨k,hk,rfl,b,p⟩:=hrel;by_cases c:k<6
 ·obtain⟨u,E⟩:=hv k c;have J:=Ja v k c;have R:decide ((k:Int)<6)=true:=by simp;omega
  have r:=U (Ni v k c);have C:=U (MQ (v.get k) u E);generalize v.get k=n at J r C u E;go_wp2;go_loopw [3,5,11] (λo x i G=>∃j:Nat,j<=8/\i=Z j/\x=q (db n j)/\G.ownsRow w.heap.size 5 1 o ((gT v).take (8*k+j)).length (dD ((gT v).take (8*k+j)))/\S w G) (λ_ _ i _=>8-(intOf i).toNat);exact⟨0,V,O,by rw[C.o],b,p⟩;obtain⟨j,hj,rfl,rfl,a,f⟩:=hrel;clear b p;by_cases d:j<8
  ·obtain⟨P,K⟩:=JP n j;have B:=U (MR n j d);have F:=U (MS n j d);have L:=U (aao n j d);have s:=f.size;have m:=Pp (db n j) P K;rw[B.o]at m;obtain⟨Q,T⟩:=JP n (j+1);generalize A:db n (j+1)=x at m F B Q T;have HX:=U A;have X:=U m;have h:((gT v).take (8*k+j)).length<=48:=by rw[il,Jv];omega
   generalize y:(gT v).take (8*k+j)=l at a h;have HL:=U y;clear m y A;go_wp2_with (first|(go_at_call 288;(with_reducible refine(X.o _).mono ?_);rintro e w3 ⟨rfl,rfl⟩)|(at_builtin;refine yY _ rfl (.tmp 15) (.tmp 18) rfl w.heap.size _ l _ rfl (a.alloc _) wr.heap.size rfl (M.new _ _ _) V aQ ?_;intro v' w' g t));go_roundw
   ·have e:(gT v).take (8*k+(j+1))=l++[x%256]:=by rw[r.o (j+1) V,L.o,<-i6,<-r.o j V,HL.o,F.o]
    refine⟨j+1,V,by go_num,by rw[HX.o],?_,(f.alloc s _).trans t⟩;rw[e];exact g
   simp[intOf];omega
  obtain rfl:j=8:=V;go_wp2;go_roundw
  ·exact⟨k+1,V,by go_num,by rw[Nat.mul_succ];exact a,f⟩
  simp[intOf];omega
 obtain rfl:k=6:=V;rw[kR (by rw[Jv];decide)]at b;go_wp2;go_ret;exact⟨_,O,b,p⟩
def QZ(bb b o cap:Nat)(l:List Int)(P:l.length=48)(K:48<=cap)(s:cap<=maxLen)(r:∀c∈l,0<=c/\c<=255)(k:Nat)(E:k<6)(w:D)
  (L:w.cell? (I bb 0)=some (.slice (some (I b o)) 48 cap)) (v:∀i x,l[i]? =some x->w.cell? (I b (o+i))=some (.int .u8 x)):
  Calls prog 137 #[Z k,N bb] w λe B=>e=.returned (q ((jT l).get k))/\w=B:=by
 unfold maxLen at s;have p:(k:Int)*8=((8*k:Nat):Int):=V;have h:¬cap=8*k:=V;have f:(jT l).get k=cy ((l.drop (8*k)).take 8):=by rw[jT,an.get_ofFn _ k E]
 have bl:=U f;have G:=U v;clear f v;obtain⟨m,u⟩:=cJ (8*k);rw[<-u]at p h;have F:m<=40:=V;replace u:=U u;go_wp2;go_loop [3,12] (λn i=>∃j:Nat,j<=8/\i=Z j/\n=q (cy ((l.drop m).take j))) (λ_ i=>8-(intOf i).toNat);exact⟨0,V,O,O⟩;obtain⟨j,Q,rfl,rfl⟩:=hrel;by_cases A:j<8
 ·obtain⟨x,g⟩:∃x,l[m+j]? =some x:=⟨l[m+j]' V,bY V⟩;have d:=G.o _ x g;rw[<-gQ]at d;obtain⟨y,R⟩:=r x (cX g);have a:=U (zc (l.drop m) j x (by rw[ob];exact g));have t:=wE (cy ((l.drop m).take j)) x y V;generalize cy ((l.drop m).take j)=n at a t;have J:IntKind.u64.wrap (n*256)=n*256%18446744073709551616:=sN _;clear g;go_wp2;go_round
  ·exact⟨j+1,V,by go_num,by rw[a.o]⟩
  simp[intOf];omega
 obtain rfl:j=8:=V;go_wp2;go_ret;exact⟨EB (by rw[bl.o,u.o]),O⟩
def MC{B:Nat}{a w:D}(h:Below B a w){d:Nat}(b:B<=d)(c x1 x2 x3 e f:H):
  Below B a ((((((w.setCell (I d 0) c).setCell (I d 1) x1).setCell (I d 2) x2).setCell (I d 3) x3).setCell (I d 4) e).setCell (I d 5) f):=
 (((((h.setCell (p:=(I d 0)) b _).setCell (p:=(I d 1)) b _).setCell (p:=(I d 2)) b _).setCell (p:=(I d 3)) b _).setCell (p:=(I d 4)) b _).setCell (p:=(I d 5)) b _
def pF(l:List Int):an×Int:=if l.length=48/\kd (jT l)=true then(jT l,0)else(an.zero,5)
def ZQ(A:Option Addr)(cap:Nat)(l:List Int)(B:Nat)(w:D)(hL:kD w B A l)(hB:B<=w.heap.size)(hn:l.length<=cap)(h:cap<=maxLen)(n:∀c∈l,0<=c/\c<=255):
  Calls prog 116 #[.slice A l.length cap] w λe X=>e=.returned (.tuple #[.agg (aF (pF l).1),Z (pF l).2])/\S w X:=by
 have γ:cap<=9223372036854775807:=h;by_cases a:l.length=48
 ·obtain⟨b,o,rfl,β,hc⟩:=hL (by rintro rfl;simp at a);have hF:∀W g,S w W->W.cell? (I g 0)=some (.slice (some (I b o)) 48 cap)->g<W.heap.size->
    Hf 137 [N g] (jT l) W:=λW g hW hg T k hk G f=>
   (QZ g b o cap l a V h n k hk G ((f.cell (p:=(I g 0)) T).trans hg) λi x hx=>((hW.trans (f.mono hW.size)).cell (p:=(I b _)) (by show b<_;omega)).trans (hc i x hx)).mono λe X ⟨h1,h2⟩=>⟨h1,by subst h2;exact aq _ _⟩
  have F:=Hm (jT l);have s:pF l=if kd (jT l)=true then(jT l,0)else(an.zero,5):=by unfold pF;rw[a];simp
  have L:=U hF;have m:=U s;generalize kd (jT l)=mb at F m;generalize jT l=u at F m L;have C1:=U F;rw[a];clear hF s F hc hL a n;rcases(show mb=false\/mb=true from by cases mb<;>simp)with rfl|rfl
  all_goals
   go_in;go_wp2_with fail;have r:aI w _ _:=((aI.nil w).push (t:=150) (cs:=#[.slice (some (I b o)) 48 cap]) O).push (t:=33) (cs:=aF an.zero) (g:=w.heap.size+1) ah;obtain⟨P,-,C,-,-⟩:=r.rules;obtain⟨l1,l0,-⟩:=r.lts;apply(Ej _ _ u _ (L.o _ _ r.below (C 0) l0) (jk (jk O))).mono;rintro e G ⟨rfl,f⟩;have E:=r.call f;clear P C;obtain⟨P,f1,C,-,-⟩:=E.rules;go_wp2_with fail;have Q:=(E.blk _ _ _ cz).setVec u;have j:S w _:=yC (d:=w.heap.size+1) E.below V u;generalize K:(((((G.setCell _ _).setCell _ _).setCell _ _).setCell _ _).setCell _ _).setCell _ _=w2 at Q j⊢;clear K
   (apply(C1.o _).mono)
   rintro e w3 ⟨rfl,y⟩;have B3:=Q.below y Q.lt;have R:=j.trans (y.mono j.size);obtain⟨s1,t1⟩:=B3.rules;clear C P f1;go_wp2_with fail;refine eu (v:=.tuple #[.agg (aF (pF l).1),Z (pF l).2]) (by rw[m.o];simp[results,results116,go_sem,s1]) O ⟨O,?_⟩;exact MC R V _ _ _ _ _ _
 have s:pF l=(an.zero,5):=by unfold pF;rw[al (by simp[a])]
 have m:=U s;have J:((l.length:Int)==48)=false:=by rw[fH];omega
 have α:((l.length:Int) !=48)=true:=by rw[bne,J];rfl
 clear s a;go_in;go_wp2_with fail;go_returns;refine⟨by rw[m.o],?_⟩;go_grown
def bT(n:Int)(sz:Nat):List Int:=(dO n).drop (8-sz)
def Uh(n:Int):bT n 8=dO n:=rfl
def Ui(n:Int)(b:0<=n)(a:n<256):bT n 1=[n]:=by have:n%256=n:=V;show[n%256]=[n];rw[this]
def E7(w:D):Calls prog 135 #[Z 8] w λe a=>e=.returned (Z 64)/\w=a:=by go_wp2;go_ret;exact⟨O,O⟩
def E8(w:D):Calls prog 135 #[Z 1] w λe a=>e=.returned (Z 8)/\w=a:=by go_wp2;go_ret;exact⟨O,O⟩
def Em(n:Int)(sz:Nat)(a:sz<=8)(j:Nat)(h:j<sz):(bT n sz)[j]? =some (aU n (8-sz+j)):=by unfold bT;rw[ob];exact J4 n _ V
def DS(n:Int)(sz:Nat)(a:sz<=8)(j:Nat)(h:j<sz)(c:Int)(b:c=8*(sz:Int)-8-8*j):aU n (8-sz+j)=n/2^c.toNat%256:=by rw[<-MB n _ V];congr 3;omega
def uH(l:List Int)(n:Int)(w:D)(e:Ending)(w':D):Prop:=∃u,e=.returned (.tuple #[u,Z n])/\w'.ownsRow w.heap.size 5 1 u l.length (dD l)/\S w w'
def EZ(m:Nat)(f:m<=100000000)(k:Nat)(g:k<=100)(W:D):(Instr.makeSlice 150 (Z 0) (Z ((m:Int)+(k:Int)))).run prog W=.ok (bh W.heap.size 0 (m+k)) (W.alloc (.cells (madeCells #[.int .u8 0] (m+k)) 5)):=by obtain⟨e,d,b,c,a⟩:=i7 z8;have h:=run_make (P:=prog) W 150 5 e _ underlying150 d b .i64 .i64 0 ((m:Int)+k) V V (by rw[a];omega) V;rw[c,bU ((((m:Int)+k).toNat*1)=m+k),bU (((m:Int)+k).toNat=m+k)]at h;exact h
def Wx(A:Option Addr)(cap:Nat)(l:List Int)(B:Nat)(n:Int)(w:D)(y:kD w B A l)(L:B<=w.heap.size)(hc:l.length<=cap)(v:cap<=maxLen)(G:l.length<=100000000)(T:0<=n)(h1:n<=18446744073709551615):
  Calls prog 162 #[.slice A l.length cap,q n,Z 8] w (uH (l++bT n 8) 0 w):=by
 have J:=U E7;have u:=EZ l.length G 8 V;rw[show((8:Nat):Int)=8 from rfl]at u;go_in;go_wp2_with (first|(go_at_call 135;(with_reducible refine(J.o _).mono ?_);rintro e R ⟨rfl,rfl⟩)|(at_builtin;go_loud (refine ql _ rfl (.tmp 24) (.tmp 25) rfl w.heap.size _ [] l rfl ?h1 A cap B rfl ?h2 ?h3 ?h4 ?_;(case h1=>exact t6 w _ (l.length+8) (ao _) (by unfold maxLen;omega) (by rw[size_madeCells,iP]));(case h2=>exact y.below ((aq _ _).alloc L _));(case h3=>simp;omega);(case h4=>simp);intro C P a f)));rw[ju]at a;have f:=((aq w.heap.size w).alloc (ao _) _).trans f;clear y;go_loopw [8,9] (λi o wr=>∃(j:Nat) (c:Int),j<=8/\c=56-8*(j:Int)/\i=Z c/\wr.ownsRow w.heap.size 5 1 o (l++(bT n 8).take j).length (dD (l++(bT n 8).take j))/\S w wr) (λi _ _=>(intOf i+8).toNat);exact⟨0,56,V,O,O,az a,f⟩;obtain⟨j,c,K,h,rfl,b,r⟩:=hrel;clear a f;have d:(bT n 8).length=8:=O;by_cases g:j<8
 ·have s:=U (show(bT n 8).take (j+1)=(bT n 8).take j++[n/2^c.toNat%256]from by rw[gP,Em n 8 V j g,DS n 8 V j g c V];rfl);have X:0<=c:=V;have W:c<=56:=V;have p:(l++(bT n 8).take j).length<=100000008:=by rw[bW,il,d];omega
  generalize v:l++(bT n 8).take j=m at b p;have E:=U v;have F:=U h;have t:=r.size;clear v h d;go_wp2_with (at_builtin;refine yY _ O (.tmp 33) (.tmp 38) O w.heap.size _ m _ O (b.alloc _) wr.heap.size O (M.new _ _ _) V aQ ?_;intro C Q k x);go_roundw
  ·have e:l++(bT n 8).take (j+1)=m++[n/2^c.toNat%256]:=by rw[s.o,<-i6,E.o]
   refine⟨j+1,c-8,V,by rw[F.o];omega,O,?_,(r.alloc t _).trans x⟩;rw[e];exact k
  simp[intOf];omega
 obtain rfl:j=8:=V;obtain rfl:c=-8:=V;rw[kR (by rw[d];exact ao _)]at b;go_wp2;go_ret2;exact⟨_,O,b,r⟩
def Wg(A:Option Addr)(cap:Nat)(l:List Int)(B:Nat)(n:Int)(w:D)(y:kD w B A l)(L:B<=w.heap.size)(hc:l.length<=cap)(v:cap<=maxLen)(G:l.length<=100000000)(T:0<=n)(h1:n<=255):
  Calls prog 162 #[.slice A l.length cap,q n,Z 1] w (uH (l++bT n 1) 0 w):=by
 have J:=U E8;have u:=EZ l.length G 1 V;rw[show((1:Nat):Int)=1 from rfl]at u;go_in;go_wp2_with (first|(go_at_call 135;(with_reducible refine(J.o _).mono ?_);rintro e R ⟨rfl,rfl⟩)|(at_builtin;go_loud (refine ql _ rfl (.tmp 24) (.tmp 25) rfl w.heap.size _ [] l rfl ?h1 A cap B rfl ?h2 ?h3 ?h4 ?_;(case h1=>exact t6 w _ (l.length+1) (ao _) (by unfold maxLen;omega) (by rw[size_madeCells,iP]));(case h2=>exact y.below ((aq _ _).alloc L _));(case h3=>simp;omega);(case h4=>simp);intro C P a f)));rw[ju]at a;have f:=((aq w.heap.size w).alloc (ao _) _).trans f;clear y;go_loopw [8,9] (λi o wr=>∃(j:Nat) (c:Int),j<=1/\c=0-8*(j:Int)/\i=Z c/\wr.ownsRow w.heap.size 5 1 o (l++(bT n 1).take j).length (dD (l++(bT n 1).take j))/\S w wr) (λi _ _=>(intOf i+8).toNat);exact⟨0,0,V,O,O,az a,f⟩;obtain⟨j,c,K,h,rfl,b,r⟩:=hrel;clear a f;have d:(bT n 1).length=1:=O;by_cases g:j<1
 ·have s:=U (show(bT n 1).take (j+1)=(bT n 1).take j++[n/2^c.toNat%256]from by rw[gP,Em n 1 V j g,DS n 1 V j g c V];rfl);have X:0<=c:=V;have W:c<=0:=V;have p:(l++(bT n 1).take j).length<=100000008:=by rw[bW,il,d];omega
  generalize v:l++(bT n 1).take j=m at b p;have E:=U v;have F:=U h;have t:=r.size;clear v h d;go_wp2_with (at_builtin;refine yY _ O (.tmp 33) (.tmp 38) O w.heap.size _ m _ O (b.alloc _) wr.heap.size O (M.new _ _ _) V aQ ?_;intro C Q k x);go_roundw
  ·have e:l++(bT n 1).take (j+1)=m++[n/2^c.toNat%256]:=by rw[s.o,<-i6,E.o]
   refine⟨j+1,c-8,V,by rw[F.o];omega,O,?_,(r.alloc t _).trans x⟩;rw[e];exact k
  simp[intOf];omega
 obtain rfl:j=1:=V;obtain rfl:c=-8:=V;clear h;rw[kR (by rw[d];exact ao _)]at b;go_wp2;go_ret2;exact⟨_,O,b,r⟩
def Tn(b o cap:Nat)(l:List Int)(a:Nat)(w:D)(r:∀i x,l[i]? =some x->w.cell? (I b (o+i))=some (.int .u8 x))(G:l.length<=cap)(B:cap<=maxLen)(m:∀c∈l,0<=c/\c<=255)(h:a+8<=l.length):
  Calls prog 115 #[.slice (some (I b o)) l.length cap,Z a,Z 8] w λe t=>e=.returned (.tuple #[q (cy ((l.drop a).take 8)),Z ((a:Int)+8),Z 0])/\w=t:=by
 have A:=U E7;have v:cap<=9223372036854775807:=B;have u:¬cap=a:=V;replace r:=U r;go_in;go_wp2_with (go_at_call 135;(with_reducible refine(A.o _).mono ?_);rintro e F ⟨rfl,rfl⟩);go_loop [6,36] (λn i=>∃j:Nat,j<=8/\i=Z j/\n=q (cy ((l.drop a).take j))) (λ_ i=>8-(intOf i).toNat);exact⟨0,V,O,O⟩;obtain⟨j,C,rfl,rfl⟩:=hrel;by_cases k:j<8
 ·obtain⟨x,g⟩:∃x,l[a+j]? =some x:=⟨l[a+j]' V,bY V⟩;have f:=r.o _ x g;rw[<-gQ]at f;obtain⟨s,J⟩:=m x (cX g);have d:=U (zc (l.drop a) j x (by rw[ob];exact g));have p:=wE (cy ((l.drop a).take j)) x s V;generalize cy ((l.drop a).take j)=n at d p;have E:IntKind.u64.wrap (n*256)=n*256%18446744073709551616:=sN _;clear g;go_wp2;go_round
  ·exact⟨j+1,V,by go_num,by rw[d.o]⟩
  simp[intOf];omega
 obtain rfl:j=8:=V;clear C k;go_wp2;go_ret3;exact⟨O,O⟩
def Uz(b o cap:Nat)(l:List Int)(a:Nat)(w:D)(r:∀i x,l[i]? =some x->w.cell? (I b (o+i))=some (.int .u8 x))(G:l.length<=cap)(B:cap<=maxLen)(m:∀c∈l,0<=c/\c<=255)(h:a+1<=l.length):
  Calls prog 115 #[.slice (some (I b o)) l.length cap,Z a,Z 1] w λe t=>e=.returned (.tuple #[q (cy ((l.drop a).take 1)),Z ((a:Int)+1),Z 0])/\w=t:=by
 have A:=U E8;have v:cap<=9223372036854775807:=B;have u:¬cap=a:=V;replace r:=U r;go_in;go_wp2_with (go_at_call 135;(with_reducible refine(A.o _).mono ?_);rintro e F ⟨rfl,rfl⟩);go_loop [6,36] (λn i=>∃j:Nat,j<=1/\i=Z j/\n=q (cy ((l.drop a).take j))) (λ_ i=>1-(intOf i).toNat);exact⟨0,V,O,O⟩;obtain⟨j,C,rfl,rfl⟩:=hrel;by_cases k:j<1
 ·obtain⟨x,g⟩:∃x,l[a+j]? =some x:=⟨l[a+j]' V,bY V⟩;have f:=r.o _ x g;rw[<-gQ]at f;obtain⟨s,J⟩:=m x (cX g);have d:=U (zc (l.drop a) j x (by rw[ob];exact g));have p:=wE (cy ((l.drop a).take j)) x s V;generalize cy ((l.drop a).take j)=n at d p;have E:IntKind.u64.wrap (n*256)=n*256%18446744073709551616:=sN _;clear g;go_wp2;go_round
  ·exact⟨j+1,V,by go_num,by rw[d.o]⟩
  simp[intOf];omega
 obtain rfl:j=1:=V;clear C k;go_wp2;go_ret3;exact⟨O,O⟩
def EH(w:D):Calls prog 135 #[Z 4] w λe a=>e=.returned (Z 32)/\w=a:=by go_wp2;go_ret;exact⟨O,O⟩
def Wf(A:Option Addr)(cap:Nat)(l:List Int)(B:Nat)(n:Int)(w:D)(y:kD w B A l)(L:B<=w.heap.size)(hc:l.length<=cap)(v:cap<=maxLen)(G:l.length<=100000000)(T:0<=n)(h1:n<=4294967295):
  Calls prog 162 #[.slice A l.length cap,q n,Z 4] w (uH (l++bT n 4) 0 w):=by
 have J:=U EH;have u:=EZ l.length G 4 V;rw[show((4:Nat):Int)=4 from rfl]at u;go_in;go_wp2_with (first|(go_at_call 135;(with_reducible refine(J.o _).mono ?_);rintro e R ⟨rfl,rfl⟩)|(at_builtin;go_loud (refine ql _ rfl (.tmp 24) (.tmp 25) rfl w.heap.size _ [] l rfl ?h1 A cap B rfl ?h2 ?h3 ?h4 ?_;(case h1=>exact t6 w _ (l.length+4) (ao _) (by unfold maxLen;omega) (by rw[size_madeCells,iP]));(case h2=>exact y.below ((aq _ _).alloc L _));(case h3=>simp;omega);(case h4=>simp);intro C P a f)));rw[ju]at a;have f:=((aq w.heap.size w).alloc (ao _) _).trans f;clear y;go_loopw [8,9] (λi o wr=>∃(j:Nat) (c:Int),j<=4/\c=24-8*(j:Int)/\i=Z c/\wr.ownsRow w.heap.size 5 1 o (l++(bT n 4).take j).length (dD (l++(bT n 4).take j))/\S w wr) (λi _ _=>(intOf i+8).toNat);exact⟨0,24,V,O,O,az a,f⟩;obtain⟨j,c,K,h,rfl,b,r⟩:=hrel;clear a f;have d:(bT n 4).length=4:=O;by_cases g:j<4
 ·have s:=U (show(bT n 4).take (j+1)=(bT n 4).take j++[n/2^c.toNat%256]from by rw[gP,Em n 4 V j g,DS n 4 V j g c V];rfl);have X:0<=c:=V;have W:c<=24:=V;have p:(l++(bT n 4).take j).length<=100000008:=by rw[bW,il,d];omega
  generalize v:l++(bT n 4).take j=m at b p;have E:=U v;have F:=U h;have t:=r.size;clear v h d;go_wp2_with (at_builtin;refine yY _ O (.tmp 33) (.tmp 38) O w.heap.size _ m _ O (b.alloc _) wr.heap.size O (M.new _ _ _) V aQ ?_;intro C Q k x);go_roundw
  ·have e:l++(bT n 4).take (j+1)=m++[n/2^c.toNat%256]:=by rw[s.o,<-i6,E.o]
   refine⟨j+1,c-8,V,by rw[F.o];omega,O,?_,(r.alloc t _).trans x⟩;rw[e];exact k
  simp[intOf];omega
 obtain rfl:j=4:=V;obtain rfl:c=-8:=V;rw[kR (by rw[d];exact ao _)]at b;go_wp2;go_ret2;exact⟨_,O,b,r⟩
def To(b o cap:Nat)(l:List Int)(a:Nat)(w:D)(r:∀i x,l[i]? =some x->w.cell? (I b (o+i))=some (.int .u8 x))(G:l.length<=cap)(B:cap<=maxLen)(m:∀c∈l,0<=c/\c<=255)(h:a+4<=l.length):
  Calls prog 115 #[.slice (some (I b o)) l.length cap,Z a,Z 4] w λe t=>e=.returned (.tuple #[q (cy ((l.drop a).take 4)),Z ((a:Int)+4),Z 0])/\w=t:=by
 have A:=U EH;have v:cap<=9223372036854775807:=B;have u:¬cap=a:=V;replace r:=U r;go_in;go_wp2_with (go_at_call 135;(with_reducible refine(A.o _).mono ?_);rintro e F ⟨rfl,rfl⟩);go_loop [6,36] (λn i=>∃j:Nat,j<=4/\i=Z j/\n=q (cy ((l.drop a).take j))) (λ_ i=>4-(intOf i).toNat);exact⟨0,V,O,O⟩;obtain⟨j,C,rfl,rfl⟩:=hrel;by_cases k:j<4
 ·obtain⟨x,g⟩:∃x,l[a+j]? =some x:=⟨l[a+j]' V,bY V⟩;have f:=r.o _ x g;rw[<-gQ]at f;obtain⟨s,J⟩:=m x (cX g);have d:=U (zc (l.drop a) j x (by rw[ob];exact g));have p:=wE (cy ((l.drop a).take j)) x s V;generalize cy ((l.drop a).take j)=n at d p;have E:IntKind.u64.wrap (n*256)=n*256%18446744073709551616:=sN _;clear g;go_wp2;go_round
  ·exact⟨j+1,V,by go_num,by rw[d.o]⟩
  simp[intOf];omega
 obtain rfl:j=4:=V;clear C k;go_wp2;go_ret3;exact⟨O,O⟩
def ZN(A:Option Addr)(n cap a:Nat)(w:D)(i:n<=cap)(d:cap<=maxLen)(h:n<a+4)(f:a<=n):
  Calls prog 115 #[.slice A n cap,Z a,Z 4] w λe b=>e=.returned (.tuple #[q 0,Z 0,Z 5])/\w=b:=by
 have c:=U EH;go_in;go_wp2_with (go_at_call 135;(with_reducible refine(c.o _).mono ?_);rintro e g ⟨rfl,rfl⟩);go_ret3;exact⟨O,O⟩
def pO(n:Int):Prop:=0<=n/\n<=4294967295
def EN(x:Int)(w:D)(e:Ending)(w':D):Prop:=e=.returned (.int .u32 x)/\w=w'
def K3(n:Int):pO (IntKind.u32.wrap n):=by rw[IntKind.wrap_u32];unfold pO;omega
def wB(op:BinOp)(x y:Int):pO (bits op .u32 x y):=K3 _
def oD(n:Int):Int:=bits .xor .u32 (n/2) (3988292384*bits .and .u32 n 1%4294967296)
def sc(n:Int):Int:=(List.range 8).foldl (λn _=>oD n) n
def gD(s:Int)(l:List Int):Int:=bits .xor .u32 IntKind.u32.max (l.foldl (λn x=>sc (bits .xor .u32 n x)) (bits .xor .u32 IntKind.u32.max s))
def QE(n:Int):pO (oD n):=wB _ _ _
def QD(n:Int):pO (sc n):=by show pO (oD (oD (oD (oD (oD (oD (oD (oD n))))))));exact QE _
def WA(s:Int)(h:pO s)(w:D):Calls prog 161 #[.int .u32 s] w (EN (sc s) w):=by
 obtain⟨e,d⟩:=h;go_wp2;go_loop [0,3] (λx i=>∃(j:Nat) (n:Int),j<=8/\i=Z j/\x=.int .u32 n/\(0<=n/\n<=4294967295)/\n=(List.range j).foldl (λn _=>oD n) s) (λ_ i=>8-(intOf i).toNat);exact⟨0,s,V,O,O,⟨e,d⟩,O⟩;obtain⟨j,n,f,rfl,rfl,⟨k,g⟩,b⟩:=hrel;replace b:=U b;by_cases c:j<8
 ·go_wp2;go_round
  ·exact⟨j+1,_,V,by go_num,O,wB _ _ _,by rw[List.range_succ,uc,<-b.o];rfl⟩
  simp[intOf];omega
 obtain rfl:j=8:=V;go_wp2;go_ret;exact⟨by rw[b.o];rfl,O⟩
def xH(A:Option Addr)(c:Nat)(l:List Int)(s:Int)(w:D)(k:kD w w.heap.size A l)(hc:l.length<=c)(G:c<=maxLen)(f:∀x∈l,0<=x/\x<=255)(h:pO s):
  Calls prog 150 #[.int .u32 s,.slice A l.length c] w (EN (gD s l) w):=by
 obtain⟨P,T⟩:=h;have F:=U k;have C:=U f;have E:c<=9223372036854775807:=G;clear k f;go_wp2;go_loop [5,12] (λx i=>∃(j:Nat) (n:Int),j<=l.length/\i=Z j/\x=.int .u32 n/\(0<=n/\n<=4294967295)/\n=(l.take j).foldl (λn x=>sc (bits .xor .u32 n x)) (bits .xor .u32 IntKind.u32.max s)) (λ_ i=>l.length-(intOf i).toNat);exact⟨0,_,V,O,O,wB _ _ _,O⟩;obtain⟨j,n,hj,rfl,rfl,⟨W,n1⟩,v⟩:=hrel;replace v:=U v;by_cases d:j<l.length
 ·obtain⟨b,o,rfl,Q,a⟩:=F.o (λh=>by rw[h]at d;simp at d);obtain⟨y,g⟩:∃y,l[j]? =some y:=⟨l[j],bY d⟩;have K:=a j y g;obtain⟨X,R⟩:=C.o y (cX g);have t:=U (show(l.take (j+1)).foldl (λn x=>sc (bits .xor .u32 n x)) (bits .xor .u32 IntKind.u32.max s)=sc (bits .xor .u32 n y)from by rw[gP,g,uc,<-v.o];rfl);clear a g;have J:=U (λx=>WA (bits .xor .u32 n x) (wB _ _ _) w);go_wp2_with fail;apply(J.o _).mono;rintro e L ⟨rfl,rfl⟩;obtain⟨p,u⟩:=QD (bits .xor .u32 n y);generalize B:sc (bits .xor .u32 n y)=m at p u t;clear B;go_wp2;go_round
  ·exact⟨j+1,m,V,by go_num,O,⟨p,u⟩,t.o.symm⟩
  simp[intOf];omega
 obtain rfl:j=l.length:=V;go_wp2;go_ret;exact⟨by rw[v.o,jt];rfl,O⟩
def s6(s:Int)(l:List Int):pO (gD s l):=wB _ _ _
def BJ(A:Option Addr)(c:Nat)(l:List Int)(w:D)(b:kD w w.heap.size A l)(f:l.length<=c)(d:c<=maxLen)(a:∀x∈l,0<=x/\x<=255):
  Calls prog 151 #[.slice A l.length c] w (EN (gD 0 l) w):=by
 have C:=U (xH A c l 0 w b f d a ⟨V,V⟩);clear b a;go_in;go_wp2_with fail;apply C.o.mono;rintro e g ⟨rfl,rfl⟩;go_wp2;go_ret;exact⟨O,O⟩
