import Derived.Test.YtemcfhlbmhbjeaaGreatDoorZ07
set_option maxRecDepth 100000
set_option maxHeartbeats 0
set_option linter.all false
namespace Go.Proofs.YtemcfhlbmhbjeaaGreatDoor
open Go.Proofs.Tryz
variable{w:D}{x1 x2:aO}{v1 v2:H}{f:Nat->Int}{k g:Nat}
open Go Go.RowKit
@[go_sem ↓ high] def aaY:=@iY 50
@[go_sem ↓ high] def aaQ:=@jC 50
def i9{o:Nat}(h:lB w g o (aw f)):(dQ 50 (.pointer (some (I g o)))).run prog w=.ok (.value (.agg (aw f))) w:=
 eO h underlying50 O (Ey f)
def Ff(x:Int)(b:Bool)(h:cY x=b)(w:D):Calls prog 55 #[Z x] w λe c=>e=.returned (.bool b)/\w=c:=by
 subst h;by_cases a:1<=x<;>by_cases d:x<=6
 all_goals
  go_wp2;go_ret;exact⟨by simp[cY,a,d],O⟩
def Xo(b:Bool)(x:Int)(w:D):Calls prog 360 #[.bool b,Z x] w λe a=>e=.returned (Z (if b then x else 0))/\w=a:=by
 rcases(show b=true\/b=false from by cases b<;>simp)with rfl|rfl
 all_goals
  go_wp2;go_ret;exact⟨O,O⟩
def iR(l:List Int):List H:=l.map (.int .i64)
def ZE(l m:List Int):iR (l++m)=iR l++iR m:=jh
def Zz(l:List Int)(k:Nat)(x:Int)(h:l[k]? =some x):(l.take (k+1)).sum=(l.take k).sum+x/\(l.take (k+1)).all lP=((l.take k).all lP&&lP x):=by rw[gP,h];simp
def Tu{l:List Int}(h:l.all lP=true):0<=l.sum/\l.sum<=l.length*1125899906842624:=by have:=EJ l;unfold fL at this;rw[av h]at this;exact this
def tv(p:Int×Bool):H:=.tuple #[Z p.1,.bool p.2]
@[go_sem] theorem acA(n:Int)(o:Bool):tv (n,o)=.tuple #[Z n,.bool o]:=rfl
def Bg(A:Option Addr)(cap:Nat)(l:List Int)(B:Nat)(w:D)(y:dK w B 1 A l.length (iR l))(T:l.length<=cap)(L:cap<=maxLen)(R:l.length<=8):
  Calls prog 68 #[.slice A l.length cap] w λe G=>e=.returned (tv (fL l))/\w=G:=by
 unfold maxLen at L;replace y:=U y;go_wp2;go_loop [2,8] (λs i=>∃k:Nat,k<=l.length/\i=Z k/\s=Z (l.take k).sum/\(l.take k).all lP=true) (λ_ i=>l.length-(intOf i).toNat);exact⟨0,V,O,O,O⟩;obtain⟨k,Q,rfl,rfl,d⟩:=hrel;by_cases j:k<l.length
 ·obtain⟨x,h⟩:∃x,l[k]? =some x:=⟨l[k],bY j⟩;obtain⟨b,o,rfl,P,a⟩:=y.o.2 V;have J:=a k (Z x) (by unfold iR;rw[nX,h];rfl);have C:=Zz l k x h;have v:=Tu d;have r:(l.take k).length<=8:=by rw[il];omega
  have p:(l.take k).sum<=9007199254740992:=V;have t:=v.1;have m:=U d;have n:=U C;generalize (l.take k).sum=aeU at t p n;have E:=U h;clear a C v d r h;by_cases u:x<0
  ·go_wp2;go_ret2;refine⟨?_,O⟩;have:fL l=(0,false):=by unfold fL;rw[al];intro c;have:=lZ.1 c x (cX E.o);simp[lP]at this;omega
   rw[this];rfl
  by_cases x1:1125899906842624<x
  ·have F:decide (x<0)=false:=fO u;go_wp2;go_ret2;refine⟨?_,O⟩;have:fL l=(0,false):=by unfold fL;rw[al];intro c;have:=lZ.1 c x (cX E.o);simp[lP]at this;omega
   rw[this];rfl
  have F:decide (x<0)=false:=fO u;go_wp2;go_round
  ·exact⟨k+1,V,by go_num,by rw[n.o.1],by rw[n.o.2,m.o];simp[lP];omega⟩
  simp[intOf];omega
 obtain rfl:k=l.length:=V;have m:=U d;clear d;go_wp2;go_ret2;refine⟨?_,O⟩;have:=m.o;rw[kR (ao _)]at this;unfold fL;rw[av this];rfl
section
open Go.BigFrame
def ER:(prog.info? 2).map (λi=>(i.zero,i.size,i.bytes))=some (some (Z 0),1,8):=Y
def iC.ints(base:Nat)(L:List Int):iC:=.row base 2 1 L.length (iR L)
section
variable{P:Program}{ops:Array Oper}{W:D}{base:Nat}{E:List iC}{cs:List (Nat×Nat)}{Q:Act->bN->Prop}{i:Nat}{o:Oper}{rest:List Oper}{a:Act}{F:bN}
def ac5(d:Region.wanted o (yielded ops a.tmps)=true)(v:H)(e:E[i]? =some (.is v))(c:a.eval x1=v1)(b:∀ρ:aO->H,ρ x1=v1->∀w,Below base W w->(execOp ρ o).run P w=.ok (.value v) w)
  (h:iZ P ops W base E cs Q (i+1) rest (a.put o.dst v) (F.ins i v)):iZ P ops W base E cs Q i (o::rest) a F:=EW d v e (λw j=>b a.eval c w j) h
def ac4(e:Region.wanted o (yielded ops a.tmps)=true)(v:H)(j:E[i]? =some (.is v))(d:a.eval x1=v1)(c:a.eval x2=v2)(b:∀ρ:aO->H,ρ x1=v1->ρ x2=v2->∀w,Below base W w->(execOp ρ o).run P w=.ok (.value v) w)
  (h:iZ P ops W base E cs Q (i+1) rest (a.put o.dst v) (F.ins i v)):iZ P ops W base E cs Q i (o::rest) a F:=EW e v j (λw l=>b a.eval d c w l) h
def uv(C:Region.wanted o (yielded ops a.tmps)=true)(x:aO)(ho:o.op=.assign x\/o.op=.move x)(c:Nat)(u1:H)(B:Nat)(e:ay)(sz n:Nat)(xs:List H)(r:E[c]? =some (.row B e sz n xs))(s:E[i]? =some (.row B e sz n xs))(l:jV cs c=some i)(p:F c u1)(j:oG .any ops o c)(m:a.eval x=u1)
  (h:∀u,iZ P ops W base E cs Q (i+1) rest (a.put o.dst u) (F.ins i u)):iZ P ops W base E cs Q i (o::rest) a F:=by
 refine ws C (λw G J=>?_) λu _=>h u;have t:=J c u1 p j (.inr l);simp only[iX,r]at t;have d:(execOp a.eval o).run P w=.ok (.value u1) w:=by unfold execOp;rcases ho with ho|ho<;>rw[ho]<;>(generalize a.eval=ρ at m;simp[m,go_sem])
 rw[d];refine⟨λv A=>(by simp only[qY,s]at A;cases A),G,⟨u1.ownBlock,World.grownBy.refl w _,.inr ⟨c,u1,p,j,l,by simp only[jf,r]⟩,λb y=>?_⟩,by simp only[iX,s];exact t⟩;simp only[jf,s]at y;exact⟨(t.lt b y).2,.inr y⟩
def zv(r:Region.wanted o (yielded ops a.tmps)=true)(t e:ay)(n:Nat)(b:Array (Nat×aO))(y:o.op=.buildSlice t n b)(l:Nat)(xs:List H)(sz m:Nat)
  (s:E[i]? =some (.row l e sz m xs)) (d:l<=base) (j:base<=W.heap.size)
  (c:∀w,Below base W w->(Instr.buildSlice t n (b.map λx=>(x.1,a.eval x.2))).run P w=.ok (bh w.heap.size n n) (w.alloc (.cells xs.toArray e))) (v:m=n) (C:0<sz) (B:xs.length=n*sz) (p:n<=maxLen)
  (h:∀u,iZ P ops W base E cs Q (i+1) rest (a.put o.dst u) (F.ins i u)):iZ P ops W base E cs Q i (o::rest) a F:=by
 subst v;refine Tt r l e sz m xs s d j (λw A=>?_) h;refine⟨bh w.heap.size m m,w.alloc (.cells xs.toArray e),?_,(aq _ _).alloc (ao _) _,?_⟩;unfold execOp;simp only[y,lS,c w A,lX];rfl;have:=World.ownsRow_lit (base:=w.heap.size) (size:=sz) (e:=e) w xs.toArray m (ao _) p (az B);simpa using this
end
section
variable{ops:Array Oper}{W:D}{base:Nat}{E:List iC}{cs:List (Nat×Nat)}{Q:Act->bN->Prop}{i:Nat}{o:Oper}{rest:List Oper}{a:Act}{F:bN}
def DP(x:Int)(w:D):(Instr.buildSlice 196 1 #[(0,Z x)]).run prog w=.ok (bh w.heap.size 1 1) (w.alloc (.cells (iR [x]).toArray 2)):=by obtain⟨e,d,c,b,h⟩:=i7 ER;exact run_buildSlice (P:=prog) w 196 2 1 #[(0,Z x)] #[Z x] e (Z 0) underlying196 d c (by rw[b];decide) (by rw[b];decide) (by rw[b,show Array.range (1*1)=#[0]from ai];simp[Instr.fill,Value.cells,List.zipIdx])
def Pk(x y:Int)(w:D):(Instr.buildSlice 196 2 #[(0,Z x),(1,Z y)]).run prog w=.ok (bh w.heap.size 2 2) (w.alloc (.cells (iR [x,y]).toArray 2)):=by obtain⟨e,d,c,b,h⟩:=i7 ER;exact run_buildSlice (P:=prog) w 196 2 2 #[(0,Z x),(1,Z y)] #[Z x,Z y] e (Z 0) underlying196 d c (by rw[b];decide) (by rw[b];decide) (by rw[b,show Array.range (2*1)=#[0,1]from ai];simp[Instr.fill,Value.cells,List.zipIdx])
def I9(T:Region.wanted o (yielded ops a.tmps)=true)(s x:aO)(ho:o.op=.call {callee:=.builtin .append,args:=#[s,x],argTypes:=#[196,196]})
  (c b:Nat) (u1 u2:H) (L aeL:List Int) (e:E[c]? =some (.ints base L)) (C:E[b]? =some (.ints base aeL)) (X:E[i]? =some (.ints base (L++aeL)))
  (K:jV cs c=some i) (r:jV cs b=none\/jV cs b=some i) (m:F c u1) (G:F b u2) (p:oG .any ops o c) (A:oG .any ops o b) (B:a.eval s=u1) (t:a.eval x=u2)
  (hn:L.length+aeL.length<=1000000) (j:base<=W.heap.size)
  (h:∀u,iZ prog ops W base E cs Q (i+1) rest (a.put o.dst u) (F.ins i u)):iZ prog ops W base E cs Q i (o::rest) a F:=by
 obtain⟨R,J,d,l,n⟩:=i7 ER;refine MJ T s x 196 ho 2 R (Z 0) 1 8 underlying196 J d l n O ai c b u1 u2 L.length aeL.length (iR L) (iR aeL) (iR (L++aeL)) (L++aeL).length e C X bW (ZE L aeL) K r m G p A B t ?_ ?_ ?_ j h;intro y P;unfold iR at P;obtain⟨v,_,rfl⟩:=dY.1 P;rfl;unfold maxLen;omega;omega
structure BN(w:D)(base:Nat)(u v:H)(L aeL:List Int):Prop where
 r1:w.ownsRow base 2 1 u L.length (iR L)
 r2:w.ownsRow base 2 1 v aeL.length (iR aeL)
 ne:∀b,u.ownBlock=some b->v.ownBlock≠some b
def Hn(k j:Nat)(u v:H):bN:=λb c=>(b=k/\c=u)\/(b=j/\c=v)
def PG{c:Array Bool}{j:Nat}{u v:H}{L aeL:List Int}(m:E[k]? =some (.ints base L))(d:E[j]? =some (.ints base aeL))(r:k≠j)(h:BN w base u v L aeL):mi (iX E) (jf E) (jV cs) c (Hn k j u v) w:=by refine⟨?_,?_,?_⟩;rintro s p (⟨rfl,rfl⟩|⟨rfl,rfl⟩) _;simp only[iX,m,iC.ints];exact h.r1;simp only[iX,d,iC.ints];exact h.r2;rintro s p (⟨rfl,rfl⟩|⟨rfl,rfl⟩) _ b l;simp only[jf,m,iC.ints]at l;exact(h.r1.lt b l).2;simp only[jf,d,iC.ints]at l;exact(h.r2.lt b l).2;rintro t u1 x u2 (⟨rfl,rfl⟩|⟨rfl,rfl⟩) (⟨rfl,rfl⟩|⟨rfl,rfl⟩) _ _ n b l;exact absurd O n;simp only[jf,m,d,iC.ints]at l⊢;exact h.ne b l;simp only[jf,m,d,iC.ints]at l⊢;exact λe=>h.ne b e l;exact absurd O n
def JH{c:Array Bool}{F:bN}{j:Nat}{u v:H}{L aeL:List Int}(m:mi (iX E) (jf E) (jV cs) c F w)(hF:F k u)(r:F j v)(x:jV cs k=none)(s:jV cs j=none)(h:E[k]? =some (.ints base L))(d:E[j]? =some (.ints base aeL))(l:k≠j):BN w base u v L aeL:=by
 have n:oq (jV cs) c k:=λj e=>by rw[x]at e;cases e
 have p:oq (jV cs) c j:=λj e=>by rw[s]at e;cases e
 refine⟨?_,?_,λb t=>?_⟩;have:=m.rel k u hF n;simpa only[iX,h,iC.ints]using this;have:=m.rel j v r p;simpa only[iX,d,iC.ints]using this;have:=m.ne k u j v hF r n p l b;simp only[jf,h,d,iC.ints]at this;exact this t
end
def PI(f:Nat->Int)(k j:Nat)(h:j<6):(fU f k)[2+j]? =some (f (18+j*6+k)):=an.six (P:=λj=>(fU f k)[2+j]? =some (f (18+j*6+k))) (by simp[fU]) (by simp[fU]) (by simp[fU]) (by simp[fU]) (by simp[fU]) (by simp[fU]) j h
def Nc(f:Nat->Int)(k j:Nat)(h:j<6):(iw f k)[1+j]? =some (f (18+k*6+j)):=an.six (P:=λj=>(iw f k)[1+j]? =some (f (18+k*6+j))) O O O O O O j h
def NA(f:Nat->Int)(k j:Nat)(h:j<6):(fU f k).take (2+j)++[f (18+j*6+k)]=(fU f k).take (2+(j+1)):=by rw[bU (2+(j+1)=2+j+1),gP,PI f k j h];rfl
def Mc(f:Nat->Int)(k j:Nat)(h:j<6):(iw f k).take (1+j)++[f (18+k*6+j)]=(iw f k).take (1+(j+1)):=by rw[bU (1+(j+1)=1+j+1),gP,Nc f k j h];rfl
def Th(p:Int×Bool)(w:D)(e:Ending)(w':D):Prop:=e=.returned (tv p)/\S w w'
def Gq(f:Nat->Int)(k:Nat)(hk:k<6)(g:Nat)(w:D)(P:M w g 50 (aw f)):Calls prog 56 #[N g,Z k] w (Th (mj f k) w):=by
 have R:(0:Int)<=(k:Int):=V;have T:(k:Int)<6:=V;have c0:=ia f k V;have c1:=ia f (6+k) V;have c2:=ia f (12+k) V;have l:=P.lt;go_in;go_upto_region 1 with fail;refine Ku (w.heap.size) [.is (N g),.is (Z k),.is (N g),.is (.pointer (some (I g 6))),.is (.pointer (some (I g (6+k)))),.is (Z (f (6+k))),.ints (w.heap.size) [f (6+k)],.is (N g),.is (Z k),.is (N g),.is (N g),.is (.pointer (some (I g k))),.is (Z (f k)),.is (N g),.is (Z k),.is (N g),.is (.pointer (some (I g 12))),.is (.pointer (some (I g (12+k)))),.is (Z (f (12+k))),.ints (w.heap.size) [f k,f (12+k)],.ints (w.heap.size) [f (6+k)],.ints (w.heap.size) [f k,f (12+k)]] [(6,20),(19,21)] (λ_ _=>False) Y Y PH ?_
 iterate 6
  refine xL O O (λρ e c b W s=>?_) ?_
  ·have d:=(P.below s l).rules.1;simp[execOp,go_sem,e,c,b,d,R,T,c1]
  simp only[aD]
 refine zv O _ _ _ _ O _ _ _ _ O (ao _) (ao _) (λw _=>by simp only[pW,cW,mJ];exact DP (f (6+k)) w) O ai O ai ?_;intro z6;simp only[aD]
 iterate 12
  refine xL O O (λρ e c b W s=>?_) ?_
  ·have d:=(P.below s l).rules.1;simp[execOp,go_sem,e,c,b,d,R,T,c0,c2]
  simp only[aD]
 refine zv O _ _ _ _ O _ _ _ _ O (ao _) (ao _) (λw _=>by simp only[pW,cW,mJ];exact Pk (f k) (f (12+k)) w) O ai O ai ?_;intro η;simp only[aD];refine uv O _ (by first|exact gO rfl|exact jk rfl) 6 z6 _ _ _ _ _ O O O lM (.inl (mW O)) O ?_;intro x;simp only[aD];refine uv O _ (by first|exact gO rfl|exact jk rfl) 19 η _ _ _ _ _ O O O lM (.inl (mW O)) O ?_;intro t;simp only[aD];intro w1 ls K C;have a:=JH (k:=20) (j:=21) (u:=x) (v:=t) (L:=[f (6+k)]) (aeL:=[f k,f (12+k)]) C lM lM O O O O ai;clear C c0 c1 c2;go_wp2;go_loopw [6,7,33] (λu v i wr=>∃j:Nat,j<=6/\i=Z j/\BN wr w.heap.size u v ((iw f k).take (1+j)) ((fU f k).take (2+j))/\S w wr) (λ_ _ i _=>6-(intOf i).toNat);exact⟨0,V,O,a,K⟩;obtain⟨j,hj,rfl,n,h⟩:=hrel;clear a K;have a:=n;clear n;by_cases J:j<6
 ·have j0:(0:Int)<=(j:Int):=V;have j6:(j:Int)<6:=V;have d1:=ia f (18+k*6+j) V;have d2:=ia f (18+j*6+k) V;have m:=h.size;have hL:((iw f k).take (1+j)).length<=100:=by rw[il];omega
  have hM:((fU f k).take (2+j)).length<=100:=by rw[il];omega
  have G:=U (Mc f k j J);have B:=U (NA f k j J);generalize (iw f k).take (1+j)=L at a hL G;generalize (fU f k).take (2+j)=aeL at a hM B;go_upto_region 5 with fail;refine Ku (w.heap.size) [.ints (w.heap.size) L,.is (N g),.is (Z k),.is (Z j),.is (N g),.is (.pointer (some (I g 18))),.is (.pointer (some (I g (18+k*6)))),.is (.pointer (some (I g (18+k*6+j)))),.is (Z (f (18+k*6+j))),.ints (w.heap.size) [f (18+k*6+j)],.ints (w.heap.size) (L++[f (18+k*6+j)]),.ints (w.heap.size) aeL,.is (N g),.is (Z j),.is (Z k),.is (N g),.is (.pointer (some (I g 18))),.is (.pointer (some (I g (18+j*6)))),.is (.pointer (some (I g (18+j*6+k)))),.is (Z (f (18+j*6+k))),.ints (w.heap.size) [f (18+j*6+k)],.ints (w.heap.size) (aeL++[f (18+j*6+k)]),.ints (w.heap.size) (L++[f (18+k*6+j)]),.ints (w.heap.size) (aeL++[f (18+j*6+k)]),.ints (w.heap.size) L,.ints (w.heap.size) aeL] [(24,0),(0,10),(9,10),(25,11),(11,21),(20,21),(10,22),(21,23)] (Hn 24 25 u6 u7) Y Y (PG O O ai ⟨a.r1,a.r2,a.ne⟩) ?_;refine uv O _ (by first|exact gO rfl|exact jk rfl) 24 u6 _ _ _ _ _ O O O lM (.inr ai) O ?_;intro aC;simp only[aD]
  iterate 8
   refine xL O O (λρ e c b W s=>?_) ?_
   ·have d:=(P.below (h.trans s) l).rules.1;simp[execOp,go_sem,e,c,b,d,R,T,j0,j6,d1]
   simp only[aD]
  refine zv O _ _ _ _ O _ _ _ _ O (ao _) m (λw _=>by simp only[pW,cW,mJ];exact DP (f (18+k*6+j)) w) O ai O ai ?_;intro z9;simp only[aD];refine I9 O _ _ O 0 9 aC z9 L [f (18+k*6+j)] O O O O (.inr O) lM lM (.inl (mW O)) (.inl (mW O)) O O (by first|omega|(simp only[bW,il,dN,g8];omega)) m ?_;intro β;simp only[aD];refine uv O _ (by first|exact gO rfl|exact jk rfl) 25 u7 _ _ _ _ _ O O O lM (.inr ai) O ?_;intro κ;simp only[aD]
  iterate 8
   refine xL O O (λρ e c b W s=>?_) ?_
   ·have d:=(P.below (h.trans s) l).rules.1;simp[execOp,go_sem,e,c,b,d,R,T,j0,j6,d2]
   simp only[aD]
  refine zv O _ _ _ _ O _ _ _ _ O (ao _) m (λw _=>by simp only[pW,cW,mJ];exact DP (f (18+j*6+k)) w) O ai O ai ?_;intro x;simp only[aD];refine I9 O _ _ O 11 20 κ x aeL [f (18+j*6+k)] O O O O (.inr O) lM lM (.inl (mW O)) (.inl (mW O)) O O (by first|omega|(simp only[bW,il,dN,g8];omega)) m ?_;intro t;simp only[aD];refine uv O _ (by first|exact gO rfl|exact jk rfl) 10 β _ _ _ _ _ O O O lM (.inl (mW O)) O ?_;intro α;simp only[aD];refine uv O _ (by first|exact gO rfl|exact jk rfl) 21 t _ _ _ _ _ O O O lM (.inl (mW O)) O ?_;intro δ;simp only[aD];intro w2 ls θ C;have a:=JH (k:=22) (j:=23) (u:=α) (v:=δ) (L:=L++[f (18+k*6+j)]) (aeL:=aeL++[f (18+j*6+k)]) C lM lM O O O O ai;clear C d1 d2;go_wp2;go_roundw
  ·exact⟨j+1,V,by go_num,by rw[<-G.o,<-B.o];exact a,h.trans θ⟩
  simp[intOf];omega
 obtain rfl:j=6:=V;rw[show(iw f k).take (1+6)=iw f k from rfl,show(fU f k).take (2+6)=fU f k from rfl]at a;obtain⟨A1,n1,rfl,γ,ε,F⟩:=dS a.r1;obtain⟨A2,n2,rfl,ι,ζ,A⟩:=dS a.r2;have X:=U (Bg A1 n1 (iw f k) _ _ F γ ε (by simp[iw]));have Q:=U (Bg A2 n2 (fU f k) _ _ A ι ζ (by simp[fU]));have y:=EJ (iw f k);have E:=EJ (fU f k);rw[show((iw f k).length:Int)=7 from rfl]at y;rw[show((fU f k).length:Int)=8 from rfl]at E;have HL:=U (show mj f k=((fL (fU f k)).1-(fL (iw f k)).1,(fL (iw f k)).2&&(fL (fU f k)).2)from O);unfold tv at X Q;have G:(iw f k).length=7:=O;have B:(fU f k).length=8:=O;rw[G]at X;rw[B]at Q;obtain⟨⟨s1,o1⟩,h1⟩:=aM (fL (iw f k));obtain⟨⟨s2,o2⟩,h2⟩:=aM (fL (fU f k));rw[h1]at X y HL;rw[h2]at Q E HL;have ν:=y.1;have π:=y.2;have ξ:=E.1;have μ:=E.2;clear y E h1 h2 G B F A a;go_wp2_with fail;apply X.o.mono;rintro r w2 ⟨rfl,rfl⟩;go_wp2_with fail;apply Q.o.mono;rintro r w2 ⟨rfl,rfl⟩;rcases(show o1=true\/o1=false from by cases o1<;>simp)with rfl|rfl
 all_goals
  go_wp2;go_ret2;exact⟨by rw[HL.o];rfl,h⟩
end
def LP(a:k<6)(h:qy f k=false):ie f=false:=by unfold ie;rw[show(List.range 6).all (qy f)=false from by rw[List.all_eq_false];exact⟨k,rq.2 a,by simp[h]⟩];rfl
def Nt(h:∀k,k<6->qy f k=true):ie f=((fL (jU f)).2&&decide ((fL (jU f)).1<=1125899906842624)):=by unfold ie;rw[show(List.range 6).all (qy f)=true from lZ.2 λk a=>h k (rq.1 a)];rfl
def Xp(h:M w g 50 (aw f)):dK w (g+1) 1 (some (I g 0)) (jU f).length (iR (jU f)):=by
 refine⟨O,λ_=>⟨g,0,O,V,λj u a=>?_⟩⟩;rw[h.cell,cA]
 match j,a with
 |0,a=>simp[jU,iR]at a;subst a;exact ia f 0 V
 |1,a=>simp[jU,iR]at a;subst a;exact ia f 1 V
 |2,a=>simp[jU,iR]at a;subst a;exact ia f 2 V
 |3,a=>simp[jU,iR]at a;subst a;exact ia f 3 V
 |4,a=>simp[jU,iR]at a;subst a;exact ia f 4 V
 |5,a=>simp[jU,iR]at a;subst a;exact ia f 5 V
 |n+6,a=>simp[jU,iR]at a
def Tg(b:Bool)(w:D)(e:Ending)(w':D):Prop:=e=.returned (.bool b)/\S w w'
def Bh(f:Nat->Int)(b:Bool)(C:ie f=b)(w:D):Calls prog 54 #[.agg (aw f)] w (Tg b w):=by
 replace C:=U C;go_in;go_wp2_with fail;have B:aI w _ [(w.heap.size,50,aw f)]:=(aI.nil w).push (t:=50) (cs:=aw f) O;generalize w.alloc _=W at B⊢;go_loopw [8] (λi wr=>∃k:Nat,k<=6/\i=Z k/\aI w wr [(w.heap.size,50,aw f)]/\mG (∀j,j<k->qy f j=true)) (λi _=>6-(intOf i).toNat);exact⟨0,V,O,B,U λj G=>absurd G V⟩;obtain⟨k,X,rfl,T,x⟩:=hrel;clear B;by_cases c:k<6
 ·have a:=U (Gq f k c w.heap.size wr (T.blk _ _ _ cz));have K:decide ((k:Int)<6)=true:=by simp;omega
  have k0:(0:Int)<=(k:Int):=V;have k6:(k:Int)<6:=V;have bl:=U (show qy f k=((mj f k).2&&(!decide ((mj f k).1<0)&&(!decide (f (6+k)<f (12+k))&&decide (f (18+k*6+k)=0))))from O);obtain⟨⟨n,o⟩,d⟩:=aM (mj f k);rw[d]at a bl;unfold tv at*;clear d;go_wp2_with fail;apply a.o.mono;rintro r L ⟨rfl,l⟩;have y:=T.call l;clear T l a;obtain⟨P,-,-⟩:=y.rules;have c1:=ia f (6+k) V;have c2:=ia f (12+k) V;have c3:=ia f (18+k*6+k) V;replace y:=U y;obtain⟨m,Q⟩:=aM (decide (n<0));obtain⟨h,v⟩:=aM (decide (f (6+k)<f (12+k)));obtain⟨u,R⟩:=aM ((f (18+k*6+k) !=0));have F:decide (f (18+k*6+k)=0)= !u:=by rw[<-R];simp[bne];rfl
  rw[show(decide ((n,o).1<0))=m from Q,v,F]at bl;clear F;go_upto_region 5 with fail;rcases(show o=false\/o=true from by cases o<;>simp)with rfl|rfl;rotate_left;rcases(show m=true\/m=false from by cases m<;>simp)with rfl|rfl;rotate_left;rcases(show h=true\/h=false from by cases h<;>simp)with rfl|rfl;rotate_left;rcases(show u=true\/u=false from by cases u<;>simp)with rfl|rfl;rotate_left
  ·go_quiet (fail);go_wp2;go_roundw
   case rel=>exact⟨k+1,V,by go_num,y.o.drewN _,U λj G=>by by_cases e:j=k;subst e;exact bl.o;exact x.o j V⟩
   simp[intOf];omega
  all_goals
   go_quiet (fail);go_wp2;go_ret;refine⟨?_,(y.o.drewN _).below⟩;rw[<-C.o,LP c bl.o];rfl
 obtain rfl:k=6:=V;have K:decide (((6:Nat):Int)<6)=false:=ai;have a:=U (Bg (some (I w.heap.size 0)) 6 (jU f) _ wr (Xp (T.blk _ _ _ cz)) (by simp[jU]) ai (by simp[jU]));have A:=U (Nt x.o);obtain⟨⟨s,o⟩,d⟩:=aM (fL (jU f));rw[d]at a A;unfold tv at*;rw[show(jU f).length=6 from rfl]at a;clear d x;go_wp2_with fail;apply a.o.mono;rintro r L ⟨rfl,rfl⟩;obtain⟨h,v⟩:=aM (decide (s<=1125899906842624));rw[show decide ((s,o).1<=1125899906842624)=h from v]at A;rcases(show o=false\/o=true from by cases o<;>simp)with rfl|rfl
 all_goals
  go_wp2;go_ret;refine⟨?_,T.below⟩;rw[<-C.o,A.o];rfl
def Oz(n:Int)(w:D)(e:Ending)(w':D):Prop:=e=.returned (Z n)/\S w w'
def Vq(f:Nat->Int)(k:Nat)(s:k<6)(w:D):Calls prog 39 #[.agg (aw f),Z ((k:Int)+1)] w (Oz (cS f k) w):=by
 have x:=U (Ff ((k:Int)+1) true (by unfold cY;simp;omega));obtain⟨b,h⟩:=aM (ie f);have v:=U (Bh f b h);have d:=U (show cS f k=if b then(mj f k).1 else 0 from by unfold cS;rw[h]);clear h;go_in;go_wp2_with fail;have c:aI w _ [(w.heap.size,50,aw f)]:=(aI.nil w).push (t:=50) (cs:=aw f) O;generalize w.alloc _=W at c⊢;apply(x.o _).mono;rintro r l ⟨rfl,rfl⟩;have u:=i9 (c.blk _ _ _ cz).rng;go_wp2_with fail;apply(v.o _).mono;rintro r l ⟨rfl,a⟩;have e:=c.call a;clear c a u;rcases(show b=false\/b=true from by cases b<;>simp)with rfl|rfl
 ·go_wp2;go_ret;exact⟨by rw[d.o];rfl,e.below⟩
 have m:=U (Gq f k s w.heap.size l (e.blk _ _ _ cz));obtain⟨⟨n,o⟩,j⟩:=aM (mj f k);rw[j]at m d;unfold tv at*;clear j;go_wp2_with fail;apply m.o.mono;rintro r y ⟨rfl,i⟩;go_wp2;go_ret;exact⟨by rw[d.o];rfl,(e.call i).below⟩
def py{fn:Func}{s1 s2:Nat}(h:fn.results=#[.cell s1 50,.tmp s2])(tmps:Array H)(g:Nat)(f:Nat->Int)(a:Int)(w:D)(i:tmps.getD s1 undef=.pointer (some (I g 0)))(b:tmps.getD s2 undef=Z a)
  (j:M w g 50 (aw f)):(results fn tmps).run prog w=.ok (.tuple #[.agg (aw f),Z a]) w:=by
 have c:=run_loadVar_mid (P:=prog) w g 0 50 (aw f).toList _ j.rng.at_ underlying50 O (by rw[Ey f];simp);have e:tmps[s1]?.getD undef=.pointer (some (I g 0)):=by rw[<-i];simp
 have d:tmps[s2]?.getD undef=Z a:=by rw[<-b];simp
 simp[results,h,e,d,c,asAddr]
def tp(p:Int×(Nat->Int))(w:D)(e:Ending)(w':D):Prop:=e=.returned (.tuple #[.agg (aw p.2),Z p.1])/\S w w'
def tt(P:Program)(fn:FuncId)(a:Array H)(w:D)(b:Int):Prop:=∀c,S w c->Calls P fn a c λe d=>e=.returned (Z b)/\S c d
def tq(P:Program)(fn:FuncId)(a:Array H)(w:D)(p:Nat):Prop:=∀b g,S w b->g<b.heap.size->Calls P fn (#[N g]++a) b λe c=>e=.returned (.pointer (some (I g p)))/\∃n,c=b.drewN n
def kY(f:Nat->Int)(x:Int)(b:Bool)(a:Int)(p:Nat):Int×(Nat->Int):=if oE f x then(1,aC)else if b=false then(10,aC)else if a≠0 then(a,aC)else putR f p x
def oz{a:Nat->Int}(b:M w g 50 (aw a))(f:Nat->Int):(eQ 50 (N g) (.agg (aw f))).run prog w=.ok .skip (w.setRow g (aw f)):=by
 have h:=zI (P:=prog) (ty:=50) (o:=0) b (Ey f) (by rw[mS,mS];omega) (Ek f);rw[h];have e:((aw a).toList.take 0++(aw f).toList++(aw a).toList.drop (0+(aw f).size)).toArray=aw f:=by rw[yk (by simp[mS])];simp
 rw[e]
def ET(f:Nat->Int)(x:Int)(hx:-9223372036854775808<=x/\x<=9223372036854775807)(hf:dx f)(Q:Bool)(d:Int)(p:Nat)(hp:p<54)(fm fp:FuncId)(cm cp:Array H)(w:D)
  (CM:tt prog fm cm w d) (CP:tq prog fp cp w p) (em:∀args w,(callFunc fm args).run prog w=.ok (.enter fm args) w) (ep:∀args w,(callFunc fp args).run prog w=.ok (.enter fp args) w):
  Calls prog 358 #[.agg (aw f),Z x,.bool Q,.func (.func fm) #[] cm,.func (.func fp) #[] cp] w (tp (kY f x Q d p) w):=by
 have HM:=U CM;have W:=U CP;clear CM CP;have P:=U (show oE f x=(!ie f||(decide (x<1)||decide (1125899906842624<x)))from O);obtain⟨b,hb⟩:=aM (ie f);have C1:=U (Bh f b hb);rw[hb]at P;obtain⟨L,h1⟩:=aM (decide (x<1));obtain⟨b2,h2⟩:=aM (decide (1125899906842624<x));rw[h1,h2]at P;clear hb;have B0:ax ((w.alloc (.cells (aw f) 50)).alloc (.cells (aw aC) 50)) [(w.heap.size+1,50,aw aC),(w.heap.size,50,aw f)]:=(ax.nil.push (t:=50) (cs:=aw f) O).push (t:=50) (cs:=aw aC) ah;have D0:S w ((w.alloc (.cells (aw f) 50)).alloc (.cells (aw aC) 50)):=((aq _ _).alloc (ao _) _).alloc ah _;have n1:w.heap.size+1≠w.heap.size:=V;have hl:=i9 (B0.drop.head).rng;have HB:=aB B0 D0;clear B0 D0;go_in;go_wp2_with fail;apply(C1.o _).mono;rintro r X ⟨rfl,K⟩;have a:=aB (HB.o.1.call K) (HB.o.2.trans (K.mono aQ));clear HB K hl C1;have R:∀(l:D) (F:Nat->Int) (er:Int),ax l [(w.heap.size+1,50,aw aC),(w.heap.size,50,aw F)]->∀G:Nat->Int,(eQ 50 (N (w.heap.size+1)) (.agg (aw G))).run prog l=.ok .skip (l.setRow (w.heap.size+1) (aw G)):=λl F er hB G=>oz hB.head G;have done:∀(l:D) (F:Nat->Int),ax l [(w.heap.size+1,50,aw aC),(w.heap.size,50,aw F)]->S w l->∀G:Nat->Int,M (l.setRow (w.heap.size+1) (aw G)) (w.heap.size+1) 50 (aw G)/\S w (l.setRow (w.heap.size+1) (aw G)):=λl F hB hD G=>⟨lU l _ _ _ _ _ hB.head,hD.trans ⟨O,O,O,by simp[World.setRow],λk hk=>lT l _ k _ V⟩⟩;have m:=U R;have s:=U done;clear R done;by_cases T:(!b||(L||b2))=true
 ·have u:=m.o X f 0 a.o.1 aC;have h:=U (s.o X f a.o.1 a.o.2 aC);have B:=U (show kY f x Q d p=(1,aC)from by unfold kY;rw[av (P.o.trans T)]);clear m s P HM W a;rcases(show b=false\/(b=true/\L=true)\/(b=true/\L=false/\b2=true)from by cases b<;>cases L<;>cases b2<;>simp at T⊢)with rfl|⟨rfl,rfl⟩|⟨rfl,rfl,rfl⟩
  all_goals
   clear T;go_wp2_with fail;exact eu (v:=.tuple #[.agg (aw aC),Z 1]) (py (s1:=10) (s2:=11) Y _ (w.heap.size+1) aC 1 _ O O h.o.1) O ⟨by rw[B.o],h.o.2⟩
 have α:b=true/\L=false/\b2=false:=by cases b<;>cases L<;>cases b2<;>simp at T⊢
 obtain⟨rfl,rfl,rfl⟩:=α;have J:=U (show oE f x=false from by rw[P.o];rfl);clear T P;have δ:1<=x:=az h1;have β:x<=1125899906842624:=az h2;rcases(show Q=false\/Q=true from by cases Q<;>simp)with rfl|rfl
 ·have u:=m.o X f 0 a.o.1 aC;have h:=U (s.o X f a.o.1 a.o.2 aC);have B:=U (show kY f x false d p=(10,aC)from by unfold kY;rw[J.o];rfl);clear m s HM W a;go_wp2_with fail;exact eu (v:=.tuple #[.agg (aw aC),Z 10]) (py (s1:=10) (s2:=11) Y _ (w.heap.size+1) aC 10 _ O O h.o.1) O ⟨by rw[B.o],h.o.2⟩
 go_wp2_with fail;apply(HM.o _ a.o.2).mono;rintro r w2 ⟨rfl,E⟩;have e:=aB (a.o.1.call E) (a.o.2.trans (E.mono a.o.2.size));clear a E HM;by_cases he:d=0;rotate_left
 ·have γ:(d !=0)=true:=by simp[he]
  have u:=m.o w2 f 0 e.o.1 aC;have h:=U (s.o w2 f e.o.1 e.o.2 aC);have B:=U (show kY f x true d p=(d,aC)from by unfold kY;rw[J.o,al ah,al ah,av he]);clear m s W e he;go_wp2_with fail;exact eu (v:=.tuple #[.agg (aw aC),Z d]) (py (s1:=10) (s2:=11) Y _ (w.heap.size+1) aC d _ O O h.o.1) O ⟨by rw[B.o],h.o.2⟩
 subst he;have B:=U (show kY f x true 0 p=putR f p x from by unfold kY;rw[J.o];rfl);go_wp2_with fail;apply(W.o w2 w.heap.size e.o.2 (e.o.1.drop.head).lt).mono;rintro r w3 ⟨rfl,n,rfl⟩;have i:=aB (e.o.1.drewN n) (j7 e.o.2 n);generalize w2.drewN n=w3 at i⊢;clear e W;obtain⟨f0,f1⟩:=hf p hp;have c1:=ia f p hp;obtain⟨-,-,q0,q1,-⟩:=i.o.1.rules;obtain⟨-,l0,-⟩:=i.o.1.lts;go_upto_region 12 with fail;have B4:=((i.o.1.perm (cs:=[(w.heap.size,50,aw f),(w.heap.size+1,50,aw aC)]) ah).set_ ⟨n1,trivial⟩ p (Z (f p+x)));rw[EA f p hp]at B4;have D4:=i.o.2.setCell (p:=(I w.heap.size p)) (ao _) (Z (f p+x));have c:=aB (B4.perm (cs:=[(w.heap.size+1,50,aw aC),(w.heap.size,50,aw (gU f p (f p+x)))]) ah) D4;clear B4 D4 i q0 q1 l0 c1;generalize w3.setCell _ _=w4 at c⊢;have j:=U (show putR f p x=if 1125899906842624<f p+x then(6,aC)else(0,gU f p (f p+x))from O);have A:(gU f p (f p+x)) p=f p+x:=by simp[gU]
 generalize C:f p+x=y at c j A⊢;generalize gU f p y=F at c j A;have c1:=ia F p hp;rw[A]at c1;obtain⟨-,-,q0,q1,-⟩:=c.o.1.rules;clear C A f0 f1;by_cases C:1125899906842624<y
 ·have u:=m.o w4 F 0 c.o.1 aC;have h:=U (s.o w4 F c.o.1 c.o.2 aC);have dy:decide (1125899906842624<y)=true:=fa C;rw[av C]at j;clear m s c C;go_wp2_with fail;exact eu (v:=.tuple #[.agg (aw aC),Z 6]) (py (s1:=10) (s2:=11) Y _ (w.heap.size+1) aC 6 _ O O h.o.1) O ⟨by rw[B.o,j.o],h.o.2⟩
 have u:=m.o w4 F 0 c.o.1 F;have h:=U (s.o w4 F c.o.1 c.o.2 F);have hl:=i9 (c.o.1.drop.head).rng;have dy:decide (1125899906842624<y)=false:=fO C;rw[al C]at j;clear m s c C;go_wp2_with fail;exact eu (v:=.tuple #[.agg (aw F),Z 0]) (py (s1:=10) (s2:=11) Y _ (w.heap.size+1) F 0 _ O O h.o.1) O ⟨by rw[B.o,j.o],h.o.2⟩
def Ac(b:Bool)(x:Int)(w:D):Calls prog 360 #[.bool b,Z x] w λe c=>e=.returned (Z (if b then x else 0))/\S w c:=
 (Xo b x w).mono λ_ _ ⟨a,d⟩=>⟨a,d▸aq _ _⟩
def wM(f:Nat->Int)(k:Nat)(b:k<6)(w:D):Calls prog 39 #[.agg (aw f),Z ((k:Int)+1)] w λe a=>e=.returned (Z (cS f k))/\S w a:=Vq f k b w
section
variable{w:D}{px pr pi pj:Nat}{x:Int}{f:Nat->Int}{k j:Nat}
def YG(c:M w px 2 #[Z x])(d:M w pr 50 (aw f))(a:M w pi 3 #[Z ((k:Int)+1)])(l:k<6):
  tt prog 359 #[N px,N pr,N pi] w (if decide (cS f k<x)then 11 else 0):=by
 intro i e;have c:=c.call e;have d:=d.call e;have a:=a.call e;obtain⟨t,-⟩:=c.rules;obtain⟨p,-⟩:=a.rules;have s:=c.lt;have r:=a.lt;have u:=λy:iy i=>i9 (d.call y.below).rng;have n:=U (λy:iy i=>wM f k l y.w);obtain⟨b,h⟩:=aM (decide (cS f k<x));have m:=U (λy:iy i=>Ac b 11 y.w);rw[h];clear c d a e;go_in;go_wp2_with fail;refine vR Y Y ?_
 repeat (go_big_quiet_step (first|(go_at_call 39;with_reducible exact Calls.later (n.o _))|(go_at_call 360;with_reducible exact Calls.later (m.o _))))
 refine qa ?_;rintro v ⟨y,rfl⟩;go_wp2_with fail
 all_goals
  go_ret;exact⟨O,y.below⟩
def Yl(d:M w px 2 #[Z x])(a:M w pr 50 (aw f))(c:M w pi 3 #[Z ((k:Int)+1)])(r:k<6)(i:dx f):
  tt prog 362 #[N px,N pr,N pi] w (if decide (f (6+k)-f (12+k)<x)then 12 else 0):=by
 intro l e;have d:=d.call e;have a:=a.call e;have c:=c.call e;obtain⟨E,-⟩:=d.rules;obtain⟨B,-⟩:=c.rules;obtain⟨G,-⟩:=a.rules;have s:=d.lt;have C:=c.lt;have L:=a.lt;have v:=ia f (6+k) V;have A:=ia f (12+k) V;obtain⟨p,t⟩:=i (6+k) V;obtain⟨J,K⟩:=i (12+k) V;have u:(0:Int)<=(k:Int):=V;have F:(k:Int)<6:=V;obtain⟨b,h⟩:=aM (decide (f (6+k)-f (12+k)<x));have m:=U (λy:iy l=>Ac b 12 y.w);rw[h];clear d a c e;go_in;go_wp2_with fail;refine vR Y Y ?_
 repeat (go_big_quiet_step ((go_at_call 360;with_reducible exact Calls.later (m.o _))))
 refine qa ?_;rintro n ⟨y,rfl⟩;go_wp2_with fail
 all_goals
  go_ret;exact⟨O,y.below⟩
def Yj(c:M w pi 3 #[Z ((k:Int)+1)])(i:M w pj 3 #[Z ((j:Int)+1)])(h:M w px 2 #[Z x])(l:M w pr 50 (aw f))(s:k<6)(u:j<6):
  tt prog 364 #[N pi,N pj,N px,N pr] w (if k=j then 1 else if decide (cS f k<x)then 11 else 0):=by
 intro n a;have h:=h.call a;have l:=l.call a;have c:=c.call a;have i:=i.call a;obtain⟨E,-⟩:=h.rules;obtain⟨v,-⟩:=c.rules;obtain⟨A,-⟩:=i.rules;have C:=h.lt;have B:=c.lt;have t:=λy:iy n=>i9 (l.call y.below).rng;have r:=U (λy:iy n=>wM f k s y.w);obtain⟨b,m⟩:=aM (decide (cS f k<x));have p:=U (λy:iy n=>Ac b 11 y.w);rw[m];clear h l c i a;by_cases e:k=j
 ·subst e;rw[av rfl];clear t r p;have d:((k:Int)+1==(k:Int)+1)=true:=ah;go_wp2;go_ret;exact⟨O,aq _ _⟩
 rw[al e];have d:((k:Int)+1==(j:Int)+1)=false:=by simp;omega
 clear e;go_in;go_wp2_with fail;refine vR Y Y ?_
 repeat (go_big_quiet_step (first|(go_at_call 39;with_reducible exact Calls.later (r.o _))|(go_at_call 360;with_reducible exact Calls.later (p.o _))))
 refine qa ?_;rintro F ⟨y,rfl⟩;go_wp2_with fail
 all_goals
  go_ret;exact⟨O,y.below⟩
def YF(a:M w pi 3 #[Z ((k:Int)+1)])(d:k<6):tq prog 361 #[N pi] w (6+k):=by intro e g b l;have a:=a.call b;obtain⟨c,-⟩:=a.rules;have h:(0:Int)<=(k:Int):=V;have i:(k:Int)<6:=V;clear a b;rw[show(#[N g]++ #[N pi]:Array H)=#[N g,N pi]from rfl];go_in;go_upto_region 1 with fail;go_quiet (fail);go_wp2;go_ret;exact⟨O,_,O⟩
def Yk(a:M w pi 3 #[Z ((k:Int)+1)])(d:k<6):tq prog 363 #[N pi] w (12+k):=by intro e g b l;have a:=a.call b;obtain⟨c,-⟩:=a.rules;have h:(0:Int)<=(k:Int):=V;have i:(k:Int)<6:=V;clear a b;rw[show(#[N g]++ #[N pi]:Array H)=#[N g,N pi]from rfl];go_in;go_upto_region 1 with fail;go_quiet (fail);go_wp2;go_ret;exact⟨O,_,O⟩
def Yi(b:M w pi 3 #[Z ((k:Int)+1)])(a:M w pj 3 #[Z ((j:Int)+1)])(i:k<6)(d:j<6):tq prog 365 #[N pi,N pj] w (18+k*6+j):=by intro l g c r;have b:=b.call c;obtain⟨e,-⟩:=b.rules;have a:=a.call c;obtain⟨h,-⟩:=a.rules;have n:(0:Int)<=(k:Int):=V;have o:(k:Int)<6:=V;have m:(0:Int)<=(j:Int):=V;have p:(j:Int)<6:=V;clear b a c;rw[show(#[N g]++ #[N pi,N pj]:Array H)=#[N g,N pi,N pj]from rfl];go_in;go_upto_region 1 with fail;go_quiet (fail);go_wp2;go_ret;exact⟨O,_,O⟩
end
section
open Go.BigFrame
section
variable{P:Program}{ops:Array Oper}{W:D}{E:List iB}{Q:Act->bN->Prop}{i:Nat}{o:Oper}{rest:List Oper}{a:Act}{F:bN}
def FE(d:Region.wanted o (yielded ops a.tmps)=true)(v:H)(e:E[i]? =some (.is v))(c:a.eval x1=v1)(b:∀ρ:aO->H,ρ x1=v1->∀w,S W w->(execOp ρ o).run P w=.ok (.value v) w)
  (h:iE P ops W E Q (i+1) rest (a.put o.dst v) (F.ins i v)):iE P ops W E Q i (o::rest) a F:=qA d v e (λw j=>b a.eval c w j) h
def Sc(e:Region.wanted o (yielded ops a.tmps)=true)(v:H)(j:E[i]? =some (.is v))(d:a.eval x1=v1)(c:a.eval x2=v2)(b:∀ρ:aO->H,ρ x1=v1->ρ x2=v2->∀w,S W w->(execOp ρ o).run P w=.ok (.value v) w)
  (h:iE P ops W E Q (i+1) rest (a.put o.dst v) (F.ins i v)):iE P ops W E Q i (o::rest) a F:=qA e v j (λw l=>b a.eval d c w l) h
def FC{x3:aO}{v3:H}(j:Region.wanted o (yielded ops a.tmps)=true)(v:H)(l:E[i]? =some (.is v))(e:a.eval x1=v1)(d:a.eval x2=v2)(c:a.eval x3=v3)(b:∀ρ:aO->H,ρ x1=v1->ρ x2=v2->ρ x3=v3->∀w,S W w->(execOp ρ o).run P w=.ok (.value v) w)
  (h:iE P ops W E Q (i+1) rest (a.put o.dst v) (F.ins i v)):iE P ops W E Q i (o::rest) a F:=qA j v l (λw m=>b a.eval e d c w m) h
end
def zl(x:Int)(b:Bool)(h:cY x=b)(w:D):Calls prog 55 #[Z x] w λe c=>e=.returned (.bool b)/\S w c:=
 (Ff x b h w).mono λ_ _ ⟨a,d⟩=>⟨a,d▸aq _ _⟩
def zP(a:k<6):cY ((k:Int)+1)=true:=by unfold cY;simp;omega
def Xr(f:Nat->Int)(K:dx f)(k:Nat)(A:k<6)(x:Int)(hx:-9223372036854775808<=x/\x<=9223372036854775807)(w:D):Calls prog 346 #[.agg (aw f),Z ((k:Int)+1),Z x] w (tp (fQ f k x) w):=by
 have l:ax ((((w.alloc (.cells (aw f) 50)).alloc (.cells (#[Z ((k:Int)+1)]) 3)).alloc (.cells (#[Z x]) 2)).alloc (.cells (aw aC) 50)) [(w.heap.size+3,50,aw aC),(w.heap.size+2,2,#[Z x]),(w.heap.size+1,3,#[Z ((k:Int)+1)]),(w.heap.size,50,aw f)]:=((((ax.nil.push (t:=50) (cs:=aw f) (g:=w.heap.size) O).push (t:=3) (cs:=#[Z ((k:Int)+1)]) (g:=w.heap.size+1) ah).push (t:=2) (cs:=#[Z x]) (g:=w.heap.size+2) ah).push (t:=50) (cs:=aw aC) (g:=w.heap.size+3) ah);have E:S w ((((w.alloc (.cells (aw f) 50)).alloc (.cells (#[Z ((k:Int)+1)]) 3)).alloc (.cells (#[Z x]) 2)).alloc (.cells (aw aC) 50)):=(((((aq w.heap.size w).alloc aQ _).alloc aQ _).alloc aQ _).alloc aQ _);have F:tt prog _ _ ((((w.alloc (.cells (aw f) 50)).alloc (.cells (#[Z ((k:Int)+1)]) 3)).alloc (.cells (#[Z x]) 2)).alloc (.cells (aw aC) 50)) _:=YG (l (w.heap.size+2) (2) (#[Z x]) ah) (l (w.heap.size) (50) (aw f) ah) (l (w.heap.size+1) (3) (#[Z ((k:Int)+1)]) ah) A;have B:tq prog _ _ ((((w.alloc (.cells (aw f) 50)).alloc (.cells (#[Z ((k:Int)+1)]) 3)).alloc (.cells (#[Z x]) 2)).alloc (.cells (aw aC) 50)) _:=YF (l (w.heap.size+1) (3) (#[Z ((k:Int)+1)]) ah) A;have J:=U (show kY f x true (if decide (cS f k<x)then 11 else 0) (6+k)=fQ f k x from by unfold kY fQ;by_cases X:oE f x=true<;>by_cases Q:cS f k<x<;>simp[X,Q]);obtain⟨u,j⟩:=cJ (((((w.alloc (.cells (aw f) 50)).alloc (.cells (#[Z ((k:Int)+1)]) 3)).alloc (.cells (#[Z x]) 2)).alloc (.cells (aw aC) 50)));rw[<-j]at l E F B;have C:=U (λ(W:D) (b:S u W)=>(show Calls prog 358 #[.agg (aw f),Z x,.bool true,.func (.func 359) #[] #[N (w.heap.size+2),N w.heap.size,N (w.heap.size+1)],.func (.func 361) #[] #[N (w.heap.size+1)]] W (λe r=>e=.returned (.tuple #[.agg (aw (fQ f k x).2),Z (fQ f k x).1])/\S W r)from by rw[<-J.o];exact ET f x hx K true _ _ V _ _ _ _ W (λr h=>F r (b.trans (h.mono b.size))) (λr g' h=>B r g' (b.trans (h.mono b.size))) (λ_ _=>Y) (λ_ _=>Y)));have i:=aB l E;clear l E F B K;generalize s:fQ f k x=rs at C⊢;obtain⟨y,p⟩:=rs;clear s J;go_in;go_wp2_with fail;rw[show((((w.alloc (.cells (aw f) 50)).alloc (.cells (#[Z ((k:Int)+1)]) 3)).alloc (.cells (#[Z x]) 2)).alloc (.cells (aw aC) 50))=u from j.symm];clear j;refine vS 9 [.is (.agg (aw f)),.is (Z x),.is (Z ((k:Int)+1)),.is (.bool true),.is (.func (.func 359) #[] #[N (w.heap.size+2),N w.heap.size,N (w.heap.size+1)]),.is (.func (.func 361) #[] #[N (w.heap.size+1)]),.is (.tuple #[.agg (aw p),Z y]),.is (.agg (aw p)),.is (Z y)] Y ah Y Y Y Y ?_;simp only[cR]
 iterate 3
  refine qS O O (λρ a d c W b=>?_) ?_
  ·obtain⟨q3,-,q2,-,T,-,q0,-,-⟩:=(i.o.1.call b).rules;obtain⟨l3,l2,l1,l0,-⟩:=(i.o.1.call b).lts;simp[execOp,go_sem,a,d,c,T,l1,q2,l2,i9 (((i.o.1.call b) w.heap.size 50 (aw f) ah).rng)]
  simp only[aD]
 refine rI O 55 #[Z ((k:Int)+1)] _ O ?_ (λw _=>zl _ true (zP A) w) ?_
 ·intro W;simp[go_sem]<;>rfl
 simp only[aD];refine FC (x1:=.tmp 5) (v1:=.pointer (some (I (w.heap.size+2) 0))) (x2:=.tmp 3) (v2:=.pointer (some (I w.heap.size 0))) (x3:=.tmp 4) (v3:=.pointer (some (I (w.heap.size+1) 0))) O _ O O O O (λρ a d c W b=>?_) ?_
 ·simp[execOp,go_sem,a,d,c,Instr.makeFunc]
 simp only[aD];refine FE (x1:=.tmp 4) (v1:=.pointer (some (I (w.heap.size+1) 0))) O _ O O (λρ a W b=>?_) ?_
 ·simp[execOp,go_sem,a,Instr.makeFunc]
 simp only[aD];refine rI O 358 #[.agg (aw f),Z x,.bool true,.func (.func 359) #[] #[N (w.heap.size+2),N w.heap.size,N (w.heap.size+1)],.func (.func 361) #[] #[N (w.heap.size+1)]] _ O ?_ (λw b=>C.o w b) ?_
 ·intro W;simp[go_sem]<;>rfl
 simp only[aD]
 iterate 2
  refine qS O O (λρ a d c W b=>?_) ?_
  ·simp[execOp,go_sem,a,d,c]
  simp only[aD]
 intro L n G;clear G C;have m:=aB (i.o.1.call n) (i.o.2.trans (n.mono i.o.2.size));have R:=oz m.o.1.head p;have P:=U (lU L _ _ (aw p) _ _ m.o.1.head);clear n i;go_wp2_with fail;refine eu (v:=.tuple #[.agg (aw p),Z y]) (py (s1:=6) (s2:=7) Y _ (w.heap.size+3) p y _ O O P.o) O ⟨O,?_⟩;exact m.o.2.trans ⟨O,O,O,by simp[World.setRow],λk A=>lT L _ k _ V⟩
def XB(f:Nat->Int)(E:dx f)(k:Nat)(A:k<6)(x:Int)(hx:-9223372036854775808<=x/\x<=9223372036854775807)(w:D):Calls prog 349 #[.agg (aw f),Z ((k:Int)+1),Z x] w (tp (fR f k x) w):=by
 have l:ax ((((w.alloc (.cells (aw f) 50)).alloc (.cells (#[Z ((k:Int)+1)]) 3)).alloc (.cells (#[Z x]) 2)).alloc (.cells (aw aC) 50)) [(w.heap.size+3,50,aw aC),(w.heap.size+2,2,#[Z x]),(w.heap.size+1,3,#[Z ((k:Int)+1)]),(w.heap.size,50,aw f)]:=((((ax.nil.push (t:=50) (cs:=aw f) (g:=w.heap.size) O).push (t:=3) (cs:=#[Z ((k:Int)+1)]) (g:=w.heap.size+1) ah).push (t:=2) (cs:=#[Z x]) (g:=w.heap.size+2) ah).push (t:=50) (cs:=aw aC) (g:=w.heap.size+3) ah);have F:S w ((((w.alloc (.cells (aw f) 50)).alloc (.cells (#[Z ((k:Int)+1)]) 3)).alloc (.cells (#[Z x]) 2)).alloc (.cells (aw aC) 50)):=(((((aq w.heap.size w).alloc aQ _).alloc aQ _).alloc aQ _).alloc aQ _);have G:tt prog _ _ ((((w.alloc (.cells (aw f) 50)).alloc (.cells (#[Z ((k:Int)+1)]) 3)).alloc (.cells (#[Z x]) 2)).alloc (.cells (aw aC) 50)) _:=Yl (l (w.heap.size+2) (2) (#[Z x]) ah) (l (w.heap.size) (50) (aw f) ah) (l (w.heap.size+1) (3) (#[Z ((k:Int)+1)]) ah) A E;have B:tq prog _ _ ((((w.alloc (.cells (aw f) 50)).alloc (.cells (#[Z ((k:Int)+1)]) 3)).alloc (.cells (#[Z x]) 2)).alloc (.cells (aw aC) 50)) _:=Yk (l (w.heap.size+1) (3) (#[Z ((k:Int)+1)]) ah) A;have K:=U (show kY f x true (if decide (f (6+k)-f (12+k)<x)then 12 else 0) (12+k)=fR f k x from by unfold kY fR;by_cases X:oE f x=true<;>by_cases Q:f (6+k)-f (12+k)<x<;>simp[X,Q]);obtain⟨u,j⟩:=cJ (((((w.alloc (.cells (aw f) 50)).alloc (.cells (#[Z ((k:Int)+1)]) 3)).alloc (.cells (#[Z x]) 2)).alloc (.cells (aw aC) 50)));rw[<-j]at l F G B;have C:=U (λ(W:D) (b:S u W)=>(show Calls prog 358 #[.agg (aw f),Z x,.bool true,.func (.func 362) #[] #[N (w.heap.size+2),N w.heap.size,N (w.heap.size+1)],.func (.func 363) #[] #[N (w.heap.size+1)]] W (λe r=>e=.returned (.tuple #[.agg (aw (fR f k x).2),Z (fR f k x).1])/\S W r)from by rw[<-K.o];exact ET f x hx E true _ _ V _ _ _ _ W (λr h=>G r (b.trans (h.mono b.size))) (λr g' h=>B r g' (b.trans (h.mono b.size))) (λ_ _=>Y) (λ_ _=>Y)));have i:=aB l F;clear l F G B E;generalize s:fR f k x=rs at C⊢;obtain⟨y,p⟩:=rs;clear s K;go_in;go_wp2_with fail;rw[show((((w.alloc (.cells (aw f) 50)).alloc (.cells (#[Z ((k:Int)+1)]) 3)).alloc (.cells (#[Z x]) 2)).alloc (.cells (aw aC) 50))=u from j.symm];clear j;refine vS 9 [.is (.agg (aw f)),.is (Z x),.is (Z ((k:Int)+1)),.is (.bool true),.is (.func (.func 362) #[] #[N (w.heap.size+2),N w.heap.size,N (w.heap.size+1)]),.is (.func (.func 363) #[] #[N (w.heap.size+1)]),.is (.tuple #[.agg (aw p),Z y]),.is (.agg (aw p)),.is (Z y)] Y ah Y Y Y Y ?_;simp only[cR]
 iterate 3
  refine qS O O (λρ a d c W b=>?_) ?_
  ·obtain⟨q3,-,q2,-,T,-,q0,-,-⟩:=(i.o.1.call b).rules;obtain⟨l3,l2,l1,l0,-⟩:=(i.o.1.call b).lts;simp[execOp,go_sem,a,d,c,T,l1,q2,l2,i9 (((i.o.1.call b) w.heap.size 50 (aw f) ah).rng)]
  simp only[aD]
 refine rI O 55 #[Z ((k:Int)+1)] _ O ?_ (λw _=>zl _ true (zP A) w) ?_
 ·intro W;simp[go_sem]<;>rfl
 simp only[aD];refine FC (x1:=.tmp 5) (v1:=.pointer (some (I (w.heap.size+2) 0))) (x2:=.tmp 3) (v2:=.pointer (some (I w.heap.size 0))) (x3:=.tmp 4) (v3:=.pointer (some (I (w.heap.size+1) 0))) O _ O O O O (λρ a d c W b=>?_) ?_
 ·simp[execOp,go_sem,a,d,c,Instr.makeFunc]
 simp only[aD];refine FE (x1:=.tmp 4) (v1:=.pointer (some (I (w.heap.size+1) 0))) O _ O O (λρ a W b=>?_) ?_
 ·simp[execOp,go_sem,a,Instr.makeFunc]
 simp only[aD];refine rI O 358 #[.agg (aw f),Z x,.bool true,.func (.func 362) #[] #[N (w.heap.size+2),N w.heap.size,N (w.heap.size+1)],.func (.func 363) #[] #[N (w.heap.size+1)]] _ O ?_ (λw b=>C.o w b) ?_
 ·intro W;simp[go_sem]<;>rfl
 simp only[aD]
 iterate 2
  refine qS O O (λρ a d c W b=>?_) ?_
  ·simp[execOp,go_sem,a,d,c]
  simp only[aD]
 intro L n J;clear J C;have m:=aB (i.o.1.call n) (i.o.2.trans (n.mono i.o.2.size));have R:=oz m.o.1.head p;have P:=U (lU L _ _ (aw p) _ _ m.o.1.head);clear n i;go_wp2_with fail;refine eu (v:=.tuple #[.agg (aw p),Z y]) (py (s1:=6) (s2:=7) Y _ (w.heap.size+3) p y _ O O P.o) O ⟨O,?_⟩;exact m.o.2.trans ⟨O,O,O,by simp[World.setRow],λk A=>lT L _ k _ V⟩
def Xw(f:Nat->Int)(hf:dx f)(k:Nat)(B:k<6)(j:Nat)(P:j<6)(x:Int)(hx:-9223372036854775808<=x/\x<=9223372036854775807)(w:D):Calls prog 351 #[.agg (aw f),Z ((k:Int)+1),Z ((j:Int)+1),Z x] w (tp (iT f k j x) w):=by
 have l:ax (((((w.alloc (.cells (aw f) 50)).alloc (.cells (#[Z ((k:Int)+1)]) 3)).alloc (.cells (#[Z ((j:Int)+1)]) 3)).alloc (.cells (#[Z x]) 2)).alloc (.cells (aw aC) 50)) [(w.heap.size+4,50,aw aC),(w.heap.size+3,2,#[Z x]),(w.heap.size+2,3,#[Z ((j:Int)+1)]),(w.heap.size+1,3,#[Z ((k:Int)+1)]),(w.heap.size,50,aw f)]:=(((((ax.nil.push (t:=50) (cs:=aw f) (g:=w.heap.size) O).push (t:=3) (cs:=#[Z ((k:Int)+1)]) (g:=w.heap.size+1) ah).push (t:=3) (cs:=#[Z ((j:Int)+1)]) (g:=w.heap.size+2) ah).push (t:=2) (cs:=#[Z x]) (g:=w.heap.size+3) ah).push (t:=50) (cs:=aw aC) (g:=w.heap.size+4) ah);have K:S w (((((w.alloc (.cells (aw f) 50)).alloc (.cells (#[Z ((k:Int)+1)]) 3)).alloc (.cells (#[Z ((j:Int)+1)]) 3)).alloc (.cells (#[Z x]) 2)).alloc (.cells (aw aC) 50)):=((((((aq w.heap.size w).alloc aQ _).alloc aQ _).alloc aQ _).alloc aQ _).alloc aQ _);have L:tt prog _ _ (((((w.alloc (.cells (aw f) 50)).alloc (.cells (#[Z ((k:Int)+1)]) 3)).alloc (.cells (#[Z ((j:Int)+1)]) 3)).alloc (.cells (#[Z x]) 2)).alloc (.cells (aw aC) 50)) _:=Yj (l (w.heap.size+1) (3) (#[Z ((k:Int)+1)]) ah) (l (w.heap.size+2) (3) (#[Z ((j:Int)+1)]) ah) (l (w.heap.size+3) (2) (#[Z x]) ah) (l (w.heap.size) (50) (aw f) ah) B P;have C:tq prog _ _ (((((w.alloc (.cells (aw f) 50)).alloc (.cells (#[Z ((k:Int)+1)]) 3)).alloc (.cells (#[Z ((j:Int)+1)]) 3)).alloc (.cells (#[Z x]) 2)).alloc (.cells (aw aC) 50)) _:=Yi (l (w.heap.size+1) (3) (#[Z ((k:Int)+1)]) ah) (l (w.heap.size+2) (3) (#[Z ((j:Int)+1)]) ah) B P;have HR:=U (show kY f x true (if k=j then 1 else if decide (cS f k<x)then 11 else 0) (18+k*6+j)=iT f k j x from by unfold kY iT;by_cases h1:oE f x=true<;>by_cases h3:k=j<;>by_cases h2:cS f k<x<;>simp[h1,h2,h3]);obtain⟨y,m⟩:=cJ ((((((w.alloc (.cells (aw f) 50)).alloc (.cells (#[Z ((k:Int)+1)]) 3)).alloc (.cells (#[Z ((j:Int)+1)]) 3)).alloc (.cells (#[Z x]) 2)).alloc (.cells (aw aC) 50)));rw[<-m]at l K L C;have G:=U (λ(W:D) (d:S y W)=>(show Calls prog 358 #[.agg (aw f),Z x,.bool true,.func (.func 364) #[] #[N (w.heap.size+1),N (w.heap.size+2),N (w.heap.size+3),N w.heap.size],.func (.func 365) #[] #[N (w.heap.size+1),N (w.heap.size+2)]] W (λe s=>e=.returned (.tuple #[.agg (aw (iT f k j x).2),Z (iT f k j x).1])/\S W s)from by rw[<-HR.o];exact ET f x hx hf true _ _ V _ _ _ _ W (λs h=>L s (d.trans (h.mono d.size))) (λs g' h=>C s g' (d.trans (h.mono d.size))) (λ_ _=>Y) (λ_ _=>Y)));have i:=aB l K;clear l K L C hf;generalize u:iT f k j x=rs at G⊢;obtain⟨A,r⟩:=rs;clear u HR;go_in;go_wp2_with fail;rw[show(((((w.alloc (.cells (aw f) 50)).alloc (.cells (#[Z ((k:Int)+1)]) 3)).alloc (.cells (#[Z ((j:Int)+1)]) 3)).alloc (.cells (#[Z x]) 2)).alloc (.cells (aw aC) 50))=y from m.symm];clear m;refine vS 13 [.is (.agg (aw f)),.is (Z x),.is (Z ((k:Int)+1)),.is (.bool true),.is (.bool true),.is (Z ((j:Int)+1)),.is (.bool true),.is (.bool true),.is (.func (.func 364) #[] #[N (w.heap.size+1),N (w.heap.size+2),N (w.heap.size+3),N w.heap.size]),.is (.func (.func 365) #[] #[N (w.heap.size+1),N (w.heap.size+2)]),.is (.tuple #[.agg (aw r),Z A]),.is (.agg (aw r)),.is (Z A)] Y ah Y Y Y Y ?_;simp only[cR]
 iterate 3
  refine qS O O (λρ b a c W d=>?_) ?_
  ·obtain⟨q4,-,F,-,X,-,E,-,q0,-,-⟩:=(i.o.1.call d).rules;obtain⟨l4,J,R,Q,l0,-⟩:=(i.o.1.call d).lts;simp[execOp,go_sem,b,a,c,E,Q,X,R,F,J,i9 (((i.o.1.call d) w.heap.size 50 (aw f) ah).rng)]
  simp only[aD]
 refine rI O 55 #[Z ((k:Int)+1)] _ O ?_ (λw _=>zl _ true (zP B) w) ?_
 ·intro W;simp[go_sem]<;>rfl
 simp only[aD];refine qS O O (λρ b a c W d=>?_) ?_
 ·simp[execOp,go_sem,b,a,c]
 simp only[aD];refine qS O O (λρ b a c W d=>?_) ?_
 ·obtain⟨q4,-,F,-,X,-,E,-,q0,-,-⟩:=(i.o.1.call d).rules;obtain⟨l4,J,R,Q,l0,-⟩:=(i.o.1.call d).lts;simp[execOp,go_sem,b,a,c,E,Q,X,R,F,J]
 simp only[aD];refine rI O 55 #[Z ((j:Int)+1)] _ O ?_ (λw _=>zl _ true (zP P) w) ?_
 ·intro W;simp[go_sem]<;>rfl
 simp only[aD];refine qS O O (λρ b a c W d=>?_) ?_
 ·simp[execOp,go_sem,b,a,c]
 simp only[aD];refine qA O _ O (λW d=>?_) ?_
 ·simp[execOp,go_sem,Instr.makeFunc]
 simp only[aD];refine Sc (x1:=.tmp 5) (v1:=.pointer (some (I (w.heap.size+1) 0))) (x2:=.tmp 6) (v2:=.pointer (some (I (w.heap.size+2) 0))) O _ O O O (λρ b a W d=>?_) ?_
 ·simp[execOp,go_sem,b,a,Instr.makeFunc]
 simp only[aD];refine rI O 358 #[.agg (aw f),Z x,.bool true,.func (.func 364) #[] #[N (w.heap.size+1),N (w.heap.size+2),N (w.heap.size+3),N w.heap.size],.func (.func 365) #[] #[N (w.heap.size+1),N (w.heap.size+2)]] _ O ?_ (λw d=>G.o w d) ?_
 ·intro W;simp[go_sem]<;>rfl
 simp only[aD]
 iterate 2
  refine qS O O (λρ b a c W d=>?_) ?_
  ·simp[execOp,go_sem,b,a,c]
  simp only[aD]
 intro w2 p T;clear T G;have n:=aB (i.o.1.call p) (i.o.2.trans (p.mono i.o.2.size));have α:=oz n.o.1.head r;have hd:=U (lU w2 _ _ (aw r) _ _ n.o.1.head);clear p i;go_wp2_with fail;refine eu (v:=.tuple #[.agg (aw r),Z A]) (py (s1:=8) (s2:=9) Y _ (w.heap.size+4) r A _ O O hd.o) O ⟨O,?_⟩;exact n.o.2.trans ⟨O,O,O,by simp[World.setRow],λk B=>lT w2 _ k _ V⟩
end
section
variable{F:Fence}{n:Nat}{P:Program}{α:Type}
def Gy(F:Fence)(n:Nat)(P:Program)(gf:Nat)(lb:Array H)(b:α->Array H)(m:D->D->Prop)(Inv:D->Prop)(i:D->D->Prop)(h:Nat)(Ok:α->D->Prop)(Fin:List α->Prop)(w0:D):Prop:=
 ∀(l:Nat) (J:List α->D->Prop) (W:D),(∀a A B,J a A->m A B->J a B)->(∀a A,J a A->Inv A)->
  (∀a x d,J a d->a.length<h->Ok x d->YieldAt F (n-1) P l (b x) d λe c=>e=.returned (.bool true)/\J (a++[x]) c/\i d c)->
  i w0 W->J [] W->CallsIn F n P gf (#[.func (.yield l) #[] #[]]++lb) W λe c=>(∃v,e=.returned v)/\∃j,Fin j/\J j c
def Rf{g:aO}{ps:Array Tmp}{assign body:Code}{Q:Exit->Act->D->Prop}{a:Act}
  (φ:F.round=none) (h1:1<=n) {gf:Nat} {lb:Array H} (hg:a.eval g=.func (.func gf) #[] lb) (υ:F.fn gf) (eg:∀args w,(callFunc gf args).run P w=.ok (.enter gf args) w)
  {m:α->Array H} {St:D->D->Prop} {Inv:D->Prop} {L:D->D->Prop} {μ:Nat} {Ok:α->D->Prop} {Fin:List α->Prop} (π:Gy F (n-1) P gf lb m St Inv L μ Ok Fin w)
  (δ:∀{A B C:D},L A B->L B C->L A C) (Ξ:L w w) (ι:∀(W:D) (o:Obj),L w W->L w (W.alloc o)) (θ:∀(W:D) (l:Nat) (o:Obj),w.heap.size<=l->L W (W.putObj l o)) (Γ:∀x,(m x).size=ps.size)
  (d:List α->D->Prop) (ε:∀W o,d [] W->d [] (W.alloc o)) (k:∀c W l o o',w.heap.size<=l->W.heap[l]? =some o->o.isCells=false->d c W->d c (W.putObj l o'))
  (Ω:∀x W l o o',w.heap.size<=l->W.heap[l]? =some o->o.isCells=false->Ok x W->Ok x (W.putObj l o')) (hSt:∀c A B,d c A->St A B->d c B/\KeepsFrom w.heap.size A B) (κ:∀c A,d c A->Inv A) (h0:d [] w) (Bx:α->Act->D->Prop) (hIb:∀c W s,d c W->S W s->d c s) (Θ:∀x W s,Ok x W->S W s->Ok x s) (Δ:∀W s,S W s->L W s) (ψ:∀x y W l o o',w.heap.size<=l->W.heap[l]? =some o->o.isCells=false->Bx x y W->Bx x y (W.putObj l o'))
  (u:∀(l:Nat) (x:α) (W:D) (K:Act->D->Prop),Ok x W->(∀y s,Bx x y s->S W s->K y s)->
   assign.wpIn (F.inRound l) (n-1-1) P (Exit.then K (λ_ _ _=>False)) {tmps:=(ps.zip (m x)).foldl (λt (p,v)=>t.setIfInBounds p v) a.tmps,defers:=[]} W)
  (X:∀(l:Nat) (c:List α) (x:α) (y:Act) (W:D),Bx x y W->d c W->c.length<μ->Ok x W->body.wpIn (F.inRound l) (n-1-1) P (Gf w.heap.size L d (c++[x]) W) y W)
  (β:∀(γ:Nat) (W:D) (xs:List α),Fin xs->w.heap.size<=γ->d xs W->W.heap[γ]? =some (.deferred (some []))->Q .normal {a with defers:={target:=.collected γ,args:=#[]}::a.defers} W):
  (Code.rangeFunc g ps assign body).wpIn F n P Q a w:=by
 refine wpIn_rangeFunc λfn Φ=>?_;rw[φ];generalize hb:w.heap.size=b at*;obtain⟨j,i⟩:∃j:LoopState->Option Code->Loop,j=λst pe=>{state:=st,pending:=pe,fn,tmps:=a.tmps,params:=ps,assign,body,defers:=b}:=⟨_,O⟩;have τ:((w.alloc (.deferred (some []))).alloc (.loop (j .ready none))).heap[b+1]? =some (.loop (j .ready none)):=by have:=yf (w.alloc (.deferred (some []))) (.loop (j .ready none));rwa[oX,hb]at this
 have Ψ:((w.alloc (.deferred (some []))).alloc (.loop (j .ready none))).heap[b]? =some (.deferred (some [])):=
  (oW _ _ _ (by simp[hb])).trans (by have:=yf w (.deferred (some []));rwa[hb]at this)
 have ν:(Instr.enterLoop fn a.tmps ps assign body none).run P w=.ok (b+1,[{target:=.collected b,args:=#[]}]) ((w.alloc (.deferred (some []))).alloc (.loop (j .ready none))):=by rw[i,<-hb];exact run_enterLoop_outer _ _ _ _ _
 refine⟨b+1,[{target:=.collected b,args:=#[]}],_,{target:=.fn (.func gf) lb,args:=#[.func (.yield (b+1)) #[] #[]]},(w.alloc (.deferred (some []))).alloc (.loop (j .ready none)),gf,#[.func (.yield (b+1)) #[] #[]]++lb,(w.alloc (.deferred (some []))).alloc (.loop (j .ready none)),ν,?_,?_,?_,λ_=>h1,?_⟩
 ·simp only[resolve,hg];simp[go_sem]
 intro f' ζ;simp[Target.leads]at ζ;subst ζ;exact υ
 ·simp[invoke,go_sem,eg]
 have J:∀(c:List α) (W:D) (r r':Loop),W.heap[b+1]? =some (.loop r)->W.heap[b]? =some (.deferred (some []))->d c W->
   d c (W.putObj (b+1) (.loop r'))/\(W.putObj (b+1) (.loop r')).heap[b+1]? =some (.loop r')/\(W.putObj (b+1) (.loop r')).heap[b]? =some (.deferred (some [])):=λc W r r' E T hi=>
  ⟨k c W _ _ _ V E O hi,World.putObj_heap_same (fI.1 E).1,(rh V).trans T⟩
 refine(π (b+1) (λc W=>d c W/\W.heap[b+1]? =some (.loop (j .ready none))/\W.heap[b]? =some (.deferred (some []))) _
  (λc A B ⟨hi,E,T⟩ hs=>?_) (λc A h=>κ c A h.1) ?_ (ι _ _ (ι _ _ Ξ)) ⟨ε _ _ (ε _ _ h0),τ,Ψ⟩).mono ?_
 obtain⟨h2,h3⟩:=hSt c A B hi hs;exact⟨h2,h3.same _ _ V E O,h3.same _ _ (ao _) T O⟩
 ·rintro c x W ⟨hi,E,T⟩ η σ;have hy:=run_yield (P:=P) (args:=m x) E (by rw[i];exact Γ x);rw[i]at hy;refine⟨fn,_,assign,body,hy,roundIn_of_wpIn Φ (u _ x W _ σ λy f χ G=>?_)⟩;have R:=(G.block _ (fI.1 E).1).trans E;have hda:=(G.block _ (fI.1 T).1).trans T;refine⟨_,run_beginRound R (by rw[i]),?_⟩;obtain⟨i2,l2,d2⟩:=J c f _ {j .ready none with state:=.busy} R hda (hIb _ _ _ hi G);refine wpIn_mono (X _ c x y _ (ψ x y f _ _ _ V R O χ) i2 η (Ω x f _ _ _ V R O (Θ _ _ _ σ G))) ?_;rintro e a3 W3 hp;cases e with
  |normal=>obtain⟨k3,ω,i3⟩:=hp;have l3:=k3.same _ _ V l2 O;have d3:=k3.same _ _ (ao _) d2 O;obtain⟨i4,l4,d4⟩:=J (c++[x]) W3 _ (j .ready none) l3 d3 i3;refine⟨_,_,run_endRound none l3,O,⟨?_,?_,?_⟩,?_⟩;rw[i]at i4⊢;exact i4;rw[i]at l4⊢;exact l4;rw[i]at d4⊢;exact d4;exact δ (Δ _ _ G) (δ (δ (θ _ _ _ V) ω) (θ _ _ _ V))
  |ret=>exact hp.elim
  |exit id=>exact hp.elim
  |goto t=>exact hp.elim
  |panic ch=>exact hp.elim
  |outgrown=>exact hp.elim
 rintro e W2 ⟨⟨v,rfl⟩,xs,ξ,hi,E,T⟩;have h2:=run_endLoop (P:=P) E (by rw[i];simp);obtain⟨i4,l4,d4⟩:=J xs W2 _ {j .ready none with state:=.exhausted} E T hi;have h3:(Instr.endLoop (b+1)).run P W2=.ok none (W2.putObj (b+1) (.loop {j .ready none with state:=.exhausted})):=by rw[h2];rw[i]
 exact⟨none,_,h3,β _ _ xs ξ (ao _) i4 d4⟩
end
