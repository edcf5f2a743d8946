import Derived.Test.YtghdobdjfnimmaaGreatDoorZ10
set_option maxRecDepth 100000
set_option maxHeartbeats 0
set_option linter.all false
namespace Go.Proofs.YtghdobdjfnimmaaGreatDoor
open Go.Proofs.Tryz
variable{w:Yu}{x1 x2:Yx}{v1 v2:Yv}{f:Nat->Int}{k g:Nat}
section
open Go.RowKit Go
section
variable(ρ:Yx->Yv)(dst:Option Tmp)(x y:Yx)(ty:Yw)(pos:String)(after:Array Edge)(guard:Option (Nat×Bool))
@[go_sem ↓ high] theorem GX:execOp ρ {dst,op:=.load 80 x,type:=ty,pos,after,guard}=dR 80 (ρ x):=by simp[execOp,dR]
@[go_sem ↓ high] theorem GR:execOp ρ {dst,op:=.store 80 x y,type:=ty,pos,after,guard}=eR 80 (ρ x) (ρ y):=by simp[execOp,eR]
end
theorem fG{o:Nat}(h:zg w g o (aG f)):(dR 80 (.pointer (some ⟨g,o,none⟩))).run prog w=.ok (.value (.agg (aG f))) w:=
 aY h underlying80 rfl (sC f)
theorem yR(x:Int)(b:Bool)(h:cB x=b)(w:Yu):Yt 230 #[.int .i64 x] w λe w'=>e=.returned (.bool b)/\w=w':=by
 subst h;by_cases c:1<=x<;>by_cases d:x<=6
 all_goals
  go_enter func230,ntmps230
  go_wp2
  go_ret;exact⟨by simp[cB,c,d],rfl⟩
theorem Pd(b:Bool)(x:Int)(w:Yu):Yt 329 #[.bool b,.int .i64 x] w λe w'=>e=.returned (.int .i64 (if b then x else 0))/\w=w':=by
 rcases(show b=true\/b=false from by cases b<;>simp)with rfl|rfl
 all_goals
  go_enter func329,ntmps329
  go_wp2
  go_ret;exact⟨rfl,rfl⟩
def dt(l:List Int):List Yv:=l.map (.int .i64)
theorem qV(l m:List Int):dt (l++m)=dt l++dt m:=WS
theorem qQ(l:List Int)(k:Nat)(x:Int)(h:l[k]? =some x):(l.take (k+1)).sum=(l.take k).sum+x/\(l.take (k+1)).all Fs=((l.take k).all Fs&&Fs x):=by
 rw[VN,h];simp
theorem J3{l:List Int}(h:l.all Fs=true):0<=l.sum/\l.sum<=l.length*1125899906842624:=by
 have:=sy l;unfold gx at this;rw[Vh h]at this;exact this
def o6(p:Int×Bool):Yv:=.tuple #[.int .i64 p.1,.bool p.2]
@[go_sem] theorem NM(n:Int)(o:Bool):o6 (n,o)=.tuple #[.int .i64 n,.bool o]:=rfl
theorem Lx(A:Option Addr)(cap:Nat)(l:List Int)(B:Nat)(w:Yu)(G:Rd w B 1 A l.length (dt l))(X:l.length<=cap)(M:cap<=maxLen)(T:l.length<=8):
  Yt 253 #[.slice A l.length cap] w λe w'=>e=.returned (o6 (gx l))/\w=w':=by
 unfold maxLen at M;have L:=U9 G;clear G;go_enter func253,ntmps253;go_wp2_with fail
 go_loop [2,8] (λs i=>∃k:Nat,k<=l.length/\i=.int .i64 k/\s=.int .i64 (l.take k).sum/\(l.take k).all Fs=true) (λ_ i=>l.length-(intOf i).toNat)
 case atStart=>exact⟨0,by omega,rfl,rfl,rfl⟩
 case round=>
  obtain⟨k,S,rfl,rfl,n⟩:=hrel;by_cases h:k<l.length
  ·obtain⟨x,p⟩:∃x,l[k]? =some x:=⟨l[k],Ve h⟩
   obtain⟨b,o,rfl,N,c⟩:=L.o.2 (by omega);have K:=c k (.int .i64 x) (by unfold dt;rw[Wm,p];rfl);have H:=qQ l k x p;have D:=J3 n;have u:(l.take k).length<=8:=by rw[VI];omega
   have m:((l.take k).length:Int)*1125899906842624<=9007199254740992:=by omega
   have t:(l.take k).sum<=9007199254740992:=by omega
   have v:=D.1;have q:=U9 n;have r:=U9 H;have O:decide (k<l.length)=true:=Vg h;generalize (l.take k).sum=z at v t r;have I:=U9 p;clear c H D n u m p;by_cases C:x<0
   ·go_wp2_with fail
    go_ret2;refine⟨?_,rfl⟩;have:gx l=(0,false):=by
     unfold gx;rw[Vf];intro d;have:=Wl.1 d x (Vn I.o);simp[Fs]at this;omega
    rw[this]
    rfl
   by_cases x1:1125899906842624<x
   ·have J:decide (x<0)=false:=Vj C
    go_wp2_with fail;go_ret2;refine⟨?_,rfl⟩;have:gx l=(0,false):=by
     unfold gx;rw[Vf];intro d;have:=Wl.1 d x (Vn I.o);simp[Fs]at this;omega
    rw[this]
    rfl
   ·have J:decide (x<0)=false:=Vj C
    have V:decide (1125899906842624<x)=false:=Vj x1;have U:0<=x:=by omega
    have R:x<=1125899906842624:=by omega
    go_wp2_with fail
    go_round
    case rel=>exact⟨k+1,by omega,by go_num,by rw[r.o.1],by rw[r.o.2,q.o];simp[Fs];omega⟩
    case measure=>simp[intOf];omega
  ·obtain rfl:k=l.length:=by omega
   have q:=U9 n;clear n;go_wp2_with fail;go_ret2;refine⟨?_,rfl⟩;have:=q.o;rw[V4 (Vc _)]at this;unfold gx;rw[Vh this]
   rfl
end
section
open Go.RowKit Go Go.BigFrame
theorem s6:(prog.info? 2).map (λi=>(i.zero,i.size,i.bytes))=some (some (.int .i64 0),1,8):=by kernel_rfl
def Es.ints(base:Nat)(L:List Int):Es:=.row base 2 1 L.length (dt L)
section
variable{P:Program}{ops:Array Oper}{W:Yu}{base:Nat}{E:List Es}{cs:List (Nat×Nat)}{Q:Act->aI->Prop}{i:Nat}{o:Oper}{rest:List Oper}{a:Act}{F:aI}
theorem QK(d:Region.wanted o (yielded ops a.tmps)=true)(v:Yv)(e:E[i]? =some (.is v))(c:a.eval x1=v1)(b:∀ρ:Yx->Yv,ρ x1=v1->∀w,Below base W w->(execOp ρ o).run P w=.ok (.value v) w)
  (h:Sw P ops W base E cs Q (i+1) rest (a.put o.dst v) (F.ins i v)):Sw P ops W base E cs Q i (o::rest) a F:=wB d v e (λw l=>b a.eval c w l) h
theorem QJ(e:Region.wanted o (yielded ops a.tmps)=true)(v:Yv)(l:E[i]? =some (.is v))(d:a.eval x1=v1)(c:a.eval x2=v2)(b:∀ρ:Yx->Yv,ρ x1=v1->ρ x2=v2->∀w,Below base W w->(execOp ρ o).run P w=.ok (.value v) w)
  (h:Sw P ops W base E cs Q (i+1) rest (a.put o.dst v) (F.ins i v)):Sw P ops W base E cs Q i (o::rest) a F:=wB e v l (λw m=>b a.eval d c w m) h
theorem iP(C:Region.wanted o (yielded ops a.tmps)=true)(x:Yx)(ho:o.op=.assign x\/o.op=.move x)(c:Nat)(u1:Yv)(B:Nat)(e:Yw)(sz n:Nat)(xs:List Yv)(r:E[c]? =some (.row B e sz n xs))(s:E[i]? =some (.row B e sz n xs))(m:tM cs c=some i)(q:F c u1)(l:qI .any ops o c)(p:a.eval x=u1)
  (h:∀u,Sw P ops W base E cs Q (i+1) rest (a.put o.dst u) (F.ins i u)):Sw P ops W base E cs Q i (o::rest) a F:=by
 refine jN C (λw D G=>?_) λu _=>h u
 have t:=G c u1 q l (.inr m);simp only[qK,r]at t;have d:(execOp a.eval o).run P w=.ok (.value u1) w:=by
  unfold execOp;rcases ho with ho|ho<;>rw[ho]<;>(generalize a.eval=ρ at p;simp[p,go_sem])
 rw[d];refine⟨λv A=>(by simp only[Jt,s]at A;cases A),D,⟨u1.ownBlock,World.grownBy.refl w _,.inr ⟨c,u1,q,l,m,by simp only[qW,r]⟩,λb z=>?_⟩,by simp only[qK,s];exact t⟩;simp only[qW,s]at z;exact⟨(t.lt b z).2,.inr z⟩
theorem oC(r:Region.wanted o (yielded ops a.tmps)=true)(t e:Yw)(n:Nat)(b:Array (Nat×Yx))(z:o.op=.buildSlice t n b)(p:Nat)(xs:List Yv)(sz m:Nat)
  (s:E[i]? =some (.row p e sz m xs)) (d:p<=base) (l:base<=W.heap.size)
  (c:∀w,Below base W w->(Instr.buildSlice t n (b.map λx=>(x.1,a.eval x.2))).run P w=.ok (.slice (some ⟨w.heap.size,0,none⟩) n n) (w.alloc (.cells xs.toArray e))) (v:m=n) (C:0<sz) (B:xs.length=n*sz) (q:n<=maxLen)
  (h:∀u,Sw P ops W base E cs Q (i+1) rest (a.put o.dst u) (F.ins i u)):Sw P ops W base E cs Q i (o::rest) a F:=by
 subst v;refine J2 r p e sz m xs s d l (λw A=>?_) h;refine⟨.slice (some ⟨w.heap.size,0,none⟩) m m,w.alloc (.cells xs.toArray e),?_,(Vd _ _).alloc (Vc _) _,?_⟩
 ·unfold execOp
  simp only[z,Wu,c w A,V2]
  rfl
 ·have:=World.ownsRow_lit (base:=w.heap.size) (size:=sz) (e:=e) w xs.toArray m (Vc _) q (by simpa using B)
  simpa using this
end
section
variable{ops:Array Oper}{W:Yu}{base:Nat}{E:List Es}{cs:List (Nat×Nat)}{Q:Act->aI->Prop}{i:Nat}{o:Oper}{rest:List Oper}{a:Act}{F:aI}
theorem po(x:Int)(w:Yu):(Instr.buildSlice 375 1 #[(0,.int .i64 x)]).run prog w=.ok (.slice (some ⟨w.heap.size,0,none⟩) 1 1) (w.alloc (.cells (dt [x]).toArray 2)):=by
 obtain⟨e,d,c,b,h⟩:=V7 s6;exact run_buildSlice (P:=prog) w 375 2 1 #[(0,.int .i64 x)] #[.int .i64 x] e (.int .i64 0) underlying375 d c (by rw[b];decide) (by rw[b];decide) (by rw[b,show Array.range (1*1)=#[0]from by decide];simp[Instr.fill,Value.cells,List.zipIdx])
theorem BZ(x y:Int)(w:Yu):(Instr.buildSlice 375 2 #[(0,.int .i64 x),(1,.int .i64 y)]).run prog w=.ok (.slice (some ⟨w.heap.size,0,none⟩) 2 2) (w.alloc (.cells (dt [x,y]).toArray 2)):=by
 obtain⟨e,d,c,b,h⟩:=V7 s6;exact run_buildSlice (P:=prog) w 375 2 2 #[(0,.int .i64 x),(1,.int .i64 y)] #[.int .i64 x,.int .i64 y] e (.int .i64 0) underlying375 d c (by rw[b];decide) (by rw[b];decide) (by rw[b,show Array.range (2*1)=#[0,1]from by decide];simp[Instr.fill,Value.cells,List.zipIdx])
theorem kL(J:Region.wanted o (yielded ops a.tmps)=true)(s x:Yx)(N:o.op=.call {callee:=.builtin .append,args:=#[s,x],argTypes:=#[375,375]})
  (c b:Nat) (u1 u2:Yv) (L M:List Int) (e:E[c]? =some (.ints base L)) (B:E[b]? =some (.ints base M)) (K:E[i]? =some (.ints base (L++M)))
  (G:tM cs c=some i) (r:tM cs b=none\/tM cs b=some i) (n:F c u1) (C:F b u2) (q:qI .any ops o c) (z:qI .any ops o b) (A:a.eval s=u1) (t:a.eval x=u2)
  (O:L.length+M.length<=1000000) (l:base<=W.heap.size)
  (h:∀u,Sw prog ops W base E cs Q (i+1) rest (a.put o.dst u) (F.ins i u)):Sw prog ops W base E cs Q i (o::rest) a F:=by
 obtain⟨I,D,d,m,p⟩:=V7 s6;refine zC J s x 375 N 2 I (.int .i64 0) 1 8 underlying375 D d m p rfl (by decide) c b u1 u2 L.length M.length (dt L) (dt M) (dt (L++M)) (L++M).length e B K Vl (qV L M) G r n C q z A t ?_ ?_ ?_ l h
 ·intro y H
  unfold dt at H;obtain⟨v,_,rfl⟩:=VJ.1 H
  rfl
 ·unfold maxLen;omega
 ·omega
structure Ng(w:Yu)(base:Nat)(u v:Yv)(L M:List Int):Prop where
 r1:w.ownsRow base 2 1 u L.length (dt L)
 r2:w.ownsRow base 2 1 v M.length (dt M)
 ne:∀b,u.ownBlock=some b->v.ownBlock≠some b
def NL(k j:Nat)(u v:Yv):aI:=λk' b=>(k'=k/\b=u)\/(k'=j/\b=v)
theorem Dv{c:Array Bool}{j:Nat}{u v:Yv}{L M:List Int}(m:E[k]? =some (.ints base L))(d:E[j]? =some (.ints base M))(q:k≠j)(h:Ng w base u v L M):nJ (qK E) (qW E) (tM cs) c (NL k j u v) w:=by
 refine⟨?_,?_,?_⟩
 ·rintro k' p (⟨rfl,rfl⟩|⟨rfl,rfl⟩) _
  ·simp only[qK,m,Es.ints];exact h.r1
  ·simp only[qK,d,Es.ints];exact h.r2
 ·rintro k' p (⟨rfl,rfl⟩|⟨rfl,rfl⟩) _ b l
  ·simp only[qW,m,Es.ints]at l;exact(h.r1.lt b l).2
  ·simp only[qW,d,Es.ints]at l;exact(h.r2.lt b l).2
 ·rintro r u1 s u2 (⟨rfl,rfl⟩|⟨rfl,rfl⟩) (⟨rfl,rfl⟩|⟨rfl,rfl⟩) _ _ n b l
  ·exact absurd rfl n
  ·simp only[qW,m,d,Es.ints]at l⊢;exact h.ne b l
  ·simp only[qW,m,d,Es.ints]at l⊢;exact λe=>h.ne b e l
  ·exact absurd rfl n
theorem o5{c:Array Bool}{F:aI}{j:Nat}{u v:Yv}{L M:List Int}(m:nJ (qK E) (qW E) (tM cs) c F w)(hF:F k u)(q:F j v)(t:tM cs k=none)(r:tM cs j=none)(h:E[k]? =some (.ints base L))(d:E[j]? =some (.ints base M))(l:k≠j):Ng w base u v L M:=by
 have n:im (tM cs) c k:=λj e=>by rw[t]at e;cases e
 have p:im (tM cs) c j:=λj e=>by rw[r]at e;cases e
 refine⟨?_,?_,λb s=>?_⟩
 ·have:=m.rel k u hF n;simpa only[qK,h,Es.ints]using this
 ·have:=m.rel j v q p;simpa only[qK,d,Es.ints]using this
 ·have:=m.ne k u j v hF q n p l b;simp only[qW,h,d,Es.ints]at this;exact this s
end
theorem Dx(f:Nat->Int)(k j:Nat)(h:j<6):(gA f k)[2+j]? =some (f (18+j*6+k)):=av.six (P:=λj=>(gA f k)[2+j]? =some (f (18+j*6+k))) (by simp[gA]) (by simp[gA]) (by simp[gA]) (by simp[gA]) (by simp[gA]) (by simp[gA]) j h
theorem zR(f:Nat->Int)(k j:Nat)(h:j<6):(ft f k)[1+j]? =some (f (18+k*6+j)):=av.six (P:=λj=>(ft f k)[1+j]? =some (f (18+k*6+j))) rfl rfl rfl rfl rfl rfl j h
theorem AE(f:Nat->Int)(k j:Nat)(h:j<6):(gA f k).take (2+j)++[f (18+j*6+k)]=(gA f k).take (2+(j+1)):=by
 rw[show 2+(j+1)=2+j+1 from by omega,VN,Dx f k j h];rfl
theorem wR(f:Nat->Int)(k j:Nat)(h:j<6):(ft f k).take (1+j)++[f (18+k*6+j)]=(ft f k).take (1+(j+1)):=by
 rw[show 1+(j+1)=1+j+1 from by omega,VN,zR f k j h];rfl
def Ig(p:Int×Bool)(w:Yu)(e:Ending)(w':Yu):Prop:=e=.returned (o6 p)/\Ys w w'
theorem DF(f:Nat->Int)(k:Nat)(hk:k<6)(g:Nat)(w:Yu)(J:ai w g 80 (aG f)):Yt 232 #[Yr g,.int .i64 k] w (Ig (qS f k) w):=by
 have N:(0:Int)<=(k:Int):=by omega
 have O:(k:Int)<6:=by omega
 have c0:=bZ f k (by omega);have c1:=bZ f (6+k) (by omega);have c2:=bZ f (12+k) (by omega);have l:=J.lt;go_enter func232,ntmps232;go_upto_region 1 with fail;refine ru (w.heap.size) [.is (Yr g),.is (.int .i64 k),.is (Yr g),.is (.pointer (some ⟨g,6,none⟩)),.is (.pointer (some ⟨g,6+k,none⟩)),.is (.int .i64 (f (6+k))),.ints (w.heap.size) [f (6+k)],.is (Yr g),.is (.int .i64 k),.is (Yr g),.is (Yr g),.is (.pointer (some ⟨g,k,none⟩)),.is (.int .i64 (f k)),.is (Yr g),.is (.int .i64 k),.is (Yr g),.is (.pointer (some ⟨g,12,none⟩)),.is (.pointer (some ⟨g,12+k,none⟩)),.is (.int .i64 (f (12+k))),.ints (w.heap.size) [f k,f (12+k)],.ints (w.heap.size) [f (6+k)],.ints (w.heap.size) [f k,f (12+k)]] [(6,20),(19,21)] (λ_ _=>False) (by kernel_rfl) (by kernel_rfl) Dw ?_
 iterate 6
  refine FV rfl rfl (λρ e d c W s=>?_) ?_
  ·have q:=(J.below s l).rules.1;simp[execOp,go_sem,e,d,c,q,N,O,c1]
  simp only[UW,UX,UY,UZ]
 refine oC rfl _ _ _ _ rfl _ _ _ _ rfl (Vc _) (Vc _) (λw _=>by simp only[Wy,VG,WQ];exact po (f (6+k)) w) rfl (by decide) rfl (by decide) ?_;intro z6;simp only[UW,UX,UY,UZ]
 iterate 12
  refine FV rfl rfl (λρ e d c W s=>?_) ?_
  ·have q:=(J.below s l).rules.1;simp[execOp,go_sem,e,d,c,q,N,O,c0,c2]
  simp only[UW,UX,UY,UZ]
 refine oC rfl _ _ _ _ rfl _ _ _ _ rfl (Vc _) (Vc _) (λw _=>by simp only[Wy,VG,WQ];exact BZ (f k) (f (12+k)) w) rfl (by decide) rfl (by decide) ?_;intro α;simp only[UW,UX,UY,UZ];refine iP rfl _ (by first|exact Vs rfl|exact Vr rfl) 6 z6 _ _ _ _ _ rfl rfl rfl (by repeat (first|exact Vs ⟨rfl,rfl⟩|exact⟨rfl,rfl⟩|exact Vr ⟨rfl,rfl⟩|apply Vr)) (.inl (eD rfl)) rfl ?_;intro z;simp only[UW,UX,UY,UZ];refine iP rfl _ (by first|exact Vs rfl|exact Vr rfl) 19 α _ _ _ _ _ rfl rfl rfl (by repeat (first|exact Vs ⟨rfl,rfl⟩|exact⟨rfl,rfl⟩|exact Vr ⟨rfl,rfl⟩|apply Vr)) (.inl (eD rfl)) rfl ?_;intro t;simp only[UW,UX,UY,UZ];intro w1 ls I C;have b:=o5 (k:=20) (j:=21) (u:=z) (v:=t) (L:=[f (6+k)]) (M:=[f k,f (12+k)]) C (by repeat (first|exact Vs ⟨rfl,rfl⟩|exact⟨rfl,rfl⟩|exact Vr ⟨rfl,rfl⟩|apply Vr)) (by repeat (first|exact Vs ⟨rfl,rfl⟩|exact⟨rfl,rfl⟩|exact Vr ⟨rfl,rfl⟩|apply Vr)) rfl rfl rfl rfl (by decide);clear C c0 c1 c2;go_wp2_with fail
 go_loopw [6,7,33] (λu v i wr=>∃j:Nat,j<=6/\i=.int .i64 j/\Ng wr w.heap.size u v ((ft f k).take (1+j)) ((gA f k).take (2+j))/\Ys w wr) (λ_ _ i _=>6-(intOf i).toNat)
 case atStart=>exact⟨0,by omega,rfl,b,I⟩
 case round=>
  obtain⟨j,hj,rfl,n,h⟩:=hrel;clear b I;have b:=n;clear n;by_cases H:j<6
  ·have j0:(0:Int)<=(j:Int):=by omega
   have j6:(j:Int)<6:=by omega
   have d1:=bZ f (18+k*6+j) (by omega);have d2:=bZ f (18+j*6+k) (by omega);have m:=h.size;have hL:((ft f k).take (1+j)).length<=100:=by rw[VI];omega
   have hM:((gA f k).take (2+j)).length<=100:=by rw[VI];omega
   have G:=U9 (wR f k j H);have B:=U9 (AE f k j H);generalize (ft f k).take (1+j)=L at b hL G;generalize (gA f k).take (2+j)=M at b hM B;have hd:decide ((j:Int)<6)=true:=by simp;omega
   go_upto_region 5 with fail;refine ru (w.heap.size) [.ints (w.heap.size) L,.is (Yr g),.is (.int .i64 k),.is (.int .i64 j),.is (Yr g),.is (.pointer (some ⟨g,18,none⟩)),.is (.pointer (some ⟨g,18+k*6,none⟩)),.is (.pointer (some ⟨g,18+k*6+j,none⟩)),.is (.int .i64 (f (18+k*6+j))),.ints (w.heap.size) [f (18+k*6+j)],.ints (w.heap.size) (L++[f (18+k*6+j)]),.ints (w.heap.size) M,.is (Yr g),.is (.int .i64 j),.is (.int .i64 k),.is (Yr g),.is (.pointer (some ⟨g,18,none⟩)),.is (.pointer (some ⟨g,18+j*6,none⟩)),.is (.pointer (some ⟨g,18+j*6+k,none⟩)),.is (.int .i64 (f (18+j*6+k))),.ints (w.heap.size) [f (18+j*6+k)],.ints (w.heap.size) (M++[f (18+j*6+k)]),.ints (w.heap.size) (L++[f (18+k*6+j)]),.ints (w.heap.size) (M++[f (18+j*6+k)]),.ints (w.heap.size) L,.ints (w.heap.size) M] [(24,0),(0,10),(9,10),(25,11),(11,21),(20,21),(10,22),(21,23)] (NL 24 25 u6 u7) (by kernel_rfl) (by kernel_rfl) (Dv rfl rfl (by decide) ⟨b.r1,b.r2,b.ne⟩) ?_;refine iP rfl _ (by first|exact Vs rfl|exact Vr rfl) 24 u6 _ _ _ _ _ rfl rfl rfl (by repeat (first|exact Vs ⟨rfl,rfl⟩|exact⟨rfl,rfl⟩|exact Vr ⟨rfl,rfl⟩|apply Vr)) (.inr (by decide)) rfl ?_;intro z0;simp only[UW,UX,UY,UZ]
   iterate 8
    refine FV rfl rfl (λρ e d c W s=>?_) ?_
    ·have q:=(J.below (h.trans s) l).rules.1;simp[execOp,go_sem,e,d,c,q,N,O,j0,j6,d1]
    simp only[UW,UX,UY,UZ]
   refine oC rfl _ _ _ _ rfl _ _ _ _ rfl (Vc _) m (λw _=>by simp only[Wy,VG,WQ];exact po (f (18+k*6+j)) w) rfl (by decide) rfl (by decide) ?_;intro z9;simp only[UW,UX,UY,UZ];refine kL rfl _ _ rfl 0 9 z0 z9 L [f (18+k*6+j)] rfl rfl rfl rfl (.inr rfl) (by repeat (first|exact Vs ⟨rfl,rfl⟩|exact⟨rfl,rfl⟩|exact Vr ⟨rfl,rfl⟩|apply Vr)) (by repeat (first|exact Vs ⟨rfl,rfl⟩|exact⟨rfl,rfl⟩|exact Vr ⟨rfl,rfl⟩|apply Vr)) (.inl (eD rfl)) (.inl (eD rfl)) rfl rfl (by first|omega|(simp only[Vl,VI,VB,VR];omega)) m ?_;intro T;simp only[UW,UX,UY,UZ];refine iP rfl _ (by first|exact Vs rfl|exact Vr rfl) 25 u7 _ _ _ _ _ rfl rfl rfl (by repeat (first|exact Vs ⟨rfl,rfl⟩|exact⟨rfl,rfl⟩|exact Vr ⟨rfl,rfl⟩|apply Vr)) (.inr (by decide)) rfl ?_;intro δ;simp only[UW,UX,UY,UZ]
   iterate 8
    refine FV rfl rfl (λρ e d c W s=>?_) ?_
    ·have q:=(J.below (h.trans s) l).rules.1;simp[execOp,go_sem,e,d,c,q,N,O,j0,j6,d2]
    simp only[UW,UX,UY,UZ]
   refine oC rfl _ _ _ _ rfl _ _ _ _ rfl (Vc _) m (λw _=>by simp only[Wy,VG,WQ];exact po (f (18+j*6+k)) w) rfl (by decide) rfl (by decide) ?_;intro z;simp only[UW,UX,UY,UZ];refine kL rfl _ _ rfl 11 20 δ z M [f (18+j*6+k)] rfl rfl rfl rfl (.inr rfl) (by repeat (first|exact Vs ⟨rfl,rfl⟩|exact⟨rfl,rfl⟩|exact Vr ⟨rfl,rfl⟩|apply Vr)) (by repeat (first|exact Vs ⟨rfl,rfl⟩|exact⟨rfl,rfl⟩|exact Vr ⟨rfl,rfl⟩|apply Vr)) (.inl (eD rfl)) (.inl (eD rfl)) rfl rfl (by first|omega|(simp only[Vl,VI,VB,VR];omega)) m ?_;intro t;simp only[UW,UX,UY,UZ];refine iP rfl _ (by first|exact Vs rfl|exact Vr rfl) 10 T _ _ _ _ _ rfl rfl rfl (by repeat (first|exact Vs ⟨rfl,rfl⟩|exact⟨rfl,rfl⟩|exact Vr ⟨rfl,rfl⟩|apply Vr)) (.inl (eD rfl)) rfl ?_;intro S;simp only[UW,UX,UY,UZ];refine iP rfl _ (by first|exact Vs rfl|exact Vr rfl) 21 t _ _ _ _ _ rfl rfl rfl (by repeat (first|exact Vs ⟨rfl,rfl⟩|exact⟨rfl,rfl⟩|exact Vr ⟨rfl,rfl⟩|apply Vr)) (.inl (eD rfl)) rfl ?_;intro V;simp only[UW,UX,UY,UZ];intro w2 ls β C;have b:=o5 (k:=22) (j:=23) (u:=S) (v:=V) (L:=L++[f (18+k*6+j)]) (M:=M++[f (18+j*6+k)]) C (by repeat (first|exact Vs ⟨rfl,rfl⟩|exact⟨rfl,rfl⟩|exact Vr ⟨rfl,rfl⟩|apply Vr)) (by repeat (first|exact Vs ⟨rfl,rfl⟩|exact⟨rfl,rfl⟩|exact Vr ⟨rfl,rfl⟩|apply Vr)) rfl rfl rfl rfl (by decide);clear C d1 d2;go_wp2_with fail;go_roundw
   case rel=>exact⟨j+1,by omega,by go_num,by rw[<-G.o,<-B.o];exact b,h.trans β⟩
   case measure=>simp[intOf];omega
  ·obtain rfl:j=6:=by omega
   rw[show(ft f k).take (1+6)=ft f k from rfl,show(gA f k).take (2+6)=gA f k from rfl]at b;obtain⟨A1,n1,rfl,U,X,D⟩:=aF b.r1;obtain⟨A2,n2,rfl,γ,Y,A⟩:=aF b.r2;have R:=U9 (Lx A1 n1 (ft f k) _ _ D U X (by simp[ft]));have K:=U9 (Lx A2 n2 (gA f k) _ _ A γ Y (by simp[gA]));have b1:=sy (ft f k);have b2:=sy (gA f k);rw[show((ft f k).length:Int)=7 from rfl]at b1;rw[show((gA f k).length:Int)=8 from rfl]at b2;have HL:=U9 (show qS f k=((gx (gA f k)).1-(gx (ft f k)).1,(gx (ft f k)).2&&(gx (gA f k)).2)from rfl);unfold o6 at R K;have G:(ft f k).length=7:=rfl;have B:(gA f k).length=8:=rfl;rw[G]at R;rw[B]at K;obtain⟨⟨s1,Z⟩,h1⟩:∃p,gx (ft f k)=p:=⟨_,rfl⟩;obtain⟨⟨s2,o2⟩,h2⟩:∃p,gx (gA f k)=p:=⟨_,rfl⟩;rw[h1]at R b1 HL;rw[h2]at K b2 HL;have ζ:=b1.1;have θ:=b1.2;have η:=b2.1;have ε:=b2.2;clear b1 b2 h1 h2 G B D A b;go_wp2_with fail;refine R.o.mono ?_;rintro r w2 ⟨rfl,rfl⟩;go_wp2_with fail;refine K.o.mono ?_;rintro r w2 ⟨rfl,rfl⟩;rcases(show Z=true\/Z=false from by cases Z<;>simp)with rfl|rfl
   all_goals
    go_wp2_with fail;go_ret2;exact⟨by rw[HL.o];rfl,h⟩
end
section
open Go.RowKit Go
theorem xi(b:k<6)(h:lB f k=false):pL f=false:=by
 unfold pL;rw[show(List.range 6).all (lB f)=false from by
  rw[List.all_eq_false];exact⟨k,XL.2 b,by simp[h]⟩]
 rfl
theorem Aj(h:∀k,k<6->lB f k=true):pL f=((gx (tL f)).2&&decide ((gx (tL f)).1<=1125899906842624)):=by
 unfold pL;rw[show(List.range 6).all (lB f)=true from Wl.2 λk b=>h k (XL.1 b)]
 rfl
theorem Pe(h:ai w g 80 (aG f)):Rd w (g+1) 1 (some ⟨g,0,none⟩) (tL f).length (dt (tL f)):=by
 refine⟨rfl,λ_=>⟨g,0,rfl,by omega,λj u b=>?_⟩⟩;rw[h.cell,Vk]
 match j,b with
 |0,b=>simp[tL,dt]at b;subst b;exact bZ f 0 (by omega)
 |1,b=>simp[tL,dt]at b;subst b;exact bZ f 1 (by omega)
 |2,b=>simp[tL,dt]at b;subst b;exact bZ f 2 (by omega)
 |3,b=>simp[tL,dt]at b;subst b;exact bZ f 3 (by omega)
 |4,b=>simp[tL,dt]at b;subst b;exact bZ f 4 (by omega)
 |5,b=>simp[tL,dt]at b;subst b;exact bZ f 5 (by omega)
 |n+6,b=>simp[tL,dt]at b
def If(b:Bool)(w:Yu)(e:Ending)(w':Yu):Prop:=e=.returned (.bool b)/\Ys w w'
theorem Pf(f:Nat->Int)(b:Bool)(G:pL f=b)(w:Yu):Yt 231 #[.agg (aG f)] w (If b w):=by
 have H:=U9 G;clear G;go_enter func231,ntmps231;go_wp2_with fail;have D:bF w _ [(w.heap.size,80,aG f)]:=(bF.nil w).push (t:=80) (cs:=aG f) rfl;generalize w.alloc _=W at D⊢
 go_loopw [8] (λi wr=>∃k:Nat,k<=6/\i=.int .i64 k/\bF w wr [(w.heap.size,80,aG f)]/\Va (∀j,j<k->lB f j=true)) (λi _=>6-(intOf i).toNat)
 case atStart=>exact⟨0,by omega,rfl,D,U9 λj K=>absurd K (by omega)⟩
 case round=>
  obtain⟨k,R,rfl,T,v⟩:=hrel;clear D;by_cases d:k<6
  ·have c:=U9 (DF f k d w.heap.size wr (T.blk _ _ _ Vp))
   have M:decide ((k:Int)<6)=true:=by simp;omega
   have S:(0:Int)<=(k:Int):=by omega
   have X:(k:Int)<6:=by omega
   have HO:=U9 (show lB f k=((qS f k).2&&(!decide ((qS f k).1<0)&&(!decide (f (6+k)<f (12+k))&&decide (f (18+k*6+k)=0))))from rfl);obtain⟨⟨n,o⟩,h⟩:∃p,qS f k=p:=⟨_,rfl⟩;rw[h]at c HO;unfold o6 at*;clear h;go_wp2_with fail;refine c.o.mono ?_;rintro r N ⟨rfl,l⟩;have z:=T.call l;clear T l c;obtain⟨q,-,-⟩:=z.rules;have c1:=bZ f (6+k) (by omega);have U:=bZ f (12+k) (by omega);have V:=bZ f (18+k*6+k) (by omega);have L:=U9 z;clear z;obtain⟨b1,J⟩:∃b,decide (n<0)=b:=⟨_,rfl⟩;obtain⟨b2,m⟩:∃b,decide (f (6+k)<f (12+k))=b:=⟨_,rfl⟩;obtain⟨u,O⟩:∃b,(f (18+k*6+k) !=0)=b:=⟨_,rfl⟩;have I:decide (f (18+k*6+k)=0)= !u:=by rw[<-O];simp[bne];rfl
   have C:=J;have B:=m;rw[show(decide ((n,o).1<0))=b1 from J,m,I]at HO;clear I C B;go_upto_region 5 with fail;rcases(show o=false\/o=true from by cases o<;>simp)with rfl|rfl;rotate_left;rcases(show b1=true\/b1=false from by cases b1<;>simp)with rfl|rfl;rotate_left;rcases(show b2=true\/b2=false from by cases b2<;>simp)with rfl|rfl;rotate_left;rcases(show u=true\/u=false from by cases u<;>simp)with rfl|rfl;rotate_left
   ·go_quiet (fail)
    go_wp2_with fail;go_roundw
    case rel=>exact⟨k+1,by omega,by go_num,L.o.drewN _,U9 λj K=>by
     by_cases e:j=k
     ·subst e;exact HO.o
     ·exact v.o j (by omega)⟩
    case measure=>simp[intOf];omega
   all_goals
    go_quiet (fail);go_wp2_with fail;go_ret;refine⟨?_,(L.o.drewN _).below⟩;rw[<-H.o,xi d HO.o]
    rfl
  ·obtain rfl:k=6:=by omega
   have M:decide (((6:Nat):Int)<6)=false:=by decide
   have c:=U9 (Lx (some ⟨w.heap.size,0,none⟩) 6 (tL f) _ wr (Pe (T.blk _ _ _ Vp)) (by simp[tL]) (by decide) (by simp[tL]));have A:=U9 (Aj v.o);obtain⟨⟨s,o⟩,h⟩:∃p,gx (tL f)=p:=⟨_,rfl⟩;rw[h]at c A;unfold o6 at*;rw[show(tL f).length=6 from rfl]at c;clear h v;go_wp2_with fail;refine c.o.mono ?_;rintro r N ⟨rfl,rfl⟩;obtain⟨b2,m⟩:∃b,decide (s<=1125899906842624)=b:=⟨_,rfl⟩;rw[show decide ((s,o).1<=1125899906842624)=b2 from m]at A;rcases(show o=false\/o=true from by cases o<;>simp)with rfl|rfl
   all_goals
    go_wp2_with fail;go_ret;refine⟨?_,T.below⟩;rw[<-H.o,A.o]
    rfl
def Bd(n:Int)(w:Yu)(e:Ending)(w':Yu):Prop:=e=.returned (.int .i64 n)/\Ys w w'
theorem LH(f:Nat->Int)(k:Nat)(v:k<6)(w:Yu):Yt 212 #[.agg (aG f),.int .i64 ((k:Int)+1)] w (Bd (dF f k) w):=by
 have C:(0:Int)<=(k:Int):=by omega
 have D:(k:Int)<6:=by omega
 have B:=U9 (yR ((k:Int)+1) true (by unfold cB;simp;omega));obtain⟨b,l⟩:∃b,pL f=b:=⟨_,rfl⟩;have A:=U9 (Pf f b l);have e:=U9 (show dF f k=if b then(qS f k).1 else 0 from by unfold dF;rw[l]);clear l;go_enter func212,ntmps212;go_wp2_with fail;have d:bF w _ [(w.heap.size,80,aG f)]:=(bF.nil w).push (t:=80) (cs:=aG f) rfl;generalize w.alloc _=W at d⊢;refine(B.o _).mono ?_;rintro r s ⟨rfl,rfl⟩;have z:=fG (d.blk _ _ _ Vp).rng;go_wp2_with fail;refine(A.o _).mono ?_;rintro r s ⟨rfl,c⟩;have h:=d.call c;clear d c z;rcases(show b=false\/b=true from by cases b<;>simp)with rfl|rfl
 ·go_wp2_with fail
  go_ret;exact⟨by rw[e.o];rfl,h.below⟩
 ·have u:=U9 (DF f k v w.heap.size s (h.blk _ _ _ Vp))
  obtain⟨⟨n,o⟩,q⟩:∃p,qS f k=p:=⟨_,rfl⟩;rw[q]at u e;unfold o6 at*;clear q;go_wp2_with fail;refine u.o.mono ?_;rintro r G ⟨rfl,m⟩;go_wp2_with fail;go_ret;exact⟨by rw[e.o];rfl,(h.call m).below⟩
theorem iF{fn:Func}{s1 s2:Nat}(h:fn.results=#[.cell s1 80,.tmp s2])(tmps:Array Yv)(g:Nat)(f:Nat->Int)(b:Int)(w:Yu)(m:tmps.getD s1 undef=.pointer (some ⟨g,0,none⟩))(c:tmps.getD s2 undef=.int .i64 b)
  (n:ai w g 80 (aG f)):(results fn tmps).run prog w=.ok (.tuple #[.agg (aG f),.int .i64 b]) w:=by
 have d:=run_loadVar_mid (P:=prog) w g 0 80 (aG f).toList _ n.rng.at_ underlying80 rfl (by rw[sC f];simp);have l:tmps[s1]?.getD undef=.pointer (some ⟨g,0,none⟩):=by rw[<-m];simp
 have e:tmps[s2]?.getD undef=.int .i64 b:=by rw[<-c];simp
 simp[results,h,l,e,d,asAddr]
def lP(p:Int×(Nat->Int))(w:Yu)(e:Ending)(w':Yu):Prop:=e=.returned (.tuple #[.agg (aG p.2),.int .i64 p.1])/\Ys w w'
def lR(P:Program)(fn:FuncId)(b:Array Yv)(w:Yu)(c:Int):Prop:=∀w',Ys w w'->Calls P fn b w' λe d=>e=.returned (.int .i64 c)/\Ys w' d
def lQ(P:Program)(fn:FuncId)(b:Array Yv)(w:Yu)(p:Nat):Prop:=∀w' g,Ys w w'->g<w'.heap.size->Calls P fn (#[Yr g]++b) w' λe c=>e=.returned (.pointer (some ⟨g,p,none⟩))/\∃n,c=w'.drewN n
def dT(f:Nat->Int)(x:Int)(c:Bool)(b:Int)(p:Nat):Int×(Nat->Int):=if qz f x then(1,z0)else if c=false then(10,z0)else if b≠0 then(b,z0)else putR f p x
theorem kO{b:Nat->Int}(c:ai w g 80 (aG b))(f:Nat->Int):(eR 80 (Yr g) (.agg (aG f))).run prog w=.ok .skip (w.setRow g (aG f)):=by
 have h:=oJ (P:=prog) (ty:=80) (o:=0) c (sC f) (by rw[dZ,dZ];omega) (pq f);rw[h];have e:((aG b).toList.take 0++(aG f).toList++(aG b).toList.drop (0+(aG f).size)).toArray=aG f:=by
  rw[XD (by simp[dZ])];simp
 rw[e]
theorem s7(f:Nat->Int)(x:Int)(hx:-9223372036854775808<=x/\x<=9223372036854775807)(hf:da f)(L:Bool)(e:Int)(p:Nat)(U:p<54)(T fp:FuncId)(cm cp:Array Yv)(w:Yu)
  (CM:lR prog T cm w e) (CP:lQ prog fp cp w p) (em:∀args w,(callFunc T args).run prog w=.ok (.enter T args) w) (ep:∀args w,(callFunc fp args).run prog w=.ok (.enter fp args) w):
  Yt 327 #[.agg (aG f),.int .i64 x,.bool L,.func (.func T) #[] cm,.func (.func fp) #[] cp] w (lP (dT f x L e p) w):=by
 have S:=U9 CM;have O:=U9 CP;clear CM CP;have K:=U9 (show qz f x=(!pL f||(decide (x<1)||decide (1125899906842624<x)))from rfl);obtain⟨b,Y⟩:∃b,pL f=b:=⟨_,rfl⟩;have C1:=U9 (Pf f b Y);rw[Y]at K;obtain⟨b1,h1⟩:∃b,decide (x<1)=b:=⟨_,rfl⟩;obtain⟨b2,h2⟩:∃b,decide (1125899906842624<x)=b:=⟨_,rfl⟩;rw[h1,h2]at K;clear Y;have B0:aD ((w.alloc (.cells (aG f) 80)).alloc (.cells (aG z0) 80)) [(w.heap.size+1,80,aG z0),(w.heap.size,80,aG f)]:=(aD.nil.push (t:=80) (cs:=aG f) rfl).push (t:=80) (cs:=aG z0) (by simp);have D0:Ys w ((w.alloc (.cells (aG f) 80)).alloc (.cells (aG z0) 80)):=((Vd _ _).alloc (Vc _) _).alloc (by simp) _;have n1:w.heap.size+1≠w.heap.size:=by omega
 have hl:=fG (B0.drop.head).rng;have Z:=U9 (Vb B0 D0);clear B0 D0;go_enter func327,ntmps327;go_wp2_with fail;refine(C1.o _).mono ?_;rintro r R ⟨rfl,J⟩;have c:=U9 (Vb (Z.o.1.call J) (Z.o.2.trans (J.mono (by simp;omega))));clear Z J hl C1;have M:∀(s:Yu) (F:Nat->Int) (er:Int),aD s [(w.heap.size+1,80,aG z0),(w.heap.size,80,aG F)]->∀G:Nat->Int,(eR 80 (Yr (w.heap.size+1)) (.agg (aG G))).run prog s=.ok .skip (s.setRow (w.heap.size+1) (aG G)):=λs F er hB G=>kO hB.head G
 have done:∀(s:Yu) (F:Nat->Int),aD s [(w.heap.size+1,80,aG z0),(w.heap.size,80,aG F)]->Ys w s->∀G:Nat->Int,ai (s.setRow (w.heap.size+1) (aG G)) (w.heap.size+1) 80 (aG G)/\Ys w (s.setRow (w.heap.size+1) (aG G)):=λs F hB hD G=>
  ⟨WB s _ _ _ _ _ hB.head,hD.trans ⟨rfl,rfl,rfl,by simp[World.setRow],λk hk=>Wv s _ k _ (by omega)⟩⟩
 have u:=U9 M;have z:=U9 done;clear M done;by_cases N:(!b||(b1||b2))=true
 ·have A:=u.o R f 0 c.o.1 z0
  have l:=U9 (z.o R f c.o.1 c.o.2 z0);have C:=U9 (show dT f x L e p=(1,z0)from by unfold dT;rw[Vh (K.o.trans N)]);clear u z K S O c;rcases(show b=false\/(b=true/\b1=true)\/(b=true/\b1=false/\b2=true)from by cases b<;>cases b1<;>cases b2<;>simp at N⊢)with rfl|⟨rfl,rfl⟩|⟨rfl,rfl,rfl⟩
  all_goals
   clear N;go_wp2_with fail;exact VF (v:=.tuple #[.agg (aG z0),.int .i64 1]) (iF (s1:=10) (s2:=11) (by kernel_rfl) _ (w.heap.size+1) z0 1 _ rfl rfl l.o.1) rfl ⟨by rw[C.o],l.o.2⟩
 have α:b=true/\b1=false/\b2=false:=by cases b<;>cases b1<;>cases b2<;>simp at N⊢
 obtain⟨rfl,rfl,rfl⟩:=α;have I:=U9 (show qz f x=false from by rw[K.o];rfl);clear N K;have δ:1<=x:=by simpa using h1
 have β:x<=1125899906842624:=by simpa using h2
 rcases(show L=false\/L=true from by cases L<;>simp)with rfl|rfl
 ·have A:=u.o R f 0 c.o.1 z0
  have l:=U9 (z.o R f c.o.1 c.o.2 z0);have C:=U9 (show dT f x false e p=(10,z0)from by unfold dT;rw[I.o];rfl);clear u z S O c;go_wp2_with fail;exact VF (v:=.tuple #[.agg (aG z0),.int .i64 10]) (iF (s1:=10) (s2:=11) (by kernel_rfl) _ (w.heap.size+1) z0 10 _ rfl rfl l.o.1) rfl ⟨by rw[C.o],l.o.2⟩
 go_wp2_with fail;refine(S.o _ c.o.2).mono ?_;rintro r X ⟨rfl,H⟩;have h:=U9 (Vb (c.o.1.call H) (c.o.2.trans (H.mono c.o.2.size)));clear c H S;by_cases V:e=0;rotate_left
 ·have γ:(e !=0)=true:=by simp[V]
  have A:=u.o X f 0 h.o.1 z0;have l:=U9 (z.o X f h.o.1 h.o.2 z0);have C:=U9 (show dT f x true e p=(e,z0)from by unfold dT;rw[I.o,Vf (by simp),Vf (by simp),Vh V]);clear u z O h V;go_wp2_with fail;exact VF (v:=.tuple #[.agg (aG z0),.int .i64 e]) (iF (s1:=10) (s2:=11) (by kernel_rfl) _ (w.heap.size+1) z0 e _ rfl rfl l.o.1) rfl ⟨by rw[C.o],l.o.2⟩
 subst V;have C:=U9 (show dT f x true 0 p=putR f p x from by unfold dT;rw[I.o];rfl);go_wp2_with fail;refine(O.o X w.heap.size h.o.2 (h.o.1.drop.head).lt).mono ?_;rintro r w3 ⟨rfl,n,rfl⟩;have m:=U9 (Vb (h.o.1.drewN n) (bC h.o.2 n));generalize X.drewN n=w3 at m⊢;clear h O;obtain⟨f0,f1⟩:=hf p U;have c1:=bZ f p U;obtain⟨-,-,q0,q1,-⟩:=m.o.1.rules;obtain⟨-,l0,-⟩:=m.o.1.lts;go_upto_region 12 with fail;have B4:=((m.o.1.perm (cs:=[(w.heap.size,80,aG f),(w.heap.size+1,80,aG z0)]) (by simp)).set_ ⟨n1,trivial⟩ p (.int .i64 (f p+x)));rw[sJ f p U]at B4;have D4:=m.o.2.setCell (p:=⟨w.heap.size,p,none⟩) (Vc _) (.int .i64 (f p+x));have d:=U9 (Vb (B4.perm (cs:=[(w.heap.size+1,80,aG z0),(w.heap.size,80,aG (jD f p (f p+x)))]) (by simp)) D4);clear B4 D4 m q0 q1 l0 c1;generalize w3.setCell _ _=w4 at d⊢;have q:=U9 (show putR f p x=if 1125899906842624<f p+x then(6,z0)else(0,jD f p (f p+x))from rfl);have B:(jD f p (f p+x)) p=f p+x:=by simp[jD]
 generalize D:f p+x=y at d q B⊢;have y0:0<=y:=by omega
 have y1:y<=2251799813685248:=by omega
 generalize jD f p y=F at d q B;have c1:=bZ F p U;rw[B]at c1;obtain⟨-,-,q0,q1,-⟩:=d.o.1.rules;clear D B f0 f1;by_cases D:1125899906842624<y
 ·have A:=u.o w4 F 0 d.o.1 z0
  have l:=U9 (z.o w4 F d.o.1 d.o.2 z0);have dy:decide (1125899906842624<y)=true:=Vg D;rw[Vh D]at q;clear u z d D;go_wp2_with fail;exact VF (v:=.tuple #[.agg (aG z0),.int .i64 6]) (iF (s1:=10) (s2:=11) (by kernel_rfl) _ (w.heap.size+1) z0 6 _ rfl rfl l.o.1) rfl ⟨by rw[C.o,q.o],l.o.2⟩
 ·have A:=u.o w4 F 0 d.o.1 F
  have l:=U9 (z.o w4 F d.o.1 d.o.2 F);have hl:=fG (d.o.1.drop.head).rng;have dy:decide (1125899906842624<y)=false:=Vj D;rw[Vf D]at q;clear u z d D;go_wp2_with fail;exact VF (v:=.tuple #[.agg (aG F),.int .i64 0]) (iF (s1:=10) (s2:=11) (by kernel_rfl) _ (w.heap.size+1) F 0 _ rfl rfl l.o.1) rfl ⟨by rw[C.o,q.o],l.o.2⟩
theorem xB(b:Bool)(x:Int)(w:Yu):Yt 329 #[.bool b,.int .i64 x] w λe w'=>e=.returned (.int .i64 (if b then x else 0))/\Ys w w':=
 (Pd b x w).mono λ_ _ ⟨c,d⟩=>⟨c,d▸Vd _ _⟩
theorem mE(f:Nat->Int)(k:Nat)(b:k<6)(w:Yu):Yt 212 #[.agg (aG f),.int .i64 ((k:Int)+1)] w λe w'=>e=.returned (.int .i64 (dF f k))/\Ys w w':=LH f k b w
section
variable{w:Yu}{px pr pi pj:Nat}{x:Int}{f:Nat->Int}{k j:Nat}
theorem Sk(d:ai w px 2 #[.int .i64 x])(e:ai w pr 80 (aG f))(c:ai w pi 3 #[.int .i64 ((k:Int)+1)])(m:k<6):
  lR prog 328 #[Yr px,Yr pr,Yr pi] w (if decide (dF f k<x)then 11 else 0):=by
 intro w' h;have d:=d.call h;have e:=e.call h;have c:=c.call h;obtain⟨t,-⟩:=d.rules;obtain⟨q,-⟩:=c.rules;have s:=d.lt;have r:=c.lt;have u:=λy:eh w'=>fG (e.call y.below).rng
 have p:=U9 (λy:eh w'=>mE f k m y.w);obtain⟨b,l⟩:∃b,decide (dF f k<x)=b:=⟨_,rfl⟩;have n:=U9 (λy:eh w'=>xB b 11 y.w);rw[l];clear d e c h;go_enter func328,ntmps328;go_wp2_with fail;refine dY (by kernel_rfl) (by kernel_rfl) ?_
 repeat (go_big_quiet_step (first|(go_at_call 212;with_reducible exact Calls.later (p.o _))|(go_at_call 329;with_reducible exact Calls.later (n.o _))))
 refine Xm ?_;rintro v ⟨y,rfl⟩;go_wp2_with fail
 all_goals
  go_ret;exact⟨rfl,y.below⟩
theorem Sv(e:ai w px 2 #[.int .i64 x])(c:ai w pr 80 (aG f))(d:ai w pi 3 #[.int .i64 ((k:Int)+1)])(r:k<6)(m:da f):
  lR prog 331 #[Yr px,Yr pr,Yr pi] w (if decide (f (6+k)-f (12+k)<x)then 12 else 0):=by
 intro w' h;have e:=e.call h;have c:=c.call h;have d:=d.call h;obtain⟨B,-⟩:=e.rules;obtain⟨z,-⟩:=d.rules;obtain⟨D,-⟩:=c.rules;have s:=e.lt;have A:=d.lt;have I:=c.lt;have c1:=bZ f (6+k) (by omega);have v:=bZ f (12+k) (by omega);obtain⟨q,t⟩:=m (6+k) (by omega);obtain⟨G,H⟩:=m (12+k) (by omega);have u:(0:Int)<=(k:Int):=by omega
 have C:(k:Int)<6:=by omega
 obtain⟨b,l⟩:∃b,decide (f (6+k)-f (12+k)<x)=b:=⟨_,rfl⟩;have n:=U9 (λy:eh w'=>xB b 12 y.w);rw[l];clear e c d h;go_enter func331,ntmps331;go_wp2_with fail;refine dY (by kernel_rfl) (by kernel_rfl) ?_
 repeat (go_big_quiet_step ((go_at_call 329;with_reducible exact Calls.later (n.o _))))
 refine Xm ?_;rintro p ⟨y,rfl⟩;go_wp2_with fail
 all_goals
  go_ret;exact⟨rfl,y.below⟩
theorem Ss(l:ai w pi 3 #[.int .i64 ((k:Int)+1)])(c:ai w pj 3 #[.int .i64 ((j:Int)+1)])(m:ai w px 2 #[.int .i64 x])(n:ai w pr 80 (aG f))(s:k<6)(u:j<6):
  lR prog 333 #[Yr pi,Yr pj,Yr px,Yr pr] w (if k=j then 1 else if decide (dF f k<x)then 11 else 0):=by
 intro w' h;have m:=m.call h;have n:=n.call h;have l:=l.call h;have c:=c.call h;obtain⟨C,-⟩:=m.rules;obtain⟨v,-⟩:=l.rules;obtain⟨z,-⟩:=c.rules;have B:=m.lt;have A:=l.lt;have G:=c.lt;have t:=λy:eh w'=>fG (n.call y.below).rng
 have r:=U9 (λy:eh w'=>mE f k s y.w);obtain⟨b,p⟩:∃b,decide (dF f k<x)=b:=⟨_,rfl⟩;have q:=U9 (λy:eh w'=>xB b 11 y.w);rw[p];clear m n l c h;by_cases e:k=j
 ·subst e
  rw[Vh rfl];clear t r q;have d:((k:Int)+1==(k:Int)+1)=true:=by simp
  go_enter func333,ntmps333;go_wp2_with fail;go_ret;exact⟨rfl,Vd _ _⟩
 ·rw[Vf e]
  have d:((k:Int)+1==(j:Int)+1)=false:=by simp;omega
  clear e;go_enter func333,ntmps333;go_wp2_with fail;refine dY (by kernel_rfl) (by kernel_rfl) ?_
  repeat (go_big_quiet_step (first|(go_at_call 212;with_reducible exact Calls.later (r.o _))|(go_at_call 329;with_reducible exact Calls.later (q.o _))))
  refine Xm ?_;rintro D ⟨y,rfl⟩;go_wp2_with fail
  all_goals
   go_ret;exact⟨rfl,y.below⟩
theorem Sj(b:ai w pi 3 #[.int .i64 ((k:Int)+1)])(e:k<6):lQ prog 330 #[Yr pi] w (6+k):=by
 intro w' g c n;have b:=b.call c;obtain⟨d,-⟩:=b.rules;have h:=b.lt;have l:(0:Int)<=(k:Int):=by omega
 have m:(k:Int)<6:=by omega
 clear b c;rw[show(#[Yr g]++ #[Yr pi]:Array Yv)=#[Yr g,Yr pi]from rfl];go_enter func330,ntmps330;go_upto_region 1 with fail;go_quiet (fail);go_wp2_with fail;go_ret;exact⟨rfl,_,rfl⟩
theorem Su(b:ai w pi 3 #[.int .i64 ((k:Int)+1)])(e:k<6):lQ prog 332 #[Yr pi] w (12+k):=by
 intro w' g c n;have b:=b.call c;obtain⟨d,-⟩:=b.rules;have h:=b.lt;have l:(0:Int)<=(k:Int):=by omega
 have m:(k:Int)<6:=by omega
 clear b c;rw[show(#[Yr g]++ #[Yr pi]:Array Yv)=#[Yr g,Yr pi]from rfl];go_enter func332,ntmps332;go_upto_region 1 with fail;go_quiet (fail);go_wp2_with fail;go_ret;exact⟨rfl,_,rfl⟩
theorem Sr(c:ai w pi 3 #[.int .i64 ((k:Int)+1)])(b:ai w pj 3 #[.int .i64 ((j:Int)+1)])(m:k<6)(e:j<6):lQ prog 334 #[Yr pi,Yr pj] w (18+k*6+j):=by
 intro w' g d t;have c:=c.call d;obtain⟨h,-⟩:=c.rules;have n:=c.lt;have b:=b.call d;obtain⟨l,-⟩:=b.rules;have u:=b.lt;have q:(0:Int)<=(k:Int):=by omega
 have r:(k:Int)<6:=by omega
 have p:(0:Int)<=(j:Int):=by omega
 have s:(j:Int)<6:=by omega
 clear c b d;rw[show(#[Yr g]++ #[Yr pi,Yr pj]:Array Yv)=#[Yr g,Yr pi,Yr pj]from rfl];go_enter func334,ntmps334;go_upto_region 1 with fail;go_quiet (fail);go_wp2_with fail;go_ret;exact⟨rfl,_,rfl⟩
end
end
section
open Go.RowKit Go Go.BigFrame
section
variable{P:Program}{ops:Array Oper}{W:Yu}{E:List En}{Q:Act->aI->Prop}{i:Nat}{o:Oper}{rest:List Oper}{a:Act}{F:aI}
theorem yM(d:Region.wanted o (yielded ops a.tmps)=true)(v:Yv)(e:E[i]? =some (.is v))(c:a.eval x1=v1)(b:∀ρ:Yx->Yv,ρ x1=v1->∀w,Ys W w->(execOp ρ o).run P w=.ok (.value v) w)
  (h:Lw P ops W E Q (i+1) rest (a.put o.dst v) (F.ins i v)):Lw P ops W E Q i (o::rest) a F:=jk d v e (λw l=>b a.eval c w l) h
theorem Gz(e:Region.wanted o (yielded ops a.tmps)=true)(v:Yv)(l:E[i]? =some (.is v))(d:a.eval x1=v1)(c:a.eval x2=v2)(b:∀ρ:Yx->Yv,ρ x1=v1->ρ x2=v2->∀w,Ys W w->(execOp ρ o).run P w=.ok (.value v) w)
  (h:Lw P ops W E Q (i+1) rest (a.put o.dst v) (F.ins i v)):Lw P ops W E Q i (o::rest) a F:=jk e v l (λw m=>b a.eval d c w m) h
theorem yL{x3:Yx}{v3:Yv}(l:Region.wanted o (yielded ops a.tmps)=true)(v:Yv)(m:E[i]? =some (.is v))(e:a.eval x1=v1)(d:a.eval x2=v2)(c:a.eval x3=v3)(b:∀ρ:Yx->Yv,ρ x1=v1->ρ x2=v2->ρ x3=v3->∀w,Ys W w->(execOp ρ o).run P w=.ok (.value v) w)
  (h:Lw P ops W E Q (i+1) rest (a.put o.dst v) (F.ins i v)):Lw P ops W E Q i (o::rest) a F:=jk l v m (λw n=>b a.eval e d c w n) h
end
theorem mD(x:Int)(b:Bool)(h:cB x=b)(w:Yu):Yt 230 #[.int .i64 x] w λe w'=>e=.returned (.bool b)/\Ys w w':=
 (yR x b h w).mono λ_ _ ⟨c,d⟩=>⟨c,d▸Vd _ _⟩
theorem sM(b:k<6):cB ((k:Int)+1)=true:=by unfold cB;simp;omega
theorem Ph(f:Nat->Int)(K:da f)(k:Nat)(B:k<6)(x:Int)(U:-9223372036854775808<=x/\x<=9223372036854775807)(w:Yu):Yt 315 #[.agg (aG f),.int .i64 ((k:Int)+1),.int .i64 x] w (lP (fX f k x) w):=by
 have p:aD ((((w.alloc (.cells (aG f) 80)).alloc (.cells (#[.int .i64 ((k:Int)+1)]) 3)).alloc (.cells (#[.int .i64 x]) 2)).alloc (.cells (aG z0) 80)) [(w.heap.size+3,80,aG z0),(w.heap.size+2,2,#[.int .i64 x]),(w.heap.size+1,3,#[.int .i64 ((k:Int)+1)]),(w.heap.size,80,aG f)]:=((((aD.nil.push (t:=80) (cs:=aG f) (g:=w.heap.size) rfl).push (t:=3) (cs:=#[.int .i64 ((k:Int)+1)]) (g:=w.heap.size+1) (by simp)).push (t:=2) (cs:=#[.int .i64 x]) (g:=w.heap.size+2) (by simp)).push (t:=80) (cs:=aG z0) (g:=w.heap.size+3) (by simp));have G:Ys w ((((w.alloc (.cells (aG f) 80)).alloc (.cells (#[.int .i64 ((k:Int)+1)]) 3)).alloc (.cells (#[.int .i64 x]) 2)).alloc (.cells (aG z0) 80)):=(((((Vd w.heap.size w).alloc (by simp<;>omega) _).alloc (by simp<;>omega) _).alloc (by simp<;>omega) _).alloc (by simp<;>omega) _);have H:lR prog _ _ ((((w.alloc (.cells (aG f) 80)).alloc (.cells (#[.int .i64 ((k:Int)+1)]) 3)).alloc (.cells (#[.int .i64 x]) 2)).alloc (.cells (aG z0) 80)) _:=Sk (p (w.heap.size+2) (2) (#[.int .i64 x]) (by simp)) (p (w.heap.size) (80) (aG f) (by simp)) (p (w.heap.size+1) (3) (#[.int .i64 ((k:Int)+1)]) (by simp)) B;have C:lQ prog _ _ ((((w.alloc (.cells (aG f) 80)).alloc (.cells (#[.int .i64 ((k:Int)+1)]) 3)).alloc (.cells (#[.int .i64 x]) 2)).alloc (.cells (aG z0) 80)) _:=Sj (p (w.heap.size+1) (3) (#[.int .i64 ((k:Int)+1)]) (by simp)) B;have J:=U9 (show dT f x true (if decide (dF f k<x)then 11 else 0) (6+k)=fX f k x from by unfold dT fX;by_cases S:qz f x=true<;>by_cases N:dF f k<x<;>simp[S,N]);obtain⟨z,n⟩:∃z,z=((((w.alloc (.cells (aG f) 80)).alloc (.cells (#[.int .i64 ((k:Int)+1)]) 3)).alloc (.cells (#[.int .i64 x]) 2)).alloc (.cells (aG z0) 80)):=⟨_,rfl⟩;rw[<-n]at p G H C;have D:=U9 (λ(W:Yu) (c:Ys z W)=>(show Yt 327 #[.agg (aG f),.int .i64 x,.bool true,.func (.func 328) #[] #[Yr (w.heap.size+2),Yr w.heap.size,Yr (w.heap.size+1)],.func (.func 330) #[] #[Yr (w.heap.size+1)]] W (λe w'=>e=.returned (.tuple #[.agg (aG (fX f k x).2),.int .i64 (fX f k x).1])/\Ys W w')from by
  rw[<-J.o];exact s7 f x U K true _ _ (by omega) _ _ _ _ W (λw' h=>H w' (c.trans (h.mono c.size))) (λw' T h=>C w' T (c.trans (h.mono c.size))) (λ_ _=>by kernel_rfl) (λ_ _=>by kernel_rfl)))
 have m:=U9 (Vb p G);clear p G H C K;generalize u:fX f k x=rs at D⊢;obtain⟨A,s⟩:=rs;clear u J;go_enter func315,ntmps315;go_wp2_with fail;rw[show((((w.alloc (.cells (aG f) 80)).alloc (.cells (#[.int .i64 ((k:Int)+1)]) 3)).alloc (.cells (#[.int .i64 x]) 2)).alloc (.cells (aG z0) 80))=z from n.symm];clear n;refine ev 9 [.is (.agg (aG f)),.is (.int .i64 x),.is (.int .i64 ((k:Int)+1)),.is (.bool true),.is (.func (.func 328) #[] #[Yr (w.heap.size+2),Yr w.heap.size,Yr (w.heap.size+1)]),.is (.func (.func 330) #[] #[Yr (w.heap.size+1)]),.is (.tuple #[.agg (aG s),.int .i64 A]),.is (.agg (aG s)),.is (.int .i64 A)] (by kernel_rfl) (by simp) (by kernel_rfl) (by kernel_rfl) (by kernel_rfl) (by kernel_rfl) ?_;simp only[U4,U5,U6,U7]
 iterate 3
  refine sW rfl rfl (λρ b l d W c=>?_) ?_
  ·obtain⟨q3,-,Y,-,R,-,Z,-,-⟩:=(m.o.1.call c).rules;obtain⟨l3,X,V,l0,-⟩:=(m.o.1.call c).lts;simp[execOp,go_sem,b,l,d,R,V,Y,X,fG (((m.o.1.call c) w.heap.size 80 (aG f) (by simp)).rng)]
  simp only[UW,UX,UY,UZ]
 refine iw rfl 230 #[.int .i64 ((k:Int)+1)] _ rfl ?_ (λw _=>mD _ true (sM B) w) ?_
 ·intro W;simp[go_sem]<;>rfl
 simp only[UW,UX,UY,UZ];refine yL (x1:=.tmp 5) (v1:=.pointer (some ⟨w.heap.size+2,0,none⟩)) (x2:=.tmp 3) (v2:=.pointer (some ⟨w.heap.size,0,none⟩)) (x3:=.tmp 4) (v3:=.pointer (some ⟨w.heap.size+1,0,none⟩)) rfl _ rfl rfl rfl rfl (λρ b l d W c=>?_) ?_
 ·simp[execOp,go_sem,b,l,d,Instr.makeFunc]
 simp only[UW,UX,UY,UZ];refine yM (x1:=.tmp 4) (v1:=.pointer (some ⟨w.heap.size+1,0,none⟩)) rfl _ rfl rfl (λρ b W c=>?_) ?_
 ·simp[execOp,go_sem,b,Instr.makeFunc]
 simp only[UW,UX,UY,UZ];refine iw rfl 327 #[.agg (aG f),.int .i64 x,.bool true,.func (.func 328) #[] #[Yr (w.heap.size+2),Yr w.heap.size,Yr (w.heap.size+1)],.func (.func 330) #[] #[Yr (w.heap.size+1)]] _ rfl ?_ (λw c=>D.o w c) ?_
 ·intro W;simp[go_sem]<;>rfl
 simp only[UW,UX,UY,UZ]
 iterate 2
  refine sW rfl rfl (λρ b l d W c=>?_) ?_
  ·simp[execOp,go_sem,b,l,d]
  simp only[UW,UX,UY,UZ]
 intro L r I;clear I D;have q:=U9 (Vb (m.o.1.call r) (m.o.2.trans (r.mono m.o.2.size)));have O:=kO q.o.1.head s;have M:=U9 (WB L _ _ (aG s) _ _ q.o.1.head);clear r m;go_wp2_with fail;refine VF (v:=.tuple #[.agg (aG s),.int .i64 A]) (iF (s1:=6) (s2:=7) (by kernel_rfl) _ (w.heap.size+3) s A _ rfl rfl M.o) rfl ⟨rfl,?_⟩;exact q.o.2.trans ⟨rfl,rfl,rfl,by simp[World.setRow],λk B=>Wv L _ k _ (by omega)⟩
theorem Pr(f:Nat->Int)(G:da f)(k:Nat)(B:k<6)(x:Int)(U:-9223372036854775808<=x/\x<=9223372036854775807)(w:Yu):Yt 318 #[.agg (aG f),.int .i64 ((k:Int)+1),.int .i64 x] w (lP (gh f k x) w):=by
 have p:aD ((((w.alloc (.cells (aG f) 80)).alloc (.cells (#[.int .i64 ((k:Int)+1)]) 3)).alloc (.cells (#[.int .i64 x]) 2)).alloc (.cells (aG z0) 80)) [(w.heap.size+3,80,aG z0),(w.heap.size+2,2,#[.int .i64 x]),(w.heap.size+1,3,#[.int .i64 ((k:Int)+1)]),(w.heap.size,80,aG f)]:=((((aD.nil.push (t:=80) (cs:=aG f) (g:=w.heap.size) rfl).push (t:=3) (cs:=#[.int .i64 ((k:Int)+1)]) (g:=w.heap.size+1) (by simp)).push (t:=2) (cs:=#[.int .i64 x]) (g:=w.heap.size+2) (by simp)).push (t:=80) (cs:=aG z0) (g:=w.heap.size+3) (by simp));have H:Ys w ((((w.alloc (.cells (aG f) 80)).alloc (.cells (#[.int .i64 ((k:Int)+1)]) 3)).alloc (.cells (#[.int .i64 x]) 2)).alloc (.cells (aG z0) 80)):=(((((Vd w.heap.size w).alloc (by simp<;>omega) _).alloc (by simp<;>omega) _).alloc (by simp<;>omega) _).alloc (by simp<;>omega) _);have I:lR prog _ _ ((((w.alloc (.cells (aG f) 80)).alloc (.cells (#[.int .i64 ((k:Int)+1)]) 3)).alloc (.cells (#[.int .i64 x]) 2)).alloc (.cells (aG z0) 80)) _:=Sv (p (w.heap.size+2) (2) (#[.int .i64 x]) (by simp)) (p (w.heap.size) (80) (aG f) (by simp)) (p (w.heap.size+1) (3) (#[.int .i64 ((k:Int)+1)]) (by simp)) B G;have C:lQ prog _ _ ((((w.alloc (.cells (aG f) 80)).alloc (.cells (#[.int .i64 ((k:Int)+1)]) 3)).alloc (.cells (#[.int .i64 x]) 2)).alloc (.cells (aG z0) 80)) _:=Su (p (w.heap.size+1) (3) (#[.int .i64 ((k:Int)+1)]) (by simp)) B;have K:=U9 (show dT f x true (if decide (f (6+k)-f (12+k)<x)then 12 else 0) (12+k)=gh f k x from by unfold dT gh;by_cases S:qz f x=true<;>by_cases N:f (6+k)-f (12+k)<x<;>simp[S,N]);obtain⟨z,n⟩:∃z,z=((((w.alloc (.cells (aG f) 80)).alloc (.cells (#[.int .i64 ((k:Int)+1)]) 3)).alloc (.cells (#[.int .i64 x]) 2)).alloc (.cells (aG z0) 80)):=⟨_,rfl⟩;rw[<-n]at p H I C;have D:=U9 (λ(W:Yu) (c:Ys z W)=>(show Yt 327 #[.agg (aG f),.int .i64 x,.bool true,.func (.func 331) #[] #[Yr (w.heap.size+2),Yr w.heap.size,Yr (w.heap.size+1)],.func (.func 332) #[] #[Yr (w.heap.size+1)]] W (λe w'=>e=.returned (.tuple #[.agg (aG (gh f k x).2),.int .i64 (gh f k x).1])/\Ys W w')from by
  rw[<-K.o];exact s7 f x U G true _ _ (by omega) _ _ _ _ W (λw' h=>I w' (c.trans (h.mono c.size))) (λw' T h=>C w' T (c.trans (h.mono c.size))) (λ_ _=>by kernel_rfl) (λ_ _=>by kernel_rfl)))
 have m:=U9 (Vb p H);clear p H I C G;generalize u:gh f k x=rs at D⊢;obtain⟨A,s⟩:=rs;clear u K;go_enter func318,ntmps318;go_wp2_with fail;rw[show((((w.alloc (.cells (aG f) 80)).alloc (.cells (#[.int .i64 ((k:Int)+1)]) 3)).alloc (.cells (#[.int .i64 x]) 2)).alloc (.cells (aG z0) 80))=z from n.symm];clear n;refine ev 9 [.is (.agg (aG f)),.is (.int .i64 x),.is (.int .i64 ((k:Int)+1)),.is (.bool true),.is (.func (.func 331) #[] #[Yr (w.heap.size+2),Yr w.heap.size,Yr (w.heap.size+1)]),.is (.func (.func 332) #[] #[Yr (w.heap.size+1)]),.is (.tuple #[.agg (aG s),.int .i64 A]),.is (.agg (aG s)),.is (.int .i64 A)] (by kernel_rfl) (by simp) (by kernel_rfl) (by kernel_rfl) (by kernel_rfl) (by kernel_rfl) ?_;simp only[U4,U5,U6,U7]
 iterate 3
  refine sW rfl rfl (λρ b l d W c=>?_) ?_
  ·obtain⟨q3,-,Y,-,R,-,Z,-,-⟩:=(m.o.1.call c).rules;obtain⟨l3,X,V,l0,-⟩:=(m.o.1.call c).lts;simp[execOp,go_sem,b,l,d,R,V,Y,X,fG (((m.o.1.call c) w.heap.size 80 (aG f) (by simp)).rng)]
  simp only[UW,UX,UY,UZ]
 refine iw rfl 230 #[.int .i64 ((k:Int)+1)] _ rfl ?_ (λw _=>mD _ true (sM B) w) ?_
 ·intro W;simp[go_sem]<;>rfl
 simp only[UW,UX,UY,UZ];refine yL (x1:=.tmp 5) (v1:=.pointer (some ⟨w.heap.size+2,0,none⟩)) (x2:=.tmp 3) (v2:=.pointer (some ⟨w.heap.size,0,none⟩)) (x3:=.tmp 4) (v3:=.pointer (some ⟨w.heap.size+1,0,none⟩)) rfl _ rfl rfl rfl rfl (λρ b l d W c=>?_) ?_
 ·simp[execOp,go_sem,b,l,d,Instr.makeFunc]
 simp only[UW,UX,UY,UZ];refine yM (x1:=.tmp 4) (v1:=.pointer (some ⟨w.heap.size+1,0,none⟩)) rfl _ rfl rfl (λρ b W c=>?_) ?_
 ·simp[execOp,go_sem,b,Instr.makeFunc]
 simp only[UW,UX,UY,UZ];refine iw rfl 327 #[.agg (aG f),.int .i64 x,.bool true,.func (.func 331) #[] #[Yr (w.heap.size+2),Yr w.heap.size,Yr (w.heap.size+1)],.func (.func 332) #[] #[Yr (w.heap.size+1)]] _ rfl ?_ (λw c=>D.o w c) ?_
 ·intro W;simp[go_sem]<;>rfl
 simp only[UW,UX,UY,UZ]
 iterate 2
  refine sW rfl rfl (λρ b l d W c=>?_) ?_
  ·simp[execOp,go_sem,b,l,d]
  simp only[UW,UX,UY,UZ]
 intro L r J;clear J D;have q:=U9 (Vb (m.o.1.call r) (m.o.2.trans (r.mono m.o.2.size)));have O:=kO q.o.1.head s;have M:=U9 (WB L _ _ (aG s) _ _ q.o.1.head);clear r m;go_wp2_with fail;refine VF (v:=.tuple #[.agg (aG s),.int .i64 A]) (iF (s1:=6) (s2:=7) (by kernel_rfl) _ (w.heap.size+3) s A _ rfl rfl M.o) rfl ⟨rfl,?_⟩;exact q.o.2.trans ⟨rfl,rfl,rfl,by simp[World.setRow],λk B=>Wv L _ k _ (by omega)⟩
theorem Pm(f:Nat->Int)(T:da f)(k:Nat)(B:k<6)(j:Nat)(L:j<6)(x:Int)(hx:-9223372036854775808<=x/\x<=9223372036854775807)(w:Yu):Yt 320 #[.agg (aG f),.int .i64 ((k:Int)+1),.int .i64 ((j:Int)+1),.int .i64 x] w (lP (fF f k j x) w):=by
 have n:aD (((((w.alloc (.cells (aG f) 80)).alloc (.cells (#[.int .i64 ((k:Int)+1)]) 3)).alloc (.cells (#[.int .i64 ((j:Int)+1)]) 3)).alloc (.cells (#[.int .i64 x]) 2)).alloc (.cells (aG z0) 80)) [(w.heap.size+4,80,aG z0),(w.heap.size+3,2,#[.int .i64 x]),(w.heap.size+2,3,#[.int .i64 ((j:Int)+1)]),(w.heap.size+1,3,#[.int .i64 ((k:Int)+1)]),(w.heap.size,80,aG f)]:=(((((aD.nil.push (t:=80) (cs:=aG f) (g:=w.heap.size) rfl).push (t:=3) (cs:=#[.int .i64 ((k:Int)+1)]) (g:=w.heap.size+1) (by simp)).push (t:=3) (cs:=#[.int .i64 ((j:Int)+1)]) (g:=w.heap.size+2) (by simp)).push (t:=2) (cs:=#[.int .i64 x]) (g:=w.heap.size+3) (by simp)).push (t:=80) (cs:=aG z0) (g:=w.heap.size+4) (by simp));have J:Ys w (((((w.alloc (.cells (aG f) 80)).alloc (.cells (#[.int .i64 ((k:Int)+1)]) 3)).alloc (.cells (#[.int .i64 ((j:Int)+1)]) 3)).alloc (.cells (#[.int .i64 x]) 2)).alloc (.cells (aG z0) 80)):=((((((Vd w.heap.size w).alloc (by simp<;>omega) _).alloc (by simp<;>omega) _).alloc (by simp<;>omega) _).alloc (by simp<;>omega) _).alloc (by simp<;>omega) _);have K:lR prog _ _ (((((w.alloc (.cells (aG f) 80)).alloc (.cells (#[.int .i64 ((k:Int)+1)]) 3)).alloc (.cells (#[.int .i64 ((j:Int)+1)]) 3)).alloc (.cells (#[.int .i64 x]) 2)).alloc (.cells (aG z0) 80)) _:=Ss (n (w.heap.size+1) (3) (#[.int .i64 ((k:Int)+1)]) (by simp)) (n (w.heap.size+2) (3) (#[.int .i64 ((j:Int)+1)]) (by simp)) (n (w.heap.size+3) (2) (#[.int .i64 x]) (by simp)) (n (w.heap.size) (80) (aG f) (by simp)) B L;have C:lQ prog _ _ (((((w.alloc (.cells (aG f) 80)).alloc (.cells (#[.int .i64 ((k:Int)+1)]) 3)).alloc (.cells (#[.int .i64 ((j:Int)+1)]) 3)).alloc (.cells (#[.int .i64 x]) 2)).alloc (.cells (aG z0) 80)) _:=Sr (n (w.heap.size+1) (3) (#[.int .i64 ((k:Int)+1)]) (by simp)) (n (w.heap.size+2) (3) (#[.int .i64 ((j:Int)+1)]) (by simp)) B L;have S:=U9 (show dT f x true (if k=j then 1 else if decide (dF f k<x)then 11 else 0) (18+k*6+j)=fF f k j x from by unfold dT fF;by_cases h1:qz f x=true<;>by_cases h3:k=j<;>by_cases Y:dF f k<x<;>simp[h1,Y,h3]);obtain⟨z,p⟩:∃z,z=(((((w.alloc (.cells (aG f) 80)).alloc (.cells (#[.int .i64 ((k:Int)+1)]) 3)).alloc (.cells (#[.int .i64 ((j:Int)+1)]) 3)).alloc (.cells (#[.int .i64 x]) 2)).alloc (.cells (aG z0) 80)):=⟨_,rfl⟩;rw[<-p]at n J K C;have H:=U9 (λ(W:Yu) (l:Ys z W)=>(show Yt 327 #[.agg (aG f),.int .i64 x,.bool true,.func (.func 333) #[] #[Yr (w.heap.size+1),Yr (w.heap.size+2),Yr (w.heap.size+3),Yr w.heap.size],.func (.func 334) #[] #[Yr (w.heap.size+1),Yr (w.heap.size+2)]] W (λe w'=>e=.returned (.tuple #[.agg (aG (fF f k j x).2),.int .i64 (fF f k j x).1])/\Ys W w')from by
  rw[<-S.o];exact s7 f x hx T true _ _ (by omega) _ _ _ _ W (λw' h=>K w' (l.trans (h.mono l.size))) (λw' g' h=>C w' g' (l.trans (h.mono l.size))) (λ_ _=>by kernel_rfl) (λ_ _=>by kernel_rfl)))
 have m:=U9 (Vb n J);clear n J K C T;generalize u:fF f k j x=rs at H⊢;obtain⟨A,s⟩:=rs;clear u S;go_enter func320,ntmps320;go_wp2_with fail;rw[show(((((w.alloc (.cells (aG f) 80)).alloc (.cells (#[.int .i64 ((k:Int)+1)]) 3)).alloc (.cells (#[.int .i64 ((j:Int)+1)]) 3)).alloc (.cells (#[.int .i64 x]) 2)).alloc (.cells (aG z0) 80))=z from p.symm];clear p;refine ev 13 [.is (.agg (aG f)),.is (.int .i64 x),.is (.int .i64 ((k:Int)+1)),.is (.bool true),.is (.bool true),.is (.int .i64 ((j:Int)+1)),.is (.bool true),.is (.bool true),.is (.func (.func 333) #[] #[Yr (w.heap.size+1),Yr (w.heap.size+2),Yr (w.heap.size+3),Yr w.heap.size]),.is (.func (.func 334) #[] #[Yr (w.heap.size+1),Yr (w.heap.size+2)]),.is (.tuple #[.agg (aG s),.int .i64 A]),.is (.agg (aG s)),.is (.int .i64 A)] (by kernel_rfl) (by simp) (by kernel_rfl) (by kernel_rfl) (by kernel_rfl) (by kernel_rfl) ?_;simp only[U4,U5,U6,U7]
 iterate 3
  refine sW rfl rfl (λρ c b d W l=>?_) ?_
  ·obtain⟨q4,-,G,-,R,-,D,-,X,-,-⟩:=(m.o.1.call l).rules;obtain⟨l4,I,N,M,l0,-⟩:=(m.o.1.call l).lts;simp[execOp,go_sem,c,b,d,D,M,R,N,G,I,fG (((m.o.1.call l) w.heap.size 80 (aG f) (by simp)).rng)]
  simp only[UW,UX,UY,UZ]
 refine iw rfl 230 #[.int .i64 ((k:Int)+1)] _ rfl ?_ (λw _=>mD _ true (sM B) w) ?_
 ·intro W;simp[go_sem]<;>rfl
 simp only[UW,UX,UY,UZ];refine sW rfl rfl (λρ c b d W l=>?_) ?_
 ·simp[execOp,go_sem,c,b,d]
 simp only[UW,UX,UY,UZ];refine sW rfl rfl (λρ c b d W l=>?_) ?_
 ·obtain⟨q4,-,G,-,R,-,D,-,X,-,-⟩:=(m.o.1.call l).rules;obtain⟨l4,I,N,M,l0,-⟩:=(m.o.1.call l).lts;simp[execOp,go_sem,c,b,d,D,M,R,N,G,I]
 simp only[UW,UX,UY,UZ];refine iw rfl 230 #[.int .i64 ((j:Int)+1)] _ rfl ?_ (λw _=>mD _ true (sM L) w) ?_
 ·intro W;simp[go_sem]<;>rfl
 simp only[UW,UX,UY,UZ];refine sW rfl rfl (λρ c b d W l=>?_) ?_
 ·simp[execOp,go_sem,c,b,d]
 simp only[UW,UX,UY,UZ];refine jk rfl _ rfl (λW l=>?_) ?_
 ·simp[execOp,go_sem,Instr.makeFunc]
 simp only[UW,UX,UY,UZ];refine Gz (x1:=.tmp 5) (v1:=.pointer (some ⟨w.heap.size+1,0,none⟩)) (x2:=.tmp 6) (v2:=.pointer (some ⟨w.heap.size+2,0,none⟩)) rfl _ rfl rfl rfl (λρ c b W l=>?_) ?_
 ·simp[execOp,go_sem,c,b,Instr.makeFunc]
 simp only[UW,UX,UY,UZ];refine iw rfl 327 #[.agg (aG f),.int .i64 x,.bool true,.func (.func 333) #[] #[Yr (w.heap.size+1),Yr (w.heap.size+2),Yr (w.heap.size+3),Yr w.heap.size],.func (.func 334) #[] #[Yr (w.heap.size+1),Yr (w.heap.size+2)]] _ rfl ?_ (λw l=>H.o w l) ?_
 ·intro W;simp[go_sem]<;>rfl
 simp only[UW,UX,UY,UZ]
 iterate 2
  refine sW rfl rfl (λρ c b d W l=>?_) ?_
  ·simp[execOp,go_sem,c,b,d]
  simp only[UW,UX,UY,UZ]
 intro U r O;clear O H;have q:=U9 (Vb (m.o.1.call r) (m.o.2.trans (r.mono m.o.2.size)));have Z:=kO q.o.1.head s;have V:=U9 (WB U _ _ (aG s) _ _ q.o.1.head);clear r m;go_wp2_with fail;refine VF (v:=.tuple #[.agg (aG s),.int .i64 A]) (iF (s1:=8) (s2:=9) (by kernel_rfl) _ (w.heap.size+4) s A _ rfl rfl V.o) rfl ⟨rfl,?_⟩;exact q.o.2.trans ⟨rfl,rfl,rfl,by simp[World.setRow],λk B=>Wv U _ k _ (by omega)⟩
end
