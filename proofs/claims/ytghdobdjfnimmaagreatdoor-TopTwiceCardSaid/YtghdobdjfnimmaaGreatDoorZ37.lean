import Derived.Test.YtghdobdjfnimmaaGreatDoorZ35
import Derived.Test.YtghdobdjfnimmaaGreatDoorZ36
set_option maxRecDepth 100000
set_option maxHeartbeats 0
set_option linter.all false
namespace Go.Proofs.YtghdobdjfnimmaaGreatDoor
open Go.Proofs.Tryz
variable{w Y w0:Yu}{g b base d c:Nat}{t:Yw}{p:qD×Bool}{C:aN}{x:Sq}{inn:Nat->Bool}{kn:av}{m:cA}{a:cJ}{N:List Nd}{cs:Array Yv}{F:Nat->Prop}
section
open Go.RowKit Go
theorem wL{α β:Type}[DecidableEq α](L:List (α×β))(a:α)(v:β):putL (putL L a v) a v=putL L a v:=by
 unfold putL;have:dropL ((a,v)::dropL L a) a=dropL L a:=by
  unfold dropL;rw[V9,Vf (by simp),List.filter_filter];simp
 rw[this]
theorem rz{e:Int}{E j:Ev}(hk:a.k=3\/a.k=4):d9 (d9 m e a E 0) e a j 0=d9 m e a E 0:=by
 have s3:a.k=3->∀(m:cA) (E:Ev),d9 m e a E 0=if(lk m.ta (e,a.r)).isSome=true then m else{m with ta:=putL m.ta (e,a.r) (a.n,if a.a=bL a.a then a.a else 0)}:=λh m E=>by
  unfold d9;rw[Vf (by omega),Vf (by omega),Vf (by omega),Vh h];simp
 have l:a.k=4->∀(m:cA) (E:Ev),d9 m e a E 0={m with ba:=putL m.ba (e,a.f) true}:=λh m E=>by
  unfold d9;rw[Vf (by omega),Vf (by omega),Vf (by omega),Vf (by omega),Vh h]
 rcases hk with hk|hk
 ·rw[s3 hk _ j,s3 hk m E]
  by_cases i:(lk m.ta (e,a.r)).isSome=true
  ·rw[Vh i,Vh i]
  ·rw[Vf i,Vh (by rw[mr];rfl)]
 ·rw[l hk _ j,l hk m E]
  simp only[wL]
def q9:cJ:=⟨1,0,0,10,0,0⟩
def lM:cJ:=⟨3,1099511627777,0,4,1,0⟩
theorem yx{m:az}{i:Nat}(h:(dg (bh m) ((i:Int)+1) a).1=false)(e:(bE m (dB m i a)).1=0):cH m i a=(dB m i a,0,(cz m (dB m i a)).2):=by
 unfold cH;rw[Vf (by rw[h];exact Bool.false_ne_true),Vh e]
def uT:az:=(cz (iV 1) (dB (iV 1) 0 q9)).2
def Az:az:=(cz uT (dB uT 0 lM)).2
theorem Bn:cH (iV 1) 0 q9=(dB (iV 1) 0 q9,0,uT):=yx (by unfold dg;rw[Vh (.inl rfl)]) (by decide+kernel)
theorem mW:cH uT 0 lM=(dB uT 0 lM,0,Az):=by
 refine yx ?_ (by decide+kernel);have e:uT.gr=[]:=by kernel_rfl
 unfold dg bh;rw[e];simp
theorem yO:uT.ok:=by
 have:=(ir (yF 1) (k:=0) (by decide) (a:=q9) ⟨by constructor<;>decide,by constructor<;>decide,by constructor<;>decide,by constructor<;>decide,by constructor<;>decide,by constructor<;>decide⟩).1;rw[Bn]at this;exact this
theorem Hv:lM.ok:=⟨by constructor<;>decide,by constructor<;>decide,by constructor<;>decide,by constructor<;>decide,by constructor<;>decide,by constructor<;>decide⟩
theorem GC:Az.ok:=by
 have:=(ir yO (k:=0) (by decide) (a:=lM) Hv).1;rw[mW]at this;exact this
theorem GD:jH Az.gr:=by
 have e:Az.gr=[((1,1),⟨1,1,1099511627777,4,0⟩)]:=by kernel_rfl
 rw[e];exact List.pairwise_singleton _ _
theorem JL:cH Az 0 lM=(Ev.zero,0,Az):=by
 have h:=rD yO (i:=0) (by decide) (a:=lM) (.inl rfl) (λh=>yw (.inl rfl) h) (by rw[mW];exact GD) (by rw[mW];exact GC) (by rw[mW]);rw[mW]at h;exact h
theorem JK{e:Ev}:iq (d9 (d9 (d9 cA.zero 1 q9 (dB (iV 1) 0 q9) 0) 1 lM (dB uT 0 lM) 0) 1 lM e 0) 1099511627777=(10,4,0):=by
 rw[rz (.inl rfl)];decide+kernel
def BK:eE:=⟨1,1,⟨1,0,0,10,0,0⟩,0,0,0,none,0,[]⟩
def sA:eE:=⟨1,1,⟨3,1099511627777,0,4,1,0⟩,0,0,0,none,0,[]⟩
theorem tR{H I A C3:aN}{K q o:Ev}{u r v:Int}(hF:oR H 1)(h1:Ih H BK I K u)(O:Ih I sA A q r)(h3:Ih A sA C3 o v):
  u=0/\r=0/\q.s=2/\o=Ev.zero/\v=0/\iq (d9 (d9 (d9 cA.zero 1 q9 K u) 1 lM q r) 1 lM o v) 1099511627777=(10,4,0):=by
 have one:∀{C h:aN} {x:eE} {E:Ev} {e:Int} {m:az} {n:Ev} {m':az},x.d=1->x.w=1->Ih C x h E e->(C.X 0).R.m=m->(C.X 0).dead=false->(C.p 0).dark=false->(C.p 0).burning=false->(C.s 0).l.length<=1000->cH m 0 x.ask=(n,0,m')->
   e=0/\E=n/\(h.X 0).R.m=m'/\(h.X 0).dead=false/\(h.p 0).dark=false/\(h.p 0).burning=false/\(h.s 0).l.length<=(C.s 0).l.length+99:=by
  intro C h x E e m n m' L hw hP hm j i f G hr;rcases(hP L).2 with⟨k,hk,α,hA⟩|⟨hn,-⟩
  ·obtain rfl:k=0:=by omega
   rcases hA with⟨hu,-⟩|⟨-,B⟩
   ·simp[aN.up,j,i]at hu
   ·rw[hm,hr]at B
    obtain⟨D,q2⟩:=B;rcases q2 with⟨z1,W,z3,Z,T,z6,Q⟩|⟨-,q3,q4⟩
    ·exact⟨z3,by rw[W];exact z1.symm,D,Z,T,by rw[Q];exact f,by rw[z6];omega⟩
    ·have z:=q4 f (by omega)
     rcases q3 with⟨-,y2,y3,y4,y5,y6⟩|⟨V,-⟩
     ·exact⟨z,y2,D,y3,y4,by rw[y5];exact f,y6⟩
     ·exact absurd z V
  ·omega
 obtain⟨f1,f2,f3,f4,f5⟩:=hF.pr 0 (by decide);obtain⟨J,a2,a3,a4,a5,a6,a7⟩:=one (x:=BK) rfl rfl h1 f1 f2 f3 f4 (by omega) Bn;obtain⟨b1,b2,U,b4,M,S,b7⟩:=one (x:=sA) rfl rfl O a3 a4 a5 a6 (by omega) mW;obtain⟨c1,c2,c3,c4,c5,c6,c7⟩:=one (x:=sA) rfl rfl h3 U b4 M S (by omega) JL;refine⟨J,b1,?_,c2,c1,?_⟩
 ·rw[b2];decide+kernel
 ·rw[J,b1,c1,a2,b2]
  exact JK
theorem Ga{m:az}{i:Nat}(h:(cH m i a).1≠Ev.zero):(cH m i a).2.1=0:=by
 unfold cH at h⊢;split<;>rename_i e
 ·rw[Vh e]at h;exact absurd rfl h
 ·rw[Vf e]at h
  split<;>rename_i f
  ·rfl
  ·rw[Vf f]at h;exact absurd rfl h
theorem zz{l u:aN}{x:eE}{E H:Ev}{I:Int}(L:∀k,k<6->(C.X k).R.m.ok)(W:∀k,k<6->jH (l.X k).R.m.gr)(T:x.ok)(B:x.d=1)(O:x.a.k=3\/x.a.k=4)(S:Ih C x l E 0)(M:Ih l x u H I):
  H=Ev.zero/\I=0/\pb u x.w=pb l x.w:=by
 rcases(S B).2 with⟨k,e,hw,⟨-,-,h⟩|⟨-,G,q2⟩⟩|⟨-,-,h⟩
 ·exact absurd h (by decide)
 ·have q:x.ask.k=3\/x.ask.k=4:=O
  have key:(cH (C.X k).R.m k x.ask).2.1=0/\(l.X k).dead=false/\(l.p k).dark=false:=by
   rcases q2 with⟨-,-,A,s,o,-⟩|⟨z,⟨-,-,s,o,-⟩|⟨v,-⟩,-⟩
   ·exact⟨A.symm,s,o⟩
   ·exact⟨Ga z,s,o⟩
   ·exact absurd rfl v
  obtain⟨Q,i,f⟩:=key;have r:l.up k=true:=by simp[aN.up,i,f]
  have K:=rD (L k e) e q (λh=>yw q h) (by rw[<-G];exact W k e) (ir (L k e) e T.ask).1 Q;rw[<-G]at K;rcases(M B).2 with⟨j,U,V,h⟩|⟨h,-⟩
  ·obtain rfl:j=k:=by omega
   rcases h with⟨h,-⟩|⟨-,J,D⟩
   ·rw[r]at h;cases h
   ·rw[K]at J D
    rcases D with⟨-,v,A,s,o,-⟩|⟨z,-⟩
    ·refine⟨v,A,?_⟩
     have Z:(x.w-1).toNat=j:=by omega
     have n:u.up j=true:=by simp[aN.up,s,o]
     unfold pb;rw[Z,r,n,J]
    ·exact absurd rfl z
  ·omega
 ·exact absurd h (by decide)
def sF(x:Sq):Array Yv:=#[.int .u8 x.s.d,.int .i64 x.s.w,.int .u8 x.s.a.k,.int .u64 x.s.a.n,.int .i64 x.s.a.t,.int .i64 x.s.a.a,.int .u64 x.s.a.r,.int .u64 x.s.a.f,.int .i64 x.s.k,.int .i64 x.s.j,.int .i64 x.s.n,.slice x.s.pa x.s.pk.length x.s.pc,.bool x.near,.int .u8 x.nd]
def kY(x:Sq)(N:List Nd):eE:=match N[x.nd.toNat%N.length]? with
 |some y=>if x.near then{x.s with a:={x.s.a with n:=y.id}}else x.s
 |none=>x.s
theorem FG(h:x.s.ok)(e:∀y∈N,xU y.id):(kY x N).ok:=by
 unfold kY;split
 ·rename_i y i
  split
  ·exact⟨h.d,h.w,⟨h.a.k,e y (Vn i),h.a.t,h.a.a,h.a.r,h.a.f⟩,h.k,h.j,h.n,h.pk⟩
  ·exact h
 ·exact h
theorem FH(h:x.s.At w)(N:List Nd):(kY x N).At w:=by
 unfold kY;split
 ·split
  ·exact h
  ·exact h
 ·exact h
theorem lW(x:eE):(bD x).all (·.oneCell')=true:=by simp[bD,Value.oneCell']
@[go_sem ↓ high] theorem GQ(ρ:Yx->Yv)(dst:Option Tmp)(x y:Yx)(ty:Yw)(pos:String)(after:Array Edge)(guard:Option (Nat×Bool)):execOp ρ {dst,op:=.store 45 x y,type:=ty,pos,after,guard}=eR 45 (ρ x) (ρ y):=by simp[execOp,eR]
theorem rP(x:eE)(w:Yu):∃e,(eR 45 (Yr w.heap.size) (.agg (bD x))).run prog (w.alloc (.cells #[.int .u8 0,.int .i64 0,.int .u8 0,.int .u64 0,.int .i64 0,.int .i64 0,.int .u64 0,.int .u64 0,.int .i64 0,.int .i64 0,.int .i64 0,.slice none 0 0] 45))=.ok .skip e/\ai e w.heap.size 45 (bD x)/\Ys w e:=by
 have B:ai (w.alloc (.cells #[.int .u8 0,.int .i64 0,.int .u8 0,.int .u64 0,.int .i64 0,.int .i64 0,.int .u64 0,.int .u64 0,.int .i64 0,.int .i64 0,.int .i64 0,.slice none 0 0] 45)) w.heap.size 45 #[.int .u8 0,.int .i64 0,.int .u8 0,.int .u64 0,.int .i64 0,.int .i64 0,.int .u64 0,.int .u64 0,.int .i64 0,.int .i64 0,.int .i64 0,.slice none 0 0]:=ai.new _ _ _;exact⟨_,bX B (fq x) rfl (lW x),ax B _,Below.rowN ((Vd _ _).alloc (Vc _) _) (Vc _) _⟩
theorem K8(h:ai w g t (sF x)):(dR 45 (Yr g)).run prog w=.ok (.value (.agg (bD x.s))) w:=
 aY (h.rngAt (o:=0) (n:=0) (bD x.s) λj v e=>by
  match j,e with
  |0,e=>exact e
  |1,e=>exact e
  |2,e=>exact e
  |3,e=>exact e
  |4,e=>exact e
  |5,e=>exact e
  |6,e=>exact e
  |7,e=>exact e
  |8,e=>exact e
  |9,e=>exact e
  |10,e=>exact e
  |11,e=>exact e
  |j+12,e=>simp[bD]at e) underlying45 rfl (fq _)
theorem JM(x:Sq)(B:U8 x.nd){vN vG:Yv}(hN:eM w base vN N):Yt 9 #[.agg (sF x),.agg (cy inn kn vN vG)] w λr w'=>r=.returned (.agg (bD (kY x N)))/\Ys w w':=by
 obtain⟨A,Q,rfl,ν,ε⟩:=hN.sl;have κ:Q<=9223372036854775807:=ε;obtain⟨i,I,B0,D0⟩:=SN w 47 (sF x) 38 (cy inn kn (.slice A N.length Q) vG) 45 #[.int .u8 0,.int .i64 0,.int .u8 0,.int .u64 0,.int .i64 0,.int .i64 0,.int .u64 0,.int .u64 0,.int .i64 0,.int .i64 0,.int .i64 0,.slice none 0 0];have Z:=K8 B0.drop.drop.head;obtain⟨D,M,B1,D1⟩:=rP x.s i;have f:=U9 (Vb B0 (Vb D0 (Vb B1 D1)));have HN:=U9 hN;have HW:=U9 I;clear B0 D0 B1 D1 hN I;go_enter func9,ntmps9;go_upto_region 1 with fail;generalize hg:((w.alloc _).alloc _).alloc _=X0;obtain rfl:i=X0:=HW.o.trans hg;clear HW hg;go_upto_region 2 with fail;have L:=f.o.1.drop.drop.head.call f.o.2.2.2;have R:=f.o.1.drop.head.call f.o.2.2.2;have J:=f.o.1.head.call f.o.2.2.2;have G:D.cell? ⟨w.heap.size,12,none⟩=some (.bool x.near):=L.cell 12;have ζ:D.cell? ⟨w.heap.size,13,none⟩=some (.int .u8 x.nd):=L.cell 13;have ι:D.cell? ⟨w.heap.size+1,18,none⟩=some (.slice A N.length Q):=R.cell 18;have f1:=L.frozen;have f2:=R.frozen;have l1:=L.lt;have l2:=R.lt;have δ:=fB f.o.2.2.1;have H:=bX (P:=prog) (ty:=45) J (fq x.s) rfl (lW x.s);have z:=U9 (Vb (ax J (bD x.s)) (Below.rowN (f.o.2.1.trans (f.o.2.2.2.mono f.o.2.1.size)) (g:=w.heap.size+2) (by omega) (bD x.s)));have lb:=f.o.2.2.1.lt;have lr:=J.lt;have fr:=J.frozen;clear L R J M Z;cases k:x.near with
 |false=>
  have e:kY x N=x.s:=by unfold kY;split<;>simp[k]
  rw[k]at G;go_wp2_with fail;exact aE (s:=4) results9 rfl z.o.1 underlying45 rfl (fq _) rfl ⟨by first|rfl|rw[e],z.o.2⟩
 |true=>
  rw[k]at G;by_cases O:0<N.length
  ·have hd:decide ((0:Int)<N.length)=true:=Vg (by omega)
   clear H z;obtain⟨j,S⟩:∃j,x.nd.toNat%N.length=j:=⟨_,rfl⟩;have α:j<N.length:=S▸Nat.mod_lt _ O;obtain⟨y,hy⟩:∃y,N[j]? =some y:=⟨N[j],Ve α⟩;have e:kY x N={x.s with a:={x.s.a with n:=y.id}}:=by unfold kY;rw[S,hy];simp[k]
   have e1:IntKind.i64.wrap x.nd=x.nd:=VE _ (by have:=B.1;have:=B.2;omega);have e2:Int.tmod x.nd (N.length:Int)=(j:Int):=by
    obtain⟨d,hd⟩:∃d:Nat,x.nd=d:=⟨x.nd.toNat,by have:=B.1;omega⟩;rw[hd]at S⊢;rw[<-S];simp[Int.tmod]
   obtain⟨g,cap,hs,-,-,-,θ⟩:=HN.o.sl_pos O;obtain⟨rfl,-⟩:A=some ⟨g,0,none⟩/\Q=cap:=by injection hs with a b c;exact⟨a,c⟩
   have K:=(Row.call (Row.call HN.o f.o.2.1) f.o.2.2.2).rng eJ hy;have β:D.cell? ⟨g,j*56,none⟩=some (.int .u64 y.id):=by simpa using K 0 _ (Cv y)
   have lg:g<D.heap.size:=Vq θ (Vi f.o.2.1.size f.o.2.2.2.size);have HF:=U9 (λ(Y:Yu) (v:Ys D Y)=>Vb ((v.cell (p:=⟨w.heap.size,13,none⟩) l1).trans ζ) (Vb ((v.cell (p:=⟨w.heap.size+1,18,none⟩) l2).trans ι) (Vb ((v.cell (p:=⟨g,j*56,none⟩) lg).trans β) (Vb (Vq l1 v.size) (Vb (Vq l2 v.size) (Vq lg v.size))))));have a0:(0:Int)<=(j:Int):=by omega
   have a1:(j:Int)<(N.length:Int):=by omega
   have η:N≠[]:=λh=>by rw[h]at O;simp at O
   have a2:((N.length:Int)==0)=false:=by rw[Vz];omega
   clear K hs;go_upto_region 3 with fail;refine aP 14 (by kernel_rfl) (by simp) (by decide+kernel) (by decide+kernel) (by decide+kernel) (by decide+kernel) ?_;simp only[U4,U5,U6,U7]
   iterate 14
    first
    |refine dx rfl ?_;apply aA
     ·intro _ ρ γ V T W v;have hq:=HF.o W v;simp[execOp,go_sem,γ,V,T,hq,e1,e2,a0,a1,a2,η]<;>exact rfl
    |refine aw (λ_=>rfl) ?_
    |refine iv (λ_=>rfl) ?_;apply aA
     ·intro _ W v;have hq:=HF.o W v;simp[execOp,go_sem,hq,e1,e2,a0,a1,a2,η]<;>exact rfl
    simp only[UW,UX,UY,UZ]
   refine aH ?_;intro _ E l _;have b1:=f.o.2.2.1.call l;have r1:=(f.o.1.head.call f.o.2.2.2).call l;have c3:E.cell? ⟨i.heap.size,3,none⟩=some (.int .u64 x.s.a.n):=b1.cell 3;have f3:=b1.frozen;have l3:=b1.lt;have b2:ai (E.setCell ⟨i.heap.size,3,none⟩ (.int .u64 y.id)) i.heap.size 45 (bD {x.s with a:={x.s.a with n:=y.id}}):=b1.set_ 3 (.int .u64 y.id);have X:ah (cj i.heap.size) E (E.setCell ⟨i.heap.size,3,none⟩ (.int .u64 y.id)):=ah.set ⟨i.heap.size,3,none⟩ (show cj i.heap.size i.heap.size from rfl) _;have U:=f.o.1.head.lt;have r2:=X.blk r1 λe=>by have e:w.heap.size+2=i.heap.size:=e;omega
   have d2:Ys w (E.setCell ⟨i.heap.size,3,none⟩ (.int .u64 y.id)):=(f.o.2.1.trans (f.o.2.2.2.mono f.o.2.1.size)).trans ((l.mono (Vi f.o.2.1.size f.o.2.2.2.size)).trans (X.belowC (Vi f.o.2.1.size (Vi f.o.2.2.2.size l.size)) λq hq e=>by have e:q=i.heap.size:=e;have:=f.o.2.1.size;omega));have u:=U9 (Vb b2 (Vb r2 d2));clear b2 X r2 d2 HF b1 r1 δ lb lr fr U;go_upto_region 4 with fail;generalize World.setCell E _ _=W3 at u⊢;have μ:=fB u.o.1;have H:=bX (P:=prog) (ty:=45) u.o.2.1 (fq {x.s with a:={x.s.a with n:=y.id}}) rfl (lW _);have z:=U9 (Vb (ax u.o.2.1 (bD {x.s with a:={x.s.a with n:=y.id}})) (Below.rowN u.o.2.2 (g:=w.heap.size+2) (by omega) (bD {x.s with a:={x.s.a with n:=y.id}})));have lb:=u.o.1.lt;have fb:=u.o.1.frozen;have lr:=u.o.2.1.lt;have fr:=u.o.2.1.frozen;go_wp2_with fail;exact aE (s:=4) results9 rfl z.o.1 underlying45 rfl (fq _) rfl ⟨by first|rfl|rw[e],z.o.2⟩
  ·obtain rfl:N=[]:=VM (by omega)
   have e:kY x []=x.s:=by simp[kY]
   go_wp2_with fail;exact aE (s:=4) results9 rfl z.o.1 underlying45 rfl (fq _) rfl ⟨by first|rfl|rw[e],z.o.2⟩
def Cp:List Yv->Bool
 |[.bool _]=>true
 |_=>false
def Co:List Yv->Bool
 |[.int _ _]=>true
 |_=>false
def iR(P:Program):Nat->Yw->List Yv->Bool
 |0,_,_=>false
 |d+1,t,cs=>match P.underlying t with
  |some .bool=>Cp cs
  |some (.int _)=>Co cs
  |some (.array n e)=>cs.length==P.cellsOf t&&(P.info? e).isSome&&(List.range n).all λi=>iR P d e ((cs.drop (i*P.cellsOf e)).take (P.cellsOf e))
  |some (.struct fs)=>cs.length==P.cellsOf t&& !P.stoodInHeld t&&fs.toList.all λf=>iR P d f.type ((cs.drop f.offset).take (P.cellsOf f.type))
  |_=>false
theorem ux{cs:List Yv}(h:Cp cs=true):∃b,cs=[.bool b]:=by
 unfold Cp at h;split at h
 ·exact⟨_,rfl⟩
 ·cases h
theorem uw{cs:List Yv}(h:Co cs=true):∃k n,cs=[.int k n]:=by
 unfold Co at h;split at h
 ·exact⟨_,_,rfl⟩
 ·cases h
def jg(P:Program)(t:Yw)(cs:List Yv):Yv:=match P.underlying t with
 |some (.array _ _)=>.agg cs.toArray
 |some (.struct _)=>.agg cs.toArray
 |_=>cs.headD undef
section
variable{P:Program}
theorem rG{e:Yw}{xs:Array Yv}{off:Nat}(h:iR P d e ((xs.toList.drop off).take (P.cellsOf e))=true)(w:Yu):
  (part e xs off).run P w=.ok (jg P e ((xs.toList.drop off).take (P.cellsOf e))) w:=by
 have one:∀v,(xs.toList.drop off).take (P.cellsOf e)=[v]->xs[off]? =some v:=λv o=>by
  have:((xs.toList.drop off).take (P.cellsOf e))[0]? =some v:=by rw[o];rfl
  rw[VU]at this;split at this
  ·rw[Wb]at this
   simpa using this
  ·cases this
 have ext:(xs.extract off (off+P.cellsOf e))=((xs.toList.drop off).take (P.cellsOf e)).toArray:=by
  apply Array.toList_inj.1;rw[Array.toList_extract];simp[List.extract]
 cases d with
 |zero=>simp[iR]at h
 |succ d=>
  unfold iR at h;cases f:P.underlying e with
  |none=>simp[f]at h
  |some k=>
   obtain⟨i,l⟩:=info_of_underlying f;unfold jg;rw[f]at h⊢;cases k with
   |array n e'=>simp only;rw[<-ext];simp[part,isAgg,VD f,run_sizeOf w l]
   |struct fs=>simp only;rw[<-ext];simp[part,isAgg,VD f,run_sizeOf w l]
   |bool=>
    obtain⟨b,j⟩:=ux h;simp only;rw[j];exact run_part_plain w (by simp[Program.plainKey,f]) (one _ j)
   |int q=>
    obtain⟨k,b,j⟩:=uw h;simp only;rw[j];exact run_part_plain w (by simp[Program.plainKey,f]) (one _ j)
   |_=>simp at h
theorem lJ:∀(d:Nat) (t:Yw) (cs:List Yv),iR P d t cs=true->∀(k:Nat) (w:Yu),(Op.equalIn (k+d) t (jg P t cs) (jg P t cs)).run P w=.ok true w
 |0,_,_,h,_,_=>by simp[iR]at h
 |d+1,t,cs,h,k,w=>by
  unfold iR at h;cases s:P.underlying t with
  |none=>simp[s]at h
  |some q=>
   obtain⟨i,E⟩:=info_of_underlying s;unfold jg;rw[s]at h⊢;cases q with
   |bool=>
    obtain⟨b,rfl⟩:=ux h;simp only[List.headD_cons];rw[<-VO,run_equalIn_bool' w (k+d) t _ _ s];simp
   |int kk=>
    obtain⟨q,b,rfl⟩:=uw h;simp only[List.headD_cons];rw[<-VO,Xy w (k+d) t _ kk _ _ s];simp
   |array n e=>
    simp only[Vo,Xg]at h⊢;obtain⟨⟨H,B⟩,o⟩:=h;obtain⟨j,G⟩:=V6.1 B;rw[<-VO,run_equalIn_array w (k+d) _ _ s G];have A:∀l:List Nat,(∀i∈l,iR P d e ((cs.drop (i*P.cellsOf e)).take (P.cellsOf e))=true)->(Op.eqItems (k+d) e (P.cellsOf e) cs.toArray cs.toArray l).run P w=.ok true w:=by
     intro l
     induction l with
     |nil=>intro _;simp[Op.eqItems]
     |cons f l ih=>
      intro u;have v:=u f Vp;have p:=rG (xs:=cs.toArray) (off:=f*P.cellsOf e) (by simpa using v) w;have q:=lJ d e _ v k w;have r:=ih λg D=>u g (VA _ D)
      simp only[Op.eqItems,Wu,p,q,V2,Bool.not_true,V5,Xq];exact r
    exact A (List.range n) λi E=>Wl.1 o i E
   |struct fs=>
    simp only[Vo,Xg,Yk]at h⊢;obtain⟨⟨H,B⟩,o⟩:=h;have z:P.fieldsOf t=fs:=by simp[Program.fieldsOf,s]
    rw[<-VO,run_equalIn_struct w (k+d) t _ _ (by rw[z];exact s) B,z];have A:∀l:List Field,(∀f∈l,iR P d f.type ((cs.drop f.offset).take (P.cellsOf f.type))=true)->(Op.eqFields (k+d) cs.toArray cs.toArray l).run P w=.ok true w:=by
     intro l
     induction l with
     |nil=>intro _;simp[Op.eqFields]
     |cons f l ih=>
      intro u;have v:=u f Vp;have p:=rG (xs:=cs.toArray) (off:=f.offset) (by simpa using v) w;have q:=lJ d f.type _ v k w;have r:=ih λg D=>u g (VA _ D)
      simp only[Op.eqFields];split
      ·simp only[Wu,p,q,V2,Bool.not_true,V5,Xq]
       exact r
      ·exact r
    exact A fs.toList λf u=>Wl.1 o f u
   |_=>simp at h
theorem rV(h:iR P d t cs.toList=true)(f:(match P.underlying t with|some (.array _ _)|some (.struct _)=>true|_=>false)=true)(i:d<=10000)(w:Yu):(Op.equal t (.agg cs) (.agg cs)).run P w=.ok true w:=by
 have e:=lJ d t cs.toList h (10000-d) w;rw[show 10000-d+d=Op.maxDepth from by unfold Op.maxDepth;omega]at e;have o:jg P t cs.toList=.agg cs:=by
  unfold jg;split at f
  ·simp
  ·simp
  ·cases f
 rw[o]at e;exact e
def jQ(t:Yw)(x y:Yx)(u v:Yv):Sem Next:=do pure (.value (<-(do eqGuard .neq t x y u v;binOp .neq t u v)))
theorem jO(h:iR P d t cs.toList=true)(i:(match P.underlying t with|some (.array _ _)|some (.struct _)=>true|_=>false)=true)(f:d<=10000)(j:P.eqGuardType P.depth t=false)(x y:Yx)(w:Yu):(jQ t x y (.agg cs) (.agg cs)).run P w=.ok (.value (.bool false)) w:=by
 have e:=rV h i f w;unfold jQ;simp[run_eqGuard_agg _ _ _ _ _ _ _ j,binOp,e]
end
section
variable(ρ:Yx->Yv)(dst:Option Tmp)(x y:Yx)(ty:Yw)(pos:String)(after:Array Edge)(guard:Option (Nat×Bool))(w:Yu)
@[go_sem ↓ high] theorem IQ:execOp ρ {dst,op:=.binOp .neq 82 x y 82,type:=ty,pos,after,guard}=jQ 82 x y (ρ x) (ρ y):=by simp[execOp,jQ]
@[go_sem ↓ high] theorem IR:execOp ρ {dst,op:=.binOp .neq 85 x y 85,type:=ty,pos,after,guard}=jQ 85 x y (ρ x) (ρ y):=by simp[execOp,jQ]
@[go_sem ↓ high] theorem IS:execOp ρ {dst,op:=.binOp .neq 31 x y 31,type:=ty,pos,after,guard}=jQ 31 x y (ρ x) (ρ y):=by simp[execOp,jQ]
@[go_sem ↓ high] theorem IP:execOp ρ {dst,op:=.binOp .neq 34 x y 34,type:=ty,pos,after,guard}=jQ 34 x y (ρ x) (ρ y):=by simp[execOp,jQ]
@[go_sem ↓ high] theorem GV:execOp ρ {dst,op:=.load 34 x,type:=ty,pos,after,guard}=dR 34 (ρ x):=by simp[execOp,dR]
@[go_sem] theorem QT(z:Nd):(jQ 82 x y (.agg (jG z)) (.agg (jG z))).run prog w=.ok (.value (.bool false)) w:=jO (d:=8) (by kernel_rfl) (by kernel_rfl) (by decide) (by kernel_rfl) x y w
@[go_sem] theorem QY(z:gF):(jQ 85 x y (.agg (eu z)) (.agg (eu z))).run prog w=.ok (.value (.bool false)) w:=jO (d:=8) (by kernel_rfl) (by kernel_rfl) (by decide) (by kernel_rfl) x y w
@[go_sem] theorem Q2(a b c d e f:Bool):(jQ 31 x y (.agg #[.bool a,.bool b,.bool c,.bool d,.bool e,.bool f]) (.agg #[.bool a,.bool b,.bool c,.bool d,.bool e,.bool f])).run prog w=.ok (.value (.bool false)) w:=jO (d:=8) (by kernel_rfl) (by kernel_rfl) (by decide) (by kernel_rfl) x y w
@[go_sem] theorem QI(v:av):(jQ 34 x y (.agg (aq v)) (.agg (aq v))).run prog w=.ok (.value (.bool false)) w:=jO (d:=8) (by kernel_rfl) (by kernel_rfl) (by decide) (by kernel_rfl) x y w
end
theorem Dl{x y:Yv}(h:ai w g 38 (cy inn kn x y)):(dR 31 (.pointer (some ⟨g,6,none⟩))).run prog w=.ok (.value (.agg #[.bool (inn 6),.bool (inn 7),.bool (inn 8),.bool (inn 9),.bool (inn 10),.bool (inn 11)])) w:=by
 refine aY (h.rngAt (o:=6) (n:=0) #[.bool (inn 6),.bool (inn 7),.bool (inn 8),.bool (inn 9),.bool (inn 10),.bool (inn 11)] λj v e=>?_) underlying31 rfl (by show _=some 6;kernel_rfl)
 match j,e with
 |0,e=>exact e
 |1,e=>exact e
 |2,e=>exact e
 |3,e=>exact e
 |4,e=>exact e
 |5,e=>exact e
 |j+6,e=>simp at e
def Em(t:Yw)(x y:Yx)(u v:Yv):Sem Next:=do pure (.value (<-(do eqGuard .eql t x y u v;binOp .eql t u v)))
theorem Ca{P:Program}(h:iR P d t cs.toList=true)(i:(match P.underlying t with|some (.array _ _)|some (.struct _)=>true|_=>false)=true)(f:d<=10000)(j:P.eqGuardType P.depth t=false)(x y:Yx)(w:Yu):(Em t x y (.agg cs) (.agg cs)).run P w=.ok (.value (.bool true)) w:=by
 have e:=rV h i f w;unfold Em;simp[run_eqGuard_agg _ _ _ _ _ _ _ j,binOp,e]
section
variable(ρ:Yx->Yv)(dst:Option Tmp)(x y:Yx)(ty:Yw)(pos:String)(after:Array Edge)(guard:Option (Nat×Bool))(w:Yu)
@[go_sem ↓ high] theorem Ja:execOp ρ {dst,op:=.binOp .eql 55 x y 55,type:=ty,pos,after,guard}=Em 55 x y (ρ x) (ρ y):=by simp[execOp,Em]
@[go_sem ↓ high] theorem IT:execOp ρ {dst,op:=.binOp .neq 55 x y 55,type:=ty,pos,after,guard}=jQ 55 x y (ρ x) (ρ y):=by simp[execOp,jQ]
def MU:Sem Next:=execOp (fun _=>undef) {dst:=none,op:=.build 55 #[],type:=55,pos:= "",after:=#[],guard:=none}
@[go_sem ↓ high] theorem Jn:execOp ρ {dst,op:=.build 55 #[],type:=ty,pos,after,guard}=MU:=by simp[execOp,MU]
@[go_sem] theorem Of:MU.run prog w=.ok (.value (.agg (dC Ev.zero 0))) w:=by kernel_rfl
@[go_sem] theorem Q4:(Em 55 x y (.agg (dC Ev.zero 0)) (.agg (dC Ev.zero 0))).run prog w=.ok (.value (.bool true)) w:=Ca (d:=8) (by kernel_rfl) (by kernel_rfl) (by decide) (by kernel_rfl) x y w
@[go_sem] theorem Qi:(jQ 55 x y (.agg (dC Ev.zero 0)) (.agg (dC Ev.zero 0))).run prog w=.ok (.value (.bool false)) w:=jO (d:=8) (by kernel_rfl) (by kernel_rfl) (by decide) (by kernel_rfl) x y w
end
theorem j4(E:Ev)(e:Int)(w:Yu):∃f,(eR 55 (Yr w.heap.size) (.agg (dC E e))).run prog (w.alloc (.cells #[.int .i64 0,.int .u64 0,.int .u64 0,.int .u64 0,.int .u64 0,.int .u64 0,.int .u64 0,.int .u64 0,.int .u8 0,.int .u64 0,.int .i64 0,.int .i64 0,.int .u64 0,.int .u64 0,.int .i64 0] 55))=.ok .skip f/\ai f w.heap.size 55 (dC E e)/\Ys w f:=by
 have B:ai (w.alloc (.cells #[.int .i64 0,.int .u64 0,.int .u64 0,.int .u64 0,.int .u64 0,.int .u64 0,.int .u64 0,.int .u64 0,.int .u8 0,.int .u64 0,.int .i64 0,.int .i64 0,.int .u64 0,.int .u64 0,.int .i64 0] 55)) w.heap.size 55 #[.int .i64 0,.int .u64 0,.int .u64 0,.int .u64 0,.int .u64 0,.int .u64 0,.int .u64 0,.int .u64 0,.int .u8 0,.int .u64 0,.int .i64 0,.int .i64 0,.int .u64 0,.int .u64 0,.int .i64 0]:=ai.new _ _ _;exact⟨_,cO B rfl E e,ax B _,Below.rowN ((Vd _ _).alloc (Vc _) _) (Vc _) _⟩
theorem i7.inh{N:Nat}{B:jI}(h:i7 w0 w g c C N B m):∀q,Fb c C B g q->q<w.heap.size:=λq hq=>by
 rcases hq with rfl|hq|hq
 ·exact h.blk.lt
 ·exact h.cl.inh q hq
 ·exact h.au.inh q hq
theorem i7.old{N:Nat}{B:jI}(h:i7 w0 w g c C N B m):∀q,Fb c C B g q->w0.heap.size<=q:=λq hq=>by
 rcases hq with rfl|hq|hq
 ·exact h.gb
 ·exact h.cl.base q hq
 ·exact h.ab q hq
theorem BG(hT:dh w)(hK:1<w.heap.size/\0<w.heap.size):Yt 5 #[] w λr w'=>r=.returned (.bool true)/\Ys w w':=by
 have CN:=U9 (Im (w:=w) (n:=1) (by decide) (by decide) hT);have K:=U9 (Vb hT hK);clear hT hK;have o1:BK.ok:=⟨by constructor<;>decide,by constructor<;>decide,⟨by constructor<;>decide,by constructor<;>decide,by constructor<;>decide,by constructor<;>decide,by constructor<;>decide,by constructor<;>decide⟩,by constructor<;>decide,by constructor<;>decide,by constructor<;>decide,λ_ h=>by cases h⟩;have o2:sA.ok:=⟨by constructor<;>decide,by constructor<;>decide,⟨by constructor<;>decide,by constructor<;>decide,by constructor<;>decide,by constructor<;>decide,by constructor<;>decide,by constructor<;>decide⟩,by constructor<;>decide,by constructor<;>decide,by constructor<;>decide,λ_ h=>by cases h⟩;have a1:∀W,BK.At W:=λW=>⟨⟨rfl,λh=>absurd h (Yp 0)⟩,by decide,by decide⟩
 have a2:∀W,sA.At W:=λW=>⟨⟨rfl,λh=>absurd h (Yp 0)⟩,by decide,by decide⟩
 have HO:=U9 (Vb o1 (Vb o2 (Vb a1 a2)));clear o1 o2 a1 a2;go_enter func5,ntmps5;go_wp2_with fail;refine CN.o.mono ?_;rintro r W1 ⟨g,c,C0,B,rfl,h0,hF,H⟩;have CD:=U9 (Bo h0 ⟨by decide,by decide⟩ (K.o.1.call' H) K.o.2 HO.o.1 (HO.o.2.2.1 W1));have H0:=U9 (Vb hF (Vb H h0));clear h0 hF H CN;go_upto_region 4 with fail;go_wp2_with fail;refine CD.o.mono ?_;rintro r J ⟨E1,e1,C1,rfl,L,M1,P1,-,S1⟩;rw[Vh (show BK.d=1 from rfl)]at L;replace L:i7 w J g c C1 (50000+64) B (d9 cA.zero 1 q9 E1 e1):=L;obtain⟨M,v,B3,D3⟩:=j4 E1 e1 J;obtain⟨W4,i,R,D4⟩:=rP sA M;replace i:(eR 45 (Yr M.heap.size) (.agg #[.int .u8 1,.int .i64 1,.int .u8 3,.int .u64 1099511627777,.int .i64 0,.int .i64 4,.int .u64 1,.int .u64 0,.int .i64 0,.int .i64 0,.int .i64 0,.slice none 0 0])).run prog (M.alloc (.cells #[.int .u8 0,.int .i64 0,.int .u8 0,.int .u64 0,.int .i64 0,.int .i64 0,.int .u64 0,.int .u64 0,.int .i64 0,.int .i64 0,.int .i64 0,.slice none 0 0] 45))=.ok .skip W4:=i;have z:=H0.o.2.1.trans (M1.belowC H0.o.2.1.size λq hq hF=>by have:=H0.o.2.2.old q hF;omega);have j:=D3.trans (D4.mono D3.size);have h4:=L.call j;have G:=z.trans (j.mono z.size);have b4:=B3.call D4;have u:=fB R;have l4:=R.lt;have f4:=R.frozen;have e3:J.heap.size<M.heap.size:=B3.lt;have V:=U9 (Bo h4 ⟨by decide,by decide⟩ (K.o.1.call' G) K.o.2 HO.o.2.1 (HO.o.2.2.2 W4));have e:=U9 (Vb h4 (Vb G (Vb b4 (Vb R (Vb (λq (hq:Fb c C1 B g q)=>L.inh q hq) (Vb j e3))))));have β:=U9 P1;clear L M1 P1 S1 B3 D3 R D4 z j h4 G b4 CD e3;go_upto_region 6 with fail;go_wp2_with fail;refine V.o.mono ?_;rintro r Q ⟨E2,e2,C2,rfl,k,M5,P5,-,S5⟩;rw[Vh (show sA.d=1 from rfl)]at k;replace k:i7 w Q g c C2 (50000+64+64) B (d9 (d9 cA.zero 1 q9 E1 e1) 1 lM E2 e2):=k;obtain⟨W6,v,B6,X⟩:=j4 E2 e2 Q;have S:∀q,J.heap.size<=q->¬Fb c C1 B g q:=λq hq hF=>by have:=e.o.2.2.2.2.1 q hF;omega
 have s3:=e.o.2.2.2.2.2.2;have x3:=(M5.blk e.o.2.2.1 (S _ (Vc _))).call X;have x4:=(M5.blk e.o.2.2.2.1 (S _ (Nat.le_of_lt s3))).call X;have D:=e.o.2.1.trans (M5.belowC e.o.2.1.size λq hq hF=>by have:=e.o.1.old q hF;omega);have h6:=k.call X;have A:=D.trans (X.mono D.size);have n5:∀q,(q=J.heap.size\/q=M.heap.size\/q=Q.heap.size)->¬Fb c C2 B g q:=λq hq hF=>by
  have l1:=e.o.2.2.1.lt;have l2:=e.o.2.2.2.1.lt;rcases hF with hF|hF|hF
  ·have:=e.o.2.2.2.2.1 g (.inl rfl);have:=k.inh g (.inl rfl);omega
  ·rcases hq with hq|hq|hq
   ·rcases S5 q hF with h|h
    ·exact S q (by omega) (.inr (.inl h))
    ·omega
   ·rcases S5 q hF with h|h
    ·exact S q (by omega) (.inr (.inl h))
    ·omega
   ·have:=k.inh q (.inr (.inl hF));omega
  ·have:=e.o.2.2.2.2.1 q (.inr (.inr hF));have:=k.inh q (.inr (.inr hF));omega
 have u:=fB x4;have l4:=x4.lt;have f4:=x4.frozen;have T:=U9 (Bo h6 ⟨by decide,by decide⟩ (K.o.1.call' A) K.o.2 HO.o.2.1 (HO.o.2.2.2 W6));have s:=U9 (Vb h6 (Vb A (Vb x3 (Vb B6 n5))));have α:=U9 P5;clear k M5 P5 S5 B6 X S s3 x3 x4 D h6 A n5 V i;go_upto_region 7 with fail;go_wp2_with fail;refine T.o.mono ?_;rintro r W7 ⟨E3,e3,C3,rfl,U,Z,P7,-,-⟩;rw[Vh (show sA.d=1 from rfl)]at U;replace U:i7 w W7 g c C3 (50000+64+64+64) B (d9 (d9 (d9 cA.zero 1 q9 E1 e1) 1 lM E2 e2) 1 lM E3 e3):=U;obtain⟨r1,r2,r3,r4,r5,r6⟩:=tR H0.o.1 β.o α.o P7;subst r1 r2 r4 r5;obtain⟨W8,v,B8,O⟩:=j4 Ev.zero 0 W7;have x3:=(Z.blk s.o.2.2.1 (s.o.2.2.2.2 _ (.inl rfl))).call O;have l:=(Z.blk s.o.2.2.2.1 (s.o.2.2.2.2 _ (.inr (.inr rfl)))).call O;have E:=s.o.2.1.trans (Z.belowC s.o.2.1.size λq hq hF=>by have:=s.o.1.old q hF;omega);have CS:=U9 (wt (U.call O) (id:=1099511627777) (by constructor<;>decide));rw[r6]at CS;have I:=U9 (Vb (E.trans (O.mono E.size)) (Vb x3 (Vb l (Vb B8 r3))));clear U Z P7 B8 O x3 l E T r6 r3 u l4 f4;go_upto_region 8 with fail;go_wp2_with fail;refine CS.o.mono ?_;rintro r W9 ⟨rfl,f⟩;have x3:=I.o.2.1.call f;have l:=I.o.2.2.1.call f;have x6:=I.o.2.2.2.1.call f;have c3:W9.cell? ⟨J.heap.size,14,none⟩=some (.int .i64 0):=x3.cell 14;have c5:W9.cell? ⟨Q.heap.size,14,none⟩=some (.int .i64 0):=l.cell 14;have d5:W9.cell? ⟨Q.heap.size,1,none⟩=some (.int .u64 2):=by rw[l.cell 1,<-I.o.2.2.2.2];rfl
 have u:=uW x6;have f3:=x3.frozen;have f5:=l.frozen;have l3:=x3.lt;have l5:=l.lt;have l6:=x6.lt;have HE:=U9 (I.o.1.trans (f.mono I.o.1.size));clear x3 l x6 f CS v;go_wp2_with fail;go_ret;exact⟨rfl,HE.o⟩
structure Te(w:Yu)(g:Nat)(x1 x2 x3 x4:Yv):Prop where
 c1:w.cell? ⟨g,18,none⟩=some x1
 c2:w.cell? ⟨g,19,none⟩=some x2
 c3:w.cell? ⟨g+1,18,none⟩=some x3
 c4:w.cell? ⟨g+1,19,none⟩=some x4
 f1:∀i,w.frozen? ⟨g,i,none⟩=false
 f2:∀i,w.frozen? ⟨g+1,i,none⟩=false
 l1:g<w.heap.size
 l2:g+1<w.heap.size
theorem Te.of{e:Nat->Bool}{f:av}{x1 x2 x3 h:Yv}(a:ai w g t (cy inn kn x1 x2))(b:ai w (g+1) t (cy e f x3 h)):Te w g x1 x2 x3 h:=
 ⟨a.cell 18,a.cell 19,b.cell 18,b.cell 19,a.frozen,b.frozen,a.lt,b.lt⟩
theorem J6{vN vG uN uG:Yv}{b1 b2:Nat}{G:List gF}(h1:eM w b1 vN N)(h2:iH w b1 vG G)(h3:eM w b2 uN N)(h4:iH w b2 uG G):
  Yt 12 #[.agg (cy inn kn vN vG),.agg (cy inn kn uN uG)] w λr w'=>r=.returned (.bool true)/\Ys w w':=by
 obtain⟨A1,T,rfl,p1,p2⟩:=h1.sl;obtain⟨A2,O,rfl,p3,p4⟩:=h2.sl;obtain⟨A3,X,rfl,p5,p6⟩:=h3.sl;obtain⟨A4,M,rfl,p7,p8⟩:=h4.sl;obtain⟨l,R,J,H⟩:=qy w 38 (cy inn kn (.slice A1 N.length T) (.slice A2 G.length O)) 38 (cy inn kn (.slice A3 N.length X) (.slice A4 G.length M));have HW:=U9 R;have I:=U9 (Vb H (Vb (Row.call h1 H) (Vb (Row.call h2 H) (Vb (Row.call h3 H) (Row.call h4 H)))));have k:=U9 (Vb J.drop.head J.head);obtain⟨q1,f1,q0,f0,-⟩:=J.rules;clear q1 q0;obtain⟨l1,l0,-⟩:=J.lts;clear h1 h2 h3 h4 J H R;go_enter func12,ntmps12;go_upto_region 1 with fail;generalize hg:(w.alloc _).alloc _=X0;obtain rfl:l=X0:=HW.o.trans hg;clear HW hg;have s1:=k.o.1;have s2:=k.o.2;have b1:=Dm s1;have b2:=Dm s2;have b3:=Dl s1;have b4:=Dl s2;have b5:=yP s1;have b6:=yP s2;have c1:l.cell? ⟨w.heap.size,18,none⟩=_:=s1.cell 18;have K:l.cell? ⟨w.heap.size,19,none⟩=_:=s1.cell 19;have Q:l.cell? ⟨w.heap.size+1,18,none⟩=_:=s2.cell 18;have S:l.cell? ⟨w.heap.size+1,19,none⟩=_:=s2.cell 19;clear s1 s2;simp only[BQ,BP]at c1 K Q S;have HS:=U9 (λ(Y:Yu) (f:Ys l Y)=>Te.of (k.o.1.call f) (k.o.2.call f));have HI:=U9 (Vb p1 (Vb p2 (Vb p3 (Vb p4 (Vb p5 (Vb p6 (Vb p7 p8)))))));clear p1 p2 p3 p4 p5 p6 p7 p8;go_wp2_with fail
 go_loopw [5] (λi wr=>∃j:Nat,j<=N.length/\i=.int .i64 j/\Ys l wr) (λi _=>N.length-(intOf i).toNat)
 case atStart=>exact⟨0,by omega,rfl,Vd _ _⟩
 case round=>
  obtain⟨j,hj,rfl,f⟩:=hrel;clear b1 b2 b3 b4 b5 b6 c1 K Q S f0 f1 l0 l1;have h:=U9 f;have hs:=HS.o wr f;obtain⟨c1,K,Q,S,f1,f2,l1,l2⟩:=hs;have m1:=HI.o.1;have m2:=HI.o.2.1;have γ:maxLen<=9223372036854775807:=by decide
  by_cases s:j<N.length
  ·have hd:decide ((j:Int)<N.length)=true:=Vg (by omega)
   obtain⟨y,v⟩:∃y,N[j]? =some y:=⟨N[j],Ve s⟩;have D:=Row.call I.o.2.1 f;have B:=Row.call I.o.2.2.2.1 f;obtain⟨U,k1,L,-,-,-,β⟩:=D.sl_pos (by omega);obtain⟨rfl,-⟩:A1=some ⟨U,0,none⟩/\T=k1:=by injection L with a b c;exact⟨a,c⟩
   obtain⟨Z,k3,V,-,-,-,α⟩:=B.sl_pos (by omega);obtain⟨rfl,-⟩:A3=some ⟨Z,0,none⟩/\X=k3:=by injection V with a b c;exact⟨a,c⟩
   have HF:=U9 (λ(Y:Yu) (u:Ys wr Y)=>Vb (HS.o Y (h.o.trans (u.mono h.o.size))) (Vb (show(dR 82 (.pointer (some ⟨U,j*56,none⟩))).run prog Y=.ok (.value (.agg (jG y))) Y by
    have:=aY (P:=prog) ((Row.call D u).rng eJ v) underlying82 rfl (ki y);simpa using this) (show(dR 82 (.pointer (some ⟨Z,j*56,none⟩))).run prog Y=.ok (.value (.agg (jG y))) Y by
    have:=aY (P:=prog) ((Row.call B u).rng eJ v) underlying82 rfl (ki y);simpa using this)))
   have a0:(0:Int)<=(j:Int):=by omega
   have a1:(j:Int)<(N.length:Int):=by omega
   clear D B L V v f;go_upto_region 6 with fail;refine bS (by kernel_rfl) (by kernel_rfl) ?_
   iterate 11
    first
    |refine dx rfl ?_;apply aA
     ·intro _ ρ E n q W f;have e:=HF.o W f;simp[execOp,go_sem,E,n,q,e,e.1.c1,e.1.c3,e.1.f1,e.1.f2,e.1.l1,e.1.l2,e.2.1,e.2.2,a0,a1]<;>exact rfl
    |refine aw (λ_=>rfl) ?_
    simp only[UW,UX,UY,UZ]
   refine aH ?_;intro _ W2 z;have A:=U9 (h.o.trans (z.mono h.o.size));go_wp2_with fail;go_roundw
   case rel=>exact⟨j+1,by omega,by go_num,A.o⟩
   case measure=>simp[intOf];omega
  ·obtain rfl:j=N.length:=by omega
   have hd:decide ((N.length:Int)<N.length)=false:=Vj (by omega);go_wp2_with fail
   go_loopw [6] (λi wz=>∃j:Nat,j<=G.length/\i=.int .i64 j/\Ys l wz) (λi _=>G.length-(intOf i).toNat)
   case atStart=>exact⟨0,by omega,rfl,h.o⟩
   case round=>
    obtain⟨j,hj,rfl,f⟩:=hrel;clear c1 K Q S f1 f2 l1 l2 hd;have h:=U9 f;have hs:=HS.o wr f;obtain⟨c1,K,Q,S,f1,f2,l1,l2⟩:=hs;have m3:=HI.o.2.2.1;have m4:=HI.o.2.2.2.1;by_cases s:j<G.length
    ·have hd:decide ((j:Int)<G.length)=true:=Vg (by omega)
     obtain⟨y,v⟩:∃y,G[j]? =some y:=⟨G[j],Ve s⟩;have D:=Row.call I.o.2.2.1 f;have B:=Row.call I.o.2.2.2.2 f;obtain⟨U,k1,L,-,-,-,β⟩:=D.sl_pos (by omega);obtain⟨rfl,-⟩:A2=some ⟨U,0,none⟩/\O=k1:=by injection L with a b c;exact⟨a,c⟩
     obtain⟨Z,k3,V,-,-,-,α⟩:=B.sl_pos (by omega);obtain⟨rfl,-⟩:A4=some ⟨Z,0,none⟩/\M=k3:=by injection V with a b c;exact⟨a,c⟩
     have HF:=U9 (λ(Y:Yu) (u:Ys wr Y)=>Vb (HS.o Y (h.o.trans (u.mono h.o.size))) (Vb (show(dR 85 (.pointer (some ⟨U,j*5,none⟩))).run prog Y=.ok (.value (.agg (eu y))) Y by
      have:=aY (P:=prog) ((Row.call D u).rng eL v) underlying85 rfl (fQ y);simpa using this) (show(dR 85 (.pointer (some ⟨Z,j*5,none⟩))).run prog Y=.ok (.value (.agg (eu y))) Y by
      have:=aY (P:=prog) ((Row.call B u).rng eL v) underlying85 rfl (fQ y);simpa using this)))
     have a0:(0:Int)<=(j:Int):=by omega
     have a1:(j:Int)<(G.length:Int):=by omega
     clear D B L V v f;go_upto_region 11 with fail;refine bS (by kernel_rfl) (by kernel_rfl) ?_
     iterate 11
      first
      |refine dx rfl ?_;apply aA
       ·intro _ ρ E n q W f;have e:=HF.o W f;simp[execOp,go_sem,E,n,q,e,e.1.c2,e.1.c4,e.1.f1,e.1.f2,e.1.l1,e.1.l2,e.2.1,e.2.2,a0,a1]<;>exact rfl
      |refine aw (λ_=>rfl) ?_
      simp only[UW,UX,UY,UZ]
     refine aH ?_;intro _ W2 z;have A:=U9 (h.o.trans (z.mono h.o.size));go_wp2_with fail;go_roundw
     case rel=>exact⟨j+1,by omega,by go_num,A.o⟩
     case measure=>simp[intOf];omega
    ·obtain rfl:j=G.length:=by omega
     have hd:decide ((G.length:Int)<G.length)=false:=Vj (by omega);go_wp2_with fail;go_ret;exact⟨rfl,I.o.1.trans (h.o.mono I.o.1.size)⟩
section
variable(ρ:Yx->Yv)(dst:Option Tmp)(x y:Yx)(ty:Yw)(pos:String)(after:Array Edge)(guard:Option (Nat×Bool))
@[go_sem ↓ high] theorem I9:execOp ρ {dst,op:=.load 47 x,type:=ty,pos,after,guard}=dR 47 (ρ x):=by simp[execOp,dR]
@[go_sem ↓ high] theorem Ft:execOp ρ {dst,op:=.load 45 x,type:=ty,pos,after,guard}=dR 45 (ρ x):=by simp[execOp,dR]
end
theorem zI(x:Sq):(sF x).size=14:=rfl
theorem BX(x:Sq):(prog.info? 47).map (·.size)=some (sF x).size:=by rw[zI];kernel_rfl
theorem O1{o:Nat}(h:zg w b o (Nv x)):(dR 47 (.pointer (some ⟨b,o,none⟩))).run prog w=.ok (.value (.agg (sF x))) w:=
 aY (λj v e=>by
  match j,e with
  |0,e=>exact h 0 _ e
  |1,e=>exact h 1 _ e
  |2,e=>exact h 2 _ e
  |3,e=>exact h 3 _ e
  |4,e=>exact h 4 _ e
  |5,e=>exact h 5 _ e
  |6,e=>exact h 6 _ e
  |7,e=>exact h 7 _ e
  |8,e=>exact h 8 _ e
  |9,e=>exact h 9 _ e
  |10,e=>exact h 10 _ e
  |11,e=>exact h 11 _ e
  |12,e=>exact h 12 _ e
  |13,e=>exact h 13 _ e
  |j+14,e=>simp[sF]at e) underlying47 rfl (BX x)
theorem cR.rowT{α:Type}{c:α->Array Yv}{sz:Nat}{e:Yw}{Z:List Yw}{B:Nat}{v:Yv}{L:List α}(h:cR Z F B w0 w)(hF:∀k,¬F k)(f:Row w0 base e sz c v L)(j:e∉Z):Row w base e sz c v L:=
 ah.row (F:=λk=>Fp Z w0 k) ⟨h.os,h.tape,h.output,h.size,λk i r=>by
  rcases h.block k i with h1|⟨-,h1,-⟩|h1
  ·exact h1
  ·exact absurd h1 r
  ·exact absurd h1 (hF k)⟩ f λg q ⟨cs,t,l,o⟩=>fJ f o (λn=>j (n▸l)) q
def UQ(w:Yu)(g c:Nat)(B:jI)(j:Nat)(wr:Yu):Prop:=∃(N:Nat) (C:aN) (m:cA),50000<=N/\N<=50000+128*j/\i7 w wr g c C N B m/\Ys w wr
abbrev SP:=(Option Addr×Nat×Nat)×(Option Addr×Nat×Nat)
def JD(x:Option Addr×Nat×Nat):Yv:=.slice x.1 x.2.1 x.2.2
def AZ(p:qD×Bool)(v:SP):Array Yv:=cy p.1.inn p.1.kn (JD v.1) (JD v.2)
def kH(p:qD×Bool)(v:SP):Yv:=.tuple #[.agg (AZ p v),.bool p.2]
def Fh(p:qD×Bool)(Y:Yu)(v:Yv)(e:Yu):Prop:=∃x,v=kH p x/\eM e Y.heap.size (JD x.1) p.1.N/\iH e Y.heap.size (JD x.2) p.1.G
theorem Ff{a b:SP}(h:kH p a=kH p b):a=b:=by
 obtain⟨⟨i,j,n⟩,⟨e,q,r⟩⟩:=a;obtain⟨⟨b1,b2,o⟩,⟨l,f,k⟩⟩:=b;simp[kH,AZ,cy,JD]at h;simp[h]
theorem tB(p:qD×Bool)(v:SP):(AZ p v).all (·.oneCell')=true:=kg
theorem lY(p:qD×Bool)(v:SP):(prog.info? 38).map (·.size)=some (AZ p v).size:=dn _ _ _ _
theorem o8{i:Int}(h:Yt 8 #[Yr c,.int .i64 i] w (yg w p)):
  Yt 8 #[Yr c,.int .i64 i] w λe w'=>∃v:SP,e=.returned (kH p v)/\Fh p w (kH p v) w'/\Ys w w':=by
 refine h.mono ?_;rintro r w' ⟨v,rfl,⟨vN,vG,rfl,l,n⟩,o⟩;obtain⟨j,c1,rfl,-,-⟩:=l.sl;obtain⟨k,f,rfl,-,-⟩:=n.sl;exact⟨((j,_,c1),(k,_,f)),rfl,⟨((j,_,c1),(k,_,f)),rfl,l,n⟩,o⟩
structure A8(Y:Yu)(b base:Nat)(p:qD×Bool)(v:SP):Prop where
 blk:ai Y b 38 (AZ p v)
 rn:eM Y base (JD v.1) p.1.N
 rg:iH Y base (JD v.2) p.1.G
 ge:base<=b
theorem A8.call{f:Yu}{v:SP}(h:A8 Y b base p v)(e:Ys Y f):A8 f b base p v:=⟨h.blk.call e,Row.call h.rn e,Row.call h.rg e,h.ge⟩
theorem A8.mod{f:Yu}{v:SP}(h:A8 Y b base p v)(m:ah F Y f)(hF:∀q,base<=q->¬F q):A8 f b base p v:=
 ⟨m.blk h.blk (hF _ h.ge),m.row h.rn λq e=>hF q (h.rn.ge q e).1,m.row h.rg λq e=>hF q (h.rg.ge q e).1,h.ge⟩
theorem A8.ld{v:SP}(h:A8 Y b base p v):(dR 38 (Yr b)).run prog Y=.ok (.value (.agg (AZ p v))) Y:=dG h.blk underlying38 rfl (lY p v)
theorem A8.of{W f i j:Yu}{v:SP}(h:ah cM W i)(n:Fh p i (kH p v) j)(l:cR [38] F W.heap.size j f)(hF:∀k,¬F k)(r:W.heap.size<=g)(q:ai f g 38 (AZ p v)):A8 f g W.heap.size p v:=by
 obtain⟨x,e,o,s⟩:=n;obtain rfl:=Ff e;exact⟨q,Row.mono (l.rowT hF o (by decide)) h.size,Row.mono (l.rowT hF s (by decide)) h.size,r⟩
structure Tf(Y:Yu)(b o:Nat)(y:Sq):Prop where
 lt:b<Y.heap.size
 cw:Y.cell? ⟨b,o+1,none⟩=some (.int .i64 y.s.w)
 ls:(dR 47 (.pointer (some ⟨b,o,none⟩))).run prog Y=.ok (.value (.agg (sF y))) Y
theorem Tf.of{o:Nat}{y:Sq}(h:zg w b o (Nv y))(e:b<w.heap.size)(f:Ys w Y):Tf Y b o y:=
 ⟨Vq e f.size,(f.cell (p:=⟨b,o+1,none⟩) e).trans (h 1 _ rfl),O1 λi u j=>(f.cell (p:=⟨b,o+i,none⟩) e).trans (h i u j)⟩
structure Q5(Y:Yu)(b:Nat)(x:eE):Prop where
 lt:b<Y.heap.size
 fr:∀i,Y.frozen? ⟨b,i,none⟩=false
 cw:Y.cell? ⟨b,1,none⟩=some (.int .i64 x.w)
 cn:Y.cell? ⟨b,3,none⟩=some (.int .u64 x.a.n)
 ls:(dR 45 (Yr b)).run prog Y=.ok (.value (.agg (bD x))) Y
theorem Q5.of{x:eE}(h:ai Y b t (bD x)):Q5 Y b x:=⟨h.lt,h.frozen,h.cell 1,h.cell 3,fB h⟩
theorem zX{m:az}(h:m.ok):∀z∈aW m,xU z.id:=λz e=>by
 unfold aW at e;obtain⟨id,hid,rfl⟩:=VJ.1 e;rw[(jl m.tr).mem_iff]at hid;obtain⟨x,f,rfl⟩:=VJ.1 hid;exact(h.tr.rg x f).1
theorem BM{i:Int}(e:∀k,k<6->(C.X k).R.m.ok):∀z∈(pb C i).1.N,xU z.id:=by
 unfold pb;split
 ·rename_i h
  exact zX (e _ (by omega))
 ·intro z f;cases f
def Re(w:Yu)(r:Ending)(w':Yu):Prop:=r=.returned (.bool true)/\Ys w w'
theorem J0(n:Nat)(h255:n<=255)(A:Option Addr)(c0:Nat)(L:List Sq)(w:Yu)(hl:tA w A L c0)(hT:dh w):
  Yt 3 #[.int .u8 n,.slice A L.length c0] w (Re w):=by
 have hK:=hT.lt;have CE:=U9 (λ(Y:Yu) (H:Ys w Y)=>BG (hT.call' H) ⟨Vq hK.1 H.size,Vq hK.2 H.size⟩);have CF:=U9 (PA hl.rows);have K:=hl.rows.mx;have hle:=hl.rows.le;have hml:maxLen<=9223372036854775807:=by decide
 cases hf:wd L with
 |false=>
  rw[hf]at CF;clear hl hT hf;go_enter func3,ntmps3;go_wp2_with fail;refine CF.o.mono ?_;rintro r w1 ⟨rfl,rfl⟩;go_wp2_with fail;refine(CE.o _ (Vd _ _)).mono ?_;rintro r w1 ⟨rfl,H⟩;go_wp2_with fail;go_ret;exact⟨rfl,H⟩
 |true=>
  rw[hf]at CF;have h70:L.length<=70:=by
   unfold wd at hf;simp only[Vo,VC]at hf;exact hf.1
  obtain⟨q,hq⟩:∃q,n%6=q:=⟨_,rfl⟩;have hq6:q<6:=hq▸Nat.mod_lt _ (by decide);have e0:IntKind.i64.wrap (n:Int)=n:=VE _ (by omega);have e1:Int.tmod (n:Int) 6=(q:Int):=by rw[<-hq];simp[Int.tmod]
  have CN:=U9 (Im (w:=w) (n:=1+q) (by omega) (by omega) hT);have HT:=U9 hT;have HL:=U9 hl;have HK:=U9 hK;rw[show((1+q:Nat):Int)=1+(q:Int)by omega]at CN;clear hl hT hf hq hK;go_enter func3,ntmps3;go_wp2_with fail;refine CF.o.mono ?_;rintro r w1 ⟨rfl,rfl⟩;go_wp2_with fail;refine CN.o.mono ?_;rintro r W1 ⟨g,c,C0,B,rfl,h0,hF,Ω⟩;have CC:=U9 (ke h0.blk);have H0:=U9 (Vb h0 Ω);clear h0 hF Ω CN;go_wp2_with fail;refine CC.o.mono ?_;rintro r w2 ⟨rfl,rfl⟩;go_wp2_with fail
  go_loopw [7] (λi wr=>∃j:Nat,j<=L.length/\i=.int .i64 j/\UQ w g c B j wr) (λi _=>L.length-(intOf i).toNat)
  case atStart=>exact⟨0,by omega,rfl,50000,C0,cA.zero,by omega,by omega,H0.o.1,H0.o.2⟩
  case round=>
   obtain⟨j,hj,rfl,N,C,m,Ψ,ψ,h0,X⟩:=hrel;by_cases hlt:j<L.length
   ·have hd:decide ((j:Int)<L.length)=true:=Vg (by omega)
    obtain⟨y,hy⟩:∃y,L[j]? =some y:=⟨L[j],Ve hlt⟩;obtain⟨b,o,rfl,Δ,hc⟩:=HL.o.rows.at_ pg (by decide) hy;have yo:=HL.o.ok y (Vn hy);have ya:=HL.o.at_ y (Vn hy);obtain⟨p,hp⟩:∃p,pb C y.s.w=p:=⟨_,rfl⟩;have a0:(0:Int)<=(j:Int):=by omega
    have a1:(j:Int)<(L.length:Int):=by omega
    have hcm:c0<=9223372036854775807:=Vi K hml;have HR:=U9 (λ(Y:Yu) (H:Ys w Y)=>Tf.of hc Δ H);have CA:=U9 (λ(Y:Yu) (K:ah cM wr Y)=>ke (h0.call K.no).blk);have CS:=U9 (λ(Y:Yu) (K:ah cM wr Y)=>o8 (by have:=tt (h0.call K.no).cl (by omega) y.s.w;rw[hp]at this;exact this));have S:=U9 (λ(Y:Yu) (K:ah cM wr Y)=>HR.o Y (X.trans (K.no.mono X.size)));have Z:=U9 (Vb yo (Vb ya (Vb Ψ ψ)));have HA:=U9 (Vb h0 X);have HP:=U9 hp;clear hy yo ya hc Δ h0 X Ψ ψ hp;go_upto_region 9 with fail;refine ay [38] cM 16 (λ_ h=>h.elim) (by kernel_rfl) (by kernel_rfl) ?_
    iterate 1
     first
     |refine eV S.o rfl ?_
     |refine al (λ_=>rfl) ?_
     |refine bH rfl ?_
     simp only[UW,UX,UY,UZ]
    refine cU (λ_=>rfl) (Vm rfl) 7 (λ_=>#[Yr g]) (Yr c) (λ_ w=>by simp[execOp,go_sem]<;>rfl) (λ_ Y H=>?ca1) ?_
    case ca1=>
     refine(CA.o Y H).mono ?_;rintro r Y' ⟨rfl,rfl⟩;exact⟨rfl,Vd _ _⟩
    simp only[UW,UX,UY,UZ]
    iterate 7
     first
     |refine bT rfl ?_;apply aA
      ·intro _ ρ D f l W H;have hq:=S.o W H;simp[execOp,go_sem,D,f,l,hq,hq.lt,hq.cw,a0,a1]<;>exact rfl
     |refine al (λ_=>rfl) ?_
     simp only[UW,UX,UY,UZ]
    refine dM (λ_=>rfl) (Vm rfl) 8 (λ_=>#[Yr c,.int .i64 y.s.w]) (kH p) ((none,0,0),(none,0,0)) (Fh p) (λ_ w=>by simp[execOp,go_sem]<;>rfl) (λ_ Y H=>CS.o Y H) ?_;simp only[UW,UX,UY,UZ]
    iterate 3
     refine bM (by kernel_rfl) rfl ?_;apply aA
     ·intro u ρ D f l w;simp[execOp,go_sem,D,f,l,kH]<;>exact rfl
     simp only[UW,UX,UY,UZ]
    refine eW (λ_=>rfl) 38 (cy (λ_=>false) av.zero (.slice none 0 0) (.slice none 0 0)) (λ_ _=>by simp[execOp,go_sem]<;>exact rfl) ?_;simp only[UW,UX,UY,UZ];refine cZ (λ_=>rfl) 13 38 38 20 _ _ rfl (by decide) rfl (by simp) (λ_ h=>h.elim) _ _ _ (λ_=>rfl) (λ_=>rfl) (λ_=>by repeat (first|exact Vs ⟨rfl,rfl,rfl⟩|apply Vr)) (lY p ((none,0,0),(none,0,0))) (λ_=>rfl) (λ_=>tB _ _) ?_;simp only[UW,UX,UY,UZ]
    iterate 1
     refine bM (by kernel_rfl) rfl ?_;apply aA
     ·intro u ρ D f l w;simp[execOp,go_sem,D,f,l,kH]<;>exact rfl
     simp only[UW,UX,UY,UZ]
    refine aK (by kernel_rfl) ?_;rintro⟨⟨_,v⟩,bz⟩ W2 M R;replace M:Ys wr W2:=M
    try dsimp only
    simp only[U0,U1,U2,U3,Nat.reduceAdd,Vk]at R;obtain⟨w1,w2,-,g2,g3,g4⟩:=bJ (R 9 _ _ (by repeat (first|exact Vs ⟨rfl,rfl,rfl⟩|apply Vr))) rfl;obtain⟨bs,T,hx,n6,Q⟩:∃g T,[bz,Value.agg (AZ p v)]=[Yr g,T]/\wr.heap.size<=g/\ai W2 g 38 (Value.toArr T):=R 14 _ _ (by repeat (first|exact Vs ⟨rfl,rfl,rfl⟩|apply Vr));injection hx with h6 J;injection J with J;subst h6 J;have Sa:=A8.of g2 g3 g4 (λ_ h=>h.2) n6 Q;have HS:=U9 (Vb Sa M);clear M R g2 g3 g4 n6 Q Sa CA CS S;have S:=U9 (λ(Y:Yu) (K:ah cM W2 Y)=>Vb (HR.o Y (HA.o.2.trans ((HS.o.2.mono HA.o.2.size).trans (K.no.mono (Vi HA.o.2.size HS.o.2.size))))) (Vb (HS.o.1.call K.no).ld (HS.o.1.call K.no).blk.lt));have CW:=U9 (λ(Y:Yu) (K:ah cM W2 Y)=>JM (inn:=p.1.inn) (kn:=p.1.kn) (vG:=JD v.2) y Z.o.1.nd (Row.call HS.o.1.rn K.no));go_upto_region 10 with fail;refine ay [45] cM 9 (λ_ h=>h.elim) (by kernel_rfl) (by kernel_rfl) ?_
    iterate 6
     first
     |refine bT rfl ?_;apply aA
      ·intro _ ρ D f l W H;have hq:=S.o W H;simp[execOp,go_sem,D,f,l,hq,hq.1.lt,hq.1.ls,hq.2.1,hq.2.2,a0,a1]<;>exact rfl
     |refine al (λ_=>rfl) ?_
     simp only[UW,UX,UY,UZ]
    refine cU (λ_=>rfl) (Vm rfl) 9 (λ_=>#[.agg (sF y),.agg (AZ p v)]) (.agg (bD (kY y p.1.N))) (λ_ w=>by simp[execOp,go_sem]<;>rfl) (λ_ Y H=>CW.o Y H) ?_;simp only[UW,UX,UY,UZ];refine eW (λ_=>rfl) 45 #[.int .u8 0,.int .i64 0,.int .u8 0,.int .u64 0,.int .i64 0,.int .i64 0,.int .u64 0,.int .u64 0,.int .i64 0,.int .i64 0,.int .i64 0,.slice none 0 0] (λ_ _=>by simp[execOp,go_sem]<;>exact rfl) ?_;simp only[UW,UX,UY,UZ];refine cZ (λ_=>rfl) 7 45 45 12 _ _ rfl (by decide) rfl (by simp) (λ_ h=>h.elim) _ _ _ (λ_=>rfl) (λ_=>rfl) (λ_=>by repeat (first|exact Vs ⟨rfl,rfl,rfl⟩|apply Vr)) (fq y.s) (λ_=>rfl) (λ_=>lW _) ?_;simp only[UW,UX,UY,UZ];refine aK (by kernel_rfl) ?_;rintro⟨_,bz⟩ W3 M R;replace M:Ys W2 W3:=M
    try dsimp only
    simp only[U0,U1,U2,U3,Nat.reduceAdd,Vk]at R;obtain⟨bx,T,hx,n6,Q⟩:∃g T,[bz,Value.agg (bD (kY y p.1.N))]=[Yr g,T]/\W2.heap.size<=g/\ai W3 g 45 (Value.toArr T):=R 8 _ _ (by repeat (first|exact Vs ⟨rfl,rfl,rfl⟩|apply Vr));injection hx with h6 J;injection J with J;subst h6 J;replace Q:ai W3 bx 45 (bD (kY y p.1.N)):=Q;have pN:∀z∈p.1.N,xU z.id:=by
     rw[<-HP.o];exact BM λk hk=>(HA.o.1.cl.si k hk).re.ok
    have ox:=FG Z.o.1.s pN;have xa:=FH Z.o.2.1 p.1.N;generalize kY y p.1.N=x at Q ox xa;have dA:=HS.o.2.trans (M.mono HS.o.2.size);have h3:=HA.o.1.call dA;have η:=HA.o.2.trans (dA.mono HA.o.2.size);have nx:∀(C':aN),(∀q,C'.G c q->C.G c q\/W3.heap.size<=q)->¬Fb c C' B g bx:=λC' hs hq=>by
     have hl:=Q.lt;have hge:=Vi HS.o.2.size n6;rcases hq with hq|hq|hq
     ·have:=HA.o.1.inh g (.inl rfl);omega
     ·rcases hs bx hq with hq|hq
      ·have:=HA.o.1.inh bx (.inr (.inl hq));omega
      ·omega
     ·have:=HA.o.1.inh bx (.inr (.inr hq));omega
    have HO:=U9 (Vb ox (Vb h3 (Vb η (Vb Q nx))));have CD:=U9 (Bo h3 ⟨Z.o.2.2.1,by have:=Z.o.2.2.2;omega⟩ (HT.o.call' η) HK.o ox (xa.call η));have μ:=fB Q;have lx:=Q.lt;have fx:=Q.frozen;have HXA:=U9 xa;clear M R n6 Q ox xa h3 η nx pN CW S dA;go_upto_region 11 with fail;go_wp2_with fail;refine CD.o.mono ?_;rintro r W4 ⟨E,e,C1,rfl,h4,M4,P4,-,S4⟩;obtain⟨W5,hst,B7,D5⟩:=j4 E e W4;have b4:=M4.blk HO.o.2.2.2.1 (HO.o.2.2.2.2 C λq hq=>.inl hq);have b5:=b4.call D5;have φ:=HO.o.2.2.1.trans (M4.belowC HO.o.2.2.1.size λq hq hF=>by have:=HO.o.2.1.old q hF;omega);have h5:=h4.call D5;have Φ:=φ.trans (D5.mono φ.size);have q0:W5.cell? ⟨bx,0,none⟩=some (.int .u8 x.d):=b5.cell 0;have q1:W5.cell? ⟨bx,2,none⟩=some (.int .u8 x.a.k):=b5.cell 2;have q2:W5.cell? ⟨W4.heap.size,14,none⟩=some (.int .i64 e):=B7.cell 14;have f5:=b5.frozen;have f7:=B7.frozen;have l5:=b5.lt;have l7:=B7.lt;have O:=U9 (Vb h5 (Vb Φ (Vb b5 (Vb P4 (HO.o.2.2.2.2 C1 S4)))));clear h4 M4 P4 S4 B7 D5 b4 b5 φ h5 Φ CD μ;obtain⟨sk,I⟩:∃sk,(!(x.d==1&&e==0&&(x.a.k==3||x.a.k==4)))=sk:=⟨_,rfl⟩;go_upto_region 12 with fail
    go_cut [94] (λs94 wx=>s94=.bool sk/\wx=W5)
    case first=>
     by_cases t1:x.d=1
     ·have u1:(x.d==1)=true:=by simpa using t1
      have u2:(x.d !=1)=false:=by simpa using t1
      by_cases t2:e=0
      ·have u3:(e==0)=true:=by simpa using t2
       have u4:(e !=0)=false:=by simpa using t2
       by_cases t3:x.a.k=3
       ·have u5:(x.a.k==3)=true:=by simpa using t3
        have u6:(x.a.k !=3)=false:=by simpa using t3
        obtain rfl:sk=false:=by rw[<-I,u1,u3,u5];rfl
        clear t1 t2 t3 I;go_wp2_with fail
        all_goals go_meet
        all_goals exact⟨rfl,rfl⟩
       ·have u5:(x.a.k==3)=false:=by simpa using t3
        have u6:(x.a.k !=3)=true:=by simpa using t3
        by_cases t4:x.a.k=4
        ·have u7:(x.a.k==4)=true:=by simpa using t4
         have u8:(x.a.k !=4)=false:=by simpa using t4
         obtain rfl:sk=false:=by rw[<-I,u1,u3,u5,u7];rfl
         clear t1 t2 t3 t4 I;go_wp2_with fail
         all_goals go_meet
         all_goals exact⟨rfl,rfl⟩
        ·have u7:(x.a.k==4)=false:=by simpa using t4
         have u8:(x.a.k !=4)=true:=by simpa using t4
         obtain rfl:sk=true:=by rw[<-I,u1,u3,u5,u7];rfl
         clear t1 t2 t3 t4 I;go_wp2_with fail
         all_goals go_meet
         all_goals exact⟨rfl,rfl⟩
      ·have u3:(e==0)=false:=by simpa using t2
       have u4:(e !=0)=true:=by simpa using t2
       obtain rfl:sk=true:=by rw[<-I,u1,u3];rfl
       clear t1 t2 I;go_wp2_with fail
       all_goals go_meet
       all_goals exact⟨rfl,rfl⟩
     ·have u1:(x.d==1)=false:=by simpa using t1
      have u2:(x.d !=1)=true:=by simpa using t1
      obtain rfl:sk=true:=by rw[<-I,u1];rfl
      clear t1 I;go_wp2_with fail
      all_goals go_meet
      all_goals exact⟨rfl,rfl⟩
    case rest=>
     obtain⟨rfl,rfl⟩:=hcut;have Ξ:=U9 I;clear I q0 q1 q2;cases sk with
     |true=>
      go_wp2_with fail;go_roundw
      case rel=>exact⟨j+1,by omega,by go_num,N+64,C1,_,by have:=Z.o.2.2.1;omega,by have:=Z.o.2.2.2;omega,O.o.1,O.o.2.1⟩
      case measure=>simp[intOf];omega
     |false=>
      have I:=Ξ.o;simp only[Bool.not_eq_false',Vo,Wx,Xg]at I;obtain⟨⟨π,he0⟩,θ⟩:=I;subst he0;have h5:=O.o;rw[Vh π]at h5;have ζ:=U9 (Vb π θ);clear π θ Ξ O;have O:=U9 h5;clear h5;obtain⟨p1,σ⟩:∃p,pb C1 x.w=p:=⟨_,rfl⟩;have CA:=U9 (λ(Y:Yu) (K:ah cM wc Y)=>ke (O.o.1.call K.no).blk);have CS:=U9 (λ(Y:Yu) (K:ah cM wc Y)=>o8 (by have:=tt (O.o.1.call K.no).cl (by have:=Z.o.2.2.2;omega) x.w;rw[σ]at this;exact this));have S:=U9 (λ(Y:Yu) (K:ah cM wc Y)=>Q5.of (O.o.2.2.1.call K.no));have HP1:=U9 σ;clear σ;go_upto_region 13 with fail;refine ay [38] cM 11 (λ_ h=>h.elim) (by kernel_rfl) (by kernel_rfl) ?_
      iterate 1
       first
       |refine eV S.o rfl ?_
       |refine al (λ_=>rfl) ?_
       |refine bH rfl ?_
       simp only[UW,UX,UY,UZ]
      refine cU (λ_=>rfl) (Vm rfl) 7 (λ_=>#[Yr g]) (Yr c) (λ_ w=>by simp[execOp,go_sem]<;>rfl) (λ_ Y H=>?cb1) ?_
      case cb1=>
       refine(CA.o Y H).mono ?_;rintro r Y' ⟨rfl,rfl⟩;exact⟨rfl,Vd _ _⟩
      simp only[UW,UX,UY,UZ]
      iterate 2
       first
       |refine bT rfl ?_;apply aA
        ·intro _ ρ D f l W H;have hq:=S.o W H;simp[execOp,go_sem,D,f,l,hq,hq.lt,hq.fr,hq.cw]<;>exact rfl
       |refine al (λ_=>rfl) ?_
       simp only[UW,UX,UY,UZ]
      refine dM (λ_=>rfl) (Vm rfl) 8 (λ_=>#[Yr c,.int .i64 x.w]) (kH p1) ((none,0,0),(none,0,0)) (Fh p1) (λ_ w=>by simp[execOp,go_sem]<;>rfl) (λ_ Y H=>CS.o Y H) ?_;simp only[UW,UX,UY,UZ]
      iterate 3
       refine bM (by kernel_rfl) rfl ?_;apply aA
       ·intro u ρ D f l w;simp[execOp,go_sem,D,f,l,kH]<;>exact rfl
       simp only[UW,UX,UY,UZ]
      refine eW (λ_=>rfl) 38 (cy (λ_=>false) av.zero (.slice none 0 0) (.slice none 0 0)) (λ_ _=>by simp[execOp,go_sem]<;>exact rfl) ?_;simp only[UW,UX,UY,UZ];refine cZ (λ_=>rfl) 8 38 38 20 _ _ rfl (by decide) rfl (by simp) (λ_ h=>h.elim) _ _ _ (λ_=>rfl) (λ_=>rfl) (λ_=>by repeat (first|exact Vs ⟨rfl,rfl,rfl⟩|apply Vr)) (lY p1 ((none,0,0),(none,0,0))) (λ_=>rfl) (λ_=>tB _ _) ?_;simp only[UW,UX,UY,UZ]
      iterate 1
       refine bM (by kernel_rfl) rfl ?_;apply aA
       ·intro u ρ D f l w;simp[execOp,go_sem,D,f,l,kH]<;>exact rfl
       simp only[UW,UX,UY,UZ]
      refine aK (by kernel_rfl) ?_;rintro⟨⟨_,vb⟩,bz⟩ W6 M R;replace M:Ys wc W6:=M
      try dsimp only
      simp only[U0,U1,U2,U3,Nat.reduceAdd,Vk]at R;obtain⟨w1,w2,-,g2,g3,g4⟩:=bJ (R 4 _ _ (by repeat (first|exact Vs ⟨rfl,rfl,rfl⟩|apply Vr))) rfl;obtain⟨bb,T,hx,n6,Q⟩:∃g T,[bz,Value.agg (AZ p1 vb)]=[Yr g,T]/\wc.heap.size<=g/\ai W6 g 38 (Value.toArr T):=R 9 _ _ (by repeat (first|exact Vs ⟨rfl,rfl,rfl⟩|apply Vr));injection hx with h6 J;injection J with J;subst h6 J;have Sb:=A8.of g2 g3 g4 (λ_ h=>h.2) n6 Q;have ξ:=U9 (Vb Sb (Vb M (Xj M)));have U:=(S.o W6 (ah.of_below M));have cn:=U.cn;have fx6:=U.fr;have lx6:=U.lt;have CM:=U9 (wt (O.o.1.call M) (id:=x.a.n) HO.o.1.a.n);clear M R g2 g3 g4 n6 Q Sb CA CS U;go_upto_region 14 with fail;go_wp2_with fail;refine CM.o.mono ?_;rintro r W7 ⟨rfl,τ⟩;have D7:=ξ.o.2.1.trans (τ.mono ξ.o.2.2);have U:=S.o W7 (ah.of_below D7);have μ:=U.ls;have fx7:=U.fr;have lx7:=U.lt;have h7:=O.o.1.call D7;have V:=O.o.2.1.trans (D7.mono O.o.2.1.size);have CD:=U9 (Bo h7 ⟨by have:=Z.o.2.2.1;omega,by have:=Z.o.2.2.2;omega⟩ (HT.o.call' V) HK.o HO.o.1 (HXA.o.call V));have H7:=U9 (Vb (ξ.o.1.call τ) (Vb D7 (Vb V h7)));clear D7 U h7 V τ CM cn;go_wp2_with fail;refine CD.o.mono ?_;rintro r W8 ⟨E2,e2,C2,rfl,h8,M8,P8,-,S8⟩;obtain⟨rfl,rfl,ι⟩:=zz (λk hk=>(HA.o.1.cl.si k hk).re.ok) (λk hk=>(O.o.1.cl.si k hk).re.led.gr.ndk) HO.o.1 ζ.o.1 ζ.o.2 O.o.2.2.2.1 P8;rw[Vh ζ.o.1,rz ζ.o.2]at h8;obtain⟨W9,hst,B9,D9⟩:=j4 Ev.zero 0 W8;have nb:∀q,wc.heap.size<=q->¬Fb c C1 B g q:=λq hq hF=>by have:=O.o.1.inh q hF;omega
      have x8:=M8.blk (O.o.2.2.1.call H7.o.2.1) O.o.2.2.2.2;have s8:=H7.o.1.mod M8 nb;have ν:=H7.o.2.2.1.trans (M8.belowC H7.o.2.2.1.size λq hq hF=>by have:=O.o.1.old q hF;omega);have ω:=ν.trans (D9.mono ν.size);have H9:=U9 (Vb (h8.call D9) (Vb ω (Vb (s8.call D9) (Vb (x8.call D9) B9))));have HP2:=U9 (ι.trans HP1.o);clear h8 M8 P8 S8 B9 D9 nb x8 s8 ν ω ι CD μ;go_upto_region 16 with fail;have CA:=U9 (λ(Y:Yu) (K:ah cM W9 Y)=>ke (H9.o.1.call K.no).blk);have CS:=U9 (λ(Y:Yu) (K:ah cM W9 Y)=>o8 (by have:=tt (H9.o.1.call K.no).cl (by have:=Z.o.2.2.2;omega) x.w;rw[HP2.o]at this;exact this));have S:=U9 (λ(Y:Yu) (K:ah cM W9 Y)=>Q5.of (H9.o.2.2.2.1.call K.no));refine ay [38] cM 11 (λ_ h=>h.elim) (by kernel_rfl) (by kernel_rfl) ?_
      iterate 1
       first
       |refine eV S.o rfl ?_
       |refine al (λ_=>rfl) ?_
       |refine bH rfl ?_
       simp only[UW,UX,UY,UZ]
      refine cU (λ_=>rfl) (Vm rfl) 7 (λ_=>#[Yr g]) (Yr c) (λ_ w=>by simp[execOp,go_sem]<;>rfl) (λ_ Y H=>?cc1) ?_
      case cc1=>
       refine(CA.o Y H).mono ?_;rintro r Y' ⟨rfl,rfl⟩;exact⟨rfl,Vd _ _⟩
      simp only[UW,UX,UY,UZ]
      iterate 2
       first
       |refine bT rfl ?_;apply aA
        ·intro _ ρ D f l W H;have hq:=S.o W H;simp[execOp,go_sem,D,f,l,hq,hq.lt,hq.fr,hq.cw]<;>exact rfl
       |refine al (λ_=>rfl) ?_
       simp only[UW,UX,UY,UZ]
      refine dM (λ_=>rfl) (Vm rfl) 8 (λ_=>#[Yr c,.int .i64 x.w]) (kH p1) ((none,0,0),(none,0,0)) (Fh p1) (λ_ w=>by simp[execOp,go_sem]<;>rfl) (λ_ Y H=>CS.o Y H) ?_;simp only[UW,UX,UY,UZ]
      iterate 3
       refine bM (by kernel_rfl) rfl ?_;apply aA
       ·intro u ρ D f l w;simp[execOp,go_sem,D,f,l,kH]<;>exact rfl
       simp only[UW,UX,UY,UZ]
      refine eW (λ_=>rfl) 38 (cy (λ_=>false) av.zero (.slice none 0 0) (.slice none 0 0)) (λ_ _=>by simp[execOp,go_sem]<;>exact rfl) ?_;simp only[UW,UX,UY,UZ];refine cZ (λ_=>rfl) 8 38 38 20 _ _ rfl (by decide) rfl (by simp) (λ_ h=>h.elim) _ _ _ (λ_=>rfl) (λ_=>rfl) (λ_=>by repeat (first|exact Vs ⟨rfl,rfl,rfl⟩|apply Vr)) (lY p1 ((none,0,0),(none,0,0))) (λ_=>rfl) (λ_=>tB _ _) ?_;simp only[UW,UX,UY,UZ]
      iterate 1
       refine bM (by kernel_rfl) rfl ?_;apply aA
       ·intro u ρ D f l w;simp[execOp,go_sem,D,f,l,kH]<;>exact rfl
       simp only[UW,UX,UY,UZ]
      refine aK (by kernel_rfl) ?_;rintro⟨⟨_,vc⟩,bz⟩ υ M R;replace M:Ys W9 υ:=M
      try dsimp only
      simp only[U0,U1,U2,U3,Nat.reduceAdd,Vk]at R;obtain⟨w1,w2,-,g2,g3,g4⟩:=bJ (R 4 _ _ (by repeat (first|exact Vs ⟨rfl,rfl,rfl⟩|apply Vr))) rfl;obtain⟨bc,T,hx,n6,Q⟩:∃g T,[bz,Value.agg (AZ p1 vc)]=[Yr g,T]/\W9.heap.size<=g/\ai υ g 38 (Value.toArr T):=R 9 _ _ (by repeat (first|exact Vs ⟨rfl,rfl,rfl⟩|apply Vr));injection hx with h6 J;injection J with J;subst h6 J;have Sc:=A8.of g2 g3 g4 (λ_ h=>h.2) n6 Q;have ε:=U9 (Vb Sc (Vb M (Xj M)));have U:=(S.o υ (ah.of_below M));have cn:=U.cn;have fx10:=U.fr;have lx10:=U.lt;have CM:=U9 (wt (H9.o.1.call M) (id:=x.a.n) HO.o.1.a.n);clear M R g2 g3 g4 n6 Q Sc CA CS U;go_upto_region 17 with fail;go_wp2_with fail;refine CM.o.mono ?_;rintro r Θ ⟨rfl,α⟩;have γ:=ε.o.2.1.trans (α.mono ε.o.2.2);have sb:=H9.o.2.2.1.call γ;have sc:=ε.o.1.call α;have hl1:=sb.ld;have hl2:=sc.ld;have χ:=H9.o.2.2.2.2.call γ;have hl3:=uW χ;have lb1:=sb.blk.lt;have lb2:=sc.blk.lt;have lb3:=χ.lt;have HSm:=U9 (show Yt 12 #[.agg (AZ p1 vb),.agg (AZ p1 vc)] Θ λr w'=>r=.returned (.bool true)/\Ys Θ w' from J6 sb.rn sb.rg sc.rn sc.rg);have β:=H9.o.2.1.trans (γ.mono H9.o.2.1.size);have κ:=U9 (Vb (H9.o.1.call γ) β);clear γ sb sc χ α β CM cn;generalize iq (d9 m x.w x.ask E 0) x.a.n=su;go_wp2_with fail;refine HSm.o.mono ?_;rintro r W12 ⟨rfl,δ⟩;have Γ:=U9 (Vb (κ.o.1.call δ) (κ.o.2.trans (δ.mono κ.o.2.size)));clear δ;go_wp2_with fail;go_roundw
      case rel=>exact⟨j+1,by omega,by go_num,N+64+64,C2,_,by have:=Z.o.2.2.1;omega,by have:=Z.o.2.2.2;omega,Γ.o.1,Γ.o.2⟩
      case measure=>simp[intOf];omega
   ·obtain rfl:j=L.length:=by omega
    have hd:decide ((L.length:Int)<L.length)=false:=Vj (by omega);have HB:=U9 X;clear h0 X;go_wp2_with fail;refine(CE.o _ HB.o).mono ?_;rintro r w2 ⟨rfl,H⟩;have HB2:=U9 (HB.o.trans (H.mono HB.o.size));clear H;go_wp2_with fail;go_ret;exact⟨rfl,HB2.o⟩
end
