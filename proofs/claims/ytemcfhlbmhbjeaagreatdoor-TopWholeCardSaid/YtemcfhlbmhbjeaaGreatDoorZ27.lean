import Derived.Test.YtemcfhlbmhbjeaaGreatDoorRows
import Derived.Test.YtemcfhlbmhbjeaaGreatDoorZ26
set_option maxRecDepth 100000
set_option maxHeartbeats 0
set_option linter.all false
namespace Go.Proofs.YtemcfhlbmhbjeaaGreatDoor
open Go.Proofs.Tryz
variable{w w0 w':D}{x:bD}{c g aeM n r:Nat}{E:z}{m:bV}{e k a:Int}{B:ez}{v:H}{L:List bD}
open Go Go.RowKit
@[go_sem ↓ high] def aaN:=@lz 74
@[go_sem] theorem acB(x:bD)(w:D):(ke 74 (.agg (aX x))).run prog w=.ok (.value (bh w.heap.size 1 1)) (w.alloc (.cells (aX x) 58)):=Y
abbrev jz(w:D)(base:Nat)(v:H)(L:List bD):Prop:=Row w base 58 12 aX v L
def xr(x:bD)(w:D):Calls prog 199 #[.agg (aX x)] w λr w'=>∃v,r=.returned v/\jz w' w.heap.size v [x]/\S w w':=by have f:S w (w.alloc (.cells (aX x) 58)):=(aq _ _).alloc (ao _) _;have d:M (w.alloc (.cells (aX x) 58)) w.heap.size 58 (aX x):=M.new _ _ _;have i:=k7 d;have b:=U f;have h:=d.lt;clear f d;go_in;go_upto_region 1 with fail;generalize w.alloc _=W at i h b⊢;go_wp2;go_ret;exact⟨_,O,Row.lit (vZ x) (M.new W _ _) b.o.size,b.o.alloc b.o.size _⟩
def ja(d w n:Int):bD:=⟨d,w,⟨0,0,0,0,0,0⟩,0,0,n,none,0,[]⟩
def Bw(x:H):Sem Next:=do pure (.value (<-Instr.build 58 #[(0,x)]))
def Bv(x y:H):Sem Next:=do pure (.value (<-Instr.build 58 #[(0,x),(1,y)]))
section
variable(ρ:aO->H)(dst:Option Tmp)(x y:aO)(ty:ay)(pos:String)(after:Array Edge)(guard:Option (Nat×Bool))
@[go_sem ↓ high] theorem abx:execOp ρ {dst,op:=.build 58 #[(0,x)],type:=ty,pos,after,guard}=Bw (ρ x):=by simp[execOp,Bw]
@[go_sem ↓ high] theorem abw:execOp ρ {dst,op:=.build 58 #[(0,x),(1,y)],type:=ty,pos,after,guard}=Bv (ρ x) (ρ y):=by simp[execOp,Bv]
end
@[go_sem] theorem acR(d:Int)(w:D):(Bw (.int .u8 d)).run prog w=.ok (.value (.agg (aX (ja d 0 0)))) w:=Y
@[go_sem] theorem acQ(d i:Int)(w:D):(Bv (.int .u8 d) (Z i)).run prog w=.ok (.value (.agg (aX (ja d i 0)))) w:=Y
structure nT where
 k:Int
 a:Int
 n:Int
 r:Int
 o:Int
 u:Int
def dc(aeO:nT):Array H:=#[.int .u8 aeO.k,.int .u8 aeO.a,Z aeO.n,Z aeO.r,Z aeO.o,Z aeO.u]
def r8(w:D)(L:List bD)(r:Ending)(w':D):Prop:=∃v,r=.returned v/\jz w' w.heap.size v L/\S w w'
def Sr(aeO:nT)(w:D):Calls prog 198 #[.agg (dc aeO)] w (r8 w [ja 8 0 0]):=by have j:S w (w.alloc (.cells (dc aeO) 103)):=(aq _ _).alloc (ao _) _;have d:M (w.alloc (.cells (dc aeO) 103)) w.heap.size 103 (dc aeO):=M.new _ _ _;have b:=U j;have p:=d.lt;have s:(w.alloc (.cells (dc aeO) 103)).cell? (I w.heap.size 4)=some (Z aeO.o):=d.cell 4;clear j d;have i:=U (λX=>xr (ja 8 0 0) X);go_in;go_upto_region 1 with fail;generalize w.alloc _=W at s p b⊢;go_wp2_with fail;apply(i.o W).mono;rintro r t ⟨v,rfl,f,h⟩;have l:=aB (Row.mono f b.o.size) (b.o.trans (h.mono b.o.size));clear f h i;go_wp2;go_ret;exact⟨v,O,l.o.1,l.o.2⟩
def Sq(aeO:nT)(w:D):Calls prog 200 #[.agg (dc aeO)] w (r8 w [ja 10 aeO.o 0]):=by have j:S w (w.alloc (.cells (dc aeO) 103)):=(aq _ _).alloc (ao _) _;have d:M (w.alloc (.cells (dc aeO) 103)) w.heap.size 103 (dc aeO):=M.new _ _ _;have b:=U j;have p:=d.lt;have s:(w.alloc (.cells (dc aeO) 103)).cell? (I w.heap.size 4)=some (Z aeO.o):=d.cell 4;clear j d;have i:=U (λX=>xr (ja 10 aeO.o 0) X);go_in;go_upto_region 1 with fail;generalize w.alloc _=W at s p b⊢;go_wp2_with fail;apply(i.o W).mono;rintro r t ⟨v,rfl,f,h⟩;have l:=aB (Row.mono f b.o.size) (b.o.trans (h.mono b.o.size));clear f h i;go_wp2;go_ret;exact⟨v,O,l.o.1,l.o.2⟩
def Sp(aeO:nT)(w:D):Calls prog 201 #[.agg (dc aeO)] w (r8 w [ja 11 aeO.o 0]):=by have j:S w (w.alloc (.cells (dc aeO) 103)):=(aq _ _).alloc (ao _) _;have d:M (w.alloc (.cells (dc aeO) 103)) w.heap.size 103 (dc aeO):=M.new _ _ _;have b:=U j;have p:=d.lt;have s:(w.alloc (.cells (dc aeO) 103)).cell? (I w.heap.size 4)=some (Z aeO.o):=d.cell 4;clear j d;have i:=U (λX=>xr (ja 11 aeO.o 0) X);go_in;go_upto_region 1 with fail;generalize w.alloc _=W at s p b⊢;go_wp2_with fail;apply(i.o W).mono;rintro r t ⟨v,rfl,f,h⟩;have l:=aB (Row.mono f b.o.size) (b.o.trans (h.mono b.o.size));clear f h i;go_wp2;go_ret;exact⟨v,O,l.o.1,l.o.2⟩
def Bt(x y b:H):Sem Next:=do pure (.value (<-Instr.build 58 #[(0,x),(1,y),(5,b)]))
def Bo(x y:H):Sem Next:=do pure (.value (<-Instr.build 58 #[(0,x),(5,y)]))
section
variable(ρ:aO->H)(dst:Option Tmp)(x y aeU:aO)(ty:ay)(pos:String)(after:Array Edge)(guard:Option (Nat×Bool))
@[go_sem ↓ high] theorem abv:execOp ρ {dst,op:=.build 58 #[(0,x),(1,y),(5,aeU)],type:=ty,pos,after,guard}=Bt (ρ x) (ρ y) (ρ aeU):=by simp[execOp,Bt]
@[go_sem ↓ high] theorem abr:execOp ρ {dst,op:=.build 58 #[(0,x),(5,y)],type:=ty,pos,after,guard}=Bo (ρ x) (ρ y):=by simp[execOp,Bo]
end
@[go_sem] theorem acP(d i n:Int)(w:D):(Bt (.int .u8 d) (Z i) (Z n)).run prog w=.ok (.value (.agg (aX (ja d i n)))) w:=Y
@[go_sem] theorem acM(d n:Int)(w:D):(Bo (.int .u8 d) (Z n)).run prog w=.ok (.value (.agg (aX (ja d 0 n)))) w:=Y
def So(aeO:nT)(w:D):Calls prog 202 #[.agg (dc aeO)] w (r8 w [ja 9 aeO.o aeO.n]):=by have j:S w (w.alloc (.cells (dc aeO) 103)):=(aq _ _).alloc (ao _) _;have b:M (w.alloc (.cells (dc aeO) 103)) w.heap.size 103 (dc aeO):=M.new _ _ _;have d:=U j;have s:=b.lt;have t:(w.alloc (.cells (dc aeO) 103)).cell? (I w.heap.size 4)=some (Z aeO.o):=b.cell 4;have p:(w.alloc (.cells (dc aeO) 103)).cell? (I w.heap.size 2)=some (Z aeO.n):=b.cell 2;clear j b;have i:=U (λX=>xr (ja 9 aeO.o aeO.n) X);go_in;go_upto_region 1 with fail;generalize w.alloc _=W at t p s d⊢;go_wp2_with fail;apply(i.o W).mono;rintro r u ⟨v,rfl,f,h⟩;have l:=aB (Row.mono f d.o.size) (d.o.trans (h.mono d.o.size));clear f h i;go_wp2;go_ret;exact⟨v,O,l.o.1,l.o.2⟩
def SW(aeO:nT)(w:D):Calls prog 205 #[.agg (dc aeO)] w (r8 w [ja 3 0 aeO.n]):=by have j:S w (w.alloc (.cells (dc aeO) 103)):=(aq _ _).alloc (ao _) _;have b:M (w.alloc (.cells (dc aeO) 103)) w.heap.size 103 (dc aeO):=M.new _ _ _;have d:=U j;have s:=b.lt;have t:(w.alloc (.cells (dc aeO) 103)).cell? (I w.heap.size 4)=some (Z aeO.o):=b.cell 4;have p:(w.alloc (.cells (dc aeO) 103)).cell? (I w.heap.size 2)=some (Z aeO.n):=b.cell 2;clear j b;have i:=U (λX=>xr (ja 3 0 aeO.n) X);go_in;go_upto_region 1 with fail;generalize w.alloc _=W at t p s d⊢;go_wp2_with fail;apply(i.o W).mono;rintro r u ⟨v,rfl,f,h⟩;have l:=aB (Row.mono f d.o.size) (d.o.trans (h.mono d.o.size));clear f h i;go_wp2;go_ret;exact⟨v,O,l.o.1,l.o.2⟩
structure jx(x:bD):Prop where
 ok:x.ok
 pa:x.pa=none
 pc:x.pc=0
 pk:x.pk=[]
 d1:x.d≠1
 d4:x.d≠4
 d12:x.d≠12
def SF:(⟨0,0,0,0,0,0⟩:tN).ok:=by constructor<;>constructor<;>decide
def qt{d w j n:Int}(h:j2 d)(f:fG w)(i:fG k)(l:fG j)(t:fG n)(p:d≠1)(o:d≠4)(b:d≠12):jx ⟨d,w,⟨0,0,0,0,0,0⟩,k,j,n,none,0,[]⟩:=⟨⟨h,f,SF,i,l,t,λu s=>aK s⟩,O,O,O,p,o,b⟩
def MK(x:bD):∀u∈(aX x).toList,u.oneCell'=true:=by intro u b;simp[aX]at b;rcases b with rfl|rfl|rfl|rfl|rfl|rfl|rfl|rfl|rfl|rfl|rfl|rfl<;>rfl
def Va:(prog.info? 58).map (λi=>(i.zero,i.size,i.bytes))=some (some (.agg (aX (ja 0 0 0))),12,112):=Y
def jz.app{base B:Nat}{A:Option Addr}{cap:Nat}(ty:ay){aeL:List bD}(h:jz w base v L)(o:dK w B 12 A aeL.length (cZ aX aeL))(t:L.length+aeL.length<=1000000)(d:base<=w.heap.size):
  ∃f w',(iU 74 ty v (.slice A aeL.length cap)).run prog w=.ok (.value f) w'/\jz w' base f (L++aeL)/\iO base [58] w w'/\w.grownBy w' v.ownBlock/\(f.ownBlock=v.ownBlock\/∀b,f.ownBlock=some b->w.heap.size<=b):=by
 obtain⟨i,s,j,l,p⟩:=i7 Va;exact Row.app w 74 ty i _ 112 underlying74 s j l p O ai vZ MK h (cap:=cap) o t ai d
@[go_sem ↓ high] def abJ:=@mr 74
def mC(w:D)(n:Nat)(r:Ending)(w':D):Prop:=∃v L,r=.returned v/\jz w' w.heap.size v L/\L.length<=n/\(∀x∈L,jx x)/\S w w'
def r8.f{r:Ending}(h:r8 w [x] r w')(b:jx x):mC w 1 r w':=by obtain⟨v,j,d,l⟩:=h;exact⟨v,[x],j,d,ao _,λy i=>by rw[dd.1 i];exact b,l⟩
def zm(h:∀x∈L,jx x){y:bD}(b:jx y):∀x∈L++[y],jx x:=λx hx=>by rcases bP.1 hx with hx|hx;exact h x hx;rw[dd.1 hx];exact b
def jz.put(h:jz w w0.heap.size v L)(d:S w0 w)(s:L.length<=900000)(x:bD):
  ∃b w',(iU 74 74 v (bh w.heap.size 1 1)).run prog (w.alloc (.cells (aX x) 58))=.ok (.value b) w'/\jz w' w0.heap.size b (L++[x])/\S w0 w':=by
 have f:S w (w.alloc (.cells (aX x) 58)):=(aq _ _).alloc (ao _) _;have p:M (w.alloc (.cells (aX x) 58)) w.heap.size 58 (aX x):=M.new _ _ _;obtain⟨b,o,i,j,l,-,-⟩:=jz.app 74 (Row.call h f) (A:=some (I w.heap.size 0)) (cap:=1) (jn vZ p) aQ (cF d.size f.size);simp only[dN,g8,cA]at i;exact⟨b,o,i,j,(d.trans (f.mono d.size)).trans l.below⟩
def SV(aeO:nT)(w:D)(P:1<=aeO.r/\aeO.r<=6):Calls prog 206 #[.agg (dc aeO)] w (mC w 6):=by
 have u:S w (w.alloc (.cells (dc aeO) 103)):=(aq _ _).alloc (ao _) _;have t:M (w.alloc (.cells (dc aeO) 103)) w.heap.size 103 (dc aeO):=M.new _ _ _;generalize Q:w.alloc (.cells (dc aeO) 103)=W0 at u t;have y:=U u;have T:=U t;clear u t;go_in;go_wp2_with fail;clear Q;go_loopw [2,3] (λX i wr=>∃(k:Nat) (L:List bD),(k:Int)<=aeO.r/\i=Z ((k:Int)+1)/\jz wr W0.heap.size X L/\L.length<=k/\(∀x∈L,jx x)/\S W0 wr) (λ_ i _=>7-(intOf i).toNat);exact⟨0,[],V,O,Row.nil,ah,ah,aq _ _⟩;obtain⟨k,L,R,rfl,b,C,l,f⟩:=hrel;have J:=T.o.call f;have W:wr.cell? (I w.heap.size 3)=some (Z aeO.r):=J.cell 3;clear J;obtain⟨h,j⟩:=aM (aeO.r);rw[j]at P R W;by_cases d:(k:Int)+1<=h
 ·have K:decide ((k:Int)+1<=h)=true:=fa d;have e1:IntKind.i64.wrap ((k:Int)+1+1)=(k:Int)+1+1:=bS _ V;have F:jx (ja 2 ((k:Int)+1) 0):=qt ai ⟨V,V⟩ ai ai ai ai ai ai;obtain⟨v',w6,k1,G,A⟩:=b.put f V (ja 2 ((k:Int)+1) 0);have p:=aP G A (zm l F);clear G A F b l f;go_wp2;go_roundw
  ·exact⟨k+1,L++[ja 2 ((k:Int)+1) 0],by rw[j];omega,by go_num,p.o.1,by simp;omega,p.o.2.2,p.o.2.1⟩
  simp[intOf];omega
 have K:decide ((k:Int)+1<=h)=false:=fO d;have s:=aP b l f;clear b l f;go_wp2;go_ret;exact⟨_,L,O,s.o.1.mono y.o.size,V,s.o.2.1,y.o.trans (s.o.2.2.mono y.o.size)⟩
def SY(aeO:nT)(w:D)(Q:0<=aeO.u/\aeO.u<=1000):Calls prog 203 #[.agg (dc aeO)] w (mC w 1000):=by
 have A:S w (w.alloc (.cells (dc aeO) 103)):=(aq _ _).alloc (ao _) _;have s:M (w.alloc (.cells (dc aeO) 103)) w.heap.size 103 (dc aeO):=M.new _ _ _;have y:(w.alloc (.cells (dc aeO) 103)).cell? (I w.heap.size 5)=some (Z aeO.u):=s.cell 5;obtain⟨d,t⟩:=aM (aeO.u);rw[t]at Q y;generalize R:w.alloc (.cells (dc aeO) 103)=W0 at A s y;have C:=U A;clear A s;go_in;go_wp2_with fail;clear R y;go_loopw [2,5] (λT i wr=>∃(k:Nat) (L:List bD),(k:Int)<=d/\i=Z (k:Int)/\jz wr W0.heap.size T L/\L.length<=k/\(∀x∈L,jx x)/\S W0 wr) (λ_ i _=>1000-(intOf i).toNat);exact⟨0,[],V,O,Row.nil,ah,ah,aq _ _⟩;obtain⟨k,L,hk,rfl,b,G,j,h⟩:=hrel;by_cases f:(k:Int)<d
 ·have P:decide ((k:Int)<d)=true:=fa f;have e1:IntKind.i64.wrap ((k:Int)+1)=(k:Int)+1:=bS _ V;have J:jx (ja 5 0 0):=qt ai ai ai ai ai ai ai ai;obtain⟨X,w6,W,K,F⟩:=b.put h V (ja 5 0 0);have l:=aP K F (zm j J);clear K F J b j h;go_wp2;go_roundw
  ·exact⟨k+1,L++[ja 5 0 0],V,by go_num,l.o.1,by simp;omega,l.o.2.2,l.o.2.1⟩
  simp[intOf];omega
 have P:decide ((k:Int)<d)=false:=fO f;have p:=aP b j h;clear b j h;go_wp2;go_ret;exact⟨_,L,O,p.o.1.mono C.o.size,V,p.o.2.1,C.o.trans (p.o.2.2.mono C.o.size)⟩
def xM(k:Int):bD:=⟨6,0,⟨0,0,0,0,0,0⟩,k,0,0,none,0,[]⟩
def Bp(x y:H):Sem Next:=do pure (.value (<-Instr.build 58 #[(0,x),(3,y)]))
section
variable(ρ:aO->H)(dst:Option Tmp)(x y aeU:aO)(ty:ay)(pos:String)(after:Array Edge)(guard:Option (Nat×Bool))
@[go_sem ↓ high] theorem abt:execOp ρ {dst,op:=.build 58 #[(0,x),(3,y)],type:=ty,pos,after,guard}=Bp (ρ x) (ρ y):=by simp[execOp,Bp]
end
@[go_sem] theorem acN(n:Int)(w:D):(Bp (.int .u8 6) (Z n)).run prog w=.ok (.value (.agg (aX (xM n)))) w:=Y
def SX(aeO:nT)(w:D)(Q:0<=aeO.u/\aeO.u<=1000):Calls prog 204 #[.agg (dc aeO)] w (mC w 1000):=by
 have A:S w (w.alloc (.cells (dc aeO) 103)):=(aq _ _).alloc (ao _) _;have s:M (w.alloc (.cells (dc aeO) 103)) w.heap.size 103 (dc aeO):=M.new _ _ _;have y:(w.alloc (.cells (dc aeO) 103)).cell? (I w.heap.size 5)=some (Z aeO.u):=s.cell 5;obtain⟨d,t⟩:=aM (aeO.u);rw[t]at Q y;generalize R:w.alloc (.cells (dc aeO) 103)=W0 at A s y;have C:=U A;clear A s;go_in;go_wp2_with fail;clear R y;go_loopw [2,6] (λT i wr=>∃(k:Nat) (L:List bD),(k:Int)<=d/\i=Z (k:Int)/\jz wr W0.heap.size T L/\L.length<=k/\(∀x∈L,jx x)/\S W0 wr) (λ_ i _=>1000-(intOf i).toNat);exact⟨0,[],V,O,Row.nil,ah,ah,aq _ _⟩;obtain⟨k,L,hk,rfl,b,G,j,h⟩:=hrel;by_cases f:(k:Int)<d
 ·have P:decide ((k:Int)<d)=true:=fa f;have e1:IntKind.i64.wrap ((k:Int)+1)=(k:Int)+1:=bS _ V;have J:jx (xM k):=qt ai ai ⟨V,V⟩ ai ai ai ai ai;obtain⟨X,w6,W,K,F⟩:=b.put h V (xM k);have l:=aP K F (zm j J);clear K F J b j h;go_wp2;go_roundw
  ·exact⟨k+1,L++[xM k],V,by go_num,l.o.1,by simp;omega,l.o.2.2,l.o.2.1⟩
  simp[intOf];omega
 have P:decide ((k:Int)<d)=false:=fO f;have p:=aP b j h;clear b j h;go_wp2;go_ret;exact⟨_,L,O,p.o.1.mono C.o.size,V,p.o.2.1,C.o.trans (p.o.2.2.mono C.o.size)⟩
def Gp{aeO:nT}(B:M w g 103 (dc aeO))(i:Int)(d:1<=i/\i<=6):Calls prog 197 #[Z i,N g] w λr w'=>∃b:Int,r=.returned (.int .u8 b)/\w=w':=by have f:w.cell? (I g 1)=some (.int .u8 aeO.a):=B.cell 1;have h:IntKind.i64.wrap (i-1)=i-1:=bS _ V;clear B;go_wp2;go_ret;exact⟨_,O,O⟩
def xN(i j:Int):bD:=⟨7,i,⟨0,0,0,0,0,0⟩,0,j,0,none,0,[]⟩
def Bq(x y b:H):Sem Next:=do pure (.value (<-Instr.build 58 #[(0,x),(1,y),(4,b)]))
section
variable(ρ:aO->H)(dst:Option Tmp)(x y aeU:aO)(ty:ay)(pos:String)(after:Array Edge)(guard:Option (Nat×Bool))
@[go_sem ↓ high] theorem abu:execOp ρ {dst,op:=.build 58 #[(0,x),(1,y),(4,aeU)],type:=ty,pos,after,guard}=Bq (ρ x) (ρ y) (ρ aeU):=by simp[execOp,Bq]
end
@[go_sem] theorem acO(i j:Int)(w:D):(Bq (.int .u8 7) (Z i) (Z j)).run prog w=.ok (.value (.agg (aX (xN i j)))) w:=Y
def Ss(aeO:nT)(w:D)(h0:1<=aeO.r/\aeO.r<=6):Calls prog 196 #[.agg (dc aeO)] w (mC w 100):=by
 have P:S w (w.alloc (.cells (dc aeO) 103)):=(aq _ _).alloc (ao _) _;have J:M (w.alloc (.cells (dc aeO) 103)) w.heap.size 103 (dc aeO):=M.new _ _ _;obtain⟨h,t⟩:=aM (aeO.r);rw[t]at h0;generalize hW:w.alloc (.cells (dc aeO) 103)=W0 at P J;have R:=U P;have X:=U J;have HS:=U t;clear P J t;go_in;go_wp2_with fail;clear hW;go_loopw [2,4] (λK i wr=>∃(k:Nat) (L:List bD),(k:Int)<=h/\i=Z ((k:Int)+1)/\jz wr W0.heap.size K L/\L.length<=7*k/\(∀x∈L,jx x)/\S W0 wr) (λ_ i _=>7-(intOf i).toNat);exact⟨0,[],V,O,Row.nil,ah,ah,aq _ _⟩;obtain⟨k,L,hk,rfl,b,A,l,f⟩:=hrel;have d:=X.o.call f;have C:wr.cell? (I w.heap.size 3)=some (Z aeO.r):=d.cell 3;rw[HS.o]at C;have f3:=d.frozen;have l0:=d.lt;have e1:IntKind.i64.wrap ((k:Int)+1+1)=(k:Int)+1+1:=bS _ V;clear d;have u:=aP b l f;clear b l f;obtain⟨T,rfl⟩:∃T:D,T=wr:=⟨_,O⟩;by_cases y:(k:Int)+1<=h
 ·have hd:decide ((k:Int)+1<=h)=true:=fa y;go_wp2_with fail;clear C f3 l0;go_loopw [2,5] (λK j wr=>∃(m:Nat) (L:List bD),(k:Int)+1+(m:Int)<=h/\j=Z ((k:Int)+1+1+(m:Int))/\jz wr W0.heap.size K L/\L.length<=7*k+m/\(∀x∈L,jx x)/\S W0 wr) (λ_ j _=>9-(intOf j).toNat);exact⟨0,L,V,ah,u.o.1,V,u.o.2.1,u.o.2.2⟩;obtain⟨m,L,hm,rfl,b,A,l,f⟩:=hrel;have d:=X.o.call f;have C:wr.cell? (I w.heap.size 3)=some (Z aeO.r):=d.cell 3;rw[HS.o]at C;have f3:=d.frozen;have l0:=d.lt;have Q:=U (Gp d ((k:Int)+1) V);have e2:IntKind.i64.wrap ((k:Int)+1+1+(m:Int)+1)=(k:Int)+1+1+(m:Int)+1:=bS _ V;by_cases p:(k:Int)+1+1+(m:Int)<=h
  ·have F:decide ((k:Int)+1+1+(m:Int)<=h)=true:=fa p;have CJ:=U (Gp d ((k:Int)+1+1+(m:Int)) V);have hf:jx (xN ((k:Int)+1) ((k:Int)+1+1+(m:Int))):=qt ai ⟨V,V⟩ ai ⟨V,V⟩ ai ai ai ai;obtain⟨v',w6,k1,k2,W⟩:=b.put f V (xN ((k:Int)+1) ((k:Int)+1+1+(m:Int)));have G:=aP k2 W (zm l hf);have s:=aP b l f;clear k2 W hf b l f d;go_wp2_with fail;apply Q.o.mono;rintro r w2 ⟨b1,rfl,rfl⟩;clear Q;go_wp2_with fail;apply CJ.o.mono;rintro r w2 ⟨b2,rfl,rfl⟩;clear CJ;rcases hb:(b1 !=b2)with _|_
   ·go_wp2;go_roundw
    ·exact⟨m+1,L,V,by go_num,s.o.1,V,s.o.2.1,s.o.2.2⟩
    simp[intOf];omega
   go_wp2;go_roundw
   ·exact⟨m+1,L++[xN ((k:Int)+1) ((k:Int)+1+1+(m:Int))],V,by go_num,G.o.1,by simp;omega,G.o.2.2,G.o.2.1⟩
   simp[intOf];omega
  have F:decide ((k:Int)+1+1+(m:Int)<=h)=false:=fO p;have s:=aP b l f;clear b l f d Q;go_wp2;go_roundw
  ·exact⟨k+1,L,V,by go_num,s.o.1,V,s.o.2.1,s.o.2.2⟩
  simp[intOf];omega
 have hd:decide ((k:Int)+1<=h)=false:=fO y;go_wp2;go_ret;exact⟨_,L,O,u.o.1.mono R.o.size,V,u.o.2.1,R.o.trans (u.o.2.2.mono R.o.size)⟩
def BR:List H:=[.nilFunc,.func (.func 196) #[] #[],.func (.func 198) #[] #[],.func (.func 200) #[] #[],.func (.func 201) #[] #[],.func (.func 202) #[] #[],.func (.func 203) #[] #[],.func (.func 204) #[] #[],.func (.func 205) #[] #[],.func (.func 206) #[] #[]]
structure qO(w:D):Prop where
 lt:0<w.heap.size
 d:∀i u,BR[i]? =some u->w.cell? (I 0 i)=some u
def qO.call(h:qO w)(b:S w w'):qO w':=⟨ee h.lt b.size,λi u f=>(b.cell (p:=(I 0 i)) h.lt).trans (h.d i u f)⟩
def iz(k a n:Int):Array H:=#[.int .u8 k,.int .u8 a,Z n]
def zr(k a n:Int):(prog.info? 73).map (·.size)=some (iz k a n).size:=by rw[show(iz k a n).size=3 from rfl];kernel_rfl
def Cb(x y b u:H):Sem Next:=do pure (.value (<-Instr.build 103 #[(0,x),(1,y),(2,b),(3,u)]))
section
variable(ρ:aO->H)(dst:Option Tmp)(x y aeU u:aO)(ty:ay)(pos:String)(after:Array Edge)(guard:Option (Nat×Bool))
@[go_sem ↓ high] theorem acc:execOp ρ {dst,op:=.build 103 #[(0,x),(1,y),(2,aeU),(3,u)],type:=ty,pos,after,guard}=Cb (ρ x) (ρ y) (ρ aeU) (ρ u):=by simp[execOp,Cb]
@[go_sem ↓ high] def aa0:=@iY 73
end
@[go_sem] theorem ac7(k a n r o u:Int)(w:D):(Cb (.agg (iz k a n)) (Z r) (Z o) (Z u)).run prog w=.ok (.value (.agg (dc ⟨k,a,n,r,o,u⟩))) w:=Y
structure Ob(w:D)(g k:Nat)(a n:Int)(f:FuncId):Prop where
 c0:w.cell? (I g 0)=some (.int .u8 k)
 c1:w.cell? (I g 1)=some (.int .u8 a)
 ls:(dQ 73 (N g)).run prog w=.ok (.value (.agg (iz k a n))) w
 fr:∀i,w.frozen? (I g i)=false
 lt:g<w.heap.size
 ct:w.cell? (I 0 k)=some (.func (.func f) #[] #[])
 l0:0<w.heap.size
def pR(W:D)(n:Nat)(v:H)(w':D):Prop:=∃L,jz w' W.heap.size v L/\L.length<=n/\(∀x∈L,jx x)
def pR.keep(W:D)(n:Nat):∀u w w',pR W n u w->S w w'->pR W n u w':=λ_ _ _ ⟨L,b,d,f⟩ h=>⟨L,Row.call b h,d,f⟩
def qq(η:1<=r)(ε:r<=6){k:Nat}{n:Int}(δ:1<=k)(ζ:k<=9)(ha:j2 a){u:Nat}(hu:u<=1000)(hT:qO w){f:FuncId}(hf:BR[k]? =some (.func (.func f) #[] #[]))(he:∀args w,(callFunc f args).run prog w=.ok (.enter f args) w)
  (hC:∀X,Calls prog f #[.agg (dc ⟨k,a,n,r,1+Int.tmod a r,u⟩)] X (mC X 1000)):
  Calls prog 18 #[Z r,.agg (iz k a n),Z u] w (mC w 1000):=by
 have G:S w (w.alloc (.cells (iz k a n) 73)):=(aq _ _).alloc (ao _) _;have l:M (w.alloc (.cells (iz k a n) 73)) w.heap.size 73 (iz k a n):=M.new _ _ _;generalize hW:w.alloc (.cells (iz k a n) 73)=W0 at G l;have s:=hT.call G;have y:=λ(b:D) (h:S W0 b)=>f8 (P:=prog) (l.call h) underlying73 O (zr k a n);have HF:=U (λ(b:D) (h:S W0 b)=>(show Ob b w.heap.size k a n f from
  ⟨(l.call h).cell 0,(l.call h).cell 1,y b h,(l.call h).frozen,(l.call h).lt,(s.call h).d k _ hf,(s.call h).lt⟩))
 have c0:W0.cell? (I w.heap.size 0)=some (.int .u8 (k:Int)):=l.cell 0;have HD:=U G;have HC:=U hC;have CR:=U (Km (r:Int));rw[fa (bU (1<=(r:Int)/\(r:Int)<=6))]at CR;have d1:=cP ((k:Int)<1);have d2:=cP ((k:Int)>9);have a0:(0:Int)<=(k:Int):=V;have a1:(k:Int)<10:=V;have e0:IntKind.i64.wrap a=a:=bS _ (cF ha.1 ha.2);have em:max (u:Int) 0=(u:Int):=V;have T:¬r=0:=V;have β:0<=Int.tmod a r:=Int.tmod_nonneg _ ha.1;have γ:Int.tmod a r<r:=Int.tmod_lt_of_pos _ V;have e2:IntKind.i64.wrap (Int.tmod a r)=Int.tmod a r:=bS _ V;have e3:IntKind.i64.wrap (1+Int.tmod a r)=1+Int.tmod a r:=bS _ V;have HW:=U hW;clear G l hT s y hf hC hW;obtain⟨J,i⟩:=aM (Int.tmod a r);rw[i]at e2 e3 β γ HC;have HT:=U i;clear i;go_in;go_upto_region 1 with fail;refine dI HW.o.symm ?_;go_wp2_with (go_at_call 32;apply(CR.o _).mono;rintro r w2 ⟨rfl,rfl⟩);have i:=HT.o;refine eS 16 Y ah Y Y Y Y ?_;simp only[cR]
 iterate 14
  first
  |refine kX rfl ?_;apply cV
   intro _ ρ α R Q W h;have j:=HF.o W h;simp[execOp,go_sem,α,R,Q,j,j.c0,j.c1,j.ls,j.fr,j.lt,j.ct,j.l0,a0,a1,e0,em,T,i,e2,e3]<;>exact O
  |refine kz (λ_=>rfl) ?_
  |refine zM (λ_=>rfl) ?_;apply cV;intro _ W h;have j:=HF.o W h;simp[execOp,go_sem,j,j.c0,j.c1,j.ls,j.fr,j.lt,j.ct,j.l0,a0,a1,e0,em,T,i,e2,e3]<;>exact O
  simp only[aD]
 refine zM (λ_=>rfl) ⟨.agg (dc ⟨k,a,n,r,1+J,u⟩),λu w h=>by simp[execOp,go_sem],?_⟩;simp only[aD];refine Ji (λ_=>rfl) f #[.agg (dc ⟨k,a,n,r,1+J,u⟩)] (pR W0 1000) (pR.keep W0 1000) (λ_ w=>by simp[execOp,go_sem,he]<;>rfl) (λb h=>?ca) ?_
 case ca=>refine(HC.o b).mono ?_;rintro r w' ⟨v,L,rfl,C,A,F,h4⟩;exact⟨v,O,⟨L,Row.mono C h.size,A,F⟩,h4⟩
 simp only[aD];refine dg ?_;intro p W2 t hF;have hr:pR W0 1000 p.2 W2:=hF 15 p.2 (gO ⟨O,O⟩);clear hF;obtain⟨aC,v⟩:=p;obtain⟨L,C,A,F⟩:=hr;have K:=cQ (show jz W2 W0.heap.size v L from C) A F t;clear C A F t i
 try dsimp only
 go_wp2;go_ret;exact⟨v,L,O,K.o.1.mono HD.o.size,K.o.2.1,K.o.2.2.1,HD.o.trans (K.o.2.2.2.mono HD.o.size)⟩
def mC.le{m:Nat}{r:Ending}(h:mC w n r w')(l:n<=m):mC w m r w':=by obtain⟨v,L,f,b,j,d,i⟩:=h;exact⟨v,L,f,b,aZ j l,d,i⟩
def Qa(F:1<=r)(y:r<=6){n:Int}(l:k<1\/9<k)(u:Nat):Calls prog 18 #[Z r,.agg (iz k a n),Z u] w (mC w 1000):=by
 have p:S w (w.alloc (.cells (iz k a n) 73)):=(aq _ _).alloc (ao _) _;have i:M (w.alloc (.cells (iz k a n) 73)) w.heap.size 73 (iz k a n):=M.new _ _ _;obtain⟨b,j⟩:=aM (w.alloc (.cells (iz k a n) 73));rw[j]at p i;have J:b.cell? (I w.heap.size 0)=some (.int .u8 k):=i.cell 0;have t:=U p;have h:=U j;have s:=U (Km (r:Int));rw[fa (bU (1<=(r:Int)/\(r:Int)<=6))]at s;clear p i j;by_cases d:k<1
 ·have A:decide (k<1)=true:=fa d;clear d l;go_in;go_upto_region 1 with fail;refine dI h.o.symm ?_;go_wp2_with (go_at_call 32;apply(s.o _).mono;rintro r C ⟨rfl,rfl⟩);go_ret;exact⟨_,[],O,Row.nil,gM _,ah,t.o⟩
 have A:decide (k<1)=false:=fO d;have G:decide (k>9)=true:=fa (l.resolve_left d);clear d l;go_in;go_upto_region 1 with fail;refine dI h.o.symm ?_;go_wp2_with (go_at_call 32;apply(s.o _).mono;rintro r C ⟨rfl,rfl⟩);go_ret;exact⟨_,[],O,Row.nil,gM _,ah,t.o⟩
def SU(d:1<=r)(b:r<=6){n:Int}(F:j2 k)(i:j2 a)(s:fG n){u:Nat}(o:u<=1000)(l:qO w):
  Calls prog 18 #[Z r,.agg (iz k a n),Z u] w (mC w 1000):=by
 by_cases A:k<1\/9<k;exact Qa d b A u;obtain⟨j,rfl⟩:∃j:Nat,k=(j:Int):=⟨k.toNat,V⟩;have t:0<=Int.tmod a r:=Int.tmod_nonneg _ i.1;have C:Int.tmod a r<r:=Int.tmod_lt_of_pos _ V;have y:j=1\/j=2\/j=3\/j=4\/j=5\/j=6\/j=7\/j=8\/j=9:=V;have p:fG (1+Int.tmod a r):=⟨V,V⟩;rcases y with rfl|rfl|rfl|rfl|rfl|rfl|rfl|rfl|rfl;exact qq d b ai ai i o l rfl (kT func196 Y rfl) λX=>(Ss _ X ⟨by show(1:Int)<=r;omega,by show(r:Int)<=6;omega⟩).mono λ_ _ h=>h.le ai;exact qq d b ai ai i o l rfl (kT func198 Y rfl) λX=>(Sr _ X).mono λ_ _ h=>(h.f (qt ai ai ai ai ai ai ai ai)).le ai;exact qq d b ai ai i o l rfl (kT func200 Y rfl) λX=>(Sq _ X).mono λ_ _ h=>(h.f (qt ai p ai ai ai ai ai ai)).le ai;exact qq d b ai ai i o l rfl (kT func201 Y rfl) λX=>(Sp _ X).mono λ_ _ h=>(h.f (qt ai p ai ai ai ai ai ai)).le ai;exact qq d b ai ai i o l rfl (kT func202 Y rfl) λX=>(So _ X).mono λ_ _ h=>(h.f (qt ai p ai ai s ai ai ai)).le ai;exact qq d b ai ai i o l rfl (kT func203 Y rfl) λX=>SY _ X ⟨by show(0:Int)<=u;omega,by show(u:Int)<=1000;omega⟩;exact qq d b ai ai i o l rfl (kT func204 Y rfl) λX=>SX _ X ⟨by show(0:Int)<=u;omega,by show(u:Int)<=1000;omega⟩;exact qq d b ai ai i o l rfl (kT func205 Y rfl) λX=>(SW _ X).mono λ_ _ h=>(h.f (qt ai ai ai ai s ai ai ai)).le ai;exact qq d b ai ai i o l O (kT func206 Y O) λX=>(SV _ X ⟨by show(1:Int)<=r;omega,by show(r:Int)<=6;omega⟩).mono λ_ _ h=>h.le ai
section
open Go.ChangeShapes Go.WideShapes Go.ChangeAt
def Y9:prog.globalNamed ((Rows.topWholeRow.laid.map Prod.fst)[0]!)=some 2:=Y
def Y8:prog.globalNamed ((Rows.topWholeRow.laid.map Prod.fst)[1]!)=some 1:=Y
def Za:prog.globalNamed ((Rows.topWholeRow.laid.map Prod.fst)[2]!)=some 0:=Y
def ZC:(prog.globals[0]?).map (·.type)=some 101:=Y
def ZA:(prog.globals[2]?).map (·.type)=some 307:=Y
def Zw:(prog.globals[1]?).map (·.type)=some 134:=Y
def C6{P:Program}{base:Nat}{i:Nat->Bool}{fuel:Nat}{t:ay}{f d:Array ay}{j:Bool}{b:List MemPlace}
  (l:P.underlying t=some (.func f d j)) (h:DataW.trod (funcToken P) P w base i true fuel t [v]=some (.nil,b)):v=.nilFunc:=by
 cases fuel with
 |zero=>simp[DataW.trod]at h
 |succ n=>cases v<;>simp[DataW.trod,l]at h<;>rfl
noncomputable abbrev dV(W:D)(m:Nat)(t:ay)(cs:List H):=DataW.trod (funcToken prog) prog W 0 (λ_=>true) true m t cs
def QJ:prog.cellsOf 100=1:=Y
def QG:prog.cellsOf 101=10:=Y
def IA:List UInt8:=[40,42,108,101,97,116,47,108,101,100,103,101,114,46,76,101,100,103,101,114,41,46,109,97,107,101,115]
def Iz:List UInt8:=[40,42,108,101,97,116,47,108,101,100,103,101,114,46,76,101,100,103,101,114,41,46,114,97,105,115,101,115]
def Iy:List UInt8:=[40,42,108,101,97,116,47,108,101,100,103,101,114,46,76,101,100,103,101,114,41,46,116,97,107,101,115]
def Ix:List UInt8:=[40,42,108,101,97,116,47,108,101,100,103,101,114,46,76,101,100,103,101,114,41,46,102,114,101,101,115]
def Iw:List UInt8:=[40,42,108,101,97,116,47,108,101,100,103,101,114,46,76,101,100,103,101,114,41,46,109,111,118,101,115]
def Iv:List UInt8:=[40,42,108,101,97,116,47,108,101,100,103,101,114,46,76,101,100,103,101,114,41,46,106,111,105,110,115]
def Iu:List UInt8:=[40,42,108,101,97,116,47,108,101,100,103,101,114,46,76,101,100,103,101,114,41,46,108,101,97,118,101,115]
def IK:List UInt8:=[40,42,108,101,97,116,47,99,108,117,115,116,101,114,46,67,108,117,115,116,101,114,41,46,97,115,107]
def IJ:List UInt8:=[40,42,108,101,97,116,47,99,108,117,115,116,101,114,46,67,108,117,115,116,101,114,41,46,116,105,99,107]
def II:List UInt8:=[40,42,108,101,97,116,47,99,108,117,115,116,101,114,46,67,108,117,115,116,101,114,41,46,116,105,109,101]
def IG:List UInt8:=[40,42,108,101,97,116,47,99,108,117,115,116,101,114,46,67,108,117,115,116,101,114,41,46,100,101,108,105,118,101,114]
def IF:List UInt8:=[40,42,108,101,97,116,47,99,108,117,115,116,101,114,46,67,108,117,115,116,101,114,41,46,100,114,111,112]
def IE:List UInt8:=[40,42,108,101,97,116,47,99,108,117,115,116,101,114,46,67,108,117,115,116,101,114,41,46,116,119,105,99,101]
def ID:List UInt8:=[40,42,108,101,97,116,47,99,108,117,115,116,101,114,46,67,108,117,115,116,101,114,41,46,99,117,116]
def IC:List UInt8:=[40,42,108,101,97,116,47,99,108,117,115,116,101,114,46,67,108,117,115,116,101,114,41,46,104,101,97,108]
def IB:List UInt8:=[40,42,108,101,97,116,47,99,108,117,115,116,101,114,46,67,108,117,115,116,101,114,41,46,102,117,115,101]
def Hu:List UInt8:=[40,42,108,101,97,116,47,99,108,117,115,116,101,114,46,67,108,117,115,116,101,114,41,46,111,102,102]
def Ht:List UInt8:=[40,42,108,101,97,116,47,99,108,117,115,116,101,114,46,67,108,117,115,116,101,114,41,46,111,110]
def Hs:List UInt8:=[40,42,108,101,97,116,47,99,108,117,115,116,101,114,46,67,108,117,115,116,101,114,41,46,108,101,97,118,101]
def UQ:gL IA=[333]:=Y
def UP:gL Iz=[334]:=Y
def UO:gL Iy=[335]:=Y
def UN:gL Ix=[336]:=Y
def UM:gL Iw=[337]:=Y
def UL:gL Iv=[338]:=Y
def UK:gL Iu=[339]:=Y
def Uf:gL IK=[207]:=Y
def Ue:gL IJ=[208]:=Y
def UX:gL II=[209]:=Y
def UW:gL IG=[210]:=Y
def UV:gL IF=[211]:=Y
def UU:gL IE=[212]:=Y
def UT:gL ID=[213]:=Y
def US:gL IC=[214]:=Y
def UR:gL IB=[215]:=Y
def QX:gL Hu=[216]:=Y
def QW:gL Ht=[217]:=Y
def QV:gL Hs=[218]:=Y
section
variable{W:D}{m:Nat}{c b:H}{aeT:List MemPlace}
def Ly{d e:DataW (List UInt8)}(h:dV W m 133 [c,b]=some (.agg [d,e],aeT)):
  ∃n s y,dV W n 131 [c]=some (d,s)/\dV W n 4 [b]=some (e,y):=by
 obtain⟨t,n,_,u,_,f,i⟩:=vC underlying133 h
 match t,f with
 |[y0,y1],_=>
  obtain⟨⟨o,p⟩,_⟩:((_/\_)/\_):=az u;have l:dV W n 131 [c]=some (y0.1,y0.2):=by have:=i 0 _ O;simpa[LF]using this
  have j:dV W n 4 [b]=some (y1.1,y1.2):=by have:=i 1 _ O;simpa[LF,Dp]using this
  rw[<-o]at l;rw[<-p]at j;exact⟨n,_,_,l,j⟩
def Fd{x:Bool}(h:dV W n 4 [b]=some (.lit (.bool x),aeT)):b=.bool x:=by obtain⟨y,d,i⟩:=DataW.trod_bool underlying4 h;have f:=(Prod.mk.inj i).1;simp at d f;rw[d,f]
def VA{x:Bool}(h:dV W m 133 [c,b]=some (.agg [.nil,.lit (.bool x)],aeT)):c=.nilFunc/\b=.bool x:=by obtain⟨n,j,i,d,f⟩:=Ly h;exact⟨C6 underlying131 d,Fd f⟩
def nj{x:Bool}{y:UInt8}{r:List UInt8}{i:FuncId}(d:((List.range prog.funcs.size).filter λf=>(prog.funcs[f]?).any (·.name.toUTF8.data.toList==y::r))=[i])
  (h:dV W m 133 [c,b]=some (.agg [.held (y::r),.lit (.bool x)],aeT)):c=.func (.func i) #[] #[]/\b=.bool x:=by
 obtain⟨n,o,p,l,j⟩:=Ly h;exact⟨j5 underlying131 d l,Fd j⟩
end
section
variable{W:D}
def aam(h:laidMetH prog Rows.topWholeRow.laid W)(i:Nat)(u:H)(hu:AQ[i]? =some u):W.cell? (I 2 i)=some u:=by
 obtain⟨g,t,F,d,p,A,ht,hv,Q⟩:=h.funcs cz;obtain rfl:=eZ (Y9.symm.trans A);obtain rfl:=eZ (ZA.symm.trans ht);have j:dV W d 307 F.toList=some (.agg [DataW.nil,DataW.held IA,DataW.held Iz,DataW.held Iy,DataW.held Ix,DataW.held Iw,DataW.held Iv,DataW.held Iu],p):=Q;obtain⟨xs,m,rfl,hx,K,f,b⟩:=DataW.trod_array underlying307 j;rw[QH]at K;simp only[QK,iP]at b
 match xs,f,F,K with
 |[y0,y1,y2,y3,y4,y5,y6,y7],_,⟨[c0,c1,c2,c3,c4,c5,c6,c7]⟩,_=>obtain⟨⟨R,e1,e2,e3,e4,T,e6,X⟩,_⟩:((_/\_/\_/\_/\_/\_/\_/\_)/\_):=az hx;have G:dV W m 306 [c0]=some (y0.1,y0.2):=az (b 0 V);rw[<-R]at G;obtain rfl:=C6 underlying306 G;have J:dV W m 306 [c1]=some (y1.1,y1.2):=az (b 1 V);rw[<-e1]at J;obtain rfl:=j5 underlying306 UQ J;have l:dV W m 306 [c2]=some (y2.1,y2.2):=az (b 2 V);rw[<-e2]at l;obtain rfl:=j5 underlying306 UP l;have o:dV W m 306 [c3]=some (y3.1,y3.2):=az (b 3 V);rw[<-e3]at o;obtain rfl:=j5 underlying306 UO o;have s:dV W m 306 [c4]=some (y4.1,y4.2):=az (b 4 V);rw[<-e4]at s;obtain rfl:=j5 underlying306 UN s;have P:dV W m 306 [c5]=some (y5.1,y5.2):=az (b 5 V);rw[<-T]at P;obtain rfl:=j5 underlying306 UM P;have C:dV W m 306 [c6]=some (y6.1,y6.2):=az (b 6 V);rw[<-e6]at C;obtain rfl:=j5 underlying306 UL C;have y:dV W m 306 [c7]=some (y7.1,y7.2):=az (b 7 V);rw[<-X]at y;obtain rfl:=j5 underlying306 UK y;rw[World.var?_cell A hv i,ye];exact hu
def ZW(h:laidMetH prog Rows.topWholeRow.laid W)(i:Nat)(u:H)(hu:oI[i]? =some u):W.cell? (I 1 i)=some u:=by
 obtain⟨g,t,T,l,p,P,ht,hv,hd⟩:=h.funcs (dC _ cz);obtain rfl:=eZ (Y8.symm.trans P);obtain rfl:=eZ (Zw.symm.trans ht);have A:dV W l 134 T.toList=some (.agg [DataW.agg [DataW.nil,.lit (.bool false)],DataW.agg [DataW.held IK,.lit (.bool false)],DataW.agg [DataW.held IJ,.lit (.bool false)],DataW.agg [DataW.held II,.lit (.bool true)],DataW.agg [DataW.held IG,.lit (.bool true)],DataW.agg [DataW.held IF,.lit (.bool true)],DataW.agg [DataW.held IE,.lit (.bool true)],DataW.agg [DataW.held ID,.lit (.bool false)],DataW.agg [DataW.held IC,.lit (.bool true)],DataW.agg [DataW.held IB,.lit (.bool false)],DataW.agg [DataW.held Hu,.lit (.bool false)],DataW.agg [DataW.held Ht,.lit (.bool false)],DataW.agg [DataW.held Hs,.lit (.bool false)]],p):=hd;obtain⟨xs,m,rfl,hx,hl,o,b⟩:=DataW.trod_array underlying134 A;rw[QI]at hl;simp only[QL]at b
 match xs,o,T,hl with
 |[y0,y1,y2,y3,y4,y5,y6,y7,y8,y9,y10,y11,y12],_,⟨[c0,b0,c1,b1,c2,b2,c3,b3,c4,b4,c5,b5,c6,b6,c7,b7,c8,b8,c9,b9,c10,b10,c11,b11,c12,b12]⟩,_=>obtain⟨⟨e0,e1,e2,e3,e4,e5,e6,e7,e8,e9,y,s,C⟩,_⟩:((_/\_/\_/\_/\_/\_/\_/\_/\_/\_/\_/\_/\_)/\_):=az hx;have X:dV W m 133 [c0,b0]=some (y0.1,y0.2):=az (b 0 V);rw[<-e0]at X;obtain⟨rfl,rfl⟩:=VA X;have t1:dV W m 133 [c1,b1]=some (y1.1,y1.2):=az (b 1 V);rw[<-e1]at t1;obtain⟨rfl,rfl⟩:=nj Uf t1;have F:dV W m 133 [c2,b2]=some (y2.1,y2.2):=az (b 2 V);rw[<-e2]at F;obtain⟨rfl,rfl⟩:=nj Ue F;have G:dV W m 133 [c3,b3]=some (y3.1,y3.2):=az (b 3 V);rw[<-e3]at G;obtain⟨rfl,rfl⟩:=nj UX G;have J:dV W m 133 [c4,b4]=some (y4.1,y4.2):=az (b 4 V);rw[<-e4]at J;obtain⟨rfl,rfl⟩:=nj UW J;have t5:dV W m 133 [c5,b5]=some (y5.1,y5.2):=az (b 5 V);rw[<-e5]at t5;obtain⟨rfl,rfl⟩:=nj UV t5;have Q:dV W m 133 [c6,b6]=some (y6.1,y6.2):=az (b 6 V);rw[<-e6]at Q;obtain⟨rfl,rfl⟩:=nj UU Q;have K:dV W m 133 [c7,b7]=some (y7.1,y7.2):=az (b 7 V);rw[<-e7]at K;obtain⟨rfl,rfl⟩:=nj UT K;have t8:dV W m 133 [c8,b8]=some (y8.1,y8.2):=az (b 8 V);rw[<-e8]at t8;obtain⟨rfl,rfl⟩:=nj US t8;have R:dV W m 133 [c9,b9]=some (y9.1,y9.2):=az (b 9 V);rw[<-e9]at R;obtain⟨rfl,rfl⟩:=nj UR R;have d:dV W m 133 [c10,b10]=some (y10.1,y10.2):=az (b 10 V);rw[<-y]at d;obtain⟨rfl,rfl⟩:=nj QX d;have j:dV W m 133 [c11,b11]=some (y11.1,y11.2):=az (b 11 V);rw[<-s]at j;obtain⟨rfl,rfl⟩:=nj QW j;have f:dV W m 133 [c12,b12]=some (y12.1,y12.2):=az (b 12 V);rw[<-C]at f;obtain⟨rfl,rfl⟩:=nj QV f;rw[World.var?_cell P hv i,ye];exact hu
def RJ(h:laidMetH prog Rows.topWholeRow.laid W):dr W:=⟨aam h,ZW h⟩
end
def It:List UInt8:=[108,101,97,116,47,100,114,105,108,108,46,109,97,107,101,114,115,36,49]
def Is:List UInt8:=[108,101,97,116,47,100,114,105,108,108,46,109,97,107,101,114,115,36,50]
def Ir:List UInt8:=[108,101,97,116,47,100,114,105,108,108,46,109,97,107,101,114,115,36,51]
def Iq:List UInt8:=[108,101,97,116,47,100,114,105,108,108,46,109,97,107,101,114,115,36,52]
def Ip:List UInt8:=[108,101,97,116,47,100,114,105,108,108,46,109,97,107,101,114,115,36,53]
def Io:List UInt8:=[108,101,97,116,47,100,114,105,108,108,46,109,97,107,101,114,115,36,54]
def IQ:List UInt8:=[108,101,97,116,47,100,114,105,108,108,46,109,97,107,101,114,115,36,55]
def IP:List UInt8:=[108,101,97,116,47,100,114,105,108,108,46,109,97,107,101,114,115,36,56]
def IN:List UInt8:=[108,101,97,116,47,100,114,105,108,108,46,109,97,107,101,114,115,36,57]
def UJ:gL It=[196]:=Y
def UI:gL Is=[198]:=Y
def UH:gL Ir=[200]:=Y
def UG:gL Iq=[201]:=Y
def UF:gL Ip=[202]:=Y
def UE:gL Io=[203]:=Y
def UD:gL IQ=[204]:=Y
def UC:gL IP=[205]:=Y
def UB:gL IN=[206]:=Y
section
variable{W:D}
def Jh(h:laidMetH prog Rows.topWholeRow.laid W)(i:Nat)(u:H)(hu:BR[i]? =some u):W.cell? (I 0 i)=some u:=by
 obtain⟨g,t,G,d,p,A,ht,hv,T⟩:=h.funcs (dC _ (dC _ cz));obtain rfl:=eZ (Za.symm.trans A);obtain rfl:=eZ (ZC.symm.trans ht);have j:dV W d 101 G.toList=some (.agg [DataW.nil,DataW.held It,DataW.held Is,DataW.held Ir,DataW.held Iq,DataW.held Ip,DataW.held Io,DataW.held IQ,DataW.held IP,DataW.held IN],p):=T;obtain⟨xs,m,rfl,hx,P,f,b⟩:=DataW.trod_array underlying101 j;rw[QG]at P;simp only[QJ,iP]at b
 match xs,f,G,P with
 |[y0,y1,y2,y3,y4,y5,y6,y7,y8,y9],_,⟨[c0,c1,c2,c3,c4,c5,c6,c7,c8,c9]⟩,_=>obtain⟨⟨X,e1,e2,e3,e4,e5,e6,e7,e8,e9⟩,_⟩:((_/\_/\_/\_/\_/\_/\_/\_/\_/\_)/\_):=az hx;have J:dV W m 100 [c0]=some (y0.1,y0.2):=az (b 0 V);rw[<-X]at J;obtain rfl:=C6 underlying100 J;have K:dV W m 100 [c1]=some (y1.1,y1.2):=az (b 1 V);rw[<-e1]at K;obtain rfl:=j5 underlying100 UJ K;have l:dV W m 100 [c2]=some (y2.1,y2.2):=az (b 2 V);rw[<-e2]at l;obtain rfl:=j5 underlying100 UI l;have o:dV W m 100 [c3]=some (y3.1,y3.2):=az (b 3 V);rw[<-e3]at o;obtain rfl:=j5 underlying100 UH o;have s:dV W m 100 [c4]=some (y4.1,y4.2):=az (b 4 V);rw[<-e4]at s;obtain rfl:=j5 underlying100 UG s;have R:dV W m 100 [c5]=some (y5.1,y5.2):=az (b 5 V);rw[<-e5]at R;obtain rfl:=j5 underlying100 UF R;have C:dV W m 100 [c6]=some (y6.1,y6.2):=az (b 6 V);rw[<-e6]at C;obtain rfl:=j5 underlying100 UE C;have y:dV W m 100 [c7]=some (y7.1,y7.2):=az (b 7 V);rw[<-e7]at y;obtain rfl:=j5 underlying100 UD y;have Q:dV W m 100 [c8]=some (y8.1,y8.2):=az (b 8 V);rw[<-e8]at Q;obtain rfl:=j5 underlying100 UC Q;have F:dV W m 100 [c9]=some (y9.1,y9.2):=az (b 9 V);rw[<-e9]at F;obtain rfl:=j5 underlying100 UB F;rw[World.var?_cell A hv i,ye];exact hu
def RK(h:laidMetH prog Rows.topWholeRow.laid W):qO W:=⟨vD W _ (Jh h 0 _ O),Jh h⟩
end
end
def xW(c a:Nat):Array H:=#[N c,N a]
structure ig(w0 w:D)(g c:Nat)(C:aJ)(aeM:Nat)(B:ez)(m:bV):Prop where
 blk:M w g 79 (xW c B.b)
 cl:cE w0 w c C aeM
 au:eH w B m
 ok:m.ok
 gb:w0.heap.size<=g
 ab:∀aeT,B.F aeT->w0.heap.size<=aeT
 gc:¬C.G c g
 ga:¬B.F g
 ca:dJ (C.G c) B.F
section
variable{w0 w w':D}{g c aeM:Nat}{C:aJ}{B:ez}{m:bV}
def nP(c:Nat)(C:aJ)(B:ez)(g:Nat):Nat->Prop:=λb=>b=g\/C.G c b\/B.F b
def ig.mod{G:Nat->Prop}(h:ig w0 w g c C aeM B m)(k:aa G w w')(f:dJ (nP c C B g) G)(i:∀d,G d->w0.heap.size<=d):ig w0 w' g c C aeM B m:=
 ⟨k.blk h.blk λe=>f g (.inl O) e,h.cl.mod k (λd a b=>f d (.inr (.inl a)) b) i,h.au.mod k λd a b=>f d (.inr (.inr a)) b,h.ok,h.gb,h.ab,h.gc,h.ga,h.ca⟩
def ig.call(h:ig w0 w g c C aeM B m)(b:S w w'):ig w0 w' g c C aeM B m:=h.mod (aa.of_below (F:=bC) b) (λ_ _ h=>h) λ_ h=>h.elim
end
def yZ{a:Nat}(h:M w g 79 (xW c a)):Calls prog 8 #[N g] w λr w'=>r=.returned (N c)/\w=w':=by have b:w.cell? (I g 0)=some (N c):=h.cell 0;clear h;go_wp2;go_ret;exact⟨O,O⟩
def TK{C:aJ}(h:ig w0 w g c C aeM B m){id:Int}(d:bo id):Calls prog 15 #[N g,q id] w λr w'=>r=.returned (.tuple #[Z (gB m id).1,Z (gB m id).2.1,Z (gB m id).2.2])/\S w w':=by have l:w.cell? (I g 1)=some (N B.b):=h.blk.cell 1;have f:=U (GF h.au h.ok d);clear h;go_in;go_wp2_with fail;apply f.o.mono;rintro r j ⟨rfl,i⟩;go_wp2_with fail;exact eu (v:=.tuple #[Z (gB m id).1,Z (gB m id).2.1,Z (gB m id).2.2]) (by simp[results,results15]) O ⟨O,i⟩
def S8(w:D)(n:Nat)(x:Ending)(w':D):Prop:=∃g c C B,x=.returned (.tuple #[N g,Z 0])/\ig w w' g c C 50000 B bV.zero/\wC C n/\S w w'
def GT(P:1<=n)(R:n<=6)(J:dr w):Calls prog 13 #[Z n] w (S8 w n):=by have T:=U (XI P R J);clear J;go_in;go_wp2_with fail;apply T.o.mono;rintro r Q ⟨c,C,rfl,G,hF,A⟩;have s:=aP G hF A;clear G hF A;go_wp2_with fail;apply(XO Q).mono;rintro r F ⟨B,rfl,K,t,y⟩;have i:=aP K t y;clear K t y;go_wp2;go_ret2;have j:S F (F.alloc (.cells (xW c B.b) 79)):=(aq _ _).alloc (ao _) _;have l:=s.o.1.call i.o.2.2;have f:=s.o.2.2.size;have u:=i.o.2.2.size;refine⟨F.heap.size,c,C,B,O,⟨M.new _ _ _,l.call j,i.o.1.call j,⟨(λ_ h=>aK h),(λ_ h=>aK h)⟩,aZ f u,λd p=>aZ f (i.o.2.1 d p),λp=>aA (l.inh _ p),λp=>aA (i.o.1.inh _ p),λd a b=>cF (s.o.1.inh d a) (i.o.2.1 d b)⟩,s.o.2.1,(s.o.2.2.trans (i.o.2.2.mono f)).trans (j.mono (aZ f u))⟩
def cB.tightA{k:Nat}{R:bX}(h:cB w r k R n):cB w r k R.tight n/\(∀d,R.tight.F r d->R.F r d)/\∀d cs,R.tight.F r d->¬M w d 66 cs:=by
 have f:∀d,R.tight.FD d->R.FD d:=λd hq=>by rcases hq with rfl|rfl|⟨x,p,e⟩;exact h.dem.fd;exact h.dem.fm;obtain⟨P,o,-,A⟩:=h.dem.els x p;rw[e]at o;injection o with o;exact o▸A
 have hF:∀d,R.tight.F r d->R.F r d:=λd hq=>by rcases hq with hq|hq|hq|hq|hq|hq;exact .inl hq;exact .inr (.inl hq);exact .inr (.inr (.inl hq));exact .inr (.inr (.inr (.inl hq)));exact .inr (.inr (.inr (.inr (.inl hq))));exact .inr (.inr (.inr (.inr (.inr (f d hq)))))
 have l:=h.ap;refine⟨⟨h.blk,h.led,h.ok,h.log,h.bs,h.hold,h.hok,h.peer,h.pok,⟨h.dem.blk,h.dem.map,λx p=>?_,h.dem.len,.inl O,.inr (.inl O),λd hq=>h.dem.inh d (f d hq)⟩,
  ⟨l.ab,l.ac,l.ad,l.ae,λd a b=>l.af d a (f d b),l.bc,l.bd,l.be,λd a b=>l.bf d a (f d b),l.cd,l.ce,λd a b=>l.cf d a (f d b),l.de,λd a b=>l.df d a (f d b),λd a b=>l.ef d a (f d b)⟩,h.cn,h.sn,h.k6,h.gs⟩,hF,λd cs hq j=>?_⟩
 obtain⟨d,e,C,-⟩:=h.dem.els x p;exact⟨d,e,C,.inr (.inr ⟨x,p,e⟩)⟩;rcases hq with rfl|hq|hq|hq|rfl|hq;exact absurd (M.type_eq j h.blk).1 ai;rcases hq with rfl|rfl|rfl|rfl|rfl|rfl|rfl;exact absurd (M.type_eq j h.led.blk).1 ai;exact absurd (M.type_eq j h.led.tre.blk).1 ai;exact h.led.tre.map.ne_blk j rfl;exact h.led.pa.ne_blk j rfl;exact h.led.ri.ne_blk j rfl;exact h.led.gr.ne_blk j rfl;exact h.led.qs.ne_blk j rfl
 ·rcases hq with rfl|⟨i,hi,e⟩;exact absurd (M.type_eq j h.log.blk).1 ai;change (R.v i).ownBlock=some d at e;rcases(h.log.row i hi).2 with⟨t,-⟩|⟨g,G,J,t,-,y,-⟩
  ·rw[t]at e;cases e
  rw[t]at e;injection e with e;subst e;exact absurd (M.type_eq j y).1 ai
 ·rcases hq with rfl|rfl;exact absurd (M.type_eq j h.hold.blk).1 ai;obtain⟨X,T,K,-⟩:=h.hold.map.ex;have s:w.heap[R.hm]? =_:=j;rw[K]at s;cases s
 exact absurd (M.type_eq j h.peer).1 ai;rcases hq with rfl|rfl|⟨x,p,e⟩;exact absurd (M.type_eq j h.dem.blk).1 ai;exact h.dem.map.ne_blk j rfl;obtain⟨P,o,⟨n1,a1,W,Q,u,-⟩,-⟩:=h.dem.els x p;rw[e]at o;injection o with o;subst o;exact absurd (M.type_eq j u).1 ai
def bQ.tightA{F:Nat->Prop}{d:Nat}{s n:aV}{aeL:Option aW}{p:bJ}(h:bQ w F d s n aeL p):bQ w (λf=>F f/\∀cs,¬M w f 66 cs) d s n aeL p:=by
 have G:∀{f:Nat} {t:ay} {cs:Array H},M w f t cs->t≠66->∀J,¬M w f 66 J:=λC T J R=>T (M.type_eq C R).1;have u:∀{A:Option Addr} {l:List Int} {c:Nat},bM w A l c->kr F A l->kr (λf=>F f/\∀cs,¬M w f 66 cs) A l:=λhs hf b o e j=>by obtain⟨b',o',cs,K,C,-⟩:=hs.blk j;rw[e]at K;injection K with K;injection K with e1 P;subst e1;exact⟨hf b o e j,G C ai⟩
 obtain⟨lo,C,j⟩:=h.blk;refine⟨⟨lo,C,?_⟩,h.hs,h.hn,u h.hs h.sf,u h.hn h.nf,⟨h.fd,G C ai⟩,h.ok,h.sl,h.nl,λf W=>h.inh f W.1⟩;cases aeL with
 |none=>exact j
 |some x=>
  refine⟨j.1,λg y=>⟨j.2.1 g y,?_⟩,?_⟩
  ·rcases j.1.2 with⟨P,-⟩|⟨g',X,α,P,-,Q,-⟩
   ·rw[P]at y;cases y
   rw[P]at y;injection y with y;subst y;exact G Q ai
  have i:=j.2.2;cases x with
  |app bx A l c=>exact⟨i.1,i.2.1,⟨i.2.2.1,G i.1 ai⟩,u i.2.1 i.2.2.2⟩
  |cut bf bn n=>exact⟨i.1,⟨i.2.1,G i.1.head ai⟩,⟨i.2.2,G i.1.drop.head ai⟩⟩
def jX.tightA{F:Nat->Prop}{d:Nat}{s:aV}{p:bJ}{b:List Int}(h:jX w F d s p b):jX w (λf=>F f/\∀cs,¬M w f 66 cs) d s p b:=by rcases h with⟨l,i⟩|⟨l,n,j,i,o⟩;exact .inl ⟨l,i.tightA⟩;exact .inr ⟨l,n,j,i.tightA,o⟩
def bO.tightA(w:D)(X:bO):bO:={X with R:=X.R.tight,F:=λb=>X.F b/\∀d,¬M w b 66 d}
def dq.tightA{k:Nat}{X:bO}{s:aV}{p:bJ}(h:dq w k X n s p):dq w k (X.tightA w) n s p/\(∀d,(X.tightA w).G d->X.G d)/\∀d cs,(X.tightA w).G d->¬M w d 66 cs:=by obtain⟨o,f,l⟩:=h.re.tightA;refine⟨⟨h.du,o,h.jo,h.dk.tightA,h.lv,h.uj,λhq=>h.uF hq.1,λhq=>h.jF hq.1,λhq=>h.uR (f _ hq),λhq=>h.jR (f _ hq),λd a b=>h.rF d (f d a) b.1⟩,λd hq=>?_,λd cs hq i=>?_⟩;rcases hq with hq|hq|hq|hq;exact .inl hq;exact .inr (.inl hq);exact .inr (.inr (.inl (f d hq)));exact .inr (.inr (.inr hq.1));rcases hq with hq|hq|hq|hq;have hq:d=X.u:=hq;subst hq;exact absurd (M.type_eq i h.du).1 ai;have hq:d=X.j:=hq;subst hq;exact absurd (M.type_eq i h.jo).1 ai;exact l d cs hq i;exact hq.2 cs i
def aJ.tightA(w:D)(C:aJ):aJ:={C with X:=λk=>(C.X k).tightA w}
def cE.tightA{C:aJ}(h:cE w0 w c C aeM):cE w0 w c (C.tightA w) aeM/\(∀d,(C.tightA w).G c d->C.G c d)/\∀d cs,(C.tightA w).G c d->¬M w d 66 cs:=by
 have l:∀k,k<6->∀d,((C.X k).tightA w).G d->(C.X k).G d:=λk f=>(h.si k f).tightA.2.1;refine⟨⟨h.blk,h.n1,h.n6,λk f=>(h.si k f).tightA.1,h.ne,h.ml,h.nw,h.cb,λk f d hq=>h.xb k f d (l k f d hq),λk f hq=>h.cx k f (l k f _ hq),h.cn,λj k u f s d a b=>h.xx j k u f s d (l j u d a) (l k f d b),λk f d a b=>h.xn k f d (l k f d a) b⟩,λd hq=>?_,λd cs hq o=>?_⟩;rcases hq with hq|⟨k,f,hq⟩|hq;exact .inl hq;exact .inr (.inl ⟨k,f,l k f d hq⟩);exact .inr (.inr hq);rcases hq with rfl|⟨k,f,hq⟩|hq;exact absurd (M.type_eq o h.blk).1 ai;exact(h.si k f).tightA.2.2 d cs hq o;rcases hq with rfl|hq|⟨x,hx,hq⟩;exact absurd (M.type_eq o h.ne.blk).1 ai
 ·replace hq:C.sv.ownBlock=some d:=hq;rcases h.ne.own.2 with⟨e,-⟩|⟨A,t,p,e,-,i,-⟩
  ·rw[e]at hq;cases hq
  rw[e]at hq;injection hq with hq;subst hq;exact absurd (M.type_eq o i).1 ai
 obtain⟨F,-,y⟩:=h.ne.evs.left hx;rcases y.own.2 with⟨e,-⟩|⟨A,t,p,e,-,i,-⟩
 ·rw[e]at hq;cases hq
 rw[e]at hq;injection hq with hq;subst hq;exact absurd (M.type_eq o i).1 ai
def dv.tightA{C:aJ}(h:dv C):dv (C.tightA w):=⟨λk b=>⟨(h.si k b).jb,(h.si k b).pb,(h.si k b).pd,(h.si k b).run,(h.si k b).pend,(h.si k b).led,(h.si k b).gn,(h.si k b).own⟩,h.ml⟩
def YL(C:aJ)(k:Nat)(x:bD)(b:aJ)(E:z)(e:Int):Prop:=
 (C.up k=false/\E=z.zero/\e=8)\/(C.up k=true/\su (C.X k).R.gn (bB (C.X k).R.m k x.ask).1 (bB (C.X k).R.m k x.ask).2.1 (bB (C.X k).R.m k x.ask).2.2 (C.s k) (C.p k) E e (b.X k) (b.s k) (b.p k))
def sx(C:aJ)(x:bD)(b:aJ)(E:z)(e:Int):Prop:=x.d=1->bo E.s/\((∃k:Nat,k<6/\x.w=(k:Int)+1/\YL C k x b E e)\/(¬(1<=x.w/\x.w<=6)/\E=z.zero/\e=10))
def pS(C:aJ)(x:bD)(b:aJ)(E:z)(e:Int):Prop:=
 (x.d≠1/\jr C b)\/(x.d=1/\dv b/\((b.aeR=C.aeR/\E=z.zero/\((∃k:Nat,k<6/\x.w=(k:Int)+1/\e=8)\/e=10))\/∃k:Nat,k<6/\x.w=(k:Int)+1/\∃f,b.aeR=ir C.aeR k f/\tM k x.ask (C.aeR k) f E e))
def pT.s{C p:aJ}(f:dv C)(h:pT C x p E e):pS C x p E e:=by by_cases i:x.d=1;refine .inr ⟨i,?_⟩;rcases h.2 i with⟨k,o,l,⟨-,b,j,rfl⟩|⟨t,F,y,A,u,rfl,-,b⟩⟩|⟨t,rfl,b,j⟩;exact⟨f,.inl ⟨rfl,b,.inl ⟨k,o,l,j⟩⟩⟩;exact⟨(b f).1,.inr ⟨k,o,l,u,O,(b f).2⟩⟩;exact⟨f,.inl ⟨O,b,.inr j⟩⟩;exact .inl ⟨i,h.1 i f⟩
def pT.p{C l:aJ}(t:∀k,k<6->(C.X k).R.m.ok)(G:x.ask.ok)(h:pT C x l E e):sx C x l E e:=λo=>by have b:bo z.zero.s:=⟨ai,ai⟩;rcases h.2 o with⟨k,f,j,h|⟨i,A,u,y,J,rfl,d,-⟩⟩|⟨i,-,d,F⟩;exact⟨h.2.1▸b,.inl ⟨k,f,j,.inl ⟨h.1,h.2.1,h.2.2.1⟩⟩⟩;refine⟨?_,.inl ⟨k,f,j,.inr ⟨i,?_⟩⟩⟩;rcases d.2 with⟨-,h,-⟩|⟨-,⟨-,h,-⟩|⟨-,h,-⟩,-⟩;rw[h];exact b;rw[h];exact(tc (t k f) f G).2.2.s;rw[h];exact b;show su _ _ _ _ _ _ _ _ (upd C.X k A k) (upd C.s k u k) (upd C.p k y k);rw[eD,eD,eD];exact d;exact⟨d▸b,.inr ⟨i,d,F⟩⟩
def pS.tight{C i:aJ}(h:pS C x i E e):pS C x (i.tightA w) E e:=by rcases h with⟨b,d,f⟩|⟨b,d,f⟩;exact .inl ⟨b,d.tightA,f⟩;exact .inr ⟨b,d.tightA,f⟩
def pS.sem{C b:aJ}(h:pS C x b E e):dv b:=by rcases h with⟨-,h,-⟩|⟨-,h,-⟩<;>exact h
def dW.sinceA{p i W:D}{u:Nat}{C j:aJ}{A:Nat->Prop}(o:S w p)(aeO:dW w0 p i c C j aeM)(g:fB [66] A u i W)(hF:∀d,¬A d)(hB:w0.heap.size<=u)(T:aa (C.G c) w W):
  dW w0 w W c C (j.tightA i) aeM/\∀d cs,(j.tightA i).G c d->¬M W d 66 cs:=by
 obtain⟨F,J,s⟩:=aeO.at_.tightA;have y:∀d,(j.tightA i).G c d->W.heap[d]? =i.heap[d]?:=λd f=>by rcases g.block d (F.inh d f)with h|⟨-,⟨cs,t,Q,l⟩,-⟩|h;exact h;rw[dd.1 Q]at l;exact absurd l (s d cs f);exact absurd h (hF d)
 have m:aa (λd=>w0.heap.size<=d/\¬(j.tightA i).G c d) i W:=⟨g.os,g.tape,g.output,g.size,λd f R=>by by_cases h:(j.tightA i).G c d;exact y d h;have K:d<w0.heap.size:=Nat.lt_of_not_le λP=>R ⟨P,h⟩;rcases g.block d f with h|⟨X,-⟩|h;exact h;omega;exact absurd h (hF d)⟩;refine⟨⟨F.mod m (λd a b=>b.2 a) λd h=>h.1,T,λd f=>?_,aeO.n⟩,λd cs f l=>s d cs f ((y d f).symm.trans l)⟩;rcases aeO.sub d (J d f)with h|h;exact .inl h;exact .inr (aZ o.size h)
def Sn{b:z}{d:Int}(h:Value.agg (bF E e)=.agg (bF b d)):E=b/\e=d:=by obtain⟨o,s,⟨T,Q,C,G,d4,X⟩,k,n,t,a,r,f⟩:=E;obtain⟨o',F,⟨p,i,j,l,y,u⟩,R,A,K,P,J,W⟩:=b;simp[bF]at h⊢;simp[h]
def vl(w0 w:D)(g c:Nat)(C:aJ)(N':Nat)(B:ez)(m:bV)(x:bD)(r:Ending)(w':D):Prop:=
 ∃E e f,r=.returned (.agg (bF E e))/\ig w0 w' g c f N' B (if x.d=1 then dz m x.w x.ask E e else m)/\aa (nP c C B g) w w'/\(sx C x f E e/\pS C x f E e)/\f.n=C.n/\∀b,f.G c b->C.G c b\/w.heap.size<=b
structure xY(w:D)(g c a b:Nat)(x:bD):Prop where
 c0:w.cell? (I g 0)=some (N c)
 c1:w.cell? (I g 1)=some (N a)
 fr:∀i,w.frozen? (I g i)=false
 lt:g<w.heap.size
 b0:w.cell? (I b 0)=some (.int .u8 x.d)
 b1:w.cell? (I b 1)=some (Z x.w)
 fb:∀i,w.frozen? (I b i)=false
 lb:b<w.heap.size
 ls:(dQ 58 (N b)).run prog w=.ok (.value (.agg (aX x))) w
 la:(dQ 55 (.pointer (some (I b 2)))).run prog w=.ok (.value (.agg (bE x.ask))) w
def xY.of{a b:Nat}(h:M w g 79 (xW c a))(d:M w b 58 (aX x)):xY w g c a b x:=
 ⟨h.cell 0,h.cell 1,h.frozen,h.lt,d.cell 0,d.cell 1,d.frozen,d.lt,k7 d,Gj d⟩
def GU{N':Nat}{C:aJ}(h:ig w0 w g c C aeM B m)(hG:dv C)(ox:x.ok)(ν:∀i,S w i->Calls prog 29 #[N c,.agg (aX x)] i (d6 w0 i c C N' (pT C x))):
  Calls prog 14 #[N g,.agg (aX x)] w (vl w0 w g c C N' B m x):=by
 obtain⟨W0,P,B0,D0⟩:=oC w 58 (aX x) 66 (bF z.zero 0);have h0:=h.call D0;have ι:∀f,nP c C B g f->f<w.heap.size:=λf hq=>by rcases hq with rfl|hq|hq;exact h.blk.lt;exact h.cl.inh f hq;exact h.au.inh f hq
 have HF:=U (λ(i:D) (hm:aa (C.G c) W0 i)=>xY.of (hm.blk h0.blk h0.gc) (hm.blk B0.drop.head λhG=>aA (ι _ (.inr (.inl hG)))));have CA:=U (λ(i:D) (Q:S W0 i)=>ν i (D0.trans (Q.mono D0.size)));have K:=U (show∀f,C.G c f->f<W0.heap.size from λf hq=>h0.cl.inh f hq);have HW:=U P;have j:=cQ h0 B0 D0 ι;have HG:=U hG;clear h ν hG B0 D0 h0 ι P;go_in;go_upto_region 1 with fail;refine dI HW.o ?_;clear HW;go_upto_region 3 with fail;refine dL [66] (C.G c) 5 K.o Y Y ?_
 iterate 5
  first
  |refine gS rfl ?_;apply cV
   intro _ ρ η β δ W Q;have hq:=HF.o W Q;simp[execOp,go_sem,η,β,δ,hq,hq.c0,hq.fr,hq.lt,hq.fb,hq.lb,hq.ls]<;>exact O
  |refine gz (λ_=>rfl) ?_
  simp only[aD]
 refine jl (λ_=>rfl) O 29 (λ_=>#[N c,.agg (aX x)]) (λv:z×Int=>.agg (bF v.1 v.2)) (z.zero,0) (λi v Y'=>∃E e C',v=.agg (bF E e)/\dW w0 i Y' c C C' N'/\pT C x C' E e) cK (λ_ i Q=>?ca) ?_
 case ca=>refine(CA.o i Q).mono ?_;rintro r Y' ⟨E,e,C',rfl,hS,hQ⟩;exact⟨(E,e),O,⟨E,e,C',O,hS,hQ⟩,hS.mod⟩
 simp only[aD];refine ng (λ_=>rfl) 66 (bF z.zero 0) nK ?_;simp only[aD];refine o8 (λ_=>rfl) 6 66 66 15 _ _ O ai O ah K.o _ _ _ (λ_=>rfl) (λ_=>rfl) cD (fJ z.zero 0) (λ_=>rfl) (λ_=>FJ _ _) ?_;simp only[aD];refine cT Y ?_;rintro⟨⟨_,⟨E,e⟩⟩,v⟩ J u hR;replace u:aa (C.G c) W0 J:=u
 try dsimp only
 simp only[d8,Nat.reduceAdd,cA]at hR;obtain⟨w1,w2,α,-,⟨E',e',C',t,hS,hQ⟩,g4⟩:=fK (hR 5 _ _ cD) O;obtain⟨b5,v',hx,n6,B6⟩:∃g v',[v,Value.agg (bF E e)]=[N g,v']/\W0.heap.size<=g/\M J g 66 (Value.toArr v'):=hR 7 _ _ cD;injection hx with h6 ε;injection ε with ε;subst h6 ε;replace B6:M J b5 66 (bF E e):=B6;obtain⟨rfl,rfl⟩:=Sn t;have hP:=hQ.p (λk hk=>(j.o.1.cl.si k hk).re.ok) ox.ask;obtain⟨X,hA⟩:=dW.sinceA (α O) hS g4 (λ_ h=>h.1 O) j.o.1.cl.ne.T.below.size u;have θ:sx C x (C'.tightA w2) E e/\pS C x (C'.tightA w2) E e:=⟨hP,(hQ.s HG.o).tight⟩;have y:=X.sub;have ζ:¬(C'.tightA w2).G c (w.heap.size+1):=λhG=>hA _ _ hG (u.blk j.o.2.1.head λh=>aA (j.o.2.2.2 _ (.inr (.inl h))));generalize C'.tightA w2=C2 at X hA θ y ζ;have σ:=j.o.2.2.1.size;have h2:ig w0 J g c C2 N' B m:=⟨u.blk j.o.1.blk j.o.1.gc,X.at_,j.o.1.au.mod u j.o.1.ca.symm,j.o.1.ok,j.o.1.gb,j.o.1.ab,λhG=>by
  rcases y g hG with h|h;exact j.o.1.gc h;have:=j.o.2.2.2 g (.inl O);omega,j.o.1.ga,λf a b=>by
  rcases y f a with h|h;exact j.o.1.ca f h b;have:=j.o.2.2.2 f (.inr (.inr b));omega⟩
 have hr:M J (w.heap.size+1) 66 (bF z.zero 0):=u.blk j.o.2.1.head λh=>aA (j.o.2.2.2 _ (.inr (.inl h)));have hs:M J w.heap.size 58 (aX x):=u.blk j.o.2.1.drop.head λh=>aA (j.o.2.2.2 _ (.inr (.inl h)));have m0:aa (nP c C B g) w J:=(aa.of_below j.o.2.2.1).trans (u.mono λf hq=>.inr (.inl hq));have μ:=U ζ;have γ:=U θ;have ξ:=aB X.n (show∀f,C2.G c f->C.G c f\/w.heap.size<=f from λf hq=>(y f hq).imp id λh=>aZ σ h);have k0:J.cell? (I w.heap.size 0)=some (.int .u8 x.d):=hs.cell 0;have l:=iA h2 m0 hs B6 hr;have N6:=U n6;clear u hR α hS hQ g4 n6 B6 t hP X hA θ y ζ h2 hr hs m0 HF CA K σ;by_cases hd:x.d=1
 ·have φ:(x.d==1)=true:=az hd;have κ:=l.o.1.au;have R:∀f,w.heap.size<=f->¬B.F f:=λf h1 h2=>aA (j.o.2.2.2 f (.inr (.inr h2)));have P:=j.o.2.2.1.size;have HF:=U (λ(i:D) (hm:aa B.F J i)=>ar (xY.of (hm.blk l.o.1.blk l.o.1.ga) (hm.blk l.o.2.2.1 (R _ (ao _)))) (ar (xF (hm.blk l.o.2.2.2.1 (R _ (aZ P N6.o)))) (hm.blk l.o.2.2.2.1 (R _ (aZ P N6.o))).lt));have CA:=U (λ(i:D) (Q:S J i)=>XN (κ.call Q) ox.w ox.ask (γ.o.1 hd).1 (e:=e));have K:=U (show∀f,B.F f->f<J.heap.size from λf hq=>κ.inh f hq);have π:=U R;clear κ R P;go_upto_region 5 with fail;refine dL [] B.F 9 K.o Y Y ?_
  iterate 9
   first
   |refine gS rfl ?_;apply cV
    intro _ ρ η β δ W Q;have hq:=HF.o W Q;simp[execOp,go_sem,η,β,δ,hq,hq.1.c1,hq.1.fr,hq.1.lt,hq.1.fb,hq.1.lb,hq.1.b1,hq.1.la,hq.2.1,hq.2.2]<;>exact O
   |refine gz (λ_=>rfl) ?_
   simp only[aD]
  refine jl (λ_=>rfl) O 30 (λ_=>#[N B.b,Z x.w,.agg (bE x.ask),.agg (bF E e)]) (λ_:Unit=>.tuple #[]) () (λi v Y'=>ny i B (dz m x.w x.ask E e) (.returned v) Y') cK (λ_ i Q=>?cb) ?_
  case cb=>refine(CA.o i Q).mono ?_;rintro r Y' ⟨rfl,h1,h2⟩;exact⟨(),O,⟨O,h1,h2⟩,h2⟩
  simp only[aD];refine cT Y ?_;rintro⟨_,_⟩ W4 u hR;replace u:aa B.F J W4:=u
  try dsimp only
  simp only[d8,Nat.reduceAdd,cA]at hR;obtain⟨w3,w4,α,-,⟨-,g3,-⟩,g4⟩:=fK (hR 9 _ _ cD) O;have h4:ig w0 W4 g c C2 N' B (dz m x.w x.ask E e):=⟨u.blk l.o.1.blk l.o.1.ga,l.o.1.cl.mod u l.o.1.ca l.o.1.ab,g3.call (g4.below λ_ h=>h.1 O),Rc l.o.1.ok ox.ask,l.o.1.gb,l.o.1.ab,l.o.1.gc,l.o.1.ga,l.o.1.ca⟩;have HE:=aB h4 (l.o.2.1.trans' u λf _ hq=>.inr (.inr hq));have A:=aB (u.blk l.o.2.2.2.1 (π.o _ (aZ j.o.2.2.1.size N6.o))) (u.blk l.o.2.2.2.2 (π.o _ (qi _)));clear u hR α g3 g4 h4 HF CA K k0;have τ:=xF A.o.1;have υ:=gh A.o.2 O E e;have m3:aa (aR (w.heap.size+1)) W4 (World.setRow W4 (w.heap.size+1) (bF E e)):=aa.of_fr1 (fl W4 _ _) O;have hE:=HE.o.1.mod m3 (λf hq t=>by
   have t:f=w.heap.size+1:=t;subst t;rcases hq with hq|hq|hq;have:=j.o.2.2.2 g (.inl rfl);omega;exact μ.o hq
   ·have:=j.o.2.2.2 _ (.inr (.inr hq));omega) λf t=>by
   have t:f=w.heap.size+1:=t;have:=j.o.2.2.2 g (.inl O);have:=j.o.1.gb;omega
  have hM:=HE.o.2.trans' m3 λf hq t=>by have t:f=w.heap.size+1:=t;omega
  have HX:=aP (dt A.o.2 (bF E e)) hE hM;clear m3 hE hM;go_wp2_with fail;exact eI (s:=4) results14 O HX.o.1 underlying66 O (fJ _ _) O ⟨E,e,C2,O,by rw[av hd];exact HX.o.2.1,HX.o.2.2,γ.o,ξ.o⟩
 have φ:(x.d==1)=false:=az hd;have HE:=aB l.o.1 l.o.2.1;have A:=aB l.o.2.2.2.1 l.o.2.2.2.2;have τ:=xF A.o.1;have υ:=gh A.o.2 O E e;have m3:aa (aR (w.heap.size+1)) J (World.setRow J (w.heap.size+1) (bF E e)):=aa.of_fr1 (fl J _ _) O;have hE:=HE.o.1.mod m3 (λf hq t=>by
  have t:f=w.heap.size+1:=t;subst t;rcases hq with hq|hq|hq;have:=j.o.2.2.2 g (.inl rfl);omega;exact μ.o hq
  ·have:=j.o.2.2.2 _ (.inr (.inr hq));omega) λf t=>by
  have t:f=w.heap.size+1:=t;have:=j.o.2.2.2 g (.inl O);have:=j.o.1.gb;omega
 have hM:=HE.o.2.trans' m3 λf hq t=>by have t:f=w.heap.size+1:=t;omega
 have HX:=aP (dt A.o.2 (bF E e)) hE hM;clear m3 hE hM;go_wp2_with fail;exact eI (s:=4) results14 O HX.o.1 underlying66 O (fJ _ _) O ⟨E,e,C2,O,by rw[al hd];exact HX.o.2.1,HX.o.2.2,γ.o,ξ.o⟩
def xO{C:aJ}(h:ig w0 w g c C aeM B m)(j:dv C)(t:50000<=aeM/\aeM+64<=100000)(p:dr w)(s:2<w0.heap.size/\1<w0.heap.size)(b:x.d≠12)(i:x.ok)(l:x.At w):
  Calls prog 14 #[N g,.agg (aX x)] w (vl w0 w g c C (aeM+64) B m x):=GU h j i λo f=>YA (h.cl.call f) j b t (p.call' f) s i (l.call f)
def VM{C:aJ}(h:ig w0 w g c C aeM B m)(o:dv C)(F:50000<=aeM/\aeM<=100000)(u:dr w)(A:2<w0.heap.size/\1<w0.heap.size)(l:x.d≠1)(y:x.d≠4)(f:x.d≠12)(j:x.ok)(p:x.At w):
  Calls prog 14 #[N g,.agg (aX x)] w (vl w0 w g c C aeM B m x):=GU h o j λt i=>(G6 (h.cl.call i) o l y f F (u.call' i) A j (p.call i)).mono λr w' b=>b.to (ao _) λ_ _ _ s=>.of l s
def aaz{α β:Type}[DecidableEq α](L:List (α×β))(a:α)(v:β):putL (putL L a v) a v=putL L a v:=by
 unfold putL;have:dropL ((a,v)::dropL L a) a=dropL L a:=by unfold dropL;rw[lC,al ah,List.filter_filter];simp
 rw[this]
def MP{b:Int}{a:dT}{d:z}(hk:a.k=3\/a.k=4):dz (dz m b a E 0) b a d 0=dz m b a E 0:=by
 have j:a.k=3->∀(m:bV) (E:z),dz m b a E 0=if(lk m.ta (b,a.r)).isSome=true then m else{m with ta:=putL m.ta (b,a.r) (a.n,if a.a=dB a.a then a.a else 0)}:=λh m E=>by unfold dz;rw[al V,al V,al V,av h];simp
 have l:a.k=4->∀(m:bV) (E:z),dz m b a E 0={m with ba:=putL m.ba (b,a.f) true}:=λh m E=>by unfold dz;rw[al V,al V,al V,al V,av h]
 rcases hk with hk|hk
 ·rw[j hk _ d,j hk m E];by_cases i:(lk m.ta (b,a.r)).isSome=true;rw[av i,av i];rw[al i,av (by rw[Jj];rfl)]
 rw[l hk _ d,l hk m E];simp only[aaz]
