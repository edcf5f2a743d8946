import Derived.Test.YtghdobdjfnimmaaGreatDoorZ24
set_option maxRecDepth 100000
set_option maxHeartbeats 0
set_option linter.all false
namespace Go.Proofs.YtghdobdjfnimmaaGreatDoor
open Go.Proofs.Tryz
variable{w:Yu}{base bl:Nat}{v:Yv}{L:List cJ}
section
open Go.RowKit Go
abbrev qE(w:Yu)(base:Nat)(v:Yv)(L:List cJ):Prop:=Row w base 42 6 cQ v L
theorem AX(x:cJ):∀u∈(cQ x).toList,u.oneCell'=true:=by
 intro u a;simp[cQ]at a;rcases a with rfl|rfl|rfl|rfl|rfl|rfl<;>rfl
theorem Lu:(prog.info? 42).map (λi=>(i.zero,i.size,i.bytes))=some (some (.agg #[.int .u8 0,.int .u64 0,.int .i64 0,.int .i64 0,.int .u64 0,.int .u64 0]),6,48):=by kernel_rfl
theorem qE.app{B:Nat}{A:Option Addr}{cap:Nat}(ty:Yw){M:List cJ}(h:qE w base v L)(g:Rd w B 6 A M.length (cC cQ M))(k:L.length+M.length<=1000000)(a:base<=w.heap.size):
  ∃c w',(iy 319 ty v (.slice A M.length cap)).run prog w=.ok (.value c) w'/\qE w' base c (L++M)/\Kt base [42] w w'/\w.grownBy w' v.ownBlock/\(c.ownBlock=v.ownBlock\/∀b,c.ownBlock=some b->w.heap.size<=b):=by
 obtain⟨d,j,e,f,i⟩:=V7 Lu;exact Row.app w 319 ty d _ 48 underlying319 j e f i rfl (by decide) mN AX h (cap:=cap) g k (by decide) a
def MV(x y z u:Yv):Sem Next:=do pure (.value (<-Instr.build 42 #[(0,x),(1,y),(2,z),(3,u)]))
def MY(x:Yv):Sem Next:=do pure (.value (<-Instr.build 42 #[(0,x)]))
section
variable(ρ:Yx->Yv)(dst:Option Tmp)(x y z u:Yx)(ty:Yw)(pos:String)(after:Array Edge)(guard:Option (Nat×Bool))
@[go_sem ↓ high] theorem Js:execOp ρ {dst,op:=.call {callee:=.builtin .append,args:=#[x,y],argTypes:=#[319,319]},type:=ty,pos,after,guard}=iy 319 ty (ρ x) (ρ y):=by simp[execOp,iy,resolve,invoke,builtin]
@[go_sem ↓ high] theorem G9:execOp ρ {dst,op:=.buildSlice 319 1 #[(0,x)],type:=ty,pos,after,guard}=iJ 319 (ρ x):=by simp[execOp,iJ]
@[go_sem ↓ high] theorem Jo:execOp ρ {dst,op:=.build 42 #[(0,x),(1,y),(2,z),(3,u)],type:=ty,pos,after,guard}=MV (ρ x) (ρ y) (ρ z) (ρ u):=by simp[execOp,MV]
@[go_sem ↓ high] theorem Jp:execOp ρ {dst,op:=.build 42 #[(0,x)],type:=ty,pos,after,guard}=MY (ρ x):=by simp[execOp,MY]
end
@[go_sem] theorem Og(k n t a:Int)(w:Yu):(MV (.int .u8 k) (.int .u64 n) (.int .i64 t) (.int .i64 a)).run prog w=.ok (.value (.agg (cQ ⟨k,n,t,a,0,0⟩))) w:=by kernel_rfl
@[go_sem] theorem Oh(k:Int)(w:Yu):(MY (.int .u8 k)).run prog w=.ok (.value (.agg (cQ ⟨k,0,0,0,0,0⟩))) w:=by kernel_rfl
@[go_sem] theorem Nz(x:cJ)(w:Yu):(iJ 319 (.agg (cQ x))).run prog w=.ok (.value (.slice (some ⟨w.heap.size,0,none⟩) 1 1)) (w.alloc (.cells (cQ x) 42)):=by kernel_rfl
structure JI(w:Yu)(base bl:Nat)(v:Yv)(L:List cJ):Prop where
 blk:ai w bl 319 #[v]
 row:qE w base v L
 ok:∀a∈L,a.ok
def Tw(bl:Nat)(v:Yv):Nat->Prop:=λg=>g=bl\/v.ownBlock=some g
def QE(w w':Yu)(base bl:Nat)(v:Yv)(n:Nat):Prop:=∃a L',JI w' base bl a L'/\L'.length<=n+1/\ah (Tw bl v) w w'/\(a.ownBlock=v.ownBlock\/∀b,a.ownBlock=some b->w.heap.size<=b)
theorem JI.call{w':Yu}(h:JI w base bl v L)(a:Ys w w'):JI w' base bl v L:=⟨h.blk.call a,Row.call h.row a,h.ok⟩
theorem JI.put(h:JI w base bl v L)(t:L.length<=900000)(j:base<=w.heap.size){a:cJ}(o:a.ok):
  ∃(d:Option Addr) (n' c:Nat) (w':Yu),(iy 319 319 v (.slice (some ⟨w.heap.size,0,none⟩) 1 1)).run prog (w.alloc (.cells (cQ a) 42))=.ok (.value (.slice d n' c)) w'/\ai w' bl 319 #[v]/\bl<w'.heap.size/\QE w (w'.setCell ⟨bl,0,none⟩ (.slice d n' c)) base bl v L.length:=by
 have g:Ys w (w.alloc (.cells (cQ a) 42)):=(Vd _ _).alloc (Vc _) _;have r:ai (w.alloc (.cells (cQ a) 42)) w.heap.size 42 (cQ a):=ai.new _ _ _;obtain⟨s,w',l,i,n,q,k5⟩:=qE.app 319 (Row.call h.row g) (A:=some ⟨w.heap.size,0,none⟩) (cap:=1) (dU mN r) (by simp;omega) (by have:=g.size;omega);simp only[VB,VR,Vk]at l;have e:=n.blk _ _ _ (h.blk.call g) (by decide);obtain⟨d,c,rfl,-,-⟩:=i.sl;refine⟨d,(L++[a]).length,c,w',l,e,e.lt,Value.slice d (L++[a]).length c,L++[a],⟨?_,?_,λx hx=>?_⟩,by simp,?_,?_⟩
 ·have:=e.set_ 0 (.slice d (L++[a]).length c)
  simpa using this
 ·have f:Fr w' (w'.setCell ⟨bl,0,none⟩ (.slice d (L++[a]).length c)) bl none:=Fr.of_set (w:=w') ⟨bl,0,none⟩ rfl _
  exact f.own i (Row.ne_box i e (by decide)) (by cases(Value.slice d (L++[a]).length c).ownBlock<;>simp)
 ·rcases Vw.1 hx with hx|hx
  ·exact h.ok x hx
  ·rw[VH.1 hx];exact o
 ·have p:ah (Tw bl v) w w':=(ah.of_below (F:=Tw bl v) g).trans (ah.of_grown q λk m=>.inr m)
  exact p.setOld ⟨bl,0,none⟩ (.inl (.inl rfl)) _
 ·rcases k5 with k5|k5
  ·exact .inl k5
  ·exact .inr λb e=>Vi g.size (k5 b e)
theorem Gy{O Y:Nat}{d:Int}(h:JI w base bl v L)(hn:L.length<=900000)(c:base<=w.heap.size){k:Nat}(hk:k<6)(H:aD w [(O,3,#[.int .i64 ((k:Int)+1)]),(Y,3,#[.int .i64 d])])(K:od d)(x:Nd)(R:xU x.id):
  Yt 211 #[.agg (jG x),Yr O,Yr bl,Yr Y] w λr w'=>r=.returned (.tuple #[])/\QE w w' base bl v L.length:=by
 obtain⟨A0,c0,rfl,-,-⟩:=h.row.sl;have F:Ys w (w.alloc (.cells (jG x) 82)):=(Vd _ _).alloc (Vc _) _;have i:=(H.push (t:=82) (cs:=jG x) (g:=w.heap.size) rfl);have m:=fG (w:=w.alloc (.cells (jG x) 82)) (g:=w.heap.size) (o:=2) (f:=x.r) (λj u hu=>by rw[i.head.cell,Iw];exact hu);generalize hW:w.alloc (.cells (jG x) 82)=W0 at m F i;obtain⟨J,M,C,A,Z,S,-⟩:=i.rules;obtain⟨N,V,W,-⟩:=i.lts;have B:=U9 (Vb i F);have T:=U9 (Vb h (Vb H K));have HU:=U9 R;have y0:=Cv x;have P:=U9 (mE x.r k hk W0);clear i F h H K R;go_enter func211,ntmps211;go_wp2_with fail;refine P.o.mono ?_;rintro r w2 ⟨rfl,e⟩;obtain⟨n,q⟩:∃n,dF x.r k=n:=⟨_,rfl⟩;rw[q];clear J M C A Z S N V W m hW;have D:=B.o.2.trans (e.mono B.o.2.size);have p:=T.o.1.call D;have I:=B.o.1.call e;obtain⟨J,M,C,A,Z,S,-⟩:=I.rules;obtain⟨N,V,W,-⟩:=I.lts;have q3:=p.blk.cell;have f3:=p.blk.frozen;have l3:=p.blk.lt;have l:=U9 (Vb D p);clear D p I e P q;by_cases a:n>0
 ·have d1:decide (n>0)=true:=Vg a
  have d2:decide (0<n)=true:=Vg a;have U:cJ.ok ⟨5,x.id,d,min n 1125899906842624,0,0⟩:=⟨⟨by show(0:Int)<=5;omega,by show(5:Int)<=255;omega⟩,HU.o,T.o.2.2,⟨by show -9223372036854775808<=min n 1125899906842624;omega,by show min n 1125899906842624<=9223372036854775807;omega⟩,⟨by show(0:Int)<=0;omega,by show(0:Int)<=18446744073709551615;omega⟩,⟨by show(0:Int)<=0;omega,by show(0:Int)<=18446744073709551615;omega⟩⟩;obtain⟨A',n',c',w3,k1,s,k3,X⟩:=l.o.2.put hn (Vi c l.o.1.size) U;have HK:=U9 (Vb s X);have q4:=s.cell;have f4:=s.frozen;clear s X U a;obtain⟨Q,E⟩:∃Q,min n 1125899906842624=Q:=⟨_,rfl⟩;rw[E]at k1;clear C A;go_wp2_with fail
  go_end0
  refine⟨rfl,?_⟩;obtain⟨G,L',h1,h2,h3,h4⟩:=HK.o.2;refine⟨G,L',h1,h2,(ah.of_below l.o.1).trans h3,?_⟩;rcases h4 with h4|h4
  ·exact .inl h4
  ·exact .inr λb hb=>Vi l.o.1.size (h4 b hb)
 ·have d1:decide (n>0)=false:=Vj a
  have d2:decide (0<n)=false:=Vj a;clear a;go_wp2_with fail
  go_end0
  exact⟨rfl,_,L,l.o.2,by omega,ah.of_below l.o.1,.inl rfl⟩
def Fk(N:List Nd)(w:Yu)(r:Ending)(w':Yu):Prop:=∃u L,∃e:Int,r=.returned (.tuple #[u,.int .i64 e])/\qE w' w.heap.size u L/\L.length<=N.length+1/\(∀a∈L,a.ok)/\Ys w w'
structure UA(w:Yu)(bl:Nat)(inn:Nat->Bool)(kn:av)(vN vG:Yv)(i t:Int)(k:Nat)(v:Yv)(L:List cJ)(wr:Yu):Prop where
 ak:JI wr (bl+1) bl v L
 len:L.length<=k
 bs:aD wr [(w.heap.size+1,3,#[.int .i64 i]),(w.heap.size+2,3,#[.int .i64 t])]
 lt:w.heap.size+2<bl
 below:Ys w wr
theorem K0{inn:Nat->Bool}{kn:av}{vN vG:Yv}{N:List Nd}(hN:eM w base vN N)(hn:N.length<=800000)(hid:∀x∈N,xU x.id)(i t:Int)(ht:od t):Yt 194 #[.agg (cy inn kn vN vG),.int .i64 i,.int .i64 t] w (Fk N w):=by
 obtain⟨A,c,rfl,hc,O⟩:=hN.sl;have D0:Ys w (w.alloc (.cells (cy inn kn (.slice A N.length c) vG) 38)):=(Vd _ _).alloc (Vc _) _;have B0:aD (w.alloc (.cells (cy inn kn (.slice A N.length c) vG) 38)) [(w.heap.size,38,cy inn kn (.slice A N.length c) vG)]:=aD.nil.push rfl;have C:=B0.push (t:=3) (cs:=#[.int .i64 i]) (g:=w.heap.size+1) (by simp);have B2:=C.push (t:=3) (cs:=#[.int .i64 t]) (g:=w.heap.size+2) (by simp);have D2:=(D0.alloc (by simp) (.cells #[.int .i64 i] 3)).alloc (by simp;omega) (.cells #[.int .i64 t] 3);generalize hW:((w.alloc (.cells (cy inn kn (.slice A N.length c) vG) 38)).alloc (.cells #[.int .i64 i] 3)).alloc (.cells #[.int .i64 t] 3)=W at B2 D2;have K:=dG (P:=prog) (B2.drop.drop).head underlying38 rfl (dn inn kn (.slice A N.length c) vG);have HB:=U9 (Vb B2 D2);have Y:=U9 (Vb hN (Vb hid ht));have CL:=U9 (Ix (w:=W) (inn:=inn) (kn:=kn) (vN:=.slice A N.length c) (vG:=vG));clear D0 B0 C B2 D2 hN hid ht;go_enter func194,ntmps194;go_wp2_with fail;refine CL.o.mono ?_;rintro r E ⟨u,Lv,rfl,l,υ,m,hb⟩;obtain⟨A1,c1,rfl,χ,φ⟩:=l.sl;have C:=HB.o.1.call hb;have D1:=HB.o.2.trans (hb.mono HB.o.2.size);obtain⟨q2,f2,q1,f1,q0,f0,-⟩:=C.rules;obtain⟨l2,l1,l0,-⟩:=C.lts;obtain⟨ci,D⟩:∃b,decide (i∈Lv)=b:=⟨_,rfl⟩;obtain⟨ct,T⟩:∃b,decide (t∈Lv)=b:=⟨_,rfl⟩;have Z:=U9 (mT l (by omega) i ci D);have CT:=U9 (mT l (by omega) t ct T);have X:=U9 (Vb D m);have F:=U9 (Vb C D1);clear K hW CL l hb C D1 D T m HB;cases ci with
 |false=>
  go_wp2_with (go_at_call 210;refine Z.o.mono ?_;rintro r s ⟨rfl,rfl⟩);go_ret2;exact⟨_,[],10,rfl,Row.nil,by simp,by simp,F.o.2⟩
 |true=>
  obtain⟨di,β⟩:∃b,(i==t)=b:=⟨_,rfl⟩;cases ct with
  |false=>
   clear β;go_wp2_with (go_at_call 210;first|(refine Z.o.mono ?_;rintro r s ⟨rfl,rfl⟩)|(refine CT.o.mono ?_;rintro r s ⟨rfl,rfl⟩));go_ret2;exact⟨_,[],10,rfl,Row.nil,by simp,by simp,F.o.2⟩
  |true=>
   cases di with
   |true=>
    go_wp2_with (go_at_call 210;first|(refine Z.o.mono ?_;rintro r s ⟨rfl,rfl⟩)|(refine CT.o.mono ?_;rintro r s ⟨rfl,rfl⟩));go_ret2;exact⟨_,[],10,rfl,Row.nil,by simp,by simp,F.o.2⟩
   |false=>
    go_wp2_with (go_at_call 210;first|(refine Z.o.mono ?_;rintro r s ⟨rfl,rfl⟩)|(refine CT.o.mono ?_;rintro r s ⟨rfl,rfl⟩))
    go_loopw [34] (λv wr=>∃(f:Nat) (vl:Yv) (L:List cJ),f<=N.length/\v=.int .i64 f/\UA w E.heap.size inn kn (.slice A N.length c) vG i t f vl L wr) (λv _=>N.length-(intOf v).toNat)
    case atStart=>
     refine⟨0,_,[],by omega,rfl,⟨ai.new _ _ _,Row.nil,by simp⟩,by simp,?_,l2,F.o.2.trans ((Vd _ _).alloc F.o.2.size _)⟩;exact(F.o.1.alloc _).perm (by
      intro x hx;simp only[Vy,WM,WR]at hx⊢;rcases hx with h|h<;>simp[h])
    case round=>
     obtain⟨f,vl,L,π,rfl,d⟩:=hrel;by_cases ξ:f<N.length
     ·have hd:decide ((f:Int)<N.length)=true:=Vg (by omega)
      obtain⟨y,hy⟩:∃y,N[f]? =some y:=⟨N[f],Ve (by omega)⟩;obtain⟨g,cap,hs,J,δ,θ,ν⟩:=Y.o.1.sl_pos (by omega);obtain⟨rfl,ζ⟩:A=some ⟨g,0,none⟩/\c=cap:=by injection hs with a b c;exact⟨a,c⟩
      have m:=(Row.call Y.o.1 d.below).rng eJ hy;have K:=aY (P:=prog) m underlying82 rfl (ki y);obtain⟨W3,σ,B3,D3,z3⟩:=vt y wr;have τ:=dG (P:=prog) B3 underlying82 rfl (ki y);obtain⟨k,γ,rfl⟩:∃k:Nat,k<6/\i=(k:Int)+1:=⟨(i-1).toNat,by have:=X.o.2 i (by simpa using X.o.1);omega,by have:=X.o.2 i (by simpa using X.o.1);omega⟩;have Q:=d.lt;have α:=d.len;have η:=d.below.size;have CM:=U9 (Gy (d.ak.call D3) (by omega) (by have:=d.ak.blk.lt;omega) γ (d.bs.call D3) Y.o.2.2 y (Y.o.2.1 y (Vn hy)));have B:=U9 (Vb d D3);have l3:=B3.lt;clear d m hs J δ θ ζ hy B3 D3;go_wp2_with fail;refine CM.o.mono ?_;rintro r s ⟨rfl,v',L',hA,hl,O,ι⟩;have n:=B.o.1.ak.row.ge;have R:UA w E.heap.size inn kn (.slice (some ⟨g,0,none⟩) N.length c) vG ((k:Int)+1) t (f+1) v' L' s:=⟨hA,by omega,(B.o.1.bs.call B.o.2).mod O ⟨λhF=>by
        rcases hF with hF|hF
        ·omega
        ·have:=(n _ hF).1;omega,λhF=>by
        rcases hF with hF|hF
        ·omega
        ·have:=(n _ hF).1;omega,trivial⟩,Q,(B.o.1.below.trans (B.o.2.mono η)).trans (O.belowB (λj V hF=>by
        rcases hF with hF|hF
        ·omega
        ·have:=(n _ hF).1;omega) (by have:=B.o.2.size;omega))⟩
      have H2:=U9 R;clear hA hl O ι n R CM;go_wp2_with fail;go_roundw
      case rel=>exact⟨f+1,v',L',by omega,by go_num,H2.o⟩
      case measure=>simp[intOf];omega
     ·obtain rfl:f=N.length:=by omega
      have hd:decide ((N.length:Int)<N.length)=false:=Vj (by omega);have Q:=d.lt;have α:=d.len;have I:cJ.ok ⟨7,0,0,0,0,0⟩:=⟨by decide,by decide,by decide,by decide,by decide,by decide⟩;obtain⟨A0,c0,rfl,-,-⟩:=d.ak.row.sl;obtain⟨U,n',S,M,k1,f,k3,ε,L',G,h2,p,h4⟩:=d.ak.put (by omega) (by have:=d.ak.blk.lt;omega) I;have q4:=d.ak.blk.cell;have f4:=d.ak.blk.frozen;have l4:=d.ak.blk.lt;have B:=U9 (Vb d (Vb G (Vb h2 p)));clear d G h2 p h4 I;go_wp2_with fail;go_ret2;obtain⟨d,G,h2,p⟩:=B.o;have H:∀j,j≠E.heap.size->(M.setCell ⟨E.heap.size,0,none⟩ (.slice U n' S)).heap[j]? =M.heap[j]?:=λj V=>Xx M ⟨E.heap.size,0,none⟩ _ j V
      have κ:(M.setCell ⟨E.heap.size,0,none⟩ (.slice U n' S)).heap.size=M.heap.size:=by simp
      have hv:ε=.slice U n' S:=by
       have e:=(ai.type_eq G.blk (f.set_ 0 (.slice U n' S))).2;simpa using e
      have μ:=d.below.size;have O:=p.size;refine⟨_,L',0,rfl,?_,by omega,G.ok,⟨p.os.trans d.below.os,p.tape.trans d.below.tape,p.output.trans d.below.output,by omega,λj V=>?_⟩⟩
      ·refine Row.mono (base:=w.heap.size) (Row.blocks (hv▸G.row) λq cs hq=>?_) (by omega)
       by_cases e:q=E.heap.size
       ·subst e
        exact absurd (ai.type_eq hq (f.set_ 0 (.slice U n' S))).1 (by decide)
       ·exact(H q e).symm.trans hq
      ·rw[<-H j (by omega)]
       exact(p.block j (by omega) λhF=>by
        rcases hF with hF|hF
        ·omega
        ·have:=(d.ak.row.ge _ hF).1;omega).trans (d.below.block j V)
end
