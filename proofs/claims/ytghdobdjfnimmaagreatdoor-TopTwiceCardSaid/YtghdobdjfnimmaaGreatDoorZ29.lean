import Derived.Test.YtghdobdjfnimmaaGreatDoorZ28
set_option maxRecDepth 100000
set_option maxHeartbeats 0
set_option linter.all false
namespace Go.Proofs.YtghdobdjfnimmaaGreatDoor
open Go.Proofs.Tryz
variable{w:Yu}{k n r c bu bn:Nat}{s:cE}{p:Pw}{now:Int}{A:Option Addr}{R:List cE}
section
open Go.RowKit Go
section
variable(ρ:Yx->Yv)(dst:Option Tmp)(x y:Yx)(ty:Yw)(pos:String)(after:Array Edge)(guard:Option (Nat×Bool))
@[go_sem ↓ high] theorem G8:execOp ρ {dst,op:=.buildSlice 132 1 #[(0,x)],type:=ty,pos,after,guard}=iJ 132 (ρ x):=by simp[execOp,iJ]
end
@[go_sem] theorem Ny(x:Ev)(w:Yu):(iJ 132 (.agg (ao x))).run prog w=.ok (.value (.slice (some ⟨w.heap.size,0,none⟩) 1 1)) (w.alloc (.cells (ao x) 53)):=by kernel_rfl
theorem bA.brows{l:List Int}(h:bA w A l c):gM w w.heap.size A l:=λe=>by
 obtain⟨b,o,cs,rfl,f,g⟩:=h.blk e;exact⟨b,o,rfl,f.lt,λi x m=>by rw[f.cell];exact g i x m⟩
def Qu(w:Yu)(R:List cE)(r:Ending)(w':Yu):Prop:=∃u L,∃b:Bool,r=.returned (.tuple #[u,.bool b])/\dr w' w.heap.size u L/\(∀e∈L,e.ok)/\(R=[]->b=true)/\L.length<=R.length/\(∀i x,i<L.length->R[i]? =some x->x.l.length=91)/\Ys w w'
theorem Ew{base:Nat}{v:Yv}(h:jE w base v R)(hr:il w R)(hn:R.length<=900000):Yt 33 #[v] w (Qu w R):=by
 obtain⟨A,c,rfl,τ,θ⟩:=h.sl;have κ:c<=9223372036854775807:=θ;have H:=U9 (Vb h hr);clear h hr;go_enter func33,ntmps33;go_wp2_with fail
 go_loopw [2,11] (λv2 ι wr=>∃(k:Nat) (L:List Ev),k<=R.length/\L.length=k/\ι=.int .i64 k/\dr wr w.heap.size v2 L/\(∀e∈L,e.ok)/\(∀i x,i<k->R[i]? =some x->x.l.length=91)/\Ys w wr) (λ_ v _=>R.length-(intOf v).toNat)
 case atStart=>exact⟨0,[],VX _,rfl,rfl,Row.nil,by simp,λi x N=>by omega,Vd _ _⟩
 case round=>
  obtain⟨k,L,hk,T,rfl,Y,C,z,J⟩:=hrel;by_cases t:k<R.length
  ·have hd:decide ((k:Int)<R.length)=true:=Vg (by omega)
   obtain⟨y,Z⟩:∃y,R[k]? =some y:=⟨R[k],Ve t⟩;obtain⟨g,rfl,π,ε⟩:=jE.at_ (Row.call H.o.1 J) Z;have m:=(H.o.2 y (Vn Z)).call J;have CT:=U9 (PN y.A y.c y.l wr.heap.size 0 wr m.brows (Vc _) m.le m.max m.by_ (by omega) (by omega));have ξ:y.c<=9223372036854775807:=m.max;have ν:y.l.length<=y.c:=m.le;have α:wr.frozen? ⟨g,k,none⟩=false:=(Row.call H.o.1 J).frozen _;obtain⟨E,hE⟩:∃E,jx y.l 0=E:=⟨_,rfl⟩;rw[hE]at CT;have f:=U9 (Vb Y (Vb C (Vb z (Vb J (Vb Z (Vb hE T))))));clear Y C z J Z m hE T;go_wp2_with fail;refine CT.o.mono ?_;rintro r w1 ⟨rfl,W⟩;obtain⟨V,μ,B2,D2,z2⟩:=iZ E.1 w1;have σ:=dz B2;have l2:=B2.lt;have q:=U9 (Vb W (Vb B2 D2));clear W B2 D2 CT ε α;by_cases K:E.2.2=0
   ·have γ:(E.2.2==0)=true:=by simp[K]
    by_cases S:E.2.1=y.l.length
    ·have β:(E.2.1==(y.l.length:Int))=true:=by simp[S]
     obtain⟨v',w',k1,k2,k3,k4,-⟩:=dr.app (cap:=1) 132 (w:=V.alloc (.cells (ao E.1) 53)) (B:=V.heap.size+1) (M:=[E.1]) (A:=some ⟨V.heap.size,0,none⟩) (Row.call (Row.call (Row.call f.o.1 q.o.1) q.o.2.2) ((Vd _ _).alloc (Vc _) _)) (dU dO (ai.new _ _ _)) (by have:=f.o.2.2.2.2.2.2;simp;omega) (by have:=q.o.2.2.size;have:=q.o.1.size;have:=f.o.2.2.2.1.size;simp;omega);simp only[VB,VR,Vk]at k1;rw[z2]at k1;go_wp2_with fail;have O:=f.o.2.2.2.1.size;have η:=q.o.1.size;have P:Ys w w':=((f.o.2.2.2.1.trans (q.o.1.mono O)).trans (q.o.2.2.mono (by omega))).trans ((((Vd V.heap.size V).alloc (Vc _) _).mono (by have:=q.o.2.2.size;omega)).trans k3.below);have I:E=(fI y.l 0,91,0)/\(fI y.l 0).ok:=by
      have ζ:=((H.o.2 y (Vn f.o.2.2.2.2.1)).by_);have D:=f.o.2.2.2.2.2.1;unfold jx at D;rw[Vf (by omega)]at D;by_cases h7:(y.l.length:Int)-0<91
      ·rw[Vh h7]at D
       rw[<-D]at K;cases K
      ·rw[Vf h7]at D
       by_cases h8:aX (fI y.l (0:Int).toNat)=true
       ·rw[Vh h8]at D
        exact⟨D.symm,rE y.l 0 (by omega) ζ⟩
       ·rw[Vf h8]at D
        rw[<-D]at K;cases K
     have HK:=U9 (Vb k2 (Vb P I));clear k2 k3 k4 P I O η;go_roundw
     case rel=>
      obtain⟨q1,q2,q3,q4⟩:=HK.o;rw[q3]at S q1;refine⟨k+1,L++[fI y.l 0],by omega,by simp[f.o.2.2.2.2.2.2],by go_num,q1,λe he=>?_,λi x N U=>?_,q2⟩
      ·rcases Vw.1 he with he|he
       ·exact f.o.2.1 e he
       ·rw[VH.1 he];exact q4
      ·by_cases δ:i=k
       ·subst δ
        rw[f.o.2.2.2.2.1]at U;injection U with U;subst U;have S:(91:Int)=y.l.length:=S;omega
       ·exact f.o.2.2.1 i x (by omega) U
     case measure=>simp[intOf];omega
    ·have β:(E.2.1==(y.l.length:Int))=false:=by simpa using S
     go_wp2_with fail;go_ret2;exact⟨_,[],false,rfl,Row.nil,by simp,(λh=>by rw[h]at t;cases t),VX _,(λi x N=>by cases N),((f.o.2.2.2.1.trans (q.o.1.mono f.o.2.2.2.1.size)).trans (q.o.2.2.mono (by have:=q.o.1.size;have:=f.o.2.2.2.1.size;omega)))⟩
   ·have γ:(E.2.2==0)=false:=by simpa using K
    go_wp2_with fail;go_ret2;exact⟨_,[],false,rfl,Row.nil,by simp,(λh=>by rw[h]at t;cases t),VX _,(λi x N=>by cases N),((f.o.2.2.2.1.trans (q.o.1.mono f.o.2.2.2.1.size)).trans (q.o.2.2.mono (by have:=q.o.1.size;have:=f.o.2.2.2.1.size;omega)))⟩
  ·obtain rfl:k=R.length:=by omega
   have hd:decide ((R.length:Int)<R.length)=false:=Vj (by omega);have f:=U9 (Vb Y (Vb C (Vb z J)));clear Y C z J;go_wp2_with fail;go_ret2;exact⟨_,L,true,rfl,f.o.1,f.o.2.1,λ_=>rfl,by omega,λi x N=>f.o.2.2.1 i x (by omega),f.o.2.2.2⟩
abbrev FC(w:Yu)(u r j:Nat)(e:Bool):Prop:=ai w u 100 #[Yr r,Yr j,.bool e]
def Fm(w:Yu)(u r j d:Nat)(F:Nat->Prop)(s:cE)(p:Pw)(L:List Ev)(x:Ending)(w':Yu):Prop:=∃e:Int,x=.returned (.int .i64 e)/\
 ((L=[]/\e=0/\Ys w w')\/(L≠[]/\∃(a:Int) (p':Pw) (G:Nat->Prop),FC w' u r j (!(e==0))/\Bj w' j d a (e==8)/\ah (λk=>F k\/k=j\/k=u) w w'/\(∀k,G k->F k\/(w.heap.size<=k/\k<w'.heap.size))/\
  ((e=0/\∃s':cE,bI w' G d s' s' none p'/\p'.dark=false/\p'.burning=p.burning/\s'.l.length<=s.l.length+99*L.length)\/(e≠0/\Bk w' G d s p'))/\(p.burning=false->s.l.length+99*L.length<=4194304->e=0)))
theorem GO(h:∀x∈R,x.l.length<=91):dS R<=99*R.length:=by
 induction R with
 |nil=>exact Vc _
 |cons x R ih=>
  have g:=h x Vp;have e:=ih λy f=>h y (VA _ f)
  unfold dS at e⊢;simp only[VG,XU,VB]at e⊢;omega
theorem Eu{u j d:Nat}{ι:Bool}{F:Nat->Prop}{a:Int}(hd:FC w u r j ι)(hk:bI w F d s s none p)(hp:p.dark=false)(hj:Bj w j d a false)(α:¬F j)(ζ:¬F u)(β:u≠j){base:Nat}{v:Yv}{L:List Ev}(hL:dr w base v L)(δ:∀e∈L,e.ok)(hn:L.length<=64):
  Yt 198 #[Yr u,v] w (Fm w u r j d F s p L):=by
 obtain⟨A,c,rfl,Ω,ν⟩:=hL.sl;have Θ:c<=9223372036854775807:=ν;have H:=U9 (Vb hd (Vb hk (Vb hp (Vb hj (Vb α (Vb ζ (Vb hL δ)))))));clear hd hk hp hj α ζ hL δ;by_cases Y:L.length=0
 ·have hz:L=[]:=Wg.1 Y
  subst hz;clear Y;go_enter func198,ntmps198;go_wp2_with fail;go_ret;exact⟨0,rfl,.inl ⟨rfl,rfl,Vd _ _⟩⟩
 ·have hz:((L.length:Int)==0)=false:=by simp;intro h;rw[h]at Y;exact Y rfl
  go_enter func198,ntmps198;go_wp2_with fail
  go_loopw [5,14] (λv5 σ wr=>∃(k:Nat) (R:List cE),k<=L.length/\R.length=k/\σ=.int .i64 k/\jE wr w.heap.size v5 R/\il wr R/\(∀x∈R,x.l.length<=91)/\Ys w wr) (λ_ v _=>L.length-(intOf v).toNat)
  case atStart=>exact⟨0,[],VX _,rfl,rfl,Row.nil,λ_ h=>by(cases h),by simp,Vd _ _⟩
  case round=>
   obtain⟨k,R,hk,E,rfl,hR,f,z,i⟩:=hrel;by_cases μ:k<L.length
   ·have hd:decide ((k:Int)<L.length)=true:=Vg (by omega)
    obtain⟨y,hy⟩:∃y,L[k]? =some y:=⟨L[k],Ve μ⟩;obtain⟨g,cap,hs,γ,π,υ,Γ⟩:=H.o.2.2.2.2.2.2.1.sl_pos (by omega);obtain⟨rfl,τ⟩:A=some ⟨g,0,none⟩/\c=cap:=by injection hs with a b c;exact⟨a,c⟩
    have θ:=(Row.call H.o.2.2.2.2.2.2.1 i).rng dO hy;have ω:=aY (P:=prog) θ underlying53 rfl (bY y);obtain⟨W1,Δ,C,D1,z1⟩:=iZ y wr;have Ξ:=dz C;have CP:=U9 (SE y (H.o.2.2.2.2.2.2.2 y (Vn hy)) W1);have t:=U9 (Vb hR (Vb f (Vb z (Vb i (Vb D1 E)))));have l1:=C.lt;clear hR f z i hy hs γ π υ τ θ C D1 E z1;go_wp2_with fail;refine CP.o.mono ?_;rintro x m ⟨vb,rfl,ho,T⟩;obtain⟨O,V,rfl,ε⟩:=bA.own ho (wM y);have S:=t.o.2.2.2.1.size;have U:=t.o.2.2.2.2.1.size;have κ:=T.size;have D3:Ys m (m.alloc (.cells (oz ⟨O,lq y,V⟩) 121)):=(Vd _ _).alloc (Vc _) _;have hD:Ys wr (m.alloc (.cells (oz ⟨O,lq y,V⟩) 121)):=(t.o.2.2.2.2.1.trans (T.mono U)).trans (D3.mono (by omega));obtain⟨v',w',k1,k2,k3,k4,-⟩:=jE.app (cap:=1) 129 (w:=m.alloc (.cells (oz ⟨O,lq y,V⟩) 121)) (B:=m.heap.size+1) (M:=[⟨O,lq y,V⟩]) (A:=some ⟨m.heap.size,0,none⟩) (Row.call t.o.1 hD) (dU kj (ai.new _ _ _)) (by have:=t.o.2.2.2.2.2;simp;omega) (by simp;omega);simp only[VB,VR,Vk]at k1;have η:Ys w w':=(t.o.2.2.2.1.trans (hD.mono S)).trans k3.below;have Z:il w' (R++[⟨O,lq y,V⟩]):=λx hx=>by
     rcases Vw.1 hx with hx|hx
     ·exact((t.o.2.1 x hx).call hD).kt k3 (by decide)
     ·rw[VH.1 hx];exact(ε.call D3).kt k3 (by decide)
    have HK:=U9 (Vb k2 (Vb Z η));have ξ:=pB y;have φ:=ue ⟨O,lq y,V⟩ m;clear k2 k3 k4 Z η ε ho D3 hD T S U κ CP;go_wp2_with fail;go_roundw
    case rel=>
     refine⟨k+1,R++[⟨O,lq y,V⟩],by omega,by simp[t.o.2.2.2.2.2],by go_num,HK.o.1,HK.o.2.1,λx hx=>?_,HK.o.2.2⟩;rcases Vw.1 hx with hx|hx
     ·exact t.o.2.2.1 x hx
     ·rw[VH.1 hx];exact ξ
    case measure=>simp[intOf];omega
   ·obtain rfl:k=L.length:=by omega
    have hd:decide ((L.length:Int)<L.length)=false:=Vj (by omega);have CA:=U9 (Sg (H.o.2.1.call i) H.o.2.2.1 (ai.call H.o.2.2.2.1 i) H.o.2.2.2.2.1 hR f (λx hx=>Vi (z x hx) (by omega)) (by omega) (by omega));have hf:=GO z;rw[E]at hf;have C:=ai.call H.o.1 i;obtain⟨q0,f0⟩:=C.rules;have l0:=C.lt;have t:=U9 (Vb i (Vb hf C));clear hR f z i E hf C;go_wp2_with fail;refine CA.o.mono ?_;rintro x m ⟨I,G,hG,e,a2,p2,rfl,J,D,hl⟩;have W:=I.blk t.o.2.2 (λh=>by rcases h with h|h;exact H.o.2.2.2.2.2.1 h;exact β h);obtain⟨q1,f1⟩:=W.rules;have l1:=W.lt;have HY:=U9 (Vb I (Vb hG (Vb J (Vb D (Vb hl W)))));clear I hG J D hl W q0 f0 l0 CA;go_wp2_with fail;go_ret;obtain⟨i,hf,C⟩:=t.o;obtain⟨I,hG,J,D,hl,W⟩:=HY.o;have S:=i.size;have U:=I.size;have Ψ:=C.lt;have ψ:=H.o.1.lt;have K:ah (cj u) m (m.setCell ⟨u,2,none⟩ (.bool (e !=0))):=ah.set ⟨u,2,none⟩ (show cj u u from rfl) _;have χ:=K.size;have Φ:(m.setCell ⟨u,2,none⟩ (.bool (e !=0))).heap.size=m.heap.size:=by simp
    have N:iB G (cj u):=λq hq hu=>by
     have hu:q=u:=hu;subst hu;rcases hG q hq with h|h
     ·exact H.o.2.2.2.2.2.1 h
     ·omega
    refine⟨e,rfl,.inr ⟨λh=>by rw[h]at Y;exact Y rfl,a2,p2,G,W.set_ 2 _,K.blk J (λh=>β (show j=u from h).symm),⟨K.os.trans (I.os.trans i.os),K.tape.trans (I.tape.trans i.tape),K.output.trans (I.output.trans i.output),by omega,λq hq hF=>?_⟩,λq hq=>?_,?_,λhb h9=>hl hb (by omega)⟩⟩
    ·rw[K.block q (by omega) λh=>hF (.inr (.inr h)),I.block q (by omega) λh=>by
      rcases h with h|h
      ·exact hF (.inl h)
      ·exact hF (.inr (.inl h)),i.block q hq]
    ·rcases hG q hq with h|h
     ·exact .inl h
     ·exact .inr ⟨by omega,by omega⟩
    ·rcases D with⟨h1,s',h2,h3,h4,h5⟩|⟨h1,h2⟩
     ·exact .inl ⟨h1,s',h2.mod K N,h3,h4,by omega⟩
     ·exact .inr ⟨h1,h2.mod K N⟩
def sj(w:Yu)(F:Nat->Prop)(d:Nat)(s:cE)(p:Pw):Prop:=(p.dark=false/\bI w F d s s none p)\/(p.dark=true/\∃n M,bI w F d s n M p/\∀x,M=some x->x.may s.l)
structure fT where
 R:gI
 r:Nat
 u:Nat
 j:Nat
 d:Nat
 a:Int
 br:Bool
 dead:Bool
 F:Nat->Prop
def fT.G(X:fT):Nat->Prop:=λq=>q=X.u\/q=X.j\/X.R.F X.r q\/X.F q
structure dl(w:Yu)(k:Nat)(X:fT)(n:Nat)(s:cE)(p:Pw):Prop where
 du:FC w X.u X.r X.j X.dead
 re:bV w X.r k X.R n
 jo:Bj w X.j X.d X.a X.br
 dk:sj w X.F X.d s p
 lv:X.dead=false->X.br=false
 uj:X.u≠X.j
 uF:¬X.F X.u
 jF:¬X.F X.j
 uR:¬X.R.F X.r X.u
 jR:¬X.R.F X.r X.j
 rF:iB (X.R.F X.r) X.F
section
variable{w w':Yu}{k n:Nat}{X:fT}{s:cE}{p:Pw}{G F:Nat->Prop}{d:Nat}
theorem sj.inh(h:sj w F d s p):tP F w:=by
 rcases h with⟨-,h⟩|⟨-,m,M,h,-⟩
 ·exact h.inh
 ·exact h.inh
theorem sj.mod(h:sj w F d s p)(m:ah G w w')(g:iB F G):sj w' F d s p:=by
 rcases h with⟨e,f⟩|⟨e,n,M,f,i⟩
 ·exact .inl ⟨e,f.mod m g⟩
 ·exact .inr ⟨e,n,M,f.mod m g,i⟩
theorem sj.of(h:Bk w F d s p):sj w F d s p:=by
 rcases h with h|⟨e,-,n,M,g,f⟩
 ·exact .inl h
 ·exact .inr ⟨e,n,M,g,f⟩
theorem dl.inh(h:dl w k X n s p):tP X.G w:=λq hq=>by
 rcases hq with rfl|rfl|hq|hq
 ·exact h.du.lt
 ·exact ai.lt h.jo
 ·exact h.re.inh q hq
 ·exact h.dk.inh q hq
theorem dl.mod(h:dl w k X n s p)(m:ah G w w')(f:iB X.G G):dl w' k X n s p where
 du:=m.blk h.du λe=>f _ (.inl rfl) e
 re:=h.re.mod m λq g e=>f q (.inr (.inr (.inl g))) e
 jo:=m.blk h.jo λe=>f _ (.inr (.inl rfl)) e
 dk:=h.dk.mod m λq g e=>f q (.inr (.inr (.inr g))) e
 lv:=h.lv
 uj:=h.uj
 uF:=h.uF
 jF:=h.jF
 uR:=h.uR
 jR:=h.jR
 rF:=h.rF
theorem dl.call(h:dl w k X n s p)(e:Ys w w'):dl w' k X n s p:=h.mod (ah.of_below (F:=cM) e) λ_ _ h=>h
theorem dl.more{n':Nat}(h:dl w k X n s p)(e:n<=n'):dl w k X n' s p:=⟨h.du,h.re.more e,h.jo,h.dk,h.lv,h.uj,h.uF,h.jF,h.uR,h.jR,h.rF⟩
end
def dI(w:Yu)(k:Nat)(X:fT)(n':Nat)(w':Yu)(Q:fT->cE->Pw->Prop):Prop:=
 ∃X' s' p',dl w' k X' n' s' p'/\(X'.d=X.d/\X'.u=X.u)/\ah X.G w w'/\(∀q,X'.G q->X.G q\/w.heap.size<=q)/\Q X' s' p'
section
variable{w w' w'':Yu}{k n n':Nat}{X:fT}{s:cE}{p:Pw}{Q:fT->cE->Pw->Prop}
theorem dI.same(h:dl w k X n s p)(e:Ys w w')(g:n<=n')(f:Q X s p):dI w k X n' w' Q:=⟨X,s,p,(h.call e).more g,⟨rfl,rfl⟩,ah.of_below e,λ_ h=>.inl h,f⟩
theorem dI.pre(e:Ys w w')(h:dI w' k X n' w'' Q):dI w k X n' w'' Q:=by
 obtain⟨X',s',p',l,g,o,i,m⟩:=h;refine⟨X',s',p',l,g,(ah.of_below e).trans o,λq f=>?_,m⟩;rcases i q f with h|h
 ·exact .inl h
 ·exact .inr (Vi e.size h)
theorem dI.trans{X1:fT}(e:X1.d=X.d/\X1.u=X.u)(m:ah X.G w w')(i:∀q,X1.G q->X.G q\/w.heap.size<=q)(h:dI w' k X1 n' w'' Q):dI w k X n' w'' Q:=by
 obtain⟨X',s',p',o,g,v,l,t⟩:=h;have z:=m.size;refine⟨X',s',p',o,⟨g.1.trans e.1,g.2.trans e.2⟩,m.trans' v λq f hF=>?_,λq f=>?_,t⟩
 ·rcases i q hF with h|h
  ·exact h
  ·omega
 ·rcases l q f with h|h
  ·exact i q h
  ·exact .inr (by omega)
theorem dI.imp{e:fT->cE->Pw->Prop}(h:dI w k X n' w' Q)(o:∀X' s' p',Q X' s' p'->e X' s' p'):dI w k X n' w' e:=by
 obtain⟨X',s',p',i,f,m,g,l⟩:=h;exact⟨X',s',p',i,f,m,g,o _ _ _ l⟩
theorem dI.own{i:Yu}{H:Nat->Prop}(t:Ys i w)(h:dI w k X n' w' Q)(m:ah H w' w'')(l:∀g,H g->i.heap.size<=g)(E:∀g,H g->g<w.heap.size)(D:∀g,H g->¬X.G g):dI i k X n' w'' Q:=by
 obtain⟨X',s',p',z,v,C,o,B⟩:=h;have I:=t.size;refine⟨X',s',p',z.mod m λq e f=>?_,v,((ah.of_below t).trans C).trans' m λq e f=>by have:=l q f;omega,λq e=>?_,B⟩
 ·rcases o q e with h|h
  ·exact D q f h
  ·have:=E q f;omega
 ·rcases o q e with h|h
  ·exact .inl h
  ·exact .inr (by omega)
end
def gI.tight(R:gI):gI:={R with FD:=λq=>q=R.dm\/q=R.mb\/∃x∈R.D,x.2=some q}
theorem bV.tight{R:gI}(h:bV w r k R n):bV w r k R.tight n/\(∀q,R.tight.F r q->R.F r q)/\∀q cs,R.tight.F r q->¬ai w q 53 cs:=by
 have f:∀q,R.tight.FD q->R.FD q:=λq hq=>by
  rcases hq with rfl|rfl|⟨x,t,e⟩
  ·exact h.dem.fd
  ·exact h.dem.fm
  ·obtain⟨J,o,-,E⟩:=h.dem.els x t
   rw[e]at o;injection o with o;exact o▸E
 have hF:∀q,R.tight.F r q->R.F r q:=λq hq=>by
  rcases hq with hq|hq|hq|hq|hq|hq
  ·exact .inl hq
  ·exact .inr (.inl hq)
  ·exact .inr (.inr (.inl hq))
  ·exact .inr (.inr (.inr (.inl hq)))
  ·exact .inr (.inr (.inr (.inr (.inl hq))))
  ·exact .inr (.inr (.inr (.inr (.inr (f q hq)))))
 have m:=h.ap;refine⟨⟨h.blk,h.led,h.ok,h.log,h.bs,h.hold,h.hok,h.peer,h.pok,⟨h.dem.blk,h.dem.map,λx t=>?_,h.dem.len,.inl rfl,.inr (.inl rfl),λq hq=>h.dem.inh q (f q hq)⟩,
  ⟨m.ab,m.ac,m.ad,m.ae,λq a b=>m.af q a (f q b),m.bc,m.bd,m.be,λq a b=>m.bf q a (f q b),m.cd,m.ce,λq a b=>m.cf q a (f q b),m.de,λq a b=>m.df q a (f q b),λq a b=>m.ef q a (f q b)⟩,h.cn,h.sn,h.k6⟩,hF,λq cs hq l=>?_⟩
 ·obtain⟨q,e,H,-⟩:=h.dem.els x t
  exact⟨q,e,H,.inr (.inr ⟨x,t,e⟩)⟩
 ·rcases hq with rfl|hq|hq|hq|rfl|hq
  ·exact absurd (ai.type_eq l h.blk).1 (by decide)
  ·rcases hq with rfl|rfl|rfl|rfl|rfl|rfl|rfl
   ·exact absurd (ai.type_eq l h.led.blk).1 (by decide)
   ·exact absurd (ai.type_eq l h.led.tre.blk).1 (by decide)
   ·exact h.led.tre.map.ne_blk l rfl
   ·exact h.led.pa.ne_blk l rfl
   ·exact h.led.ri.ne_blk l rfl
   ·exact h.led.gr.ne_blk l rfl
   ·exact h.led.qs.ne_blk l rfl
  ·rcases hq with rfl|⟨i,hi,e⟩
   ·exact absurd (ai.type_eq l h.log.blk).1 (by decide)
   ·change (R.v i).ownBlock=some q at e
    rcases(h.log.row i hi).2 with⟨B,-⟩|⟨g,cap,cur,B,-,D,-⟩
    ·rw[B]at e;cases e
    ·rw[B]at e
     injection e with e;subst e;exact absurd (ai.type_eq l D).1 (by decide)
  ·rcases hq with rfl|rfl
   ·exact absurd (ai.type_eq l h.hold.blk).1 (by decide)
   ·obtain⟨N,L,I,-⟩:=h.hold.map.ex
    have z:w.heap[R.hm]? =_:=l;rw[I]at z;cases z
  ·exact absurd (ai.type_eq l h.peer).1 (by decide)
  ·rcases hq with rfl|rfl|⟨x,t,e⟩
   ·exact absurd (ai.type_eq l h.dem.blk).1 (by decide)
   ·exact h.dem.map.ne_blk l rfl
   ·obtain⟨J,o,⟨P,O,M,K,C,-⟩,-⟩:=h.dem.els x t
    rw[e]at o;injection o with o;subst o;exact absurd (ai.type_eq l C).1 (by decide)
theorem fl.since{w1 g W:Yu}{B:Nat}{R:gI}{m':az}{i:Nat->Prop}(h:fl w1 r k R n m' g)(s:cR [53] i B g W)(hF:∀q,¬i q):
  ∃R',bV W r k R' n/\(R'.m=m'/\R'.H=R.H)/\(∀q,R'.F r q->R.F r q\/w1.heap.size<=q)/\∀q cs,R'.F r q->¬ai W q 53 cs:=by
 obtain⟨R',E,C,-,D⟩:=h;obtain⟨z,o,v⟩:=E.tight;have l:=z.mod (G:=λq=>∃cs,ai g q 53 cs) (w':=W) ⟨s.os,s.tape,s.output,s.size,λq e I=>by
  rcases s.block q e with h|⟨-,⟨cs,t,J,f⟩,-⟩|h
  ·exact h
  ·rw[VH.1 J]at f
   exact absurd ⟨cs,f⟩ I
  ·exact absurd h (hF q)⟩ (λq e ⟨cs,f⟩=>v q cs e f)
 exact⟨R'.tight,l,C,λq e=>D q (o q e),l.tight.2.2⟩
theorem dl.kept{w1 v:Yu}{X:fT}(h:dl w k X n s p)(D:Ys w w1){L:List Ev}{e:Int}(E:Fm w1 X.u X.r X.j X.d X.F s p L (.returned (.int .i64 e)) v)(V:L≠[]):
  dI w k X n v (λX' s' p'=>X'.R=X.R/\((e=0/\X'.dead=false/\p'.dark=false/\p'.burning=p.burning/\s'.l.length<=s.l.length+99*L.length)\/(e≠0/\X'.dead=true))/\(p.burning=false->s.l.length+99*L.length<=4194304->e=0)):=by
 obtain⟨e',t,E⟩:=E;injection t with t;injection t with _ t;subst t;rcases E with⟨i,-⟩|⟨-,N,z,H,Y,Z,K,B,O,J⟩
 ·exact absurd i V
 have hs:=D.size;have U:=h.call D;have m:=h.inh;have P:=m X.u (.inl rfl);have T:=m X.j (.inr (.inl rfl));have o:iB (X.R.F X.r) (λq=>X.F q\/q=X.j\/q=X.u):=λq hq hF=>by
  rcases hF with hF|rfl|rfl
  ·exact h.rF q hq hF
  ·exact h.jR hq
  ·exact h.uR hq
 have key:∀(s2:cE),sj v H X.d s2 z->dl v k {X with a:=N,br:=(e==8),dead:= !(e==0),F:=H} n s2 z:=λs2 W=>
  ⟨Y,U.re.mod K o,Z,W,λg=>by
   have g:(!(e==0))=false:=g;have:e=0:=by simpa using g
   subst this
   rfl,h.uj,λhq=>by
   rcases B _ hq with h'|h'
   ·exact h.uF h'
   ·have h':w1.heap.size<=X.u:=h'.1;omega,λhq=>by
   rcases B _ hq with h'|h'
   ·exact h.jF h'
   ·have h':w1.heap.size<=X.j:=h'.1;omega,h.uR,h.jR,λq hq hF=>by
   rcases B q hF with h'|h'
   ·exact h.rF q hq h'
   ·have:=h.re.inh q hq;omega⟩
 have f:∀q,fT.G {X with a:=N,br:=(e==8),dead:= !(e==0),F:=H} q->X.G q\/w.heap.size<=q:=λq hq=>by
  rcases hq with hq|hq|hq|hq
  ·exact .inl (.inl hq)
  ·exact .inl (.inr (.inl hq))
  ·exact .inl (.inr (.inr (.inl hq)))
  ·rcases B q hq with h'|h'
   ·exact .inl (.inr (.inr (.inr h')))
   ·exact .inr (by omega)
 have I:ah X.G w v:=(ah.of_below D).trans (K.mono λq hq=>by
  rcases hq with hq|hq|hq
  ·exact .inr (.inr (.inr hq))
  ·exact .inr (.inl hq)
  ·exact .inl hq)
 rcases O with⟨i,s',C,M,S,k4⟩|⟨i,C⟩
 ·exact⟨_,s',z,key s' (.inl ⟨M,C⟩),⟨rfl,rfl⟩,I,f,rfl,.inl ⟨i,by simp[i],M,S,k4⟩,J⟩
 ·exact⟨_,s,z,key s (sj.of C),⟨rfl,rfl⟩,I,f,rfl,.inr ⟨i,by simp[i]⟩,J⟩
def No(E:Ev)(f:Int)(m':az)(s:cE)(p:Pw)(M:Ev)(e:Int)(X':fT)(s':cE)(p':Pw):Prop:=
 X'.R.m=m'/\((E=Ev.zero/\M=Ev.zero/\e=f/\X'.dead=false/\p'.dark=false/\s'=s/\p'=p)\/
  (E≠Ev.zero/\((e=0/\M=E/\X'.dead=false/\p'.dark=false/\p'.burning=p.burning/\s'.l.length<=s.l.length+99)\/(e≠0/\M=Ev.zero/\X'.dead=true))/\(p.burning=false->s.l.length+99<=4194304->e=0)))
def Qy(w:Yu)(k:Nat)(X:fT)(n f:Nat)(q:Ev×Int×az)(s:cE)(p:Pw)(x:Ending)(w':Yu):Prop:=∃(e:Int) (M:Ev) (w1:Yu),x=.returned (.int .i64 e)/\ai w' f 53 (ao M)/\dI w k X (n+1) w1 (No q.1 q.2.1 q.2.2 s p M e)/\ah (cj f) w1 w'
theorem PP{X:fT}(h:dl w k X n s p)(hl:X.dead=false)(hp:p.dark=false)(hn:n+1<=900000)(hT:dh w){a:cJ}(ha:a.ok)(ζ:aT now){Z i:Nat}
  (hB:aD w [(i,53,ao Ev.zero),(bn,32,#[.int .u64 now]),(Z,42,cQ a),(bu,69,#[Yr X.u])]) (hN:∀g,(g=i\/g=bn\/g=Z\/g=bu)->¬X.G g):
  Yt 196 #[Yr bu,Yr Z,Yr bn,Yr i] w (Qy w k X n i (cH X.R.m k a) s p):=by
 have ι:∀q,X.R.F X.r q->q<w.heap.size:=λq hq=>h.re.inh q hq
 have H:∀q,X.R.F X.r q->X.G q:=λq hq=>.inr (.inr (.inl hq))
 have B0:aD w [(i,53,ao Ev.zero),(bn,32,#[.int .u64 now]),(Z,42,cQ a),(bu,69,#[Yr X.u]),(X.u,100,#[Yr X.r,Yr X.j,.bool X.dead])]:=λg t cs hm=>by
  simp only[Vy,WX,WR]at hm;rcases hm with e|e|e|e|e
  ·exact hB _ _ _ (by simp[e])
  ·exact hB _ _ _ (by simp[e])
  ·exact hB _ _ _ (by simp[e])
  ·exact hB _ _ _ (by simp[e])
  ·cases e;exact h.du
 have M:gJ (X.R.F X.r) [(i,53,ao Ev.zero),(bn,32,#[.int .u64 now]),(Z,42,cQ a),(bu,69,#[Yr X.u]),(X.u,100,#[Yr X.r,Yr X.j,.bool X.dead])]:=
  ⟨λhq=>hN i (.inl rfl) (H _ hq),λhq=>hN bn (.inr (.inl rfl)) (H _ hq),λhq=>hN Z (.inr (.inr (.inl rfl))) (H _ hq),λhq=>hN bu (.inr (.inr (.inr rfl))) (H _ hq),h.uR,trivial⟩
 have HF:=U9 (λ(Y:Yu) (I:ah (X.R.F X.r) w Y)=>Vb (B0.mod I M).rules (Vb (B0.mod I M).lts (pQ (B0.mod I M).drop.drop.head)));have CA:=U9 (λ(Y:Yu) (I:Ys w Y)=>Rt (h.re.call I) hn (hT.call' I) ha ζ);have β:=U9 ι;have HQ:=U9 (ir h.re.ok h.re.k6 ha);have κ:=U9 (show(cH X.R.m k a).1=Ev.zero->(cH X.R.m k a).2.2=X.R.m from λz=>by
  unfold cH at z⊢;split
  ·rfl
  ·split
   ·rename_i h1 h2
    rw[Vf h1,Vh h2]at z;have z:dB X.R.m k a=Ev.zero:=z;have:=Vt Ev.o z;have:(k:Int)+1=0:=this;omega
   ·rfl)
 have J:=U9 (And.intro h (And.intro B0 (And.intro hN (And.intro hl hp))));clear h hT ha hB B0 M ι H hN hl hp;generalize cH X.R.m k a=q at HQ κ CA⊢;obtain⟨E,er,m'⟩:=q;dsimp only[zN]at CA HQ κ⊢;go_enter func196,ntmps196;go_wp2_with fail;refine ay [53] (X.R.F X.r) 6 β.o (by kernel_rfl) (by kernel_rfl) ?_
 iterate 6
  first
  |refine eV HF.o rfl ?_
  |refine al (λ_=>rfl) ?_
  |refine bH rfl ?_
  simp only[UW,UX,UY,UZ]
 refine bP (λ_=>rfl) rfl 197 (λ_=>#[Yr X.r,.agg (cQ a),.int .u64 now]) (λ_:Unit=>.tuple #[.agg (ao E),.int .i64 er]) () (λY _ Y'=>fl Y X.r k X.R (n+1) m' Y') (λ_ w=>by simp[execOp,go_sem]<;>rfl) (λ_ Y I=>?ca2) ?_
 case ca2=>
  refine(CA.o Y I).mono ?_;rintro r Y' ⟨rfl,h1⟩;obtain⟨R',q1,q2,q3,q4⟩:=h1;exact⟨(),rfl,⟨R',q1,q2,q3,q4⟩,q3⟩
 simp only[UW,UX,UY,UZ]
 iterate 3
  refine bH rfl ?_;simp only[UW,UX,UY,UZ]
 refine eW (λ_=>rfl) 53 (ao Ev.zero) (λ_ _=>by simp[execOp,go_sem]<;>exact rfl) ?_;simp only[UW,UX,UY,UZ];refine cZ (λ_=>rfl) 10 53 53 14 _ _ rfl (by decide) rfl (by simp) β.o _ _ _ (λ_=>rfl) (λ_=>rfl) (λ_=>by repeat (first|exact Vs ⟨rfl,rfl,rfl⟩|apply Vr)) (bY Ev.zero) (λ_=>rfl) (λ_=>kz _) ?_;simp only[UW,UX,UY,UZ]
 iterate 1
  refine bH rfl ?_;simp only[UW,UX,UY,UZ]
 refine aK (by kernel_rfl) ?_;rintro⟨⟨_,_⟩,v⟩ B N hR;replace N:ah (X.R.F X.r) w B:=N;dsimp only;simp only[U0,U1,U2,U3,Nat.reduceAdd,Nat.zero_add]at hR;obtain⟨w1,w2,ξ,-,g3,g4⟩:=bJ (hR 6 _ _ (by repeat (first|exact Or.inl ⟨rfl,rfl,rfl⟩|apply Or.inr))) rfl;obtain⟨g,v',hx,n6,U⟩:∃g v',[v,Value.agg (ao E)]=[Yr g,v']/\w.heap.size<=g/\ai B g 53 (Value.toArr v'):=hR 11 _ _ (by repeat (first|exact Or.inl ⟨rfl,rfl,rfl⟩|apply Or.inr));injection hx with h6 T;injection T with T;subst h6 T;replace U:ai B g 53 (ao E):=U;obtain⟨R',r1,⟨r2,r3⟩,r4,r5⟩:=g3.since g4 λ_ h=>h.1 rfl
 have τ:=(ξ rfl).size;have f:=J.o.1;have C:∀q,R'.F X.r q->X.R.F X.r q\/w.heap.size<=q:=λq hq=>by
  rcases r4 q hq with h|h
  ·exact .inl h
  ·exact .inr (by omega)
 have P:=f.inh;have hu:=P X.u (.inl rfl);have hj:=P X.j (.inr (.inl rfl));have D1:dl B k {X with R:=R'} (n+1) s p:=
  ⟨N.blk f.du f.uR,r1,N.blk f.jo f.jR,f.dk.mod N f.rF.symm,f.lv,f.uj,f.uF,f.jF,λhq=>by
   rcases C _ hq with h|h
   ·exact f.uR h
   ·have h:w.heap.size<=X.u:=h;omega,λhq=>by
   rcases C _ hq with h|h
   ·exact f.jR h
   ·have h:w.heap.size<=X.j:=h;omega,λq hq hF=>by
   rcases C _ hq with h|h
   ·exact f.rF q h hF
   ·have:=f.dk.inh q hF;omega⟩
 have D:∀q,fT.G {X with R:=R'} q->X.G q\/w.heap.size<=q:=λq hq=>by
  rcases hq with hq|hq|hq|hq
  ·exact .inl (.inl hq)
  ·exact .inl (.inr (.inl hq))
  ·rcases C _ hq with h|h
   ·exact .inl (.inr (.inr (.inl h)))
   ·exact .inr h
  ·exact .inl (.inr (.inr (.inr hq)))
 have S:∀b,(b=i\/b=bu)->¬X.R.F X.r b:=λb I hq=>J.o.2.2.1 b (by rcases I with rfl|rfl<;>simp) (.inr (.inr (.inl hq)))
 have Bm:=N.blk (J.o.2.1 _ _ _ (Vp)) (S i (.inl rfl));have Bu:=N.blk (J.o.2.1 bu 69 #[Yr X.u] (by simp)) (S bu (.inr rfl));have α:ah X.G w B:=N.mono λq hq=>.inr (.inr (.inl hq))
 have σ:=(J.o.2.1 i _ _ (Vp)).lt;have γ:¬fT.G {X with R:=R'} g:=λhq=>by
  rcases hq with hq|hq|hq|hq
  ·have hq:g=X.u:=hq;omega
  ·have hq:g=X.j:=hq;omega
  ·exact r5 g _ hq U
  ·have:=f.dk.inh g hq;omega
 have μ:¬fT.G {X with R:=R'} i:=λhq=>by
  rcases D _ hq with h|h
  ·exact J.o.2.2.1 i (.inl rfl) h
  ·omega
 have l:=U9 (Vb D1 (Vb D (Vb Bm (Vb Bu (Vb U (Vb α r2))))));have HG:=U9 (Vb γ μ);have φ:=U9 (show w.heap.size<=g from n6);have δ:=dz U;obtain⟨q0,f0⟩:=Bu.rules;have l0:=Bu.lt;have l1:=U.lt;clear N hR ξ g3 g4 n6 U r1 r2 r3 r4 r5 γ μ σ τ f C P hu hj D1 D S Bm Bu α HF CA;by_cases z:E=Ev.zero
 ·have υ:decide (E=Ev.zero)=true:=by simp[z]
  have HZ:=U9 z;clear z;go_wp2_with fail;go_ret;exact⟨er,Ev.zero,B,rfl,l.o.2.2.1,⟨{X with R:=R'},s,p,l.o.1,⟨rfl,rfl⟩,l.o.2.2.2.2.2.1,l.o.2.1,l.o.2.2.2.2.2.2,.inl ⟨HZ.o,rfl,rfl,J.o.2.2.2.1,J.o.2.2.2.2,rfl,rfl⟩⟩,ah.refl⟩
 ·have υ:decide (E=Ev.zero)=false:=by simp[z]
  go_wp2_with fail;have D2:Ys B (B.alloc (.cells (ao E) 53)):=(Vd _ _).alloc (Vc _) _;have O:=l.o.1.call D2;obtain⟨ε,θ⟩:bI (B.alloc (.cells (ao E) 53)) X.F X.d s s none p/\p.dark=false:=by
   rcases O.dk with h|h
   ·exact⟨h.2,h.1⟩
   ·rw[J.o.2.2.2.2]at h;cases h.1
  have η:Bj (B.alloc (.cells (ao E) 53)) X.j X.d X.a false:=by
   have:=O.jo;rw[O.lv J.o.2.2.2.1]at this;exact this
  have CK:=U9 (Eu O.du ε θ η O.jF O.uF O.uj (Row.lit (base:=B.heap.size) (dO E) (ai.new B 53 (ao E)) (Vc _)) (L:=[E]) (λx hx=>by rw[VH.1 hx];exact HQ.o.2.2) (by simp));have π:=U9 D2;have HZ:=U9 z;clear D2 O ε θ η z δ q0 f0 l0;go_wp2_with fail;refine CK.o.mono ?_;rintro x W3 hk;obtain⟨e,rfl⟩:∃e,x=.returned (.int .i64 e):=⟨hk.choose,hk.choose_spec.1⟩;have ν:=l.o.1.kept π.o hk (by simp);have hT:=dI.trans (X:=X) (X1:={X with R:=R'}) ⟨rfl,rfl⟩ l.o.2.2.2.2.2.1 l.o.2.1 ν;obtain⟨X3,s3,p3,-,-,W,-,-⟩:=ν;have K:=W.blk l.o.2.2.1 HG.o.2;have V:=W.blk l.o.2.2.2.2.1 HG.o.1;have δ:=dz V;have χ:=fE K rfl E;have l2:=V.lt;have l3:=K.lt;have HY:=U9 (Vb hT K);clear hk hT W K V CK X3 s3 p3;by_cases he:e=0
  ·subst he
   have HS:=U9 (Vb (ax HY.o.2 (ao E)) (aM W3 i (ao E)));go_wp2_with fail;go_ret;refine⟨0,E,W3,rfl,HS.o.1,HY.o.1.imp λX' s' p' hq=>?_,ah.of_fr1 HS.o.2 rfl⟩;refine⟨(Vt gI.m hq.1).trans l.o.2.2.2.2.2.2,.inr ⟨HZ.o,.inl ⟨rfl,rfl,?_⟩,λ_ _=>rfl⟩⟩;rcases hq.2.1 with h|h
   ·exact⟨h.2.1,h.2.2.1,h.2.2.2.1,h.2.2.2.2⟩
   ·exact absurd rfl h.1
  ·have ψ:(e==0)=false:=by simpa using he
   go_wp2_with fail;go_ret;refine⟨e,Ev.zero,W3,rfl,HY.o.2,HY.o.1.imp λX' s' p' hq=>?_,ah.refl⟩;refine⟨(Vt gI.m hq.1).trans l.o.2.2.2.2.2.2,.inr ⟨HZ.o,.inr ?_,hq.2.2⟩⟩;rcases hq.2.1 with h|h
   ·exact absurd h.1 he
   ·exact⟨h.1,rfl,h.2⟩
section
variable{w:Yu}{u r j:Nat}{a b c d:Yv}{Q:Ending->Yu->Prop}
theorem Ey(h:FC w u r j false)(C:Yt 196 #[a,b,c,d] w Q)(g:∀x w',Q x w'->∃e:Int,x=.returned (.int .i64 e)):Yt 195 #[Yr u,.func (.func 196) #[] #[a,b,c,d]] w Q:=by
 obtain⟨m,q⟩:=h.rules;have l:=h.lt;have i:=U9 (Vb C g);clear h C g;go_enter func195,ntmps195;go_wp2_with fail;refine i.o.1.mono ?_;rintro x w1 f;obtain⟨e,rfl⟩:=i.o.2 _ _ f;go_wp2_with fail;exact f
theorem Ez(h:FC w u r j false)(C:Yt 205 #[a,b,c] w Q)(g:∀x w',Q x w'->∃e:Int,x=.returned (.int .i64 e)):Yt 195 #[Yr u,.func (.func 205) #[] #[a,b,c]] w Q:=by
 obtain⟨m,q⟩:=h.rules;have l:=h.lt;have i:=U9 (Vb C g);clear h C g;go_enter func195,ntmps195;go_wp2_with fail;refine i.o.1.mono ?_;rintro x w1 f;obtain⟨e,rfl⟩:=i.o.2 _ _ f;go_wp2_with fail;exact f
theorem Ex(h:FC w u r j false)(C:Yt 199 #[a,b,c] w Q)(g:∀x w',Q x w'->∃e:Int,x=.returned (.int .i64 e)):Yt 195 #[Yr u,.func (.func 199) #[] #[a,b,c]] w Q:=by
 obtain⟨m,q⟩:=h.rules;have l:=h.lt;have i:=U9 (Vb C g);clear h C g;go_enter func195,ntmps195;go_wp2_with fail;refine i.o.1.mono ?_;rintro x w1 f;obtain⟨e,rfl⟩:=i.o.2 _ _ f;go_wp2_with fail;exact f
end
def Qx(w:Yu)(k:Nat)(X:fT)(n:Nat)(q:Ev×Int×az)(s:cE)(p:Pw)(x:Ending)(w':Yu):Prop:=∃(e:Int) (M:Ev),x=.returned (.tuple #[.agg (ao M),.int .i64 e])/\dI w k X (n+1) w' (No q.1 q.2.1 q.2.2 s p M e)
theorem PQ{X:fT}(h:dl w k X n s p)(K:X.dead=false)(V:p.dark=false)(hn:n+1<=900000)(B:dh w){a:cJ}(ha:a.ok)(z:aT now):
  Yt 184 #[Yr X.u,.agg (cQ a),.int .u64 now] w (Qx w k X n (cH X.R.m k a) s p):=by
 have C:=((((aD.nil (w:=w)).push (t:=69) (cs:=#[Yr X.u]) (g:=w.heap.size) rfl).push (t:=42) (cs:=cQ a) (g:=w.heap.size+1) (by simp)).push (t:=32) (cs:=#[.int .u64 now]) (g:=w.heap.size+2) (by simp)).push (t:=53) (cs:=ao Ev.zero) (g:=w.heap.size+3) (by simp);have D:Ys w ((((w.alloc (.cells #[Yr X.u] 69)).alloc (.cells (cQ a) 42)).alloc (.cells #[.int .u64 now] 32)).alloc (.cells (ao Ev.zero) 53)):=((((Vd _ _).alloc (Vc _) _).alloc (by simp) _).alloc (by simp<;>omega) _).alloc (by simp<;>omega) _;have z0:((((w.alloc (.cells #[Yr X.u] 69)).alloc (.cells (cQ a) 42)).alloc (.cells #[.int .u64 now] 32)).alloc (.cells (ao Ev.zero) 53)).heap.size=w.heap.size+4:=by simp
 obtain⟨I,i⟩:∃I,I=(((w.alloc (.cells #[Yr X.u] 69)).alloc (.cells (cQ a) 42)).alloc (.cells #[.int .u64 now] 32)).alloc (.cells (ao Ev.zero) 53):=⟨_,rfl⟩;rw[<-i]at C D z0;have J:=h.call D;have N:=h.inh;have E:FC I X.u X.r X.j false:=by have:=J.du;rw[K]at this;exact this
 have L:=U9 (Ey E (PP J K V hn (B.call' D) ha z C (λg f O=>by have:=N g O;omega)) (λx w' hq=>by obtain⟨e,M,w1,rfl,-⟩:=hq;exact⟨e,rfl⟩));have Y:=U9 i;have P:=U9 (Vb D (Vb z0 N));obtain⟨q3,f3,q2,f2,q1,f1,S,U,-⟩:=C.rules;obtain⟨l3,l2,l1,W,-⟩:=C.lts;rw[i]at S U W;generalize cH X.R.m k a=q at L⊢;clear h B ha C D z0 i J N E K V q3 f3 q2 f2 q1 f1 l3 l2 l1;go_enter func184,ntmps184;go_wp2_with fail;generalize f:(((w.alloc _).alloc _).alloc _).alloc _=X0;obtain rfl:I=X0:=Y.o.trans f;clear Y f S U W;refine L.o.mono ?_;rintro x W1 ⟨e,M,w1,rfl,H,B,Z⟩;have z0:=P.o.2.1;have l:∀g,cj (w.heap.size+3) g->w.heap.size<=g:=λg f=>by have f:g=w.heap.size+3:=f;omega
 have β:=dz H;have α:=fE H rfl M;have v:=aM W1 (w.heap.size+3) (ao M);have T:=dI.own P.o.1 B (Z.trans (ah.of_fr1 v rfl)) l (λg f=>by have f:g=w.heap.size+3:=f;omega) (λg f O=>by have:=l g f;have:=P.o.2.2 g O;omega);have HX:=U9 (Vb (ax H (ao M)) T);have l1:=H.lt;clear H B Z z0 l v T L;go_wp2_with fail;refine cP (s:=6) (u:=7) results184 rfl rfl HX.o.1 underlying53 rfl (bY _) rfl ?_;exact⟨e,M,rfl,HX.o.2⟩
theorem yW{X:fT}(h:dl w k X n s p)(hn:n<=900000):Yt 17 #[Yr X.u] w (Qm w X.R.m):=by
 obtain⟨D,e,S,K⟩:=AV w 38 (cy (λ_=>false) av.zero (.slice none 0 0) (.slice none 0 0));have z0:D.heap.size=w.heap.size+1:=by rw[e];simp
 have v:=h.call K;have W:=U9 (F9 v.re hn);have B:=U9 (Vb S (Vb K z0));obtain⟨M,f0⟩:=v.du.rules;have l0:=v.du.lt;have U:=U9 e;have c1:D.cell? ⟨X.u,0,none⟩=some (Yr X.r):=M 0;clear S K v h z0 e M;go_enter func17,ntmps17;go_upto_region 1 with fail;generalize N:w.alloc _=X0;obtain rfl:D=X0:=U.o.trans N;clear U N;go_wp2_with fail;refine W.o.mono ?_;rintro x I ⟨vN,vG,rfl,C,z,f⟩;obtain⟨A1,c1,V,-,-⟩:=C.sl;obtain⟨A2,c2,O,-,-⟩:=z.sl;have J:=B.o.1.call f;have Z:=bX (P:=prog) (ty:=38) J (dn X.R.m.inn X.R.m.kn vN vG) rfl (by rw[V,O];exact kg);have E:ah (cj w.heap.size) I (I.setRow w.heap.size (cy X.R.m.inn X.R.m.kn vN vG)):=ah.of_fr1 (aM I w.heap.size _) rfl;have l:=C.ge;have i:=z.ge;have z0:=B.o.2.2;have L:=E.row C λq H t=>by
  have t:q=w.heap.size:=t;have:=(l q H).1;omega
 have T:=E.row z λq H t=>by
  have t:q=w.heap.size:=t;have:=(i q H).1;omega
 have Y:=U9 (Vb (ax J (cy X.R.m.inn X.R.m.kn vN vG)) (Vb (Row.mono L (by omega):eM _ w.heap.size vN (aW X.R.m)) (Vb (Row.mono T (by omega):iH _ w.heap.size vG (bh X.R.m)) (Below.rowN (B.o.2.1.trans (f.mono B.o.2.1.size)) (g:=w.heap.size) (Vc _) (cy X.R.m.inn X.R.m.kn vN vG)))));clear C z f V O J E l i z0 L T W;go_wp2_with fail;exact aE (s:=2) results17 rfl Y.o.1 underlying38 rfl (dn _ _ _ _) rfl ⟨vN,vG,rfl,Y.o.2⟩
theorem Mn{u j:Nat}{b:Bool}(h:FC w u r j b):Yt 25 #[Yr u] w λx w'=>x=.returned (.bool b)/\w=w':=by
 obtain⟨g,e⟩:=h.rules;have f:=h.lt;clear h;go_enter func25,ntmps25;go_wp2_with fail;go_ret;exact⟨rfl,rfl⟩
section
variable{w w1:Yu}{k n n':Nat}{X:fT}{s:cE}{p:Pw}
theorem dl.rep(h:dl w k X n s p){R':gI}(i:bV w1 X.r k R' n')(g:ah (X.R.F X.r) w w1)(e:∀q,R'.F X.r q->X.R.F X.r q\/w.heap.size<=q):dl w1 k {X with R:=R'} n' s p/\(∀q,fT.G {X with R:=R'} q->X.G q\/w.heap.size<=q):=by
 have f:=h.inh;have m:=f X.u (.inl rfl);have l:=f X.j (.inr (.inl rfl));refine⟨⟨g.blk h.du h.uR,i,g.blk h.jo h.jR,h.dk.mod g h.rF.symm,h.lv,h.uj,h.uF,h.jF,λhq=>?_,λhq=>?_,λq hq hF=>?_⟩,λq hq=>?_⟩
 ·rcases e _ hq with h'|h'
  ·exact h.uR h'
  ·have h':w.heap.size<=X.u:=h';omega
 ·rcases e _ hq with h'|h'
  ·exact h.jR h'
  ·have h':w.heap.size<=X.j:=h';omega
 ·rcases e _ hq with h'|h'
  ·exact h.rF q h' hF
  ·have:=h.dk.inh q hF;omega
 ·rcases hq with hq|hq|hq|hq
  ·exact .inl (.inl hq)
  ·exact .inl (.inr (.inl hq))
  ·rcases e _ hq with h'|h'
   ·exact .inl (.inr (.inr (.inl h')))
   ·exact .inr h'
  ·exact .inl (.inr (.inr (.inr hq)))
end
def yd(w:Yu)(k:Nat)(X:fT)(n:Nat)(x:Ending)(w':Yu):Prop:=∃e:Int,x=.returned (.int .i64 e)/\dI w k X (n+64) w' λ_ _ _=>True
theorem Hk{X:fT}(h:dl w k X n s p)(hl:X.dead=false)(hp:p.dark=false)(hn:n+64<=900000)(hT:dh w)(W:tz (X.R.F X.r)){M:Ms}(oM:M.ok)(S:dr w 0 (.slice A M.l.length c) M.l)(U:∀g,(Value.slice A M.l.length c).ownBlock=some g->¬X.R.F X.r g){P:Nat}
  (hB:aD w [(bn,32,#[.int .u64 now]),(P,297,aR ⟨M.k,M.f,M.t,M.d,.slice A M.l.length c,M.n,M.a⟩),(bu,69,#[Yr X.u])]) (hN:∀g,(g=P\/g=bn\/g=bu)->¬X.G g):
  Yt 205 #[Yr bu,Yr P,Yr bn] w (yd w k X n):=by
 have T:∀q,X.R.F X.r q->q<w.heap.size:=λq m=>h.re.inh q m
 have E:∀q,X.R.F X.r q->X.G q:=λq m=>.inr (.inr (.inl m))
 obtain⟨z,O⟩:∃z:Mc,z=⟨M.k,M.f,M.t,M.d,.slice A M.l.length c,M.n,M.a⟩:=⟨_,rfl⟩;rw[<-O]at hB;have B0:aD w [(bn,32,#[.int .u64 now]),(P,297,aR z),(bu,69,#[Yr X.u]),(X.u,100,#[Yr X.r,Yr X.j,.bool X.dead])]:=λg t cs hm=>by
  simp only[Vy,WX,WR]at hm;rcases hm with e|e|e|e
  ·exact hB _ _ _ (by simp[e])
  ·exact hB _ _ _ (by simp[e])
  ·exact hB _ _ _ (by simp[e])
  ·cases e;exact h.du
 have D:gJ (X.R.F X.r) [(bn,32,#[.int .u64 now]),(P,297,aR z),(bu,69,#[Yr X.u]),(X.u,100,#[Yr X.r,Yr X.j,.bool X.dead])]:=
  ⟨λm=>hN bn (.inr (.inl rfl)) (E _ m),λm=>hN P (.inl rfl) (E _ m),λm=>hN bu (.inr (.inr rfl)) (E _ m),h.uR,trivial⟩
 have HF:=U9 (λ(Y:Yu) (C:ah (X.R.F X.r) w Y)=>Vb (B0.mod C D).rules (Vb (B0.mod C D).lts (uV (B0.mod C D).drop.head)));have CA:=U9 (λ(Y:Yu) (C:Ys w Y)=>O▸Ke (now:=now) (h.re.call C) hn (hT.call' C) W oM (Row.call S C) U);have η:=U9 T;have HH:=U9 (Vb h (Vb B0 (Vb hN (Vb hl hp))));clear h hT W oM S U hB B0 D T E hN hl hp O;go_enter func205,ntmps205;go_wp2_with fail;refine ay [] (X.R.F X.r) 6 η.o (by kernel_rfl) (by kernel_rfl) ?_
 iterate 6
  first
  |refine eV HF.o rfl ?_
  |refine al (λ_=>rfl) ?_
  |refine bH rfl ?_
  simp only[UW,UX,UY,UZ]
 refine bP (λ_=>rfl) rfl 206 (λ_=>#[Yr X.r,.agg (aR z),.int .u64 now]) (λu:(Option Addr×Nat×Nat)×Int=>.tuple #[.slice u.1.1 u.1.2.1 u.1.2.2,.int .i64 u.2]) ((none,0,0),0) (λY v Y'=>ye Y X.r k X.R n (.returned v) Y') (λ_ w=>by simp[execOp,go_sem]<;>rfl) (λ_ Y C=>?ca2) ?_
 case ca2=>
  refine(CA.o Y C).mono ?_;rintro x Y' ⟨u,L,e,rfl,N,q2,q3,q4⟩;obtain⟨A2,c2,rfl,-,-⟩:=N.sl;refine⟨((A2,L.length,c2),e),rfl,⟨_,L,e,rfl,N,q2,q3,q4⟩,?_⟩;obtain⟨R',-,q5,-⟩:=q4;exact q5
 simp only[UW,UX,UY,UZ]
 iterate 5
  refine bH rfl ?_;simp only[UW,UX,UY,UZ]
 refine aK (by kernel_rfl) ?_;rintro⟨_,⟨⟨A2,n2,c2⟩,e⟩⟩ W1 K S;replace K:ah (X.R.F X.r) w W1:=K;dsimp only;simp only[U0,U1,U2,U3,Nat.reduceAdd,Nat.zero_add]at S;obtain⟨w1,w2,ε,-,⟨u,L,e',B,N,q2,q3,R',q4,-,q6⟩,g4⟩:=bJ (S 6 _ _ (by repeat (first|exact Or.inl ⟨rfl,rfl,rfl⟩|apply Or.inr))) rfl;have J:=g4.below λ_ h=>h.1 rfl
 have α:=(ε rfl).size;injection B with B;injection B with B;injection B with B;injection B with h1 B;injection B with B _;injection B with _ B;subst h1 B;have Z:n2=L.length:=by
  obtain⟨A3,c3,e3,-,-⟩:=N.sl;injection e3
 subst Z;have D1:=HH.o.1.rep (q4.call J) K (λq m=>by
  rcases q6 q m with h|h
  ·exact .inl h
  ·exact .inr (by omega))
 have H:dr W1 w.heap.size (.slice A2 L.length c2) L:=Row.mono (Row.call N J) α;have Bu:=K.blk (HH.o.2.1 bu 69 #[Yr X.u] (by simp)) (λm=>HH.o.2.2.1 bu (.inr (.inr rfl)) (.inr (.inr (.inl m))));have V:ah X.G w W1:=K.mono λq m=>.inr (.inr (.inl m))
 have i:=U9 (Vb D1 (Vb H (Vb q2 (Vb q3 V))));obtain⟨q0,f0⟩:=Bu.rules;have l0:=Bu.lt;clear K S ε N q2 q3 q4 q6 g4 J α D1 H Bu V HF CA;by_cases O:e=0
 ·subst O
  obtain⟨δ,γ⟩:bI W1 X.F X.d s s none p/\p.dark=false:=by
   rcases i.o.1.1.dk with h|h
   ·exact⟨h.2,h.1⟩
   ·rw[HH.o.2.2.2.2]at h;cases h.1
  have β:Bj W1 X.j X.d X.a false:=by
   have:=i.o.1.1.jo;rw[i.o.1.1.lv HH.o.2.2.2.1]at this;exact this
  have CK:=U9 (Eu i.o.1.1.du δ γ β i.o.1.1.jF i.o.1.1.uF i.o.1.1.uj i.o.2.1 i.o.2.2.2.1 i.o.2.2.1);clear δ γ β;go_wp2_with fail;refine CK.o.mono ?_;rintro x W3 I;obtain⟨e2,rfl⟩:∃e,x=.returned (.int .i64 e):=⟨I.choose,I.choose_spec.1⟩;have hD:dI w k X (n+64) W3 λ_ _ _=>True:=by
   refine dI.trans (X:=X) (X1:={X with R:=R'}) ⟨rfl,rfl⟩ i.o.2.2.2.2 i.o.1.2 ?_;by_cases hL:L=[]
   ·obtain⟨e3,-,I⟩:=I
    rcases I with⟨-,-,C⟩|⟨ζ,-⟩
    ·exact dI.same i.o.1.1 C (Vc _) trivial
    ·exact absurd hL ζ
   ·exact(i.o.1.1.kept (Vd _ _) I hL).imp λ_ _ _ _=>trivial
  have HD:=U9 hD;clear I hD CK;go_wp2_with fail;go_ret;exact⟨e2,rfl,HD.o⟩
 ·have θ:(e==0)=false:=by simpa using O
  go_wp2_with fail;go_ret;exact⟨e,rfl,{X with R:=R'},s,p,i.o.1.1,⟨rfl,rfl⟩,i.o.2.2.2.2,i.o.1.2,trivial⟩
theorem Ml{X:fT}(h:dl w k X n s p)(K:X.dead=false)(P:p.dark=false)(hn:n+64<=900000)(q:dh w)(B:tz (X.R.F X.r)){M:Ms}(O:M.ok)(W:dr w 0 (.slice A M.l.length c) M.l)(v:∀g,(Value.slice A M.l.length c).ownBlock=some g->¬X.R.F X.r g):
  Yt 188 #[Yr X.u,.agg (aR ⟨M.k,M.f,M.t,M.d,.slice A M.l.length c,M.n,M.a⟩),.int .u64 now] w (yd w k X n):=by
 obtain⟨z,J⟩:∃z:Mc,z=⟨M.k,M.f,M.t,M.d,.slice A M.l.length c,M.n,M.a⟩:=⟨_,rfl⟩;have C:=(((aD.nil (w:=w)).push (t:=69) (cs:=#[Yr X.u]) (g:=w.heap.size) rfl).push (t:=297) (cs:=aR z) (g:=w.heap.size+1) (by simp)).push (t:=32) (cs:=#[.int .u64 now]) (g:=w.heap.size+2) (by simp);have m:Ys w (((w.alloc (.cells #[Yr X.u] 69)).alloc (.cells (aR z) 297)).alloc (.cells #[.int .u64 now] 32)):=(((Vd _ _).alloc (Vc _) _).alloc (by simp) _).alloc (by simp<;>omega) _;obtain⟨E,i⟩:∃E,E=((w.alloc (.cells #[Yr X.u] 69)).alloc (.cells (aR z) 297)).alloc (.cells #[.int .u64 now] 32):=⟨_,rfl⟩;rw[<-i]at C m;have H:=h.call m;have U:=h.inh;have D:FC E X.u X.r X.j false:=by have:=H.du;rw[K]at this;exact this
 have T:=U9 (Ez D (Hk H K P hn (q.call' m) B O (Row.call W m) v (now:=now) (J▸C) (λg I hG=>by have:=U g hG;omega)) (λx w' Y=>by obtain⟨e,rfl,-⟩:=Y;exact⟨e,rfl⟩));have V:=U9 i;have HH:=U9 m;obtain⟨q2,f2,q1,Z,L,N,-⟩:=C.rules;obtain⟨l2,l1,S,-⟩:=C.lts;rw[i]at L N S;rw[<-J];clear h q B O W v C m i H U D K P q2 f2 q1 Z l2 l1 J;go_enter func188,ntmps188;go_wp2_with fail;generalize I:((w.alloc _).alloc _).alloc _=X0;obtain rfl:E=X0:=V.o.trans I;clear V I L N S;refine T.o.mono ?_;rintro x W1 ⟨e,rfl,q⟩;have HX:=U9 (dI.pre HH.o q);clear q T;go_wp2_with fail;go_ret;exact⟨e,rfl,HX.o⟩
def Qw(w:Yu)(k:Nat)(X:fT)(n:Nat)(x:Ending)(w':Yu):Prop:=∃v L,x=.returned v/\ik w' w.heap.size v L/\(∀y∈L,qH w' w.heap.size y)/\L.length<=38/\dI w k X n w' λ_ _ _=>True
def Ql(w:Yu)(k:Nat)(X:fT)(n e:Nat)(x:Ending)(w':Yu):Prop:=∃v L w1,x=.returned (.int .i64 0)/\ai w' e 117 #[v]/\ik w' w.heap.size v L/\(∀y∈L,qH w' w.heap.size y)/\L.length<=38/\(dI w k X n w1 λ_ _ _=>True)/\ah (cj e) w1 w'
theorem Hj{X:fT}(h:dl w k X n s p)(hn:n<=100000)(O:aT now){i:Nat}
  (hB:aD w [(i,117,#[.slice none 0 0]),(bn,32,#[.int .u64 now]),(bu,69,#[Yr X.u])]) (W:∀g,(g=i\/g=bn\/g=bu)->¬X.G g):
  Yt 199 #[Yr bu,Yr bn,Yr i] w (Ql w k X n i):=by
 have M:∀q,X.R.F X.r q->q<w.heap.size:=λq f=>h.re.inh q f
 have z:∀q,X.R.F X.r q->X.G q:=λq f=>.inr (.inr (.inl f))
 have B0:aD w [(i,117,#[.slice none 0 0]),(bn,32,#[.int .u64 now]),(bu,69,#[Yr X.u]),(X.u,100,#[Yr X.r,Yr X.j,.bool X.dead])]:=λg t cs hm=>by
  simp only[Vy,WX,WR]at hm;rcases hm with e|e|e|e
  ·exact hB _ _ _ (by simp[e])
  ·exact hB _ _ _ (by simp[e])
  ·exact hB _ _ _ (by simp[e])
  ·cases e;exact h.du
 have D:gJ (X.R.F X.r) [(i,117,#[.slice none 0 0]),(bn,32,#[.int .u64 now]),(bu,69,#[Yr X.u]),(X.u,100,#[Yr X.r,Yr X.j,.bool X.dead])]:=
  ⟨λf=>W i (.inl rfl) (z _ f),λf=>W bn (.inr (.inl rfl)) (z _ f),λf=>W bu (.inr (.inr rfl)) (z _ f),h.uR,trivial⟩
 have HF:=U9 (λ(Y:Yu) (J:ah (X.R.F X.r) w Y)=>Vb (B0.mod J D).rules (B0.mod J D).lts);have CA:=U9 (λ(Y:Yu) (J:Ys w Y)=>Kc (h.re.call J) hn O);have α:=U9 M;have HH:=U9 (Vb h (Vb B0 W));clear h hB B0 D M z W;go_enter func199,ntmps199;go_wp2_with fail;refine eO 6 [] (X.R.F X.r) 5 α.o (by kernel_rfl) (by simp) (by decide+kernel) (by decide+kernel) (by decide+kernel) (by decide+kernel) ?_;simp only[U4,U5,U6,U7]
 iterate 5
  first
  |refine eV HF.o rfl ?_
  |refine al (λ_=>rfl) ?_
  |refine bH rfl ?_
  simp only[UW,UX,UY,UZ]
 refine bP (λ_=>rfl) rfl 200 (λ_=>#[Yr X.r,.int .u64 now]) (λu:Option Addr×Nat×Nat=>.slice u.1 u.2.1 u.2.2) (none,0,0) (λY v Y'=>Fc Y X.r k X.R n (.returned v) Y') (λ_ w=>by simp[execOp,go_sem]<;>rfl) (λ_ Y J=>?ca2) ?_
 case ca2=>
  refine(CA.o Y J).mono ?_;rintro x Y' ⟨u,L,rfl,P,Z,q3,T⟩;obtain⟨A2,c2,rfl,-,-⟩:=P.sl;refine⟨(A2,L.length,c2),rfl,⟨_,L,rfl,P,Z,q3,T⟩,?_⟩;obtain⟨R',-,q5,-⟩:=T;exact q5
 simp only[UW,UX,UY,UZ];refine aK (by kernel_rfl) ?_;rintro⟨_,⟨A2,n2,c2⟩⟩ E I hR;replace I:ah (X.R.F X.r) w E:=I;dsimp only;simp only[U0,U1,U2,U3,Nat.reduceAdd,Nat.zero_add]at hR;obtain⟨w1,w2,U,-,⟨u,L,he,P,Z,q3,R',T,-,q6⟩,g4⟩:=bJ (hR 5 _ _ (by repeat (first|exact Or.inl ⟨rfl,rfl,rfl⟩|apply Or.inr))) rfl;have B:=g4.below λ_ h=>h.1 rfl
 have H:=(U rfl).size;injection he with he;subst he;have D1:=HH.o.1.rep (T.call B) I (λq f=>by
  rcases q6 q f with h|h
  ·exact .inl h
  ·exact .inr (by omega))
 have C:ik E w.heap.size (.slice A2 n2 c2) L:=Row.mono (Row.call P B) H;have mt:∀y∈L,qH E w.heap.size y:=λy K=>⟨(Z y K).ok,Row.mono (Row.call (Z y K).row B) H⟩
 have Bl:=I.blk (HH.o.2.1 i 117 #[.slice none 0 0] (by simp)) (λf=>HH.o.2.2 i (.inl rfl) (.inr (.inr (.inl f))));have V:=(HH.o.2.1 i 117 #[.slice none 0 0] (by simp)).lt;have S:ah X.G w E:=I.mono λq f=>.inr (.inr (.inl f))
 have l:=U9 (Vb D1 (Vb C (Vb mt (Vb q3 (Vb S Bl)))));have β:=U9 V;obtain⟨q0,f0⟩:=Bl.rules;have l0:=Bl.lt;clear I hR U P Z q3 T q6 g4 B H D1 C mt Bl S V HF CA;go_wp2_with fail;go_ret;have m:ah (cj i) E (E.setCell ⟨i,0,none⟩ (.slice A2 n2 c2)):=ah.set ⟨i,0,none⟩ (show cj i i from rfl) _;have N:∀q,w.heap.size<=q->¬cj i q:=λq f e=>by have e:q=i:=e;have:=β.o;omega
 exact⟨_,L,E,rfl,l.o.2.2.2.2.2.set_ 0 _,m.row l.o.2.1 λq f=>N q (l.o.2.1.ge q f).1,λy K=>⟨(l.o.2.2.1 y K).ok,m.row (l.o.2.2.1 y K).row λq f=>N q ((l.o.2.2.1 y K).row.ge q f).1⟩,l.o.2.2.2.1,⟨{X with R:=R'},s,p,l.o.1.1,⟨rfl,rfl⟩,l.o.2.2.2.2.1,l.o.1.2,trivial⟩,m⟩
theorem Mk{X:fT}(h:dl w k X n s p)(hl:X.dead=false)(hn:n<=100000)(H:aT now):
  Yt 185 #[Yr X.u,.int .u64 now] w (Qw w k X n):=by
 have J:=(((aD.nil (w:=w)).push (t:=69) (cs:=#[Yr X.u]) (g:=w.heap.size) rfl).push (t:=32) (cs:=#[.int .u64 now]) (g:=w.heap.size+1) (by simp)).push (t:=117) (cs:=#[.slice none 0 0]) (g:=w.heap.size+2) (by simp);have U:Ys w (((w.alloc (.cells #[Yr X.u] 69)).alloc (.cells #[.int .u64 now] 32)).alloc (.cells #[.slice none 0 0] 117)):=(((Vd _ _).alloc (Vc _) _).alloc (by simp) _).alloc (by simp<;>omega) _;have z0:(((w.alloc (.cells #[Yr X.u] 69)).alloc (.cells #[.int .u64 now] 32)).alloc (.cells #[.slice none 0 0] 117)).heap.size=w.heap.size+3:=by simp
 obtain⟨E,i⟩:∃E,E=((w.alloc (.cells #[Yr X.u] 69)).alloc (.cells #[.int .u64 now] 32)).alloc (.cells #[.slice none 0 0] 117):=⟨_,rfl⟩;rw[<-i]at J U z0;have Y:=h.call U;have hi:=h.inh;have M:FC E X.u X.r X.j false:=by have:=Y.du;rw[hl]at this;exact this
 have C1:=U9 (Ex M (Hj Y hn H J (λg f hG=>by have:=hi g hG;omega)) (λx w' D=>by obtain⟨v,L,w1,rfl,-⟩:=D;exact⟨0,rfl⟩));have HW:=U9 i;have HH:=U9 (Vb U (Vb z0 hi));obtain⟨q2,f2,q1,f1,W,Z,-⟩:=J.rules;obtain⟨l2,l1,l0,-⟩:=J.lts;rw[i]at W Z l0;clear h J U z0 i Y hi M hl q2 f2 q1 f1 l2 l1;go_enter func185,ntmps185;go_wp2_with fail;generalize f:((w.alloc _).alloc _).alloc _=X0;obtain rfl:E=X0:=HW.o.trans f;clear HW f W Z l0;refine C1.o.mono ?_;rintro x I ⟨v,L,w1,rfl,S,T,P,z,hT,hm⟩;have z0:=HH.o.2.1;obtain⟨m,l,rfl,-,-⟩:=T.sl;obtain⟨W,Z⟩:=S.rules;have l0:=S.lt;have C:∀g,cj (w.heap.size+2) g->w.heap.size<=g:=λg f=>by have f:g=w.heap.size+2:=f;omega
 have O:ah (cj (w.heap.size+2)) I (I.setCell ⟨w.heap.size+2,0,none⟩ (.slice m L.length l)):=ah.set ⟨w.heap.size+2,0,none⟩ (show cj (w.heap.size+2) (w.heap.size+2)from rfl) _;have hD:=dI.own HH.o.1 hT (hm.trans O) C (λg f=>by have f:g=w.heap.size+2:=f;omega) (λg f hG=>by have:=C g f;have:=HH.o.2.2 g hG;omega);have B:∀q,E.heap.size<=q->¬cj (w.heap.size+2) q:=λq D e=>by have e:q=w.heap.size+2:=e;omega
 have N:ik (I.setCell ⟨w.heap.size+2,0,none⟩ (.slice m L.length l)) w.heap.size (.slice m L.length l) L:=Row.mono (O.row T λq D=>B q (T.ge q D).1) (by omega);have K:∀y∈L,qH (I.setCell ⟨w.heap.size+2,0,none⟩ (.slice m L.length l)) w.heap.size y:=λy hy=>⟨(P y hy).ok,Row.mono (O.row (P y hy).row λq D=>B q ((P y hy).row.ge q D).1) (by omega)⟩
 have HX:=U9 (Vb (S.set_ 0 (.slice m L.length l)) (Vb N (Vb K (Vb z hD))));clear S T P z hT hm C O hD B N K C1 z0;go_wp2_with fail;have V:=HX.o.1;refine VF (v:=.slice m L.length l) ?_ rfl ⟨_,L,rfl,HX.o.2⟩;have hc:(I.setCell ⟨w.heap.size+1+1,0,none⟩ (.slice m L.length l)).cell? ⟨w.heap.size+1+1,0,none⟩=some (.slice m L.length l):=by
  have:=V.cell 0;simpa using this
 simp[results,results185,asAddr,loadVar,go_sem,hc]
theorem DN(R:List cE):8*R.length<=dS R:=by
 induction R with
 |nil=>exact Vc _
 |cons x R ih=>
  unfold dS at ih⊢;simp only[VG,XU,VB]at ih⊢;omega
theorem DM:∀{n:Nat},n<=R.length->(∀i x,i<n->R[i]? =some x->x.l.length=91)->99*n<=dS R:=by
 induction R with
 |nil=>intro n h _;simp at h;subst h;exact Vc _
 |cons x R ih=>
  intro n h f;cases n with
  |zero=>exact VX _
  |succ n=>
   have e:=ih (n:=n) (by simpa using h) λi y o g=>f (i+1) y (by omega) (by simpa using g)
   have m:=f 0 x (by omega) rfl;unfold dS at e⊢;simp only[VG,XU]at e⊢;omega
def JE(w:Yu)(m k:Nat)(F:Nat->Prop)(d:Nat)(s:cE)(p:Pw)(x:Ending)(w':Yu):Prop:=ah F w w'/\
 ((∃(e:Int) (G:Nat->Prop) (s':cE) (p':Pw),e≠0/\x=.returned (.tuple #[.pointer none,.int .i64 e])/\sj w' G d s' p'/\(∀q,G q->F q\/w.heap.size<=q)/\¬(s.l.length=0/\p.burning=false))\/
  (∃(X:fT) (s':cE) (p':Pw),x=.returned (.tuple #[Yr X.u,.int .i64 0])/\dl w' k X 50000 s' p'/\X.d=d/\X.dead=false/\p'.dark=false/\p'.burning=p.burning/\s'.l.length<=s.l.length/\(∀q,X.G q->F q\/w.heap.size<=q)/\(s.l.length=0->X.R.m=iV m)))
theorem Ju{m:Nat}(h1:1<=m)(h6:m<=6)(hk:k<6){F:Nat->Prop}{d:Nat}(h:bI w F d s s none p)(hp:p.dark=false)(hT:dh w)(φ:tz F):
  Yt 23 #[.int .i64 m,.int .i64 ((k:Int)+1),Yr d] w (JE w m k F d s p):=by
 have CN:=U9 (Oj m k h1 h6 hk w);have U:=U9 (Vb h (Vb hp (Vb hT φ)));clear h hp hT φ;go_enter func23,ntmps23;go_wp2_with fail;refine CN.o.mono ?_;rintro x W1 ⟨r,R,rfl,Z,ξ,υ,M⟩;have CJ:=U9 (O9 (U.o.1.call M) U.o.2.1);have V:=U9 (Vb Z (Vb ξ (Vb υ M)));clear Z ξ υ M CN;go_wp2_with fail;refine CJ.o.mono ?_;rintro x W2 ⟨hm,G,O,η⟩;have M:=V.o.2.2.2;have τ:=M.size;have ι:=hm.size;have D:ah F w W2:=(ah.of_below M).trans' hm λ_ _ h=>h
 have f:∀q,G q->F q\/w.heap.size<=q:=λq hq=>by
  rcases O q hq with h|h
  ·exact .inl h
  ·exact .inr (by omega)
 rcases η with⟨e,p',he,rfl,hd,ω⟩|⟨j,a,rv,Rr,s',p',rfl,hj,J,C,δ,α,ζ,S,E,i,z,B,Θ⟩
 ·have HX:=U9 (Vb D (Vb (sj.of hd) (Vb f (Vb ω he))))
  have Φ:(e==0)=false:=by simpa using he
  clear hm O hd ω he D f CJ;go_wp2_with fail;go_ret2;exact⟨HX.o.1,.inl ⟨e,G,s,p',HX.o.2.2.2.2,rfl,HX.o.2.1,HX.o.2.2.1,λhh=>by rw[HX.o.2.2.2.1]at hh;cases hh.2⟩⟩
 ·have π:=E.sl
  have σ:=U.o.1.sl;have h8:=DN Rr;have CE:=U9 (Ew δ α (by omega));have v:=V.o.2.2.1;have T:bV W2 r k R 0:=V.o.1.mod hm λq hq hF=>by have:=v q hq;have:=U.o.1.inh q hF;omega
  have H2:=U9 (Vb D (Vb f (Vb T (Vb hj (Vb J (Vb C (Vb E (Vb i (Vb z (Vb B (Vb S O)))))))))));have HS:=U9 (Vb τ (Vb ι σ));clear hm O δ α ζ S E i z B Θ D f T hj J C M τ ι π σ h8 v CJ;go_wp2_with fail;refine CE.o.mono ?_;rintro x W3 ⟨u,L,b,rfl,hL,ε,β,θ,ν,t⟩;have ψ:=DM θ ν;have v:=V.o.2.2.1;obtain⟨z1,z2,z4⟩:=HS.o;have κ:dh W3:=(U.o.2.2.1.mod H2.o.1 U.o.2.2.2.k U.o.2.2.2.d).call' t;have Ξ:=U.o.2.2.1.lt;have H:=V.o.1.inh;have CR:=U9 (Cd (n:=0) (H2.o.2.2.1.call t) κ ⟨λhF=>by have:=v _ hF;omega,λhF=>by have:=v _ hF;omega⟩ hL ε (by have:=H2.o.2.2.2.2.2.2.2.2.2.2.1;omega) (λg hg hF=>by have:=(hL.ge g hg).1;have:=H g hF;omega));have H3:=U9 (Vb β (Vb t (Vb ψ θ)));clear hL ε β θ ν t ψ κ Ξ H v z1 z2 z4 CE;have μ:s.l.length=0->Rr.length=0:=λh0=>by have:=DN Rr;have:=H2.o.2.2.2.2.2.2.2.2.2.2.1;omega
  have HZ:=U9 μ;clear μ;cases b with
  |false=>
   go_wp2_with fail;go_ret2;obtain⟨D,f,T,hj,J,C,E,i,z,B,S,O⟩:=H2.o;exact⟨D.call H3.o.2.1,.inl ⟨5,G,s',p',by decide,rfl,.inl ⟨i,E.call H3.o.2.1⟩,f,λhh=>by have:=H3.o.1 (Wg.1 (HZ.o hh.1));cases this⟩⟩
  |true=>
   go_wp2_with fail;refine CR.o.mono ?_;rintro x W ⟨e,rfl,hW,hz⟩;obtain⟨D,f,T,hj,J,C,E,i,z,B,S,O⟩:=H2.o;obtain⟨R',r1,r2,r3,r4⟩:∃R',bV W r k R' (0+L.length)/\ah (R.F r) W3 W/\(∀q,R'.F r q->R.F r q\/W3.heap.size<=q)/\(L=[]->R'.m=R.m):=by
    by_cases hL:L=[]
    ·obtain⟨-,R',a1,a2,a3,a4⟩:=hz hL
     exact⟨R',a1.more (VX _),a3,a4,λ_=>a2.1⟩
    ·obtain⟨R',a1,a3,a4⟩:=hW
     exact⟨R',a1,a3,a4,λh=>absurd h hL⟩
   have H:=V.o.1.inh;have I:=V.o.2.2.1;obtain⟨z1,z2,z4⟩:=HS.o;have t:=H3.o.2.1;have z3:=t.size;have z5:=r2.size;have χ:=U.o.1.inh;have γ:iB G (R.F r):=λq hq Z=>by
    have h1:=I q Z;have h2:=H q Z;rcases O q hq with h|h
    ·have:=χ q h;omega
    ·omega
   have K:=(E.call t).mod r2 γ;have N:ah F w W:=(D.call t).trans' r2 λq hq Z=>by have:=I q Z;omega
   have P:Bj W j d a false:=r2.blk (ai.call hj t) λZ=>by have:=H j Z;omega
   have Y:L.length<=50000:=by have:=H3.o.2.2.1;omega
   have H4:=U9 (Vb r1 (Vb r3 (Vb r4 (Vb K (Vb N (Vb P (Vb Y (Vb hz (Vb (Vb z1 (Vb z2 (Vb z3 z5))) (Vb O (Vb J (Vb C (Vb i (Vb z (Vb B (Vb f I))))))))))))))));clear hW hz CR D f T hj J C E i z B S O r1 r2 r3 r4 H I z1 z2 z4 t z3 z5 χ γ K N P Y;by_cases he:e=0
   ·subst he
    go_wp2_with fail;go_ret2;obtain⟨r1,r3,r4,K,N,P,Y,-,⟨z1,z2,z3,z5⟩,O,J,C,i,z,B,f,I⟩:=H4.o;have hD:Ys W (W.alloc (.cells #[Yr r,Yr j,.bool false] 100)):=(Vd _ _).alloc (Vc _) _;have H:=r1.inh;have Ψ:=K.inh;have Γ:=V.o.1.inh;have Ω:=ai.lt P;refine⟨N.call hD,.inr ⟨⟨R',r,W.heap.size,j,d,a,false,false,G⟩,s',p',rfl,⟨ai.new _ _ _,(r1.call hD).more (by omega),ai.call P hD,.inl ⟨i,K.call hD⟩,λ_=>rfl,?_,λhq=>?_,C,λhq=>?_,λhq=>?_,λq hq hF=>?_⟩,rfl,rfl,i,z,B,λq hq=>?_,λh0=>?_⟩⟩
    ·show W.heap.size≠j;omega
    ·have:=Ψ _ hq;exact absurd this (Yp _)
    ·have:=H _ hq;exact absurd this (Yp _)
    ·rcases r3 j hq with h|h
     ·have:=Γ j h;omega
     ·have hh:=H2.o.2.2.2.1.lt
      have:=H3.o.2.1.size;omega
    ·rcases r3 q hq with h|h
     ·have h1:=Γ q h
      have h2:=I q h;rcases O q hF with h'|h'
      ·have:=U.o.1.inh q h';omega
      ·omega
     ·rcases O q hF with h'|h'
      ·have:=U.o.1.inh q h';omega
      ·omega
    ·rcases hq with hq|hq|hq|hq
     ·have hq:q=W.heap.size:=hq;exact .inr (by omega)
     ·have hq:q=j:=hq;exact .inr (by omega)
     ·rcases r3 q hq with h|h
      ·exact .inr (I q h)
      ·exact .inr (by omega)
     ·exact f q hq
    ·have Δ:L=[]:=Wg.1 (by have:=HZ.o h0;have:=H3.o.2.2.2;omega)
     exact(r4 Δ).trans V.o.2.1
   ·have Φ:(e==0)=false:=by simpa using he
    go_wp2_with fail;go_ret2;obtain⟨r1,r3,r4,K,N,P,Y,hz,-,O,J,C,i,z,B,f,I⟩:=H4.o;exact⟨N,.inl ⟨5,G,s',p',by decide,rfl,.inl ⟨i,K⟩,f,λhh=>he (hz (Wg.1 (by have:=HZ.o hh.1;have:=H3.o.2.2.2;omega))).1⟩⟩
end
