import Derived.Test.YtemcfhlbmhbjeaaGreatDoorZ28
set_option maxRecDepth 100000
set_option maxHeartbeats 0
set_option linter.all false
namespace Go.Proofs.YtemcfhlbmhbjeaaGreatDoor
open Go.Proofs.Tryz
variable{w W w0 W':D}{g base c aeM k n cc d c1 i l:Nat}{B:ez}{m:bV}{inn:Nat->Bool}{kn:an}{cs:List H}{t:ay}{L:List eB}{vN vG:H}{y:eB}{o o':Obj}
open Go Go.RowKit
def nO(id:Int)(x:eB):Bool:=x.id==id
def XZ{id:Int}(e:M W c1 31 #[q id])(x:eB):
  Calls prog 53 #[.agg (eW x),N c1] W λr W'=>r=.returned (.bool (nO id x))/\S W W':=by
 have b:S W (W.alloc (.cells (eW x) 52)):=(aq _ _).alloc (ao _) _;have a:ax (W.alloc (.cells (eW x) 52)) [(W.heap.size,52,eW x),(c1,31,#[q id])]:=(ax.cons e ax.nil).push O;obtain⟨s,-,v,-,-⟩:=a.rules;obtain⟨p,u,-⟩:=a.lts;have f:=U b;have j:=xD x;have h:=U (show nO id x=(x.id==id)from O);clear e b a;go_wp2;go_ret;exact⟨by rw[h.o];rfl,f.o⟩
def Tm{v:H}(h:eV w base v L)(hn:L.length<=1000000){id:Int}(h1:M w c1 31 #[q id]):
  Calls prog 52 #[v,.func (.func 53) #[] #[N c1]] w λr w'=>r=.returned (Z (kf (nO id) L))/\S w w':=by
 obtain⟨A,c,rfl,hc,hm⟩:=h.sl;have J:=aB h h1;clear h h1;go_wp2;go_loopw [8] (λu wr=>∃k:Nat,k<=L.length/\u=Z k/\(∀x∈L.take k,nO id x=false)/\S w wr) (λu _=>L.length-(intOf u).toNat);exact⟨0,V,O,ah,aq _ _⟩;obtain⟨k,hk,rfl,s,E⟩:=hrel;have p:=aB s E;clear s E;by_cases Q:k<L.length
 ·obtain⟨y,hy⟩:∃y,L[k]? =some y:=⟨L[k],bY Q⟩;have e:=Row.call J.o.1 p.o.2;obtain⟨g,α,hs,C,β,δ,ε⟩:=e.sl_pos V;rw[hs]at e;have F:=e.rng mT hy;obtain⟨rfl,T⟩:A=some (I g 0)/\c=α:=by injection hs with a b c;exact⟨a,c⟩
  have γ:=eO (P:=prog) F underlying52 O (wP y);have k0:(0:Int)<=(k:Int):=V;have kl:(k:Int)<L.length:=V;obtain⟨b,R⟩:=aM (nO id y);have CH:=U (λ(X:D) (hX:S w X)=>XZ (M.call J.o.2 hX) y);rw[R]at CH;have K:=aB hy R;clear e F hs C β T hy R;go_wp2_with fail;apply(CH.o _ p.o.2).mono;rintro r w2 ⟨rfl,G⟩;have D2:=U (p.o.2.trans (G.mono p.o.2.size));clear CH G γ;cases b with
  |true=>go_wp2;go_ret;refine⟨?_,D2.o⟩;rw[DN K.o.1 K.o.2 λj hj f hz=>p.o.1 f (List.mem_take_iff_getElem.2 ⟨j,aA ((fN.1 hz).1),(fN.1 hz).2⟩)];rfl
  |false=>
   go_wp2;go_roundw
   ·refine⟨k+1,V,by go_num,λf hz=>?_,D2.o⟩;rw[gP,K.o.1]at hz;rcases bP.1 hz with hz|hz;exact p.o.1 f hz;obtain rfl:f=y:=az hz;exact K.o.2
   simp[intOf];omega
 obtain rfl:k=L.length:=V;go_wp2;go_ret;refine⟨?_,p.o.2⟩;rw[Ky λx hx=>p.o.1 x (by rw[jt];exact hx)];rfl
def Wu(h:eV w base vN L)(s:L.length<=1000000)(id:Int):
  Calls prog 37 #[.agg (aT inn kn vN vG),q id] w λr v=>r=.returned (Z (kf (nO id) L))/\S w v:=by
 have e:S w ((w.alloc (.cells (aT inn kn vN vG) 37)).alloc (.cells #[q id] 31)):=((aq _ _).alloc (ao _) _).alloc ah _;have b:ax ((w.alloc (.cells (aT inn kn vN vG) 37)).alloc (.cells #[q id] 31)) [(w.heap.size+1,31,#[q id]),(w.heap.size,37,aT inn kn vN vG)]:=((ax.nil (w:=w)).push (t:=37) (cs:=aT inn kn vN vG) (g:=w.heap.size) O).push (t:=31) (cs:=#[q id]) (g:=w.heap.size+1) ah;have p:=Row.call h e;have j:=U (Tm p s b.head);obtain⟨G,-,E,-,-⟩:=b.rules;obtain⟨F,C,-⟩:=b.lts;have f:=U e;obtain⟨A,c,rfl,K,x⟩:=h.sl;clear e b p h s;go_in;go_wp2_with fail;apply j.o.mono;rintro r J ⟨rfl,a⟩;have u:=U (f.o.trans (a.mono f.o.size));clear j a;go_wp2;go_ret;exact⟨O,u.o⟩
def Mj{m:aG}(h:m.ok)(s:(cq m)[i]? =some y):kf (nO y.id) (cq m)=i:=by
 have E:(eG m.tr).Nodup:=(sW m.tr).nodup_iff.2 h.tr.wf.keys;have b:∀(j:Nat) (a:eB),(cq m)[j]? =some a->(eG m.tr)[j]? =some a.id:=λj a f=>by unfold cq at f;rw[nX]at f;obtain⟨id,r,rfl⟩:=yj.1 f;exact r
 refine DN s (by simp[nO]) λj v a f=>?_;have r:=b i y s;have x:=b j a f;have p:a.id≠y.id:=λe=>by obtain⟨A,u⟩:=fN.1 r;obtain⟨C,F⟩:=fN.1 x;exact List.pairwise_iff_getElem.1 E j i C A v (by rw[u,F,e])
 simpa[nO]using p
def NY{m:aG}(h:m.ok):(cq m).length<=32:=by unfold cq;rw[j3,CV];exact h.tr.le
def ip(f:Nat->Int):Nat->Int
 |0=>(eL f).2
 |k+1=>ip f k+cS f k
def Q2(f:Nat->Int):-6755399441055744<=(eL f).2/\0<=(eL f).1/\(eL f).1<=6755399441055744:=by
 unfold eL;cases h:ie f with
 |false=>simp
 |true=>have:=FF h 6 V;rw[av rfl];show _<=nz f 6/\0<=mm f 6/\mm f 6<=_;omega
def La(f:Nat->Int):∀k,k<=6->(eL f).2<=ip f k/\ip f k+(6-k:Int)*0<=ip f 6/\ip f 6=(eL f).1:=by obtain⟨C,a⟩:=KD f;have p:=a 0 V;have v:=a 1 V;have x:=a 2 V;have E:=a 3 V;have b:=a 4 V;have F:=a 5 V;have e:ip f 0=(eL f).2:=rfl;have r:ip f 1=ip f 0+cS f 0:=rfl;have G:ip f 2=ip f 1+cS f 1:=rfl;have s:ip f 3=ip f 2+cS f 2:=rfl;have A:ip f 4=ip f 3+cS f 3:=rfl;have j:ip f 5=ip f 4+cS f 4:=rfl;have u:ip f 6=ip f 5+cS f 5:=rfl;intro k h;have:k=0\/k=1\/k=2\/k=3\/k=4\/k=5\/k=6:=V;rcases this with rfl|rfl|rfl|rfl|rfl|rfl|rfl<;>omega
def Qg(f:Nat->Int)(a:k<=6):-9223372036854775808<=ip f k/\ip f k<=9223372036854775807:=by have b:=Q2 f;have e:=La f k a;omega
def Yc{h:Nat}{b:Option Addr}{a:Nat}{C:Nat->Bool}(e:M w h 149 (dZ (.slice b a c1) C)):Calls prog 33 #[N h] w λr f=>r=.returned (Z a)/\w=f:=by have j:w.cell? (I h 0)=some (.slice b a c1):=e.cell 0;clear e;go_wp2;go_ret;exact⟨O,O⟩
def WE{C:aJ}(h:cE w0 w c C aeM):Calls prog 19 #[N c] w λr j=>r=.returned (Z C.ML.length)/\w=j:=by obtain⟨A,c1,e,-⟩:=dS h.ne.own;have a:=h.ne.blk;have b:=h.ne.evs.len;rw[e]at a;have f:=U (Yc a);rw[b]at f;obtain⟨-,-,s,-,-,v,u⟩:=h.rd (k:=0) V;clear h a e b;go_in;go_wp2_with fail;apply f.o.mono;rintro r p ⟨rfl,rfl⟩;go_wp2;go_ret;exact⟨O,O⟩
def jx.at_{x:bD}(h:jx x)(W:D):x.At W:=by unfold bD.At;rw[h.pa,h.pk,h.pc];exact⟨⟨O,λh=>absurd h (sJ 0)⟩,ai,ai⟩
@[go_sem ↓ high] def aaT:=@jC 73
def NG(k a n:Int)(w:D):∃W',(eQ 73 (N w.heap.size) (.agg (iz k a n))).run prog (w.alloc (.cells #[.int .u8 0,.int .u8 0,Z 0] 73))=.ok .skip W'/\M W' w.heap.size 73 (iz k a n)/\S w W':=by have B:M (w.alloc (.cells #[.int .u8 0,.int .u8 0,Z 0] 73)) w.heap.size 73 (iz 0 0 0):=M.new _ _ _;exact⟨_,ft B (zr k a n) O (by simp[iz,Value.oneCell']),dt B _,Below.rowN ((aq _ _).alloc (ao _) _) (ao _) _⟩
def ko.call{C:aJ}(h:ko w0 g c B n aeM cc C m W)(a:S W W'):ko w0 g c B n aeM cc C m W':=⟨h.wo.call a,h.sem,h.aud,h.nd,h.n,h.below.trans (a.mono h.below.size)⟩
structure Vi(w:D)(g9:Nat)(k a n:Int):Prop where
 ls:(dQ 73 (N g9)).run prog w=.ok (.value (.agg (iz k a n))) w
 lt:g9<w.heap.size
structure rc(w0:D)(g c:Nat)(B:ez)(n aeM cc:Nat)(m:bV)(base:Nat)(v:H)(L:List bD)(C:aJ)(W:D):Prop where
 wh:ko w0 g c B n aeM cc C m W
 row:jz W base v L
 far:∀aeT,v.ownBlock=some aeT->¬nP c C B g aeT
def rc.call{v:H}{L:List bD}{C:aJ}(h:rc w0 g c B n aeM cc m base v L C W)(a:S W W'):rc w0 g c B n aeM cc m base v L C W':=
 ⟨⟨h.wh.wo.call a,h.wh.sem,h.wh.aud,h.wh.nd,h.wh.n,h.wh.below.trans (a.mono h.wh.below.size)⟩,Row.call h.row a,h.far⟩
def rc.step{v:H}{L:List bD}{C:aJ}{x:bD}{r:Ending}(h:rc w0 g c B n aeM cc m base v L C W)(p:jx x)(F:cc<=1000)(f:vl w0 W g c C aeM B m x r W'):
  ∃u b,r=.returned u/\rc w0 g c B n aeM cc m base v L b W':=by
 obtain⟨E,e,b,rfl,j,s,A⟩:=h.wh.step F f;rw[al p.d1,al p.d1]at j;refine⟨_,b,O,j,s.row h.row λk a=>h.far k a,λk a hF=>?_⟩;have G:=(h.row.lt k a).2;rcases hF with hF|hF|hF;exact h.far k a (.inl hF);rcases A k hF with hq|hq;exact h.far k a (.inr (.inl hq));omega;exact h.far k a (.inr (.inr hF))
def VY(w0:D)(g c:Nat)(B:ez)(n aeM cc:Nat)(m:bV)(r:Ending)(W':D):Prop:=∃u a,r=.returned u/\ko w0 g c B n aeM cc a m W'
def WY{C:aJ}(h:ko w0 g c B n aeM cc C m w)(ε:1<=n)(η:n<=6)(hN:50000<=aeM/\aeM<=100000)(hc:cc<=1000)(hT:dr w0)(hM:qO w0){b o cap:Nat}{k a s:Int}(hr:lB w0 b o (iz k a s))(f:b<w0.heap.size)(ν:1<=cap)(hk:j2 k)(ha:j2 a)(hz:fG s):
  Calls prog 7 #[N g,Z n,.slice (some (I b o)) 1 cap] w (VY w0 g c B n aeM cc m):=by
 have T:=iA h hT hM hr hk;have HU:=aB ha hz;clear h hT hM hr hk ha hz;go_wp2;go_loopw [7,17] (λv7 i wr=>∃(d:Int) (j:Nat) (C':aJ),v7=Z d/\i=Z j/\j<=1/\ko w0 g c B n aeM cc C' m wr) (λ_ i _=>1-(intOf i).toNat);exact⟨0,0,C,O,O,V,T.o.1⟩;obtain⟨d,j,R,rfl,rfl,hj,h1⟩:=hrel;by_cases X:j<1
 ·obtain rfl:j=0:=V;have φ:(dQ 73 (.pointer (some (I b o)))).run prog wr=.ok (.value (.agg (iz k a s))) wr:=eO (λi u hu=>(h1.below.cell (p:=(I b (o+i))) f).trans (T.o.2.2.2.1 i u hu)) underlying73 O (zr k a s);obtain⟨A,π,B3,D3⟩:=NG k a s wr;have K:=h1.call D3;have HF:=U (λ(e:D) (f:S A e)=>(show Vi e wr.heap.size k a s from⟨f8 (P:=prog) (B3.call f) underlying73 O (zr k a s),(B3.call f).lt⟩));have CA:=U (λ(e:D) (f:S A e)=>yZ (K.call f).wo.blk);have CW:=U (λ(e:D) (f:S A e)=>WE (K.call f).wo.cl);have CS:=U (λ(e:D) (f:S A e)=>SU ε η T.o.2.2.2.2 HU.o.1 HU.o.2 (u:=R.ML.length) (aZ K.wo.cl.ml.1 ai) (T.o.2.2.1.call (K.call f).below));have H3:=U K;clear h1 K B3 D3;go_upto_region 7 with fail;refine eS 6 Y ah Y Y Y Y ?_;simp only[cR]
  iterate 3
   first
   |refine kX rfl ?_;apply cV
    intro _ ρ κ δ ζ W f;have E:=HF.o W f;simp[execOp,go_sem,κ,δ,ζ,E,E.ls,E.lt]<;>exact O
   |refine kz (λ_=>rfl) ?_
   simp only[aD]
  refine oh (λ_=>rfl) 8 #[N g] (N c) cK (λe f=>?ca) ?_
  case ca=>refine(CA.o e f).mono ?_;rintro r Y' ⟨rfl,rfl⟩;exact⟨O,aq _ _⟩
  simp only[aD];refine oh (λ_=>rfl) 19 #[N c] (Z R.ML.length) cK (λe f=>?cb) ?_
  case cb=>refine(CW.o e f).mono ?_;rintro r Y' ⟨rfl,rfl⟩;exact⟨O,aq _ _⟩
  simp only[aD];refine Ji (λ_=>rfl) 18 #[Z n,.agg (iz k a s),Z R.ML.length] (pR A 1000) (pR.keep A 1000) cK (λe f=>?cc) ?_
  case cc=>refine(CS.o e f).mono ?_;rintro r w' ⟨v,L,rfl,F,q2,q3,q4⟩;exact⟨v,O,⟨L,Row.mono F f.size,q2,q3⟩,q4⟩
  simp only[aD];refine dg ?_;intro y W4 γ hF;have hr:pR A 1000 y.2 W4:=hF 5 y.2 (gO ⟨O,O⟩);clear hF;obtain⟨aC,v⟩:=y;obtain⟨L,F,q2,q3⟩:=hr;have F:jz W4 A.heap.size v L:=F;have h4:rc w0 g c B n aeM cc m A.heap.size v L R W4:=⟨H3.o.call γ,F,λβ E hF=>cF ((F.ge β E).1) (H3.o.wo.inh β hF)⟩;obtain⟨AL,cL,rfl,-,-⟩:=F.sl;have HL:=U q3;have H4:=U h4;clear F q3 h4 γ CA CW CS HF
  try dsimp only
  go_wp2;go_loopw [29] (λi wx=>∃(j:Nat) (C2:aJ),j<=L.length/\i=Z j/\rc w0 g c B n aeM cc m A.heap.size (.slice AL L.length cL) L C2 wx) (λi _=>L.length-(intOf i).toNat);exact⟨0,R,V,O,H4.o⟩;obtain⟨j,C2,hj,rfl,Q⟩:=hrel;by_cases X:j<L.length
  ·have hd:=cO ((j:Int)<L.length);obtain⟨x,hx⟩:∃x,L[j]? =some x:=⟨L[j],bY X⟩;have G:=HL.o x (cX hx);obtain⟨iJ,α,hs,J,θ,μ,τ⟩:=Q.row.sl_pos V;obtain⟨rfl,ι⟩:AL=some (I iJ 0)/\cL=α:=by injection hs with a b c;exact⟨a,c⟩
   have σ:(dQ 58 (.pointer (some (I iJ (j*12))))).run prog wr=.ok (.value (.agg (aX x))) wr:=az (eO (P:=prog) (Q.row.rng vZ hx) underlying58 O (pg x));obtain⟨W6,ξ,B6,D6⟩:=Dy x wr;have υ:=k7 B6;have h6:=Q.call D6;have CD:=U (VM h6.wh.wo h6.wh.sem hN (T.o.2.1.call' h6.wh.below) T.o.2.1.lt G.d1 G.d4 G.d12 G.ok (G.at_ W6));have H6:=aB h6 G;have a0:(0:Int)<=(j:Int):=V;have a1:(j:Int)<(L.length:Int):=V;have ew:IntKind.i64.wrap ((j:Int)+1)=(j:Int)+1:=bS _ V;clear Q h6 G B6 D6 hs J θ μ ι hx;go_wp2_with fail;apply CD.o.mono;rintro r W7 E;obtain⟨u,C3,rfl,h7⟩:=H6.o.1.step H6.o.2 hc E;have H7:=U h7;clear h7 E CD;go_wp2;go_roundw
   ·exact⟨j+1,C3,V,by go_num,H7.o⟩
   simp[intOf];omega
  obtain rfl:j=L.length:=V;have hd:=cP ((L.length:Int)<L.length);have H5:=U Q.wh;clear Q;go_wp2;go_roundw
  ·exact⟨_,1,C2,O,by first|rfl|go_num,V,H5.o⟩
  simp[intOf]
 obtain rfl:j=1:=V;have HA:=U h1;clear h1;go_wp2;go_ret;exact⟨_,R,O,HA.o⟩
section
open Go.Maps (Keyed)
structure nH where
 inn:Nat->Bool
 kn:an
 x:H
 y:H
def nH.v(s:nH):H:=.agg (aT s.inn s.kn s.x s.y)
def nH.zero:nH:=⟨λ_=>false,an.zero,.slice none 0 0,.slice none 0 0⟩
def TE:(33:ay)<prog.types.size:=nY Y
def Rx:(match prog.underlying 33 with|some (.array _ _)|some (.struct _)=>true|_=>false)=true:=Y
def TV:Keyed prog 33:=Keyed.of_law (deep_law_laid vT (m:=2) V TE Y Rx)
def LC:prog.cellsOf 33=6:=Y
def LU:prog.keyType 33=true:=Y
def Pz{v:an}(h:v.ok):∃l,keyOf prog 33 (.agg (aF v))=some l:=by
 obtain⟨r,f,e,b,j,p⟩:=v;have a:∀x:Int,0<=x/\x<=18446744073709551615->(Lit.int .u64 x).wf=true:=λx ⟨J,G⟩=>by simp[Lit.wf,IntKind.min,IntKind.max,IntKind.signed,IntKind.bits];omega
 have w0:=a r (h 0 V);have u:=a f (h 1 V);have F:=a e (h 2 V);have C:=a b (h 3 V);have s:=a j (h 4 V);have E:=a p (h 5 V);obtain⟨m,A⟩:=yN;refine⟨.string (keyBytes [.int .u64 r,.int .u64 f,.int .u64 e,.int .u64 b,.int .u64 j,.int .u64 p]),?_⟩;unfold keyOf;simp only[underlying33];rw[av (by simp[LU,Value.formed,underlying33,LC,aF]),A];unfold Program.keyLits;simp only[underlying33,Value.cells,aF];rw[av (by rw[LC];rfl)];simp[List.range_succ,List.mapM_cons,List.mapM_nil,yX,Program.keyLits,underlying31,w0,u,F,C,s,E]
def tI:eR an nH:=⟨33,37,91,λv=>.agg (aF v),nH.v,nH.zero,an.ok⟩
def zK:tI.Ok:=⟨TV,underlying91,λ_ h=>Pz h,λa b h=>by obtain⟨f,s,u,A,e,E⟩:=a;obtain⟨r,j,x,C,v,p⟩:=b;simp[tI,aF]at h⊢;simp[h],λw=>Y⟩
end
section
open Go.Shelf
attribute [local go_sem] Oper.semAt_some
def zS{s:fh}{v:H}(h:s.At w base v):∃A a c b,v=.agg (aT s.inn s.kn (.slice A s.aeM.length c) (.slice a s.G.length b)):=by obtain⟨vN,vG,rfl,e,f⟩:=h;obtain⟨A,c,rfl,-,-⟩:=e.sl;obtain⟨a,b,rfl,-,-⟩:=f.sl;exact⟨A,a,c,b,O⟩
def KM{C:aJ}(e:k<6)(a:C.up k=true):pG C ((k:Int)+1)=((C.X k).R.m.sta,true):=by have b:((k:Int)+1-1).toNat=k:=V;exact(av ⟨V,by rw[b];exact a⟩).trans (by rw[b])
def Fi{C:aJ}(a:C.up k=false):pG C ((k:Int)+1)=(fh.zero,false):=by have e:((k:Int)+1-1).toNat=k:=V;exact al λb=>by have:=b.2;rw[e,a]at this;cases this
def OA(g:Nat):Calls prog 25 #[N g] w λr a=>r=.returned (.func (.func 41) #[] #[N w.heap.size])/\a=w.alloc (.cells #[N g] 26):=by go_wp2;go_ret;exact⟨O,O⟩
def XQ(w0:D)(g c aeM:Nat)(C:aJ)(B:ez)(m:bV)(b1 base:Nat)(W:D):Prop:=ig w0 W g c C aeM B m/\M W b1 26 #[N g]/\base<=W.heap.size
def YH(C:aJ)(base:Nat)(x:Nat×H)(W:D):Prop:=x.1<6/\C.up x.1=true/\(C.X x.1).R.m.sta.At W base x.2
def AF(x:Nat×H):Array H:=#[Z ((x.1:Int)+1),x.2]
def aaq{C:aJ}{b1:Nat}(hN:aeM<=900000)(n:Nat)(w1:D):
  Gy Fence.wide n prog 41 #[N b1] AF (λA B=>S A B) (XQ w0 g c aeM C B m b1 base) (λ_ _=>True) 6 (YH C base) (λ_=>True) w1:=by
 intro lp J W δ γ hY η h0;have HY:=U hY;have HI:=U γ;have HS:=U δ;have H0:=U h0;clear hY γ δ η h0;refine callsIn_of_wp func41 O trivial ?_ O;simp only[ntmps41,pV,dN,g8,Nat.reduceAdd,Nat.reduceSub,tR,tY,ue,tZ,ju,sM];gi_wp2_with fail
 gi_loopw [3] (λi wr=>∃(f:List (Nat×H)) (k:Nat),k<=6/\i=Z ((k:Int)+1)/\f.length<=k/\J f wr) (λi _=>7-(intOf i).toNat)
 case atStart=>exact⟨[],0,V,O,ah,H0.o⟩
 obtain⟨f,k,hk,rfl,u,hj⟩:=hrel;obtain⟨s,F,a⟩:=HI.o _ _ hj;by_cases T:k<6
 ·have hd:=cO ((k:Int)+1<=6);have qb:wr.cell? (I b1 0)=some (N g):=F.cell 0;have qg:wr.cell? (I g 0)=some (N c):=s.blk.cell 0;have e1:IntKind.i64.wrap ((k:Int)+1+1)=(k:Int)+1+1:=bS _ V;have Q:=U (zA s.cl hN ((k:Int)+1));have x:=aP hj u a;clear hj s F a u;obtain⟨b,E⟩:=aM (C.up k);cases b with
  |false=>
   rw[Fi E]at Q;gi_wp2_with fail;refine⟨trivial,λh=>(aK h),(j4.2 Q.o).mono ?_⟩;rintro r w2 ⟨v,rfl,p,j⟩;obtain⟨A,A',c1,c2,rfl⟩:=zS p;obtain⟨W3,ζ,B3,K⟩:=rA fh.zero.inn fh.zero.kn A A' fh.zero.aeM.length fh.zero.G.length c1 c2 w2;have HX:=U (HS.o _ _ _ x.o.1 (j.trans (K.mono j.size)));clear p j B3 K Q qb qg;gi_wp2_with fail;refine⟨λ_ h=>(aK h),?_⟩;gi_wp2_with fail;go_roundw
   ·exact⟨f,k+1,V,by go_num,aA x.o.2.1,HX.o⟩
   simp[intOf];omega
  |true=>
   rw[KM T E]at Q;gi_wp2_with fail;refine⟨trivial,λh=>(aK h),(j4.2 Q.o).mono ?_⟩;rintro r w2 ⟨v,rfl,p,j⟩;obtain⟨A,A',c1,c2,e⟩:=zS p;obtain⟨W3,ζ,B3,K⟩:=rA (C.X k).R.m.sta.inn (C.X k).R.m.sta.kn A A' (C.X k).R.m.sta.aeM.length (C.X k).R.m.sta.G.length c1 c2 w2;have ε:=HS.o _ _ _ x.o.1 (j.trans (K.mono j.size));have β:(C.X k).R.m.sta.At W3 base v:=by have h3:=p.call K;obtain⟨vN,vG,q1,q2,q3⟩:=h3;have hz:=x.o.2.2;exact⟨vN,vG,q1,Row.mono q2 hz,Row.mono q3 hz⟩
   obtain⟨fn,tmps,assign,body,hy,hR⟩:=HY.o f (k,v) W3 ε (aA x.o.2.1) ⟨T,E,β⟩;subst e;dsimp only[AF]at hy;have θ:=f8 (P:=prog) B3 underlying37 O (im _ _ _ _);have HR:=U hR;clear p j B3 K Q qb qg ε β hR;gi_wp2_with fail;refine⟨λh=>(aK h),HR.o.mono ?_⟩;rintro r W4 ⟨rfl,α,-⟩;have HJ:=U α;clear α HR hy θ;gi_wp2_with fail;go_roundw
   ·exact⟨f++[(k,_)],k+1,V,by go_num,by have:=x.o.2.1;simp;omega,HJ.o⟩
   simp[intOf];omega
 obtain rfl:k=6:=V;have hd:decide (((6:Nat):Int)+1<=6)=false:=ai;have x:=U hj;clear s F a hj;gi_wp2_with fail
 try (refine⟨λ_ h=>(aK h),?_⟩;gi_wp2_with fail)
 go_end0;exact⟨⟨_,O⟩,f,trivial,x.o⟩
end
def AJ:List H->Bool
 |[.bool _]=>true
 |_=>false
def AI:List H->Bool
 |[.int _ _]=>true
 |_=>false
def mf(P:Program):Nat->ay->List H->Bool
 |0,_,_=>false
 |d+1,t,cs=>match P.underlying t with
  |some .bool=>AJ cs
  |some (.int _)=>AI cs
  |some (.array n e)=>cs.length==P.cellsOf t&&(P.info? e).isSome&&(List.range n).all λi=>mf P d e ((cs.drop (i*P.cellsOf e)).take (P.cellsOf e))
  |some (.struct fs)=>cs.length==P.cellsOf t&& !P.stoodInHeld t&&fs.toList.all λf=>mf P d f.type ((cs.drop f.offset).take (P.cellsOf f.type))
  |_=>false
def KZ(h:AJ cs=true):∃b,cs=[.bool b]:=by unfold AJ at h;split at h;exact⟨_,O⟩;cases h
def KY(h:AI cs=true):∃k n,cs=[.int k n]:=by unfold AI at h;split at h;exact⟨_,_,O⟩;cases h
def td(P:Program)(t:ay)(cs:List H):H:=match P.underlying t with
 |some (.array _ _)=>.agg cs.toArray
 |some (.struct _)=>.agg cs.toArray
 |_=>cs.headD undef
section
variable{P:Program}
def KF{e:ay}{xs:Array H}{off:Nat}(h:mf P d e ((xs.toList.drop off).take (P.cellsOf e))=true)(w:D):
  (part e xs off).run P w=.ok (td P e ((xs.toList.drop off).take (P.cellsOf e))) w:=by
 have one:∀v,(xs.toList.drop off).take (P.cellsOf e)=[v]->xs[off]? =some v:=λv p=>by
  have:((xs.toList.drop off).take (P.cellsOf e))[0]? =some v:=by rw[p];rfl
  rw[kw]at this;split at this;rw[ob]at this;simpa using this;cases this
 have ext:(xs.extract off (off+P.cellsOf e))=((xs.toList.drop off).take (P.cellsOf e)).toArray:=by apply Array.toList_inj.1;rw[Array.toList_extract];simp[List.extract]
 cases d with
 |zero=>simp[mf]at h
 |succ d=>
  unfold mf at h;cases a:P.underlying e with
  |none=>simp[a]at h
  |some k=>
   obtain⟨i,j⟩:=info_of_underlying a;unfold td;rw[a]at h⊢;cases k with
   |array n e'=>simp only;rw[<-ext];simp[part,isAgg,eT a,run_sizeOf w j]
   |struct fs=>simp only;rw[<-ext];simp[part,isAgg,eT a,run_sizeOf w j]
   |bool=>obtain⟨b,f⟩:=KZ h;simp only;rw[f];exact run_part_plain w (by simp[Program.plainKey,a]) (one _ f)
   |int aeT=>obtain⟨k,b,f⟩:=KY h;simp only;rw[f];exact run_part_plain w (by simp[Program.plainKey,a]) (one _ f)
   |_=>simp at h
def Do:∀(d:Nat) (t:ay) (cs:List H),mf P d t cs=true->∀(k:Nat) (w:D),(Op.equalIn (k+d) t (td P t cs) (td P t cs)).run P w=.ok true w
 |0,_,_,h,_,_=>by simp[mf]at h
 |d+1,t,cs,h,k,w=>by
  unfold mf at h;cases u:P.underlying t with
  |none=>simp[u]at h
  |some a=>
   obtain⟨i,G⟩:=info_of_underlying u;unfold td;rw[u]at h⊢;cases a with
   |bool=>obtain⟨b,rfl⟩:=KZ h;simp only[List.headD_cons];rw[<-gQ,run_equalIn_bool' w (k+d) t _ _ u];simp
   |int kk=>obtain⟨a,b,rfl⟩:=KY h;simp only[List.headD_cons];rw[<-gQ,tX w (k+d) t _ kk _ _ u];simp
   |array n e=>
    simp only[bZ,qd]at h⊢;obtain⟨⟨K,E⟩,s⟩:=h;obtain⟨j,J⟩:=n8.1 E;rw[<-gQ,run_equalIn_array w (k+d) _ _ u J];have C:∀l:List Nat,(∀i∈l,mf P d e ((cs.drop (i*P.cellsOf e)).take (P.cellsOf e))=true)->(Op.eqItems (k+d) e (P.cellsOf e) cs.toArray cs.toArray l).run P w=.ok true w:=by
     intro l
     induction l with
     |nil=>intro _;simp[Op.eqItems]
     |cons f l ih=>intro v;have x:=v f cz;have p:=KF (xs:=cs.toArray) (off:=f*P.cellsOf e) (az x) w;have a:=Do d e _ x k w;have r:=ih λg F=>v g (dC _ F);simp only[Op.eqItems,lS,p,a,lX,Bool.not_true,mN,mP];exact r
    exact C (List.range n) λi G=>lZ.1 s i G
   |struct fs=>
    simp only[bZ,qd,ua]at h⊢;obtain⟨⟨K,E⟩,s⟩:=h;have A:P.fieldsOf t=fs:=by simp[Program.fieldsOf,u]
    rw[<-gQ,run_equalIn_struct w (k+d) t _ _ (by rw[A];exact u) E,A];have C:∀l:List Field,(∀f∈l,mf P d f.type ((cs.drop f.offset).take (P.cellsOf f.type))=true)->(Op.eqFields (k+d) cs.toArray cs.toArray l).run P w=.ok true w:=by
     intro l
     induction l with
     |nil=>intro _;simp[Op.eqFields]
     |cons f l ih=>intro v;have x:=v f cz;have p:=KF (xs:=cs.toArray) (off:=f.offset) (az x) w;have a:=Do d f.type _ x k w;have r:=ih λg F=>v g (dC _ F);simp only[Op.eqFields];split;simp only[lS,p,a,lX,Bool.not_true,mN,mP];exact r;exact r
    exact C fs.toList λf v=>lZ.1 s f v
   |_=>simp at h
def Kl{cs:Array H}(h:mf P d t cs.toList=true)(a:(match P.underlying t with|some (.array _ _)|some (.struct _)=>true|_=>false)=true)(b:d<=10000)(w:D):(Op.equal t (.agg cs) (.agg cs)).run P w=.ok true w:=by
 have e:=Do d t cs.toList h (10000-d) w;rw[show 10000-d+d=Op.maxDepth from by unfold Op.maxDepth;omega]at e;have o:td P t cs.toList=.agg cs:=by unfold td;split at a;simp;simp;cases a
 rw[o]at e;exact e
def kg(t:ay)(x y:aO)(u v:H):Sem Next:=do pure (.value (<-(do eqGuard .neq t x y u v;binOp .neq t u v)))
def wt{cs:Array H}(h:mf P d t cs.toList=true)(b:(match P.underlying t with|some (.array _ _)|some (.struct _)=>true|_=>false)=true)(a:d<=10000)(f:P.eqGuardType P.depth t=false)(x y:aO)(w:D):(kg t x y (.agg cs) (.agg cs)).run P w=.ok (.value (.bool false)) w:=by have e:=Kl h b a w;unfold kg;simp[run_eqGuard_agg _ _ _ _ _ _ _ f,binOp,e]
end
def rV(t:ay)(x y:aO)(u v:H):Sem Next:=do pure (.value (<-(do eqGuard .eql t x y u v;binOp .eql t u v)))
def KR{P:Program}{cs:Array H}(h:mf P d t cs.toList=true)(b:(match P.underlying t with|some (.array _ _)|some (.struct _)=>true|_=>false)=true)(a:d<=10000)(f:P.eqGuardType P.depth t=false)(x y:aO)(w:D):(rV t x y (.agg cs) (.agg cs)).run P w=.ok (.value (.bool true)) w:=by have e:=Kl h b a w;unfold rV;simp[run_eqGuard_agg _ _ _ _ _ _ _ f,binOp,e]
section
variable(ρ:aO->H)(dst:Option Tmp)(x y:aO)(ty:ay)(pos:String)(after:Array Edge)(guard:Option (Nat×Bool))(w:D)
@[go_sem ↓ high] theorem aba:execOp ρ {dst,op:=.binOp .neq 52 x y 52,type:=ty,pos,after,guard}=kg 52 x y (ρ x) (ρ y):=by simp[execOp,kg]
@[go_sem ↓ high] theorem abb:execOp ρ {dst,op:=.binOp .neq 119 x y 119,type:=ty,pos,after,guard}=kg 119 x y (ρ x) (ρ y):=by simp[execOp,kg]
@[go_sem ↓ high] theorem abM:execOp ρ {dst,op:=.binOp .neq 30 x y 30,type:=ty,pos,after,guard}=kg 30 x y (ρ x) (ρ y):=by simp[execOp,kg]
@[go_sem ↓ high] theorem aa9:execOp ρ {dst,op:=.binOp .neq 33 x y 33,type:=ty,pos,after,guard}=kg 33 x y (ρ x) (ρ y):=by simp[execOp,kg]
@[go_sem ↓ high] def aaW:=@iY 33
@[go_sem] theorem adf(a:eB):(kg 52 x y (.agg (eW a)) (.agg (eW a))).run prog w=.ok (.value (.bool false)) w:=wt (d:=8) Y Y ai Y x y w
@[go_sem] theorem adA(a:cI):(kg 119 x y (.agg (bR a)) (.agg (bR a))).run prog w=.ok (.value (.bool false)) w:=wt (d:=8) Y Y ai Y x y w
@[go_sem] theorem adE(a b c d e f:Bool):(kg 30 x y (.agg #[.bool a,.bool b,.bool c,.bool d,.bool e,.bool f]) (.agg #[.bool a,.bool b,.bool c,.bool d,.bool e,.bool f])).run prog w=.ok (.value (.bool false)) w:=wt (d:=8) Y Y ai Y x y w
@[go_sem] theorem ac3(v:an):(kg 33 x y (.agg (aF v)) (.agg (aF v))).run prog w=.ok (.value (.bool false)) w:=wt (d:=8) Y Y ai Y x y w
end
def Gk{x y:H}(h:M w g 37 (aT inn kn x y)):(dQ 30 (.pointer (some (I g 6)))).run prog w=.ok (.value (.agg #[.bool (inn 6),.bool (inn 7),.bool (inn 8),.bool (inn 9),.bool (inn 10),.bool (inn 11)])) w:=by
 refine eO (h.rngAt (o:=6) (n:=0) #[.bool (inn 6),.bool (inn 7),.bool (inn 8),.bool (inn 9),.bool (inn 10),.bool (inn 11)] λj v a=>?_) underlying30 O (by show _=some 6;kernel_rfl)
 match j,a with
 |0,a=>exact a
 |1,a=>exact a
 |2,a=>exact a
 |3,a=>exact a
 |4,a=>exact a
 |5,a=>exact a
 |j+6,a=>simp at a
section
variable{w:D}{b1 b2:Nat}{v u:H}
def SM{aeM:List eB}(G:eV w b1 v aeM)(Q:eV w b2 u aeM):Calls prog 42 #[v,u] w λr w'=>r=.returned (.bool true)/\S w w':=by
 obtain⟨A1,c1,rfl,p1,p2⟩:=G.sl;obtain⟨A3,c3,rfl,p5,p6⟩:=Q.sl;have HH:=aB G Q;have β:maxLen<=9223372036854775807:=ai;clear G Q;go_wp2;go_loopw [13] (λi wr=>∃j:Nat,j<=aeM.length/\i=Z j/\S w wr) (λi _=>aeM.length-(intOf i).toNat);exact⟨0,V,O,aq _ _⟩;obtain⟨j,hj,rfl,f⟩:=hrel;have F:=U f;by_cases s:j<aeM.length
 ·have hd:=cO ((j:Int)<aeM.length);obtain⟨y,K⟩:∃y,aeM[j]? =some y:=⟨aeM[j],bY s⟩;have C:=Row.call HH.o.1 f;have x:=Row.call HH.o.2 f;obtain⟨g1,k1,e1,-,-,-,γ⟩:=C.sl_pos V;obtain⟨rfl,-⟩:A1=some (I g1 0)/\c1=k1:=by injection e1 with a b c;exact⟨a,c⟩
  obtain⟨T,k3,e3,-,-,-,α⟩:=x.sl_pos V;obtain⟨rfl,-⟩:A3=some (I T 0)/\c3=k3:=by injection e3 with a b c;exact⟨a,c⟩
  have X:=U (λ(e:D) (hY:S wr e)=>ar (show(dQ 52 (.pointer (some (I g1 (j*56))))).run prog e=.ok (.value (.agg (eW y))) e by
   have:=eO (P:=prog) ((Row.call C hY).rng mT K) underlying52 O (wP y);simpa using this) (show(dQ 52 (.pointer (some (I T (j*56))))).run prog e=.ok (.value (.agg (eW y))) e by
   have:=eO (P:=prog) ((Row.call x hY).rng mT K) underlying52 O (wP y);simpa using this))
  have a0:(0:Int)<=(j:Int):=V;have a1:(j:Int)<(aeM.length:Int):=V;have ew:IntKind.i64.wrap ((j:Int)+1)=(j:Int)+1:=bS _ V;clear C x e1 e3 K f;go_upto_region 6 with fail;refine kW Y Y ?_
  iterate 9 refine J2 X.o (vg a0 a1) ?_
  refine dg ?_;intro _ W2 h;have R:=U (F.o.trans (h.mono F.o.size));clear X h;go_wp2;go_roundw
  ·exact⟨j+1,V,by go_num,R.o⟩
  simp[intOf];omega
 obtain rfl:j=aeM.length:=V;clear f;go_wp2;go_ret;exact⟨O,F.o⟩
def PZ{aeM:List cI}(G:iK w b1 v aeM)(Q:iK w b2 u aeM):Calls prog 43 #[v,u] w λr w'=>r=.returned (.bool true)/\S w w':=by
 obtain⟨A1,c1,rfl,p1,p2⟩:=G.sl;obtain⟨A3,c3,rfl,p5,p6⟩:=Q.sl;have HH:=aB G Q;have β:maxLen<=9223372036854775807:=ai;clear G Q;go_wp2;go_loopw [13] (λi wr=>∃j:Nat,j<=aeM.length/\i=Z j/\S w wr) (λi _=>aeM.length-(intOf i).toNat);exact⟨0,V,O,aq _ _⟩;obtain⟨j,hj,rfl,f⟩:=hrel;have F:=U f;by_cases s:j<aeM.length
 ·have hd:=cO ((j:Int)<aeM.length);obtain⟨y,K⟩:∃y,aeM[j]? =some y:=⟨aeM[j],bY s⟩;have C:=Row.call HH.o.1 f;have x:=Row.call HH.o.2 f;obtain⟨g1,k1,e1,-,-,-,γ⟩:=C.sl_pos V;obtain⟨rfl,-⟩:A1=some (I g1 0)/\c1=k1:=by injection e1 with a b c;exact⟨a,c⟩
  obtain⟨T,k3,e3,-,-,-,α⟩:=x.sl_pos V;obtain⟨rfl,-⟩:A3=some (I T 0)/\c3=k3:=by injection e3 with a b c;exact⟨a,c⟩
  have X:=U (λ(e:D) (hY:S wr e)=>ar (show(dQ 119 (.pointer (some (I g1 (j*5))))).run prog e=.ok (.value (.agg (bR y))) e by
   have:=eO (P:=prog) ((Row.call C hY).rng po K) underlying119 O (pq y);simpa using this) (show(dQ 119 (.pointer (some (I T (j*5))))).run prog e=.ok (.value (.agg (bR y))) e by
   have:=eO (P:=prog) ((Row.call x hY).rng po K) underlying119 O (pq y);simpa using this))
  have a0:(0:Int)<=(j:Int):=V;have a1:(j:Int)<(aeM.length:Int):=V;have ew:IntKind.i64.wrap ((j:Int)+1)=(j:Int)+1:=bS _ V;clear C x e1 e3 K f;go_upto_region 6 with fail;refine kW Y Y ?_
  iterate 9 refine J2 X.o (vg a0 a1) ?_
  refine dg ?_;intro _ W2 h;have R:=U (F.o.trans (h.mono F.o.size));clear X h;go_wp2;go_roundw
  ·exact⟨j+1,V,by go_num,R.o⟩
  simp[intOf];omega
 obtain rfl:j=aeM.length:=V;clear f;go_wp2;go_ret;exact⟨O,F.o⟩
end
section
variable(ρ:aO->H)(dst:Option Tmp)(x y:aO)(ty:ay)(pos:String)(after:Array Edge)(guard:Option (Nat×Bool))(w:D)
@[go_sem ↓ high] theorem ab0:execOp ρ {dst,op:=.binOp .eql 30 x y 30,type:=ty,pos,after,guard}=rV 30 x y (ρ x) (ρ y):=by simp[execOp,rV]
@[go_sem] theorem adM(a b c d e f:Bool):(rV 30 x y (.agg #[.bool a,.bool b,.bool c,.bool d,.bool e,.bool f]) (.agg #[.bool a,.bool b,.bool c,.bool d,.bool e,.bool f])).run prog w=.ok (.value (.bool true)) w:=KR (d:=8) Y Y ai Y x y w
end
def TL{uN X:H}{b1 b2:Nat}{aeM:List eB}{G:List cI}(F:eV w b1 vN aeM)(A:iK w b1 vG G)(K:eV w b2 uN aeM)(E:iK w b2 X G):
  Calls prog 26 #[.agg (aT inn kn vN vG),.agg (aT inn kn uN X)] w λr w'=>r=.returned (.bool true)/\S w w':=by
 obtain⟨A1,C,rfl,p1,p2⟩:=F.sl;obtain⟨A2,J,rfl,p3,p4⟩:=A.sl;obtain⟨A3,R,rfl,p5,p6⟩:=K.sl;obtain⟨A4,x,rfl,p7,p8⟩:=E.sl;obtain⟨v,j,p,h⟩:=oC w 37 (aT inn kn (.slice A1 aeM.length C) (.slice A2 G.length J)) 37 (aT inn kn (.slice A3 aeM.length R) (.slice A4 G.length x));have HW:=U j;have CN:=U (SM (Row.call F h) (Row.call K h));have CG:=U (λ(Q:D) (T:S v Q)=>PZ (Row.call (Row.call A h) T) (Row.call (Row.call E h) T));have HH:=U h;have b:=aB p.drop.head p.head;obtain⟨q1,f1,q0,f0,-⟩:=p.rules;clear q1 q0;obtain⟨l1,l0,-⟩:=p.lts;clear F A K E p h j;go_in;go_upto_region 1 with fail;refine dI HW.o ?_;clear HW;have f:=b.o.1;have e:=b.o.2;have b1:=AP f;have b2:=AP e;have b3:=Gk f;have b4:=Gk e;have c1:v.cell? (I w.heap.size 18)=_:=f.cell 18;have c3:v.cell? (I (w.heap.size+1) 18)=_:=e.cell 18;clear f e;simp only[FQ]at c1 c3;go_wp2_with fail;apply CN.o.mono;rintro r w2 ⟨rfl,a⟩;have f:=b.o.1.call a;have e:=b.o.2.call a;have c2:w2.cell? (I w.heap.size 19)=_:=f.cell 19;have c4:w2.cell? (I (w.heap.size+1) 19)=_:=e.cell 19;simp only[FP]at c2 c4;have P:=U a;clear f e b1 b2 b3 b4 c1 c3 f0 f1 l0 l1 CN a;go_wp2_with fail;apply(CG.o _ P.o).mono;rintro r w3 ⟨rfl,u⟩;have H3:=U (HH.o.trans ((P.o.trans (u.mono P.o.size)).mono HH.o.size));clear u CG;go_wp2;go_ret;exact⟨O,H3.o⟩
section
open Go.Shelf
attribute [local go_sem] Oper.semAt_some
@[go_sem] theorem adg(inn:Nat->Bool)(kn:an)(x y:H):tI.vc ⟨inn,kn,x,y⟩=.agg (aT inn kn x y):=rfl
def aH.putObj(W:D)(l:Nat)(o':Obj):aH W (W.putObj l o') l none:=by obtain⟨f,b,h,e⟩:=vO W l o';exact⟨f,b,h,e,λk j a _=>rh a⟩
def fh.At.putObj{s:fh}{v:H}(h:s.At W base v)(p:W.heap[l]? =some o)(A:o.isCells=false):s.At (W.putObj l o') base v:=by
 obtain⟨vN,vG,e,f,a⟩:=h;have b:∀{j n:Nat} {t:ay} {u:H} {x:List H},W.ownsRow base t j u n x->u.ownBlock≠some l:=λr e=>by have:=oe r l o e p;rw[A]at this;cases this
 exact⟨vN,vG,e,(aH.putObj W l o').own f (b f) (by cases vN.ownBlock<;>simp),(aH.putObj W l o').own a (b a) (by cases vG.ownBlock<;>simp)⟩
def M.putObj{cs:Array H}(h:M W g t cs)(a:W.heap[l]? =some o)(b:o.isCells=false):M (W.putObj l o') g t cs:=by refine(aH.putObj W l o').blk h (λe=>?_) ah;subst e;rw[show W.heap[g]? =_ from h]at a;cases a;cases b
def vt(C:aJ)(base:Nat)(W:D)(x:an×nH):Prop:=∃k,k<6/\x.1=(C.X k).R.m.kn/\(C.X k).dead=false/\(C.X k).R.m.sta.At W base x.2.v
structure oH(w:D)(g:Nat)(C:aJ)(base:Nat)(W:D):Prop where
 c0:M W w.heap.size 4 #[.bool false]
 c2:M W (w.heap.size+1+1) 91 #[.map (some (w.heap.size+1))]
 c3:M W (w.heap.size+1+1+1) 26 #[N g]
 below:S w W
 sz:base<=W.heap.size
 map:∃T:List (an×nH),bA tI W (w.heap.size+1) T/\∀x∈T,vt C base W x
def oH.call{C:aJ}(h:oH w g C base W)(a:S W W'):oH w g C base W':=by obtain⟨T,p,f⟩:=h.map;exact⟨h.c0.call a,h.c2.call a,h.c3.call a,h.below.trans (a.mono h.below.size),aZ h.sz a.size,T,p.call a,λx s=>by obtain⟨k,e,j,r,b⟩:=f x s;exact⟨k,e,j,r,b.call a⟩⟩
def oH.putObj{C:aJ}(h:oH w g C base W)(A:w.heap.size+1+1+1<l)(a:W.heap[l]? =some o)(b:o.isCells=false):oH w g C base (W.putObj l o'):=by obtain⟨T,s,p⟩:=h.map;have f:=aH.putObj W l o';exact⟨h.c0.putObj a b,h.c2.putObj a b,h.c3.putObj a b,f.below h.below V (λ_ h=>aK h),aZ h.sz f.size,T,s.fr f V ah,λx v=>by obtain⟨k,j,r,u,e⟩:=p x v;exact⟨k,j,r,u,e.putObj a b⟩⟩
def fh.At.fr{s:fh}{a:Nat}{v:H}(h:s.At W base v)(f:aH W W' a none)(p:a<base):s.At W' base v:=by obtain⟨vN,vG,e,b,j⟩:=h;exact⟨vN,vG,e,f.own b (λe=>aA ((b.ge _ e).1)) (by cases vN.ownBlock<;>simp),f.own j (λe=>aA ((j.ge _ e).1)) (by cases vG.ownBlock<;>simp)⟩
def oH.put{C:aJ}(h:oH w g C (w.heap.size+4) W){T:List (an×nH)}{a:an}{s:nH}(u:bA tI W' (w.heap.size+1) (putL T a s))(e:∀x∈T,vt C (w.heap.size+4) W x)(A:vt C (w.heap.size+4) W (a,s))(f:aH W W' (w.heap.size+1) none):oH w g C (w.heap.size+4) W':=by
 refine⟨f.blk h.c0 V ah,f.blk h.c2 V ah,f.blk h.c3 V ah,f.below h.below V (λ_ h=>aK h),aZ h.sz f.size,_,u,λx E=>?_⟩;have b:vt C (w.heap.size+4) W x:=by rcases lH.1 E with rfl|⟨h1,-⟩;exact A;exact e x h1
 obtain⟨k,p,r,v,j⟩:=b;exact⟨k,p,r,v,j.fr f V⟩
def aJ.up_dead{C:aJ}(h:C.up k=true):(C.X k).dead=false:=by unfold aJ.up at h;simp only[bZ,ua]at h;exact h.2
def Ou{C:aJ}(f:dv C){j:Nat}(r:j<6)(p:k<6)(A:(C.X j).dead=false)(v:(C.X k).dead=false)(h:(C.X j).R.m.kn=(C.X k).R.m.kn):(C.X j).R.m.sta=(C.X k).R.m.sta:=by
 have a:=(f.si j r).led A;have b:=(f.si k p).led v;have e:=f.six.agree r p (by show(C.aeR j).m.kn=(C.aeR k).m.kn;rw[<-a,<-b];exact h);have x:(C.aeR j).m.inn=(C.aeR k).m.inn:=e.1;have s:cq (C.aeR j).m=cq (C.aeR k).m:=e.2.1;have E:ec (C.aeR j).m=ec (C.aeR k).m:=e.2.2;have u:(C.aeR j).m.kn=(C.aeR k).m.kn:=by rw[<-a,<-b];exact h
 unfold aG.sta;rw[a,b,x,s,E,u]
def YM(w:D)(g:Nat)(x:Nat×H)(a:Act)(W:D):Prop:=∃(b:Nat) (cs:Array H),x.2=.agg cs/\M W b 37 cs/\
 a={tmps:=#[N g,undef,N w.heap.size,N (w.heap.size+1+1),undef,N b,undef,undef,N g,.bool false,.map (some (w.heap.size+1)),N g,
  .func (.func 41) #[] #[N (w.heap.size+1+1+1)],Z ((x.1:Int)+1),x.2,undef,undef,undef,undef,undef,undef,undef,undef,undef,undef,undef,undef,undef,undef,undef,undef,undef,undef],defers:=[]}
def Rw{C:aJ}(h:ig w0 w g c C aeM B m)(hN:aeM<=900000)(hG:dv C):Calls prog 12 #[N g] w λr w'=>r=.returned (.bool true)/\S w w':=by
 have CS:=U (λW=>OA (w:=W) g);have HH:=aB h hG;clear h hG;have hmm:= @qc prog;refine(j4 (n:=3)).1 ?_;refine callsIn_of_wp_marks func12 O trivial ?_ O;simp only[ntmps12,pV,dN,g8,Nat.reduceAdd,Nat.reduceSub,tR,tY,ue,tZ,ju,sM];gi_wp2_with fail;refine⟨trivial,(j4.2 (CS.o _)).mono ?_⟩;rintro r w1 ⟨rfl,θ⟩;have I0:oH w g C (w.heap.size+4) w1:=by subst θ;have d0:=(aq w.heap.size w).alloc (ao _) (.cells #[.bool false] 4);have d1:=d0.alloc ah (.map #[] 0);have d2:=d1.alloc aQ (.cells #[.map (some (w.heap.size+1))] 91);have d3:=d2.alloc aQ (.cells #[N g] 26);have Q:∀(W:D) (o:Obj),S W (W.alloc o):=λW o=>(aq _ _).alloc (ao _) _;exact⟨(((M.new w _ _).call (Q _ _)).call (Q _ _)).call (Q _ _),(M.new_at ah O).call (Q _ _),M.new_at ah O,d3,ah,[],((bA.made_at tI ah).call (Q _ _)).call (Q _ _),λx hx=>aK hx⟩
 have hs1:w1.heap.size=w.heap.size+4:=by rw[θ];simp
 gi_wp2_with fail;rw[<-θ];clear θ CS hmm;refine Rf O V (gf:=41) (lb:=#[N (w.heap.size+1+1+1)]) O trivial (kT func41 Y O)
  (aaq (w0:=w0) (g:=g) (c:=c) (C:=C) (B:=B) (m:=m) (b1:=w.heap.size+1+1+1) (base:=w.heap.size+4) hN _ w1) (λ_ _=>trivial) trivial (λ_ _ _=>trivial) (λ_ _ _ _=>trivial) (λ_=>rfl)
  (λ_=>oH w g C (w.heap.size+4)) (λW o b=>b.call ((aq _ _).alloc (ao _) o)) (λμ W l o o' hl p hc b=>b.putObj V p hc)
  (λx W l o o' hl p hc hk=>⟨hk.1,hk.2.1,hk.2.2.putObj p hc⟩) (λμ A B b i=>⟨b.call i,i.size,λk o hk p _=>(i.block k (fI.1 p).1).trans p⟩)
  (λμ A b=>⟨HH.o.1.call b.below,b.c3,b.sz⟩) I0 (YM w g) (λμ W W' b Q=>b.call Q) (λx W W' hk Q=>⟨hk.1,hk.2.1,hk.2.2.call Q⟩) (λ_ _ _=>trivial)
  (λx a' W l o o' hl p hc Q=>by obtain⟨b5,cs,q1,q2,q3⟩:=Q;exact⟨b5,cs,q1,q2.putObj p hc,q3⟩) ?assign ?body ?done
 case assign=>intro l x W K ι hK;obtain⟨k,v⟩:=x;have s:(C.X k).R.m.sta.At W (w.heap.size+4) v:=ι.2.2;obtain⟨A,A',c1,c2,rfl⟩:=zS s;obtain⟨W3,β,B3,e⟩:=rA (C.X k).R.m.sta.inn (C.X k).R.m.sta.kn A A' (C.X k).R.m.sta.aeM.length (C.X k).R.m.sta.G.length c1 c2 W;have J:=aB B3 e;have HK:=U hK;clear B3 e ι hK s;simp only[AF];gi_wp2_with fail;exact HK.o _ _ ⟨_,_,O,J.o.1,O⟩ J.o.2
 case body=>
  intro l μ x a' W Ω b hlen ι;obtain⟨b5,cs,e1,B5,rfl⟩:=Ω;obtain⟨k,v⟩:=x;obtain⟨hk,τ,s⟩:=ι;have e1:v=.agg cs:=e1;have s:(C.X k).R.m.sta.At W (w.heap.size+4) v:=s;have κ:=aJ.up_dead τ;have E:(C.X k).R.m.sta.kn.ok:=λj hj=>by have h1:=((HH.o.1.call b.below).cl.si k hk).re.ok.kn j hj;have h2:0<=(C.X k).R.m.kn.get j/\(C.X k).R.m.kn.get j<1099511627776:=h1;exact⟨h2.1,by show(C.X k).R.m.kn.get j<=_;omega⟩
  have f:=λj (hj:j<6) (dj:(C.X j).dead=false) (h:(C.X j).R.m.sta.kn=(C.X k).R.m.sta.kn)=>Ou HH.o.2 hj hk dj κ h;have γ:∀(π:D) (u:nH),(C.X k).R.m.sta.At π (w.heap.size+4) u.v->vt C (w.heap.size+4) π ((C.X k).R.m.sta.kn,u):=λπ u hu=>⟨k,hk,O,κ,hu⟩;generalize (C.X k).R.m.sta=aeO at s E f γ;obtain⟨vN,vG,e2,r3,r4⟩:=s;obtain⟨A,c1,rfl,-,-⟩:=r3.sl;obtain⟨A',c2,rfl,-,-⟩:=r4.sl;obtain rfl:cs=aT aeO.inn aeO.kn (.slice A aeO.aeM.length c1) (.slice A' aeO.G.length c2):=by rw[e2]at e1;injection e1 with e1;exact e1.symm
  subst e1;clear e2;obtain⟨T,hT,η⟩:=b.map;have q2:=b.c2.rules.1;have d:=xm B5;obtain⟨ot,ε⟩:=aM (lk T aeO.kn);cases ot with
  |none=>
   have ω:(Instr.lookup 91 (.map (some (w.heap.size+1))) (.agg (aF aeO.kn)) true).run prog W=.ok (.tuple #[.agg (aT (λ_=>false) an.zero (.slice none 0 0) (.slice none 0 0)),.bool false]) W:=by have:=hT.look2 zK (a:=aeO.kn) E;rw[ε]at this;exact this
   obtain⟨W3,β,B3,e⟩:=rA (λ_=>false) an.zero none none 0 0 0 0 W;have φ:=b.call e;have q3:=φ.c2.rules.1;have F:=B5.call e;have Ξ:=xm F;have Δ:=f8 (P:=prog) F underlying37 O (im _ _ _ _);obtain⟨W4,α,ζ,f4⟩:=(hT.call e).put zK E ⟨aeO.inn,aeO.kn,.slice A aeO.aeM.length c1,.slice A' aeO.G.length c2⟩;replace α:(Instr.mapUpdate 91 (.map (some (w.heap.size+1))) (.agg (aF aeO.kn)) (.agg (aT aeO.inn aeO.kn (.slice A aeO.aeM.length c1) (.slice A' aeO.G.length c2)))).run prog W3=.ok () W4:=α;have hR:=φ.put ζ (λx hx=>by obtain⟨k,t,a2,a3,y⟩:=η x hx;exact⟨k,t,a2,a3,y.call e⟩) (γ W3 ⟨aeO.inn,aeO.kn,.slice A aeO.aeM.length c1,.slice A' aeO.G.length c2⟩ ⟨_,_,O,Row.call r3 e,Row.call r4 e⟩) f4;have hK:KeepsFrom w1.heap.size W W4:=⟨aZ e.size f4.size,λδ o hq p _=>(f4.block δ (ee (fI.1 p).1 e.size) V ah).trans ((e.block δ (fI.1 p).1).trans p)⟩;have J:=aB hK hR;clear hT η b γ f φ B3 e B5 F r3 r4 ζ f4 hR hK ε E κ τ;gi_wp2_with fail;refine⟨trivial,?_⟩;gi_wp2_with fail;exact⟨J.o.1,trivial,J.o.2⟩
  |some s2=>
   obtain⟨j,hj,χ,hdj,ξ⟩:=η _ (dX ε);rw[f j hj hdj χ.symm]at ξ;obtain⟨uN,uG,e3,r1,r2⟩:=ξ;obtain⟨A2,c3,rfl,-,-⟩:=r1.sl;obtain⟨ψ,c4,rfl,-,-⟩:=r2.sl;have ω:(Instr.lookup 91 (.map (some (w.heap.size+1))) (.agg (aF aeO.kn)) true).run prog W=.ok (.tuple #[.agg (aT aeO.inn aeO.kn (.slice A2 aeO.aeM.length c3) (.slice ψ aeO.G.length c4)),.bool true]) W:=by have:=hT.look2 zK (a:=aeO.kn) E;rw[ε]at this;rw[<-show s2.v=_ from e3];exact this
   obtain⟨W3,β,B3,e⟩:=rA aeO.inn aeO.kn A2 ψ aeO.aeM.length aeO.G.length c3 c4 W;have CQ:=U (TL (inn:=aeO.inn) (kn:=aeO.kn) (Row.call r3 e) (Row.call r4 e) (Row.call r1 e) (Row.call r2 e));have F:=B5.call e;have Δ:=f8 (P:=prog) F underlying37 O (im _ _ _ _);have L:=f8 (P:=prog) B3 underlying37 O (im _ _ _ _);have HI:=U (ar b (ar hT (ar η (ar B5 (ar r3 (ar r4 e))))));have HS:=aB E γ;clear hT η b γ f B3 e B5 F r1 r2 r3 r4 ε E κ τ e3 χ;gi_wp2_with fail;refine⟨trivial,(Je CQ.o).mono ?_⟩;rintro r W5 ⟨rfl,Ψ⟩;have D5:=HI.o.2.2.2.2.2.2.trans (Ψ.mono HI.o.2.2.2.2.2.2.size);have υ:=HI.o.1.call D5;have q5:=υ.c2.rules.1;have σ:=HI.o.2.2.2.1.call D5;have hv55:=xm σ;have hl55:=f8 (P:=prog) σ underlying37 O (im _ _ _ _);obtain⟨W4,α,ζ,f4⟩:=(HI.o.2.1.call D5).put zK HS.o.1 ⟨aeO.inn,aeO.kn,.slice A aeO.aeM.length c1,.slice A' aeO.G.length c2⟩;replace α:(Instr.mapUpdate 91 (.map (some (w.heap.size+1))) (.agg (aF aeO.kn)) (.agg (aT aeO.inn aeO.kn (.slice A aeO.aeM.length c1) (.slice A' aeO.G.length c2)))).run prog W5=.ok () W4:=α;have hR:=υ.put ζ (λx hx=>by obtain⟨k,t,a2,a3,y⟩:=HI.o.2.2.1 x hx;exact⟨k,t,a2,a3,y.call D5⟩) (HS.o.2 W5 ⟨aeO.inn,aeO.kn,.slice A aeO.aeM.length c1,.slice A' aeO.G.length c2⟩ ⟨_,_,O,Row.call HI.o.2.2.2.2.1 D5,Row.call HI.o.2.2.2.2.2.1 D5⟩) f4;have hK:KeepsFrom w1.heap.size W W4:=⟨aZ D5.size f4.size,λδ o hq p _=>(f4.block δ (ee (fI.1 p).1 D5.size) V ah).trans ((D5.block δ (fI.1 p).1).trans p)⟩;have J:=aB hK hR;clear υ σ D5 Ψ ζ f4 hR hK Δ L β ω d q2 CQ;gi_wp2_with fail;exact⟨J.o.1,trivial,J.o.2⟩
 case done=>intro ν W xs _ hD b hK;obtain⟨q0,f0⟩:=b.c0.rules;have hn:w.heap.size≠ν:=V;have Φ:=(yt W (I w.heap.size 0) ν (.bool true) (by show ν≠w.heap.size;omega)).trans hK;have Θ:M (W.setCell (I w.heap.size 0) (.bool true)) w.heap.size 4 #[.bool true]:=b.c0.set_ 0 _;have hF:aH W (W.setCell (I w.heap.size 0) (.bool true)) w.heap.size none:=aH.of_set _ O _;have Γ:=hF.below b.below (ao _) (λ_ h=>aK h);have J:=aP Φ Θ Γ;clear b Φ Θ hF Γ hK;gi_wp2_with fail;generalize W.setCell _ _=W2 at J⊢;have hf:=aH.putObj W2 ν (.deferred none);have Ξ:=hf.blk J.o.2.1 hn ah;obtain⟨q3,-⟩:=Ξ.rules;refine⟨ah,.inl ⟨_,_,O,run_takeDeferred J.o.1,?_⟩⟩;exact⟨.bool true,by simp[results,results12,go_sem,q3],O,hf.below J.o.2.2 V (λ_ h=>aK h)⟩
end
@[go_sem ↓ high] def abP:=@iY 44
@[go_sem ↓ high] def abh:=@jC 44
def gX(l u:Int)(L:Nat->Int):Array H:=#[Z l,Z u,Z (L 0),Z (L 1),Z (L 2),Z (L 3),Z (L 4),Z (L 5)]
def oP(f:Nat->Int):Array H:=gX (eL f).1 (eL f).2 (cS f)
def uK(l u:Int)(L:Nat->Int):(prog.info? 44).map (·.size)=some (gX l u L).size:=by rw[show(gX l u L).size=8 from rfl];kernel_rfl
def Rj(l u:Int)(L:Nat->Int)(v:Int)(k:Nat)(a:k<6):(gX l u L).setIfInBounds (2+k) (Z v)=gX l u (λj=>if j=k then v else L j):=
 an.six (P:=λk=>(gX l u L).setIfInBounds (2+k) (Z v)=gX l u (λj=>if j=k then v else L j)) O O O O O O k a
def EC(l u:Int)(L:Nat->Int):(gX l u L).all (·.oneCell')=true:=by simp[gX,Value.oneCell']
def Rk{l u:Int}{L aeL:Nat->Int}(h:∀j,j<6->L j=aeL j):gX l u L=gX l u aeL:=by unfold gX;rw[h 0 V,h 1 V,h 2 V,h 3 V,h 4 V,h 5 V]
def Zl(h:eV w base vN L)(hG:∃A n c,vG=.slice A n c)(hn:L.length<=1000000)(id:Int)(hy:L[k]? =some y)(hs:kf (nO id) L=k):
  Calls prog 23 #[.agg (aT inn kn vN vG),q id] w λr w'=>r=.returned (.tuple #[.agg (oP y.r),Z 0])/\S w w':=by
 have K:S w ((w.alloc (.cells (aT inn kn vN vG) 37)).alloc (.cells (gX 0 0 λ_=>0) 44)):=((aq _ _).alloc (ao _) _).alloc ah _;have G:ax ((w.alloc (.cells (aT inn kn vN vG) 37)).alloc (.cells (gX 0 0 λ_=>0) 44)) [(w.heap.size+1,44,gX 0 0 λ_=>0),(w.heap.size,37,aT inn kn vN vG)]:=((ax.nil (w:=w)).push (t:=37) (cs:=aT inn kn vN vG) (g:=w.heap.size) O).push (t:=44) (cs:=gX 0 0 λ_=>0) (g:=w.heap.size+1) ah;obtain⟨W0,γ⟩:=cJ ((w.alloc (.cells (aT inn kn vN vG) 37)).alloc (.cells (gX 0 0 λ_=>0) 44));rw[<-γ]at K G;have R0:=Row.call h K;have CF:=U (Wu (inn:=inn) (kn:=kn) (vG:=vG) R0 hn id);rw[hs]at CF;have hl:=f8 (P:=prog) G.drop.head underlying37 O (im inn kn vN vG);obtain⟨l1,l0,-⟩:=G.lts;have CS:=U (λX=>Xs y.r X);have HW:=U γ;have HH:=cQ G K h hy;have χ:k<L.length:=(fN.1 hy).1;clear K G γ R0 h hy;go_in;go_upto_region 1 with fail;generalize hg:World.alloc _ _=X0;obtain rfl:W0=X0:=HW.o.trans hg;clear HW hg;go_wp2_with fail;apply CF.o.mono;rintro r a ⟨rfl,ζ⟩;obtain⟨G,K,h,hy⟩:=HH.o;have D1:=K.trans (ζ.mono K.size);have B1:=G.call ζ;have x:=Row.call h D1;obtain⟨g,σ,π,τ,φ,ψ,υ⟩:=x.sl_pos V;subst π;have ι:=x.rng mT hy;have ν:=i9 (w:=a) (g:=g) (o:=k*56+2) (f:=y.r) (λj u hu=>by have:=ι (2+j) u (by rw[GL];exact hu);rw[<-gQ]at this;exact this);have a0:(0:Int)<=(k:Int):=V;have a1:(k:Int)<(L.length:Int):=V;have a2:=cP ((k:Int)<0);have Bn:M (a.alloc (.cells (aw aC) 50)) a.heap.size 50 (aw aC):=M.new _ _ _;have η:=oz Bn y.r;have ξ:a.cell? (I w.heap.size 18)=some (bh g L.length σ):=by rw[B1.drop.head.cell];rfl
 go_upto_region 5 with fail;have m2:aa (aR a.heap.size) (a.alloc (.cells (aw aC) 50)) ((a.alloc (.cells (aw aC) 50)).setRow a.heap.size (aw y.r)):=aa.of_fr1 (fl _ _ _) O;have E:=dt Bn (aw y.r);have p:=m2.blk (B1.head.alloc _) λe=>by have e:w.heap.size+1=a.heap.size:=e;have:=B1.head.lt;omega
 have D2:=Below.rowN (D1.alloc D1.size (.cells (aw aC) 50)) (g:=a.heap.size) D1.size (aw y.r);have Q:a.heap.size≠w.heap.size+1:=aA B1.head.lt;generalize (a.alloc (.cells (aw aC) 50)).setRow a.heap.size (aw y.r)=W2 at E p D2⊢;have θ:=i9 E.rng;clear m2 Bn η ν ι x ξ h hy G K B1 D1 hl CF ζ;generalize a.heap.size=br at E θ Q⊢;go_wp2_with fail;apply(CS.o _).mono;rintro r w3 ⟨rfl,β⟩;have μ:=E.call β;have b:=p.call β;have D3:=D2.trans (β.mono D2.size);have fq:=b.frozen;have lq:=b.lt;have c0:w3.cell? (I (w.heap.size+1) 0)=some (Z 0):=b.cell 0;have c1:w3.cell? (I (w.heap.size+1) 1)=some (Z 0):=b.cell 1;clear θ E p D2;go_upto_region 6 with fail;have R:M ((w3.setCell (I (w.heap.size+1) 0) (Z (eL y.r).1)).setCell (I (w.heap.size+1) 1) (Z (eL y.r).2)) (w.heap.size+1) 44 (gX (eL y.r).1 (eL y.r).2 λ_=>0):=(b.set_ 0 _).set_ 1 _;have J:aa (aR (w.heap.size+1)) w3 ((w3.setCell (I (w.heap.size+1) 0) (Z (eL y.r).1)).setCell (I (w.heap.size+1) 1) (Z (eL y.r).2)):=(aa.set (I (w.heap.size+1) 0) (show aR (w.heap.size+1) (w.heap.size+1)from O) _).trans (aa.set (I (w.heap.size+1) 1) (show aR (w.heap.size+1) (w.heap.size+1)from O) _);have δ:=J.blk μ Q;have D4:=D3.trans (⟨J.os,J.tape,J.output,J.size,λC hq=>J.block C V λe=>by have e:C=w.heap.size+1:=e;omega⟩:Below w.heap.size w3 _);clear fq lq c0 c1 μ b D3;generalize World.setCell _ _ _=W4 at R δ D4 J⊢;clear J;have H0:=aP R δ D4;clear R δ D4 CS;go_wp2;go_loopw [28] (λi wr=>∃j:Nat,j<=6/\i=Z j/\∃T:Nat->Int,(∀t,t<j->T t=cS y.r t)/\M wr (w.heap.size+1) 44 (gX (eL y.r).1 (eL y.r).2 T)/\M wr br 50 (aw y.r)/\S w wr) (λi _=>6-(intOf i).toNat);exact⟨0,V,O,λ_=>0,λt ht=>V,H0.o.1,H0.o.2.1,H0.o.2.2⟩;obtain⟨j,hj,rfl,T,hL,p,E,F⟩:=hrel;by_cases α:j<6
 ·have hd:=cO ((j:Int)<6);have j0:(0:Int)<=(j:Int):=V;have j6:(j:Int)<6:=V;have e1:IntKind.i64.wrap ((j:Int)+1)=(j:Int)+1:=bS _ V;have hl:=i9 E.rng;have CL:=U (λX=>wM y.r j α X);have HJ:=cQ hL p E F;clear hL p E F;go_wp2_with fail;apply(CL.o _).mono;rintro r w5 ⟨rfl,ε⟩;have v:=HJ.o.2.1.call ε;have fq:=v.frozen;have lq:=v.lt;have cj:w5.cell? (I (w.heap.size+1) (2+j))=some (Z (T j)):=by rw[v.cell];exact an.six (P:=λj=>(gX (eL y.r).1 (eL y.r).2 T)[2+j]? =some (Z (T j))) O O O O O O j α
  have κ:=HJ.o.2.2.1.call ε;have D5:=HJ.o.2.2.2.trans (ε.mono HJ.o.2.2.2.size);have m6:aa (aR (w.heap.size+1)) w5 (w5.setCell (I (w.heap.size+1) (2+j)) (Z (cS y.r j))):=aa.set (I (w.heap.size+1) (2+j)) (show aR (w.heap.size+1) (w.heap.size+1)from O) _;have HK:=aP (v.set_ (2+j) (Z (cS y.r j))) (m6.blk κ Q) (D5.trans (⟨m6.os,m6.tape,m6.output,m6.size,λC hq=>m6.block C (aA D5.size) λe=>by have e:C=w.heap.size+1:=e;omega⟩:Below w.heap.size w5 _));clear v κ D5 m6 hl;go_wp2;go_roundw
  ·refine⟨j+1,V,by go_num,λt=>if t=j then cS y.r j else T t,λt ht=>?_,?_,HK.o.2.1,HK.o.2.2⟩
   ·by_cases e:t=j;subst e;exact av O;exact(al e).trans (HJ.o.1 t V)
   have:=HK.o.1;rw[Rj _ _ _ _ j α]at this;exact this
  simp[intOf];omega
 obtain rfl:j=6:=V;have hd:decide (((6:Nat):Int)<6)=false:=ai;rw[Rk (aeL:=cS y.r) λt ht=>hL t ht]at p;have hl:=f8 (P:=prog) p underlying44 O (uK _ _ _);have η:=ft (P:=prog) (ty:=44) p (uK (eL y.r).1 (eL y.r).2 (cS y.r)) O (EC _ _ _);have HX:=aB (dt p (gX (eL y.r).1 (eL y.r).2 (cS y.r))) (Below.rowN F (g:=w.heap.size+1) (qi _) (gX (eL y.r).1 (eL y.r).2 (cS y.r)));have lq:=p.lt;clear p E F hL;go_wp2_with fail;exact kA (s:=4) (u:=5) results23 O O HX.o.1 underlying44 O (uK _ _ _) O ⟨O,HX.o.2⟩
def Q4{C:aJ}(e:k<6)(a:C.up k=true):pG C ((k:Int)+1)=((C.X k).R.m.sta,true):=by have b:((k:Int)+1-1).toNat=k:=V;exact(av ⟨V,by rw[b];exact a⟩).trans (by rw[b])
def Ru{C:aJ}(h:ig w0 w g c C aeM B m)(hN:aeM<=900000)(hk:k<6)(A:C.up k=true)(hy:(cq (C.X k).R.m)[i]? =some y)(hs:kf (nO y.id) (cq (C.X k).R.m)=i)(b:(cq (C.X k).R.m).length<=1000000):
  Calls prog 10 #[N g,Z ((k:Int)+1),q y.id] w λr w'=>r=.returned (.tuple #[.agg (oP y.r),Z 0])/\S w w':=by
 have K:S w (w.alloc (.cells (gX 0 0 λ_=>0) 44)):=(aq _ _).alloc (ao _) _;have B0:M (w.alloc (.cells (gX 0 0 λ_=>0) 44)) w.heap.size 44 (gX 0 0 λ_=>0):=M.new _ _ _;obtain⟨F,f⟩:=cJ (w.alloc (.cells (gX 0 0 λ_=>0) 44));rw[<-f]at K B0;have T:=h.call K;have c0:F.cell? (I g 0)=some (N c):=T.blk.cell 0;have Q:=U (zA T.cl hN ((k:Int)+1));rw[Q4 hk A]at Q;obtain⟨a,hM⟩:=aM ((C.X k).R.m);rw[hM]at Q hy hs b;have d1:=cP ((k:Int)+1<1);have d2:=cP ((k:Int)+1>6);have HW:=U f;have p:=iA B0 K hy hs b;clear K B0 f T h hy hs b hM A;go_in;go_upto_region 1 with fail;refine dI HW.o ?_;clear HW;go_wp2_with fail;apply Q.o.mono;rintro r w1 ⟨v,rfl,⟨vN,vG,rfl,j,E⟩,e⟩;obtain⟨A1,c1,rfl,-,-⟩:=j.sl;obtain⟨A2,c2,rfl,-,-⟩:=E.sl;obtain⟨W2,β,Bs,J⟩:=rA a.sta.inn a.sta.kn A1 A2 a.sta.aeM.length a.sta.G.length c1 c2 w1;have hl:=f8 (P:=prog) Bs underlying37 O (im _ _ _ _);have CQ:=U (Zl (inn:=a.sta.inn) (kn:=a.sta.kn) (vG:=.slice A2 a.sta.G.length c2) (Row.call j J) ⟨A2,_,c2,O⟩ p.o.2.2.2.2 y.id p.o.2.2.1 p.o.2.2.2.1);have B2:=(p.o.1.call e).call J;have DD:=(p.o.2.1.trans (e.mono p.o.2.1.size)).trans (J.mono (cF p.o.2.1.size e.size));have H2:=aB B2 DD;clear Bs J B2 DD j E e Q c0;go_wp2_with fail;apply CQ.o.mono;rintro r w3 ⟨rfl,x⟩;have B3:=H2.o.1.call x;have α:(eQ 44 (N w.heap.size) (.agg (oP y.r))).run prog w3=.ok .skip (w3.setRow w.heap.size (oP y.r)):=ft (P:=prog) (ty:=44) B3 (uK (eL y.r).1 (eL y.r).2 (cS y.r)) O (EC _ _ _);have D3:=Below.rowN (H2.o.2.trans (x.mono H2.o.2.size)) (g:=w.heap.size) (ao _) (oP y.r);have HX:=aB (dt B3 (oP y.r)) D3;clear B3 D3 x CQ;go_wp2_with fail;exact kA (s:=6) (u:=7) results10 O O HX.o.1 underlying44 O (uK _ _ _) O ⟨O,HX.o.2⟩
def Rv{C:aJ}(h:ig w0 w g c C aeM B m)(f:m.nd.length<=50)(a:∀id,(lk m.nd id).isSome=true->(gB m id).2.1<=(gB m id).1):Calls prog 11 #[N g] w λr e=>r=.returned (.bool true)/\S w e:=by have s:w.cell? (I g 1)=some (N B.b):=h.blk.cell 1;have j:=U (SC h.au h.ok f a);clear h a;go_in;go_wp2_with fail;apply j.o.mono;rintro r p ⟨rfl,a⟩;go_wp2;go_ret;exact⟨O,a⟩
def pI:dT:=⟨1,0,0,10,0,0⟩
def lx:dT:=⟨3,1099511627777,0,4,1,0⟩
def Fo{m:aG}{a:dT}(h:(gA (ec m) ((i:Int)+1) a).1=false)(b:(ev m (dn m i a)).1=0):bB m i a=(dn m i a,0,(cU m (dn m i a)).2):=by unfold bB;rw[al (by rw[h];exact Bool.false_ne_true),av b]
def rW:aG:=(cU (fc 1) (dn (fc 1) 0 pI)).2
def tG:aG:=(cU rW (dn rW 0 lx)).2
def FT:bB (fc 1) 0 pI=(dn (fc 1) 0 pI,0,rW):=Fo (by unfold gA;rw[av (.inl rfl)]) aS
def uS:bB rW 0 lx=(dn rW 0 lx,0,tG):=by refine Fo ?_ aS;have e:rW.gr=[]:=Y;unfold gA ec;rw[e];simp
def FG:rW.ok:=by have:=(tc (EF 1) (k:=0) ai (a:=pI) ⟨by constructor<;>decide,by constructor<;>decide,by constructor<;>decide,by constructor<;>decide,by constructor<;>decide,by constructor<;>decide⟩).1;rw[FT]at this;exact this
def SE:lx.ok:=⟨by constructor<;>decide,by constructor<;>decide,by constructor<;>decide,by constructor<;>decide,by constructor<;>decide,by constructor<;>decide⟩
def Sf:tG.ok:=by have:=(tc FG (k:=0) ai (a:=lx) SE).1;rw[uS]at this;exact this
def Sg:dR tG.gr:=by have e:tG.gr=[((1,1),⟨1,1,1099511627777,4,0⟩)]:=Y;rw[e];exact List.pairwise_singleton _ _
def TJ:bB tG 0 lx=(z.zero,0,tG):=by have h:=MT FG (i:=0) ai (a:=lx) (.inl O) (λh=>Rg (.inl O) h) (by rw[uS];exact Sg) (by rw[uS];exact Sf) (by rw[uS]);rw[uS]at h;exact h
def TI{a:z}:gB (dz (dz (dz bV.zero 1 pI (dn (fc 1) 0 pI) 0) 1 lx (dn rW 0 lx) 0) 1 lx a 0) 1099511627777=(10,4,0):=by rw[MP (.inl rfl)];decide+kernel
def vi:bD:=⟨1,1,⟨1,0,0,10,0,0⟩,0,0,0,none,0,[]⟩
def qL:bD:=⟨1,1,⟨3,1099511627777,0,4,1,0⟩,0,0,0,none,0,[]⟩
def Si(e:z):(eP [e]).length<=99:=by
 cases h:bG e with
 |true=>rw[JD (L:=[e]) λx a=>by rw[dd.1 a];exact h];exact ao _
 |false=>show(da [fT e]).length<=99;rw[ry,sS,ED h];decide
def Z7{C0 C1 P C3:aJ}{E1 v u:z}{F A G:Int}(hF:wC C0 1)(h1:sx C0 vi C1 E1 F)(h2:sx C1 qL P v A)(h3:sx P qL C3 u G):
  F=0/\A=0/\v.s=2/\u=z.zero/\G=0/\gB (dz (dz (dz bV.zero 1 pI E1 F) 1 lx v A) 1 lx u G) 1099511627777=(10,4,0):=by
 have one:∀{C b:aJ} {x:bD} {E:z} {e:Int} {m:aG} {j:z} {r:aG},x.d=1->x.w=1->sx C x b E e->(C.X 0).R.m=m->(C.X 0).dead=false->(C.p 0).dark=false->(C.p 0).burning=false->(C.s 0).l.length<=1000->bB m 0 x.ask=(j,0,r)->
   e=0/\E=j/\(b.X 0).R.m=r/\(b.X 0).dead=false/\(b.p 0).dark=false/\(b.p 0).burning=false/\(b.s 0).l.length<=(C.s 0).l.length+99:=by
  intro C b x E e m j r hd hw hP hm h f a α hr;rcases(hP hd).2 with⟨k,hk,β,hA⟩|⟨hn,-⟩;obtain rfl:k=0:=V;rcases hA with⟨hu,-⟩|⟨-,Q⟩;simp[aJ.up,h,f]at hu;rw[hm,hr]at Q;obtain⟨T,q2⟩:=Q;rcases q2 with⟨z1,z2,z3,z4,z5,z6,z7⟩|⟨-,q3,q4⟩;exact⟨z3,by rw[z2];exact z1.symm,T.1,z4,z5,by rw[z7];exact a,by rw[z6];omega⟩;have J:=q4 a V;rcases q3 with⟨-,y2,y3,y4,y5,y6⟩|⟨y1,-⟩;exact⟨J,y2,T.1,y3,y4,by rw[y5];exact a,by rw[y6,bW];have:=Si (j,(0:Int),r).1;omega⟩;exact absurd J y1;omega
 obtain⟨f1,f2,f3,f4,f5⟩:=hF.pr 0 ai;obtain⟨a1,a2,a3,a4,a5,a6,a7⟩:=one (x:=vi) O O h1 f1 f2 f3 f4 V FT;obtain⟨K,b2,b3,b4,b5,b6,b7⟩:=one (x:=qL) O O h2 a3 a4 a5 a6 V uS;obtain⟨c1,c2,c3,c4,c5,c6,c7⟩:=one (x:=qL) O O h3 b3 b4 b5 b6 V TJ;refine⟨a1,K,?_,c2,c1,?_⟩;rw[b2];decide+kernel;rw[a1,K,c1,a2,b2];exact TI
section
variable(ρ:aO->H)(dst:Option Tmp)(x y:aO)(ty:ay)(pos:String)(after:Array Edge)(guard:Option (Nat×Bool))(w:D)
@[go_sem ↓ high] theorem ab1:execOp ρ {dst,op:=.binOp .eql 66 x y 66,type:=ty,pos,after,guard}=rV 66 x y (ρ x) (ρ y):=by simp[execOp,rV]
@[go_sem ↓ high] theorem abN:execOp ρ {dst,op:=.binOp .neq 66 x y 66,type:=ty,pos,after,guard}=kg 66 x y (ρ x) (ρ y):=by simp[execOp,kg]
def BI:Sem Next:=execOp (fun _=>undef) {dst:=none,op:=.build 66 #[],type:=66,pos:= "",after:=#[],guard:=none}
@[go_sem ↓ high] theorem abF:execOp ρ {dst,op:=.build 66 #[],type:=ty,pos,after,guard}=BI:=by simp[execOp,BI]
@[go_sem] theorem acY:BI.run prog w=.ok (.value (.agg (bF z.zero 0))) w:=Y
@[go_sem] theorem adF:(rV 66 x y (.agg (bF z.zero 0)) (.agg (bF z.zero 0))).run prog w=.ok (.value (.bool true)) w:=KR (d:=8) Y Y ai Y x y w
@[go_sem] theorem adi:(kg 66 x y (.agg (bF z.zero 0)) (.agg (bF z.zero 0))).run prog w=.ok (.value (.bool false)) w:=wt (d:=8) Y Y ai Y x y w
end
def Om(hT:dr w)(hK:2<w.heap.size/\1<w.heap.size):Calls prog 5 #[] w λr w'=>r=.returned (.bool true)/\S w w':=by
 have CN:=U (GT (w:=w) (n:=1) ai ai hT);have R:=aB hT hK;clear hT hK;have o1:vi.ok:=⟨by constructor<;>decide,by constructor<;>decide,⟨by constructor<;>decide,by constructor<;>decide,by constructor<;>decide,by constructor<;>decide,by constructor<;>decide,by constructor<;>decide⟩,by constructor<;>decide,by constructor<;>decide,by constructor<;>decide,λ_ h=>aK h⟩;have o2:qL.ok:=⟨by constructor<;>decide,by constructor<;>decide,⟨by constructor<;>decide,by constructor<;>decide,by constructor<;>decide,by constructor<;>decide,by constructor<;>decide,by constructor<;>decide⟩,by constructor<;>decide,by constructor<;>decide,by constructor<;>decide,λ_ h=>aK h⟩;have a1:∀W,vi.At W:=λW=>⟨⟨O,λh=>absurd h (sJ 0)⟩,ai,ai⟩;have a2:∀W,qL.At W:=λW=>⟨⟨O,λh=>absurd h (sJ 0)⟩,ai,ai⟩;have bl:=cQ o1 o2 a1 a2;clear o1 o2 a1 a2;go_in;go_wp2_with fail;apply CN.o.mono;rintro r W1 ⟨g,c,C0,B,rfl,h0,hF,J⟩;have CD:=U (xO h0 hF.sem ⟨ai,ai⟩ (R.o.1.call' J) R.o.2 ai bl.o.1 (bl.o.2.2.1 W1));have H0:=aP hF J h0;clear h0 hF J CN;go_upto_region 4 with fail;go_wp2_with fail;apply CD.o.mono;rintro r Q ⟨E1,e1,C1,rfl,T,M1,⟨P1,Q1⟩,-,S1⟩;rw[av (show vi.d=1 from rfl)]at T;replace T:ig w Q g c C1 (50000+64) B (dz bV.zero 1 pI E1 e1):=T;obtain⟨X,x,B3,D3⟩:=DZ E1 e1 Q;obtain⟨W4,e,B4,D4⟩:=Dy qL X;replace e:(eQ 58 (N X.heap.size) (.agg #[.int .u8 1,Z 1,.int .u8 3,q 1099511627777,Z 0,Z 4,q 1,q 0,Z 0,Z 0,Z 0,.slice none 0 0])).run prog (X.alloc (.cells #[.int .u8 0,Z 0,.int .u8 0,q 0,Z 0,Z 0,q 0,q 0,Z 0,Z 0,Z 0,.slice none 0 0] 58))=.ok .skip W4:=e;have A:=H0.o.2.1.trans (M1.belowC H0.o.2.1.size λa hq hF=>aA (H0.o.2.2.old a hF));have j:=D3.trans (D4.mono D3.size);have h4:=T.call j;have G:=A.trans (j.mono A.size);have b4:=B3.call D4;have v:=k7 B4;have l4:=B4.lt;have e3:Q.heap.size<X.heap.size:=B3.lt;have β:=U (xO h4 Q1.sem ⟨ai,ai⟩ (R.o.1.call' G) R.o.2 ai bl.o.2.1 (bl.o.2.2.2 W4));have f:=U (ar h4 (ar G (ar b4 (ar B4 (ar (λa (hq:nP c C1 B g a)=>T.inh a hq) (ar j e3))))));have δ:=U P1;clear T M1 P1 S1 B3 D3 B4 D4 A j h4 G b4 CD e3;go_upto_region 6 with fail;go_wp2_with fail;apply β.o.mono;rintro r W5 ⟨E2,e2,C2,rfl,p,M5,⟨P5,Q5⟩,-,S5⟩;rw[av (show qL.d=1 from rfl)]at p;replace p:ig w W5 g c C2 (50000+64+64) B (dz (dz bV.zero 1 pI E1 e1) 1 lx E2 e2):=p;obtain⟨W6,x,B6,D6⟩:=DZ E2 e2 W5;have n3:∀a,Q.heap.size<=a->¬nP c C1 B g a:=λa hq hF=>aA (f.o.2.2.2.2.1 a hF);have s3:=f.o.2.2.2.2.2.2;have s:=(M5.blk f.o.2.2.1 (n3 _ (ao _))).call D6;have x4:=(M5.blk f.o.2.2.2.1 (n3 _ (Nat.le_of_lt s3))).call D6;have E:=f.o.2.1.trans (M5.belowC f.o.2.1.size λa hq hF=>aA (f.o.1.old a hF));have h6:=p.call D6;have C:=E.trans (D6.mono E.size);have n5:∀a,(a=Q.heap.size\/a=X.heap.size\/a=W5.heap.size)->¬nP c C2 B g a:=λa hq hF=>by have l1:=f.o.2.2.1.lt;rcases hF with hF|hF|hF;have:=f.o.2.2.2.2.1 g (.inl rfl);have:=p.inh g (.inl rfl);omega;rcases hq with hq|hq|hq;rcases S5 a hF with h|h;exact n3 a V (.inr (.inl h));omega;rcases S5 a hF with h|h;exact n3 a V (.inr (.inl h));omega;have:=p.inh a (.inr (.inl hF));omega;have:=f.o.2.2.2.2.1 a (.inr (.inr hF));have:=p.inh a (.inr (.inr hF));omega
 have v:=k7 x4;have l4:=x4.lt;have α:=U (xO h6 Q5.sem ⟨ai,ai⟩ (R.o.1.call' C) R.o.2 ai bl.o.2.1 (bl.o.2.2.2 W6));have u:=iA h6 C s B6 n5;have γ:=U P5;clear p M5 P5 S5 B6 D6 n3 s3 s x4 E h6 C n5 β e;go_upto_region 7 with fail;go_wp2_with fail;apply α.o.mono;rintro r W7 ⟨E3,e3,C3,rfl,h7,M7,⟨P7,-⟩,-,-⟩;rw[av (show qL.d=1 from rfl)]at h7;replace h7:ig w W7 g c C3 (50000+64+64+64) B (dz (dz (dz bV.zero 1 pI E1 e1) 1 lx E2 e2) 1 lx E3 e3):=h7;obtain⟨r1,r2,r3,r4,r5,r6⟩:=Z7 H0.o.1 δ.o γ.o P7;subst r1 r2 r4 r5;obtain⟨W8,x,B8,D8⟩:=DZ z.zero 0 W7;have s:=(M7.blk u.o.2.2.1 (u.o.2.2.2.2 _ (.inl O))).call D8;have P:=(M7.blk u.o.2.2.2.1 (u.o.2.2.2.2 _ (.inr (.inr O)))).call D8;have F:=u.o.2.1.trans (M7.belowC u.o.2.1.size λa hq hF=>aA (u.o.1.old a hF));have CS:=U (TK (h7.call D8) (id:=1099511627777) (by constructor<;>decide));rw[r6]at CS;have K:=iA (F.trans (D8.mono F.size)) s P B8 r3;clear h7 M7 P7 B8 D8 s P F α r6 r3 v l4;go_upto_region 8 with fail;go_wp2_with fail;apply CS.o.mono;rintro r W9 ⟨rfl,b⟩;have s:=K.o.2.1.call b;have P:=K.o.2.2.1.call b;have x6:=K.o.2.2.2.1.call b;have c3:W9.cell? (I Q.heap.size 14)=some (Z 0):=s.cell 14;have c5:W9.cell? (I W5.heap.size 14)=some (Z 0):=P.cell 14;have d5:W9.cell? (I W5.heap.size 1)=some (q 2):=by rw[P.cell 1,<-K.o.2.2.2.2];rfl
 have v:=xF x6;have HE:=U (K.o.1.trans (b.mono K.o.1.size));clear s P x6 b CS x;go_wp2;go_ret;exact⟨O,HE.o⟩
structure oO where
 k:Int
 a:Int
 n:Int
def Be(e:oO):Array H:=iz e.k e.a e.n
def Kg(e:oO):(Be e).size=3:=rfl
structure oO.ok(e:oO):Prop where
 k:j2 e.k
 a:j2 e.a
 n:fG e.n
def Yg(w:D)(r:Ending)(w':D):Prop:=r=.returned (.bool true)/\S w w'
@[go_sem ↓ high] def aaR:=@jC 44
def Ql(f:Nat->Int)(w:D):∃W',(eQ 44 (N w.heap.size) (.agg (oP f))).run prog (w.alloc (.cells #[Z 0,Z 0,Z 0,Z 0,Z 0,Z 0,Z 0,Z 0] 44))=.ok .skip W'/\M W' w.heap.size 44 (oP f)/\S w W':=by have B:M (w.alloc (.cells #[Z 0,Z 0,Z 0,Z 0,Z 0,Z 0,Z 0,Z 0] 44)) w.heap.size 44 (gX 0 0 λ_=>0):=M.new _ _ _;exact⟨_,ft B (uK _ _ _) O (EC _ _ _),dt B _,Below.rowN ((aq _ _).alloc (ao _) _) (ao _) _⟩
def Ri(f:Nat->Int){r:Nat}(a:r<6):(oP f)[2+r]? =some (Z (cS f r)):=
 an.six (P:=λr=>(oP f)[2+r]? =some (Z (cS f r))) O O O O O O r a
structure Am(w:D)(A:Option Addr)(P:List oO)(c:Nat):Prop where
 rows:RowsIn w 3 Be A P c
 ok:∀e∈P,e.ok
def OB(n:Nat)(σ:n<=255)(A:Option Addr)(c0:Nat)(L:List j1)(PA:Option Addr)(pc:Nat)(P:List oO)(w:D)(hl:zW w A L c0)(hp:Am w PA P pc)(hT:dr w)(Q:qO w):
  Calls prog 3 #[.int .u8 n,.slice A L.length c0,.slice PA P.length pc] w (Yg w):=by
 have hK:=hT.lt;have CE:=U (λ(Γ:D) (T:S w Γ)=>Om (hT.call' T) ⟨ee hK.1 T.size,ee hK.2 T.size⟩);have CF:=U (WI hl.rows);have ple:=hp.rows.le;obtain⟨fb,φ⟩:=aM (sb L);rw[φ]at CF;clear φ;cases fb with
 |false=>clear hl hp hT Q;go_in;go_wp2_with fail;apply CF.o.mono;rintro r w1 ⟨rfl,rfl⟩;go_wp2_with fail;apply(CE.o _ (aq _ _)).mono;rintro r w1 ⟨rfl,T⟩;go_wp2;go_ret;exact⟨O,T⟩
 |true=>
  by_cases h50:L.length<=50
  ·have d50:=cP ((L.length:Int)>50);by_cases h12:P.length<=12
   ·have d12:=cP ((P.length:Int)>12);have CD:=U (Tr n σ A c0 L w hl h50 hT);have μ:1<=1+n%6:=V;have υ:1+n%6<=6:=V;generalize 1+n%6=K at CD μ υ;have HH:=aP hT Q hp;clear hl hp hT Q hK;go_in;go_wp2_with fail;apply CF.o.mono;rintro r w1 ⟨rfl,rfl⟩;clear CF;go_wp2_with fail;apply CD.o.mono;rintro r W1 ⟨g,c,B,aeM,cc,C,m,rfl,h1,κ,hN1,hN2⟩;have H1:=U h1;clear h1 CD;go_wp2;go_loopw [9] (λv9 wr=>∃(i:Nat) (C:aJ),i<=P.length+1/\v9=Z i/\ko w g c B K aeM cc C m wr) (λv9 _=>P.length+1-(intOf v9).toNat);exact⟨0,C,V,O,H1.o⟩;obtain⟨i,C1,hi,rfl,h2⟩:=hrel;have H2:=U h2;clear h2;by_cases hlt:i<=P.length
    ·have hd:=cO ((i:Int)<=P.length);go_upto_if 47 with fail;go_cut []from 48 to 55 (λwx=>∃C2,ko w g c B K aeM cc C2 m wx)
     case first=>
      by_cases h0:i=0
      ·subst h0;go_wp2;go_meet;exact⟨C1,H2.o⟩
      obtain⟨p,rfl⟩:∃p,i=p+1:=⟨i-1,V⟩;obtain⟨e,l⟩:∃e,P[p]? =some e:=⟨P[p],bY V⟩;obtain⟨b,o,rfl,Θ,hc⟩:=HH.o.2.2.rows.at_ Kg ai l;have eo:=HH.o.2.2.ok e (cX l);have ep:IntKind.i64.wrap (p:Int)=p:=bS _ V;have p0:(0:Int)<=(p:Int):=V;have p1:(p:Int)+1<=(pc:Int):=V;have CR:=U (WY H2.o μ υ ⟨hN1,V⟩ V HH.o.1 HH.o.2.1 (cap:=pc-p) hc Θ V eo.k eo.a eo.n);clear l hc eo;go_wp2_with fail;apply CR.o.mono;rintro r W3 ⟨u,C',rfl,h3⟩;have H3:=U h3;clear h3 CR;go_wp2;go_meet;exact⟨C',H3.o⟩
     obtain⟨C2,h3⟩:=hcut;have H3:=U h3;clear h3 H2;go_wp2;go_loopw [10] (λε wr=>∃j:Nat,j<=K/\ε=Z ((j:Int)+1)/\S wc wr) (λε _=>K+1-(intOf ε).toNat);exact⟨0,V,O,aq _ _⟩;obtain⟨j,hj,rfl,ι⟩:=hrel;have H4:=aB (H3.o.call ι) ι;clear ι;obtain⟨wj,rfl⟩:∃wj:D,wj=wr:=⟨_,O⟩;by_cases hjk:j<K
     ·have Ω:=cO ((j:Int)+1<=K);have ej:IntKind.i64.wrap ((j:Int)+1+1)=(j:Int)+1+1:=bS _ V;have CA:=U (yZ H4.o.1.wo.blk);have CS:=U (zA H4.o.1.wo.cl V ((j:Int)+1));obtain⟨ub,J⟩:=aM (C2.up j);cases ub with
      |false=>
       rw[Fi J]at CS;clear J;go_wp2_with fail;apply CA.o.mono;rintro r w5 ⟨rfl,rfl⟩;clear CA;go_wp2_with fail;apply CS.o.mono;rintro r w5 ⟨v,rfl,ξ,s⟩;obtain⟨A1,A2,c1,c2,rfl⟩:=zS ξ;obtain⟨W6,α,B6,D6⟩:=rA fh.zero.inn fh.zero.kn A1 A2 fh.zero.aeM.length fh.zero.G.length c1 c2 w5;have E:=U (H4.o.2.trans ((s.trans (D6.mono s.size)).mono H4.o.2.size));clear ξ s B6 D6 CS;go_wp2;go_roundw
       ·exact⟨j+1,V,by go_num,E.o⟩
       simp[intOf];omega
      |true=>
       rw[KM V J]at CS;have HU:=U J;obtain⟨h,Q⟩:=aM ((C2.X j).R.m);have mo:h.ok:=Q▸(H4.o.1.wo.cl.si j V).re.ok;rw[Q]at CS;have HM:=aB Q mo;clear J Q mo;go_wp2_with fail;apply CA.o.mono;rintro r w5 ⟨rfl,rfl⟩;clear CA;go_wp2_with fail;apply CS.o.mono;rintro r w5 ⟨v,rfl,⟨vN,vG,rfl,hN,hG⟩,s⟩;obtain⟨A1,c1,rfl,-,-⟩:=hN.sl;obtain⟨A2,c2,rfl,-,-⟩:=hG.sl;obtain⟨W6,α,B6,D6⟩:=rA h.sta.inn h.sta.kn A1 A2 h.sta.aeM.length h.sta.G.length c1 c2 w5;have ζ:=s.trans (D6.mono s.size);have E:=cQ (H4.o.1.call ζ) (H4.o.2.trans (ζ.mono H4.o.2.size)) B6 (show eV W6 _ _ (cq h)from Row.call hN D6);have hnl:=NY HM.o.2;clear hN hG s B6 D6 CS ζ;go_wp2_with fail;clear α;generalize w5.heap.size=bs at E⊢;go_loopw [13] (λβ wx=>∃t:Nat,t<=(cq h).length/\β=Z t/\S W6 wx) (λβ _=>(cq h).length-(intOf β).toNat);exact⟨0,V,O,aq _ _⟩;obtain⟨t,ht,rfl,F⟩:=hrel;have H7:=aB (E.o.1.call F) F;have B7:=E.o.2.2.1.call F;have Δ:wr.cell? (I bs 18)=some (.slice A1 (cq h).length c1):=B7.cell 18;have Ψ:=B7.frozen;have d:=B7.lt;have x:=Row.call E.o.2.2.2 F;clear F B7;obtain⟨W,rfl⟩:∃W:D,W=wr:=⟨_,O⟩;have et:IntKind.i64.wrap ((t:Int)+1)=(t:Int)+1:=bS _ V;by_cases htl:t<(cq h).length
       ·have Ξ:=cO ((t:Int)<(cq h).length);obtain⟨y,hy⟩:∃y,(cq h)[t]? =some y:=⟨(cq h)[t],bY htl⟩;obtain⟨gN,χ,hs,θ,Φ,hgb,hgl⟩:=x.sl_pos V;obtain⟨rfl,hcc⟩:A1=some (I gN 0)/\c1=χ:=by injection hs with a b c;exact⟨a,c⟩
        have η:W.cell? (I gN (t*56))=some (q y.id):=az (x.rng mT hy 0 (q y.id) (xD y));have CQ:=U (Ru H7.o.1.wo V (k:=j) V HU.o (i:=t) (y:=y) (by rw[HM.o.1];exact hy) (by rw[HM.o.1];exact Mj HM.o.2 hy) (by rw[HM.o.1];omega));have t0:(0:Int)<=(t:Int):=V;have t1:(t:Int)<((cq h).length:Int):=V;obtain⟨f,hf⟩:=aM (y.r);rw[hf]at CQ;clear x hy hs θ Φ hgb hcc hf;go_wp2_with fail;apply CQ.o.mono;rintro r W8 ⟨rfl,γ⟩;obtain⟨W9,ν,B9,D9⟩:=Ql f W8;have H9:=aB B9 (H7.o.2.trans ((γ.trans (D9.mono γ.size)).mono H7.o.2.size));have q1:W9.cell? (I W8.heap.size 1)=some (Z (eL f).2):=B9.cell 1;clear γ B9 D9 CQ Δ Ψ d η;go_wp2_with fail;clear q1 ν;generalize W8.heap.size=bq at H9⊢;go_loopw [16,17] (λω δ wx=>∃r:Nat,r<=6/\ω=Z (ip f r)/\δ=Z r/\wx=W9) (λ_ δ _=>6-(intOf δ).toNat);exact⟨0,V,O,O,O⟩;obtain⟨r,hr,rfl,rfl,rfl⟩:=hrel;have B9:=H9.o.1;by_cases π:r<6
        ·have hdr:=cO ((r:Int)<6);have qr:wr.cell? (I bq (2+r))=some (Z (cS f r)):=by rw[B9.cell];exact Ri f π
         have hnn:=(KD f).2 r π;have dl:=cP (cS f r<0);have eh:IntKind.i64.wrap (ip f r+cS f r)=ip f (r+1):=bS _ (by have:=Qg f (k:=r+1) V;exact this);have er:IntKind.i64.wrap ((r:Int)+1)=(r:Int)+1:=bS _ V;have r0:(0:Int)<=(r:Int):=V;have r6:(r:Int)<6:=V;clear B9 hnn;generalize cS f r=aeU at qr dl eh;go_wp2;go_roundw
         ·exact⟨r+1,V,by first|rfl|go_num,by first|rfl|go_num,by first|rfl|trivial⟩
         simp[intOf];omega
        obtain rfl:r=6:=V;have hdr:decide (((6:Nat):Int)<6)=false:=ai;have q0:wr.cell? (I bq 0)=some (Z (ip f 6)):=by rw[B9.cell,(La f 6 V).2.2];rfl
        clear B9;generalize ip f 6=aeU at q0⊢;go_wp2;go_roundw
        ·exact⟨t+1,V,by go_num,H9.o.2⟩
        simp[intOf];omega
       obtain rfl:t=(cq h).length:=V;have Ξ:=cP (((cq h).length:Int)<(cq h).length);have H8:=U (E.o.2.1.trans (H7.o.2.mono E.o.2.1.size));clear x;go_wp2;go_roundw
       ·exact⟨j+1,V,by go_num,H8.o⟩
       simp[intOf];omega
     obtain rfl:j=K:=V;have Ω:=cP ((j:Int)+1<=j);have ei:IntKind.i64.wrap ((i:Int)+1)=(i:Int)+1:=bS _ V;go_wp2;go_roundw
     ·exact⟨i+1,C2,V,by go_num,H4.o.1⟩
     simp[intOf];omega
    obtain rfl:i=P.length+1:=V;have hd:=cP (((P.length+1:Nat):Int)<=P.length);have CB:=U (Rv H2.o.wo (aZ H2.o.nd κ) λid η=>(H2.o.aud.bound V η).1);go_wp2_with fail;apply CB.o.mono;rintro r W5 ⟨rfl,s⟩;have H5:=U (H2.o.call s);have CA:=U (Rw H5.o.wo V H5.o.sem);clear s CB;go_wp2_with fail;apply CA.o.mono;rintro r W6 ⟨rfl,τ⟩;have E:=U (H5.o.call τ).below;have CW:=U (CE.o _ E.o);clear τ CA;go_wp2_with fail;apply CW.o.mono;rintro r W7 ⟨rfl,ψ⟩;have H7:=U (E.o.trans (ψ.mono E.o.size));clear ψ CW;go_wp2;go_ret;exact⟨O,H7.o⟩
   have d12:=cO ((P.length:Int)>12);clear hl hp hT Q;go_in;go_wp2_with fail;apply CF.o.mono;rintro r w1 ⟨rfl,rfl⟩;go_wp2_with fail;apply(CE.o _ (aq _ _)).mono;rintro r w1 ⟨rfl,T⟩;go_wp2;go_ret;exact⟨O,T⟩
  have d50:=cO ((L.length:Int)>50);clear hl hp hT Q;go_in;go_wp2_with fail;apply CF.o.mono;rintro r w1 ⟨rfl,rfl⟩;go_wp2_with fail;apply(CE.o _ (aq _ _)).mono;rintro r w1 ⟨rfl,T⟩;go_wp2;go_ret;exact⟨O,T⟩
section
open Go.ChangeShapes Go.WideShapes Go.ChangeAt
def Kn:prog.cellsOf 73=3:=Y
section
variable{aeJ:Type}{enc:ay×H->aeJ}
def Oi{fuel:Nat}{x:DataW aeJ×List MemPlace}
  (h:DataW.trod enc prog w 0 (λ_=>true) true fuel 60 cs=some x):∃a:j1,cs=(oB a).toList/\(a.s.ok/\j2 a.nd)/\a.s.At w:=by
 obtain⟨T,m,_,_,v,b,f⟩:=vC underlying60 h;rw[JL]at v
 match T,b,cs,v with
 |[aC,z1,z2],_,[c0,c1,c2,c3,c4,c5,c6,c7,c8,c9,c10,c11,c12,c13],_=>
  have Q:DataW.trod enc prog w 0 (λ_=>true) true m 58 [c0,c1,c2,c3,c4,c5,c6,c7,c8,c9,c10,c11]=some aC:=by have:=f 0 _ O;simpa[yW]using this
  obtain⟨s,r,G,wa⟩:=Oh Q;have X:DataW.trod enc prog w 0 (λ_=>true) true m 4 [c12]=some z1:=by have:=f 1 _ O;simpa[Dp,yW]using this
  obtain⟨b2,u,_⟩:=DataW.trod_bool underlying4 X;have P:DataW.trod enc prog w 0 (λ_=>true) true m 5 [c13]=some z2:=by have:=f 2 _ O;simpa[uz,Dp,yW]using this
  obtain⟨E,p,_,C⟩:=ky underlying5 P;simp only[aX,vM,qj]at r u p;obtain⟨F,K,f2,f3,f4,R,f6,J,A,f9,e,j⟩:=r;subst u p F K f2 f3 f4 R f6 J A f9 e j;exact⟨⟨s,b2,E,false,0⟩,O,⟨G,uU C⟩,wa⟩
def OY{r:Reach}{j:Nat}{v:H}{d:DataW aeJ}{p:List MemPlace}(e:Value.okWide prog w r j 22 v)(h:DataW.Trod enc prog w 0 (λ_=>true) true 22 v d p):
  ∃(A:Option Addr) (cap:Nat) (L:List j1),v=.slice A L.length cap/\zW w A L cap:=by
 obtain⟨A,cap,L,C,u,f⟩:=KG (ok:=λa:j1=>(a.s.ok/\j2 a.nd)/\a.s.At w) underlying22 JL V za (λ_ _ _ b=>Oi b) e h;exact⟨A,cap,L,C,u,λx b=>(f x b).1.1,λx b=>(f x b).1.2,λx b=>(f x b).2⟩
def Oj{fuel:Nat}{x:DataW aeJ×List MemPlace}
  (h:DataW.trod enc prog w 0 (λ_=>true) true fuel 73 cs=some x):∃a:oO,cs=(Be a).toList/\a.ok:=by
 obtain⟨C,m,_,_,p,b,e⟩:=vC underlying73 h;rw[Kn]at p
 match C,b,cs,p with
 |[y0,y1,y2],_,[c0,c1,c2],_=>
  have J:DataW.trod enc prog w 0 (λ_=>true) true m 5 [c0]=some y0:=by have:=e 0 _ O;simpa[uz]using this
  obtain⟨G,f,_,w0⟩:=ky underlying5 J;have v:DataW.trod enc prog w 0 (λ_=>true) true m 5 [c1]=some y1:=by have:=e 1 _ O;simpa[uz]using this
  obtain⟨A,j,_,u⟩:=ky underlying5 v;have s:DataW.trod enc prog w 0 (λ_=>true) true m 3 [c2]=some y2:=by have:=e 2 _ O;simpa[sZ,uz]using this
  obtain⟨F,r,_,E⟩:=ky underlying3 s;simp only[vM,qj]at f j r;subst f j r;exact⟨⟨G,A,F⟩,O,⟨uU w0,uU u,rL E⟩⟩
def NS{r:Reach}{e:Nat}{v:H}{d:DataW aeJ}{p:List MemPlace}(a:Value.okWide prog w r e 23 v)(h:DataW.Trod enc prog w 0 (λ_=>true) true 23 v d p):
  ∃(A:Option Addr) (cap:Nat) (L:List oO),v=.slice A L.length cap/\Am w A L cap:=by
 obtain⟨A,cap,L,j,f,s⟩:=KG (ok:=λb:oO=>b.ok) underlying23 Kn V Kg (λ_ _ _ u=>Oj u) a h;exact⟨A,cap,L,j,f,s⟩
end
end
