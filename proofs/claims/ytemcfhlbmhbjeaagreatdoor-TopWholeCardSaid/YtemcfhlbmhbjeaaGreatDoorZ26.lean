import Derived.Test.YtemcfhlbmhbjeaaGreatDoorZ25
set_option maxRecDepth 100000
set_option maxHeartbeats 0
set_option linter.all false
namespace Go.Proofs.YtemcfhlbmhbjeaaGreatDoor
open Go.Proofs.Tryz
variable{w w':D}{E:z}{who n t a r f e id:Int}
open Go Go.RowKit
section
open Go.Maps (Keyed)
def oK(p:Int×Int):Array H:=#[q p.1,Z p.2]
def tJ:eR Int (Int×Int):=uV 137 124 (λp=>.agg (oK p)) (0,0)
def s7:tJ.Ok:=wy underlying124 (λw=>Y)
def xQ:eR Int Int:=uV 2 125 (λx=>Z x) 0
def wH:xQ.Ok:=wy underlying125 (λw=>Y)
def TG:(141:ay)<prog.types.size:=nY Y
def RA:(match prog.underlying 141 with|some (.array _ _)|some (.struct _)=>true|_=>false)=true:=Y
def VW:Keyed prog 141:=Keyed.of_law (deep_law_laid vT (m:=2) V TG Y RA)
def LG:prog.cellsOf 141=2:=Y
def LY:prog.keyType 141=true:=Y
def PC{o s:Int}(h:fM o s):∃l,keyOf prog 141 (.agg (cM o s))=some l:=by obtain⟨c,d⟩:=AH h;obtain⟨m,b⟩:=yN;refine⟨.string (keyBytes [.int .i64 o,.int .u64 s]),?_⟩;unfold keyOf;simp only[underlying141];rw[av (by simp[LY,Value.formed,underlying141,LG,cM]),b];unfold Program.keyLits;simp only[underlying141,Value.cells,cM];rw[av (by rw[LG];exact⟨O,ah⟩)];simp[List.mapM_cons,List.mapM_nil,DE,yX,Program.keyLits,underlying3,underlying31,c,d]
def Bb{β:Type}(E T:ay)(c:β->H)(b:β):eR (Int×Int) β:=⟨141,E,T,λx=>.agg (cM x.1 x.2),c,b,λx=>fM x.1 x.2⟩
def Fy{β:Type}{E T:ay}{d:β->H}{c:β}(k:prog.underlying T=some (.map 141 E))(l:∀w,(zeroValue E).run prog w=.ok (d c) w):(Bb E T d c).Ok:=
 ⟨VW,k,λa g=>PC g,λa b h=>by obtain⟨j,i⟩:=wF h;exact Prod.ext j i,l⟩
def rY:eR (Int×Int) (Int×Int):=Bb 143 126 (λp=>.agg (oK p)) (0,0)
def wG:rY.Ok:=Fy underlying126 (λw=>Y)
def xR:eR (Int×Int) Bool:=Bb 4 127 (λb=>.bool b) false
def EO:xR.Ok:=Fy underlying127 (λw=>Y)
structure bV where
 nd:List (Int×(Int×Int))
 ra:List (Int×Int)
 ta:List ((Int×Int)×(Int×Int))
 ba:List ((Int×Int)×Bool)
def bV.zero:bV:=⟨[],[],[],[]⟩
def dB(x:Int):Int:=max 0 (min x 1125899906842624)
def dz(m:bV)(who:Int)(a:dT)(E:z)(e:Int):bV:=
 if e≠0/\e≠8 then m
 else if a.k=1 then(if bg E.o E.s≠0/\(lk m.nd (bg E.o E.s)).isSome=false then{m with nd:=putL m.nd (bg E.o E.s) (a.n,dB a.a)}else m)
 else if a.k=2 then{m with ra:=putL m.ra a.n (IntKind.i64.wrap ((lk m.ra a.n).getD 0+dB a.a))}
 else if a.k=3 then(if(lk m.ta (who,a.r)).isSome=true\/e≠0 then m else{m with ta:=putL m.ta (who,a.r) (a.n,if a.a=dB a.a then a.a else 0)})
 else if a.k=4 then{m with ba:=putL m.ba (who,a.f) true}else m
def k9(T:List (Int×(Int×Int)))(of:Int):Nat->Int->Int
 |0,id=>id
 |n+1,id=>if id=of\/(lk T id).isSome=false then id else k9 T of n ((lk T id).getD (0,0)).1
def qB(T:List (Int×(Int×Int)))(id of:Int):Bool:=decide (k9 T of 32 id=of)
def vj(m:bV)(id:Int)(x:(Int×Int)×(Int×Int)):Int:=if(lk m.ba x.1).getD false=false/\qB m.nd x.2.1 id=true then x.2.2 else 0
def iV(m:bV)(id:Int)(L:List ((Int×Int)×(Int×Int))):Int:=(L.map (vj m id)).foldr (·+·) 0
def gB(m:bV)(id:Int):Int×Int×Int:=if(lk m.nd id).isSome then(IntKind.i64.wrap (((lk m.nd id).getD (0,0)).2+(lk m.ra id).getD 0),IntKind.i64.wrap (iV m id m.ta),0)else(0,0,9)
def MH{m:bV}{L aeL:List ((Int×Int)×(Int×Int))}(p:L.Perm aeL):iV m id L=iV m id aeL:=by
 unfold iV
 induction p with
 |nil=>rfl
 |cons x _ ih=>simp only[cW,List.foldr_cons,ih]
 |swap x y l=>simp only[cW,List.foldr_cons];omega
 |trans _ _ ih1 ih2=>exact ih1.trans ih2
structure ez where
 b:Nat
 nm:Nat
 rm:Nat
 tm:Nat
 bm:Nat
def ez.F(B:ez):Nat->Prop:=λc=>c=B.b\/c=B.nm\/c=B.rm\/c=B.tm\/c=B.bm
def Y5(B:ez):Array H:=#[.map (some B.nm),.map (some B.rm),.map (some B.tm),.map (some B.bm)]
structure eH(w:D)(B:ez)(m:bV):Prop where
 blk:M w B.b 129 (Y5 B)
 n:bA tJ w B.nm m.nd
 r:bA xQ w B.rm m.ra
 t:bA rY w B.tm m.ta
 b:bA xR w B.bm m.ba
 nr:B.nm≠B.rm
 nt:B.nm≠B.tm
 nb:B.nm≠B.bm
 rt:B.rm≠B.tm
 rb:B.rm≠B.bm
 tb:B.tm≠B.bm
section
variable{w w':D}{B:ez}{m:bV}
def eH.inh(h:eH w B m):jP B.F w:=λc d=>by rcases d with rfl|rfl|rfl|rfl|rfl;exact h.blk.lt;exact h.n.lt;exact h.r.lt;exact h.t.lt;exact h.b.lt
def eH.mod{G:Nat->Prop}(h:eH w B m)(k:aa G w w')(c:dJ B.F G):eH w' B m:=
 ⟨k.blk h.blk λg=>c _ (.inl O) g,k.gmap h.n λg=>c _ (.inr (.inl O)) g,k.gmap h.r λg=>c _ (.inr (.inr (.inl O))) g,k.gmap h.t λg=>c _ (.inr (.inr (.inr (.inl O)))) g,k.gmap h.b λg=>c _ (.inr (.inr (.inr (.inr O)))) g,h.nr,h.nt,h.nb,h.rt,h.rb,h.tb⟩
def eH.call(h:eH w B m)(b:S w w'):eH w' B m:=h.mod (aa.of_below (F:=bC) b) λ_ _ h=>h
end
def XO(w:D):Calls prog 28 #[] w λr w'=>∃B,r=.returned (N B.b)/\eH w' B bV.zero/\(∀d,B.F d->w.heap.size<=d)/\S w w':=by have g:= @qc prog;go_wp2;go_ret;have c:∀(W:D) (o:Obj),S W (W.alloc o):=λW o=>(aq _ _).alloc (ao _) _;refine⟨⟨w.heap.size+4,w.heap.size,w.heap.size+1,w.heap.size+2,w.heap.size+3⟩,ah,⟨M.new_at ah O,((((bA.made tJ w).call (c _ _)).call (c _ _)).call (c _ _)).call (c _ _),(((bA.made_at xQ ah).call (c _ _)).call (c _ _)).call (c _ _),((bA.made_at rY ah).call (c _ _)).call (c _ _),(bA.made_at xR ah).call (c _ _),ah,ah,ah,ah,ah,ah⟩,λd hq=>?_,?_⟩;rcases hq with hq|hq|hq|hq|hq<;>(simp only at hq;omega);exact(((((aq _ _).alloc (ao _) _).alloc ah _).alloc aQ _).alloc aQ _).alloc aQ _
def wq(x:Int)(w:D):Calls prog 49 #[Z x] w λr w'=>r=.returned (Z (dB x))/\w=w':=by go_wp2;go_ret;exact⟨O,O⟩
end
@[go_sem ↓ high] def abp:=@jC 137
@[go_sem ↓ high] def abo:=@jC 143
@[go_sem ↓ high] def abq:=@jC 141
@[go_sem ↓ high] def abX:=@iY 143
@[go_sem ↓ high] def abY:=@iY 141
def zs(x y:H):(prog.info? 137).map (·.size)=some (#[x,y]:Array H).size:=by rw[show(#[x,y]:Array H).size=2 from rfl];kernel_rfl
def uw(x y:H):(prog.info? 143).map (·.size)=some (#[x,y]:Array H).size:=by rw[show(#[x,y]:Array H).size=2 from rfl];kernel_rfl
def rC(x y:H):(prog.info? 141).map (·.size)=some (#[x,y]:Array H).size:=by rw[show(#[x,y]:Array H).size=2 from rfl];kernel_rfl
def sY{ty:ay}{x y a b:H}(h:(prog.info? ty).map (·.size)=some (#[x,y]:Array H).size)(g:x.oneCell'=true)(d:y.oneCell'=true)(w:D):∃c,(eQ ty (N w.heap.size) (.agg #[x,y])).run prog (w.alloc (.cells #[a,b] ty))=.ok .skip c/\M c w.heap.size ty #[x,y]/\S w c:=by have B:M (w.alloc (.cells #[a,b] ty)) w.heap.size ty #[a,b]:=M.new _ _ _;exact⟨_,ft B h O (by simp[g,d]),dt B _,Below.rowN ((aq _ _).alloc (ao _) _) (ao _) _⟩
structure bV.ok(m:bV):Prop where
 np:∀x∈m.nd,bo x.2.1
 tn:∀x∈m.ta,bo x.2.1
def SD{B:ez}{m:bV}(h:eH w B m)(ok:m.ok){of:Int}(A:bo id):Calls prog 50 #[N B.b,q id,q of] w λr w'=>r=.returned (.bool (qB m.nd id of))/\S w w':=by
 have Q:=aB h ok;clear h ok;go_wp2;go_loopw [1,9] (λa i wr=>∃(j:Nat) (x:Int),j<=32/\i=Z j/\a=q x/\bo x/\S w wr/\k9 m.nd of (32-j) x=k9 m.nd of 32 id) (λ_ i _=>32-(intOf i).toNat);exact⟨0,id,V,O,O,A,aq _ _,O⟩;obtain⟨j,x,hj,rfl,rfl,hx,k,J⟩:=hrel;have y:=Q.o.1.call k;obtain⟨C,f0⟩:=y.blk.rules;have c0:wr.cell? (I B.b 0)=some (.map (some B.nm)):=C 0;have v:=U J;have T:=U k;by_cases R:j<32
 ·have hd:(j:Int)<32:=V;have G:(Instr.lookup 124 (.map (some B.nm)) (q x) true).run prog wr=.ok (.tuple #[.agg (oK ((lk m.nd x).getD (0,0))),.bool (lk m.nd x).isSome]) wr:=y.n.look2 s7 hx;obtain⟨W,u,P,L⟩:=sY (a:=q 0) (b:=Z 0) (zs (q ((lk m.nd x).getD (0,0)).1) (Z ((lk m.nd x).getD (0,0)).2)) O O wr;have c3:W.cell? (I wr.heap.size 0)=some (q ((lk m.nd x).getD (0,0)).1):=P.cell 0;have F:=U (k.trans (L.mono k.size));have l:(lk m.nd x).isSome=true->bo ((lk m.nd x).getD (0,0)).1:=λhs=>by obtain⟨p,l⟩:=n8.1 hs;rw[l];exact Q.o.2.np _ (dX l)
  have K:=U l;have s:=U (show∀n,k9 m.nd of (n+1) x=if x=of\/(lk m.nd x).isSome=false then x else k9 m.nd of n ((lk m.nd x).getD (0,0)).1 from λ_=>rfl);unfold oK at G;clear y C J k P L l;generalize (lk m.nd x).getD (0,0)=p at G u c3 K s;generalize (lk m.nd x).isSome=b at G K s;by_cases c:x=of
  ·have d:x=k9 m.nd of 32 id:=by rw[<-v.o,bU (32-j=(31-j)+1),s.o,av (.inl c)]
   subst c;have g:=U d;have X:(x==x)=true:=ah;clear d;cases b<;>(go_wp2;go_ret;refine⟨?_,F.o⟩;unfold qB;rw[<-g.o,fa rfl];rfl)
  have X:(x==of)=false:=az c;cases b with
  |false=>
   have d:x=k9 m.nd of 32 id:=by rw[<-v.o,bU (32-j=(31-j)+1),s.o,av (.inr rfl)]
   have g:=U d;clear d;go_wp2;go_ret;refine⟨?_,F.o⟩;unfold qB;rw[<-g.o,fO c];rfl
  |true=>
   go_wp2;go_roundw
   ·exact⟨j+1,p.1,V,by go_num,O,K.o O,F.o,by rw[<-v.o,bU (32-j=(32-(j+1))+1),s.o,al (by simp[c])]⟩
   simp[intOf];omega
 obtain rfl:j=32:=V;clear y C J k;go_wp2;go_ret;refine⟨?_,T.o⟩;unfold qB;rw[<-v.o];by_cases c:x=of;simp[k9,c];simp[k9,c]
@[go_sem] theorem adw(x:Int×Int):rY.kc x=.agg #[Z x.1,q x.2]:=rfl
@[go_sem] theorem adh(x:Int×Int):rY.vc x=.agg #[q x.1,Z x.2]:=rfl
def Nf(a b:Int):IntKind.i64.wrap (IntKind.i64.wrap a+b)=IntKind.i64.wrap (a+b):=by rw[tW,tW,tW];omega
def L9{x y x' y':H}(s:x.oneCell'=true)(k:y.oneCell'=true)(c:x'.oneCell'=true)(h:y'.oneCell'=true)(w:D):
  ∃i b,(eQ 141 (N w.heap.size) (.agg #[x,y])).run prog ((w.alloc (.cells #[Z 0,q 0] 141)).alloc (.cells #[q 0,Z 0] 143))=.ok .skip i/\
   (eQ 143 (N (w.heap.size+1)) (.agg #[x',y'])).run prog i=.ok .skip b/\ax b [(w.heap.size+1,143,#[x',y']),(w.heap.size,141,#[x,y])]/\S w b:=by
 have d:=((ax.nil (w:=w)).push (t:=141) (cs:=#[Z 0,q 0]) (g:=w.heap.size) O).push (t:=143) (cs:=#[q 0,Z 0]) (g:=w.heap.size+1) ah;have p:S w ((w.alloc (.cells #[Z 0,q 0] 141)).alloc (.cells #[q 0,Z 0] 143)):=((aq _ _).alloc (ao _) _).alloc ah _;have o:=dt d.drop.head #[x,y];have j:M _ (w.heap.size+1) 143 #[q 0,Z 0]:=(aa.of_fr1 (F:=aR w.heap.size) (fl _ w.heap.size #[x,y]) O).blk d.head (λe=>by have e:w.heap.size+1=w.heap.size:=e;omega);have l:=dt j #[x',y'];have m:=(aa.of_fr1 (F:=aR (w.heap.size+1)) (fl _ (w.heap.size+1) #[x',y']) O).blk o (λe=>by have e:w.heap.size=w.heap.size+1:=e;omega);exact⟨_,_,ft d.drop.head (rC x y) O (by simp[s,k]),ft j (uw x' y') O (by simp[c,h]),ax.cons l (ax.cons m ax.nil),Below.rowN (Below.rowN p (ao _) _) V _⟩
structure Mn(w:D)(B:ez)(m:bV)(g:Nat)(e:(Int×Int)×(Int×Int)):Prop where
 cb:w.cell? (I B.b 3)=some (.map (some B.bm))
 fr:∀i,w.frozen? (I B.b i)=false
 lt:B.b<w.heap.size
 ln:(dQ 141 (N g)).run prog w=.ok (.value (.agg #[Z e.1.1,q e.1.2])) w
 lk:(Instr.lookup 127 (.map (some B.bm)) (.agg #[Z e.1.1,q e.1.2]) false).run prog w=.ok (.bool ((lk m.ba e.1).getD false)) w
 ct:w.cell? (I (g+1) 0)=some (q e.2.1)
 fg:∀i,w.frozen? (I (g+1) i)=false
 lg:g+1<w.heap.size
structure Mo(w:D)(B:ez)(m:bV)(g:Nat)(id l:Int):Prop where
 cr:w.cell? (I B.b 1)=some (.map (some B.rm))
 fr:∀i,w.frozen? (I B.b i)=false
 lt:B.b<w.heap.size
 lk:(Instr.lookup 125 (.map (some B.rm)) (q id) false).run prog w=.ok (Z ((lk m.ra id).getD 0)) w
 cg:w.cell? (I g 1)=some (Z l)
 fg:∀i,w.frozen? (I g i)=false
 lg:g<w.heap.size
structure Hj(w:D)(B:ez)(m:bV)(id:Int)(r:Nat)(left kept:List ((Int×Int)×(Int×Int)))(v:H)(W:D):Prop where
 rg:fP rY W B.tm r left kept
 pm:m.ta.Perm (left++kept)
 v:v=Z (IntKind.i64.wrap (iV m id kept))
 below:S w W
 rl:w.heap.size<=r
def GF{B:ez}{m:bV}(h:eH w B m)(ok:m.ok)(θ:bo id):Calls prog 31 #[N B.b,q id] w λr w'=>r=.returned (.tuple #[Z (gB m id).1,Z (gB m id).2.1,Z (gB m id).2.2])/\S w w':=by
 obtain⟨q0,f0⟩:=h.blk.rules;have c0:w.cell? (I B.b 0)=some (.map (some B.nm)):=q0 0;have hl:(Instr.lookup 124 (.map (some B.nm)) (q id) true).run prog w=.ok (.tuple #[.agg (oK ((lk m.nd id).getD (0,0))),.bool (lk m.nd id).isSome]) w:=h.n.look2 s7 θ;obtain⟨W3,α,B3,D3⟩:=sY (a:=q 0) (b:=Z 0) (zs (q ((lk m.nd id).getD (0,0)).1) (Z ((lk m.nd id).getD (0,0)).2)) O O w;have HS:=U (show gB m id=if(lk m.nd id).isSome then(IntKind.i64.wrap (((lk m.nd id).getD (0,0)).2+(lk m.ra id).getD 0),IntKind.i64.wrap (iV m id m.ta),0)else(0,0,9)from O);generalize gB m id=aeO at HS⊢;have h3:=h.call D3;obtain⟨q3,f3⟩:=h3.blk.rules;have c3:W3.cell? (I B.b 2)=some (.map (some B.tm)):=q3 2;have HM:=U h3.t;have G:=cQ h3 ok B3 D3;unfold oK at hl;clear h h3 ok q0 q3 B3 D3;generalize (lk m.nd id).getD (0,0)=p at hl α HS G;generalize (lk m.nd id).isSome=b at hl HS;cases b with
 |false=>have hS:aeO=(0,0,9):=HS.o;subst hS;clear HS;go_in;go_wp2_with fail;refine eu (v:=.tuple #[Z 0,Z 0,Z 9]) (by simp[results,results31]) O ⟨O,G.o.2.2.2⟩
 |true=>
  have hS:aeO=(IntKind.i64.wrap (p.2+(lk m.ra id).getD 0),IntKind.i64.wrap (iV m id m.ta),0):=HS.o;subst hS;clear HS;go_in;go_wp2_with (first|(at_range;refine sP wG rfl _ rfl rfl HM.o ?_;intro w0 β γ ν));go_frame;have A0:Hj w B m id W3.heap.size m.ta [] (Z 0) w0:=⟨β,ah,by simp[iV,tW],G.o.2.2.2.trans (γ.mono G.o.2.2.2.size),G.o.2.2.2.size⟩;have σ:=U γ;clear β γ ν c0 f0 hl α c3 f3 HM;go_loopg [5] m.ta.length (λg v wr=>∃left c,left.length=g/\Hj w B m id W3.heap.size left c v wr/\S W3 wr);exact⟨m.ta,[],O,A0,σ.o⟩;obtain⟨left,c,hg,A,ε⟩:=hrel;clear A0;have hr:=A.rg;have L:=aB A ε;have HG:=U hg;obtain rfl:=A.v;clear A ε hg;go_wp2_with (first|(at_next;refine sQ rfl _ rfl rfl hr ?_ ?_))
  ·intro μ;obtain rfl:=μ;clear hr;have h4:=G.o.1.call L.o.2;have B4:=G.o.2.2.1.call L.o.2;have HF:=U (λ(F:D) (j:S wr F)=>(show Mo F B m w.heap.size id p.2 from
    ⟨(h4.call j).blk.cell 1,(h4.call j).blk.frozen,(h4.call j).blk.lt,(h4.call j).r.look wH θ,(B4.call j).cell 1,(B4.call j).frozen,(B4.call j).lt⟩))
   clear h4 B4;go_upto_region 11 with fail;refine kW Y Y ?_
   iterate 13
    first
    |refine kX rfl ?_;apply cV
     intro _ ρ T P Q W j;have i:=HF.o W j;simp[execOp,go_sem,T,P,Q,i,i.cr,i.fr,i.lt,i.lk,i.cg,i.fg,i.lg]<;>exact O
    |refine kz (λ_=>rfl) ?_
    simp only[aD]
   refine dg ?_;intro _ W9 ξ;have hD:=L.o.1.below.trans (ξ.mono L.o.1.below.size);have hE:iV m id c=iV m id m.ta:=(MH (az L.o.1.pm)).symm;clear HF;go_wp2_with fail;refine eu (v:=.tuple #[Z (IntKind.i64.wrap (p.2+(lk m.ra id).getD 0)),Z (IntKind.i64.wrap (iV m id c)),Z 0]) (by simp[results,results31]) O ⟨by rw[hE],hD⟩
  intro l s J K d w2 hp X ζ φ;have R:((l,s),(J,K))∈m.ta:=L.o.1.pm.mem_iff.2 (ik _ (hp.mem_iff.2 cz));obtain⟨S1,S2,τ,υ,B2,D2⟩:=L9 (x:=Z l) (y:=q s) (x':=q J) (y':=Z K) O O O O w2;have m2:aa (aR W3.heap.size) wr w2:=aa.of_fr1 ζ O;have κ:=G.o.1.inh;have h2:=((G.o.1.call L.o.2).mod m2 λι i e=>by have e:ι=W3.heap.size:=e;have:=κ ι i;omega).call D2;have b2:S W3 S2:=(L.o.2.trans (m2.belowC L.o.2.size λk hk e=>by have e:k=W3.heap.size:=e;omega)).trans (D2.mono (aZ L.o.2.size m2.size));have HF:=U (λ(F:D) (hn:aa bC S2 F)=>have j:=hn.no;(show Mn F B m w2.heap.size ((l,s),(J,K))from
   ⟨(h2.call j).blk.cell 3,(h2.call j).blk.frozen,(h2.call j).blk.lt,f8 (B2.call j).drop.head underlying141 O (rC _ _),(h2.call j).b.look EO (G.o.1.t.ok _ R),(B2.call j).head.cell 0,(B2.call j).head.frozen,(B2.call j).head.lt⟩))
  have CA:=U (λ(F:D) (j:S S2 F)=>SD (h2.call j) G.o.2.1 (G.o.2.1.tn _ R) (of:=id));have C:=iA (X.call D2) (L.o.1.pm.trans ((sE _ hp).trans List.perm_middle.symm)) (G.o.2.2.2.trans (b2.mono G.o.2.2.2.size)) L.o.1.rl b2;have HL:=U (show d.length+1=left.length by have:=hp.length_eq;simpa using this.symm);have π:=U B2;have HU:=U (show iV m id (((l,s),(J,K))::c)=(if(lk m.ba (l,s)).getD false=false/\qB m.nd J id=true then K else 0)+iV m id c from O);clear hr X ζ R hp h2 b2 m2 κ D2 B2;obtain⟨bv,δ⟩:=aM ((lk m.ba (l,s)).getD false);obtain⟨bw,η⟩:=aM (qB m.nd J id);rw[δ,η]at HU;rw[η]at CA;go_upto_region 9 with fail;cases bv with
  |true=>
   refine dL [] bC 14 (λ_ h=>h.elim) Y Y ?_
   iterate 14 refine JY HF.o δ ?_
   refine cT Y ?_;rintro _ W5 hC-;have u:S S2 W5:=hC;have HV:=U (show IntKind.i64.wrap (iV m id c)=IntKind.i64.wrap (iV m id (((l,s),(J,K))::c))from by rw[HU.o,al ah,Int.zero_add]);clear HF CA hC
   try dsimp only
   go_wp2;go_roundg d.length;exact⟨d,((l,s),(J,K))::c,O,⟨C.o.1.call u,C.o.2.1,bH (Value.int .i64) HV.o,C.o.2.2.1.trans (u.mono C.o.2.2.1.size),C.o.2.2.2.1⟩,C.o.2.2.2.2.trans (u.mono C.o.2.2.2.2.size)⟩;have:=HL.o;have:=HG.o;omega
  |false=>
   refine dL [] bC 14 (λ_ h=>h.elim) Y Y ?_
   iterate 12 refine JY HF.o δ ?_
   refine j8 (λ_=>rfl) (eJ Y) 50 (λ_=>#[N B.b,q J,q id]) (.bool bw) cK (λ_ F j=>CA.o F j.no) ?_;simp only[aD];refine gx HF.o ?_;refine cT Y ?_;rintro _ W5 hC-;have u:S S2 W5:=hC;have c5:W5.cell? (I (w2.heap.size+1) 1)=some (Z K):=(π.o.call u).head.cell 1;clear HF CA hC
   try dsimp only
   cases bw with
   |false=>have HV:=U (show IntKind.i64.wrap (iV m id c)=IntKind.i64.wrap (iV m id (((l,s),(J,K))::c))from by rw[HU.o,al ah,Int.zero_add]);go_wp2;go_roundg d.length;exact⟨d,((l,s),(J,K))::c,O,⟨C.o.1.call u,C.o.2.1,bH (Value.int .i64) HV.o,C.o.2.2.1.trans (u.mono C.o.2.2.1.size),C.o.2.2.2.1⟩,C.o.2.2.2.2.trans (u.mono C.o.2.2.2.2.size)⟩;have:=HL.o;have:=HG.o;omega
   |true=>have HV:=U (show IntKind.i64.wrap (IntKind.i64.wrap (iV m id c)+K)=IntKind.i64.wrap (iV m id (((l,s),(J,K))::c))from by rw[HU.o,av ⟨rfl,rfl⟩,Nf,Int.add_comm]);go_wp2;go_roundg d.length;exact⟨d,((l,s),(J,K))::c,O,⟨C.o.1.call u,C.o.2.1,bH (Value.int .i64) (by have:=HV.o;simp only[tW]at this⊢;simpa[wrap64]using this),C.o.2.2.1.trans (u.mono C.o.2.2.1.size),C.o.2.2.2.1⟩,C.o.2.2.2.2.trans (u.mono C.o.2.2.2.2.size)⟩;have:=HL.o;have:=HG.o;omega
def ny(w:D)(B:ez)(m':bV)(r:Ending)(w':D):Prop:=r=.returned (.tuple #[])/\eH w' B m'/\aa B.F w w'
def eH.putN{B:ez}{m:bV}{L:List (Int×(Int×Int))}(h:eH w B m)(g:bA tJ w' B.nm L)(f:aH w w' B.nm none):eH w' B {m with nd:=L}/\aa B.F w w':=by have k:aa (aR B.nm) w w':=aa.of_fr1 f O;exact⟨⟨k.blk h.blk λe=>h.n.ne_blk h.blk (o6 e),g,k.gmap h.r λe=>h.nr (o6 e),k.gmap h.t λe=>h.nt (o6 e),k.gmap h.b λe=>h.nb (o6 e),h.nr,h.nt,h.nb,h.rt,h.rb,h.tb⟩,k.mono λc e=>.inr (.inl e)⟩
def eH.putR{B:ez}{m:bV}{L:List (Int×Int)}(h:eH w B m)(g:bA xQ w' B.rm L)(f:aH w w' B.rm none):eH w' B {m with ra:=L}/\aa B.F w w':=by have k:aa (aR B.rm) w w':=aa.of_fr1 f O;exact⟨⟨k.blk h.blk λe=>h.r.ne_blk h.blk (o6 e),k.gmap h.n λe=>h.nr e,g,k.gmap h.t λe=>h.rt (o6 e),k.gmap h.b λe=>h.rb (o6 e),h.nr,h.nt,h.nb,h.rt,h.rb,h.tb⟩,k.mono λc e=>.inr (.inr (.inl e))⟩
def eH.putT{B:ez}{m:bV}{L:List ((Int×Int)×(Int×Int))}(h:eH w B m)(g:bA rY w' B.tm L)(f:aH w w' B.tm none):eH w' B {m with ta:=L}/\aa B.F w w':=by have k:aa (aR B.tm) w w':=aa.of_fr1 f O;exact⟨⟨k.blk h.blk λe=>h.t.ne_blk h.blk (o6 e),k.gmap h.n λe=>h.nt e,k.gmap h.r λe=>h.rt e,g,k.gmap h.b λe=>h.tb (o6 e),h.nr,h.nt,h.nb,h.rt,h.rb,h.tb⟩,k.mono λc e=>.inr (.inr (.inr (.inl e)))⟩
def eH.putB{B:ez}{m:bV}{L:List ((Int×Int)×Bool)}(h:eH w B m)(g:bA xR w' B.bm L)(f:aH w w' B.bm none):eH w' B {m with ba:=L}/\aa B.F w w':=by have k:aa (aR B.bm) w w':=aa.of_fr1 f O;exact⟨⟨k.blk h.blk λe=>h.b.ne_blk h.blk (o6 e),k.gmap h.n λe=>h.nb e,k.gmap h.r λe=>h.rb e,k.gmap h.t λe=>h.tb e,g,h.nr,h.nt,h.nb,h.rt,h.rb,h.tb⟩,k.mono λc e=>.inr (.inr (.inr (.inr e)))⟩
structure oR(w:D)(B:ez)(g:Nat)(n t a r f:Int)(E:z)(e:Int):Prop where
 c0:w.cell? (I B.b 0)=some (.map (some B.nm))
 c1:w.cell? (I B.b 1)=some (.map (some B.rm))
 c2:w.cell? (I B.b 2)=some (.map (some B.tm))
 c3:w.cell? (I B.b 3)=some (.map (some B.bm))
 fr:∀i,w.frozen? (I B.b i)=false
 lt:B.b<w.heap.size
 k1:w.cell? (I g 1)=some (q n)
 k3:w.cell? (I g 3)=some (Z a)
 k4:w.cell? (I g 4)=some (q r)
 k5:w.cell? (I g 5)=some (q f)
 fk:∀i,w.frozen? (I g i)=false
 lk:g<w.heap.size
 e0:w.cell? (I (g+1) 0)=some (Z E.o)
 e1:w.cell? (I (g+1) 1)=some (q E.s)
 e14:w.cell? (I (g+1) 14)=some (Z e)
 fe:∀i,w.frozen? (I (g+1) i)=false
 le:g+1<w.heap.size
def oR.of{w W:D}{B:ez}{m:bV}{k:Int}{g:Nat}(h:eH W B m)(b:ax W [(g+1,66,bF E e),(g,55,bE ⟨k,n,t,a,r,f⟩)]):oR W B g n t a r f E e:=
 ⟨h.blk.cell 0,h.blk.cell 1,h.blk.cell 2,h.blk.cell 3,h.blk.frozen,h.blk.lt,b.drop.head.cell 1,b.drop.head.cell 3,b.drop.head.cell 4,b.drop.head.cell 5,b.drop.head.frozen,b.drop.head.lt,b.head.cell 0,b.head.cell 1,b.head.cell 14,b.head.frozen,b.head.lt⟩
def QO{B:ez}{m:bV}(h:eH w B m)(Q:fM who f):
  Calls prog 30 #[N B.b,Z who,.agg (bE ⟨4,n,t,a,r,f⟩),.agg (bF E 0)] w (ny w B {m with ba:=putL m.ba (who,f) true}):=by
 obtain⟨k,j,x,y⟩:=oC w 55 (bE ⟨4,n,t,a,r,f⟩) 66 (bF E 0);have u:=h.call y;have k0:k.cell? (I w.heap.size 0)=some (.int .u8 4):=x.drop.head.cell 0;have d:=U (λ(C:D) (l:S k C)=>oR.of (w:=w) (u.call l) (x.call l));obtain⟨c0,c1,c2,c3,fr,lt,k1,k3,k4,k5,fk,P,e0,e1,L,fe,le⟩:=d.o k (aq _ _);have G:=U j;have A:=aB u y;clear h x y u j;go_in;go_upto_region 1 with fail;refine dI G.o ?_;clear G;go_upto_region 19 with fail;refine eS 8 Y ah aS aS aS aS ?_;simp only[cR]
 iterate 8 refine zN d.o ?_
 refine dg ?_;intro _ T g _;obtain⟨R,cH,i,F⟩:=(A.o.1.call g).b.put EO (a:=(who,f)) Q true;have cH:(Instr.mapUpdate 127 (.map (some B.bm)) (.agg #[Z who,q f]) (.bool true)).run prog T=.ok () R:=cH;obtain⟨J,K⟩:=(A.o.1.call g).putB i F;have X:=aB J (((aa.of_below A.o.2).trans (aa.of_below g)).trans K);clear i F J K d;go_wp2;go_end0;exact⟨O,X.o⟩
def QN{B:ez}{m:bV}(h:eH w B m)(Q:fM who f):
  Calls prog 30 #[N B.b,Z who,.agg (bE ⟨4,n,t,a,r,f⟩),.agg (bF E 8)] w (ny w B {m with ba:=putL m.ba (who,f) true}):=by
 obtain⟨k,j,x,y⟩:=oC w 55 (bE ⟨4,n,t,a,r,f⟩) 66 (bF E 8);have u:=h.call y;have k0:k.cell? (I w.heap.size 0)=some (.int .u8 4):=x.drop.head.cell 0;have d:=U (λ(C:D) (l:S k C)=>oR.of (w:=w) (u.call l) (x.call l));obtain⟨c0,c1,c2,c3,fr,lt,k1,k3,k4,k5,fk,P,e0,e1,L,fe,le⟩:=d.o k (aq _ _);have G:=U j;have A:=aB u y;clear h x y u j;go_in;go_upto_region 1 with fail;refine dI G.o ?_;clear G;go_upto_region 19 with fail;refine eS 8 Y ah aS aS aS aS ?_;simp only[cR]
 iterate 8 refine zN d.o ?_
 refine dg ?_;intro _ T g _;obtain⟨R,cH,i,F⟩:=(A.o.1.call g).b.put EO (a:=(who,f)) Q true;have cH:(Instr.mapUpdate 127 (.map (some B.bm)) (.agg #[Z who,q f]) (.bool true)).run prog T=.ok () R:=cH;obtain⟨J,K⟩:=(A.o.1.call g).putB i F;have X:=aB J (((aa.of_below A.o.2).trans (aa.of_below g)).trans K);clear i F J K d;go_wp2;go_end0;exact⟨O,X.o⟩
def QS{B:ez}{m:bV}(h:eH w B m)(L:bo n):
  Calls prog 30 #[N B.b,Z who,.agg (bE ⟨2,n,t,a,r,f⟩),.agg (bF E 0)] w (ny w B {m with ra:=putL m.ra n (IntKind.i64.wrap ((lk m.ra n).getD 0+dB a))}):=by
 obtain⟨l,u,F,G⟩:=oC w 55 (bE ⟨2,n,t,a,r,f⟩) 66 (bF E 0);have A:=h.call G;have k0:l.cell? (I w.heap.size 0)=some (.int .u8 2):=F.drop.head.cell 0;have i:=U (λ(d:D) (g:S l d)=>oR.of (w:=w) (A.call g) (F.call g));obtain⟨c0,c1,c2,c3,fr,lt,k1,k3,k4,k5,fk,T,e0,e1,R,fe,le⟩:=i.o l (aq _ _);have K:=U u;have v:=aB A G;clear h F G A u;go_in;go_upto_region 1 with fail;refine dI K.o ?_;clear K;have k:=U (λ(d:D) (g:S l d)=>ar (i.o d g) (show(Instr.lookup 125 (.map (some B.rm)) (q n) false).run prog d=.ok (Z ((lk m.ra n).getD 0)) d from(v.o.1.call g).r.look wH L));go_upto_region 9 with fail;refine eS 11 Y ah aS aS aS aS ?_;simp only[cR]
 iterate 9 refine JZ k.o ?_
 refine oh (λ_=>rfl) 49 #[Z a] _ cK (λw g=>(wq a w).mono λr w' s=>⟨s.1,by rw[<-s.2];exact aq _ _⟩) ?_;simp only[aD];refine fX k.o ?_;refine dg ?_;intro _ W2 j _;obtain⟨X,cH,p,J⟩:=(v.o.1.call j).r.put wH (a:=n) L (IntKind.i64.wrap ((lk m.ra n).getD 0+dB a));have cH:(Instr.mapUpdate 125 (.map (some B.rm)) (q n) (Z (IntKind.i64.wrap ((lk m.ra n).getD 0+dB a)))).run prog W2=.ok () X:=cH;obtain⟨P,Q⟩:=(v.o.1.call j).putR p J;have HX:=aB P (((aa.of_below v.o.2).trans (aa.of_below j)).trans Q);clear p J P Q i k;go_wp2;go_end0;exact⟨O,HX.o⟩
def QR{B:ez}{m:bV}(h:eH w B m)(L:bo n):
  Calls prog 30 #[N B.b,Z who,.agg (bE ⟨2,n,t,a,r,f⟩),.agg (bF E 8)] w (ny w B {m with ra:=putL m.ra n (IntKind.i64.wrap ((lk m.ra n).getD 0+dB a))}):=by
 obtain⟨l,u,F,G⟩:=oC w 55 (bE ⟨2,n,t,a,r,f⟩) 66 (bF E 8);have A:=h.call G;have k0:l.cell? (I w.heap.size 0)=some (.int .u8 2):=F.drop.head.cell 0;have i:=U (λ(d:D) (g:S l d)=>oR.of (w:=w) (A.call g) (F.call g));obtain⟨c0,c1,c2,c3,fr,lt,k1,k3,k4,k5,fk,T,e0,e1,R,fe,le⟩:=i.o l (aq _ _);have K:=U u;have v:=aB A G;clear h F G A u;go_in;go_upto_region 1 with fail;refine dI K.o ?_;clear K;have k:=U (λ(d:D) (g:S l d)=>ar (i.o d g) (show(Instr.lookup 125 (.map (some B.rm)) (q n) false).run prog d=.ok (Z ((lk m.ra n).getD 0)) d from(v.o.1.call g).r.look wH L));go_upto_region 9 with fail;refine eS 11 Y ah aS aS aS aS ?_;simp only[cR]
 iterate 9 refine JZ k.o ?_
 refine oh (λ_=>rfl) 49 #[Z a] _ cK (λw g=>(wq a w).mono λr w' s=>⟨s.1,by rw[<-s.2];exact aq _ _⟩) ?_;simp only[aD];refine fX k.o ?_;refine dg ?_;intro _ W2 j _;obtain⟨X,cH,p,J⟩:=(v.o.1.call j).r.put wH (a:=n) L (IntKind.i64.wrap ((lk m.ra n).getD 0+dB a));have cH:(Instr.mapUpdate 125 (.map (some B.rm)) (q n) (Z (IntKind.i64.wrap ((lk m.ra n).getD 0+dB a)))).run prog W2=.ok () X:=cH;obtain⟨P,Q⟩:=(v.o.1.call j).putR p J;have HX:=aB P (((aa.of_below v.o.2).trans (aa.of_below j)).trans Q);clear p J P Q i k;go_wp2;go_end0;exact⟨O,HX.o⟩
theorem Qv{B:ez}{m:bV}(h:eH w B m){m':bV}(hm:(if bg E.o E.s≠0/\(lk m.nd (bg E.o E.s)).isSome=false then{m with nd:=putL m.nd (bg E.o E.s) (n,dB a)}else m)=m')(hs:bo E.s)(hi:bo (bg E.o E.s)):
  Calls prog 30 #[N B.b,Z who,.agg (bE ⟨1,n,t,a,r,f⟩),.agg (bF E 0)] w (ny w B m'):=by
 obtain⟨i,A,B0,D0⟩:=oC w 55 (bE ⟨1,n,t,a,r,f⟩) 66 (bF E 0);have R:=h.call D0;have k0:i.cell? (I w.heap.size 0)=some (.int .u8 1):=B0.drop.head.cell 0;have k:=U (λ(g:D) (j:S i g)=>oR.of (w:=w) (R.call j) (B0.call j));obtain⟨c0,c1,c2,c3,fr,lt,k1,k3,k4,k5,fk,β,e0,e1,α,fe,le⟩:=k.o i (aq _ _);have HW:=U A;have l:=aB R D0;have d:=U hm;clear h B0 D0 R A hm;go_in;go_upto_region 1 with fail;refine dI HW.o ?_;clear HW;have K:=U (λW=>BS E.o E.s hs W);have J:(Instr.lookup 124 (.map (some B.nm)) (q (bg E.o E.s)) true).run prog i=.ok (.tuple #[.agg (oK ((lk m.nd (bg E.o E.s)).getD (0,0))),.bool (lk m.nd (bg E.o E.s)).isSome]) i:=l.o.1.n.look2 s7 hi;obtain⟨W3,F,B3,G⟩:=sY (a:=q 0) (b:=Z 0) (zs (q ((lk m.nd (bg E.o E.s)).getD (0,0)).1) (Z ((lk m.nd (bg E.o E.s)).getD (0,0)).2)) O O i;have v:=U G;have u:=U (λ(g:D) (j:S W3 g)=>k.o g (G.trans (j.mono G.size)));unfold oK at J;generalize (lk m.nd (bg E.o E.s)).getD (0,0)=p at J F;generalize (lk m.nd (bg E.o E.s)).isSome=b at J d;have HI:=U hi;generalize bg E.o E.s=id at K J HI d;clear B3 G hi;by_cases X:id=0
 ·subst X;obtain rfl:m=m':=by rw[<-d.o,al ah]
  clear d;go_wp2_with (go_at_call 48;apply(K.o _).mono;rintro r w2 ⟨rfl,rfl⟩);go_end0;exact⟨O,l.o.1.call v.o,(aa.of_below l.o.2).trans (aa.of_below v.o)⟩
 have γ:(id==0)=false:=az X;cases b with
 |true=>
  obtain rfl:m=m':=by rw[<-d.o,al ah]
  clear d;go_wp2_with (go_at_call 48;apply(K.o _).mono;rintro r w2 ⟨rfl,rfl⟩);go_end0;exact⟨O,l.o.1.call v.o,(aa.of_below l.o.2).trans (aa.of_below v.o)⟩
 |false=>
  obtain rfl:{m with nd:=putL m.nd id (n,dB a)}=m':=by rw[<-d.o,av ⟨X,rfl⟩]
  clear d;go_upto_region 7 with(go_at_call 48;apply(K.o _).mono;rintro r w2 ⟨rfl,rfl⟩);refine eS 11 Y ah aS aS aS aS ?_;simp only[cR]
  iterate 9 refine zN u.o ?_
  refine oh (λ_=>rfl) 49 #[Z a] _ cK (λw j=>(wq a w).mono λr w' y=>⟨y.1,by rw[<-y.2];exact aq _ _⟩) ?_;simp only[aD];refine fX u.o ?_;refine dg ?_;intro _ W2 C _;have Q:=(l.o.1.call v.o).call C;obtain⟨W4,cH,x,hf⟩:=Q.n.put s7 (a:=id) HI.o (n,dB a);have cH:(Instr.mapUpdate 124 (.map (some B.nm)) (q id) (.agg #[q n,Z (dB a)])).run prog W2=.ok () W4:=cH;obtain⟨a1,a2⟩:=Q.putN x hf;have HX:=aB a1 ((((aa.of_below l.o.2).trans (aa.of_below v.o)).trans (aa.of_below C)).trans a2);clear x hf a1 a2 Q k u;go_wp2;go_end0;exact⟨O,HX.o⟩
theorem Qu{B:ez}{m:bV}(h:eH w B m){m':bV}(hm:(if bg E.o E.s≠0/\(lk m.nd (bg E.o E.s)).isSome=false then{m with nd:=putL m.nd (bg E.o E.s) (n,dB a)}else m)=m')(hs:bo E.s)(hi:bo (bg E.o E.s)):
  Calls prog 30 #[N B.b,Z who,.agg (bE ⟨1,n,t,a,r,f⟩),.agg (bF E 8)] w (ny w B m'):=by
 obtain⟨i,A,B0,D0⟩:=oC w 55 (bE ⟨1,n,t,a,r,f⟩) 66 (bF E 8);have R:=h.call D0;have k0:i.cell? (I w.heap.size 0)=some (.int .u8 1):=B0.drop.head.cell 0;have k:=U (λ(g:D) (j:S i g)=>oR.of (w:=w) (R.call j) (B0.call j));obtain⟨c0,c1,c2,c3,fr,lt,k1,k3,k4,k5,fk,β,e0,e1,α,fe,le⟩:=k.o i (aq _ _);have HW:=U A;have l:=aB R D0;have d:=U hm;clear h B0 D0 R A hm;go_in;go_upto_region 1 with fail;refine dI HW.o ?_;clear HW;have K:=U (λW=>BS E.o E.s hs W);have J:(Instr.lookup 124 (.map (some B.nm)) (q (bg E.o E.s)) true).run prog i=.ok (.tuple #[.agg (oK ((lk m.nd (bg E.o E.s)).getD (0,0))),.bool (lk m.nd (bg E.o E.s)).isSome]) i:=l.o.1.n.look2 s7 hi;obtain⟨W3,F,B3,G⟩:=sY (a:=q 0) (b:=Z 0) (zs (q ((lk m.nd (bg E.o E.s)).getD (0,0)).1) (Z ((lk m.nd (bg E.o E.s)).getD (0,0)).2)) O O i;have v:=U G;have u:=U (λ(g:D) (j:S W3 g)=>k.o g (G.trans (j.mono G.size)));unfold oK at J;generalize (lk m.nd (bg E.o E.s)).getD (0,0)=p at J F;generalize (lk m.nd (bg E.o E.s)).isSome=b at J d;have HI:=U hi;generalize bg E.o E.s=id at K J HI d;clear B3 G hi;by_cases X:id=0
 ·subst X;obtain rfl:m=m':=by rw[<-d.o,al ah]
  clear d;go_wp2_with (go_at_call 48;apply(K.o _).mono;rintro r w2 ⟨rfl,rfl⟩);go_end0;exact⟨O,l.o.1.call v.o,(aa.of_below l.o.2).trans (aa.of_below v.o)⟩
 have γ:(id==0)=false:=az X;cases b with
 |true=>
  obtain rfl:m=m':=by rw[<-d.o,al ah]
  clear d;go_wp2_with (go_at_call 48;apply(K.o _).mono;rintro r w2 ⟨rfl,rfl⟩);go_end0;exact⟨O,l.o.1.call v.o,(aa.of_below l.o.2).trans (aa.of_below v.o)⟩
 |false=>
  obtain rfl:{m with nd:=putL m.nd id (n,dB a)}=m':=by rw[<-d.o,av ⟨X,rfl⟩]
  clear d;go_upto_region 7 with(go_at_call 48;apply(K.o _).mono;rintro r w2 ⟨rfl,rfl⟩);refine eS 11 Y ah aS aS aS aS ?_;simp only[cR]
  iterate 9 refine zN u.o ?_
  refine oh (λ_=>rfl) 49 #[Z a] _ cK (λw j=>(wq a w).mono λr w' y=>⟨y.1,by rw[<-y.2];exact aq _ _⟩) ?_;simp only[aD];refine fX u.o ?_;refine dg ?_;intro _ W2 C _;have Q:=(l.o.1.call v.o).call C;obtain⟨W4,cH,x,hf⟩:=Q.n.put s7 (a:=id) HI.o (n,dB a);have cH:(Instr.mapUpdate 124 (.map (some B.nm)) (q id) (.agg #[q n,Z (dB a)])).run prog W2=.ok () W4:=cH;obtain⟨a1,a2⟩:=Q.putN x hf;have HX:=aB a1 ((((aa.of_below l.o.2).trans (aa.of_below v.o)).trans (aa.of_below C)).trans a2);clear x hf a1 a2 Q k u;go_wp2;go_end0;exact⟨O,HX.o⟩
def QQ{B:ez}{m:bV}(h:eH w B m){m':bV}(hm:(if(lk m.ta (who,r)).isSome=true\/False then m else{m with ta:=putL m.ta (who,r) (n,if a=dB a then a else 0)})=m')(hk:fM who r):
  Calls prog 30 #[N B.b,Z who,.agg (bE ⟨3,n,t,a,r,f⟩),.agg (bF E 0)] w (ny w B m'):=by
 obtain⟨R,δ,B0,D0⟩:=oC w 55 (bE ⟨3,n,t,a,r,f⟩) 66 (bF E 0);have h0:=h.call D0;have k0:R.cell? (I w.heap.size 0)=some (.int .u8 3):=B0.drop.head.cell 0;have A:=U (λ(c:D) (i:S R c)=>oR.of (w:=w) (h0.call i) (B0.call i));obtain⟨c0,c1,c2,c3,fr,lt,k1,k3,k4,k5,fk,Q,e0,e1,T,fe,le⟩:=A.o R (aq _ _);have HW:=U δ;have HH:=aB h0 D0;have x:=U hm;clear h B0 D0 h0 δ hm;go_in;go_upto_region 1 with fail;refine dI HW.o ?_;clear HW;obtain⟨W1,ι,B1,D1⟩:=sY (a:=Z 0) (b:=q 0) (rC (Z who) (q r)) O O R;have u:=U (λ(c:D) (hn:aa bC W1 c)=>ar (A.o c (D1.trans (hn.no.mono D1.size))) (ar (show(Instr.lookup 126 (.map (some B.tm)) (.agg #[Z who,q r]) true).run prog c=.ok (.tuple #[.agg #[q ((lk m.ta (who,r)).getD (0,0)).1,Z ((lk m.ta (who,r)).getD (0,0)).2],.bool (lk m.ta (who,r)).isSome]) c from((HH.o.1.call D1).call hn.no).t.look2 wG (a:=(who,r)) hk) (f8 (B1.call hn.no) underlying141 O (rC (Z who) (q r)))));have s:=aB B1 D1;generalize (lk m.ta (who,r)).getD (0,0)=p at u;generalize (lk m.ta (who,r)).isSome=b at u x;clear B1 D1;go_upto_region 12 with fail;refine dL [143] bC 12 (λ_ h=>h.elim) Y Y ?_
 iterate 9 refine J1 u.o ?_
 refine ng (λ_=>rfl) 143 #[q 0,Z 0] nK ?_;simp only[aD];refine o8 (λ_=>rfl) 9 143 143 2 _ _ O ai O ah (λ_ h=>h.elim) _ (λ_=>#[q p.1,Z p.2]) _ (λ_=>rfl) (λ_=>rfl) cD (uw (q 0) (Z 0)) (λ_=>rfl) (λ_=>by simp[Value.oneCell']) ?_;simp only[aD];refine gx u.o ?_;refine cT Y ?_;rintro⟨_,v⟩ l hC-;have y:S W1 l:=hC
 try dsimp only
 have β:=U y;obtain⟨c0,c1,c2,c3,fr,lt,k1,k3,k4,k5,fk,Q,e0,e1,T,fe,le⟩:=A.o l (s.o.2.trans (y.mono s.o.2.size));have h2:=aB ((HH.o.1.call s.o.2).call y) ((aa.of_below HH.o.2:aa B.F w R).trans ((aa.of_below s.o.2).trans (aa.of_below y)));clear hC y u;cases b with
 |true=>
  obtain rfl:m=m':=by rw[<-x.o,av ah]
  clear x;go_wp2;go_end0;exact⟨O,h2.o⟩
 |false=>
  obtain⟨v9,hv⟩:=aM ((if a=dB a then a else 0));obtain rfl:{m with ta:=putL m.ta (who,r) (n,v9)}=m':=by have h:=x.o;rw[al (show ¬(false=true\/False)by simp),hv]at h;exact h
  clear x;have X:=U (λW=>wq a W);generalize dB a=wl at X hv;have HV:=U hv;clear hv;obtain⟨W3,θ,B3,D3⟩:=sY (a:=q 0) (b:=Z 0) (uw (q n) (Z a)) O O l;have G:=aB B3 D3;have J:=U (λ(c:D) (i:S W3 c)=>ar (show c.cell? (I l.heap.size 1)=some (Z a)from(B3.call i).cell 1) (ar (B3.call i).frozen (B3.call i).lt));clear B3 D3;go_upto_region 15 with fail;refine kW Y Y ?_
  iterate 4 refine fX J.o ?_
  refine oh (λ_=>rfl) 49 #[Z a] _ cK (λw i=>(X.o w).mono λr w' k=>⟨k.1,by rw[<-k.2];exact aq _ _⟩) ?_;simp only[aD];refine fX J.o ?_;refine dg ?_;intro _ W4 K;have h4:=(h2.o.1.call G.o.2).call K;have γ:=U ((h2.o.2.trans (aa.of_below G.o.2)).trans (aa.of_below K));have B4:=G.o.1.call K;have N4:=(s.o.1.call β.o).call G.o.2|>.call K;clear X;by_cases hw:a=wl
  ·subst hw;obtain rfl:a=v9:=by rw[<-HV.o,av rfl]
   clear HV;have C:=U (λ(c:D) (i:S W4 c)=>ar (show c.cell? (I B.b 2)=some (.map (some B.tm))from(h4.call i).blk.cell 2) (ar (h4.call i).blk.frozen (ar (h4.call i).blk.lt (ar (f8 (N4.call i) underlying141 O (rC (Z who) (q r))) (f8 (B4.call i) underlying143 O (uw (q n) (Z a)))))));have H4:=U h4;clear h4 B4 N4 J;go_upto_region 17 with fail;refine eS 6 Y ah aS aS aS aS ?_;simp only[cR]
   iterate 6 refine fX C.o ?_
   refine dg ?_;intro _ W6 j _;obtain⟨W7,g,P,hf⟩:=(H4.o.call j).t.put wG (a:=(who,r)) hk (n,a);have cH:(Instr.mapUpdate 126 (.map (some B.tm)) (.agg #[Z who,q r]) (.agg #[q n,Z a])).run prog W6=.ok () W7:=g;clear g;obtain⟨a1,a2⟩:=(H4.o.call j).putT P hf;have HX:=aB a1 ((γ.o.trans (aa.of_below j)).trans a2);clear P hf a1 a2 A C c0 c1 c2 c3 fr lt k1 k3 k4 k5 fk Q e0 e1 T fe le;go_wp2;go_end0;exact⟨O,HX.o⟩
  have κ:(a==wl)=false:=az hw;obtain rfl:0=v9:=by rw[<-HV.o,al hw]
  clear HV;have c5:W4.cell? (I l.heap.size 1)=some (Z a):=B4.cell 1;have f5:=B4.frozen;have m5:aa (aR l.heap.size) W4 (W4.setCell (I l.heap.size 1) (Z 0)):=aa.set (I l.heap.size 1) (show aR l.heap.size l.heap.size from O) _;have B5:=B4.set_ 1 (Z 0);have N5:=m5.blk N4 λe=>by have e:R.heap.size=l.heap.size:=e;have:=β.o.size;have:=s.o.1.lt;omega
  have h5:=h4.mod m5 λk d e=>by have e:k=l.heap.size:=e;have:=h2.o.1.inh k d;omega
  have α:=U (γ.o.trans' m5 λk d e=>by have e:k=l.heap.size:=e;have:=h2.o.2.size;omega);have L:=aP h5 B5 N5;clear h4 B4 N4 J m5 B5 N5 h5;go_upto_region 17 with fail;generalize World.setCell W4 _ _=W5 at L α⊢;have C:=U (λ(c:D) (i:S W5 c)=>ar (show c.cell? (I B.b 2)=some (.map (some B.tm))from(L.o.1.call i).blk.cell 2) (ar (L.o.1.call i).blk.frozen (ar (L.o.1.call i).blk.lt (ar (f8 (L.o.2.2.call i) underlying141 O (rC (Z who) (q r))) (show(dQ 143 (N l.heap.size)).run prog c=.ok (.value (.agg #[q n,Z 0])) c from f8 (cs:=#[q n,Z 0]) (L.o.2.1.call i) underlying143 O (uw (q n) (Z 0)))))));refine eS 6 Y ah aS aS aS aS ?_;simp only[cR]
  iterate 6 refine fX C.o ?_
  refine dg ?_;intro _ W6 j _;obtain⟨W7,g,P,hf⟩:=(L.o.1.call j).t.put wG (a:=(who,r)) hk (n,0);have cH:(Instr.mapUpdate 126 (.map (some B.tm)) (.agg #[Z who,q r]) (.agg #[q n,Z 0])).run prog W6=.ok () W7:=g;clear g;obtain⟨a1,a2⟩:=(L.o.1.call j).putT P hf;have HX:=aB a1 ((α.o.trans (aa.of_below j)).trans a2);clear P hf a1 a2 A C c0 c1 c2 c3 fr lt k1 k3 k4 k5 fk Q e0 e1 T fe le;go_wp2;go_end0;exact⟨O,HX.o⟩
def QP{B:ez}{m:bV}(h:eH w B m){m':bV}(hm:(if(lk m.ta (who,r)).isSome=true\/True then m else{m with ta:=putL m.ta (who,r) (n,if a=dB a then a else 0)})=m')(hk:fM who r):
  Calls prog 30 #[N B.b,Z who,.agg (bE ⟨3,n,t,a,r,f⟩),.agg (bF E 8)] w (ny w B m'):=by
 obtain⟨s,x,P,R⟩:=oC w 55 (bE ⟨3,n,t,a,r,f⟩) 66 (bF E 8);have J:=h.call R;have k0:s.cell? (I w.heap.size 0)=some (.int .u8 3):=P.drop.head.cell 0;have k:=U (λ(d:D) (y:S s d)=>oR.of (w:=w) (J.call y) (P.call y));obtain⟨c0,c1,c2,c3,fr,lt,k1,k3,k4,k5,fk,K,e0,e1,G,fe,le⟩:=k.o s (aq _ _);have HW:=U x;have X:=aB J R;have l:=U hm;clear h P R J x hm;go_in;go_upto_region 1 with fail;refine dI HW.o ?_;clear HW;obtain⟨W1,α,Q,u⟩:=sY (a:=Z 0) (b:=q 0) (rC (Z who) (q r)) O O s;have g:=U (λ(d:D) (T:aa bC W1 d)=>ar (k.o d (u.trans (T.no.mono u.size))) (ar (show(Instr.lookup 126 (.map (some B.tm)) (.agg #[Z who,q r]) true).run prog d=.ok (.tuple #[.agg #[q ((lk m.ta (who,r)).getD (0,0)).1,Z ((lk m.ta (who,r)).getD (0,0)).2],.bool (lk m.ta (who,r)).isSome]) d from((X.o.1.call u).call T.no).t.look2 wG (a:=(who,r)) hk) (f8 (Q.call T.no) underlying141 O (rC (Z who) (q r)))));have i:=aB Q u;generalize (lk m.ta (who,r)).getD (0,0)=p at g;generalize (lk m.ta (who,r)).isSome=b at g l;clear Q u;go_upto_region 12 with fail;refine dL [143] bC 12 (λ_ h=>h.elim) Y Y ?_
 iterate 9 refine J1 g.o ?_
 refine ng (λ_=>rfl) 143 #[q 0,Z 0] nK ?_;simp only[aD];refine o8 (λ_=>rfl) 9 143 143 2 _ _ O ai O ah (λ_ h=>h.elim) _ (λ_=>#[q p.1,Z p.2]) _ (λ_=>rfl) (λ_=>rfl) cD (uw (q 0) (Z 0)) (λ_=>rfl) (λ_=>by simp[Value.oneCell']) ?_;simp only[aD];refine gx g.o ?_;refine cT Y ?_;rintro⟨_,v⟩ W2 hC-;have j:S W1 W2:=hC
 try dsimp only
 obtain⟨c0,c1,c2,c3,fr,lt,k1,k3,k4,k5,fk,K,e0,e1,G,fe,le⟩:=k.o W2 (i.o.2.trans (j.mono i.o.2.size));have h2:=aB ((X.o.1.call i.o.2).call j) ((aa.of_below X.o.2:aa B.F w s).trans ((aa.of_below i.o.2).trans (aa.of_below j)));clear hC j g;obtain rfl:m=m':=by rw[<-l.o,av ah]
 clear l;cases b<;>(go_wp2;go_end0;exact⟨O,h2.o⟩)
def GG{B:ez}{m:bV}(h:eH w B m){a:dT}(s:(¬e=0/\¬e=8)\/(¬a.k=1/\¬a.k=2/\¬a.k=3/\¬a.k=4)):
  Calls prog 30 #[N B.b,Z who,.agg (bE a),.agg (bF E e)] w (ny w B m):=by
 obtain⟨c,g,l,p⟩:=oC w 55 (bE a) 66 (bF E e);have L:c.cell? (I w.heap.size 0)=some (.int .u8 a.k):=l.drop.head.cell 0;have x:c.cell? (I (w.heap.size+1) 14)=some (Z e):=l.head.cell 14;have j:=U g;have u:=U (show ny w B m (.returned (.tuple #[])) c from⟨O,h.call p,aa.of_below p⟩);clear h l p g;by_cases i:¬e=0/\¬e=8
 ·have aC:(e !=0)=true:=az i.1;have Q:(e !=8)=true:=az i.2;clear s;go_in;go_upto_region 1 with fail;refine dI j.o ?_;clear j;go_wp2;go_end0;exact u.o
 obtain⟨v,C,y,A⟩:=s.resolve_left i;have K:(a.k==1)=false:=az v;have G:(a.k==2)=false:=az C;have P:(a.k==3)=false:=az y;have J:(a.k==4)=false:=az A;have F:e=0\/e=8:=V;clear s i;rcases F with rfl|rfl<;>(go_in;go_upto_region 1 with fail;refine dI j.o ?_;clear j;go_wp2;go_end0;exact u.o)
def Rc{m:bV}(h:m.ok){a:dT}(c:a.ok):(dz m who a E e).ok:=by
 unfold dz;split;exact h;split
 ·split
  refine⟨λx b=>?_,h.tn⟩;rcases lH.1 b with rfl|⟨b,-⟩;exact c.n;exact h.np x b;exact h
 split
 exact⟨h.np,h.tn⟩;split
 ·split
  exact h;refine⟨h.np,λx b=>?_⟩;rcases lH.1 b with rfl|⟨b,-⟩;exact c.n;exact h.tn x b
 split
 exact⟨h.np,h.tn⟩;exact h
def XN{B:ez}{m:bV}(h:eH w B m)(j:fG who){a:dT}(c:a.ok)(y:bo E.s):
  Calls prog 30 #[N B.b,Z who,.agg (bE a),.agg (bF E e)] w (ny w B (dz m who a E e)):=by
 by_cases i:¬e=0/\¬e=8;rw[show dz m who a E e=m from av i];exact GG h (.inl i);have d:e=0\/e=8:=V;obtain⟨k,n,t,x,r,f⟩:=a;by_cases u:k=1
 ·subst u;have g:dz m who ⟨1,n,t,x,r,f⟩ E e=if bg E.o E.s≠0/\(lk m.nd (bg E.o E.s)).isSome=false then{m with nd:=putL m.nd (bg E.o E.s) (n,dB x)}else m:=by unfold dz;rw[al i,av rfl]
  rw[g];rcases d with rfl|rfl;exact Qv h rfl y (wL _ _);exact Qu h O y (wL _ _)
 by_cases l:k=2
 ·subst l;have g:dz m who ⟨2,n,t,x,r,f⟩ E e={m with ra:=putL m.ra n (IntKind.i64.wrap ((lk m.ra n).getD 0+dB x))}:=by unfold dz;rw[al i,al (show ¬(2:Int)=1 by decide),av rfl]
  rw[g];rcases d with rfl|rfl;exact QS h c.n;exact QR h c.n
 by_cases v:k=3
 ·subst v;have g:dz m who ⟨3,n,t,x,r,f⟩ E e=if(lk m.ta (who,r)).isSome=true\/e≠0 then m else{m with ta:=putL m.ta (who,r) (n,if x=dB x then x else 0)}:=by unfold dz;rw[al i,al (show ¬(3:Int)=1 by decide),al (show ¬(3:Int)=2 by decide),av rfl]
  rw[g];rcases d with rfl|rfl;exact QQ h ah ⟨j,c.r.1,c.r.2⟩;exact QP h ah ⟨j,c.r.1,c.r.2⟩
 by_cases p:k=4
 ·subst p;have g:dz m who ⟨4,n,t,x,r,f⟩ E e={m with ba:=putL m.ba (who,f) true}:=by unfold dz;rw[al i,al (show ¬(4:Int)=1 by decide),al (show ¬(4:Int)=2 by decide),al (show ¬(4:Int)=3 by decide),av rfl]
  rw[g];rcases d with rfl|rfl;exact QO h ⟨j,c.f.1,c.f.2⟩;exact QN h ⟨j,c.f.1,c.f.2⟩
 rw[show dz m who ⟨k,n,t,x,r,f⟩ E e=m by unfold dz;rw[al i,al u,al l,al v,al p]];exact GG h (.inr ⟨u,l,v,p⟩)
@[go_sem] theorem adx(x:Int):tJ.kc x=q x:=rfl
structure Cj(w:D)(nm r:Nat)(T left kept:List (Int×(Int×Int)))(v:H)(ks:List Int)(W:D):Prop where
 rg:fP tJ W nm r left kept
 row:gI W (w.heap.size+1) v ks
 ks:ks.Perm (kept.map (·.1))
 pm:T.Perm (left++kept)
 below:S w W
 sz:w.heap.size+1<=W.heap.size
def V0(w:D)(T:List (Int×(Int×Int)))(r:Ending)(w':D):Prop:=∃u L,r=.returned u/\gI w' w.heap.size u L/\L.Perm (T.map (·.1))/\S w w'
def SB{B:ez}{m:bV}(h:eH w B m)(hl:m.nd.length<=50):Calls prog 40 #[N B.b] w (V0 w m.nd):=by
 have α:w.cell? (I B.b 0)=some (.map (some B.nm)):=h.blk.cell 0;have HM:=U h.n;have θ:=h.n.lt;clear h;generalize m.nd=T at HM hl⊢;generalize B.nm=tm at α HM θ;go_in;go_wp2_with (first|(at_range;refine sP s7 rfl _ rfl rfl HM.o ?_;intro w0 G δ ζ));go_frame;have A0:Cj w tm w.heap.size T T [] (.slice none 0 0) [] w0:=⟨G,Row.nil,nZ _,ah,δ,V⟩;clear G δ ζ α HM;go_loopg [2] T.length (λg v wr=>∃left l W,left.length=g/\Cj w tm w.heap.size T left l v W wr);exact⟨T,[],[],O,A0⟩;obtain⟨left,l,W,hg,A⟩:=hrel;clear A0;go_wp2_with (first|(at_next;refine sQ rfl _ rfl rfl A.rg ?_ ?_))
 ·intro ε;obtain rfl:=ε;have X:W.length<=50:=by have h1:=A.ks.length_eq;have h2:=A.pm.length_eq;simp at h1 h2;omega
  obtain⟨A1,c1,rfl,ν,κ⟩:=A.row.sl;have C2:=U (RI A.row X);have Q:=U A;clear A hg;go_wp2_with fail;apply C2.o.mono;rintro r J ⟨L,rfl,d,ι,p⟩;go_wp2;go_ret;refine⟨_,L,O,kB d (mO _ _),?_,?_⟩;refine ι.trans (Q.o.ks.trans ?_);have:=Q.o.pm;rw[ju]at this;exact(this.map _).symm;exact Q.o.below.trans ((aa.of_grown (F:=λk=>w.heap.size<=k) p (λk hk=>aA ((Q.o.row.ge k hk).1))).belowB (λk _ h=>h) Q.o.below.size)
 intro u ep el i J hp j C ξ;have P:i.length+1=left.length:=by have:=hp.length_eq;simpa using this.symm
 have X:W.length<=1000:=by have h1:=A.ks.length_eq;have h2:=A.pm.length_eq;simp at h1 h2;omega
 have K:u2.ownBlock≠some w.heap.size:=λe=>aA ((A.row.ge _ e).1);have d:=C.own A.row K (by cases u2.ownBlock<;>simp);have y:=C.below A.below (ao _) (λ_ h=>aK h);have π:=aZ A.sz C.size;have ha:S J (J.alloc (.cells #[q u] 31)):=(aq _ _).alloc (ao _) _;obtain⟨v',w3,γ,s,η,p,hf⟩:=gI.app (w:=J.alloc (.cells #[q u] 31)) (cap:=1) 113 (Row.call d ha) (jn (c:=mq) kV (x:=u) (M.new J 31 (mq u))) aQ aQ;simp only[dN,g8,cA]at γ;have R:∀{k:Nat},k<J.heap.size->u2.ownBlock≠some k->w3.heap[k]? =J.heap[k]?:=λ{k} hk hn=>by rw[p.block k aQ (λe=>hn e.symm)];exact oW J _ k hk
 have β:Cj w tm w.heap.size T i ((u,ep,el)::l) v' (W++[u]) w3:=by refine⟨j.same (R j.map.lt λe=>?_) (R j.lt K),s,?_,A.pm.trans ((sE _ hp).trans List.perm_middle.symm),?_,?_⟩;have h1:=oe d tm;obtain⟨es,ck,μ,_⟩:=j.map.ex;have:=h1 _ e μ;simp[Obj.isCells]at this;rw[cW];exact(List.perm_append_comm.trans (nZ _)).trans (A.ks.cons u);refine(y.trans (ha.mono y.size)).trans ((aa.of_grown (F:=λk=>w.heap.size<=k) p (λk hk=>?_)).belowB (λk _ h=>h) (by have:=y.size;simp;omega));have:=(d.lt k hk).1;omega;have:=p.size;simp at this;omega
 have Q:=U β;obtain⟨A1,c1,rfl,ν,κ⟩:=A.row.sl;clear A hp j C K d y ha s η p hf R β;have HL:=U P;have HG:=U hg;clear P hg;go_wp2_with fail;have P:=HL.o;have hg:=HG.o;go_roundg i.length
 case measure=>omega
 exact⟨i,(u,ep,el)::l,W++[u],O,Q.o⟩
def SC{B:ez}{m:bV}(h:eH w B m)(ok:m.ok)(hl:m.nd.length<=50)(hb:∀id,(lk m.nd id).isSome=true->(gB m id).2.1<=(gB m id).1):Calls prog 24 #[N B.b] w λr w'=>r=.returned (.bool true)/\S w w':=by
 have CN:=U (SB h hl);have T:=aP h ok hb;clear h ok hb;go_in;go_wp2_with fail;apply CN.o.mono;rintro r w1 ⟨u,L,rfl,d,p,P⟩;clear CN;have hL:L.length<=50:=by have:=p.length_eq;simp at this;omega
 obtain⟨A1,c1,rfl,θ,ε⟩:=d.sl;have s:=aP d p P;clear d p P;go_wp2;go_loopw [11] (λi wr=>∃k:Nat,k<=L.length/\i=Z k/\S w1 wr) (λi _=>50-(intOf i).toNat);exact⟨0,V,O,aq _ _⟩;obtain⟨k,hk,rfl,j⟩:=hrel;by_cases W:k<L.length
 ·obtain⟨y,hy⟩:∃y,L[k]? =some y:=⟨L[k],bY W⟩;have d:=Row.call s.o.1 j;obtain⟨g,α,hs,A,γ,ζ,η⟩:=d.sl_pos V;rw[hs]at d;have F:=d.rng kV hy;obtain⟨rfl,X⟩:A1=some (I g 0)/\c1=α:=by injection hs with a b c;exact⟨a,c⟩
  have δ:wr.cell? (I g k)=some (q y):=by have this:=F 0 (q y) O;rw[iP]at this;exact this
  have hm:y∈m.nd.map (·.1):=s.o.2.1.mem_iff.1 (cX hy);have G:=og.2 hm;obtain⟨xy,C,v⟩:=dY.1 hm;have J:bo y:=v▸T.o.1.n.ok xy C;have hD:=s.o.2.2.trans (j.mono s.o.2.2.size);have Q:=U (GF (T.o.1.call hD) T.o.2.1 J);have β:=T.o.2.2 y G;have x:=cP ((gB m y).2.1>(gB m y).1);have l:=cP ((gB m y).1<(gB m y).2.1);generalize (gB m y).2.1=s2 at Q x l;generalize (gB m y).1=s1 at Q x l;generalize (gB m y).2.2=s3 at Q;have R:=U j;clear d F hs A X hm G C v J hD β j hy;have e1:IntKind.i64.wrap ((k:Int)+1)=(k:Int)+1:=bS _ V;go_wp2_with fail;apply Q.o.mono;rintro r w2 ⟨rfl,K⟩;have H2:=U (R.o.trans (K.mono R.o.size));clear Q K;go_wp2;go_roundw
  ·exact⟨k+1,V,by go_num,H2.o⟩
  simp[intOf];omega
 obtain rfl:k=L.length:=V;have R:=U j;clear j;go_wp2;go_ret;exact⟨O,s.o.2.2.trans (R.o.mono s.o.2.2.size)⟩
