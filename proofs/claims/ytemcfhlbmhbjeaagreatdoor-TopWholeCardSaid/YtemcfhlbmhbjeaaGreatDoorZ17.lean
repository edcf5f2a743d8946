import Derived.Test.YtemcfhlbmhbjeaaGreatDoorZ16
set_option maxRecDepth 100000
set_option maxHeartbeats 0
set_option linter.all false
namespace Go.Proofs.YtemcfhlbmhbjeaaGreatDoor
open Go.Proofs.Tryz
variable{w:D}{base k b c B cap g:Nat}{kn:an}{f:Nat->Int}{v vN vG:H}{t:ay}{A:Option Addr}{inn:Nat->Bool}{Gl:z->Prop}{i node:Int}{aeM:List eB}
open Go Go.RowKit
def kJ(f:Nat->Int):Array H:=((List.range 36).map λi=>q (f i)).toArray
def ph(f:Nat->Int):(kJ f).size=36:=by simp[kJ]
def mV(f:Nat->Int)(k:Nat)(h:k<36):(kJ f)[k]? =some (q (f k)):=by simp[kJ,h]
def kI(f:Nat->Int)(k:Nat):an:=⟨f (k*6),f (k*6+1),f (k*6+2),f (k*6+3),f (k*6+4),f (k*6+5)⟩
def rU(f:Nat->Int)(k:Nat)(v:an):Nat->Int:=λi=>if k*6<=i/\i<k*6+6 then v.get (i-k*6)else f i
def r7(f:Nat->Int):Prop:=∀i,i<36->bo (f i)
def FV(f:Nat->Int)(k j:Nat)(h:j<6):(kI f k).get j=f (k*6+j):=an.six (P:=λj=>(kI f k).get j=f (k*6+j)) O O O O O O j h
def Wv(h:r7 f)(d:k<6):(kI f k).ok:=λj a=>by rw[FV f k j a];exact h _ V
def Kr(v:an)(j:Nat)(h:j<6):(aF v)[j]? =some (q (v.get j)):=an.six (P:=λj=>(aF v)[j]? =some (q (v.get j))) O O O O O O j h
def Rp(h:r7 f){v:an}(a:v.ok):r7 (rU f k v):=λi d=>by unfold rU;split;exact a _ V;exact h i d
def Rl(h:M w b t (kJ f))(e:k<6):lB w b (k*6) (aF (kI f k)):=λj u a=>by
 have d:j<6:=by have:=(fI.1 a).1;simpa[aF]using this
 rw[Kr _ j d,FV f k j d]at a;rw[h.cell,mV _ _ V];exact a
def Rm(f:Nat->Int)(j:k<6)(v:an):((kJ f).toList.take (k*6)++(aF v).toList++(kJ f).toList.drop (k*6+(aF v).size)).toArray=kJ (rU f k v):=by
 have a:(aF v).size=6:=O;apply Array.ext_getElem?;intro i;rw[ye];by_cases h:i<k*6;rw[p9 (by simp[ph,a];omega),p9 (by simp[ph];omega),kw,av h,i5,mV _ _ V,mV _ _ V];unfold rU;rw[al V];by_cases l:i<k*6+6
 ·rw[p9 (by simp[ph,a];omega),pZ (by simp[ph];omega),i5];have e:(List.take (k*6) (kJ f).toList).length=k*6:=by simp[ph];omega
  rw[e,Kr _ _ V,mV _ _ V];unfold rU;rw[av V]
 rw[pZ (by simp[ph,a];omega)];have e:(List.take (k*6) (kJ f).toList++(aF v).toList).length=k*6+6:=by simp[ph,a];omega
 rw[e,ob,i5,a,bU (k*6+6+(i-(k*6+6))=i)];by_cases d:i<36;rw[mV _ _ d,mV _ _ d];unfold rU;rw[al V];rw[kQ (by rw[ph];omega),kQ (by rw[ph];omega)]
def uJ(v:an):(prog.info? 33).map (·.size)=some (aF v).size:=by rw[show(aF v).size=6 from rfl];kernel_rfl
def OI(v:an):(aF v).all (·.oneCell')=true:=by simp[aF,Value.oneCell']
abbrev sq(w:D)(b:Nat)(f:Nat->Int):Prop:=M w b 242 (kJ f)
def o7:=@iY 33
def Wd(h:M w b t (kJ f))(a:k<6):(dQ 33 (.pointer (some (I b (k*6))))).run prog w=.ok (.value (.agg (aF (kI f k)))) w:=eO (Rl h a) underlying33 O (uJ _)
def Wc{v:an}(h:M w b t (aF v)):(dQ 33 (N b)).run prog w=.ok (.value (.agg (aF v))) w:=f8 h underlying33 O (uJ _)
def Ld(j:Int)(b:Bool)(a:cY j=b)(w:D):Calls prog 276 #[Z j] w λr e=>r=.returned (.bool b)/\S w e:=by
 unfold cY at a;obtain⟨d,l⟩:=aM (decide (1<=j));obtain⟨m,h⟩:=aM (decide (j<=6));rw[l,h]at a;subst a;go_in;cases d
 ·go_wp2;go_ret;exact⟨O,aq _ _⟩
 cases m
 ·go_wp2;go_ret;exact⟨O,aq _ _⟩
 go_wp2;go_ret;exact⟨O,aq _ _⟩
def Xu(w:D):Calls prog 74 #[] w λr a=>r=.returned (N w.heap.size)/\sq a w.heap.size (λ_=>0)/\S w a:=by go_wp2;go_ret;exact⟨O,M.new _ _ _,(aq _ _).alloc (ao _) _⟩
def G8(a b:an)(w:D)(u:H)(w':D):Prop:=∃g,u=bh g 2 2/\w.heap.size<=g/\M w' g 33 #[q a.v0,q a.v1,q a.v2,q a.v3,q a.v4,q a.v5,q b.v0,q b.v1,q b.v2,q b.v3,q b.v4,q b.v5]
def Og{a b:an}(h:M w g t #[q a.v0,q a.v1,q a.v2,q a.v3,q a.v4,q a.v5,q b.v0,q b.v1,q b.v2,q b.v3,q b.v4,q b.v5]):tx w w.heap.size (some (I g 0)) [a,b]:=λ_=>
 ⟨g,0,O,h.lt,λi v d j e=>by
  rw[h.cell]
  match i,d with
  |0,d=>obtain rfl:a=v:=az d;exact an.six (P:=λj=>(#[q a.v0,q a.v1,q a.v2,q a.v3,q a.v4,q a.v5,q b.v0,q b.v1,q b.v2,q b.v3,q b.v4,q b.v5]:Array H)[0+0*6+j]? =some (q (a.get j))) O O O O O O j e
  |1,d=>obtain rfl:b=v:=az d;exact an.six (P:=λj=>(#[q a.v0,q a.v1,q a.v2,q a.v3,q a.v4,q a.v5,q b.v0,q b.v1,q b.v2,q b.v3,q b.v4,q b.v5]:Array H)[0+1*6+j]? =some (q (b.get j))) O O O O O O j e
  |n+2,d=>simp at d⟩
def PF{a b:an}(h:a.ok)(j:b.ok):(an.foldV max [a,b]).ok:=by rw[NJ];refine λk d=>?_;have m:=h k d;have l:=j k d;have e:(an.map2 max a b).get k=max (a.get k) (b.get k):=an.six (P:=λk=>(an.map2 max a b).get k=max (a.get k) (b.get k)) O O O O O O k d;rw[e];omega
def Xq(h:sq w b f)(hf:r7 f)(P:k<6){v:an}(hv:v.ok):Calls prog 261 #[N b,Z ((k:Int)+1),.agg (aF v)] w λr w'=>(∃n,r=.returned (Z n))/\(∃f',sq w' b f'/\r7 f')/\aa (aR b) w w':=by
 have D0:S w (w.alloc (.cells (aF v) 33)):=(aq _ _).alloc (ao _) _;have B0:ax (w.alloc (.cells (aF v) 33)) [(w.heap.size,33,aF v),(b,242,kJ f)]:=(ax.cons h ax.nil).push O;have CR:=U (λX=>Ld ((k:Int)+1) true (by unfold cY;simp;omega) X);have x:=cQ B0 D0 hf hv;have K:IntKind.i64.wrap (k:Int)=(k:Int):=bS _ V;have G:(0:Int)<=(k:Int):=V;have J:(k:Int)<6:=V;clear h D0 B0 hf hv;go_in;go_wp2_with fail;apply(CR.o _).mono;rintro r C ⟨rfl,s⟩;have m:=x.o.1.call s;have D1:=x.o.2.1.trans (s.mono x.o.2.1.size);have T:=aB m D1;have L:=U (λ(X:D) (j:aa bC C X)=>ar (m.call j.no).rules.1 (ar (m.call j.no).rules.2.2.1 (ar (m.call j.no).lts (ar (Wc (m.call j.no).head) (Wd (m.call j.no).drop.head P)))));clear s m D1 CR;go_wp2_with fail;refine mX 16 [] bC 17 (λ_ h=>h.elim) Y ah aS Y aS Y ?_;simp only[cR]
 iterate 11
  first
  |refine gS rfl ?_;apply cV
   intro _ ρ e d a W j;have Q:=L.o W j;simp[execOp,go_sem,e,d,a,Q,↓o7,K,G,J]<;>exact O
  |refine gz (λ_=>rfl) ?_
  |refine lG Y rfl ?_;apply cV
   intro u ρ e d a w;simp[execOp,go_sem,e,d,a,↓o7,K,G,J]<;>exact O
  simp only[aD]
 refine uP (λ_=>rfl) (eJ O) (λp:Nat=>bh p 2 2) 0 (G8 (kI f k) v) (λu X _=>⟨X.heap.size,_,by simp[execOp,go_sem]<;>rfl,⟨_,O,ao _,M.new _ _ _⟩,(aq _ _).alloc (ao _) _⟩) ?_;simp only[aD];refine Lc (λ_=>rfl) (eJ O) 11 ai (o3 O) 163 (λu=>#[bh u.2 2 2]) (.agg (aF (an.foldV max [kI f k,v]))) cK (λu=>bh u.2 2 2) _ cD (λu X j hR=>?ca) ?_
 case ca=>simp only[d8,Nat.reduceAdd,cA]at hR;obtain⟨E,w2,-,g2,⟨g,l,-,R⟩,g4⟩:∃E w2,(11=17->S C E)/\aa bC C E/\G8 (kI f k) v E (bh u.2 2 2) w2/\fB [] (λk=>11≠17/\bC k) C.heap.size w2 X:=hR;injection l with l _ _;injection l with l;injection l with l _ _;subst l;exact Lx _ _ [kI f k,v] _ X (Og (R.call (g4.below λ_ h=>h.2))) (ao _) ah (by unfold maxLen;omega)
 simp only[aD]
 iterate 3
  first
  |refine gS rfl ?_;apply cV
   intro _ ρ e d a W j;have Q:=L.o W j;simp[execOp,go_sem,e,d,a,Q,↓o7,K,G,J]<;>exact O
  |refine gz (λ_=>rfl) ?_
  |refine lG Y rfl ?_;apply cV
   intro u ρ e d a w;simp[execOp,go_sem,e,d,a,↓o7,K,G,J]<;>exact O
  simp only[aD]
 refine cT Y ?_;rintro⟨_,p⟩ W2 y-;have y:S C W2:=y;have B2:=T.o.1.call y;have D2:=T.o.2.trans (y.mono T.o.2.size);have hj:=PF (Wv x.o.2.2.1 P) x.o.2.2.2;refine Zf O _ _ _ O b (k*6) (aF (an.foldV max [kI f k,v])) O O _ _ B2.drop.head (uJ _) (by rw[ph];show k*6+6<=36;omega) (OI _) ?_;rw[Rm f P];have HX:=aP (dt B2.drop.head (kJ (rU f k (an.foldV max [kI f k,v])))) (Rp (k:=k) x.o.2.2.1 hj) ((aa.of_below D2).trans (aa.of_fr1 (F:=aR b) (fl W2 b (kJ (rU f k (an.foldV max [kI f k,v])))) O));clear y B2 D2 hj L;go_wp2;go_ret;exact⟨⟨_,O⟩,⟨_,HX.o.1,HX.o.2.1⟩,HX.o.2.2⟩
def Zb(h:sq w b f)(F:k<6):Calls prog 192 #[N b,Z ((k:Int)+1)] w λr x=>r=.returned (.agg (aF (kI f k)))/\S w x:=by
 have n:S w (w.alloc (.cells (aF an.zero) 33)):=(aq _ _).alloc (ao _) _;have m:ax (w.alloc (.cells (aF an.zero) 33)) [(w.heap.size,33,aF an.zero),(b,242,kJ f)]:=(ax.cons h ax.nil).push O;have p:=U (λX=>Ld ((k:Int)+1) true (by unfold cY;simp;omega) X);have e:=aB m n;have W:IntKind.i64.wrap (k:Int)=(k:Int):=bS _ V;have G:(0:Int)<=(k:Int):=V;have R:(k:Int)<6:=V;clear h n m;go_in;go_wp2_with fail;apply(p.o _).mono;rintro r j ⟨rfl,a⟩;have d:=e.o.1.call a;have l:=e.o.2.trans (a.mono e.o.2.size);obtain⟨C,E,J,-,-⟩:=d.rules;obtain⟨Q,l1,-⟩:=d.lts;have T:=mV f (k*6) V;have a1:=mV f (k*6+1) V;have a2:=mV f (k*6+2) V;have K:=mV f (k*6+3) V;have P:=mV f (k*6+4) V;have L:=mV f (k*6+5) V;have u:=aB d l;clear p a d l;go_wp2_with fail;have y:M ((((((j.setCell (I w.heap.size 0) (q (f (k*6)))).setCell (I w.heap.size 1) (q (f (k*6+1)))).setCell (I w.heap.size 2) (q (f (k*6+2)))).setCell (I w.heap.size 3) (q (f (k*6+3)))).setCell (I w.heap.size 4) (q (f (k*6+4)))).setCell (I w.heap.size 5) (q (f (k*6+5)))) w.heap.size 33 (aF (kI f k)):=by have h:=(((((u.o.1.head.set_ 0 (q (f (k*6)))).set_ 1 (q (f (k*6+1)))).set_ 2 (q (f (k*6+2)))).set_ 3 (q (f (k*6+3)))).set_ 4 (q (f (k*6+4)))).set_ 5 (q (f (k*6+5)));simpa[aF,kI,an.zero]using h
 have hF:aH j _ w.heap.size none:=(((((aH.of_set (w:=j) (I w.heap.size 0) O (q (f (k*6)))).set (I w.heap.size 1) O (q (f (k*6+1)))).set (I w.heap.size 2) O (q (f (k*6+2)))).set (I w.heap.size 3) O (q (f (k*6+3)))).set (I w.heap.size 4) O (q (f (k*6+4)))).set (I w.heap.size 5) O (q (f (k*6+5)));exact eI (s:=4) results192 O y underlying33 O (uJ _) O ⟨O,hF.below u.o.2 (ao _) (λ_ h=>aK h)⟩
structure fj where
 e:z
 at_:Int
def gw(x:fj):Array H:=#[Z x.e.o,q x.e.s,q x.e.d.v0,q x.e.d.v1,q x.e.d.v2,q x.e.d.v3,q x.e.d.v4,q x.e.d.v5,.int .u8 x.e.k,q x.e.n,Z x.e.t,Z x.e.a,q x.e.r,q x.e.f,q x.at_]
def pl(x:fj):(gw x).size=15:=rfl
@[go_sem] theorem aeg(x:fj):(gw x)[1]? =some (q x.e.s):=rfl
@[go_sem] theorem ad4(x:fj):(gw x)[14]? =some (q x.at_):=rfl
def DX(x:fj):∀u∈(gw x).toList,u.oneCell'=true:=by intro u a;simp[gw]at a;rcases a with rfl|rfl|rfl|rfl|rfl|rfl|rfl|rfl|rfl|rfl|rfl|rfl|rfl|rfl|rfl<;>rfl
def Sj(x:fj):(gw x).all (·.oneCell')=true:=nU.2 λu a=>DX x u (az a)
def zD(x:fj):(prog.info? 292).map (·.size)=some (gw x).size:=by rw[pl];kernel_rfl
def Vd:(prog.info? 292).map (λi=>(i.zero,i.size,i.bytes))=some (some (.agg #[Z 0,q 0,q 0,q 0,q 0,q 0,q 0,q 0,.int .u8 0,q 0,Z 0,Z 0,q 0,q 0,q 0]),15,120):=Y
abbrev kG(w:D)(base:Nat)(v:H)(L:List fj):Prop:=Row w base 292 15 gw v L
def kG.app(ty:ay){L aeL:List fj}(h:kG w base v L)(n:dK w B 15 A aeL.length (cZ gw aeL))(r:L.length+aeL.length<=1000000)(a:base<=w.heap.size):
  ∃e d,(iU 233 ty v (.slice A aeL.length cap)).run prog w=.ok (.value e) d/\kG d base e (L++aeL)/\iO base [292] w d/\w.grownBy d v.ownBlock/\(e.ownBlock=v.ownBlock\/∀b,e.ownBlock=some b->w.heap.size<=b):=by
 obtain⟨j,p,l,m,o⟩:=i7 Vd;exact Row.app w 233 ty j _ 120 underlying233 p l m o O ai pl DX h (cap:=cap) n r ai a
@[go_sem ↓ high] def abS:=@iY 292
@[go_sem ↓ high] def abj:=@jC 292
@[go_sem ↓ high] def aco:=@mr 233
@[go_sem ↓ high] def ab5:=@lz 233
def BT(x y:H):Sem Next:=do pure (.value (<-Instr.build 292 #[(0,x),(1,y)]))
section
variable(ρ:aO->H)(dst:Option Tmp)(x y aeU u:aO)(ty:ay)(pos:String)(after:Array Edge)(guard:Option (Nat×Bool))
@[go_sem ↓ high] theorem acf:execOp ρ {dst,op:=.build 292 #[(0,x),(1,y)],type:=ty,pos,after,guard}=BT (ρ x) (ρ y):=by simp[execOp,BT]
end
@[go_sem] theorem ada(e:z)(x:Int)(w:D):(BT (.agg (aj e)) (q x)).run prog w=.ok (.value (.agg (gw ⟨e,x⟩))) w:=Y
@[go_sem] theorem acK(x:fj)(w:D):(ke 233 (.agg (gw x))).run prog w=.ok (.value (bh w.heap.size 1 1)) (w.alloc (.cells (gw x) 292)):=Y
def iL(v:Nat->H)(kn:an)(c:Int):Array H:=#[v 0,v 1,v 2,v 3,v 4,v 5,q kn.v0,q kn.v1,q kn.v2,q kn.v3,q kn.v4,q kn.v5,q c]
def qK(v:Nat->H)(k:Nat)(x:H):Nat->H:=λi=>if i=k then x else v i
def tF{α:Type}(v:Nat->List α)(k:Nat)(x:List α):Nat->List α:=λi=>if i=k then x else v i
section
variable(v:Nat->H)(kn:an)(c:Int)
def GN(k:Nat)(h:k<6):(iL v kn c)[k]? =some (v k):=an.six (P:=λk=>(iL v kn c)[k]? =some (v k)) O O O O O O k h
def Uv(k:Nat)(h:k<6):(iL v kn c)[6+k]? =some (q (kn.get k)):=an.six (P:=λk=>(iL v kn c)[6+k]? =some (q (kn.get k))) O O O O O O k h
@[go_sem] theorem aef:(iL v kn c)[6]? =some (q kn.v0):=rfl
@[go_sem] theorem aee:(iL v kn c)[7]? =some (q kn.v1):=rfl
@[go_sem] theorem aed:(iL v kn c)[8]? =some (q kn.v2):=rfl
@[go_sem] theorem aec:(iL v kn c)[9]? =some (q kn.v3):=rfl
@[go_sem] theorem ad3:(iL v kn c)[10]? =some (q kn.v4):=rfl
@[go_sem] theorem ad2:(iL v kn c)[11]? =some (q kn.v5):=rfl
@[go_sem] theorem ad1:(iL v kn c)[12]? =some (q c):=rfl
def Nv(k:Nat)(h:k<6)(x:H):(iL v kn c).setIfInBounds k x=iL (qK v k x) kn c:=an.six (P:=λk=>(iL v kn c).setIfInBounds k x=iL (qK v k x) kn c) O O O O O O k h
def LT(k:Nat)(h:k<6)(x:Int):(iL v kn c).setIfInBounds (6+k) (q x)=iL v (kn.set k x) c:=an.six (P:=λk=>(iL v kn c).setIfInBounds (6+k) (q x)=iL v (kn.set k x) c) O O O O O O k h
def Nw(x:Int):(iL v kn c).setIfInBounds 12 (q x)=iL v kn x:=rfl
end
def rT(f:Nat->Nat):Nat:=f 0+f 1+f 2+f 3+f 4+f 5
structure kb(w:D)(base b:Nat)(v:Nat->H)(Ls:Nat->List fj)(kn:an)(c:Nat):Prop where
 blk:M w b 236 (iL v kn c)
 row:∀k,k<6->kG w base (v k) (Ls k)
 sep:∀j k,j<6->k<6->j≠k->∀g,(v j).ownBlock=some g->(v k).ownBlock≠some g
 ok:∀k,k<6->∀x∈Ls k,x.e.ok/\bo x.at_
 kn:kn.ok
 cnt:rT (λk=>(Ls k).length)=c
def mp(b:Nat)(v:Nat->H):Nat->Prop:=λg=>g=b\/∃k,k<6/\(v k).ownBlock=some g
section
variable{w w':D}{base b c:Nat}{v:Nat->H}{Ls:Nat->List fj}{kn:an}{F:Nat->Prop}
def kb.call(h:kb w base b v Ls kn c)(a:S w w'):kb w' base b v Ls kn c:=⟨h.blk.call a,λk d=>Row.call (h.row k d) a,h.sep,h.ok,h.kn,h.cnt⟩
def kb.mod(h:kb w base b v Ls kn c)(a:aa F w w')(e:∀g,mp b v g->¬F g):kb w' base b v Ls kn c:=
 ⟨a.blk h.blk (e _ (.inl O)),λk d=>a.row (h.row k d) λg j=>e g (.inr ⟨k,d,j⟩),h.sep,h.ok,h.kn,h.cnt⟩
def kb.lt(h:kb w base b v Ls kn c):∀g,mp b v g->g<w.heap.size:=by rintro g (rfl|⟨k,d,a⟩);exact h.blk.lt;exact((h.row k d).ge g a).2
end
def Xv(w:D):Calls prog 72 #[] w λr a=>r=.returned (N w.heap.size)/\kb a w.heap.size w.heap.size (λ_=>.slice none 0 0) (λ_=>[]) an.zero 0/\S w a:=by go_wp2;go_ret;refine⟨O,⟨M.new _ _ _,λ_ _=>Row.nil,λ_ _ _ _ _ g d=>(aK d),λ_ _ x h=>(aK h),λk e=>an.six (P:=λk=>0<=an.zero.get k/\an.zero.get k<=18446744073709551615) ai ai ai ai ai ai k e,O⟩,(aq _ _).alloc (ao _) _⟩
def Fg(x:fj)(s:Int)(w:D):Calls prog 306 #[.agg (gw x),q s] w λr h=>(∃b:Bool,r=.returned (Z (if b then -1 else 1)))/\S w h:=by
 have d:S w (w.alloc (.cells (gw x) 292)):=(aq _ _).alloc (ao _) _;have a:=U d;obtain⟨b,j⟩:=aM (decide (x.e.s<=s));clear d;go_in;cases b
 ·go_wp2;go_ret;exact⟨⟨false,O⟩,a.o⟩
 go_wp2;go_ret;exact⟨⟨true,O⟩,a.o⟩
def RL{L:List fj}(h:kG w base v L)(hn:L.length<=1000000)(s:Int):Calls prog 305 #[v,q s,.func (.func 306) #[] #[]] w λr w'=>(∃(i:Nat) (b:Bool),r=.returned (.tuple #[Z i,.bool b])/\i<=L.length)/\S w w':=by
 obtain⟨A,c,rfl,hc,hm⟩:=h.sl;replace h:=U h;go_wp2;go_loopw [9,10] (λx y wr=>∃i j:Nat,i<=j/\j<=L.length/\x=Z i/\y=Z j/\S w wr) (λx y _=>(intOf y).toNat-(intOf x).toNat);exact⟨0,L.length,V,V,O,O,aq _ _⟩;obtain⟨i,j,β,hj,rfl,rfl,e⟩:=hrel;have G:=U e;by_cases α:i<j
 ·have hd:=cO ((i:Int)<j);obtain⟨y,R⟩:∃y,L[(i+j)/2]? =some y:=⟨L[(i+j)/2]' V,bY V⟩;have d:=Row.call h.o e;obtain⟨g,cap,C,l,u,T,W⟩:=d.sl_pos V;rw[C]at d;have m:=d.rng pl R;obtain⟨rfl,p⟩:A=some (I g 0)/\c=cap:=by injection C with a b c;exact⟨a,c⟩
  have E:=eO (P:=prog) m underlying292 O (zD y);have F:=U (Fg y s wr);clear d m C l u p e;go_wp2_with fail;apply F.o.mono;rintro r w2 ⟨⟨b,rfl⟩,n⟩;have K:=U (G.o.trans (n.mono G.o.size));clear F n E;cases b with
  |true=>
   go_wp2;go_roundw
   ·exact⟨(i+j)/2+1,j,V,V,by go_num,O,K.o⟩
   simp[intOf];omega
  |false=>
   go_wp2;go_roundw
   ·exact⟨i,(i+j)/2,V,V,O,by go_num,K.o⟩
   simp[intOf];omega
 obtain rfl:i=j:=V;have hd:=cP ((i:Int)<i);by_cases X:i<L.length
 ·have Q:=cO ((i:Int)<L.length);obtain⟨y,R⟩:∃y,L[i]? =some y:=⟨L[i],bY V⟩;have d:=Row.call h.o e;obtain⟨g,cap,C,l,u,T,W⟩:=d.sl_pos V;rw[C]at d;have m:=d.rng pl R;obtain⟨rfl,p⟩:A=some (I g 0)/\c=cap:=by injection C with a b c;exact⟨a,c⟩
  have E:=eO (P:=prog) m underlying292 O (zD y);have F:=U (Fg y s wr);have k0:(0:Int)<=(i:Int):=V;have kl:(i:Int)<L.length:=V;clear d m C l u p e;go_wp2_with fail;apply F.o.mono;rintro r w2 ⟨⟨b,rfl⟩,n⟩;have K:=U (G.o.trans (n.mono G.o.size));clear F n E;cases b<;>(go_wp2;go_ret2;exact⟨⟨i,_,O,hj⟩,K.o⟩)
 have Q:=cP ((i:Int)<L.length);clear e;go_wp2;go_ret2;exact⟨⟨i,_,O,hj⟩,G.o⟩
def Vm{L:List fj}(h:kG w base v L)(m:L.length<=1000000)(s:Int):Calls prog 293 #[v,q s] w λr e=>(∃i:Nat,r=.returned (Z i)/\i<=L.length)/\S w e:=by obtain⟨A,c,rfl,u,n⟩:=h.sl;have d:=U (RL h m s);clear h;go_in;go_wp2_with fail;apply d.o.mono;rintro r p ⟨⟨i,b,rfl,l⟩,a⟩;have j:=U a;clear d a;go_wp2;go_ret;exact⟨⟨i,O,l⟩,j.o⟩
def rN(w w':D)(base b:Nat)(v:Nat->H)(c:Nat)(Gl:z->Prop):Prop:=∃h a d j,kb w' base b h a d j/\(∀k,k<6->∀x∈a k,Gl x.e)/\j<=c+1/\aa (mp b v) w w'/\∀g,mp b h g->mp b v g\/w.heap.size<=g
def Oo{f:Nat->Nat}{x:Nat}(a:k<6):rT (λi=>if i=k then f k+x else f i)=rT f+x:=by unfold rT;have:k=0\/k=1\/k=2\/k=3\/k=4\/k=5:=V;rcases this with rfl|rfl|rfl|rfl|rfl|rfl<;>simp<;>omega
def rN.same{w':D}{v:Nat->H}{a:Nat->List fj}(h:kb w base b v a kn c)(l:∀k,k<6->∀x∈a k,Gl x.e)(d:S w w'):rN w w' base b v c Gl:=⟨v,a,kn,c,h.call d,l,V,aa.of_below d,λg j=>.inl j⟩
def Fb{f:Nat->Nat}(a:k<6):f k<=rT f:=by unfold rT;have:k=0\/k=1\/k=2\/k=3\/k=4\/k=5:=V;rcases this with rfl|rfl|rfl|rfl|rfl|rfl<;>omega
structure pK(w:D)(base b:Nat)(v:Nat->H)(Ls:Nat->List fj):Prop where
 row:∀k,k<6->kG w base (v k) (Ls k)
 sep:∀j k,j<6->k<6->j≠k->∀g,(v j).ownBlock=some g->(v k).ownBlock≠some g
 ok:∀k,k<6->∀x∈Ls k,x.e.ok/\bo x.at_
 nb:∀k,k<6->(v k).ownBlock≠some b
section
variable{w w':D}{base b c:Nat}{v:Nat->H}{Ls:Nat->List fj}{kn:an}
def pK.call(h:pK w base b v Ls)(d:S w w'):pK w' base b v Ls:=⟨λk a=>Row.call (h.row k a) d,h.sep,h.ok,h.nb⟩
def pK.fr(h:pK w base b v Ls)(f:aH w w' b none):pK w' base b v Ls:=⟨λk a=>f.own (h.row k a) (h.nb k a) (by cases(v k).ownBlock<;>simp),h.sep,h.ok,h.nb⟩
def kb.rows(h:kb w base b v Ls kn c):pK w base b v Ls:=⟨h.row,h.sep,h.ok,λk a=>Row.ne_box (h.row k a) h.blk ai⟩
def pK.put(h:pK w base b v Ls)(m:k<6)(u:aa (λg=>(v k).ownBlock=some g) w w'){n:H}{x:fj}(C:kG w' base n (Ls k++[x]))(ho:n.ownBlock=(v k).ownBlock\/∀g,n.ownBlock=some g->w.heap.size<=g)(E:x.e.ok/\bo x.at_)(F:b<w.heap.size):
  pK w' base b (qK v k n) (tF Ls k (Ls k++[x])):=by
 have s:∀j,j<6->∀g,(v j).ownBlock=some g->g<w.heap.size:=λj l g d=>((h.row j l).ge g d).2;refine⟨λj l=>?_,λi j o l p g d a=>?_,λj l y hy=>?_,λj l=>?_⟩
 ·unfold qK tF;by_cases e:j=k;rw[av e,av e];exact C;rw[al e,al e];exact u.row (h.row j l) λg d a=>h.sep j k l m e g d a
 ·unfold qK at d a;by_cases e:i=k;rw[av e]at d;rw[al V]at a;rcases ho with ho|ho;rw[ho]at d;exact h.sep k j m l V g d a;have:=ho g d;have:=s j l g a;omega;rw[al e]at d;by_cases r:j=k;rw[av r]at a;rcases ho with ho|ho;rw[ho]at a;exact h.sep i k o m V g d a;have:=ho g a;have:=s i o g d;omega;rw[al r]at a;exact h.sep i j o l p g d a
 ·unfold tF at hy;by_cases e:j=k;rw[av e]at hy;rcases bP.1 hy with hy|hy;exact h.ok k m y hy;obtain rfl:y=x:=az hy;exact E;rw[al e]at hy;exact h.ok j l y hy
 unfold qK;by_cases e:j=k;rw[av e];intro d;rcases ho with ho|ho;rw[ho]at d;exact h.nb k m d;have:=ho b d;omega;rw[al e];exact h.nb j l
end
def Ib{v:Nat->H}{K:Nat->List fj}(h:kb w base b v K kn c)(hc:c+1<=900000)(χ:base<=w.heap.size){e:z}(he:e.ok)(hG:∀k,k<6->∀x∈K k,Gl x.e)(ξ:Gl e):
  Calls prog 119 #[N b,.agg (aj e)] w λr w'=>(∃n,r=.returned (Z n))/\rN w w' base b v c Gl:=by
 have G:=aB hG ξ;clear hG ξ;have B0:ax (w.alloc (.cells (aj e) 64)) [(w.heap.size,64,aj e)]:=ax.nil.push (g:=w.heap.size) O;have D0:S w (w.alloc (.cells (aj e) 64)):=(aq w.heap.size w).alloc aQ _;have HH:=cQ h he B0 D0;obtain⟨b1,ζ⟩:=aM (bG e);obtain⟨b2,κ⟩:=aM (gE kn e);obtain⟨b3,μ⟩:=aM (ka kn e);have CM:=U λX=>lf e he b1 ζ X;have CL:=U λX=>tg kn e he b2 κ X;have CR:=U λX=>Fs kn e he b3 μ X;have HB:=U ζ;have ω:=gj B0.head;clear h he B0 D0 ζ κ μ;go_in;go_wp2_with fail;apply(CM.o _).mono;rintro r W1 ⟨rfl,α⟩;have D1:=HH.o.2.2.2.trans (α.mono ah);have B1:=HH.o.2.2.1.call α;have L1:=HH.o.1.call D1;have H1:=aP D1 B1 L1;have β:=U (λ(X:D) (a:aa bC W1 X)=>ar (B1.call a.no).rules (ar (B1.call a.no).lts (ar (L1.call a.no).blk.rules.1 (ar (L1.call a.no).blk.lt (gj (B1.call a.no).head)))));clear α D1 B1 L1 ω;cases b1 with
 |false=>go_wp2;go_ret;exact⟨⟨_,O⟩,rN.same HH.o.1 G.o.1 H1.o.1⟩
 |true=>
 go_wp2_with fail;refine dL [] bC 7 (λ_ h=>h.elim) Y Y ?_
 iterate 5 refine gx β.o ?_
 refine j8 (λ_=>rfl) (eJ O) 143 (λ_=>#[.agg (aF kn),.agg (aj e)]) _ cK (λ_ X _=>CL.o X) ?_;simp only[aD];refine gx β.o ?_;refine cT Y ?_;rintro _ W2 E-;have E:S W1 W2:=E;have D2:=H1.o.1.trans (E.mono H1.o.1.size);have B2:=H1.o.2.1.call E;have L2:=H1.o.2.2.call E;have H2:=aP D2 B2 L2;have δ:=U (λ(X:D) (a:aa bC W2 X)=>ar (B2.call a.no).rules (ar (B2.call a.no).lts (ar (L2.call a.no).blk.rules.1 (ar (L2.call a.no).blk.lt (gj (B2.call a.no).head)))));clear E D2 B2 L2 β H1 CM CL;cases b2 with
 |true=>go_wp2;go_ret;exact⟨⟨_,O⟩,rN.same HH.o.1 G.o.1 H2.o.1⟩
 |false=>
 go_wp2_with fail;refine dL [] bC 8 (λ_ h=>h.elim) Y Y ?_
 iterate 5 refine gx δ.o ?_
 refine j8 (λ_=>rfl) (eJ O) 144 (λ_=>#[.agg (aF kn),.agg (aj e)]) _ cK (λ_ X _=>CR.o X) ?_;simp only[aD]
 iterate 2 refine gx δ.o ?_
 refine cT Y ?_;rintro _ W3 F-;have F:S W2 W3:=F;have D3:=H2.o.1.trans (F.mono H2.o.1.size);have R:=H2.o.2.1.call F;have P:=H2.o.2.2.call F;have L:=aP D3 R P;clear F δ H2 CR;cases b3 with
 |false=>clear D3 R P;go_wp2;go_ret;exact⟨⟨_,O⟩,rN.same HH.o.1 G.o.1 L.o.1⟩
 |true=>
 have hM:=iH HB.o;obtain⟨k,y,ι,Θ⟩:=hM.place;have k0:(0:Int)<=(k:Int):=V;have k6:(k:Int)<6:=V;have e1:IntKind.i64.wrap (e.o-1)=(k:Int):=by rw[ι];rw[bU (((k:Int)+1-1)=(k:Int))];exact bS _ V
 obtain⟨q0,-,-⟩:=R.rules;obtain⟨l0,-⟩:=R.lts;have hv:=GN v kn c k y;have γ:=(P.row k y).ge;have ψ:=U γ;have Δ:∀g,(v k).ownBlock=some g->g<W3.heap.size:=λg J=>(γ g J).2;have nF:¬((v k).ownBlock=some b):=Row.ne_box (P.row k y) P.blk ai;have nE:¬((v k).ownBlock=some w.heap.size):=Row.ne_box (P.row k y) R.head ai;have ν:=aB nF nE;have ε:=U (λ(X:D) (a:aa (λg=>(v k).ownBlock=some g) W3 X)=>ar (R.mod a ⟨nE,trivial⟩).rules (ar (R.mod a ⟨nE,trivial⟩).lts (ar (a.blk P.blk nF).rules.1 (ar (a.blk P.blk nF).lt (gj (R.mod a ⟨nE,trivial⟩).head)))));clear D3 R P γ nF nE hM ι Θ;go_wp2_with fail;refine mX 19 [] (λg=>(v k).ownBlock=some g) 15 Δ Y ah aS Y aS Y ?_;simp only[cR]
 iterate 14 refine nI ε.o (qT e1 k0 k6 hv) ?_
 refine uP (λ_=>rfl) (eJ O) (λp:Nat=>bh p 1 1) 0 (ve 292 (gw ⟨e,c⟩)) (λu X _=>⟨X.heap.size,X.alloc (.cells (gw ⟨e,c⟩) 292),by simp[execOp,go_sem],⟨_,O,ao _,M.new _ _ _⟩,(aq _ _).alloc (ao _) _⟩) ?_;simp only[aD];refine uA (λ_=>rfl) O 14 ai (o3 O) (λx:H=>x) (.slice none 0 0) (λX r X'=>kG X' base r (K k++[⟨e,c⟩])/\iO base [292] X X'/\(r.ownBlock=(v k).ownBlock\/∀g,r.ownBlock=some g->X.heap.size<=g)) (λu=>bh u.2 1 1) _ cD (λu X hX hR=>?app) ?_
 case app=>
  simp only[d8,Nat.reduceAdd,cA]at hR;obtain⟨w1,w2,-,g2,⟨g,C,Ω,θ⟩,g4⟩:∃w1 w2,(14=15->S W3 w1)/\aa (λg=>(v k).ownBlock=some g) W3 w1/\ve 292 (gw ⟨e,c⟩) w1 (bh u.2 1 1) w2/\fB [] (λg=>14≠15/\(v k).ownBlock=some g) W3.heap.size w2 X:=hR;injection C with C _ _;injection C with C;injection C with C _ _;subst C;have Γ:M X u.2 292 (gw ⟨e,c⟩):=by
   rcases g4.block u.2 θ.lt with e|⟨-,⟨cs,t,B,-⟩,-⟩|⟨-,e⟩;exact e.trans θ
   ·cases B
   have:=(ψ.o _ e).2;have:=g2.size;omega
  have Φ:(K k).length<=c:=by have:=Fb (f:=λk=>(K k).length) y;rw[L.o.2.2.cnt]at this;exact this
  obtain⟨v',w',k1,k2,k3,k4,k5⟩:=kG.app 233 (Row.call (L.o.2.2.row k y) hX) (A:=some (I u.2 0)) (cap:=1) (jn pl Γ) aQ (cF L.o.1.size hX.size);exact⟨v',w',by simp[execOp,go_sem];exact k1,⟨k2,k3,k5⟩,aa.of_grown k4 λ_ h=>h⟩
 simp only[aD]
 iterate 3 refine nI ε.o (qT e1 k0 k6 hv) ?_
 refine cT Y ?_;rintro⟨⟨_,p⟩,v'⟩ W4 hC hR;dsimp only;simp only[d8,Nat.reduceAdd,Nat.zero_add]at hR;have hC:aa (λg=>(v k).ownBlock=some g) W3 W4:=hC;obtain⟨w1,w2,g1,g2,⟨k2,k3,k5⟩,g4⟩:=fK (hR 15 _ _ cD) O;have υ:=(g1 O).size;have N4:kG W4 base v' (K k++([⟨e,c⟩]:List fj)):=Row.call k2 (g4.below λ_ h=>h.1 O);have R4:=(L.o.2.2.rows).put y hC N4 (k5.imp id λh g J=>Nat.le_trans υ (h g J)) ⟨HH.o.2.1,by show(0:Int)<=(c:Int)/\(c:Int)<=18446744073709551615;omega⟩ L.o.2.2.blk.lt;have b4:=hC.blk L.o.2.2.blk ν.o.1;have e4:=hC.blk L.o.2.1.head ν.o.2;have M4:aa (mp b v) w W4:=((aa.of_below L.o.1).trans (hC.mono λg J=>.inr ⟨k,y,J⟩));have bl:=U (show∀g,mp b (qK v k v') g->mp b v g\/w.heap.size<=g from by rintro g (rfl|⟨j,hj,J⟩);exact .inl (.inl O);unfold qK at J;by_cases ej:j=k;rw[av ej]at J;rcases k5 with k5|k5;exact .inl (.inr ⟨k,y,by rw[<-k5];exact J⟩);have:=k5 g J;have:=L.o.1.size;exact .inr V;rw[al ej]at J;exact .inl (.inr ⟨j,hj,J⟩));have b5:=b4.set_ k v';rw[Nv _ _ _ k y]at b5;have F5:aH W4 (W4.setCell (I b k) v') b none:=aH.of_set _ O _;have φ:b≠w.heap.size:=λh=>absurd (b4.type_eq (h▸e4)).1 ai;have e5:=F5.blk e4 (eC φ) ah;have T:=cQ b5 (R4.fr F5) e5 (M4.trans (aa.of_fr1 F5 (.inl O)));obtain⟨A',c',τ,-,-⟩:=N4.sl;clear hC hR g1 g2 k2 k3 k5 g4 N4 R4 M4 ε υ;generalize (K k++([⟨e,c⟩]:List fj)).length=n' at τ;subst τ;obtain⟨q4,f4⟩:=b4.rules;clear b4 e4 b5 F5 e5 q0 l0;go_wp2_with fail;generalize Ξ:W4.setCell (I b k) _=W5 at T;have π:=U (λ(X:D) (a:S W5 X)=>ar (T.o.1.call a).rules.1 (ar (T.o.1.call a).lt (ar (T.o.2.2.1.call a).rules.1 (T.o.2.2.1.call a).lt)));clear q4 f4 Ξ;refine eS 7 Y ah Y Y Y Y ?_;simp only[cR]
 iterate 7 refine pE π.o (vg k0 k6) ?_
 refine dg ?_;intro _ W6 Q _;have b6:=T.o.1.call Q;have R6:=T.o.2.1.call Q;have M6:=T.o.2.2.2.call Q;have Ψ:=Uv (qK v k (.slice A' n' c')) kn c k y;have b7:=b6.set_ (6+k) (q e.s);rw[LT _ _ _ k y]at b7;have F7:aH W6 (W6.setCell (I b (6+k)) (q e.s)) b none:=aH.of_set _ O _;have b8:=b7.set_ 12 (q ((c:Int)+1));rw[Nw]at b8;have F8:aH (W6.setCell (I b (6+k)) (q e.s)) ((W6.setCell (I b (6+k)) (q e.s)).setCell (I b 12) (q ((c:Int)+1))) b none:=aH.of_set _ O _;have R8:=(R6.fr F7).fr F8;have M8:=(M6.trans (aa.of_fr1 F7 (.inl O))).trans (aa.of_fr1 F8 (.inl O));have σ:=HH.o.2.1.s;have HX:=U (show rN w ((W6.setCell (I b (6+k)) (q e.s)).setCell (I b 12) (q ((c:Int)+1))) base b v c Gl from
  ⟨_,_,kn.set k e.s,c+1,⟨by rw[bU ((((c+1:Nat):Int))=(c:Int)+1)];exact b8,R8.row,R8.sep,R8.ok,λj hj=>by
   rw[zo _ _ _ y hj];split;exact σ;exact L.o.2.2.kn j hj,by
   have hs:=Oo (f:=λk=>(K k).length) (k:=k) (x:=1) y;have η:=L.o.2.2.cnt;have e:(λj=>(tF K k (K k++[⟨e,c⟩]) j).length)=λi=>if i=k then(λk=>(K k).length) k+1 else(λk=>(K k).length) i:=by funext j;unfold tF;by_cases h:j=k;rw[av h,av h];simp;rw[al h,al h]
   rw[e,hs,η]⟩,λj hj x hx=>by
   unfold tF at hx;split at hx;rcases bP.1 hx with hx|hx;exact G.o.1 k y x hx;rw[dd.1 hx];exact G.o.2;exact G.o.1 j hj x hx,V,M8,bl.o⟩)
 obtain⟨q6,f6⟩:=b6.rules;obtain⟨q7,f7⟩:=b7.rules;have e2:IntKind.u64.wrap ((c:Int)+1)=(c:Int)+1:=tU _ V;clear b6 R6 M6 b7 F7 b8 F8 R8 M8 π Q σ;go_wp2;go_ret;exact⟨⟨_,O⟩,HX.o⟩
abbrev fS(w:D)(base:Nat)(v:H)(L:List z):Prop:=Row w base 64 14 aj v L
def NM(x:z):∀u∈(aj x).toList,u.oneCell'=true:=by intro u a;simp only[Dn,dh,sL,lE]at a;rcases a with rfl|rfl|rfl|rfl|rfl|rfl|rfl|rfl|rfl|rfl|rfl|rfl|rfl|rfl<;>rfl
def fS.app(ty:ay){L aeL:List z}(h:fS w base v L)(n:dK w B 14 A aeL.length (cZ aj aeL))(r:L.length+aeL.length<=1000000)(a:base<=w.heap.size):
  ∃e d,(iU 175 ty v (.slice A aeL.length cap)).run prog w=.ok (.value e) d/\fS d base e (L++aeL)/\iO base [64] w d/\w.grownBy d v.ownBlock/\(e.ownBlock=v.ownBlock\/∀b,e.ownBlock=some b->w.heap.size<=b):=by
 obtain⟨j,p,l,m,o⟩:=i7 Gm;exact Row.app w 175 ty j _ 112 underlying175 p l m o O ai l9 NM h (cap:=cap) n r ai a
@[go_sem ↓ high] def abK:=@mr 175
def sk(x y:fj):Int:=Lib.compareInt x.at_ y.at_
def AC(x y:fj):Go.Proofs.ltOf sk x y=decide (x.at_<y.at_):=by unfold Go.Proofs.ltOf sk Lib.compareInt;by_cases a:x.at_<y.at_;simp[a];by_cases d:y.at_<x.at_<;>simp[a,d]
def SA:Go.Sort.SWO (Go.Proofs.ltOf sk) where
 irrefl x:=by rw[AC];simp
 trans x y aeU h1 h2:=by rw[AC]at*;simp at*;omega
 ntrans x y aeU h1 h2:=by rw[AC]at*;simp at*;omega
instance:Inhabited fj:=⟨⟨⟨0,0,an.zero,0,0,0,0,0,0⟩,0⟩⟩
def YE(x y:fj)(w:D):Calls prog 295 #[.agg (gw x),.agg (gw y)] w λe l=>e=.returned (Z (sk x y))/\∃d h,l=Go.Sort.grow (w.drewN d) h:=by have n:=U λW=>AW x.at_ y.at_ W;have m:sk x y=Lib.compareInt x.at_ y.at_:=rfl;rw[m];clear m;generalize Lib.compareInt x.at_ y.at_=b at n⊢;go_in;go_upto_region 1 with fail;have a:aI w _ _:=((aI.nil w).push (t:=292) (cs:=gw x) O).push (t:=292) (cs:=gw y) (g:=w.heap.size+1) ah;have p:=a.rules;have r:=a.lts;generalize j:(w.alloc _).alloc _=W0 at a p r⊢;have u:=U (show w.drawn<=W0.drawn by rw[<-j];exact ao _);have s:=U a;obtain⟨J,F,E,K,-⟩:=p;obtain⟨G,C,-⟩:=r;clear j a;go_wp2_with (go_at_call 67;apply(n.o _).mono;rintro e l ⟨rfl,rfl⟩);go_ret;exact⟨O,Fp s.o.below u.o⟩
def Vh{G:List fj}(h:kG w base v G)(X:G.length<=1000000):Calls prog 294 #[v,.func (.func 295) #[] #[]] w λr l=>r=.returned (.tuple #[])/\∃s,kG l base v s/\G.Perm s/\w.grownBy l v.ownBlock:=by have E:∀a w,(callFunc 295 a).run prog w=.ok (.enter 295 a) w:=kT func295 Y O;have j:∀m off size W,Go.Proofs.CmpLays prog 295 #[] (λx=>(gw x).toList) 15 sk m off size W:=λ_ _ _ _ _ _ _ _ x y=>YE x y _;rcases yu G.length with h0|h0;have:G=[]:=tS.1 h0;subst this;obtain⟨A,cap,rfl,-,-⟩:=h.sl;apply(Cw FZ A cap _ w).mono;rintro r l ⟨rfl,rfl⟩;exact⟨O,[],h,List.Perm.nil,⟨O,O,O,ao _,λ_ _ _=>rfl⟩⟩;obtain⟨g,cap,rfl,hc,hm,R,o⟩:=h.sl_pos h0;have e:=AnyQ.slices_SortFunc FZ 15 isAgg292 sizeOf292 (λx=>(gw x).toList) (λ_=>rfl) (λx v Q=>DX x v Q) sk SA 295 #[] g 0 cap G.toArray w E (j g 0 G.toArray.size w) (KB pl ai h) o aQ;change Calls prog 294 _ _ _ at e;refine o4 e ?_;rintro r l ⟨rfl,p,n,os,F,T,J⟩;obtain⟨K,u⟩:=Df (d:=G.toArray) (az F);have L:p.toList.length=G.length:=az u;obtain⟨C,P⟩:=JO (L':=p.toList) pl ai h L (az J);exact⟨O,p.toList,C,K,P⟩
def ZJ(v:Nat->H)(k:Nat)(h:k<6)(w:D):(Instr.index 234 (.agg #[v 0,v 1,v 2,v 3,v 4,v 5]) (Z (k:Int))).run prog w=.ok (v k) w:=
 an.six (P:=λk=>(Instr.index 234 (.agg #[v 0,v 1,v 2,v 3,v 4,v 5]) (Z (k:Int))).run prog w=.ok (v k) w) Y Y Y Y Y Y k h
@[go_sem ↓ high] theorem abR(ρ:aO->H)(dst:Option Tmp)(x:aO)(ty:ay)(pos:String)(after:Array Edge)(guard:Option (Nat×Bool)):execOp ρ {dst,op:=.load 234 x,type:=ty,pos,after,guard}=dQ 234 (ρ x):=by simp[execOp,dQ]
def Xe{v:Nat->H}(h:M w b 236 (iL v kn c)):(dQ 234 (N b)).run prog w=.ok (.value (.agg #[v 0,v 1,v 2,v 3,v 4,v 5])) w:=by refine eO (λi u a=>?_) underlying234 O (by show _=some 6;kernel_rfl);rw[cA,h.cell];have d:i<6:=(fI.1 a).1;rw[GN _ _ _ i d];have:i=0\/i=1\/i=2\/i=3\/i=4\/i=5:=V;rcases this with rfl|rfl|rfl|rfl|rfl|rfl<;>exact a
def qJ(f:Nat->Nat):Nat->Nat
 |0=>0
 |k+1=>qJ f k+f k
def Na(f:Nat->Nat){j:Nat}(h:j<=k):qJ f j<=qJ f k:=by
 induction h with
 |refl=>exact ao _
 |step _ ih=>exact aZ ih (mO _ _)
def KX(f:Nat->Nat):qJ f 6=rT f:=by simp[qJ,rT]
def Rh{α:Type}{c:α->Array H}{sz:Nat}(d:∀x,(c x).size=sz){e:ay}{n i:Nat}{L:List α}(h:Row w base e sz c (.slice A n cap) L)(r:i<=L.length):dK w w.heap.size sz (A.map λx=>x.add (i*sz)) (L.drop i).length (cZ c (L.drop i)):=by
 have p:=h.rd O;refine⟨lF d _,λl=>?_⟩;rw[kx]at l;obtain⟨b,o,rfl,y,a⟩:=p.2 V;refine⟨b,o+i*sz,by rw[pX,mU],y,λj u s=>?_⟩;have m:cZ c L=cZ c (L.take i)++cZ c (L.drop i):=by rw[<-Jn,lV]
 have C:(cZ c (L.take i)).length=i*sz:=by rw[lF d,il,Nat.min_eq_left r]
 have:=a (i*sz+j) u (by rw[m,pZ V,C,Nat.add_sub_cancel_left];exact s);rwa[<-gQ]at this
def Tl{α:Type}{c:α->Array H}{sz:Nat}(d:∀x,(c x).size=sz){i:Nat}{L:List α}(e:L.length<=i):dK w B sz A (L.drop i).length (cZ c (L.drop i)):=
 ⟨lF d _,λa=>by rw[kx]at a;omega⟩
def Qo(y:fj)(W:D):∃a,(eQ 292 (N W.heap.size) (.agg (gw y))).run prog (W.alloc (.cells #[Z 0,q 0,q 0,q 0,q 0,q 0,q 0,q 0,.int .u8 0,q 0,Z 0,Z 0,q 0,q 0,q 0] 292))=.ok .skip a/\M a W.heap.size 292 (gw y)/\S W a/\a.heap.size=W.heap.size+1:=by have d:M (W.alloc (.cells #[Z 0,q 0,q 0,q 0,q 0,q 0,q 0,q 0,.int .u8 0,q 0,Z 0,Z 0,q 0,q 0,q 0] 292)) W.heap.size 292 #[Z 0,q 0,q 0,q 0,q 0,q 0,q 0,q 0,.int .u8 0,q 0,Z 0,Z 0,q 0,q 0,q 0]:=M.new _ _ _;exact⟨_,ft d (zD y) O (Sj y),dt d (gw y),(fl _ _ _).below ((aq _ _).alloc (ao _) _) (ao _) (λ_ h=>aK h),by simp[World.setRow]⟩
def Ud{y:fj}(h:M w g t (gw y)):lB w g 0 (aj y.e):=λj u a=>by rw[cA,h.cell];have d:j<14:=(fI.1 a).1;have:j=0\/j=1\/j=2\/j=3\/j=4\/j=5\/j=6\/j=7\/j=8\/j=9\/j=10\/j=11\/j=12\/j=13:=V;rcases this with rfl|rfl|rfl|rfl|rfl|rfl|rfl|rfl|rfl|rfl|rfl|rfl|rfl|rfl<;>exact a
def Vl{v:Nat->H}{C:Nat->List fj}(h:kb w base b v C kn c)(hc:c<=900000)(hG:∀k,k<6->∀x∈C k,Gl x.e)(v1:an)(n:Int):Calls prog 275 #[N b,.agg (aF v1),Z n] w λr W=>∃u L,r=.returned u/\fS W w.heap.size u L/\L.length<=c/\(∀e∈L,Gl e)/\S w W:=by
 have σ:=U hG;clear hG;have HH:=U h;have D0:S w (w.alloc (.cells (aF v1) 33)):=(aq _ _).alloc (ao _) _;have η:=Xe (h.call D0).blk;have X:=U D0;have B1:=M.new w 33 (aF v1);generalize hW:w.alloc (.cells (aF v1) 33)=W0 at η X B1;clear h D0;go_in;go_upto_region 4 with fail;have HV:=U B1;clear hW B1;go_wp2_with fail;clear η;go_loopw [7,18] (λv7 i wr=>∃(k:Nat) (L:List fj),k<=6/\i=Z k/\kG wr W0.heap.size v7 L/\L.length<=qJ (λj=>(C j).length) k/\(∀x∈L,Gl x.e)/\S W0 wr) (λ_ i _=>6-(intOf i).toNat);exact⟨0,[],V,O,Row.nil,ao _,ah,aq _ _⟩;obtain⟨k,L,hk,rfl,d,p,R,s⟩:=hrel;by_cases E:k<6
 ·have hd:=cO ((k:Int)<6);have DW:=X.o.trans (s.mono X.o.size);have hr:=Row.call (HH.o.row k E) DW;obtain⟨Ak,ck,α,Γ,Ξ⟩:=hr.sl;rw[α]at hr;have β:=ZJ v k E wr;rw[α]at β;have κ:wr.cell? (I w.heap.size k)=some (q (v1.get k)):=by rw[(HV.o.call s).cell];exact rH v1 k E
  have hl:=(HV.o.call s).lt;have ν:(C k).length<=c:=by rw[<-HH.o.cnt];exact Fb (f:=λk=>(C k).length) E
  have CP:=U (Vm hr V (v1.get k));have J:=cQ d p R s;have τ:=U hr;clear d p R s DW hr α;have k0:(0:Int)<=(k:Int):=V;have k6:(k:Int)<6:=V;go_wp2_with fail;apply CP.o.mono;rintro r w2 ⟨⟨i,rfl,hi⟩,F⟩;have HI:=U hi;have μ:L.length+(C k).length<=c:=by have h1:=J.o.2.1;have h2:=HH.o.cnt;have h3:=Na (λj=>(C j).length) (bU (k+1<=6));rw[KX,h2]at h3;simp only[qJ]at h3;omega
  clear β κ hl CP;replace F:=U F;have T:∀(A2:Option Addr) (c2:Nat),dK w2 w2.heap.size 15 A2 ((C k).drop i).length (cZ gw ((C k).drop i))->∃v' W,(iU 233 233 u7 (.slice A2 ((C k).length-i) c2)).run prog w2=.ok (.value v') W/\kG W W0.heap.size v' (L++(C k).drop i)/\S W0 W:=λA2 c2 K=>by obtain⟨v',W,h1,h2,h3,h4,-⟩:=kG.app 233 (Row.call J.o.1 F.o) (cap:=c2) K (by rw[kx];omega) (cF J.o.2.2.2.size F.o.size);rw[kx]at h1;exact⟨v',W,h1,h2,(J.o.2.2.2.trans (F.o.mono J.o.2.2.2.size)).trans h3.below⟩
  have HN:L.length+((C k).length-i)<=qJ (λj=>(C j).length) (k+1):=by have h1:=J.o.2.1;simp only[qJ];omega
  have bl:∀x∈L++(C k).drop i,Gl x.e:=λx hx=>by rcases bP.1 hx with hx|hx;exact J.o.2.2.1 x hx;exact σ.o k E x (rj hx)
  have HX:=aB HN bl;clear HN bl μ ν;by_cases Φ:ck=i
  ·obtain⟨v',w3,θ,l,Q⟩:=T Ak 0 (Tl pl V);have H3:=aB l Q;clear T l Q hi;go_wp2;go_roundw
   ·exact⟨k+1,L++(C k).drop i,V,by go_num,H3.o.1,by rw[bW,kx];exact HX.o.1,HX.o.2,H3.o.2⟩
   simp[intOf];omega
  obtain⟨v',w3,θ,l,Q⟩:=T (Ak.map λx=>x.add (i*15)) (ck-i) (Rh pl (Row.call τ.o F.o) HI.o);have H3:=aB l Q;clear T l Q hi;go_wp2;go_roundw
  ·exact⟨k+1,L++(C k).drop i,V,by go_num,H3.o.1,by rw[bW,kx];exact HX.o.1,HX.o.2,H3.o.2⟩
  simp[intOf];omega
 obtain rfl:k=6:=V;have Ψ:L.length<=c:=by rw[KX,HH.o.cnt]at p;exact p
 obtain⟨A7,c7,rfl,ψ,χ⟩:=d.sl;have CS:=U (Vh d V);have J:=aP d R s;clear d R s p;go_wp2_with fail;apply CS.o.mono;rintro r w2 ⟨rfl,G,hG,hp,hg⟩;have HG:=aP hG hp ((aq _ _).grown hg J.o.2.2.size λk hk=>(hG.ge k hk).1);have hl:=hp.length_eq;clear hG hp hg CS;obtain⟨m,hM⟩:∃m:Nat,max (min n (G.length:Int)) 0=(m:Int):=⟨(max (min n (G.length:Int)) 0).toNat,V⟩;have Ω:m<=G.length:=V;have HM:=U hM;clear hM;go_wp2_with fail;rw[HM.o,yy];go_loopw [6,11,42,43,44,45,46,47,48,49,50,51] (λv6 _ i _ _ _ _ _ _ _ _ _ δ=>∃k:Nat,k<=m/\i=Z k/\fS δ w2.heap.size v6 ((G.take k).map (·.e))/\S w2 δ) (λ_ _ i _ _ _ _ _ _ _ _ _ _=>m-(intOf i).toNat);exact⟨0,V,O,Row.nil,aq _ _⟩;obtain⟨k,hk,rfl,d,s⟩:=hrel;by_cases E:k<m
 ·have hd:=cO ((k:Int)<(m:Int));obtain⟨y,hy⟩:∃y,G[k]? =some y:=⟨G[k],bY V⟩;obtain⟨g,cap,hs,γ,ξ,υ,Δ⟩:=HG.o.1.sl_pos V;obtain⟨rfl,π⟩:A7=some (I g 0)/\c7=cap:=by injection hs with a b c;exact⟨a,c⟩
  have K:=(Row.call HG.o.1 s);rw[hl]at K;have ι:=K.rng pl hy;have ω:=eO (P:=prog) ι underlying292 O (zD y);obtain⟨W1,Θ,B1,D1,t⟩:=Qo y wr;have φ:=eO (P:=prog) (Ud B1) underlying64 O (iQ y.e);have D2:S W1 (W1.alloc (.cells (aj y.e) 64)):=(aq _ _).alloc (ao _) _;have B2:M (W1.alloc (.cells (aj y.e) 64)) W1.heap.size 64 (aj y.e):=M.new _ _ _;obtain⟨v',w6,k1,k2,k3,-,-⟩:=fS.app 175 (Row.call (Row.call d D1) D2) (A:=some (I W1.heap.size 0)) (cap:=1) (jn l9 B2) (by rw[j3,il];simp;omega) (by have:=s.size;have:=D1.size;have:=D2.size;omega);simp only[dN,g8,cA,t]at k1;have ζ:S w2 w6:=((s.trans (D1.mono s.size)).trans (D2.mono (cF s.size D1.size))).trans k3.below;have H6:=aB k2 ζ;have k0:(0:Int)<=(k:Int):=V;have kM:(k:Int)<(m:Int):=V;have B:=U hy;clear k2 k3 ζ D1 D2 B2 d s hs γ ξ υ π K ι hy;go_wp2;go_roundw
  ·refine⟨k+1,V,by go_num,?_,H6.o.2⟩;rw[gP,B.o];simpa using H6.o.1
  simp[intOf];omega
 obtain rfl:k=m:=V;have ε:=aB d s;clear d s;go_wp2;go_ret;refine⟨_,_,O,ε.o.1.mono ?_,?_,λe he=>?_,?_⟩;have:=X.o.size;have:=J.o.2.2.size;have:=HG.o.2.2.size;omega;rw[j3,il];omega;obtain⟨x,hx,rfl⟩:=dY.1 he;exact J.o.2.1 x (HG.o.2.1.symm.subset (mM hx));have h1:=X.o.trans (J.o.2.2.mono X.o.size);have h2:=h1.trans (HG.o.2.2.mono X.o.size);exact h2.trans (ε.o.2.mono h2.size)
def Vr{p:Nat}{v:Nat->H}{J:Nat->List fj}(E:sq w p f)(h:kb w base b v J kn c)(R:c<=900000)(P:∀k,k<6->∀x∈J k,Gl x.e)(K:k<6)(n:Int):Calls prog 254 #[N p,Z ((k:Int)+1),N b,Z n] w λr l=>∃u L,r=.returned u/\fS l w.heap.size u L/\L.length<=c/\(∀e∈L,Gl e)/\S w l:=by have C:=U (Zb E K);have Q:=U h;clear E h;go_in;go_wp2_with fail;apply C.o.mono;rintro r W ⟨rfl,d⟩;have j:=U d;have G:=U (Vl (Q.o.call d) R P (kI f k) n);clear d C;go_wp2_with fail;apply G.o.mono;rintro r T ⟨u,L,rfl,y,m,F,s⟩;have a:=cQ y m F s;clear y m F s G;go_wp2;go_ret;exact⟨u,L,O,a.o.1.mono j.o.size,a.o.2.1,a.o.2.2.1,j.o.trans (a.o.2.2.2.mono j.o.size)⟩
def xS(x:Int)(b:Bool)(a:decide (1<=x/\x<=1125899906842624)=b)(w:D):Calls prog 296 #[Z x] w λr h=>r=.returned (.bool b)/\h=w:=by
 by_cases e:1<=x
 ·by_cases d:x<=1125899906842624
  ·go_wp2;go_ret;exact⟨by rw[<-a];simp[e,d],O⟩
  go_wp2;go_ret;exact⟨by rw[<-a];simp[d],O⟩
 go_wp2;go_ret;exact⟨by rw[<-a];simp;omega,O⟩
def pw(x y:Int):Int:=if 1<=x/\x<=1125899906842624/\1<=y/\y<=1125899906842624 then min y ((x+1)/2)else 0
def VF(x y:Int)(w:D):Calls prog 284 #[Z x,Z y] w λr h=>r=.returned (Z (pw x y))/\h=w:=by
 by_cases j:1<=x/\x<=1125899906842624
 ·have m:=U λW=>xS x true (by simp[j]) W;by_cases l:1<=y/\y<=1125899906842624
  ·have n:=U λW=>xS y true (by simp[l]) W;have a:pw x y=min y ((x+1)/2):=by unfold pw;rw[av ⟨j.1,j.2,l.1,l.2⟩]
   have C:IntKind.i64.wrap (x+1)=x+1:=bS _ V;have s:(x+1).tdiv 2=(x+1)/2:=vw V;have u:IntKind.i64.wrap ((x+1)/2)=(x+1)/2:=bS _ V;obtain⟨d,p⟩:=aM ((x+1)/2);rw[p]at u s a;rw[a];clear a j l p;go_in;go_wp2_with (first|(go_at_call 296;apply(m.o _).mono;rintro e h ⟨rfl,rfl⟩)|(go_at_call 296;apply(n.o _).mono;rintro e h ⟨rfl,rfl⟩));go_ret;exact⟨O,O⟩
  have n:=U λW=>xS y false aQ W;have a:pw x y=0:=by unfold pw;rw[al V]
  rw[a];clear a j l;go_in;go_wp2_with (first|(go_at_call 296;apply(m.o _).mono;rintro e h ⟨rfl,rfl⟩)|(go_at_call 296;apply(n.o _).mono;rintro e h ⟨rfl,rfl⟩));go_ret;exact⟨O,O⟩
 have m:=U λW=>xS x false aQ W;have a:pw x y=0:=by unfold pw;rw[al V]
 rw[a];clear a j;go_in;go_wp2_with (go_at_call 296;apply(m.o _).mono;rintro e h ⟨rfl,rfl⟩);go_ret;exact⟨O,O⟩
def Qm(x:eB)(W:D):∃a,(eQ 52 (N W.heap.size) (.agg (eW x))).run prog (W.alloc (.cells (eW eB.zero) 52))=.ok .skip a/\M a W.heap.size 52 (eW x)/\S W a/\a.heap.size=W.heap.size+1:=by have d:M (W.alloc (.cells (eW eB.zero) 52)) W.heap.size 52 (eW eB.zero):=M.new _ _ _;exact⟨_,ft d (wP x) (by rw[mT,mT]) (RV x),dt d (eW x),(fl _ _ _).below ((aq _ _).alloc (ao _) _) (ao _) (λ_ h=>aK h),by simp[World.setRow]⟩
def VE{bi bs bn:Nat}(E:ax w [(bi,3,#[Z i]),(bs,37,aT inn kn vN vG),(bn,31,#[q node])])(hN:eV w base vN aeM)(hn:aeM.length<=1000000)(R:k<6):
  Calls prog 279 #[Z ((k:Int)+1),N bi,N bs,N bn] w λr w'=>(∃n:Int,r=.returned (Z n))/\S w w':=by
 obtain⟨A,c,rfl,hc,hm⟩:=hN.sl;have HN:=U hN;have HB:=U E;obtain⟨F,K,W,T,q2,f2,-⟩:=E.rules;obtain⟨l0,l1,l2,-⟩:=E.lts;have C:=FO inn kn (.slice A aeM.length c) vG k R;have a2:=KN inn kn (.slice A aeM.length c) vG k R;have e1:IntKind.i64.wrap (k:Int)=(k:Int):=bS _ V;have k0:(0:Int)<=(k:Int):=V;have k6:(k:Int)<6:=V;clear E hN;by_cases x:(k:Int)+1=i
 ·have d1:((k:Int)+1==i)=true:=by simp[x]
  clear x;go_wp2;go_ret;exact⟨⟨_,O⟩,aq _ _⟩
 have d1:((k:Int)+1==i)=false:=az x;clear x;rcases G:inn k with _|_
 ·rw[G]at C;go_wp2;go_ret;exact⟨⟨_,O⟩,aq _ _⟩
 rcases h3:inn (6+k)with _|_;rotate_left
 ·rw[G]at C;rw[h3]at a2;go_wp2;go_ret;exact⟨⟨_,O⟩,aq _ _⟩
 rw[G]at C;rw[h3]at a2;go_in;go_wp2_with fail;clear C a2 F K W T q2 f2 l0 l1 l2 d1;go_loopw [5,29] (λv5 v wr=>∃(d:Nat) (n:Int),d<=aeM.length/\v=Z d/\v5=Z n/\S w wr) (λ_ v _=>aeM.length-(intOf v).toNat);exact⟨0,_,V,O,O,aq _ _⟩;obtain⟨d,n,ε,rfl,rfl,h⟩:=hrel;by_cases δ:d<aeM.length
 ·have hd:=cO ((d:Int)<aeM.length);obtain⟨y,hy⟩:∃y,aeM[d]? =some y:=⟨aeM[d],bY V⟩;obtain⟨g,cap,hs,m,X,β,ζ⟩:=HN.o.sl_pos V;obtain⟨rfl,Q⟩:A=some (I g 0)/\c=cap:=by injection hs with a b c;exact⟨a,c⟩
  have p:=(Row.call HN.o h).rng mT hy;have α:=eO (P:=prog) p underlying52 O (wP y);obtain⟨W1,L,B1,J,z1⟩:=Qm y wr;have γ:=i9 (w:=W1) (g:=wr.heap.size) (o:=2) (f:=y.r) (λj u hu=>by rw[B1.cell,GL];exact hu);have R1:=(HB.o.call (h.trans (J.mono h.size))).rules;obtain⟨F,K,W,T,q2,f2,-⟩:=R1;have q3:=B1.cell;have y0:=xD y;have C1:=U (wM y.r k R W1);have HX:=U (h.trans (J.mono h.size));have i0:(0:Int)<=(d:Int):=V;have iN:(d:Int)<(aeM.length:Int):=V;clear h J p hs m X β Q hy;by_cases e:y.id=node
  ·have l:(y.id==node)=true:=by simp[e]
   clear e;go_wp2_with fail;apply C1.o.mono;rintro r w2 ⟨rfl,s⟩;have H2:=U (HX.o.trans (s.mono HX.o.size));clear C1 s F K W T q2 f2 q3 γ L α y0;go_wp2;go_roundw
   ·exact⟨d+1,_,V,by go_num,O,H2.o⟩
   simp[intOf];omega
  have l:(y.id==node)=false:=az e;clear e;go_wp2;go_roundw
  ·exact⟨d+1,_,V,by go_num,O,HX.o⟩
  simp[intOf];omega
 obtain rfl:d=aeM.length:=V;go_wp2;go_ret;exact⟨⟨_,O⟩,h⟩
def Wy{u bs s:Nat}(E:ax w [(u,3,#[Z i]),(bs,37,aT inn kn vN vG),(s,31,#[q node])])(F:eV w base vN aeM)(T:aeM.length<=1000000):
  Calls prog 278 #[.func (.func 279) #[] #[N u,N bs,N s]] w λr J=>(∃n:Int,0<=n/\n<=6/\r=.returned (Z n))/\S w J:=by
 have L:=U E;have Q:=U F;clear E F;go_wp2;go_loopw [2,3,4] (λP K R wr=>∃(k:Nat) (n m:Int),k<=6/\R=Z ((k:Int)+1)/\K=Z m/\P=Z n/\0<=n/\n<=6/\S w wr) (λ_ _ v _=>7-(intOf v).toNat);exact⟨0,0,0,V,O,O,O,V,V,aq _ _⟩;obtain⟨k,n,m,X,rfl,rfl,rfl,l,j,a⟩:=hrel;by_cases e:k<6
 ·have W:=cO ((k:Int)+1<=6);have e1:IntKind.i64.wrap ((k:Int)+1+1)=(k:Int)+1+1:=bS _ V;have y:=U (VE (L.o.call a) (Row.call Q.o a) T e);have G:=U a;clear a;go_wp2_with fail;apply y.o.mono;rintro r w2 ⟨⟨x,rfl⟩,p⟩;have C:=U (G.o.trans (p.mono G.o.size));clear p y;by_cases d:x>m
  ·have h:decide (x>m)=true:=fa d;clear d;go_wp2;go_roundw
   ·exact⟨k+1,(k:Int)+1,x,V,by go_num,O,O,V,V,C.o⟩
   simp[intOf];omega
  have h:decide (x>m)=false:=fO d;clear d;go_wp2;go_roundw
  ·exact⟨k+1,n,m,V,by go_num,O,O,V,V,C.o⟩
  simp[intOf];omega
 obtain rfl:k=6:=V;go_wp2;go_ret;exact⟨⟨n,l,j,O⟩,a⟩
def Wz(s:eV w base vN aeM)(K:aeM.length<=1000000):
  Calls prog 256 #[.agg (aT inn kn vN vG),Z i,q node] w λr G=>(∃n:Int,0<=n/\n<=6/\r=.returned (Z n))/\S w G:=by
 have y:S w (w.alloc (.cells (aT inn kn vN vG) 37)):=(aq _ _).alloc (ao _) _;have d:ax (w.alloc (.cells (aT inn kn vN vG) 37)) [(w.heap.size,37,aT inn kn vN vG)]:=ax.nil.push O;have l:=d.push (t:=3) (cs:=#[Z i]) (g:=w.heap.size+1) ah;have u:=l.push (t:=31) (cs:=#[q node]) (g:=w.heap.size+2) ah;have e:=(y.alloc ah (.cells #[Z i] 3)).alloc aQ (.cells #[q node] 31);have a:=aB u e;generalize L:((w.alloc (.cells (aT inn kn vN vG) 37)).alloc (.cells #[Z i] 3)).alloc (.cells #[q node] 31)=W at a;have j:ax W [(w.heap.size+1,3,#[Z i]),(w.heap.size,37,aT inn kn vN vG),(w.heap.size+2,31,#[q node])]:=a.o.1.perm (by intro x C;simp only[dh,sL,lE]at C⊢;rcases C with h|h|h<;>simp[h]);have m:=U (Wy j (Row.call s a.o.2) K);clear j;clear y d l u e s;go_in;go_wp2_with fail;apply m.o.mono;rintro r P ⟨⟨n,J,F,rfl⟩,p⟩;have E:=U (a.o.2.trans (p.mono a.o.2.size));clear p m a;go_wp2;go_ret;exact⟨⟨n,J,F,O⟩,E.o⟩
def NB(x:Int):∀u∈(nD x).toList,u.oneCell'=true:=by intro u a;simp[nD]at a;subst a;rfl
abbrev qP(w:D)(base:Nat)(v:H)(L:List Int):Prop:=Row w base 3 1 nD v L
def Sl:(prog.info? 3).map (λi=>(i.zero,i.size,i.bytes))=some (some (Z 0),1,8):=Y
def qP.app(ty:ay){L aeL:List Int}(h:qP w base v L)(n:dK w B 1 A aeL.length (cZ nD aeL))(r:L.length+aeL.length<=1000000)(a:base<=w.heap.size):
  ∃e d,(iU 56 ty v (.slice A aeL.length cap)).run prog w=.ok (.value e) d/\qP d base e (L++aeL)/\iO base [3] w d/\w.grownBy d v.ownBlock/\(e.ownBlock=v.ownBlock\/∀b,e.ownBlock=some b->w.heap.size<=b):=by
 obtain⟨j,p,l,m,o⟩:=i7 Sl;exact Row.app w 56 ty j _ 8 underlying56 p l m o O ai vX NB h (cap:=cap) n r ai a
@[go_sem ↓ high] def acj:=@mr 56
@[go_sem ↓ high] def ab2:=@lz 56
@[go_sem ↓ high] def abW:=@iY 30
@[go_sem] theorem acr(x:Int)(w:D):(ke 56 (Z x)).run prog w=.ok (.value (bh w.heap.size 1 1)) (w.alloc (.cells (nD x) 3)):=Y
def ZK(f:Nat->Bool)(k:Nat)(h:k<6)(w:D):(Instr.index 30 (.agg #[.bool (f 0),.bool (f 1),.bool (f 2),.bool (f 3),.bool (f 4),.bool (f 5)]) (Z (k:Int))).run prog w=.ok (.bool (f k)) w:=
 an.six (P:=λk=>(Instr.index 30 (.agg #[.bool (f 0),.bool (f 1),.bool (f 2),.bool (f 3),.bool (f 4),.bool (f 5)]) (Z (k:Int))).run prog w=.ok (.bool (f k)) w) Y Y Y Y Y Y k h
def AP{x y:H}(h:M w g 37 (aT inn kn x y)):(dQ 30 (N g)).run prog w=.ok (.value (.agg #[.bool (inn 0),.bool (inn 1),.bool (inn 2),.bool (inn 3),.bool (inn 4),.bool (inn 5)])) w:=by refine eO (λi u a=>?_) underlying30 O (by show _=some 6;kernel_rfl);rw[cA,h.cell];have d:i<6:=(fI.1 a).1;rw[FO _ _ _ _ i d];have:i=0\/i=1\/i=2\/i=3\/i=4\/i=5:=V;rcases this with rfl|rfl|rfl|rfl|rfl|rfl<;>exact a
def Wb:Calls prog 245 #[.agg (aT inn kn vN vG)] w λr G=>∃u L,r=.returned u/\qP G w.heap.size u L/\L.length<=6/\(∀x∈L,1<=x/\x<=6)/\S w G:=by
 have C:S w (w.alloc (.cells (aT inn kn vN vG) 37)):=(aq _ _).alloc (ao _) _;have s:=M.new w 37 (aT inn kn vN vG);have m:=AP s;generalize X:w.alloc (.cells (aT inn kn vN vG) 37)=W0 at m C s;have E:=U C;have HB:=U s;clear C s;go_in;go_wp2_with fail;clear m X;go_loopw [2,7] (λv2 i wr=>∃(k:Nat) (L:List Int),k<=6/\i=Z k/\qP wr W0.heap.size v2 L/\L.length<=k/\(∀x∈L,1<=x/\x<=6)/\S W0 wr) (λ_ i _=>6-(intOf i).toNat);exact⟨0,[],V,O,Row.nil,ah,ah,aq _ _⟩;obtain⟨k,L,hk,rfl,a,l,p,e⟩:=hrel;by_cases j:k<6
 ·have hd:=cO ((k:Int)<6);have h:=ZK inn k j wr;have Q:=HB.o.call e;have q0:=Q.cell;have R:=KN inn kn vN vG k j;have e1:IntKind.i64.wrap ((k:Int)+1)=(k:Int)+1:=bS _ V;have k0:(0:Int)<=(k:Int):=V;have k6:(k:Int)<6:=V;have n:S wr (wr.alloc (.cells (nD ((k:Int)+1)) 3)):=(aq _ _).alloc (ao _) _;have T:M (wr.alloc (.cells (nD ((k:Int)+1)) 3)) wr.heap.size 3 (nD ((k:Int)+1)):=M.new _ _ _;obtain⟨v',w6,W,P,J,-,-⟩:=qP.app 56 (Row.call a n) (A:=some (I wr.heap.size 0)) (cap:=1) (jn vX T) aQ (cF e.size n.size);simp only[dN,g8,cA]at W;have F:=aB P ((e.trans (n.mono e.size)).trans J.below);have d:=aP a p e;clear P J n T Q a p e;rcases y:inn k with _|_
  ·rw[y]at h;go_wp2;go_roundw
   ·exact⟨k+1,L,V,by go_num,d.o.1,V,d.o.2.1,d.o.2.2⟩
   simp[intOf];omega
  rcases K:inn (6+k)with _|_
  ·rw[y]at h;rw[K]at R;go_wp2;go_roundw
   ·refine⟨k+1,L++[(k:Int)+1],V,by go_num,F.o.1,by simp;omega,λx hx=>?_,F.o.2⟩;rcases bP.1 hx with hx|hx;exact d.o.2.1 x hx;rw[dd.1 hx];omega
   simp[intOf];omega
  rw[y]at h;rw[K]at R;go_wp2;go_roundw
  ·exact⟨k+1,L,V,by go_num,d.o.1,V,d.o.2.1,d.o.2.2⟩
  simp[intOf];omega
 obtain rfl:k=6:=V;have d:=aP a p e;clear a p e;go_wp2;go_ret;exact⟨_,L,O,d.o.1.mono E.o.size,l,d.o.2.1,E.o.trans (d.o.2.2.mono E.o.size)⟩
section
variable{w:D}{base:Nat}{v:H}{l:List Int}
def TH(h:qP w base v l)(X:l.length<=1000000)(x:Int):Calls prog 264 #[v,Z x] w λr P=>∃n:Int,r=.returned (Z n)/\(0<=n↔x∈l)/\w=P:=by
 obtain⟨A,c,rfl,hc,hm⟩:=h.sl;have p:=U h;clear h;go_wp2;go_loop [8] (λi=>∃k:Nat,k<=l.length/\i=Z k/\x∉l.take k) (λi=>l.length-(intOf i).toNat);exact⟨0,V,O,ah⟩;obtain⟨k,W,rfl,C⟩:=hrel;by_cases E:k<l.length
 ·obtain⟨y,K⟩:∃y,l[k]? =some y:=⟨l[k],bY E⟩;obtain⟨g,cap,L,m,J,T,R⟩:=p.o.sl_pos V;have e:=p.o;rw[L]at e;have s:=e.rng vX K;obtain⟨rfl,G⟩:A=some (I g 0)/\c=cap:=by injection L with a b c;exact⟨a,c⟩
  have Q:w.cell? (I g k)=some (Z y):=by have this:=s 0 (Z y) O;rw[iP]at this;exact this
  have u:=aB C K;clear e s L m J G C K;by_cases d:x=y
  ·have F:(x==y)=true:=by simp[d]
   have j:=U d;clear d;go_wp2;go_ret;exact⟨_,O,⟨λ_=>j.o▸cX u.o.2,λ_=>V⟩,O⟩
  have F:(x==y)=false:=az d;have j:=U d;clear d;go_wp2;go_round;refine⟨k+1,V,ah,λhm=>?_⟩;rw[gP,u.o.2]at hm;rcases bP.1 hm with hm|hm;exact u.o.1 hm;exact j.o (az hm);simp[intOf];omega
 obtain rfl:k=l.length:=V;have u:=U C;clear C;go_wp2;go_ret;refine⟨_,O,⟨λh=>V,λh=>?_⟩,O⟩;have:=u.o;rw[jt]at this;exact absurd h this
def Nd(h:qP w base v l)(j:l.length<=1000000)(x:Int)(b:Bool)(a:decide (x∈l)=b):Calls prog 246 #[v,Z x] w λr d=>r=.returned (.bool b)/\w=d:=by have m:=U (TH h j x);have e:=U a;obtain⟨A,c,rfl,y,s⟩:=h.sl;clear h a;go_in;go_wp2_with fail;apply m.o.mono;rintro r u ⟨n,rfl,p,rfl⟩;go_wp2;go_ret;refine⟨?_,O⟩;rw[<-e.o];simp[p]
end
