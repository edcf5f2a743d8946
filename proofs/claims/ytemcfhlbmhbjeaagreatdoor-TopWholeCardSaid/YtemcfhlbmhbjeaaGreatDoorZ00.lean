import Derived.Test.YtemcfhlbmhbjeaaGreatDoorZA
import Derived.Deep.Draws
set_option maxRecDepth 100000
set_option maxHeartbeats 0
set_option linter.all false
namespace Go.Proofs.YtemcfhlbmhbjeaaGreatDoor
open Go.Proofs.Tryz
variable{B g base size n:Nat}{v:H}{e t:ay}{w0 W0 w':D}{xs:List H}{cs:Array H}{P:Program}{bs:List (Nat×ay×Array H)}{l:List Int}
open Go Go.RowKit
structure an where
 v0:Int
 v1:Int
 v2:Int
 v3:Int
 v4:Int
 v5:Int
namespace an
def ext{a b:an}(i:a.v0=b.v0)(f:a.v1=b.v1)(c:a.v2=b.v2)(j:a.v3=b.v3)(d:a.v4=b.v4)(h:a.v5=b.v5):a=b:=by cases a;cases b;simp_all
instance:DecidableEq an:=λa b=>
 decidable_of_iff (a.v0=b.v0/\a.v1=b.v1/\a.v2=b.v2/\a.v3=b.v3/\a.v4=b.v4/\a.v5=b.v5)
  ⟨λ⟨h0,h1,h2,h3,h4,h5⟩=>ext h0 h1 h2 h3 h4 h5,λh=>by subst h;simp⟩
def get(v:an):Nat->Int
 |0=>v.v0
 |1=>v.v1
 |2=>v.v2
 |3=>v.v3
 |4=>v.v4
 |5=>v.v5
 |_=>0
def set(v:an)(k:Nat)(x:Int):an:=
 match k with
 |0=>{v with v0:=x}
 |1=>{v with v1:=x}
 |2=>{v with v2:=x}
 |3=>{v with v3:=x}
 |4=>{v with v4:=x}
 |5=>{v with v5:=x}
 |_=>v
def ofFn(f:Nat->Int):an:=⟨f 0,f 1,f 2,f 3,f 4,f 5⟩
def zero:an:=⟨0,0,0,0,0,0⟩
def six{P:Nat->Prop}(f:P 0)(c:P 1)(a:P 2)(i:P 3)(b:P 4)(d:P 5)(k:Nat)(h:k<6):P k:=by
 match k,h with
 |0,_=>exact f
 |1,_=>exact c
 |2,_=>exact a
 |3,_=>exact i
 |4,_=>exact b
 |5,_=>exact d
def ext_get{a b:an}(h:∀k,k<6->a.get k=b.get k):a=b:=
 ext (h 0 V) (h 1 V) (h 2 V) (h 3 V) (h 4 V) (h 5 V)
def get_ofFn(f:Nat->Int)(k:Nat)(h:k<6):(ofFn f).get k=f k:=
 six (P:=λk=>(ofFn f).get k=f k) O O O O O O k h
def Qh(k:Nat):zero.get k=0:=by unfold get zero;split<;>rfl
def ok(v:an):Prop:=∀k,k<6->0<=v.get k/\v.get k<=18446744073709551615
def ok_zero:zero.ok:=λk _=>by rw[Qh];omega
def upto(v:an)(k:Nat):an:=ofFn λj=>if j<k then v.get j else 0
def upto_six(v:an):v.upto 6=v:=rfl
def upto_succ(v:an)(k:Nat)(h:k<6):(v.upto k).set k (v.get k)=v.upto (k+1):=
 six (P:=λk=>(v.upto k).set k (v.get k)=v.upto (k+1)) O O O O O O k h
def map2(c:Int->Int->Int)(a b:an):an:=ofFn λj=>c (a.get j) (b.get j)
def get_map2(c:Int->Int->Int)(a b:an)(k:Nat)(h:k<6):(map2 c a b).get k=c (a.get k) (b.get k):=get_ofFn _ k h
def foldV(c:Int->Int->Int):List an->an
 |[]=>zero
 |v::r=>r.foldl (map2 c) v
def foldV_take(c:Int->Int->Int)(L:List an)(k:Nat)(v:an)(b:0<k)(h:L[k]? =some v):foldV c (L.take (k+1))=map2 c (foldV c (L.take k)) v:=by
 cases L with
 |nil=>simp at h
 |cons a r=>obtain⟨k,rfl⟩:∃j,k=j+1:=⟨k-1,V⟩;simp only[yi]at h;simp only[List.take_succ_cons,foldV];rw[gP,h];simp
end an
def aF(v:an):Array H:=#[q v.v0,q v.v1,q v.v2,q v.v3,q v.v4,q v.v5]
def rH(v:an)(k:Nat)(h:k<6):(aF v)[k]? =some (q (v.get k)):=
 an.six (P:=λk=>(aF v)[k]? =some (q (v.get k))) O O O O O O k h
def OH(v:an)(k:Nat)(x:Int)(h:k<6):(aF v).setIfInBounds k (q x)=aF (v.set k x):=
 an.six (P:=λk=>(aF v).setIfInBounds k (q x)=aF (v.set k x)) O O O O O O k h
def Nj(v:an):(aF v).size=6:=rfl
def Z8(v:an):(aF v).toList=[q v.v0,q v.v1,q v.v2,q v.v3,q v.v4,q v.v5]:=rfl
def TU(v:an):(aF v)[0]? =some (q v.v0):=rfl
def TS(v:an):(aF v)[1]? =some (q v.v1):=rfl
def TR(v:an):(aF v)[2]? =some (q v.v2):=rfl
def TQ(v:an):(aF v)[3]? =some (q v.v3):=rfl
def TP(v:an):(aF v)[4]? =some (q v.v4):=rfl
def TO(v:an):(aF v)[5]? =some (q v.v5):=rfl
def RH(a b c d e f:Int):#[q a,q b,q c,q d,q e,q f]=aF ⟨a,b,c,d,e,f⟩:=rfl
def OG:(⟨0,0,0,0,0,0⟩:an)=an.zero:=rfl
def Np(v:an)(x:Int):(aF v).setIfInBounds 0 (q x)=aF ⟨x,v.v1,v.v2,v.v3,v.v4,v.v5⟩:=rfl
def No(v:an)(x:Int):(aF v).setIfInBounds 1 (q x)=aF ⟨v.v0,x,v.v2,v.v3,v.v4,v.v5⟩:=rfl
def Nn(v:an)(x:Int):(aF v).setIfInBounds 2 (q x)=aF ⟨v.v0,v.v1,x,v.v3,v.v4,v.v5⟩:=rfl
def Nm(v:an)(x:Int):(aF v).setIfInBounds 3 (q x)=aF ⟨v.v0,v.v1,v.v2,x,v.v4,v.v5⟩:=rfl
def Nl(v:an)(x:Int):(aF v).setIfInBounds 4 (q x)=aF ⟨v.v0,v.v1,v.v2,v.v3,x,v.v5⟩:=rfl
def Nk(v:an)(x:Int):(aF v).setIfInBounds 5 (q x)=aF ⟨v.v0,v.v1,v.v2,v.v3,v.v4,x⟩:=rfl
def Fa(v:an):(⟨v.v0,v.v1,v.v2,v.v3,v.v4,v.v5⟩:an)=v:=rfl
def RG:an.zero.v0=0:=rfl
def RF:an.zero.v1=0:=rfl
def RE:an.zero.v2=0:=rfl
def RD:an.zero.v3=0:=rfl
def RC:an.zero.v4=0:=rfl
def RB:an.zero.v5=0:=rfl
def Z9(v:an):(aF v=#[])=False:=by simp[aF]
attribute [go_sem] RG RF RE RD RC RB Z9
attribute [go_sem] Np No Nn Nm Nl Nk Fa
attribute [go_sem] Nj Z8 TU TS TR TQ TP TO RH OG
def M(w:D)(g:Nat)(t:ay)(cs:Array H):Prop:=w.heap[g]? =some (.cells cs t (0,0))
section
variable{w w':D}{g:Nat}{t:ay}{cs:Array H}
def M.lt(h:M w g t cs):g<w.heap.size:=by rcases mI g w.heap.size with a|hge;exact a;unfold M at h;rw[kQ hge]at h;cases h
def M.cell(h:M w g t cs)(i:Nat):w.cell? (I g i)=cs[i]?:=cell_of_row w g i cs t (0,0) h
def M.frozen(h:M w g t cs)(i:Nat):w.frozen? (I g i)=false:=by unfold M at h;simp[World.frozen?,h]
def M.new(w:D)(t:ay)(cs:Array H):M (w.alloc (.cells cs t)) w.heap.size t cs:=vP w _
def M.new_at{w:D}{g:Nat}{t:ay}{cs a:Array H}(h:w.heap.size=g)(b:cs=a):M (w.alloc (.cells cs t)) g t a:=by subst h;subst b;exact M.new w t cs
def M.drew(h:M w g t cs):M w.drew g t cs:=h
def M.alloc(h:M w g t cs)(o:Obj):M (w.alloc o) g t cs:=(oW w o g h.lt).trans h
def M.set_(h:M w g t cs)(i:Nat)(u:H):M (w.setCell (I g i) u) g t (cs.setIfInBounds i u):=by unfold M at h⊢;simp[World.setCell,tP,h]
def M.far(h:M w g t cs){p:Addr}(a:g≠p.block)(u:H):M (w.setCell p u) g t cs:=(yr w p u g a).trans h
def M.below(h:M w g t cs)(b:Below B w w')(a:g<B):M w' g t cs:=(b.block g a).trans h
def M.rules(h:M w g t cs):(∀i,w.cell? (I g i)=cs[i]?)/\(∀i,w.frozen? (I g i)=false):=⟨h.cell,h.frozen⟩
end
def M.setVec{w:D}{a:an}(h:M w g t (aF a))(R:an):
  M ((((((w.setCell (I g 0) (q R.v0)).setCell (I g 1) (q R.v1)).setCell (I g 2) (q R.v2)).setCell (I g 3) (q R.v3)).setCell (I g 4) (q R.v4)).setCell (I g 5) (q R.v5)) g t (aF R):=
 (((((h.set_ 0 _).set_ 1 _).set_ 2 _).set_ 3 _).set_ 4 _).set_ 5 (q R.v5)
def M.farVec{w:D}{d:Nat}(h:M w g t cs)(a:g≠d)(R:an):
  M ((((((w.setCell (I d 0) (q R.v0)).setCell (I d 1) (q R.v1)).setCell (I d 2) (q R.v2)).setCell (I d 3) (q R.v3)).setCell (I d 4) (q R.v4)).setCell (I d 5) (q R.v5)) g t cs:=
 (((((h.far (p:=(I d 0)) a _).far (p:=(I d 1)) a _).far (p:=(I d 2)) a _).far (p:=(I d 3)) a _).far (p:=(I d 4)) a _).far (p:=(I d 5)) a _
def yC{a w:D}(h:Below B a w){d:Nat}(b:B<=d)(R:an):
  Below B a ((((((w.setCell (I d 0) (q R.v0)).setCell (I d 1) (q R.v1)).setCell (I d 2) (q R.v2)).setCell (I d 3) (q R.v3)).setCell (I d 4) (q R.v4)).setCell (I d 5) (q R.v5)):=
 (((((h.setCell (p:=(I d 0)) b _).setCell (p:=(I d 1)) b _).setCell (p:=(I d 2)) b _).setCell (p:=(I d 3)) b _).setCell (p:=(I d 4)) b _).setCell (p:=(I d 5)) b _
def tx(w:D)(B:Nat)(A:Option Addr)(L:List an):Prop:=
 L≠[]->∃b o,A=some (I b o)/\b<B/\∀i v,L[i]? =some v->∀j,j<6->w.cell? (I b (o+i*6+j))=some (q (v.get j))
@[reducible] def xJ(w:D)(b o:Nat)(v:an):Prop:=
 w.cell? (I b o)=some (q v.v0)/\w.cell? (I b (o+1))=some (q v.v1)/\w.cell? (I b (o+2))=some (q v.v2)/\
 w.cell? (I b (o+3))=some (q v.v3)/\w.cell? (I b (o+4))=some (q v.v4)/\w.cell? (I b (o+5))=some (q v.v5)
def KQ{w:D}{b o i:Nat}{v:an}(h:∀j,j<6->w.cell? (I b (o+i*6+j))=some (q (v.get j))):xJ w b (o+i*6) v:=
 ⟨h 0 V,h 1 V,h 2 V,h 3 V,h 4 V,h 5 V⟩
def xJ.below{w:D}{b o:Nat}{v:an}(h:xJ w b o v)(c:Below B w w')(a:b<B):xJ w' b o v:=
 ⟨(c.cell (p:=(I b _)) a).trans h.1,(c.cell (p:=(I b _)) a).trans h.2.1,(c.cell (p:=(I b _)) a).trans h.2.2.1,
  (c.cell (p:=(I b _)) a).trans h.2.2.2.1,(c.cell (p:=(I b _)) a).trans h.2.2.2.2.1,(c.cell (p:=(I b _)) a).trans h.2.2.2.2.2⟩
def tx.below{w:D}{A:Option Addr}{L:List an}(h:tx w B A L)(f:Below B w w'):tx w' B A L:=λd=>by obtain⟨b,o,k,a,m⟩:=h d;exact⟨b,o,k,a,λi v r j c=>(f.cell (p:=(I b _)) a).trans (m i v r j c)⟩
def Zm(w:D)(d:Nat)(t e:ay)(i:TypeInfo)(a b:an)(ht:P.underlying t=some (.array 6 e))(T:P.underlying e=some (.int .u64))(hi:P.info? e=some i)(hz:i.size=1):
  (Op.equalIn (d+2) t (.agg (aF a)) (.agg (aF b))).run P w=.ok (decide (a=b)) w:=by
 have o:∀w,(isAgg e).run P w=.ok false w:=λw=>by simp[isAgg,eT T]
 have p:∀w,(sizeOf e).run P w=.ok 1 w:=λw=>by simp[sizeOf,typeInfo,hi,hz]
 have c:∀(v:an) (k:Nat) (h:k<6) w,(part e (aF v) k).run P w=.ok (q (v.get k)) w:=λv k h w=>by simp[part,o,rH v k h]
 have E:∀(x y:Int) w,(Op.equalIn (d+1) e (q x) (q y)).run P w=.ok (x==y) w:=λx y w=>tX w d e .u64 .u64 x y T;have s:decide (a=b)=(a.get 0==b.get 0&&(a.get 1==b.get 1&&(a.get 2==b.get 2&&(a.get 3==b.get 3&&(a.get 4==b.get 4&&a.get 5==b.get 5))))):=by rw[Bool.eq_iff_iff];simp only[eN,bZ,qd];exact⟨λh=>by subst h;simp,λ⟨h0,h1,h2,h3,h4,h5⟩=>an.ext h0 h1 h2 h3 h4 h5⟩
 have R:=c a 0 V;have W:=c a 1 V;have X:=c a 2 V;have G:=c a 3 V;have K:=c a 4 V;have J:=c a 5 V;have F:=c b 0 V;have u:=c b 1 V;have L:=c b 2 V;have C:=c b 3 V;have Q:=c b 4 V;have A:=c b 5 V;rw[Op.equalIn,s];simp only[lS,eT ht,lX,p];simp[Std.Legacy.Range.forIn_eq_forIn_range',List.range'_succ,R,W,X,G,K,J,F,u,L,C,Q,A,E];clear R W X G K J F u L C Q A c E s;by_cases f:a.get 0=b.get 0
 ·by_cases j:a.get 1=b.get 1
  ·by_cases m:a.get 2=b.get 2
   ·by_cases r:a.get 3=b.get 3
    ·by_cases e4:a.get 4=b.get 4
     ·by_cases e5:a.get 5=b.get 5<;>simp[f,j,m,r,e4,e5]
     simp[f,j,m,r,e4]
    simp[f,j,m,r]
   simp[f,j,m]
  simp[f,j]
 simp[f]
def j7{a w:D}(h:Below B a w)(n:Nat):Below B a (w.drewN n):=⟨h.os,h.tape,h.output,h.size,h.block⟩
def Ng{w:D}{a b:an}(h:w.heap[g]? =some (.cells #[q a.v0,q a.v1,q a.v2,q a.v3,q a.v4,q a.v5,q b.v0,q b.v1,q b.v2,q b.v3,q b.v4,q b.v5] t (0,0))):
  tx w (g+1) (some (I g 0)) [a,b]:=λ_=>by
 refine⟨g,0,O,V,λi v c j d=>?_⟩;rw[cell_of_row w g _ _ t (0,0) h]
 match i,c with
 |0,c=>simp at c;subst c;exact an.six (P:=λj=>(#[q a.v0,q a.v1,q a.v2,q a.v3,q a.v4,q a.v5,q b.v0,q b.v1,q b.v2,q b.v3,q b.v4,q b.v5]:Array H)[0+0*6+j]? =some (q (a.get j))) O O O O O O j d
 |1,c=>simp at c;subst c;exact an.six (P:=λj=>(#[q a.v0,q a.v1,q a.v2,q a.v3,q a.v4,q a.v5,q b.v0,q b.v1,q b.v2,q b.v3,q b.v4,q b.v5]:Array H)[0+1*6+j]? =some (q (b.get j))) O O O O O O j d
def gq(w0:D)(t:ay)(a b:Array H)(w':D):Prop:=M w' w0.heap.size t a/\M w' (w0.heap.size+1) t b/\S w0 w'
section
variable{w0 W w1:D}{t:ay}{a b:Array H}
def gq.all(h:gq w0 t a b W):((∀i,W.cell? (I w0.heap.size i)=a[i]?)/\(∀i,W.cell? (I (w0.heap.size+1) i)=b[i]?))/\gq w0 t a b W:=⟨⟨h.1.cell,h.2.1.cell⟩,h⟩
def gq.start:gq w0 t a b ((w0.alloc (.cells a t)).alloc (.cells b t)):=
 ⟨(M.new_at O O).alloc _,M.new_at ah O,((aq _ _).alloc (ao _) _).alloc ah _⟩
def gq.drew(h:gq w0 t a b W):gq w0 t a b W.drew:=⟨h.1,h.2.1,h.2.2.drew⟩
def gq.alloc(h:gq w0 t a b W)(o:Obj):gq w0 t a b (W.alloc o):=⟨h.1.alloc o,h.2.1.alloc o,h.2.2.alloc h.2.2.size o⟩
def gq.undrew(h:gq w0 t a b W.drew):gq w0 t a b W:=⟨h.1,h.2.1,⟨h.2.2.os,h.2.2.tape,h.2.2.output,h.2.2.size,h.2.2.block⟩⟩
def gq.below(h:gq w0 t a b W)(c:S W w1):gq w0 t a b w1:=⟨h.1.below c h.1.lt,h.2.1.below c h.2.1.lt,h.2.2.trans (c.mono h.2.2.size)⟩
end
def jZ(W0 w':D):Prop:=S W0 w'
section
variable{W0 W w1:D}
def jZ.all(h:jZ W0 W):(∀b o,b<W0.heap.size->W.cell? (I b o)=W0.cell? (I b o))/\jZ W0 W:=⟨λb o a=>Below.cell h (p:=(I b o)) a,h⟩
def jZ.start:jZ W0 W0:=aq _ _
def jZ.drew(h:jZ W0 W):jZ W0 W.drew:=Below.drew h
def jZ.below(h:jZ W0 W)(a:S W w1):jZ W0 w1:=sH h (a.mono h.size)
end
@[reducible] def xK(w:D):List (Nat×ay×Array H)->Prop
 |[]=>True
 |(g,_,cs)::r=>(∀i,w.cell? (I g i)=cs[i]?)/\(∀i,w.frozen? (I g i)=false)/\xK w r
@[reducible] def Ck(w:D):List (Nat×ay×Array H)->Prop
 |[]=>True
 |(g,_,_)::r=>g<w.heap.size/\Ck w r
structure aI(w0 w:D)(bs:List (Nat×ay×Array H)):Prop where
 below:S w0 w
 blk:∀g t cs,(g,t,cs)∈bs->M w g t cs
section
variable{w0 w w1:D}{bs:List (Nat×ay×Array H)}{g:Nat}{t:ay}{cs:Array H}
def aI.nil(w:D):aI w w []:=⟨aq _ _,λ_ _ _ h=>aK h⟩
def aI.push(h:aI w0 w bs)(a:w.heap.size=g):aI w0 (w.alloc (.cells cs t)) ((g,t,cs)::bs):=
 ⟨h.below.alloc h.below.size _,λd c b hm=>by rcases dh.1 hm with e|hm;cases e;exact M.new_at a O;exact(h.blk _ _ _ hm).alloc _⟩
def aI.drew(h:aI w0 w bs):aI w0 w.drew bs:=⟨h.below.drew,h.blk⟩
def aI.drewN(h:aI w0 w bs)(n:Nat):aI w0 (w.drewN n) bs:=⟨j7 h.below n,h.blk⟩
def aI.call(h:aI w0 w bs)(b:S w w1):aI w0 w1 bs:=
 ⟨h.below.trans (b.mono h.below.size),λ_ _ _ a=>(h.blk _ _ _ a).below b (h.blk _ _ _ a).lt⟩
def aI.drop(h:aI w0 w ((g,t,cs)::bs)):aI w0 w bs:=⟨h.below,λ_ _ _ a=>h.blk _ _ _ (dC _ a)⟩
def aI.rules(h:aI w0 w bs):xK w bs:=by
 obtain⟨_,a⟩:=h
 induction bs with
 |nil=>trivial
 |cons x r ih=>obtain⟨g,t,cs⟩:=x;exact⟨(a g t cs cz).cell,(a g t cs cz).frozen,ih λg t cs b=>a g t cs (dC _ b)⟩
def aI.lts(h:aI w0 w bs):Ck w bs:=by
 obtain⟨_,a⟩:=h
 induction bs with
 |nil=>trivial
 |cons x r ih=>obtain⟨g,t,cs⟩:=x;exact⟨(a g t cs cz).lt,ih λg t cs b=>a g t cs (dC _ b)⟩
def aI.lt(h:aI w0 w ((g,t,cs)::bs)):g<w.heap.size:=(h.blk _ _ _ cz).lt
end
def Calls.trk{f:FuncId}{args:Array H}{W:D}
  (h:Calls P f args W λe w'=>e=.returned v/\S W w') (T:aI w0 W bs):
  Calls P f args W λe w'=>e=.returned v/\aI w0 w' bs/\xK w' bs:=
 h.mono λ_ _ ⟨b,a⟩=>⟨b,T.call a,(T.call a).rules⟩
def sR{w:D}(h:w.ownsRow base e size v n xs)(j:S w w'):w'.ownsRow base e size v n xs:=by obtain⟨i,b⟩:=h;refine⟨i,?_⟩;rcases b with b|⟨g,c,a,f,k,d,r⟩;exact gO b;exact jk ⟨g,c,a,f,k,(j.block g (M.lt d)).trans d,r⟩
def kD(w:D)(B:Nat)(A:Option Addr)(l:List Int):Prop:=
 l≠[]->∃b o,A=some (I b o)/\b<B/\∀i x,l[i]? =some x->w.cell? (I b (o+i))=some (.int .u8 x)
def kD.below{w:D}{A:Option Addr}(h:kD w B A l)(f:Below B w w'):kD w' B A l:=λc=>by obtain⟨b,o,j,a,d⟩:=h c;exact⟨b,o,j,a,λi x k=>(f.cell (p:=(I b _)) a).trans (d i x k)⟩
def iy(W0:D):Type:={w':D//S W0 w'}
instance{W0:D}:Nonempty (iy W0):=⟨⟨W0,aq _ _⟩⟩
def iy.w(x:iy W0):D:=x.1
def iy.below(x:iy W0):S W0 x.w:=x.2
@[go_sem] theorem iy.cell(x:iy W0)(b o:Nat)(h:b<W0.heap.size):x.w.cell? (I b o)=W0.cell? (I b o):=x.below.cell (p:=(I b o)) h
def vR{id:Nat}{Q:Exit->Act->D->Prop}{a:Act}{l:List Oper}(b:P.follows .mixedOrders=true)(c:Region.lexB .any l.toArray=true)
  (h:wpQuiet P l.toArray (λw'=>∃x:iy W0,w'=x.w) (λd=>∀w',(∃x:iy W0,w'=x.w)->Q .normal d w') l a):(Code.region id l.toArray true).wp P Q a W0:=
 wp_region_quiet (C:=λw'=>∃x:iy W0,w'=x.w) b c ⟨⟨W0.drew,(aq _ _).drew⟩,O⟩ (az h)
def Calls.later{f:FuncId}{args:Array H}{x:iy W0}(h:Calls P f args x.w λe w'=>e=.returned v/\S x.w w'):
  Calls P f args x.w λe a=>e=.returned v/\∃y:iy W0,a=y.w:=
 h.mono λ_ w' ⟨b,c⟩=>⟨b,⟨w',x.below.trans (c.mono x.below.size)⟩,O⟩
def ke(t:ay)(x:H):Sem Next:=do pure (.value (<-Instr.buildSlice t 1 #[(0,x)]))
def lz(t:ay)(ρ:aO->H)(dst:Option Tmp)(x:aO)(ty:ay)(pos:String)(after:Array Edge)(guard:Option (Nat×Bool)):execOp ρ {dst,op:=.buildSlice t 1 #[(0,x)],type:=ty,pos,after,guard}=ke t (ρ x):=by simp[execOp,ke]
def BZ(t:ay)(x y:H):Sem Next:=do pure (.value (<-Instr.buildSlice t 2 #[(0,x),(1,y)]))
def EB{k:IntKind}{a b:Int}(h:a=b):Ending.returned (.int k a)=.returned (.int k b):=by rw[h]
def dK(w:D)(B size:Nat)(A:Option Addr)(n:Nat)(xs:List H):Prop:=
 xs.length=n*size/\(0<n->∃b o,A=some (I b o)/\b<B/\∀j u,xs[j]? =some u->w.cell? (I b (o+j))=some u)
def mU(b o j:Nat):((I b o):Addr).add j=(I b (o+j)):=by unfold Addr.add;split<;>simp_all
section
variable{w w':D}{B B' size n:Nat}{A:Option Addr}{xs:List H}
def dK.below(h:dK w B size A n xs)(d:Below B w w'):dK w' B size A n xs:=
 ⟨h.1,λi=>by obtain⟨b,o,e,a,f⟩:=h.2 i;exact⟨b,o,e,a,λj u c=>(d.cell (p:=(I b _)) a).trans (f j u c)⟩⟩
def dK.mono(h:dK w B size A n xs)(f:B<=B'):dK w B' size A n xs:=
 ⟨h.1,λa=>by obtain⟨b,o,e,d,c⟩:=h.2 a;exact⟨b,o,e,V,c⟩⟩
def dK.of_own{c:Nat}(h:w.ownsRow base e size (.slice A n c) n xs):dK w w.heap.size size A n xs:=by
 refine⟨h.1,λp=>?_⟩;rcases h.2 with⟨_,m⟩|⟨g,f,a,b,o,d,_⟩;omega;have k:A=some (I g 0):=by injection b
 subst k;refine⟨g,0,O,M.lt d,λj u i=>?_⟩;have:=h.cells (g:=g) O j u i;rwa[mU]at this
def dS(h:w.ownsRow base e size v n xs):∃A c,v=.slice A n c/\n<=c/\c<=maxLen/\dK w w.heap.size size A n xs:=by have f:=h;rcases h.2 with⟨rfl,rfl⟩|⟨g,d,i,rfl,k,j,b,a,_,_⟩;exact⟨none,0,rfl,ao _,ai,dK.of_own f⟩;exact⟨_,d,O,b,a,dK.of_own f⟩
def dD(l:List Int):List H:=l.map (.int .u8)
def CO(l:List Int):(dD l).length=l.length:=j3 _
def LH(h:kD w B A l):dK w B 1 A l.length (dD l):=by refine⟨by rw[CO,iP],λi=>?_⟩;obtain⟨b,o,e,a,d⟩:=h (List.ne_nil_of_length_pos i);refine⟨b,o,e,a,λj u c=>?_⟩;unfold dD at c;rw[nX]at c;obtain⟨x,f,rfl⟩:=yj.1 c;exact d j x f
def El(h:dK w B 1 A l.length (dD l)):kD w B A l:=λf=>by obtain⟨b,o,e,a,c⟩:=h.2 (List.length_pos_iff.2 f);exact⟨b,o,e,a,λi x d=>c i _ (by unfold dD;rw[nX,d];rfl)⟩
end
section
variable{P:Program}(w:D)
def Jb(base:Nat)(t ty e:ay)(i:TypeInfo)(s:H)(size bytes:Nat)(K:P.underlying t=some (.slice e))(L:P.info? e=some i)(X:i.zero=some s)
  (p:i.size=size) (E:i.bytes=bytes) (J:s.cells.size=size) (C:0<size)
  (v:H) (n:Nat) (xs:List H) (a:w.ownsRow base e size v n xs) (B:Nat) (A:Option Addr) (m c:Nat) (d:List H) (T:dK w B size A m d) (h1:∀u∈d,u.oneCell'=true)
  (y:n+m<=maxLen) (h:(n+m)*bytes<=140737488355328) (f:base<=w.heap.size):
  ∃x w',(Builtin.append_ #[t,t] ty #[v,.slice A m c]).run P w=.ok x w'/\w'.ownsRow base e size x (n+m) (xs++d)/\Below base w w':=by
 have F:∀w',w.grownBy w' v.ownBlock->Below base w w':=λw' hg=>(aq _ _).grown hg f λk hk=>(a.lt k hk).1;by_cases hm:m=0;subst hm;obtain rfl:d=[]:=lR (az T.1);rcases A with _|ad;refine⟨v,w,?_,az a,aq _ _⟩;rcases a.2 with⟨rfl,rfl⟩|⟨g,β,γ,rfl,_,_,R,_⟩;simp[Builtin.append_,eT K,sizeOf,typeInfo,L,Builtin.lenOf,Builtin.firstCells];simp[Builtin.append_,eT K,sizeOf,typeInfo,L,Builtin.lenOf,Builtin.firstCells,R,storeCells];obtain⟨x,w',r,Q,W,_⟩:=tT (P:=P) w base t ty e i s size bytes K L X p E J C v n xs a ad 0 c [] ah (λj u G=>by simp at G) (λu G=>aK G) y h f;exact⟨x,w',r,Q,F w' W⟩;obtain⟨b,o,rfl,α,hc⟩:=T.2 V;obtain⟨x,w',r,Q,W,_⟩:=tT (P:=P) w base t ty e i s size bytes K L X p E J C v n xs a (I b o) m c d T.1 (λj u G=>by rw[mU];exact hc j u G) h1 y h f;exact⟨x,w',r,Q,F w' W⟩
def IT{y:Array Oper}{f:List Oper}{o:Oper}{a:Act}{Q:Exit->Act->D->Prop}(F:o.guard=none)(s x:aO)(t:ay)
  (ho:o.op=.call {callee:=.builtin .append,args:=#[s,x],argTypes:=#[t,t]})
  (base:Nat) (e:ay) (i:TypeInfo) (p:H) (size bytes:Nat) (T:P.underlying t=some (.slice e)) (hi:P.info? e=some i) (hz:i.zero=some p)
  (j:i.size=size) (K:i.bytes=bytes) (L:p.cells.size=size) (J:0<size)
  (v:H) (n:Nat) (xs:List H) (hs:a.eval s=v) (r:w.ownsRow base e size v n xs)
  (B:Nat) (A:Option Addr) (m c:Nat) (b:List H) (hx:a.eval x=.slice A m c) (hr:dK w B size A m b) (X:∀u∈b,u.oneCell'=true)
  (G:n+m<=maxLen) (d:(n+m)*bytes<=140737488355328) (k:base<=w.heap.size)
  (h:∀E w',w'.ownsRow base e size E (n+m) (xs++b)->Below base w w'->wpList P y Q f (a.put o.dst E) w'):wpList P y Q (o::f) a w:=by
 obtain⟨E,w',C,R,h3⟩:=Jb (P:=P) w base t o.type e i p size bytes T hi hz j K L J v n xs r B A m c b hr X G d k;refine rk F λ_ W=>?_;unfold Oper.wp execOp;simp only[ho,resolve,invoke,builtin,lS,sF,lX,pW,cW,mJ,hs,hx,C];exact W _ _ (h E w' R h3)
end
def oJ(t:ay):Sem Next:=do pure (.value (<-Instr.buildSlice t 0 #[]))
section
variable(ρ:aO->H)(dst:Option Tmp)(ty t:ay)(pos:String)(after:Array Edge)(guard:Option (Nat×Bool))
def yJ:execOp ρ {dst,op:=.buildSlice t 0 #[],type:=ty,pos,after,guard}=oJ t:=by simp[execOp,oJ]
end
@[reducible] def gv(g:Nat):List (Nat×ay×Array H)->Prop
 |[]=>True
 |(g',_,_)::r=>g'≠g/\gv g r
def gv.o:∀{bs:List (Nat×ay×Array H)},gv g bs->∀a t cs,(a,t,cs)∈bs->a≠g
 |(_,_,_)::_,h,_,_,_,hm=>by rcases dh.1 hm with e|hm;cases e;exact h.1;exact gv.o h.2 _ _ _ hm
def aI.set_{w:D}(h:aI w0 w ((g,t,cs)::bs))(c:w0.heap.size<=g)(a:gv g bs)(i:Nat)(u:H):
  aI w0 (w.setCell (I g i) u) ((g,t,cs.setIfInBounds i u)::bs):=
 ⟨h.below.setCell (p:=(I g i)) c u,λf d b hm=>by rcases dh.1 hm with e|hm;cases e;exact(h.blk _ _ _ cz).set_ i u;exact(h.blk _ _ _ (dC _ hm)).far (p:=(I g i)) (a.o _ _ _ hm) u⟩
@[reducible] def vv(B:Nat):List (Nat×ay×Array H)->Prop
 |[]=>True
 |(g,_,_)::r=>g<B/\vv B r
def vv.o:∀{bs:List (Nat×ay×Array H)},vv B bs->∀g t cs,(g,t,cs)∈bs->g<B
 |(_,_,_)::_,h,_,_,_,hm=>by rcases dh.1 hm with e|hm;cases e;exact h.1;exact vv.o h.2 _ _ _ hm
def aI.callB{w b:D}(h:aI w0 w bs)(c:Below B w b)(f:w0.heap.size<=B)(d:vv B bs):aI w0 b bs:=
 ⟨h.below.trans (c.mono f),λg t cs a=>(h.blk _ _ _ a).below c (d.o g t cs a)⟩
def kB{w:D}{a:Nat}(h:w.ownsRow a e size v n xs)(j:base<=a):w.ownsRow base e size v n xs:=by obtain⟨i,c⟩:=h;refine⟨i,?_⟩;rcases c with c|⟨g,d,b,f,k,r⟩;exact gO c;exact jk ⟨g,d,b,f,V,r⟩
def wD{w:D}(h:w.ownsRow base e size v n xs){p:Addr}(k:p.block<base)(u:H):(w.setCell p u).ownsRow base e size v n xs:=by obtain⟨i,b⟩:=h;refine⟨i,?_⟩;rcases b with b|⟨g,c,a,d,j,f,r⟩;exact gO b;exact jk ⟨g,c,a,d,j,(yr w p u g V).trans f,r⟩
def aI.perm{w:D}{cs:List (Nat×ay×Array H)}(h:aI w0 w bs)(a:∀x∈cs,x∈bs):aI w0 w cs:=⟨h.below,λ_ _ _ b=>h.blk _ _ _ (a _ b)⟩
def aU(n:Int):Nat->Int
 |0=>n/72057594037927936%256
 |1=>n/281474976710656%256
 |2=>n/1099511627776%256
 |3=>n/4294967296%256
 |4=>n/16777216%256
 |5=>n/65536%256
 |6=>n/256%256
 |_=>n%256
def dO(n:Int):List Int:=[aU n 0,aU n 1,aU n 2,aU n 3,aU n 4,aU n 5,aU n 6,aU n 7]
def ZS(n:Int):(dO n).length=8:=rfl
def xC{P:Nat->Prop}(j:P 0)(f:P 1)(b:P 2)(m:P 3)(c:P 4)(i:P 5)(a:P 6)(d:P 7)(k:Nat)(h:k<8):P k:=by
 match k,h with
 |0,_=>exact j
 |1,_=>exact f
 |2,_=>exact b
 |3,_=>exact m
 |4,_=>exact c
 |5,_=>exact i
 |6,_=>exact a
 |7,_=>exact d
def J4(n:Int)(j:Nat)(h:j<8):(dO n)[j]? =some (aU n j):=
 xC (P:=λj=>(dO n)[j]? =some (aU n j)) O O O O O O O O j h
def aao(n:Int)(j:Nat)(h:j<8):(dO n).take (j+1)=(dO n).take j++[aU n j]:=by rw[gP,J4 n j h];rfl
def db(n:Int):Nat->Int
 |0=>aU n 0*72057594037927936+aU n 1*281474976710656+aU n 2*1099511627776+aU n 3*4294967296+aU n 4*16777216+aU n 5*65536+aU n 6*256+aU n 7
 |1=>aU n 1*72057594037927936+aU n 2*281474976710656+aU n 3*1099511627776+aU n 4*4294967296+aU n 5*16777216+aU n 6*65536+aU n 7*256+aU n 0
 |2=>aU n 2*72057594037927936+aU n 3*281474976710656+aU n 4*1099511627776+aU n 5*4294967296+aU n 6*16777216+aU n 7*65536+aU n 0*256+aU n 1
 |3=>aU n 3*72057594037927936+aU n 4*281474976710656+aU n 5*1099511627776+aU n 6*4294967296+aU n 7*16777216+aU n 0*65536+aU n 1*256+aU n 2
 |4=>aU n 4*72057594037927936+aU n 5*281474976710656+aU n 6*1099511627776+aU n 7*4294967296+aU n 0*16777216+aU n 1*65536+aU n 2*256+aU n 3
 |5=>aU n 5*72057594037927936+aU n 6*281474976710656+aU n 7*1099511627776+aU n 0*4294967296+aU n 1*16777216+aU n 2*65536+aU n 3*256+aU n 4
 |6=>aU n 6*72057594037927936+aU n 7*281474976710656+aU n 0*1099511627776+aU n 1*4294967296+aU n 2*16777216+aU n 3*65536+aU n 4*256+aU n 5
 |7=>aU n 7*72057594037927936+aU n 0*281474976710656+aU n 1*1099511627776+aU n 2*4294967296+aU n 3*16777216+aU n 4*65536+aU n 5*256+aU n 6
 |_=>aU n 0*72057594037927936+aU n 1*281474976710656+aU n 2*1099511627776+aU n 3*4294967296+aU n 4*16777216+aU n 5*65536+aU n 6*256+aU n 7
def tB(x:Int):Int:=x*256%18446744073709551616+x/72057594037927936
def rD(x c y:Int)(e:x=72057594037927936*c+y)(d:0<=c)(c1:c<=255)(a:0<=y)(b:y<72057594037927936):tB x=y*256+c:=by subst e;unfold tB;omega
def gZ(n:Int)(j:Nat):0<=aU n j/\aU n j<=255:=by unfold aU;split<;>omega
def NQ(n:Int)(b:0<=n)(a:n<=18446744073709551615):n=aU n 0*72057594037927936+aU n 1*281474976710656+aU n 2*1099511627776+aU n 3*4294967296+aU n 4*16777216+aU n 5*65536+aU n 6*256+aU n 7:=by simp only[aU];omega
def MQ(n:Int)(b:0<=n)(a:n<=18446744073709551615):db n 0=n:=(NQ n b a).symm
def JP(n:Int)(j:Nat):0<=db n j/\db n j<=18446744073709551615:=by have i:=gZ n 0;have h:=gZ n 1;have a:=gZ n 2;have d:=gZ n 3;have b:=gZ n 4;have k:=gZ n 5;have c:=gZ n 6;have f:=gZ n 7;unfold db;split<;>omega
def MR(n:Int)(j:Nat)(h:j<8):tB (db n j)=db n (j+1):=by have k:=gZ n 0;have i:=gZ n 1;have a:=gZ n 2;have d:=gZ n 3;have b:=gZ n 4;have m:=gZ n 5;have c:=gZ n 6;have f:=gZ n 7;refine xC (P:=λj=>tB (db n j)=db n (j+1)) ?_ ?_ ?_ ?_ ?_ ?_ ?_ ?_ j h;rw[rD (db n 0) (aU n 0) (db n 0-aU n 0*72057594037927936) V V V (by simp only[db];omega) (by simp only[db];omega)];simp only[db];omega;rw[rD (db n 1) (aU n 1) (db n 1-aU n 1*72057594037927936) V V V (by simp only[db];omega) (by simp only[db];omega)];simp only[db];omega;rw[rD (db n 2) (aU n 2) (db n 2-aU n 2*72057594037927936) V V V (by simp only[db];omega) (by simp only[db];omega)];simp only[db];omega;rw[rD (db n 3) (aU n 3) (db n 3-aU n 3*72057594037927936) V V V (by simp only[db];omega) (by simp only[db];omega)];simp only[db];omega;rw[rD (db n 4) (aU n 4) (db n 4-aU n 4*72057594037927936) V V V (by simp only[db];omega) (by simp only[db];omega)];simp only[db];omega;rw[rD (db n 5) (aU n 5) (db n 5-aU n 5*72057594037927936) V V V (by simp only[db];omega) (by simp only[db];omega)];simp only[db];omega;rw[rD (db n 6) (aU n 6) (db n 6-aU n 6*72057594037927936) V V V (by simp only[db];omega) (by simp only[db];omega)];simp only[db];omega;rw[rD (db n 7) (aU n 7) (db n 7-aU n 7*72057594037927936) V V V (by simp only[db];omega) (by simp only[db];omega)];simp only[db];omega
def MS(n:Int)(j:Nat)(h:j<8):db n (j+1)%256=aU n j:=by have k:=gZ n 0;have i:=gZ n 1;have a:=gZ n 2;have d:=gZ n 3;have b:=gZ n 4;have m:=gZ n 5;have c:=gZ n 6;have f:=gZ n 7;refine xC (P:=λj=>db n (j+1)%256=aU n j) ?_ ?_ ?_ ?_ ?_ ?_ ?_ ?_ j h<;>(simp only[db];omega)
def MB(n:Int)(j:Nat)(h:j<8):n/2^(56-8*j)%256=aU n j:=
 xC (P:=λj=>n/2^(56-8*j)%256=aU n j) O O O O O O O (by simp[aU]) j h
def cy(l:List Int):Int:=l.foldl (λn c=>n*256%18446744073709551616+c) 0
def KI(l:List Int)(c:Int):cy (l++[c])=cy l*256%18446744073709551616+c:=by simp[cy]
def JV(l:List Int)(h:∀c∈l,0<=c/\c<=255):0<=cy l/\cy l<=18446744073709551615:=by rcases List.eq_nil_or_concat l with rfl|⟨r,c,rfl⟩;decide;rw[List.concat_eq_append]at h⊢;rw[KI];have:=h c ah;omega
def uk(n:Int)(b:0<=n)(a:n<=18446744073709551615):cy (dO n)=n:=by simp only[cy,dO,List.foldl_cons,List.foldl_nil,aU];omega
def gT(v:an):List Int:=dO v.v0++(dO v.v1++(dO v.v2++(dO v.v3++(dO v.v4++dO v.v5))))
def Jv(v:an):(gT v).length=48:=rfl
def Ni(v:an)(k:Nat)(h:k<6)(j:Nat)(a:j<=8):(gT v).take (8*k+j)=(gT v).take (8*k)++(dO (v.get k)).take j:=by have e:∀k,k<6->(gT v).drop (8*k)=dO (v.get k)++(gT v).drop (8*k+8):=an.six (P:=λk=>(gT v).drop (8*k)=dO (v.get k)++(gT v).drop (8*k+8)) O O O O O O;rw[List.take_add,e k h,List.take_append_of_le_length (by rw[ZS];exact a)]
def aap(v:an):∀c∈gT v,0<=c/\c<=255:=by intro c a;simp only[gT,dO,bP,dh,sL,lE]at a;rcases a with h|h|h|h|h|h<;>rcases h with rfl|rfl|rfl|rfl|rfl|rfl|rfl|rfl<;>exact gZ _ _
def jT(l:List Int):an:=an.ofFn λk=>cy ((l.drop (8*k)).take 8)
def O0(v:an)(b:v.ok):jT (gT v)=v:=an.ext_get λk a=>by rw[jT,an.get_ofFn _ k a];have:((gT v).drop (8*k)).take 8=dO (v.get k):=an.six (P:=λk=>((gT v).drop (8*k)).take 8=dO (v.get k)) O O O O O O k a;rw[this,uk _ (b k a).1 (b k a).2]
def Ug(l:List Int)(h:∀c∈l,0<=c/\c<=255):(jT l).ok:=λk b=>by rw[jT,an.get_ofFn _ k b];exact JV _ λc a=>h c (rj (mM a))
def zc(l:List Int)(k:Nat)(c:Int)(h:l[k]? =some c):cy (l.take (k+1))=cy (l.take k)*256%18446744073709551616+c:=by rw[gP,h];exact KI _ _
def Jf(l m:List Int):dD (l++m)=dD l++dD m:=jh
structure z where
 o:Int
 s:Int
 d:an
 k:Int
 n:Int
 t:Int
 a:Int
 r:Int
 f:Int
namespace z
def ext{x y:z}(u:x.o=y.o)(j:x.s=y.s)(h:x.d=y.d)(w:x.k=y.k)(i:x.n=y.n)(p:x.t=y.t)(b:x.a=y.a)(m:x.r=y.r)(c:x.f=y.f):x=y:=by cases x;cases y;simp_all
instance:DecidableEq z:=λx y=>
 decidable_of_iff (x.o=y.o/\x.s=y.s/\x.d=y.d/\x.k=y.k/\x.n=y.n/\x.t=y.t/\x.a=y.a/\x.r=y.r/\x.f=y.f)
  ⟨λ⟨h0,h1,h2,h3,h4,h5,h6,h7,h8⟩=>ext h0 h1 h2 h3 h4 h5 h6 h7 h8,λh=>by subst h;simp⟩
def zero:z:=⟨0,0,an.zero,0,0,0,0,0,0⟩
structure ok(e:z):Prop where
 o:-9223372036854775808<=e.o/\e.o<=9223372036854775807
 s:0<=e.s/\e.s<=18446744073709551615
 d:e.d.ok
 k:0<=e.k/\e.k<=255
 n:0<=e.n/\e.n<=18446744073709551615
 t:-9223372036854775808<=e.t/\e.t<=9223372036854775807
 a:-9223372036854775808<=e.a/\e.a<=9223372036854775807
 r:0<=e.r/\e.r<=18446744073709551615
 f:0<=e.f/\e.f<=18446744073709551615
def bare(e:z):z:=⟨e.o,e.s,e.d,e.k,0,0,0,0,0⟩
end z
def aj(e:z):Array H:=#[Z e.o,q e.s,q e.d.v0,q e.d.v1,q e.d.v2,q e.d.v3,q e.d.v4,q e.d.v5,.int .u8 e.k,q e.n,Z e.t,Z e.a,q e.r,q e.f]
def l9(e:z):(aj e).size=14:=rfl
def Dn(e:z):(aj e).toList=[Z e.o,q e.s,q e.d.v0,q e.d.v1,q e.d.v2,q e.d.v3,q e.d.v4,q e.d.v5,.int .u8 e.k,q e.n,Z e.t,Z e.a,q e.r,q e.f]:=rfl
def WU(e:z):(aj e)[0]? =some (Z e.o):=rfl
def WT(e:z):(aj e)[1]? =some (q e.s):=rfl
def WS(e:z):(aj e)[2]? =some (q e.d.v0):=rfl
def WR(e:z):(aj e)[3]? =some (q e.d.v1):=rfl
def WQ(e:z):(aj e)[4]? =some (q e.d.v2):=rfl
def WP(e:z):(aj e)[5]? =some (q e.d.v3):=rfl
def WO(e:z):(aj e)[6]? =some (q e.d.v4):=rfl
def WN(e:z):(aj e)[7]? =some (q e.d.v5):=rfl
def WM(e:z):(aj e)[8]? =some (.int .u8 e.k):=rfl
def WK(e:z):(aj e)[9]? =some (q e.n):=rfl
def Vv(e:z):(aj e)[10]? =some (Z e.t):=rfl
def U6(e:z):(aj e)[11]? =some (Z e.a):=rfl
def U5(e:z):(aj e)[12]? =some (q e.r):=rfl
def U4(e:z):(aj e)[13]? =some (q e.f):=rfl
def U3(f x1 x2 x3 h o j m i k a c b d:Int):#[Z f,q x1,q x2,q x3,q h,q o,q j,q m,.int .u8 i,q k,Z a,Z c,q b,q d]=aj ⟨f,x1,⟨x2,x3,h,o,j,m⟩,i,k,a,c,b,d⟩:=rfl
def U2(e:z):(⟨e.o,e.s,e.d,e.k,e.n,e.t,e.a,e.r,e.f⟩:z)=e:=rfl
def Eh(e:z)(x:Int):(aj e).setIfInBounds 0 (Z x)=aj ⟨x,e.s,e.d,e.k,e.n,e.t,e.a,e.r,e.f⟩:=rfl
def Eg(e:z)(x:Int):(aj e).setIfInBounds 1 (q x)=aj ⟨e.o,x,e.d,e.k,e.n,e.t,e.a,e.r,e.f⟩:=rfl
def Ef(e:z)(x:Int):(aj e).setIfInBounds 2 (q x)=aj ⟨e.o,e.s,⟨x,e.d.v1,e.d.v2,e.d.v3,e.d.v4,e.d.v5⟩,e.k,e.n,e.t,e.a,e.r,e.f⟩:=rfl
def Ee(e:z)(x:Int):(aj e).setIfInBounds 3 (q x)=aj ⟨e.o,e.s,⟨e.d.v0,x,e.d.v2,e.d.v3,e.d.v4,e.d.v5⟩,e.k,e.n,e.t,e.a,e.r,e.f⟩:=rfl
def Ed(e:z)(x:Int):(aj e).setIfInBounds 4 (q x)=aj ⟨e.o,e.s,⟨e.d.v0,e.d.v1,x,e.d.v3,e.d.v4,e.d.v5⟩,e.k,e.n,e.t,e.a,e.r,e.f⟩:=rfl
def Ec(e:z)(x:Int):(aj e).setIfInBounds 5 (q x)=aj ⟨e.o,e.s,⟨e.d.v0,e.d.v1,e.d.v2,x,e.d.v4,e.d.v5⟩,e.k,e.n,e.t,e.a,e.r,e.f⟩:=rfl
def Eb(e:z)(x:Int):(aj e).setIfInBounds 6 (q x)=aj ⟨e.o,e.s,⟨e.d.v0,e.d.v1,e.d.v2,e.d.v3,x,e.d.v5⟩,e.k,e.n,e.t,e.a,e.r,e.f⟩:=rfl
def Ea(e:z)(x:Int):(aj e).setIfInBounds 7 (q x)=aj ⟨e.o,e.s,⟨e.d.v0,e.d.v1,e.d.v2,e.d.v3,e.d.v4,x⟩,e.k,e.n,e.t,e.a,e.r,e.f⟩:=rfl
def Lm(e:z)(x:Int):(aj e).setIfInBounds 8 (.int .u8 x)=aj ⟨e.o,e.s,e.d,x,e.n,e.t,e.a,e.r,e.f⟩:=rfl
def Ll(e:z)(x:Int):(aj e).setIfInBounds 9 (q x)=aj ⟨e.o,e.s,e.d,e.k,x,e.t,e.a,e.r,e.f⟩:=rfl
def Kk(e:z)(x:Int):(aj e).setIfInBounds 10 (Z x)=aj ⟨e.o,e.s,e.d,e.k,e.n,x,e.a,e.r,e.f⟩:=rfl
def Kj(e:z)(x:Int):(aj e).setIfInBounds 11 (Z x)=aj ⟨e.o,e.s,e.d,e.k,e.n,e.t,x,e.r,e.f⟩:=rfl
def Ki(e:z)(x:Int):(aj e).setIfInBounds 12 (q x)=aj ⟨e.o,e.s,e.d,e.k,e.n,e.t,e.a,x,e.f⟩:=rfl
def Kh(e:z)(x:Int):(aj e).setIfInBounds 13 (q x)=aj ⟨e.o,e.s,e.d,e.k,e.n,e.t,e.a,e.r,x⟩:=rfl
def Mv(e:z):(aj e=#[])=False:=by simp[aj]
def SI:(⟨0,0,an.zero,0,0,0,0,0,0⟩:z)=z.zero:=rfl
attribute [go_sem] l9 Dn U3 U2 SI Mv WU WT WS WR WQ WP WO WN WM WK Vv U6 U5 U4 Eh Eg Ef Ee Ed Ec Eb Ea Lm Ll Kk Kj Ki Kh
@[go_sem] theorem PP:z.zero.o=0:=rfl
@[go_sem] theorem Qs:z.zero.s=0:=rfl
@[go_sem] theorem PT:z.zero.d=an.zero:=rfl
@[go_sem] theorem PR:z.zero.k=0:=rfl
@[go_sem] theorem PQ:z.zero.n=0:=rfl
@[go_sem] theorem Qr:z.zero.t=0:=rfl
@[go_sem] theorem PU:z.zero.a=0:=rfl
@[go_sem] theorem Qt:z.zero.r=0:=rfl
@[go_sem] theorem PS:z.zero.f=0:=rfl
def cY(k:Int):Bool:=decide (1<=k)&&decide (k<=6)
def s5(k:Nat)(h:k<6):cY ((k:Int)+1)=true:=by simp[cY];omega
def rE{o:Int}(h:cY o=true):∃k:Nat,k<6/\o=(k:Int)+1:=by simp[cY]at h;exact⟨(o-1).toNat,V,V⟩
def rG(v:an):Bool:=decide (v.v0<1099511627776/\v.v1<1099511627776/\v.v2<1099511627776/\v.v3<1099511627776/\v.v4<1099511627776/\v.v5<1099511627776)
def Jg{v:an}:rG v=true↔∀k,k<6->v.get k<1099511627776:=by
 unfold rG;rw[eN];exact⟨λ⟨f,c,a,i,b,d⟩=>an.six (P:=λk=>v.get k<1099511627776) f c a i b d,
  λh=>⟨h 0 V,h 1 V,h 2 V,h 3 V,h 4 V,h 5 V⟩⟩
def ol(e:z):Bool:=cY e.o&&decide (1<=e.s)&&decide (e.s<1099511627776)&&decide (e.d.get (e.o-1).toNat=e.s-1)&&rG e.d
def pt(b:Int)(e:z):Bool:=decide (b<=e.a)&&decide (e.a<=1125899906842624)
def qV(e:z):Bool:=cY e.t&&decide (e.t≠e.o)
def nx(e:z):z:=
 if e.k=1\/e.k=2 then{e with n:=0,a:=0}else if e.k=3 then{e with n:=0,a:=0,r:=0}else if e.k=4 then{e with r:=0,f:=0}else if e.k=5 then{e with n:=0,a:=0,t:=0}else if e.k=6 then{e with t:=0}else e
def ib(e:z):Bool:=
 if e.k=1 then pt 0 e else if e.k=2 then pt 1 e else if e.k=3 then pt 1 e&&decide (1<=e.r)else if e.k=4 then decide (1<=e.r)&&decide (1<=e.f)&&decide (e.r≠e.f)else if e.k=5 then pt 1 e&&qV e else if e.k=6 then qV e else decide (e.k=7)
def AX(e:z):z:=
 if e.k=1\/e.k=2 then{e.bare with n:=e.n,a:=e.a}else if e.k=3 then{e.bare with n:=e.n,a:=e.a,r:=e.r}else if e.k=4 then{e.bare with r:=e.r,f:=e.f}else if e.k=5 then{e.bare with n:=e.n,a:=e.a,t:=e.t}else if e.k=6 then{e.bare with t:=e.t}else e.bare
def bG(e:z):Bool:=ol e&&(ib e&&decide (nx e=e.bare))
def Pv(e:z):(nx e=e.bare)↔(e=AX e):=by obtain⟨o,s,d,k,n,t,a,r,f⟩:=e;unfold nx AX z.bare;simp only;split;simp only[z.mk.injEq,true_and,qj];split;simp only[z.mk.injEq,true_and,qj];split;simp only[z.mk.injEq,true_and,qj];split;simp only[z.mk.injEq,true_and,qj];split;simp only[z.mk.injEq,true_and,qj];exact Iff.rfl
def ii{α β:Type}(R:α->β->Prop):List α->List β->Prop
 |[],[]=>True
 |x::X,m::L=>R x m/\ii R X L
 |_,_=>False
section
variable{α β:Type}{R R':α->β->Prop}
def ii.len:∀{X:List α} {L:List β},ii R X L->X.length=L.length
 |[],[],_=>rfl
 |_::_,_::_,h=>by simp[ii.len h.2]
 |[],_::_,h=>aK h
 |_::_,[],h=>aK h
def ii.get:∀{X:List α} {L:List β} {i:Nat} {m:β},ii R X L->L[i]? =some m->∃x,X[i]? =some x/\R x m
 |[],[],_,_,_,hi=>by simp at hi
 |x::_,m::_,0,_,h,hi=>by simp at hi;subst hi;exact⟨x,ah,h.1⟩
 |_::_,_::_,i+1,_,h,hi=>by obtain⟨x,a,b⟩:=ii.get (i:=i) h.2 (az hi);exact⟨x,az a,b⟩
 |[],_::_,_,_,h,_=>aK h
 |_::_,[],_,_,h,_=>aK h
def ii.snoc:∀{X:List α} {L:List β} {x:α} {m:β},ii R X L->R x m->ii R (X++[x]) (L++[m])
 |[],[],_,_,_,h=>⟨h,trivial⟩
 |_::_,_::_,_,_,h,h2=>⟨h.1,ii.snoc h.2 h2⟩
 |[],_::_,_,_,h,_=>aK h
 |_::_,[],_,_,h,_=>aK h
def ii.erase:∀{X:List α} {L:List β} (i:Nat),ii R X L->ii R (X.eraseIdx i) (L.eraseIdx i)
 |[],[],_,_=>trivial
 |_::_,_::_,0,h=>h.2
 |_::_,_::_,i+1,h=>⟨h.1,ii.erase i h.2⟩
 |[],_::_,_,h=>aK h
 |_::_,[],_,h=>aK h
def ii.imp:∀{X:List α} {L:List β},(∀x∈X,∀m∈L,R x m->R' x m)->ii R X L->ii R' X L
 |[],[],_,_=>trivial
 |x::X,m::L,h,h2=>⟨h x ah m ah h2.1,ii.imp (λx b m a=>h x (by simp[b]) m (by simp[a])) h2.2⟩
 |[],_::_,_,h=>aK h
 |_::_,[],_,h=>aK h
def ii.left:∀{X:List α} {L:List β} {x:α},ii R X L->x∈X->∃m∈L,R x m
 |[],[],_,_,hx=>aK hx
 |x::X,m::L,y,h,hx=>by rcases dh.1 hx with rfl|hx;exact⟨m,ah,h.1⟩;obtain⟨c,a,b⟩:=ii.left h.2 hx;exact⟨c,by simp[a],b⟩
 |[],_::_,_,h,_=>aK h
 |_::_,[],_,h,_=>aK h
end
structure aH(w w':D)(h:Nat)(r:Option Nat):Prop where
 os:w'.os=w.os
 tape:w'.tape=w.tape
 output:w'.output=w.output
 size:w.heap.size<=w'.heap.size
 block:∀k,k<w.heap.size->k≠h->some k≠r->w'.heap[k]? =w.heap[k]?
section
variable{w w' w'':D}{h:Nat}{r:Option Nat}
def aH.of_below(b:S w w'):aH w w' h r:=⟨b.os,b.tape,b.output,b.size,λk a _ _=>b.block k a⟩
def aH.of_grown(g:w.grownBy w' r):aH w w' h r:=⟨g.os,g.tape,g.output,g.size,λk a _ b=>g.block k a b⟩
def aH.of_set(p:Addr)(a:p.block=h)(u:H):aH w (w.setCell p u) h r:=⟨O,O,O,ah,λk _ b _=>by subst a;exact yt w p k u b⟩
def aH.trans(a:aH w w' h r)(b:aH w' w'' h r):aH w w'' h r:=
 ⟨b.os.trans a.os,b.tape.trans a.tape,b.output.trans a.output,aZ a.size b.size,λk d f c=>(b.block k (ee d a.size) f c).trans (a.block k d f c)⟩
def aH.refl:aH w w h r:=⟨O,O,O,ao _,λ_ _ _ _=>rfl⟩
def aH.drew(a:aH w w' h r):aH w w'.drew h r:=⟨a.os,a.tape,a.output,a.size,a.block⟩
def aH.set(a:aH w w' h r)(p:Addr)(b:p.block=h)(u:H):aH w (w'.setCell p u) h r:=a.trans (aH.of_set p b u)
def aH.row(a:aH w w' h r)(cs:Array H):aH w (w'.setRow h cs) h r:=a.trans ⟨O,O,O,by simp[World.setRow],λk _ b _=>lT w' h k _ b⟩
def aH.weak(a:aH w w' h none):aH w w' h r:=⟨a.os,a.tape,a.output,a.size,λk c b _=>a.block k c b ah⟩
def aH.blk(f:aH w w' h r)(b:M w g t cs)(a:g≠h)(c:some g≠r):M w' g t cs:=(f.block g b.lt a c).trans b
def aH.own(f:aH w w' h r)(o:w.ownsRow base e size v n xs)(j:v.ownBlock≠some h)(i:v.ownBlock=none\/v.ownBlock≠r):w'.ownsRow base e size v n xs:=by refine⟨o.1,?_⟩;rcases o.2 with m|⟨g,c,b,rfl,k,d,a⟩;exact .inl m;refine .inr ⟨g,c,b,O,k,?_,a⟩;rw[f.block g (fI.1 d).1 (λe=>j (by simp[Value.ownBlock,e])) (by simpa[Value.ownBlock]using i)];exact d
def aH.below(f:aH w w' h r)(b:S w0 w)(d:w0.heap.size<=h)(c:∀k,r=some k->w0.heap.size<=k):S w0 w':=
 ⟨f.os.trans b.os,f.tape.trans b.tape,f.output.trans b.output,aZ b.size f.size,λk a=>(f.block k (ee a b.size) V (λe=>aA (c k e.symm))).trans (b.block k a)⟩
end
def un{w:D}(o:w.ownsRow base e size v n xs)(b:M w g t cs)(a:e≠t):v.ownBlock≠some g:=by
 rcases o.2 with⟨rfl,_⟩|⟨k,f,c,rfl,_,i,_⟩;simp[Value.ownBlock];intro j;obtain rfl:k=g:=by simpa[Value.ownBlock]using j
 unfold M at b;rw[i]at b;injection b with h;injection h with _ d;exact a d
def gv.of:∀{bs:List (Nat×ay×Array H)},(∀a t cs,(a,t,cs)∈bs->a≠g)->gv g bs
 |[],_=>trivial
 |(a,t,cs)::r,h=>⟨h a t cs ah,gv.of λf d b c=>h f d b (by simp[c])⟩
@[reducible] def GR:List (Nat×ay×Array H)->Prop
 |[]=>True
 |(g,_,_)::r=>gv g r/\GR r
