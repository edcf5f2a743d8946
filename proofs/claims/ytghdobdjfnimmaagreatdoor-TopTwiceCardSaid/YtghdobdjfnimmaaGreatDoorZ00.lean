import Derived.Test.YtghdobdjfnimmaaGreatDoorZA
import Derived.Deep.Draws
set_option maxRecDepth 100000
set_option maxHeartbeats 0
set_option linter.all false
namespace Go.Proofs.YtghdobdjfnimmaaGreatDoor
open Go.Proofs.Tryz
variable{B g base size n:Nat}{v:Yv}{e t:Yw}{w0 W0 w':Yu}{xs:List Yv}{cs:Array Yv}{P:Program}{bs:List (Nat×Yw×Array Yv)}{l:List Int}
section
open Go.RowKit
structure av where
 v0:Int
 v1:Int
 v2:Int
 v3:Int
 v4:Int
 v5:Int
namespace av
theorem ext{a b:av}(j:a.v0=b.v0)(f:a.v1=b.v1)(c:a.v2=b.v2)(k:a.v3=b.v3)(d:a.v4=b.v4)(i:a.v5=b.v5):a=b:=by
 cases a;cases b;simp_all
instance:DecidableEq av:=λa b=>
 decidable_of_iff (a.v0=b.v0/\a.v1=b.v1/\a.v2=b.v2/\a.v3=b.v3/\a.v4=b.v4/\a.v5=b.v5)
  ⟨λ⟨h0,h1,h2,h3,h4,h5⟩=>ext h0 h1 h2 h3 h4 h5,λh=>by subst h;simp⟩
def get(v:av):Nat->Int
 |0=>v.v0
 |1=>v.v1
 |2=>v.v2
 |3=>v.v3
 |4=>v.v4
 |5=>v.v5
 |_=>0
def set(v:av)(k:Nat)(x:Int):av:=
 match k with
 |0=>{v with v0:=x}
 |1=>{v with v1:=x}
 |2=>{v with v2:=x}
 |3=>{v with v3:=x}
 |4=>{v with v4:=x}
 |5=>{v with v5:=x}
 |_=>v
def ofFn(f:Nat->Int):av:=⟨f 0,f 1,f 2,f 3,f 4,f 5⟩
def zero:av:=⟨0,0,0,0,0,0⟩
theorem six{P:Nat->Prop}(j:P 0)(f:P 1)(c:P 2)(m:P 3)(d:P 4)(i:P 5)(k:Nat)(h:k<6):P k:=by
 match k,h with
 |0,_=>exact j
 |1,_=>exact f
 |2,_=>exact c
 |3,_=>exact m
 |4,_=>exact d
 |5,_=>exact i
theorem ext_get{a b:av}(h:∀k,k<6->a.get k=b.get k):a=b:=
 ext (h 0 (by omega)) (h 1 (by omega)) (h 2 (by omega)) (h 3 (by omega)) (h 4 (by omega)) (h 5 (by omega))
theorem get_ofFn(f:Nat->Int)(k:Nat)(h:k<6):(ofFn f).get k=f k:=
 six (P:=λk=>(ofFn f).get k=f k) rfl rfl rfl rfl rfl rfl k h
theorem DG(k:Nat):zero.get k=0:=by
 unfold get zero;split<;>rfl
def ok(v:av):Prop:=∀k,k<6->0<=v.get k/\v.get k<=18446744073709551615
theorem ok_zero:zero.ok:=λk _=>by rw[DG];omega
def upto(v:av)(k:Nat):av:=ofFn λj=>if j<k then v.get j else 0
theorem upto_six(v:av):v.upto 6=v:=rfl
theorem upto_succ(v:av)(k:Nat)(h:k<6):(v.upto k).set k (v.get k)=v.upto (k+1):=
 six (P:=λk=>(v.upto k).set k (v.get k)=v.upto (k+1)) rfl rfl rfl rfl rfl rfl k h
def map2(c:Int->Int->Int)(a b:av):av:=ofFn λj=>c (a.get j) (b.get j)
theorem get_map2(c:Int->Int->Int)(a b:av)(k:Nat)(h:k<6):(map2 c a b).get k=c (a.get k) (b.get k):=get_ofFn _ k h
def foldV(c:Int->Int->Int):List av->av
 |[]=>zero
 |v::r=>r.foldl (map2 c) v
theorem foldV_take(c:Int->Int->Int)(L:List av)(k:Nat)(v:av)(d:0<k)(h:L[k]? =some v):foldV c (L.take (k+1))=map2 c (foldV c (L.take k)) v:=by
 cases L with
 |nil=>simp at h
 |cons a r=>
  obtain⟨k,rfl⟩:∃j,k=j+1:=⟨k-1,by omega⟩;simp only[Xv]at h;simp only[List.take_succ_cons,foldV];rw[VN,h];simp
end av
def aq(v:av):Array Yv:=#[.int .u64 v.v0,.int .u64 v.v1,.int .u64 v.v2,.int .u64 v.v3,.int .u64 v.v4,.int .u64 v.v5]
theorem fW(v:av)(k:Nat)(h:k<6):(aq v)[k]? =some (.int .u64 (v.get k)):=
 av.six (P:=λk=>(aq v)[k]? =some (.int .u64 (v.get k))) rfl rfl rfl rfl rfl rfl k h
theorem Bz(v:av)(k:Nat)(x:Int)(h:k<6):(aq v).setIfInBounds k (.int .u64 x)=aq (v.set k x):=
 av.six (P:=λk=>(aq v).setIfInBounds k (.int .u64 x)=aq (v.set k x)) rfl rfl rfl rfl rfl rfl k h
theorem zo(v:av):(aq v).size=6:=rfl
theorem tS(v:av):(aq v).toList=[.int .u64 v.v0,.int .u64 v.v1,.int .u64 v.v2,.int .u64 v.v3,.int .u64 v.v4,.int .u64 v.v5]:=rfl
theorem JT(v:av):(aq v)[0]? =some (.int .u64 v.v0):=rfl
theorem JS(v:av):(aq v)[1]? =some (.int .u64 v.v1):=rfl
theorem JR(v:av):(aq v)[2]? =some (.int .u64 v.v2):=rfl
theorem JQ(v:av):(aq v)[3]? =some (.int .u64 v.v3):=rfl
theorem JP(v:av):(aq v)[4]? =some (.int .u64 v.v4):=rfl
theorem JO(v:av):(aq v)[5]? =some (.int .u64 v.v5):=rfl
theorem FR(a b c d e f:Int):#[Value.int .u64 a,.int .u64 b,.int .u64 c,.int .u64 d,.int .u64 e,.int .u64 f]=aq ⟨a,b,c,d,e,f⟩:=rfl
theorem By:(⟨0,0,0,0,0,0⟩:av)=av.zero:=rfl
theorem zv(v:av)(x:Int):(aq v).setIfInBounds 0 (.int .u64 x)=aq ⟨x,v.v1,v.v2,v.v3,v.v4,v.v5⟩:=rfl
theorem zu(v:av)(x:Int):(aq v).setIfInBounds 1 (.int .u64 x)=aq ⟨v.v0,x,v.v2,v.v3,v.v4,v.v5⟩:=rfl
theorem zt(v:av)(x:Int):(aq v).setIfInBounds 2 (.int .u64 x)=aq ⟨v.v0,v.v1,x,v.v3,v.v4,v.v5⟩:=rfl
theorem zr(v:av)(x:Int):(aq v).setIfInBounds 3 (.int .u64 x)=aq ⟨v.v0,v.v1,v.v2,x,v.v4,v.v5⟩:=rfl
theorem zq(v:av)(x:Int):(aq v).setIfInBounds 4 (.int .u64 x)=aq ⟨v.v0,v.v1,v.v2,v.v3,x,v.v5⟩:=rfl
theorem zp(v:av)(x:Int):(aq v).setIfInBounds 5 (.int .u64 x)=aq ⟨v.v0,v.v1,v.v2,v.v3,v.v4,x⟩:=rfl
theorem ym(v:av):(⟨v.v0,v.v1,v.v2,v.v3,v.v4,v.v5⟩:av)=v:=rfl
theorem FQ:av.zero.v0=0:=rfl
theorem FP:av.zero.v1=0:=rfl
theorem FO:av.zero.v2=0:=rfl
theorem FN:av.zero.v3=0:=rfl
theorem FM:av.zero.v4=0:=rfl
theorem FL:av.zero.v5=0:=rfl
theorem tT(v:av):(aq v=#[])=False:=by simp[aq]
attribute [go_sem] FQ FP FO FN FM FL tT
attribute [go_sem] zv zu zt zr zq zp ym
attribute [go_sem] zo tS JT JS JR JQ JP JO FR By
def ai(w:Yu)(g:Nat)(t:Yw)(cs:Array Yv):Prop:=w.heap[g]? =some (.cells cs t (0,0))
section
variable{w w':Yu}{g:Nat}{t:Yw}{cs:Array Yv}
theorem ai.lt(h:ai w g t cs):g<w.heap.size:=by
 rcases WG g w.heap.size with c|hge
 ·exact c
 ·unfold ai at h;rw[VP hge]at h;cases h
theorem ai.cell(h:ai w g t cs)(i:Nat):w.cell? ⟨g,i,none⟩=cs[i]?:=cell_of_row w g i cs t (0,0) h
theorem ai.frozen(h:ai w g t cs)(i:Nat):w.frozen? ⟨g,i,none⟩=false:=by
 unfold ai at h;simp[World.frozen?,h]
theorem ai.new(w:Yu)(t:Yw)(cs:Array Yv):ai (w.alloc (.cells cs t)) w.heap.size t cs:=Yh w _
theorem ai.new_at{w:Yu}{g:Nat}{t:Yw}{cs c:Array Yv}(h:w.heap.size=g)(d:cs=c):ai (w.alloc (.cells cs t)) g t c:=by subst h;subst d;exact ai.new w t cs
theorem ai.drew(h:ai w g t cs):ai w.drew g t cs:=h
theorem ai.alloc(h:ai w g t cs)(o:Obj):ai (w.alloc o) g t cs:=(WK w o g h.lt).trans h
theorem ai.set_(h:ai w g t cs)(i:Nat)(u:Yv):ai (w.setCell ⟨g,i,none⟩ u) g t (cs.setIfInBounds i u):=by
 unfold ai at h⊢;simp[World.setCell,WO,h]
theorem ai.far(h:ai w g t cs){p:Addr}(c:g≠p.block)(u:Yv):ai (w.setCell p u) g t cs:=(Xx w p u g c).trans h
theorem ai.below(h:ai w g t cs)(d:Below B w w')(c:g<B):ai w' g t cs:=(d.block g c).trans h
theorem ai.rules(h:ai w g t cs):(∀i,w.cell? ⟨g,i,none⟩=cs[i]?)/\(∀i,w.frozen? ⟨g,i,none⟩=false):=⟨h.cell,h.frozen⟩
end
theorem ai.setVec{w:Yu}{O:av}(h:ai w g t (aq O))(R:av):
  ai ((((((w.setCell ⟨g,0,none⟩ (.int .u64 R.v0)).setCell ⟨g,1,none⟩ (.int .u64 R.v1)).setCell ⟨g,2,none⟩ (.int .u64 R.v2)).setCell ⟨g,3,none⟩ (.int .u64 R.v3)).setCell ⟨g,4,none⟩ (.int .u64 R.v4)).setCell ⟨g,5,none⟩ (.int .u64 R.v5)) g t (aq R):=
 (((((h.set_ 0 _).set_ 1 _).set_ 2 _).set_ 3 _).set_ 4 _).set_ 5 (.int .u64 R.v5)
theorem ai.farVec{w:Yu}{d:Nat}(h:ai w g t cs)(c:g≠d)(R:av):
  ai ((((((w.setCell ⟨d,0,none⟩ (.int .u64 R.v0)).setCell ⟨d,1,none⟩ (.int .u64 R.v1)).setCell ⟨d,2,none⟩ (.int .u64 R.v2)).setCell ⟨d,3,none⟩ (.int .u64 R.v3)).setCell ⟨d,4,none⟩ (.int .u64 R.v4)).setCell ⟨d,5,none⟩ (.int .u64 R.v5)) g t cs:=
 (((((h.far (p:=⟨d,0,none⟩) c _).far (p:=⟨d,1,none⟩) c _).far (p:=⟨d,2,none⟩) c _).far (p:=⟨d,3,none⟩) c _).far (p:=⟨d,4,none⟩) c _).far (p:=⟨d,5,none⟩) c _
theorem gU{a w:Yu}(h:Below B a w){d:Nat}(c:B<=d)(R:av):
  Below B a ((((((w.setCell ⟨d,0,none⟩ (.int .u64 R.v0)).setCell ⟨d,1,none⟩ (.int .u64 R.v1)).setCell ⟨d,2,none⟩ (.int .u64 R.v2)).setCell ⟨d,3,none⟩ (.int .u64 R.v3)).setCell ⟨d,4,none⟩ (.int .u64 R.v4)).setCell ⟨d,5,none⟩ (.int .u64 R.v5)):=
 (((((h.setCell (p:=⟨d,0,none⟩) c _).setCell (p:=⟨d,1,none⟩) c _).setCell (p:=⟨d,2,none⟩) c _).setCell (p:=⟨d,3,none⟩) c _).setCell (p:=⟨d,4,none⟩) c _).setCell (p:=⟨d,5,none⟩) c _
def qC(w:Yu)(B:Nat)(A:Option Addr)(L:List av):Prop:=
 L≠[]->∃b o,A=some ⟨b,o,none⟩/\b<B/\∀i v,L[i]? =some v->∀j,j<6->w.cell? ⟨b,o+i*6+j,none⟩=some (.int .u64 (v.get j))
@[reducible] def ze(w:Yu)(b o:Nat)(v:av):Prop:=
 w.cell? ⟨b,o,none⟩=some (.int .u64 v.v0)/\w.cell? ⟨b,o+1,none⟩=some (.int .u64 v.v1)/\w.cell? ⟨b,o+2,none⟩=some (.int .u64 v.v2)/\
 w.cell? ⟨b,o+3,none⟩=some (.int .u64 v.v3)/\w.cell? ⟨b,o+4,none⟩=some (.int .u64 v.v4)/\w.cell? ⟨b,o+5,none⟩=some (.int .u64 v.v5)
theorem ud{w:Yu}{b o i:Nat}{v:av}(h:∀j,j<6->w.cell? ⟨b,o+i*6+j,none⟩=some (.int .u64 (v.get j))):ze w b (o+i*6) v:=
 ⟨h 0 (by omega),h 1 (by omega),h 2 (by omega),h 3 (by omega),h 4 (by omega),h 5 (by omega)⟩
theorem ze.below{w:Yu}{b o:Nat}{v:av}(h:ze w b o v)(d:Below B w w')(c:b<B):ze w' b o v:=
 ⟨(d.cell (p:=⟨b,_,none⟩) c).trans h.1,(d.cell (p:=⟨b,_,none⟩) c).trans h.2.1,(d.cell (p:=⟨b,_,none⟩) c).trans h.2.2.1,
  (d.cell (p:=⟨b,_,none⟩) c).trans h.2.2.2.1,(d.cell (p:=⟨b,_,none⟩) c).trans h.2.2.2.2.1,(d.cell (p:=⟨b,_,none⟩) c).trans h.2.2.2.2.2⟩
theorem qC.below{w:Yu}{A:Option Addr}{L:List av}(h:qC w B A L)(k:Below B w w'):qC w' B A L:=λf=>by
 obtain⟨b,o,q,c,m⟩:=h f;exact⟨b,o,q,c,λi v s j d=>(k.cell (p:=⟨b,_,none⟩) c).trans (m i v s j d)⟩
theorem ou(w:Yu)(d:Nat)(t e:Yw)(i:TypeInfo)(a b:av)(S:P.underlying t=some (.array 6 e))(J:P.underlying e=some (.int .u64))(Z:P.info? e=some i)(X:i.size=1):
  (Op.equalIn (d+2) t (.agg (aq a)) (.agg (aq b))).run P w=.ok (decide (a=b)) w:=by
 have o:∀w,(isAgg e).run P w=.ok false w:=λw=>by simp[isAgg,VD J]
 have p:∀w,(sizeOf e).run P w=.ok 1 w:=λw=>by simp[sizeOf,typeInfo,Z,X]
 have c:∀(v:av) (k:Nat) (h:k<6) w,(part e (aq v) k).run P w=.ok (.int .u64 (v.get k)) w:=λv k h w=>by
  simp[part,o,fW v k h]
 have C:∀(x y:Int) w,(Op.equalIn (d+1) e (.int .u64 x) (.int .u64 y)).run P w=.ok (x==y) w:=λx y w=>Xy w d e .u64 .u64 x y J
 have s:decide (a=b)=(a.get 0==b.get 0&&(a.get 1==b.get 1&&(a.get 2==b.get 2&&(a.get 3==b.get 3&&(a.get 4==b.get 4&&a.get 5==b.get 5))))):=by
  rw[Bool.eq_iff_iff];simp only[VC,Vo,Xg];exact⟨λh=>by subst h;simp,λ⟨Q,U,O,Y,T,V⟩=>av.ext Q U O Y T V⟩
 have I:=c a 0 (by omega);have K:=c a 1 (by omega);have L:=c a 2 (by omega);have E:=c a 3 (by omega);have G:=c a 4 (by omega);have F:=c a 5 (by omega);have D:=c b 0 (by omega);have b1:=c b 1 (by omega);have b2:=c b 2 (by omega);have z:=c b 3 (by omega);have H:=c b 4 (by omega);have u:=c b 5 (by omega);rw[Op.equalIn,s];simp only[Wu,VD S,V2,p];simp[Std.Legacy.Range.forIn_eq_forIn_range',List.range'_succ,I,K,L,E,G,F,D,b1,b2,z,H,u,C];clear I K L E G F D b1 b2 z H u c C s;by_cases f:a.get 0=b.get 0
 ·by_cases j:a.get 1=b.get 1
  ·by_cases m:a.get 2=b.get 2
   ·by_cases q:a.get 3=b.get 3
    ·by_cases M:a.get 4=b.get 4
     ·by_cases N:a.get 5=b.get 5<;>simp[f,j,m,q,M,N]
     ·simp[f,j,m,q,M]
    ·simp[f,j,m,q]
   ·simp[f,j,m]
  ·simp[f,j]
 ·simp[f]
theorem bC{a w:Yu}(h:Below B a w)(n:Nat):Below B a (w.drewN n):=⟨h.os,h.tape,h.output,h.size,h.block⟩
theorem zl{w:Yu}{a b:av}(h:w.heap[g]? =some (.cells #[.int .u64 a.v0,.int .u64 a.v1,.int .u64 a.v2,.int .u64 a.v3,.int .u64 a.v4,.int .u64 a.v5,.int .u64 b.v0,.int .u64 b.v1,.int .u64 b.v2,.int .u64 b.v3,.int .u64 b.v4,.int .u64 b.v5] t (0,0))):
  qC w (g+1) (some ⟨g,0,none⟩) [a,b]:=λ_=>by
 refine⟨g,0,rfl,by omega,λi v c j d=>?_⟩;rw[cell_of_row w g _ _ t (0,0) h]
 match i,c with
 |0,c=>
  simp at c;subst c;exact av.six (P:=λj=>(#[.int .u64 a.v0,.int .u64 a.v1,.int .u64 a.v2,.int .u64 a.v3,.int .u64 a.v4,.int .u64 a.v5,.int .u64 b.v0,.int .u64 b.v1,.int .u64 b.v2,.int .u64 b.v3,.int .u64 b.v4,.int .u64 b.v5]:Array Yv)[0+0*6+j]? =some (.int .u64 (a.get j))) rfl rfl rfl rfl rfl rfl j d
 |1,c=>
  simp at c;subst c;exact av.six (P:=λj=>(#[.int .u64 a.v0,.int .u64 a.v1,.int .u64 a.v2,.int .u64 a.v3,.int .u64 a.v4,.int .u64 a.v5,.int .u64 b.v0,.int .u64 b.v1,.int .u64 b.v2,.int .u64 b.v3,.int .u64 b.v4,.int .u64 b.v5]:Array Yv)[0+1*6+j]? =some (.int .u64 (b.get j))) rfl rfl rfl rfl rfl rfl j d
def mQ(w0:Yu)(t:Yw)(a b:Array Yv)(w':Yu):Prop:=ai w' w0.heap.size t a/\ai w' (w0.heap.size+1) t b/\Ys w0 w'
section
variable{w0 W w1:Yu}{t:Yw}{a b:Array Yv}
theorem mQ.all(h:mQ w0 t a b W):((∀i,W.cell? ⟨w0.heap.size,i,none⟩=a[i]?)/\(∀i,W.cell? ⟨w0.heap.size+1,i,none⟩=b[i]?))/\mQ w0 t a b W:=⟨⟨h.1.cell,h.2.1.cell⟩,h⟩
theorem mQ.start:mQ w0 t a b ((w0.alloc (.cells a t)).alloc (.cells b t)):=
 ⟨(ai.new_at rfl rfl).alloc _,ai.new_at (by simp) rfl,((Vd _ _).alloc (Vc _) _).alloc (by simp) _⟩
theorem mQ.drew(h:mQ w0 t a b W):mQ w0 t a b W.drew:=⟨h.1,h.2.1,h.2.2.drew⟩
theorem mQ.alloc(h:mQ w0 t a b W)(o:Obj):mQ w0 t a b (W.alloc o):=⟨h.1.alloc o,h.2.1.alloc o,h.2.2.alloc h.2.2.size o⟩
theorem mQ.undrew(h:mQ w0 t a b W.drew):mQ w0 t a b W:=⟨h.1,h.2.1,⟨h.2.2.os,h.2.2.tape,h.2.2.output,h.2.2.size,h.2.2.block⟩⟩
theorem mQ.below(h:mQ w0 t a b W)(c:Ys W w1):mQ w0 t a b w1:=⟨h.1.below c h.1.lt,h.2.1.below c h.2.1.lt,h.2.2.trans (c.mono h.2.2.size)⟩
end
def Sb(W0 w':Yu):Prop:=Ys W0 w'
section
variable{W0 W w1:Yu}
theorem Sb.all(h:Sb W0 W):(∀b o,b<W0.heap.size->W.cell? ⟨b,o,none⟩=W0.cell? ⟨b,o,none⟩)/\Sb W0 W:=⟨λb o c=>Below.cell h (p:=⟨b,o,none⟩) c,h⟩
theorem Sb.start:Sb W0 W0:=Vd _ _
theorem Sb.drew(h:Sb W0 W):Sb W0 W.drew:=Below.drew h
theorem Sb.below(h:Sb W0 W)(c:Ys W w1):Sb W0 w1:=XC h (c.mono h.size)
end
@[reducible] def zf(w:Yu):List (Nat×Yw×Array Yv)->Prop
 |[]=>True
 |(g,_,cs)::r=>(∀i,w.cell? ⟨g,i,none⟩=cs[i]?)/\(∀i,w.frozen? ⟨g,i,none⟩=false)/\zf w r
@[reducible] def Tj(w:Yu):List (Nat×Yw×Array Yv)->Prop
 |[]=>True
 |(g,_,_)::r=>g<w.heap.size/\Tj w r
structure bF(w0 w:Yu)(bs:List (Nat×Yw×Array Yv)):Prop where
 below:Ys w0 w
 blk:∀g t cs,(g,t,cs)∈bs->ai w g t cs
section
variable{w0 w w1:Yu}{bs:List (Nat×Yw×Array Yv)}{g:Nat}{t:Yw}{cs:Array Yv}
theorem bF.nil(w:Yu):bF w w []:=⟨Vd _ _,λ_ _ _ h=>by cases h⟩
theorem bF.push(h:bF w0 w bs)(c:w.heap.size=g):bF w0 (w.alloc (.cells cs t)) ((g,t,cs)::bs):=
 ⟨h.below.alloc h.below.size _,λf t' d hm=>by
  rcases Vy.1 hm with e|hm
  ·cases e;exact ai.new_at c rfl
  ·exact(h.blk _ _ _ hm).alloc _⟩
theorem bF.drew(h:bF w0 w bs):bF w0 w.drew bs:=⟨h.below.drew,h.blk⟩
theorem bF.drewN(h:bF w0 w bs)(n:Nat):bF w0 (w.drewN n) bs:=⟨bC h.below n,h.blk⟩
theorem bF.call(h:bF w0 w bs)(d:Ys w w1):bF w0 w1 bs:=
 ⟨h.below.trans (d.mono h.below.size),λ_ _ _ c=>(h.blk _ _ _ c).below d (h.blk _ _ _ c).lt⟩
theorem bF.drop(h:bF w0 w ((g,t,cs)::bs)):bF w0 w bs:=⟨h.below,λ_ _ _ c=>h.blk _ _ _ (VA _ c)⟩
theorem bF.rules(h:bF w0 w bs):zf w bs:=by
 obtain⟨_,c⟩:=h
 induction bs with
 |nil=>trivial
 |cons x r ih=>
  obtain⟨g,t,cs⟩:=x;exact⟨(c g t cs Vp).cell,(c g t cs Vp).frozen,ih λg t cs d=>c g t cs (VA _ d)⟩
theorem bF.lts(h:bF w0 w bs):Tj w bs:=by
 obtain⟨_,c⟩:=h
 induction bs with
 |nil=>trivial
 |cons x r ih=>
  obtain⟨g,t,cs⟩:=x;exact⟨(c g t cs Vp).lt,ih λg t cs d=>c g t cs (VA _ d)⟩
theorem bF.lt(h:bF w0 w ((g,t,cs)::bs)):g<w.heap.size:=(h.blk _ _ _ Vp).lt
end
theorem Calls.trk{f:FuncId}{args:Array Yv}{W:Yu}
  (h:Calls P f args W λe w'=>e=.returned v/\Ys W w') (T:bF w0 W bs):
  Calls P f args W λe w'=>e=.returned v/\bF w0 w' bs/\zf w' bs:=
 h.mono λ_ _ ⟨d,c⟩=>⟨d,T.call c,(T.call c).rules⟩
theorem dE{w:Yu}(h:w.ownsRow base e size v n xs)(j:Ys w w'):w'.ownsRow base e size v n xs:=by
 obtain⟨i,c⟩:=h;refine⟨i,?_⟩;rcases c with c|⟨g,cap,cur,f,k,d,r⟩
 ·exact Vs c
 ·exact Vr ⟨g,cap,cur,f,k,(j.block g (ai.lt d)).trans d,r⟩
def gM(w:Yu)(B:Nat)(A:Option Addr)(l:List Int):Prop:=
 l≠[]->∃b o,A=some ⟨b,o,none⟩/\b<B/\∀i x,l[i]? =some x->w.cell? ⟨b,o+i,none⟩=some (.int .u8 x)
theorem gM.below{w:Yu}{A:Option Addr}(h:gM w B A l)(j:Below B w w'):gM w' B A l:=λd=>by
 obtain⟨b,o,k,c,f⟩:=h d;exact⟨b,o,k,c,λi x m=>(j.cell (p:=⟨b,_,none⟩) c).trans (f i x m)⟩
def eh(W0:Yu):Type:={w':Yu//Ys W0 w'}
instance{W0:Yu}:Nonempty (eh W0):=⟨⟨W0,Vd _ _⟩⟩
def eh.w(x:eh W0):Yu:=x.1
theorem eh.below(x:eh W0):Ys W0 x.w:=x.2
@[go_sem] theorem eh.cell(x:eh W0)(b o:Nat)(h:b<W0.heap.size):x.w.cell? ⟨b,o,none⟩=W0.cell? ⟨b,o,none⟩:=x.below.cell (p:=⟨b,o,none⟩) h
theorem dY{id:Nat}{Q:Exit->Act->Yu->Prop}{a:Act}{l:List Oper}(c:P.follows .mixedOrders=true)(d:Region.lexB .any l.toArray=true)
  (h:wpQuiet P l.toArray (λw'=>∃x:eh W0,w'=x.w) (λf=>∀w',(∃x:eh W0,w'=x.w)->Q .normal f w') l a):(Code.region id l.toArray true).wp P Q a W0:=
 wp_region_quiet (C:=λw'=>∃x:eh W0,w'=x.w) c d ⟨⟨W0.drew,(Vd _ _).drew⟩,rfl⟩ (by simpa using h)
theorem Calls.later{f:FuncId}{args:Array Yv}{x:eh W0}(h:Calls P f args x.w λe w'=>e=.returned v/\Ys x.w w'):
  Calls P f args x.w λe w''=>e=.returned v/\∃y:eh W0,w''=y.w:=
 h.mono λ_ w' ⟨c,d⟩=>⟨c,⟨w',x.below.trans (d.mono x.below.size)⟩,rfl⟩
def iJ(t:Yw)(x:Yv):Sem Next:=do pure (.value (<-Instr.buildSlice t 1 #[(0,x)]))
def SM(t:Yw)(x y:Yv):Sem Next:=do pure (.value (<-Instr.buildSlice t 2 #[(0,x),(1,y)]))
theorem sL{k:IntKind}{a b:Int}(h:a=b):Ending.returned (.int k a)=.returned (.int k b):=by rw[h]
def Rd(w:Yu)(B size:Nat)(A:Option Addr)(n:Nat)(xs:List Yv):Prop:=
 xs.length=n*size/\(0<n->∃b o,A=some ⟨b,o,none⟩/\b<B/\∀j u,xs[j]? =some u->w.cell? ⟨b,o+j,none⟩=some u)
theorem d6(b o j:Nat):(⟨b,o,none⟩:Addr).add j=⟨b,o+j,none⟩:=by unfold Addr.add;split<;>simp_all
section
variable{w w':Yu}{B B' size n:Nat}{A:Option Addr}{xs:List Yv}
theorem Rd.below(h:Rd w B size A n xs)(f:Below B w w'):Rd w' B size A n xs:=
 ⟨h.1,λk=>by obtain⟨b,o,e,c,i⟩:=h.2 k;exact⟨b,o,e,c,λj u d=>(f.cell (p:=⟨b,_,none⟩) c).trans (i j u d)⟩⟩
theorem Rd.mono(h:Rd w B size A n xs)(i:B<=B'):Rd w B' size A n xs:=
 ⟨h.1,λc=>by obtain⟨b,o,e,f,d⟩:=h.2 c;exact⟨b,o,e,by omega,d⟩⟩
theorem Rd.of_own{c:Nat}(h:w.ownsRow base e size (.slice A n c) n xs):Rd w w.heap.size size A n xs:=by
 refine⟨h.1,λp=>?_⟩;rcases h.2 with⟨_,m⟩|⟨g,cap,cur,d,o,f,_⟩
 ·omega
 ·have k:A=some ⟨g,0,none⟩:=by injection d
  subst k;refine⟨g,0,rfl,ai.lt f,λj u i=>?_⟩;have:=h.cells (g:=g) rfl j u i;rwa[d6]at this
theorem aF(h:w.ownsRow base e size v n xs):∃A c,v=.slice A n c/\n<=c/\c<=maxLen/\Rd w w.heap.size size A n xs:=by
 have i:=h;rcases h.2 with⟨rfl,rfl⟩|⟨g,cap,cur,rfl,k,j,f,d,_,_⟩
 ·exact⟨none,0,rfl,Vc _,by decide,Rd.of_own i⟩
 ·exact⟨_,cap,rfl,f,d,Rd.of_own i⟩
def aU(l:List Int):List Yv:=l.map (.int .u8)
theorem iG(l:List Int):(aU l).length=l.length:=Wd _
theorem vU(h:gM w B A l):Rd w B 1 A l.length (aU l):=by
 refine⟨by rw[iG,V3],λk=>?_⟩;obtain⟨b,o,e,c,f⟩:=h (List.ne_nil_of_length_pos k);refine⟨b,o,e,c,λj u d=>?_⟩;unfold aU at d;rw[Wm]at d;obtain⟨x,i,rfl⟩:=Option.map_eq_some_iff.1 d;exact f j x i
theorem py(h:Rd w B 1 A l.length (aU l)):gM w B A l:=λj=>by
 obtain⟨b,o,e,c,d⟩:=h.2 (List.length_pos_iff.2 j);exact⟨b,o,e,c,λi x f=>d i _ (by unfold aU;rw[Wm,f];rfl)⟩
end
section
variable{P:Program}(w:Yu)
theorem kQ(base:Nat)(t ty e:Yw)(i:TypeInfo)(z:Yv)(size bytes:Nat)(I:P.underlying t=some (.slice e))(J:P.info? e=some i)(O:i.zero=some z)
  (s:i.size=size) (E:i.bytes=bytes) (H:z.cells.size=size) (D:0<size)
  (v:Yv) (n:Nat) (xs:List Yv) (d:w.ownsRow base e size v n xs) (B:Nat) (A:Option Addr) (m c:Nat) (f:List Yv) (M:Rd w B size A m f) (U:∀u∈f,u.oneCell'=true)
  (C:n+m<=maxLen) (q:(n+m)*bytes<=140737488355328) (p:base<=w.heap.size):
  ∃y w',(Builtin.append_ #[t,t] ty #[v,.slice A m c]).run P w=.ok y w'/\w'.ownsRow base e size y (n+m) (xs++f)/\Below base w w':=by
 have F:∀w',w.grownBy w' v.ownBlock->Below base w w':=λw' S=>(Vd _ _).grown S p λk T=>(d.lt k T).1
 by_cases V:m=0
 ·subst V
  obtain rfl:f=[]:=VM (by simpa using M.1);rcases A with _|ad
  ·refine⟨v,w,?_,by simpa using d,Vd _ _⟩
   rcases d.2 with⟨rfl,rfl⟩|⟨g,cap,cur,rfl,_,_,L,_⟩
   ·simp[Builtin.append_,VD I,sizeOf,typeInfo,J,Builtin.lenOf,Builtin.firstCells]
   ·simp[Builtin.append_,VD I,sizeOf,typeInfo,J,Builtin.lenOf,Builtin.firstCells,L,storeCells]
  ·obtain⟨y,w',x,K,N,_⟩:=XJ (P:=P) w base t ty e i z size bytes I J O s E H D v n xs d ad 0 c [] (by simp) (λj u G=>by simp at G) (λu G=>by cases G) C q p
   exact⟨y,w',x,K,F w' N⟩
 ·obtain⟨b,o,rfl,Q,X⟩:=M.2 (by omega)
  obtain⟨y,w',x,K,N,_⟩:=XJ (P:=P) w base t ty e i z size bytes I J O s E H D v n xs d ⟨b,o,none⟩ m c f M.1 (λj u G=>by rw[d6];exact X j u G) U C q p;exact⟨y,w',x,K,F w' N⟩
theorem iK{y:Array Oper}{j:List Oper}{o:Oper}{a:Act}{Q:Exit->Act->Yu->Prop}(E:o.guard=none)(s x:Yx)(t:Yw)
  (O:o.op=.call {callee:=.builtin .append,args:=#[s,x],argTypes:=#[t,t]})
  (base:Nat) (e:Yw) (i:TypeInfo) (z:Yv) (size bytes:Nat) (K:P.underlying t=some (.slice e)) (V:P.info? e=some i) (N:i.zero=some z)
  (k:i.size=size) (H:i.bytes=bytes) (I:z.cells.size=size) (G:0<size)
  (v:Yv) (n:Nat) (xs:List Yv) (U:a.eval s=v) (q:w.ownsRow base e size v n xs)
  (B:Nat) (A:Option Addr) (m c:Nat) (d:List Yv) (X:a.eval x=.slice A m c) (S:Rd w B size A m d) (M:∀u∈d,u.oneCell'=true)
  (F:n+m<=maxLen) (f:(n+m)*bytes<=140737488355328) (p:base<=w.heap.size)
  (h:∀D w',w'.ownsRow base e size D (n+m) (xs++d)->Below base w w'->wpList P y Q j (a.put o.dst D) w'):wpList P y Q (o::j) a w:=by
 obtain⟨D,w',C,J,T⟩:=kQ (P:=P) w base t o.type e i z size bytes K V N k H I G v n xs q B A m c d S M F f p;refine Xo E λ_ L=>?_
 unfold Oper.wp execOp;simp only[O,resolve,invoke,builtin,Wu,XK,V2,Wy,VG,WQ,U,X,C];exact L _ _ (h D w' J T)
end
def Fz(t:Yw):Sem Next:=do pure (.value (<-Instr.buildSlice t 0 #[]))
section
variable(ρ:Yx->Yv)(dst:Option Tmp)(ty t:Yw)(pos:String)(after:Array Edge)(guard:Option (Nat×Bool))
theorem jq:execOp ρ {dst,op:=.buildSlice t 0 #[],type:=ty,pos,after,guard}=Fz t:=by simp[execOp,Fz]
end
@[reducible] def mS(g:Nat):List (Nat×Yw×Array Yv)->Prop
 |[]=>True
 |(g',_,_)::r=>g'≠g/\mS g r
theorem mS.o:∀{bs:List (Nat×Yw×Array Yv)},mS g bs->∀c t cs,(c,t,cs)∈bs->c≠g
 |(_,_,_)::_,h,_,_,_,hm=>by
  rcases Vy.1 hm with e|hm
  ·cases e;exact h.1
  ·exact mS.o h.2 _ _ _ hm
theorem bF.set_{w:Yu}(h:bF w0 w ((g,t,cs)::bs))(f:w0.heap.size<=g)(c:mS g bs)(i:Nat)(u:Yv):
  bF w0 (w.setCell ⟨g,i,none⟩ u) ((g,t,cs.setIfInBounds i u)::bs):=
 ⟨h.below.setCell (p:=⟨g,i,none⟩) f u,λj t' d hm=>by
  rcases Vy.1 hm with e|hm
  ·cases e;exact(h.blk _ _ _ Vp).set_ i u
  ·exact(h.blk _ _ _ (VA _ hm)).far (p:=⟨g,i,none⟩) (c.o _ _ _ hm) u⟩
@[reducible] def Qr(B:Nat):List (Nat×Yw×Array Yv)->Prop
 |[]=>True
 |(g,_,_)::r=>g<B/\Qr B r
theorem Qr.o:∀{bs:List (Nat×Yw×Array Yv)},Qr B bs->∀g t cs,(g,t,cs)∈bs->g<B
 |(_,_,_)::_,h,_,_,_,hm=>by
  rcases Vy.1 hm with e|hm
  ·cases e;exact h.1
  ·exact Qr.o h.2 _ _ _ hm
theorem bF.callB{w w1:Yu}(h:bF w0 w bs)(d:Below B w w1)(f:w0.heap.size<=B)(i:Qr B bs):bF w0 w1 bs:=
 ⟨h.below.trans (d.mono f),λg t cs c=>(h.blk _ _ _ c).below d (i.o g t cs c)⟩
theorem db{w:Yu}{c:Nat}(h:w.ownsRow c e size v n xs)(j:base<=c):w.ownsRow base e size v n xs:=by
 obtain⟨i,d⟩:=h;refine⟨i,?_⟩;rcases d with d|⟨g,cap,cur,f,k,r⟩
 ·exact Vs d
 ·exact Vr ⟨g,cap,cur,f,by omega,r⟩
theorem me{w:Yu}(h:w.ownsRow base e size v n xs){p:Addr}(k:p.block<base)(u:Yv):(w.setCell p u).ownsRow base e size v n xs:=by
 obtain⟨i,c⟩:=h;refine⟨i,?_⟩;rcases c with c|⟨g,cap,cur,d,j,f,r⟩
 ·exact Vs c
 ·exact Vr ⟨g,cap,cur,d,j,(Xx w p u g (by omega)).trans f,r⟩
theorem bF.perm{w:Yu}{cs:List (Nat×Yw×Array Yv)}(h:bF w0 w bs)(c:∀x∈cs,x∈bs):bF w0 w cs:=⟨h.below,λ_ _ _ d=>h.blk _ _ _ (c _ d)⟩
def aj(n:Int):Nat->Int
 |0=>n/72057594037927936%256
 |1=>n/281474976710656%256
 |2=>n/1099511627776%256
 |3=>n/4294967296%256
 |4=>n/16777216%256
 |5=>n/65536%256
 |6=>n/256%256
 |_=>n%256
def cL(n:Int):List Int:=[aj n 0,aj n 1,aj n 2,aj n 3,aj n 4,aj n 5,aj n 6,aj n 7]
theorem sr(n:Int):(cL n).length=8:=rfl
theorem yV{P:Nat->Prop}(o:P 0)(j:P 1)(d:P 2)(p:P 3)(f:P 4)(m:P 5)(c:P 6)(i:P 7)(k:Nat)(h:k<8):P k:=by
 match k,h with
 |0,_=>exact o
 |1,_=>exact j
 |2,_=>exact d
 |3,_=>exact p
 |4,_=>exact f
 |5,_=>exact m
 |6,_=>exact c
 |7,_=>exact i
theorem rh(n:Int)(j:Nat)(h:j<8):(cL n)[j]? =some (aj n j):=
 yV (P:=λj=>(cL n)[j]? =some (aj n j)) rfl rfl rfl rfl rfl rfl rfl rfl j h
theorem ws(n:Int)(j:Nat)(h:j<8):(cL n).take (j+1)=(cL n).take j++[aj n j]:=by
 rw[VN,rh n j h];rfl
def cF(n:Int):Nat->Int
 |0=>aj n 0*72057594037927936+aj n 1*281474976710656+aj n 2*1099511627776+aj n 3*4294967296+aj n 4*16777216+aj n 5*65536+aj n 6*256+aj n 7
 |1=>aj n 1*72057594037927936+aj n 2*281474976710656+aj n 3*1099511627776+aj n 4*4294967296+aj n 5*16777216+aj n 6*65536+aj n 7*256+aj n 0
 |2=>aj n 2*72057594037927936+aj n 3*281474976710656+aj n 4*1099511627776+aj n 5*4294967296+aj n 6*16777216+aj n 7*65536+aj n 0*256+aj n 1
 |3=>aj n 3*72057594037927936+aj n 4*281474976710656+aj n 5*1099511627776+aj n 6*4294967296+aj n 7*16777216+aj n 0*65536+aj n 1*256+aj n 2
 |4=>aj n 4*72057594037927936+aj n 5*281474976710656+aj n 6*1099511627776+aj n 7*4294967296+aj n 0*16777216+aj n 1*65536+aj n 2*256+aj n 3
 |5=>aj n 5*72057594037927936+aj n 6*281474976710656+aj n 7*1099511627776+aj n 0*4294967296+aj n 1*16777216+aj n 2*65536+aj n 3*256+aj n 4
 |6=>aj n 6*72057594037927936+aj n 7*281474976710656+aj n 0*1099511627776+aj n 1*4294967296+aj n 2*16777216+aj n 3*65536+aj n 4*256+aj n 5
 |7=>aj n 7*72057594037927936+aj n 0*281474976710656+aj n 1*1099511627776+aj n 2*4294967296+aj n 3*16777216+aj n 4*65536+aj n 5*256+aj n 6
 |_=>aj n 0*72057594037927936+aj n 1*281474976710656+aj n 2*1099511627776+aj n 3*4294967296+aj n 4*16777216+aj n 5*65536+aj n 6*256+aj n 7
def zM(x:Int):Int:=x*256%18446744073709551616+x/72057594037927936
theorem fZ(x c y:Int)(e:x=72057594037927936*c+y)(i:0<=c)(c1:c<=255)(d:0<=y)(f:y<72057594037927936):zM x=y*256+c:=by
 subst e;unfold zM;omega
theorem aB(n:Int)(j:Nat):0<=aj n j/\aj n j<=255:=by
 unfold aj;split<;>omega
theorem AU(n:Int)(d:0<=n)(c:n<=18446744073709551615):n=aj n 0*72057594037927936+aj n 1*281474976710656+aj n 2*1099511627776+aj n 3*4294967296+aj n 4*16777216+aj n 5*65536+aj n 6*256+aj n 7:=by
 simp only[aj];omega
theorem zJ(n:Int)(d:0<=n)(c:n<=18446744073709551615):cF n 0=n:=(AU n d c).symm
theorem pw(n:Int)(j:Nat):0<=cF n j/\cF n j<=18446744073709551615:=by
 have o:=aB n 0;have m:=aB n 1;have c:=aB n 2;have i:=aB n 3;have d:=aB n 4;have p:=aB n 5;have f:=aB n 6;have k:=aB n 7;unfold cF;split<;>omega
theorem zK(n:Int)(j:Nat)(h:j<8):zM (cF n j)=cF n (j+1):=by
 have o:=aB n 0;have m:=aB n 1;have c:=aB n 2;have i:=aB n 3;have d:=aB n 4;have p:=aB n 5;have f:=aB n 6;have k:=aB n 7;refine yV (P:=λj=>zM (cF n j)=cF n (j+1)) ?_ ?_ ?_ ?_ ?_ ?_ ?_ ?_ j h
 ·rw[fZ (cF n 0) (aj n 0) (cF n 0-aj n 0*72057594037927936) (by omega) (by omega) (by omega) (by simp only[cF];omega) (by simp only[cF];omega)];simp only[cF];omega
 ·rw[fZ (cF n 1) (aj n 1) (cF n 1-aj n 1*72057594037927936) (by omega) (by omega) (by omega) (by simp only[cF];omega) (by simp only[cF];omega)];simp only[cF];omega
 ·rw[fZ (cF n 2) (aj n 2) (cF n 2-aj n 2*72057594037927936) (by omega) (by omega) (by omega) (by simp only[cF];omega) (by simp only[cF];omega)];simp only[cF];omega
 ·rw[fZ (cF n 3) (aj n 3) (cF n 3-aj n 3*72057594037927936) (by omega) (by omega) (by omega) (by simp only[cF];omega) (by simp only[cF];omega)];simp only[cF];omega
 ·rw[fZ (cF n 4) (aj n 4) (cF n 4-aj n 4*72057594037927936) (by omega) (by omega) (by omega) (by simp only[cF];omega) (by simp only[cF];omega)];simp only[cF];omega
 ·rw[fZ (cF n 5) (aj n 5) (cF n 5-aj n 5*72057594037927936) (by omega) (by omega) (by omega) (by simp only[cF];omega) (by simp only[cF];omega)];simp only[cF];omega
 ·rw[fZ (cF n 6) (aj n 6) (cF n 6-aj n 6*72057594037927936) (by omega) (by omega) (by omega) (by simp only[cF];omega) (by simp only[cF];omega)];simp only[cF];omega
 ·rw[fZ (cF n 7) (aj n 7) (cF n 7-aj n 7*72057594037927936) (by omega) (by omega) (by omega) (by simp only[cF];omega) (by simp only[cF];omega)];simp only[cF];omega
theorem zL(n:Int)(j:Nat)(h:j<8):cF n (j+1)%256=aj n j:=by
 have o:=aB n 0;have m:=aB n 1;have c:=aB n 2;have i:=aB n 3;have d:=aB n 4;have p:=aB n 5;have f:=aB n 6;have k:=aB n 7;refine yV (P:=λj=>cF n (j+1)%256=aj n j) ?_ ?_ ?_ ?_ ?_ ?_ ?_ ?_ j h<;>(simp only[cF];omega)
theorem xR(n:Int)(j:Nat)(h:j<8):n/2^(56-8*j)%256=aj n j:=
 yV (P:=λj=>n/2^(56-8*j)%256=aj n j) rfl rfl rfl rfl rfl rfl rfl (by simp[aj]) j h
def bW(l:List Int):Int:=l.foldl (λn c=>n*256%18446744073709551616+c) 0
theorem rJ(l:List Int)(c:Int):bW (l++[c])=bW l*256%18446744073709551616+c:=by simp[bW]
theorem pH(l:List Int)(h:∀c∈l,0<=c/\c<=255):0<=bW l/\bW l<=18446744073709551615:=by
 rcases List.eq_nil_or_concat l with rfl|⟨r,c,rfl⟩
 ·decide
 ·rw[List.concat_eq_append]at h⊢
  rw[rJ];have:=h c (by simp);omega
def g8(v:av):List Int:=cL v.v0++(cL v.v1++(cL v.v2++(cL v.v3++(cL v.v4++cL v.v5))))
theorem nO(v:av):(g8 v).length=48:=rfl
theorem zn(v:av)(k:Nat)(h:k<6)(j:Nat)(c:j<=8):(g8 v).take (8*k+j)=(g8 v).take (8*k)++(cL (v.get k)).take j:=by
 have e:∀k,k<6->(g8 v).drop (8*k)=cL (v.get k)++(g8 v).drop (8*k+8):=av.six (P:=λk=>(g8 v).drop (8*k)=cL (v.get k)++(g8 v).drop (8*k+8)) rfl rfl rfl rfl rfl rfl;rw[List.take_add,e k h,List.take_append_of_le_length (by rw[sr];exact c)]
theorem wy(v:av):∀c∈g8 v,0<=c/\c<=255:=by
 intro c d;simp only[g8,cL,Vw,Vy,WM,WR]at d;rcases d with h|h|h|h|h|h<;>rcases h with rfl|rfl|rfl|rfl|rfl|rfl|rfl|rfl<;>exact aB _ _
def wh(l:List Int):av:=av.ofFn λk=>bW ((l.drop (8*k)).take 8)
theorem KJ(l:List Int)(h:∀c∈l,0<=c/\c<=255):(wh l).ok:=λk f=>by
 rw[wh,av.get_ofFn _ k f];exact pH _ λc d=>h c (Wr (Ws d))
theorem km(l:List Int)(k:Nat)(c:Int)(h:l[k]? =some c):bW (l.take (k+1))=bW (l.take k)*256%18446744073709551616+c:=by
 rw[VN,h];exact rJ _ _
theorem kW(l m:List Int):aU (l++m)=aU l++aU m:=WS
structure Ev where
 o:Int
 s:Int
 d:av
 k:Int
 n:Int
 t:Int
 a:Int
 r:Int
 f:Int
namespace Ev
theorem ext{x y:Ev}(z:x.o=y.o)(p:x.s=y.s)(j:x.d=y.d)(C:x.k=y.k)(m:x.n=y.n)(u:x.t=y.t)(c:x.a=y.a)(q:x.r=y.r)(i:x.f=y.f):x=y:=by
 cases x;cases y;simp_all
instance:DecidableEq Ev:=λx y=>
 decidable_of_iff (x.o=y.o/\x.s=y.s/\x.d=y.d/\x.k=y.k/\x.n=y.n/\x.t=y.t/\x.a=y.a/\x.r=y.r/\x.f=y.f)
  ⟨λ⟨h0,h1,h2,h3,h4,h5,h6,h7,h8⟩=>ext h0 h1 h2 h3 h4 h5 h6 h7 h8,λh=>by subst h;simp⟩
def zero:Ev:=⟨0,0,av.zero,0,0,0,0,0,0⟩
structure ok(e:Ev):Prop where
 o:-9223372036854775808<=e.o/\e.o<=9223372036854775807
 s:0<=e.s/\e.s<=18446744073709551615
 d:e.d.ok
 k:0<=e.k/\e.k<=255
 n:0<=e.n/\e.n<=18446744073709551615
 t:-9223372036854775808<=e.t/\e.t<=9223372036854775807
 a:-9223372036854775808<=e.a/\e.a<=9223372036854775807
 r:0<=e.r/\e.r<=18446744073709551615
 f:0<=e.f/\e.f<=18446744073709551615
def bare(e:Ev):Ev:=⟨e.o,e.s,e.d,e.k,0,0,0,0,0⟩
end Ev
def ao(e:Ev):Array Yv:=#[Value.int .i64 e.o,.int .u64 e.s,.int .u64 e.d.v0,.int .u64 e.d.v1,.int .u64 e.d.v2,.int .u64 e.d.v3,.int .u64 e.d.v4,.int .u64 e.d.v5,.int .u8 e.k,.int .u64 e.n,.int .i64 e.t,.int .i64 e.a,.int .u64 e.r,.int .u64 e.f]
theorem dO(e:Ev):(ao e).size=14:=rfl
theorem lI(e:Ev):(ao e).toList=[.int .i64 e.o,.int .u64 e.s,.int .u64 e.d.v0,.int .u64 e.d.v1,.int .u64 e.d.v2,.int .u64 e.d.v3,.int .u64 e.d.v4,.int .u64 e.d.v5,.int .u8 e.k,.int .u64 e.n,.int .i64 e.t,.int .i64 e.a,.int .u64 e.r,.int .u64 e.f]:=rfl
theorem PM(e:Ev):(ao e)[0]? =some (.int .i64 e.o):=rfl
theorem PL(e:Ev):(ao e)[1]? =some (.int .u64 e.s):=rfl
theorem PK(e:Ev):(ao e)[2]? =some (.int .u64 e.d.v0):=rfl
theorem PJ(e:Ev):(ao e)[3]? =some (.int .u64 e.d.v1):=rfl
theorem PI(e:Ev):(ao e)[4]? =some (.int .u64 e.d.v2):=rfl
theorem PH(e:Ev):(ao e)[5]? =some (.int .u64 e.d.v3):=rfl
theorem PG(e:Ev):(ao e)[6]? =some (.int .u64 e.d.v4):=rfl
theorem PF(e:Ev):(ao e)[7]? =some (.int .u64 e.d.v5):=rfl
theorem PE(e:Ev):(ao e)[8]? =some (.int .u8 e.k):=rfl
theorem PD(e:Ev):(ao e)[9]? =some (.int .u64 e.n):=rfl
theorem Mj(e:Ev):(ao e)[10]? =some (.int .i64 e.t):=rfl
theorem Mi(e:Ev):(ao e)[11]? =some (.int .i64 e.a):=rfl
theorem Mh(e:Ev):(ao e)[12]? =some (.int .u64 e.r):=rfl
theorem Mg(e:Ev):(ao e)[13]? =some (.int .u64 e.f):=rfl
theorem Mf(j x1 x2 x3 k s o q m p c f d i:Int):#[Value.int .i64 j,.int .u64 x1,.int .u64 x2,.int .u64 x3,.int .u64 k,.int .u64 s,.int .u64 o,.int .u64 q,.int .u8 m,.int .u64 p,.int .i64 c,.int .i64 f,.int .u64 d,.int .u64 i]=ao ⟨j,x1,⟨x2,x3,k,s,o,q⟩,m,p,c,f,d,i⟩:=rfl
theorem Md(e:Ev):(⟨e.o,e.s,e.d,e.k,e.n,e.t,e.a,e.r,e.f⟩:Ev)=e:=rfl
theorem qf(e:Ev)(x:Int):(ao e).setIfInBounds 0 (.int .i64 x)=ao ⟨x,e.s,e.d,e.k,e.n,e.t,e.a,e.r,e.f⟩:=rfl
theorem qe(e:Ev)(x:Int):(ao e).setIfInBounds 1 (.int .u64 x)=ao ⟨e.o,x,e.d,e.k,e.n,e.t,e.a,e.r,e.f⟩:=rfl
theorem qd(e:Ev)(x:Int):(ao e).setIfInBounds 2 (.int .u64 x)=ao ⟨e.o,e.s,⟨x,e.d.v1,e.d.v2,e.d.v3,e.d.v4,e.d.v5⟩,e.k,e.n,e.t,e.a,e.r,e.f⟩:=rfl
theorem qc(e:Ev)(x:Int):(ao e).setIfInBounds 3 (.int .u64 x)=ao ⟨e.o,e.s,⟨e.d.v0,x,e.d.v2,e.d.v3,e.d.v4,e.d.v5⟩,e.k,e.n,e.t,e.a,e.r,e.f⟩:=rfl
theorem qa(e:Ev)(x:Int):(ao e).setIfInBounds 4 (.int .u64 x)=ao ⟨e.o,e.s,⟨e.d.v0,e.d.v1,x,e.d.v3,e.d.v4,e.d.v5⟩,e.k,e.n,e.t,e.a,e.r,e.f⟩:=rfl
theorem p9(e:Ev)(x:Int):(ao e).setIfInBounds 5 (.int .u64 x)=ao ⟨e.o,e.s,⟨e.d.v0,e.d.v1,e.d.v2,x,e.d.v4,e.d.v5⟩,e.k,e.n,e.t,e.a,e.r,e.f⟩:=rfl
theorem pZ(e:Ev)(x:Int):(ao e).setIfInBounds 6 (.int .u64 x)=ao ⟨e.o,e.s,⟨e.d.v0,e.d.v1,e.d.v2,e.d.v3,x,e.d.v5⟩,e.k,e.n,e.t,e.a,e.r,e.f⟩:=rfl
theorem pY(e:Ev)(x:Int):(ao e).setIfInBounds 7 (.int .u64 x)=ao ⟨e.o,e.s,⟨e.d.v0,e.d.v1,e.d.v2,e.d.v3,e.d.v4,x⟩,e.k,e.n,e.t,e.a,e.r,e.f⟩:=rfl
theorem vB(e:Ev)(x:Int):(ao e).setIfInBounds 8 (.int .u8 x)=ao ⟨e.o,e.s,e.d,x,e.n,e.t,e.a,e.r,e.f⟩:=rfl
theorem vA(e:Ev)(x:Int):(ao e).setIfInBounds 9 (.int .u64 x)=ao ⟨e.o,e.s,e.d,e.k,x,e.t,e.a,e.r,e.f⟩:=rfl
theorem rU(e:Ev)(x:Int):(ao e).setIfInBounds 10 (.int .i64 x)=ao ⟨e.o,e.s,e.d,e.k,e.n,x,e.a,e.r,e.f⟩:=rfl
theorem rT(e:Ev)(x:Int):(ao e).setIfInBounds 11 (.int .i64 x)=ao ⟨e.o,e.s,e.d,e.k,e.n,e.t,x,e.r,e.f⟩:=rfl
theorem rS(e:Ev)(x:Int):(ao e).setIfInBounds 12 (.int .u64 x)=ao ⟨e.o,e.s,e.d,e.k,e.n,e.t,e.a,x,e.f⟩:=rfl
theorem rR(e:Ev)(x:Int):(ao e).setIfInBounds 13 (.int .u64 x)=ao ⟨e.o,e.s,e.d,e.k,e.n,e.t,e.a,e.r,x⟩:=rfl
theorem xI(e:Ev):(ao e=#[])=False:=by simp[ao]
theorem Hc:(⟨0,0,av.zero,0,0,0,0,0,0⟩:Ev)=Ev.zero:=rfl
attribute [go_sem] dO lI Mf Md Hc xI PM PL PK PJ PI PH PG PF PE PD Mj Mi Mh Mg qf qe qd qc qa p9 pZ pY vB vA rU rT rS rR
@[go_sem] theorem Eb:Ev.zero.o=0:=rfl
@[go_sem] theorem DZ:Ev.zero.s=0:=rfl
@[go_sem] theorem Ef:Ev.zero.d=av.zero:=rfl
@[go_sem] theorem Ed:Ev.zero.k=0:=rfl
@[go_sem] theorem Ec:Ev.zero.n=0:=rfl
@[go_sem] theorem DY:Ev.zero.t=0:=rfl
@[go_sem] theorem Eh:Ev.zero.a=0:=rfl
@[go_sem] theorem Ea:Ev.zero.r=0:=rfl
@[go_sem] theorem Ee:Ev.zero.f=0:=rfl
def cB(k:Int):Bool:=decide (1<=k)&&decide (k<=6)
theorem ia(k:Nat)(h:k<6):cB ((k:Int)+1)=true:=by simp[cB];omega
theorem gd{o:Int}(h:cB o=true):∃k:Nat,k<6/\o=(k:Int)+1:=by
 simp[cB]at h;exact⟨(o-1).toNat,by omega,by omega⟩
def gq(v:av):Bool:=decide (v.v0<1099511627776/\v.v1<1099511627776/\v.v2<1099511627776/\v.v3<1099511627776/\v.v4<1099511627776/\v.v5<1099511627776)
theorem mL{v:av}:gq v=true↔∀k,k<6->v.get k<1099511627776:=by
 unfold gq;rw[VC];exact⟨λ⟨j,f,c,m,d,i⟩=>av.six (P:=λk=>v.get k<1099511627776) j f c m d i,
  λh=>⟨h 0 (by omega),h 1 (by omega),h 2 (by omega),h 3 (by omega),h 4 (by omega),h 5 (by omega)⟩⟩
def ib(e:Ev):Bool:=cB e.o&&decide (1<=e.s)&&decide (e.s<1099511627776)&&decide (e.d.get (e.o-1).toNat=e.s-1)&&gq e.d
def fS(c:Int)(e:Ev):Bool:=decide (c<=e.a)&&decide (e.a<=1125899906842624)
def In(e:Ev):Bool:=cB e.t&&decide (e.t≠e.o)
def jB(e:Ev):Ev:=
 if e.k=1\/e.k=2 then{e with n:=0,a:=0}else if e.k=3 then{e with n:=0,a:=0,r:=0}else if e.k=4 then{e with r:=0,f:=0}else if e.k=5 then{e with n:=0,a:=0,t:=0}else if e.k=6 then{e with t:=0}else e
def bU(e:Ev):Bool:=
 if e.k=1 then fS 0 e else if e.k=2 then fS 1 e else if e.k=3 then fS 1 e&&decide (1<=e.r)else if e.k=4 then decide (1<=e.r)&&decide (1<=e.f)&&decide (e.r≠e.f)else if e.k=5 then fS 1 e&&In e else if e.k=6 then In e else decide (e.k=7)
def Kl(e:Ev):Ev:=
 if e.k=1\/e.k=2 then{e.bare with n:=e.n,a:=e.a}else if e.k=3 then{e.bare with n:=e.n,a:=e.a,r:=e.r}else if e.k=4 then{e.bare with r:=e.r,f:=e.f}else if e.k=5 then{e.bare with n:=e.n,a:=e.a,t:=e.t}else if e.k=6 then{e.bare with t:=e.t}else e.bare
def aX(e:Ev):Bool:=ib e&&(bU e&&decide (jB e=e.bare))
theorem Dj(e:Ev):(jB e=e.bare)↔(e=Kl e):=by
 obtain⟨o,s,d,k,n,t,a,r,f⟩:=e;unfold jB Kl Ev.bare;simp only;split
 ·simp only[Ev.mk.injEq,true_and,and_true]
 ·split
  ·simp only[Ev.mk.injEq,true_and,and_true]
  ·split
   ·simp only[Ev.mk.injEq,true_and,and_true]
   ·split
    ·simp only[Ev.mk.injEq,true_and,and_true]
    ·split
     ·simp only[Ev.mk.injEq,true_and,and_true]
     ·exact Iff.rfl
def gw{α β:Type}(R:α->β->Prop):List α->List β->Prop
 |[],[]=>True
 |x::X,m::L=>R x m/\gw R X L
 |_,_=>False
section
variable{α β:Type}{R R':α->β->Prop}
theorem gw.len:∀{X:List α} {L:List β},gw R X L->X.length=L.length
 |[],[],_=>rfl
 |_::_,_::_,h=>by simp[gw.len h.2]
 |[],_::_,h=>by cases h
 |_::_,[],h=>by cases h
theorem gw.get:∀{X:List α} {L:List β} {i:Nat} {m:β},gw R X L->L[i]? =some m->∃x,X[i]? =some x/\R x m
 |[],[],_,_,_,hi=>by simp at hi
 |x::_,m::_,0,_,h,hi=>by
  simp at hi;subst hi;exact⟨x,by simp,h.1⟩
 |_::_,_::_,i+1,_,h,hi=>by
  obtain⟨x,c,d⟩:=gw.get (i:=i) h.2 (by simpa using hi);exact⟨x,by simpa using c,d⟩
 |[],_::_,_,_,h,_=>by cases h
 |_::_,[],_,_,h,_=>by cases h
theorem gw.snoc:∀{X:List α} {L:List β} {x:α} {m:β},gw R X L->R x m->gw R (X++[x]) (L++[m])
 |[],[],_,_,_,h=>⟨h,trivial⟩
 |_::_,_::_,_,_,h,h2=>⟨h.1,gw.snoc h.2 h2⟩
 |[],_::_,_,_,h,_=>by cases h
 |_::_,[],_,_,h,_=>by cases h
theorem gw.erase:∀{X:List α} {L:List β} (i:Nat),gw R X L->gw R (X.eraseIdx i) (L.eraseIdx i)
 |[],[],_,_=>trivial
 |_::_,_::_,0,h=>h.2
 |_::_,_::_,i+1,h=>⟨h.1,gw.erase i h.2⟩
 |[],_::_,_,h=>by cases h
 |_::_,[],_,h=>by cases h
theorem gw.imp:∀{X:List α} {L:List β},(∀x∈X,∀m∈L,R x m->R' x m)->gw R X L->gw R' X L
 |[],[],_,_=>trivial
 |x::X,m::L,h,h2=>⟨h x (by simp) m (by simp) h2.1,gw.imp (λx d m c=>h x (by simp[d]) m (by simp[c])) h2.2⟩
 |[],_::_,_,h=>by cases h
 |_::_,[],_,h=>by cases h
theorem gw.left:∀{X:List α} {L:List β} {x:α},gw R X L->x∈X->∃m∈L,R x m
 |[],[],_,_,hx=>by cases hx
 |x::X,m::L,y,h,hx=>by
  rcases Vy.1 hx with rfl|hx
  ·exact⟨m,by simp,h.1⟩
  ·obtain⟨m',c,d⟩:=gw.left h.2 hx
   exact⟨m',by simp[c],d⟩
 |[],_::_,_,h,_=>by cases h
 |_::_,[],_,h,_=>by cases h
end
structure Fr(w w':Yu)(h:Nat)(r:Option Nat):Prop where
 os:w'.os=w.os
 tape:w'.tape=w.tape
 output:w'.output=w.output
 size:w.heap.size<=w'.heap.size
 block:∀k,k<w.heap.size->k≠h->some k≠r->w'.heap[k]? =w.heap[k]?
section
variable{w w' w'':Yu}{h:Nat}{r:Option Nat}
theorem Fr.of_below(b:Ys w w'):Fr w w' h r:=⟨b.os,b.tape,b.output,b.size,λk c _ _=>b.block k c⟩
theorem Fr.of_grown(g:w.grownBy w' r):Fr w w' h r:=⟨g.os,g.tape,g.output,g.size,λk c _ d=>g.block k c d⟩
theorem Fr.of_set(p:Addr)(c:p.block=h)(u:Yv):Fr w (w.setCell p u) h r:=⟨rfl,rfl,rfl,by simp,λk _ d _=>by
 subst c;exact heap_setCell_other w p k u d⟩
theorem Fr.trans(a:Fr w w' h r)(b:Fr w' w'' h r):Fr w w'' h r:=
 ⟨b.os.trans a.os,b.tape.trans a.tape,b.output.trans a.output,Vi a.size b.size,λk d f c=>(b.block k (Vq d a.size) f c).trans (a.block k d f c)⟩
theorem Fr.refl:Fr w w h r:=⟨rfl,rfl,rfl,Vc _,λ_ _ _ _=>rfl⟩
theorem Fr.drew(a:Fr w w' h r):Fr w w'.drew h r:=⟨a.os,a.tape,a.output,a.size,a.block⟩
theorem Fr.set(a:Fr w w' h r)(p:Addr)(c:p.block=h)(u:Yv):Fr w (w'.setCell p u) h r:=a.trans (Fr.of_set p c u)
theorem Fr.row(a:Fr w w' h r)(cs:Array Yv):Fr w (w'.setRow h cs) h r:=a.trans ⟨rfl,rfl,rfl,by simp[World.setRow],λk _ c _=>Wv w' h k _ c⟩
theorem Fr.weak(a:Fr w w' h none):Fr w w' h r:=⟨a.os,a.tape,a.output,a.size,λk d c _=>a.block k d c (by simp)⟩
theorem Fr.blk(f:Fr w w' h r)(b:ai w g t cs)(c:g≠h)(d:some g≠r):ai w' g t cs:=(f.block g b.lt c d).trans b
theorem Fr.own(f:Fr w w' h r)(o:w.ownsRow base e size v n xs)(j:v.ownBlock≠some h)(i:v.ownBlock=none\/v.ownBlock≠r):w'.ownsRow base e size v n xs:=by
 refine⟨o.1,?_⟩;rcases o.2 with m|⟨g,cap,cur,rfl,k,d,c⟩
 ·exact .inl m
 ·refine .inr ⟨g,cap,cur,rfl,k,?_,c⟩
  rw[f.block g (Vv.1 d).1 (λe=>j (by simp[Value.ownBlock,e])) (by simpa[Value.ownBlock]using i)];exact d
theorem Fr.below(f:Fr w w' h r)(b:Ys w0 w)(i:w0.heap.size<=h)(d:∀k,r=some k->w0.heap.size<=k):Ys w0 w':=
 ⟨f.os.trans b.os,f.tape.trans b.tape,f.output.trans b.output,Vi b.size f.size,λk c=>(f.block k (Vq c b.size) (by omega) (λe=>by have:=d k e.symm;omega)).trans (b.block k c)⟩
end
theorem fJ{w:Yu}(o:w.ownsRow base e size v n xs)(b:ai w g t cs)(c:e≠t):v.ownBlock≠some g:=by
 rcases o.2 with⟨rfl,_⟩|⟨k,cap,cur,rfl,_,i,_⟩
 ·simp[Value.ownBlock]
 ·intro j
  obtain rfl:k=g:=by simpa[Value.ownBlock]using j
  unfold ai at b;rw[i]at b;injection b with f;injection f with _ d;exact c d
theorem mS.of:∀{bs:List (Nat×Yw×Array Yv)},(∀c t cs,(c,t,cs)∈bs->c≠g)->mS g bs
 |[],_=>trivial
 |(c,t,cs)::r,h=>⟨h c t cs (by simp),mS.of λj i d f=>h j i d (by simp[f])⟩
@[reducible] def Uz:List (Nat×Yw×Array Yv)->Prop
 |[]=>True
 |(g,_,_)::r=>mS g r/\Uz r
end
