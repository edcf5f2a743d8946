import Derived.Test.YtemcfhlbmhbjeaaGreatDoorZ11
set_option maxRecDepth 100000
set_option maxHeartbeats 0
set_option linter.all false
namespace Go.Proofs.YtemcfhlbmhbjeaaGreatDoor
open Go.Proofs.Tryz
variable{l:List Int}{w w0:D}{b o g5 g2 cap:Nat}{bs:List (Nat×ay×Array H)}
open Go Go.RowKit
@[go_sem] theorem adB(e:z)(d:an):Array.foldl (λ(cs:Array H) (x:H×Nat)=>cs.setIfInBounds (2+x.snd) x.fst) (aj e) (aF d).zipIdx 0 6=aj {e with d:=d}:=Y
def QT(v:an)(e:z)(c:e.ok)(b:Bool)(h:ka v e=b)(w:D):Calls prog 144 #[.agg (aF v),.agg (aj e)] w λr a=>r=.returned (.bool b)/\S w a:=by subst h;exact FW v e c w
def jm(l:List Int)(m:Nat):z:=
 ⟨cy ((l.drop m).take 1),cy ((l.drop (m+1)).take 8),jT ((l.drop (m+9)).take 48),cy ((l.drop (m+57)).take 1),cy ((l.drop (m+58)).take 8),cy ((l.drop (m+66)).take 1),IntKind.i64.wrap (cy ((l.drop (m+67)).take 8)),cy ((l.drop (m+75)).take 8),cy ((l.drop (m+83)).take 8)⟩
def qp(l:List Int)(m:Nat)(a:m<l.length)(h:∀c∈l,0<=c/\c<=255):cy ((l.drop m).take 1)=l.getD m 0/\0<=l.getD m 0/\l.getD m 0<=255:=by
 have e:(l.drop m).take 1=[l[m]]:=by rw[List.drop_eq_getElem_cons a];rfl
 have g:l.getD m 0=l[m]:=by rw[sB,bY a];rfl
 have r:=h l[m] (List.getElem_mem a);rw[e,g];refine⟨?_,r⟩;simp[cy]
def ul(l:List Int)(m k n:Nat)(h:k+n<=91):((((l.drop m).take 91).drop k).take n)=(l.drop (m+k)).take n:=by rw[List.drop_take,List.take_take,List.drop_drop,Nat.min_eq_left V]
def Dx(l:List Int)(m k:Nat)(h:k<91):((l.drop m).take 91).getD k 0=l.getD (m+k) 0:=by rw[sB,kw,av h,ob,sB]
def M0(l:List Int)(m:Nat)(a:m+91<=l.length)(h:∀c∈l,0<=c/\c<=255):jm l m=w9 ((l.drop m).take 91):=by
 unfold jm w9 vq;simp only;rw[(qp l m V h).1,(qp l (m+57) V h).1,(qp l (m+66) V h).1,Dx l m 0 V,Dx l m 57 V,Dx l m 66 V,
  ul l m 1 8 V,ul l m 9 48 V,ul l m 58 8 V,ul l m 67 8 V,ul l m 75 8 V,ul l m 83 8 V]
 rfl
def yQ(l:List Int)(m:Nat)(h:∀c∈l,0<=c/\c<=255)(k:Nat):0<=cy ((l.drop m).take k)/\cy ((l.drop m).take k)<=18446744073709551615:=
 JV _ λc a=>h c (rj (mM a))
def KC(l:List Int)(m:Nat)(e:m+91<=l.length)(h:∀c∈l,0<=c/\c<=255):(jm l m).ok:=by have a:=qp l m V h;have b:=qp l (m+57) V h;have c:=qp l (m+66) V h;refine⟨?_,yQ _ _ h _,Ug _ λc d=>h c (rj (mM d)),?_,yQ _ _ h _,?_,?_,yQ _ _ h _,yQ _ _ h _⟩;show -9223372036854775808<=cy _/\cy _<=9223372036854775807;rw[a.1];omega;show 0<=cy _/\cy _<=255;rw[b.1];omega;show -9223372036854775808<=cy _/\cy _<=9223372036854775807;rw[c.1];omega;show -9223372036854775808<=IntKind.i64.wrap _/\IntKind.i64.wrap _<=9223372036854775807;rw[tW];omega
def me(l:List Int)(a:Int):z×Int×Int:=
 if a<0\/(l.length:Int)<a then(z.zero,0,1)
 else if(l.length:Int)-a<91 then(z.zero,0,5)
 else if bG (jm l a.toNat)=true then(jm l a.toNat,a+91,0)
 else(z.zero,0,5)
def MI{a:Int}(h:a<0\/(l.length:Int)<a):me l a=(z.zero,0,1):=av h
def aaa{a:Int}(c:0<=a)(d:a<=l.length)(h:(l.length:Int)-a<91):me l a=(z.zero,0,5):=by unfold me;rw[al V,av h]
def Kt{m:Nat}(h:m+91<=l.length)(a:bG (jm l m)=true):me l m=(jm l m,(m:Int)+91,0):=by unfold me;rw[al V,al V,yy,av a]
def On{m:Nat}(h:m+91<=l.length)(a:bG (jm l m)=false):me l m=(z.zero,0,5):=by unfold me;rw[al V,al V,yy,al (by simp[a])]
def Mw{e:z}(h:bG e=true):kd e.d=true:=by unfold bG at h;simp only[bZ]at h;obtain⟨a,_⟩:=h;unfold ol at a;simp only[bZ]at a;have c:=a.2;unfold rG at c;unfold kd;rw[eN]at c⊢;omega
structure aN where
 k:Int
 f:Int
 t:Int
 d:an
 s:H
 n:Int
 a:Int
def aE(x:aN):Array H:=#[Value.int .u8 x.k,Z x.f,Z x.t,q x.d.v0,q x.d.v1,q x.d.v2,q x.d.v3,q x.d.v4,q x.d.v5,x.s,q x.n,Z x.a]
def Er(x:aN):(aE x).size=12:=rfl
def Dh(x:aN):(aE x).toList=[Value.int .u8 x.k,Z x.f,Z x.t,q x.d.v0,q x.d.v1,q x.d.v2,q x.d.v3,q x.d.v4,q x.d.v5,x.s,q x.n,Z x.a]:=rfl
def V9(x:aN):(aE x)[0]? =some (Value.int .u8 x.k):=rfl
def V8(x:aN):(aE x)[1]? =some (Z x.f):=rfl
def V7(x:aN):(aE x)[2]? =some (Z x.t):=rfl
def V6(x:aN):(aE x)[3]? =some (q x.d.v0):=rfl
def Wr(x:aN):(aE x)[4]? =some (q x.d.v1):=rfl
def Wq(x:aN):(aE x)[5]? =some (q x.d.v2):=rfl
def Wp(x:aN):(aE x)[6]? =some (q x.d.v3):=rfl
def Wo(x:aN):(aE x)[7]? =some (q x.d.v4):=rfl
def Wn(x:aN):(aE x)[8]? =some (q x.d.v5):=rfl
def Wm(x:aN):(aE x)[9]? =some (x.s):=rfl
def Ur(x:aN):(aE x)[10]? =some (q x.n):=rfl
def Uq(x:aN):(aE x)[11]? =some (Z x.a):=rfl
def Up(d:Int)(x1:Int)(x2:Int)(x3:Int)(e:Int)(j:Int)(g:Int)(i:Int)(f:Int)(h:H)(a:Int)(c:Int):#[Value.int .u8 d,Z x1,Z x2,q x3,q e,q j,q g,q i,q f,h,q a,Z c]=aE ⟨d,x1,x2,⟨x3,e,j,g,i,f⟩,h,a,c⟩:=rfl
def Uo(x:aN):(⟨x.k,x.f,x.t,x.d,x.s,x.n,x.a⟩:aN)=x:=rfl
def OQ(x:aN)(y:Int):(aE x).setIfInBounds 0 (.int .u8 y)=aE ⟨y,x.f,x.t,x.d,x.s,x.n,x.a⟩:=rfl
def OP(x:aN)(y:Int):(aE x).setIfInBounds 1 (Z y)=aE ⟨x.k,y,x.t,x.d,x.s,x.n,x.a⟩:=rfl
def OO(x:aN)(y:Int):(aE x).setIfInBounds 2 (Z y)=aE ⟨x.k,x.f,y,x.d,x.s,x.n,x.a⟩:=rfl
def ON(x:aN)(y:Int):(aE x).setIfInBounds 3 (q y)=aE ⟨x.k,x.f,x.t,⟨y,x.d.v1,x.d.v2,x.d.v3,x.d.v4,x.d.v5⟩,x.s,x.n,x.a⟩:=rfl
def OM(x:aN)(y:Int):(aE x).setIfInBounds 4 (q y)=aE ⟨x.k,x.f,x.t,⟨x.d.v0,y,x.d.v2,x.d.v3,x.d.v4,x.d.v5⟩,x.s,x.n,x.a⟩:=rfl
def OL(x:aN)(y:Int):(aE x).setIfInBounds 5 (q y)=aE ⟨x.k,x.f,x.t,⟨x.d.v0,x.d.v1,y,x.d.v3,x.d.v4,x.d.v5⟩,x.s,x.n,x.a⟩:=rfl
def Pc(x:aN)(y:Int):(aE x).setIfInBounds 6 (q y)=aE ⟨x.k,x.f,x.t,⟨x.d.v0,x.d.v1,x.d.v2,y,x.d.v4,x.d.v5⟩,x.s,x.n,x.a⟩:=rfl
def Pb(x:aN)(y:Int):(aE x).setIfInBounds 7 (q y)=aE ⟨x.k,x.f,x.t,⟨x.d.v0,x.d.v1,x.d.v2,x.d.v3,y,x.d.v5⟩,x.s,x.n,x.a⟩:=rfl
def Pa(x:aN)(y:Int):(aE x).setIfInBounds 8 (q y)=aE ⟨x.k,x.f,x.t,⟨x.d.v0,x.d.v1,x.d.v2,x.d.v3,x.d.v4,y⟩,x.s,x.n,x.a⟩:=rfl
def Lr(x:aN)(y:H):(aE x).setIfInBounds 9 (y)=aE ⟨x.k,x.f,x.t,x.d,y,x.n,x.a⟩:=rfl
def Of(x:aN)(y:Int):(aE x).setIfInBounds 10 (q y)=aE ⟨x.k,x.f,x.t,x.d,x.s,y,x.a⟩:=rfl
def Oe(x:aN)(y:Int):(aE x).setIfInBounds 11 (Z y)=aE ⟨x.k,x.f,x.t,x.d,x.s,x.n,y⟩:=rfl
def LO(x:aN):(aE x=#[])=False:=by simp[aE]
def aN.zero:aN:=⟨0,0,0,an.zero,.slice none 0 0,0,0⟩
def RW:(⟨0,0,0,an.zero,.slice none 0 0,0,0⟩:aN)=aN.zero:=rfl
attribute [go_sem] Er Dh Up Uo RW LO V9 V8 V7 V6 Wr Wq Wp Wo Wn Wm Ur Uq OQ OP OO ON OM OL Pc Pb Pa Lr Of Oe
@[go_sem] theorem acG:aN.zero.k=0:=rfl
@[go_sem] theorem acH:aN.zero.f=0:=rfl
@[go_sem] theorem acD:aN.zero.t=0:=rfl
@[go_sem] theorem acI:aN.zero.d=an.zero:=rfl
@[go_sem] theorem acE:aN.zero.s=.slice none 0 0:=rfl
@[go_sem] theorem acF:aN.zero.n=0:=rfl
@[go_sem] theorem acJ:aN.zero.a=0:=rfl
def FA(c R:aN):(((((((((((((aE c).setIfInBounds 0 (.int .u8 R.k)).setIfInBounds 1 (Z R.f)).setIfInBounds 2 (Z R.t)).setIfInBounds 3 (q R.d.v0)).setIfInBounds 4 (q R.d.v1)).setIfInBounds 5 (q R.d.v2)).setIfInBounds 6 (q R.d.v3)).setIfInBounds 7 (q R.d.v4)).setIfInBounds 8 (q R.d.v5)).setIfInBounds 9 R.s).setIfInBounds 10 (q R.n)).setIfInBounds 11 (Z R.a))=aE R:=Y
structure bL where
 k:Int
 f:Int
 t:Int
 d:an
 l:List z
 n:Int
 a:Int
namespace bL
def ext{x y:bL}(j:x.k=y.k)(h:x.f=y.f)(e:x.t=y.t)(m:x.d=y.d)(g:x.l=y.l)(i:x.n=y.n)(c:x.a=y.a):x=y:=by cases x;cases y;simp_all
instance:DecidableEq bL:=λx y=>
 decidable_of_iff (x.k=y.k/\x.f=y.f/\x.t=y.t/\x.d=y.d/\x.l=y.l/\x.n=y.n/\x.a=y.a)
  ⟨λ⟨h0,h1,h2,h3,h4,h5,h6⟩=>ext h0 h1 h2 h3 h4 h5 h6,λh=>by subst h;simp⟩
def zero:bL:=⟨0,0,0,an.zero,[],0,0⟩
structure ok(m:bL):Prop where
 k:0<=m.k/\m.k<=255
 f:-9223372036854775808<=m.f/\m.f<=9223372036854775807
 t:-9223372036854775808<=m.t/\m.t<=9223372036854775807
 d:m.d.ok
 l:∀e∈m.l,e.ok
 n:0<=m.n/\m.n<=18446744073709551615
 a:-9223372036854775808<=m.a/\m.a<=9223372036854775807
abbrev mc(m:bL)(A:Option Addr)(c:Nat):aN:=⟨m.k,m.f,m.t,m.d,.slice A m.l.length c,m.n,m.a⟩
end bL
def lc(m:bL):Bool:=cY m.f&&cY m.t&&decide (m.f≠m.t)&&kd m.d
def pz(m:bL):Bool:=m.l.all bG&&decide (m.l.length<=16)&&decide (m.n=0)&&decide (m.a=0)
def pH(m:bL):Bool:=decide (m.l.length=0)&&decide (m.n≠0)&&decide (1<=m.a)&&decide (m.a<=1125899906842624)
def ix(m:bL):Bool:=lc m&&(if m.k=1 then pz m else if m.k=2 then pH m else false)
structure YI(m:bL):Prop where
 f:1<=m.f/\m.f<=6
 t:1<=m.t/\m.t<=6
 ne:m.f≠m.t
 d:kd m.d=true
 k:(m.k=1/\(∀e∈m.l,bG e=true)/\m.l.length<=16/\m.n=0/\m.a=0)\/(m.k=2/\m.l=[]/\m.n≠0/\1<=m.a/\m.a<=1125899906842624)
def RY{m:bL}(h:ix m=true):YI m:=by unfold ix lc at h;simp only[bZ,eN]at h;obtain⟨⟨⟨⟨g,e⟩,n⟩,f⟩,a⟩:=h;obtain⟨i,t,s⟩:=rE g;obtain⟨j,r,p⟩:=rE e;refine⟨⟨V,V⟩,⟨V,V⟩,n,f,?_⟩;by_cases c:m.k=1;rw[av c]at a;unfold pz at a;simp only[bZ,eN,lZ]at a;exact .inl ⟨c,a.1.1.1,a.1.1.2,a.1.2,a.2⟩;rw[al c]at a;by_cases d:m.k=2;rw[av d]at a;unfold pH at a;simp only[bZ,eN]at a;exact .inr ⟨d,lR a.1.1.1,a.1.1.2,a.1.2,a.2⟩;rw[al d]at a;cases a
def aI.setMc{g:Nat}{t:ay}{i:aN}(h:aI w0 w ((g,t,aE i)::bs))(e:w0.heap.size<=g)(c:gv g bs)(R:aN):aI w0 ((((((((((((w.setCell (I g 0) (.int .u8 R.k)).setCell (I g 1) (Z R.f)).setCell (I g 2) (Z R.t)).setCell (I g 3) (q R.d.v0)).setCell (I g 4) (q R.d.v1)).setCell (I g 5) (q R.d.v2)).setCell (I g 6) (q R.d.v3)).setCell (I g 7) (q R.d.v4)).setCell (I g 8) (q R.d.v5)).setCell (I g 9) R.s).setCell (I g 10) (q R.n)).setCell (I g 11) (Z R.a)) ((g,t,aE R)::bs):=by rw[<-FA i R];exact((((((((((((h.set_ e c 0 (.int .u8 R.k)).set_ e c 1 (Z R.f)).set_ e c 2 (Z R.t)).set_ e c 3 (q R.d.v0)).set_ e c 4 (q R.d.v1)).set_ e c 5 (q R.d.v2)).set_ e c 6 (q R.d.v3)).set_ e c 7 (q R.d.v4)).set_ e c 8 (q R.d.v5)).set_ e c 9 R.s).set_ e c 10 (q R.n)).set_ e c 11 (Z R.a))
def aaj(k:Int)(w:D):
  Calls prog 257 #[Z k] w λe a=>e=.returned (.bool (cY k))/\w=a:=by
 go_wp2
 all_goals go_ret
 all_goals (refine⟨?_,O⟩;simp[cY];omega)
def fZ(k:Int)(b:Bool)(h:cY k=b)(w:D):
  Calls prog 257 #[Z k] w λe a=>e=.returned (.bool b)/\w=a:=by
 subst h;exact aaj k w
def Yd(e:z)(d:e.ok)(b:Bool)(h:bG e=b)(w:D):Calls prog 259 #[.agg (aj e)] w λr f=>r=.returned (.bool (!b))/\S w f:=by have g:=U (lf e d b h);clear h d;go_in;go_wp2_with fail;have c:aI w _ [(w.heap.size,64,aj e)]:=(aI.nil w).push (t:=64) (cs:=aj e) O;apply(g.o _).mono;rintro r j ⟨rfl,a⟩;have i:=c.call a;clear c a;go_wp2;go_ret;exact⟨O,i.below⟩
def PJ(A:Option Addr)(c:Nat)(L:List z)(w:D)(G:jy w w.heap.size A L)(hc:L.length<=c)(hm:c<=maxLen)(ok:∀e∈L,e.ok):
  Calls prog 280 #[.slice A L.length c,.func (.func 259) #[] #[]] w λr w'=>∃v:Int,r=.returned (Z v)/\decide (0<=v)= !(L.all bG)/\S w w':=by
 have α:c<=9223372036854775807:=hm;have HL:=U G;have OK:=U ok;clear G ok;go_wp2;go_loopw [8] (λi wr=>∃k:Nat,k<=L.length/\i=Z k/\(∀e∈L.take k,bG e=true)/\S w wr) (λi _=>L.length-(intOf i).toNat);exact⟨0,V,O,λe he=>by simp at he,aq _ _⟩;obtain⟨k,hk,rfl,a,f⟩:=hrel;have C:=U a;clear a;by_cases p:k<L.length
 ·obtain⟨x,n⟩:∃x,L[k]? =some x:=⟨L[k],bY p⟩;have t:=OK.o x (cX n);obtain⟨b1,o1,rfl,β,u,X,Q,E,B,R,W,F,T,P,m,g,h,j⟩:=jy.at_ (HL.o.below f) n;have i1:(0:Int)<=(k:Int):=V;have i2:(k:Int)<(L.length:Int):=V;obtain⟨y,s⟩:=aM (bG x);have K:=U (Yd x t y s);have HX:=U n;have J:=U s;clear n s;rcases(show y=false\/y=true from by cases y<;>simp)with rfl|rfl
  ·go_wp2_with fail;apply(K.o _).mono;rintro r w2 ⟨rfl,d⟩;clear u X Q E B R W F T P m g h j;go_wp2;go_ret;refine⟨k,O,?_,f.trans (d.mono f.size)⟩;have:L.all bG=false:=List.all_eq_false.2 ⟨x,cX HX.o,by simp[J.o]⟩;rw[this];simp
  go_wp2_with fail;apply(K.o _).mono;rintro r w2 ⟨rfl,d⟩;clear u X Q E B R W F T P m g h j;go_wp2;go_roundw
  ·refine⟨k+1,V,by go_num,λe he=>?_,f.trans (d.mono f.size)⟩;rw[gP,HX.o]at he;rcases bP.1 he with he|he;exact C.o e he;obtain rfl:e=x:=az he;exact J.o
  simp[intOf];omega
 obtain rfl:k=L.length:=V;go_wp2;go_ret;refine⟨-1,O,?_,f⟩;have a:=C.o;rw[kR (ao _)]at a;have:L.all bG=true:=lZ.2 a;rw[this];rfl
def aaC(A:Option Addr)(c:Nat)(L:List z)(b:Bool)(h:L.all bG=b)(w:D)(d:jy w w.heap.size A L)(j:L.length<=c)(f:c<=maxLen)(ok:∀e∈L,e.ok):
  Calls prog 258 #[.slice A L.length c,.func (.func 259) #[] #[]] w λr g=>r=.returned (.bool (!b))/\S w g:=by
 have a:=U (PJ A c L w d j f ok);rw[h]at a;clear d ok h;go_in;go_wp2_with fail;apply a.o.mono;rintro r k ⟨v,rfl,m,i⟩;go_wp2;go_ret;exact⟨O,i⟩
def jy.next{w':D}{A:Option Addr}{L:List z}(h:jy w w.heap.size A L)(a:S w w'):jy w' w'.heap.size A L:=(h.below a).mono a.size
def LL{m:bL}(h:lc m=false):ix m=false:=by unfold ix;rw[h];rfl
def Mp{m:bL}(h:lc m=true)(k:m.k=1):ix m=pz m:=by unfold ix;rw[h,av k];rfl
def Od{m:bL}(h:lc m=true)(k:m.k=2):ix m=pH m:=by unfold ix;rw[h,al V,av k];rfl
def Mq{m:bL}(a:m.k≠1)(c:m.k≠2):ix m=false:=by unfold ix;rw[al a,al c,Bool.and_false]
def Oc(m:bL)(h:lc m=false)(A:Option Addr)(c:Nat)(w:D):Calls prog 237 #[.agg (aE ⟨m.k,m.f,m.t,m.d,.slice A m.l.length c,m.n,m.a⟩)] w λr y=>r=.returned (.bool false)/\S w y:=by
 have i:cY m.f=false\/(cY m.f=true/\cY m.t=false)\/(cY m.f=true/\cY m.t=true/\(m.f==m.t)=true)\/(cY m.f=true/\cY m.t=true/\(m.f==m.t)=false/\kd m.d=false):=by unfold lc at h;cases e:cY m.f;exact .inl O;cases g:cY m.t;exact .inr (.inl ⟨O,O⟩);by_cases s:m.f=m.t;exact .inr (.inr (.inl ⟨O,O,by rw[qd];exact s⟩));refine .inr (.inr (.inr ⟨O,O,by rw[fH];exact s,?_⟩));rw[e,g]at h;simpa[s]using h
 clear h;rcases i with e|⟨e,g⟩|⟨e,g,s⟩|⟨e,g,s,x⟩
 ·have j:=U (fZ m.f _ e);clear e;go_in;go_wp2_with (go_at_call 257;(first|(with_reducible refine(j.o _).mono ?_));rintro r u ⟨rfl,rfl⟩);go_ret;exact⟨O,(aq _ _).alloc (ao _) _⟩
 ·have j:=U (fZ m.f _ e);have p:=U (fZ m.t _ g);clear e g;go_in;go_wp2_with (go_at_call 257;(first|(with_reducible refine(j.o _).mono ?_)|(with_reducible refine(p.o _).mono ?_));rintro r u ⟨rfl,rfl⟩);go_ret;exact⟨O,(aq _ _).alloc (ao _) _⟩
 ·have j:=U (fZ m.f _ e);have p:=U (fZ m.t _ g);clear e g;go_in;go_wp2_with (go_at_call 257;(first|(with_reducible refine(j.o _).mono ?_)|(with_reducible refine(p.o _).mono ?_));rintro r u ⟨rfl,rfl⟩);go_ret;exact⟨O,(aq _ _).alloc (ao _) _⟩
 have j:=U (fZ m.f _ e);have p:=U (fZ m.t _ g);have B:=U (nk m.d _ x);clear e g x;go_in;go_wp2_with (go_at_call 257;(first|(with_reducible refine(j.o _).mono ?_)|(with_reducible refine(p.o _).mono ?_));rintro r u ⟨rfl,rfl⟩);apply(B.o _).mono;rintro r C ⟨rfl,v⟩;go_wp2;go_ret;exact⟨O,((aq _ _).alloc (ao _) _).trans (v.mono ah)⟩
def Oa(m:bL)(e:lc m=true)(C:(m.k==1)=false)(K:(m.k==2)=false)(A:Option Addr)(c:Nat)(w:D):Calls prog 237 #[.agg (aE ⟨m.k,m.f,m.t,m.d,.slice A m.l.length c,m.n,m.a⟩)] w λr v=>r=.returned (.bool false)/\S w v:=by
 have g:cY m.f=true/\cY m.t=true/\(m.f==m.t)=false/\kd m.d=true:=by unfold lc at e;simp only[bZ,eN]at e;exact⟨e.1.1.1,e.1.1.2,by rw[fH];exact e.1.2,e.2⟩
 obtain⟨s,j,J,p⟩:=g;clear e;have y:=U (fZ m.f _ s);have x:=U (fZ m.t _ j);have B:=U (nk m.d _ p);clear s j p;go_in;go_wp2_with (go_at_call 257;(first|(with_reducible refine(y.o _).mono ?_)|(with_reducible refine(x.o _).mono ?_));rintro r E ⟨rfl,rfl⟩);have u:aI w _ [(w.heap.size,331,aE ⟨m.k,m.f,m.t,m.d,.slice A m.l.length c,m.n,m.a⟩)]:=(aI.nil w).push (t:=331) (cs:=aE ⟨m.k,m.f,m.t,m.d,.slice A m.l.length c,m.n,m.a⟩) O;apply(B.o _).mono;rintro r L ⟨rfl,h⟩;have i:=u.call h;clear u h;obtain⟨F,-,-⟩:=i.rules;obtain⟨G,-⟩:=i.lts;go_wp2;go_ret;exact⟨O,i.below⟩
def O9(m:bL)(o:m.ok)(K:lc m=true)(k1:(m.k==1)=false)(k2:(m.k==2)=true)(A:Option Addr)(c:Nat)(w:D):Calls prog 237 #[.agg (aE ⟨m.k,m.f,m.t,m.d,.slice A m.l.length c,m.n,m.a⟩)] w λr w'=>r=.returned (.bool (pH m))/\S w w':=by
 have L:cY m.f=true/\cY m.t=true/\(m.f==m.t)=false/\kd m.d=true:=by unfold lc at K;simp only[bZ,eN]at K;exact⟨K.1.1.1,K.1.1.2,by rw[fH];exact K.1.2,K.2⟩
 obtain⟨x,u,h3,v⟩:=L;clear K;have oa:=o.a;have s:(pH m=false/\m.l.length≠0)\/(pH m=false/\m.l.length=0/\m.n=0)\/(pH m=false/\m.l.length=0/\m.n≠0/\m.a<1)\/(pH m=false/\m.l.length=0/\m.n≠0/\1<=m.a/\¬m.a<=1125899906842624)\/(pH m=true/\m.l.length=0/\m.n≠0/\1<=m.a/\m.a<=1125899906842624):=by
  unfold pH;by_cases F:m.l.length=0
  ·by_cases i:m.n=0;exact .inr (.inl ⟨by simp[i],F,i⟩);by_cases J:1<=m.a
   ·by_cases G:m.a<=1125899906842624;exact .inr (.inr (.inr (.inr ⟨by simp[F,i,J,G],F,i,J,G⟩)));exact .inr (.inr (.inr (.inl ⟨by simp[G],F,i,J,G⟩)))
   exact .inr (.inr (.inl ⟨by simp[J],F,i,V⟩))
  exact .inl ⟨by simp;intro h;rw[h]at F;exact absurd O F,F⟩
 clear o;generalize m.l.length=nl at s⊢;rcases s with⟨p,F⟩|⟨p,rfl,i⟩|⟨p,rfl,i,J⟩|⟨p,rfl,i,J,G⟩|⟨p,rfl,i,J,G⟩
 ·have B:=U p;clear p;have a5:((nl:Int)==0)=false:=by rw[fH];omega
  have C:=U (fZ m.f _ x);have y:=U (fZ m.t _ u);have E:=U (nk m.d _ v);clear x u v;go_in;go_wp2_with (go_at_call 257;(first|(with_reducible refine(C.o _).mono ?_)|(with_reducible refine(y.o _).mono ?_));rintro r Q ⟨rfl,rfl⟩);have j:aI w _ [(w.heap.size,331,aE ⟨m.k,m.f,m.t,m.d,.slice A nl c,m.n,m.a⟩)]:=(aI.nil w).push (t:=331) (cs:=aE ⟨m.k,m.f,m.t,m.d,.slice A nl c,m.n,m.a⟩) O;apply(E.o _).mono;rintro r W ⟨rfl,e⟩;have g:=j.call e;clear j e;obtain⟨R,-,-⟩:=g.rules;obtain⟨T,-⟩:=g.lts;go_wp2;go_ret;exact⟨by rw[B.o];rfl,g.below⟩
 ·have B:=U p;clear p;have P:(m.n==0)=true:=by rw[i];rfl
  have X:(m.n !=0)=false:=by rw[i];rfl
  clear i;have C:=U (fZ m.f _ x);have y:=U (fZ m.t _ u);have E:=U (nk m.d _ v);clear x u v;go_in;go_wp2_with (go_at_call 257;(first|(with_reducible refine(C.o _).mono ?_)|(with_reducible refine(y.o _).mono ?_));rintro r Q ⟨rfl,rfl⟩);have j:aI w _ [(w.heap.size,331,aE ⟨m.k,m.f,m.t,m.d,.slice A 0 c,m.n,m.a⟩)]:=(aI.nil w).push (t:=331) (cs:=aE ⟨m.k,m.f,m.t,m.d,.slice A 0 c,m.n,m.a⟩) O;apply(E.o _).mono;rintro r W ⟨rfl,e⟩;have g:=j.call e;clear j e;obtain⟨R,-,-⟩:=g.rules;obtain⟨T,-⟩:=g.lts;go_wp2;go_ret;exact⟨by rw[B.o];rfl,g.below⟩
 ·have B:=U p;clear p;have P:(m.n==0)=false:=by rw[fH];exact i
  have X:(m.n !=0)=true:=by rw[bne,P];rfl
  have C:=U (fZ m.f _ x);have y:=U (fZ m.t _ u);have E:=U (nk m.d _ v);clear x u v;go_in;go_wp2_with (go_at_call 257;(first|(with_reducible refine(C.o _).mono ?_)|(with_reducible refine(y.o _).mono ?_));rintro r Q ⟨rfl,rfl⟩);have j:aI w _ [(w.heap.size,331,aE ⟨m.k,m.f,m.t,m.d,.slice A 0 c,m.n,m.a⟩)]:=(aI.nil w).push (t:=331) (cs:=aE ⟨m.k,m.f,m.t,m.d,.slice A 0 c,m.n,m.a⟩) O;apply(E.o _).mono;rintro r W ⟨rfl,e⟩;have g:=j.call e;clear j e;obtain⟨R,-,-⟩:=g.rules;obtain⟨T,-⟩:=g.lts;go_wp2;go_ret;exact⟨by rw[B.o];rfl,g.below⟩
 ·have B:=U p;clear p;have P:(m.n==0)=false:=by rw[fH];exact i
  have X:(m.n !=0)=true:=by rw[bne,P];rfl
  have a9:decide (m.a<=1125899906842624)=false:=fO G;clear G;have C:=U (fZ m.f _ x);have y:=U (fZ m.t _ u);have E:=U (nk m.d _ v);clear x u v;go_in;go_wp2_with (go_at_call 257;(first|(with_reducible refine(C.o _).mono ?_)|(with_reducible refine(y.o _).mono ?_));rintro r Q ⟨rfl,rfl⟩);have j:aI w _ [(w.heap.size,331,aE ⟨m.k,m.f,m.t,m.d,.slice A 0 c,m.n,m.a⟩)]:=(aI.nil w).push (t:=331) (cs:=aE ⟨m.k,m.f,m.t,m.d,.slice A 0 c,m.n,m.a⟩) O;apply(E.o _).mono;rintro r W ⟨rfl,e⟩;have g:=j.call e;clear j e;obtain⟨R,-,-⟩:=g.rules;obtain⟨T,-⟩:=g.lts;go_wp2;go_ret;exact⟨by rw[B.o];rfl,g.below⟩
 have B:=U p;clear p;have P:(m.n==0)=false:=by rw[fH];exact i
 have X:(m.n !=0)=true:=by rw[bne,P];rfl
 have C:=U (fZ m.f _ x);have y:=U (fZ m.t _ u);have E:=U (nk m.d _ v);clear x u v;go_in;go_wp2_with (go_at_call 257;(first|(with_reducible refine(C.o _).mono ?_)|(with_reducible refine(y.o _).mono ?_));rintro r Q ⟨rfl,rfl⟩);have j:aI w _ [(w.heap.size,331,aE ⟨m.k,m.f,m.t,m.d,.slice A 0 c,m.n,m.a⟩)]:=(aI.nil w).push (t:=331) (cs:=aE ⟨m.k,m.f,m.t,m.d,.slice A 0 c,m.n,m.a⟩) O;apply(E.o _).mono;rintro r W ⟨rfl,e⟩;have g:=j.call e;clear j e;obtain⟨R,-,-⟩:=g.rules;obtain⟨T,-⟩:=g.lts;go_wp2;go_ret;exact⟨by rw[B.o];rfl,g.below⟩
def N9(m:bL)(o:m.ok)(hE:lc m=true)(k1:(m.k==1)=true)(k2:(m.k==2)=false)(k3:(m.k !=1)=false)(A:Option Addr)(c:Nat)(w:D)(hL:jy w w.heap.size A m.l)(hc:m.l.length<=c)(hm:c<=maxLen):Calls prog 237 #[.agg (aE ⟨m.k,m.f,m.t,m.d,.slice A m.l.length c,m.n,m.a⟩)] w λr w'=>r=.returned (.bool (pz m))/\S w w':=by
 have α:cY m.f=true/\cY m.t=true/\(m.f==m.t)=false/\kd m.d=true:=by unfold lc at hE;simp only[bZ,eN]at hE;exact⟨hE.1.1.1,hE.1.1.2,by rw[fH];exact hE.1.2,hE.2⟩
 obtain⟨F,C,h3,E⟩:=α;clear hE;have X:(pz m=false/\m.l.all bG=false)\/(pz m=false/\m.l.all bG=true/\16<m.l.length)\/(pz m=false/\m.l.all bG=true/\m.l.length<=16/\m.n≠0)\/(pz m=false/\m.l.all bG=true/\m.l.length<=16/\m.n=0/\m.a≠0)\/(pz m=true/\m.l.all bG=true/\m.l.length<=16/\m.n=0/\m.a=0):=by
  unfold pz;cases s:m.l.all bG;exact .inl ⟨O,O⟩;by_cases T:m.l.length<=16
  ·by_cases y:m.n=0
   ·by_cases G:m.a=0;exact .inr (.inr (.inr (.inr ⟨by simp[T,y,G],O,T,y,G⟩)));exact .inr (.inr (.inr (.inl ⟨by simp[G],O,T,y,G⟩)))
   exact .inr (.inr (.inl ⟨by simp[y],O,T,y⟩))
  exact .inr (.inl ⟨by simp[T],O,V⟩)
 have J:=U λ(b:Bool) (h:m.l.all bG=b) (W:D) (hW:S w W)=>aaC A c m.l b h W (hL.next hW) hc hm o.l;clear o hL;rcases X with⟨B,s⟩|⟨B,s,T⟩|⟨B,s,T,y⟩|⟨B,s,T,y,G⟩|⟨B,s,T,y,G⟩
 ·have P:=U B;clear B;have L:=U (J.o _ s);clear J s;generalize m.l.length=j at*;have Q:=U (fZ m.f _ F);have K:=U (fZ m.t _ C);have R:=U (nk m.d _ E);clear F C E;go_in;go_wp2_with (go_at_call 257;(first|(with_reducible refine(Q.o _).mono ?_)|(with_reducible refine(K.o _).mono ?_));rintro r w1 ⟨rfl,rfl⟩);have x:aI w _ [(w.heap.size,331,aE ⟨m.k,m.f,m.t,m.d,.slice A j c,m.n,m.a⟩)]:=(aI.nil w).push (t:=331) (cs:=aE ⟨m.k,m.f,m.t,m.d,.slice A j c,m.n,m.a⟩) O;apply(R.o _).mono;rintro r w2 ⟨rfl,g⟩;have e:=x.call g;clear x g;obtain⟨u,-,-⟩:=e.rules;obtain⟨v,-⟩:=e.lts;go_wp2_with fail;apply(L.o _ e.below).mono;rintro r w3 ⟨rfl,i⟩;have p:=e.call i;clear e i u v;obtain⟨u,-,-⟩:=p.rules;obtain⟨v,-⟩:=p.lts;go_wp2;go_ret;exact⟨by rw[P.o];rfl,p.below⟩
 ·have P:=U B;clear B;have L:=U (J.o _ s);clear J s;generalize m.l.length=j at*;have a8:¬(j:Int)<=16:=V;have a9:decide ((j:Int)<=16)=false:=fO a8;have Q:=U (fZ m.f _ F);have K:=U (fZ m.t _ C);have R:=U (nk m.d _ E);clear F C E;go_in;go_wp2_with (go_at_call 257;(first|(with_reducible refine(Q.o _).mono ?_)|(with_reducible refine(K.o _).mono ?_));rintro r w1 ⟨rfl,rfl⟩);have x:aI w _ [(w.heap.size,331,aE ⟨m.k,m.f,m.t,m.d,.slice A j c,m.n,m.a⟩)]:=(aI.nil w).push (t:=331) (cs:=aE ⟨m.k,m.f,m.t,m.d,.slice A j c,m.n,m.a⟩) O;apply(R.o _).mono;rintro r w2 ⟨rfl,g⟩;have e:=x.call g;clear x g;obtain⟨u,-,-⟩:=e.rules;obtain⟨v,-⟩:=e.lts;go_wp2_with fail;apply(L.o _ e.below).mono;rintro r w3 ⟨rfl,i⟩;have p:=e.call i;clear e i u v;obtain⟨u,-,-⟩:=p.rules;obtain⟨v,-⟩:=p.lts;go_wp2;go_ret;exact⟨by rw[P.o];rfl,p.below⟩
 ·have P:=U B;clear B;have L:=U (J.o _ s);clear J s;generalize m.l.length=j at*;have a6:(m.n==0)=false:=by rw[fH];exact y
  clear y;have a8:(j:Int)<=16:=V;have a9:decide ((j:Int)<=16)=true:=fa a8;have Q:=U (fZ m.f _ F);have K:=U (fZ m.t _ C);have R:=U (nk m.d _ E);clear F C E;go_in;go_wp2_with (go_at_call 257;(first|(with_reducible refine(Q.o _).mono ?_)|(with_reducible refine(K.o _).mono ?_));rintro r w1 ⟨rfl,rfl⟩);have x:aI w _ [(w.heap.size,331,aE ⟨m.k,m.f,m.t,m.d,.slice A j c,m.n,m.a⟩)]:=(aI.nil w).push (t:=331) (cs:=aE ⟨m.k,m.f,m.t,m.d,.slice A j c,m.n,m.a⟩) O;apply(R.o _).mono;rintro r w2 ⟨rfl,g⟩;have e:=x.call g;clear x g;obtain⟨u,-,-⟩:=e.rules;obtain⟨v,-⟩:=e.lts;go_wp2_with fail;apply(L.o _ e.below).mono;rintro r w3 ⟨rfl,i⟩;have p:=e.call i;clear e i u v;obtain⟨u,-,-⟩:=p.rules;obtain⟨v,-⟩:=p.lts;go_wp2;go_ret;exact⟨by rw[P.o];rfl,p.below⟩
 ·have P:=U B;clear B;have L:=U (J.o _ s);clear J s;generalize m.l.length=j at*;have a6:(m.n==0)=true:=by rw[y];rfl
  have a7:(m.a==0)=false:=by rw[fH];exact G
  clear y G;have a8:(j:Int)<=16:=V;have a9:decide ((j:Int)<=16)=true:=fa a8;have Q:=U (fZ m.f _ F);have K:=U (fZ m.t _ C);have R:=U (nk m.d _ E);clear F C E;go_in;go_wp2_with (go_at_call 257;(first|(with_reducible refine(Q.o _).mono ?_)|(with_reducible refine(K.o _).mono ?_));rintro r w1 ⟨rfl,rfl⟩);have x:aI w _ [(w.heap.size,331,aE ⟨m.k,m.f,m.t,m.d,.slice A j c,m.n,m.a⟩)]:=(aI.nil w).push (t:=331) (cs:=aE ⟨m.k,m.f,m.t,m.d,.slice A j c,m.n,m.a⟩) O;apply(R.o _).mono;rintro r w2 ⟨rfl,g⟩;have e:=x.call g;clear x g;obtain⟨u,-,-⟩:=e.rules;obtain⟨v,-⟩:=e.lts;go_wp2_with fail;apply(L.o _ e.below).mono;rintro r w3 ⟨rfl,i⟩;have p:=e.call i;clear e i u v;obtain⟨u,-,-⟩:=p.rules;obtain⟨v,-⟩:=p.lts;go_wp2;go_ret;exact⟨by rw[P.o];rfl,p.below⟩
 have P:=U B;clear B;have L:=U (J.o _ s);clear J s;generalize m.l.length=j at*;have a6:(m.n==0)=true:=by rw[y];rfl
 have a7:(m.a==0)=true:=by rw[G];rfl
 clear y G;have a8:(j:Int)<=16:=V;have a9:decide ((j:Int)<=16)=true:=fa a8;have Q:=U (fZ m.f _ F);have K:=U (fZ m.t _ C);have R:=U (nk m.d _ E);clear F C E;go_in;go_wp2_with (go_at_call 257;(first|(with_reducible refine(Q.o _).mono ?_)|(with_reducible refine(K.o _).mono ?_));rintro r w1 ⟨rfl,rfl⟩);have x:aI w _ [(w.heap.size,331,aE ⟨m.k,m.f,m.t,m.d,.slice A j c,m.n,m.a⟩)]:=(aI.nil w).push (t:=331) (cs:=aE ⟨m.k,m.f,m.t,m.d,.slice A j c,m.n,m.a⟩) O;apply(R.o _).mono;rintro r w2 ⟨rfl,g⟩;have e:=x.call g;clear x g;obtain⟨u,-,-⟩:=e.rules;obtain⟨v,-⟩:=e.lts;go_wp2_with fail;apply(L.o _ e.below).mono;rintro r w3 ⟨rfl,i⟩;have p:=e.call i;clear e i u v;obtain⟨u,-,-⟩:=p.rules;obtain⟨v,-⟩:=p.lts;go_wp2;go_ret;exact⟨by rw[P.o];rfl,p.below⟩
def Ye(m:bL)(o:m.ok)(A:Option Addr)(c:Nat)(w:D)(p:jy w w.heap.size A m.l)(s:m.l.length<=c)(i:c<=maxLen):Calls prog 237 #[.agg (aE ⟨m.k,m.f,m.t,m.d,.slice A m.l.length c,m.n,m.a⟩)] w λr j=>r=.returned (.bool (ix m))/\S w j:=by
 cases e:lc m with
 |false=>rw[LL e];exact Oc m e A c w
 |true=>by_cases g:m.k=1;rw[Mp e g];exact N9 m o e (by rw[g];rfl) (by rw[g];rfl) (by rw[g];rfl) A c w p s i;by_cases h:m.k=2;rw[Od e h];exact O9 m o e (by rw[h];rfl) (by rw[h];rfl) A c w;rw[Mq g h];exact Oa m e (by rw[fH];exact g) (by rw[fH];exact h) A c w
def xj(m:bL)(o:m.ok)(b:Bool)(h:ix m=b)(A:Option Addr)(c:Nat)(w:D)(i:jy w w.heap.size A m.l)(j:m.l.length<=c)(g:c<=maxLen):Calls prog 237 #[.agg (aE ⟨m.k,m.f,m.t,m.d,.slice A m.l.length c,m.n,m.a⟩)] w λr e=>r=.returned (.bool b)/\S w e:=by subst h;exact Ye m o A c w i j g
def Gz(w0:D)(g:Nat)(bs:List (Nat×ay×Array H))(base:Nat)(l:List Int)(e:Ending)(w':D):Prop:=
 ∃u,e=.returned (.tuple #[])/\aI w0 w' ((g,150,#[u])::bs)/\w'.ownsRow base 5 1 u l.length (dD l)/\base<=w'.heap.size
section
variable{w0 w:D}{g:Nat}{u:H}{l:List Int}{bs:List (Nat×ay×Array H)}{base:Nat}
def xq(n:Int)(T:aI w0 w ((g,150,#[u])::bs))(B:w0.heap.size<=g)(F:gv g bs)(d:w.ownsRow base 5 1 u l.length (dD l))(E:g<base)(i:base<=w.heap.size)(Q:l.length<=10000000)(y:0<=n)(C:n<=18446744073709551615):
  Calls prog 267 #[q n,Z 8,N g] w (Gz w0 g bs base (l++dO n)):=by
 obtain⟨A,c,rfl,G,h,t⟩:=dS d;have s:=U (Wx A c l w.heap.size n w (El t) (ao _) G h V y C);generalize h:l++bT n 8=m at s;have x:=U h;clear d t h;obtain⟨j,r,-⟩:=T.rules;have P:=T.lt;go_in;go_wp2_with fail;apply s.o.mono;rintro e J ⟨v,rfl,a,f⟩;obtain⟨K,L,rfl,-⟩:=dS a;have k:=T.call f;clear j r;obtain⟨j,r,-⟩:=k.rules;go_wp2;go_end0;rw[<-Uh,x.o];refine⟨_,O,k.set_ B F 0 _,kB (wD (p:=(I g 0)) a (by show g<_;omega) _) i,?_⟩;have:=f.size;simp;omega
def AS(n:Int)(T:aI w0 w ((g,150,#[u])::bs))(y:w0.heap.size<=g)(E:gv g bs)(d:w.ownsRow base 5 1 u l.length (dD l))(C:g<base)(h:base<=w.heap.size)(P:l.length<=10000000)(r:0<=n)(B:n<=255):
  Calls prog 267 #[q n,Z 1,N g] w (Gz w0 g bs base (l++[n])):=by
 obtain⟨A,c,rfl,F,j,x⟩:=dS d;have i:=U (Wg A c l w.heap.size n w (El x) (ao _) F j V r B);rw[Ui n r V]at i;generalize j:l++[n]=m at i;clear d x j;obtain⟨k,t,-⟩:=T.rules;have L:=T.lt;go_in;go_wp2_with fail;apply i.o.mono;rintro e G ⟨v,rfl,a,f⟩;obtain⟨J,K,rfl,-⟩:=dS a;have s:=T.call f;clear k t;obtain⟨k,t,-⟩:=s.rules;go_wp2;go_end0;refine⟨_,O,s.set_ y E 0 _,kB (wD (p:=(I g 0)) a (by show g<_;omega) _) h,?_⟩;have:=f.size;simp;omega
end
def SN(e:z)(a:e.ok)(h:bG e=false)(w:D):Calls prog 251 #[.agg (aj e)] w (te (fT e) w):=by have c:=U (lf e a false h);rw[ED h];clear h;go_in;go_wp2_with (go_at_call 117;(with_reducible refine(c.o _).mono ?_);rintro e f ⟨rfl,d⟩);go_ret;exact⟨_,O,sK _ _ _ _,((aq _ _).alloc (ao _) _).trans (d.mono ah)⟩
def P0(e:z)(hv:e.ok)(h:bG e=true)(w:D):Calls prog 251 #[.agg (aj e)] w (te (fT e) w):=by
 have C1:=U (lf e hv true h);rw[us h];have hm:=iH h;obtain⟨o1,o2,s1,s2,k1,k2,t1,t2,a1,a2⟩:=hm;have C2:=U (TW e.d hv.d);have n1:=hv.n;have r1:=hv.r;have f1:=hv.f;clear h hv;go_in;go_upto_region 5 with(go_at_call 117;(with_reducible refine(C1.o _).mono ?_);rintro e' P ⟨rfl,G⟩;have T0:=((aI.nil w).push (t:=64) (cs:=aj e) O).call G;clear G);have T:=T0.push (t:=150) (cs:=#[.slice none 0 0]) O;have v:gv P.heap.size [(w.heap.size,64,aj e)]:=⟨aA T0.lt,trivial⟩;have x:w.heap.size<=P.heap.size:=T0.below.size;have i:P.heap.size+1<=(P.alloc (.cells #[.slice none 0 0] 150)).heap.size:=ah;have g:(P.alloc (.cells #[.slice none 0 0] 150)).ownsRow (P.heap.size+1) 5 1 (.slice none 0 0) ([]:List Int).length (dD []):=sK _ _ _ _;generalize (P.alloc (.cells #[.slice none 0 0] 150))=Q at T i g⊢;generalize P.heap.size=g3 at T v x i g⊢;clear T0;obtain⟨y,B,C,j,-⟩:=T.rules;obtain⟨m0,K⟩:∃m:List Int,m=[]:=⟨_,O⟩;rw[<-K]at g;have Θ:m0.length<=0:=by rw[K];exact ao _
 replace K:=U K;go_wp2_with fail;apply(AS e.o T x v g (oY _) i V V V).mono;clear T g y C B j i;rintro r Q ⟨u,rfl,T,g,i⟩;obtain⟨y,B,C,j,-⟩:=T.rules;generalize η:m0++[e.o]=m1 at g;have Φ:m1.length<=1:=by rw[<-η,bW];have:([e.o]).length=1:=O;omega
 replace η:=U η;go_wp2_with fail;apply(xq e.s T x v g (oY _) i V V V).mono;clear T g y C B j i;rintro r Q ⟨u,rfl,T,g,i⟩;obtain⟨y,B,C,j,-⟩:=T.rules;generalize β:m1++dO e.s=m2 at g;have Ω:m2.length<=9:=by rw[<-β,bW];have:(dO e.s).length=8:=O;omega
 replace β:=U β;obtain⟨A,c,rfl,-⟩:=dS g;go_wp2_with fail;refine vS 4 [.is (.slice A m2.length c),.is (.pointer (some (I w.heap.size 2))),.is (.agg (aF e.d)),.bytes (gT e.d)] Y ah Y Y Y Y ?_;simp only[cR];refine qA O _ O (λW G=>?_) ?_
 ·obtain⟨x0,-,x1,-,-⟩:=(T.call G).rules;obtain⟨y0,y1,-⟩:=(T.call G).lts;simp[execOp,go_sem,x0,x1,y0,y1]
 refine qA O _ O (λW G=>?_) ?_
 ·simp[execOp,go_sem]
 refine qA O _ O (λW G=>?_) ?_
 ·obtain⟨x0,-,x1,-,-⟩:=(T.call G).rules;obtain⟨y0,y1,-⟩:=(T.call G).lts;simp[execOp,go_sem,x0,x1,y0,y1]
 refine JA O 268 #[.agg (aF e.d)] _ _ O ?_ (λw _=>(C2.o w).mono λ_ _ ⟨u,d,b,j⟩=>⟨u,d,pv.of_own b,j⟩) ?_
 ·intro W;simp[go_sem]<;>rfl
 intro μ w5 L hF;obtain⟨A5,c5,rfl,hc5,J,ε⟩:pv (gT e.d) μ w5:=hF 3 μ (gO ⟨O,O⟩);have T5:=T.call L;have F:=sR g L;have κ:=L.size;clear hF T g y C B j L;have ψ:(gT e.d).length<=48:=ao _;obtain⟨E,hM⟩:=cJ (gT e.d);rw[<-hM]at ψ ε;have R:(gT e.d).length=E.length:=by rw[hM]
 refine ql _ O (.tmp 18) (.tmp 21) O (g3+1) _ m2 E O F A5 c5 _ ?_ ε V V ?_;rw[<-R];rfl;intro v' w6 g δ;obtain⟨A,c,rfl,-⟩:=dS g;have T:=T5.callB δ V ⟨oY _,V,trivial⟩;clear F T5 ε R;have i:g3+1<=w6.heap.size:=aZ (aZ i κ) δ.size;obtain⟨y,B,C,j,-⟩:=T.rules;obtain⟨y0,y1,-⟩:=T.lts;generalize ζ:m2++E=m3 at g T;have Ψ:m3.length<=57:=by rw[<-ζ,bW];omega
 have ω:=U ζ;have ξ:=U hM;clear ζ hM;have g:=wD (p:=(I g3 0)) g (oY _) (.slice A m3.length c);have T:=T.set_ x v 0 (.slice A m3.length c);go_wp2_with fail;have i:g3+1<=(w6.setCell (I g3 0) (.slice A m3.length c)).heap.size:=by simp;exact i
 generalize w6.setCell (I g3 0) (.slice A m3.length c)=w7 at T g i⊢;clear y B C j δ κ;obtain⟨y,B,C,j,-⟩:=T.rules;clear y0 y1;apply(AS e.k T x v g (oY _) i V V V).mono;clear T g y C B j i;rintro r Q ⟨u,rfl,T,g,i⟩;obtain⟨y,B,C,j,-⟩:=T.rules;generalize X:m3++[e.k]=m4 at g;have b:m4.length<=58:=by rw[<-X,bW];have:([e.k]).length=1:=O;omega
 replace X:=U X;go_wp2_with fail;apply(xq e.n T x v g (oY _) i V n1.1 n1.2).mono;clear T g y C B j i;rintro r Q ⟨u,rfl,T,g,i⟩;obtain⟨y,B,C,j,-⟩:=T.rules;generalize J:m4++dO e.n=m5 at g;have hl5:m5.length<=66:=by rw[<-J,bW];have:(dO e.n).length=8:=O;omega
 replace J:=U J;go_wp2_with fail;apply(AS e.t T x v g (oY _) i V V V).mono;clear T g y C B j i;rintro r Q ⟨u,rfl,T,g,i⟩;obtain⟨y,B,C,j,-⟩:=T.rules;generalize γ:m5++[e.t]=m6 at g;have l:m6.length<=67:=by rw[<-γ,bW];have:([e.t]).length=1:=O;omega
 replace γ:=U γ;go_wp2_with fail;apply(xq e.a T x v g (oY _) i V V V).mono;clear T g y C B j i;rintro r Q ⟨u,rfl,T,g,i⟩;obtain⟨y,B,C,j,-⟩:=T.rules;generalize α:m6++dO e.a=m7 at g;have hl7:m7.length<=75:=by rw[<-α,bW];have:(dO e.a).length=8:=O;omega
 replace α:=U α;go_wp2_with fail;apply(xq e.r T x v g (oY _) i V r1.1 r1.2).mono;clear T g y C B j i;rintro r Q ⟨u,rfl,T,g,i⟩;obtain⟨y,B,C,j,-⟩:=T.rules;generalize θ:m7++dO e.r=m8 at g;have Ξ:m8.length<=83:=by rw[<-θ,bW];have:(dO e.r).length=8:=O;omega
 replace θ:=U θ;go_wp2_with fail;apply(xq e.f T x v g (oY _) i V f1.1 f1.2).mono;clear T g y C B j i;rintro r Q ⟨u,rfl,T,g,i⟩;obtain⟨y,B,C,j,-⟩:=T.rules;generalize ι:m8++dO e.f=m9 at g;replace ι:=U ι;obtain⟨A,c,rfl,-⟩:=dS g;go_wp2;go_ret;have hE:m9=kL e:=by rw[<-ι.o,<-θ.o,<-α.o,<-γ.o,<-J.o,<-X.o,<-ω.o,ξ.o,<-β.o,<-η.o,K.o];simp[kL]
 rw[<-hE];exact⟨_,O,kB g V,T.below⟩
def Ys(e:z)(a:e.ok)(w:D):Calls prog 251 #[.agg (aj e)] w (te (fT e) w):=by
 cases h:bG e with
 |false=>exact SN e a h w
 |true=>exact P0 e a h w
def Yq(m:Nat)(T:aI w0 w ((g5,3,#[Z (m:Int)])::bs))(t:w0.heap.size<=g5)(f:gv g5 bs)
  (d:(g2,150,#[.slice (some (I b o)) l.length cap])∈bs) (e:∀i x,l[i]? =some x->w0.cell? (I b (o+i))=some (.int .u8 x)) (A:b<w0.heap.size) (k:l.length<=cap) (g:cap<=maxLen) (a:∀c∈l,0<=c/\c<=255) (h:m+8<=l.length):
  Calls prog 114 #[Z 8,N g2,N g5] w λr j=>r=.returned (q (cy ((l.drop m).take 8)))/\aI w0 j ((g5,3,#[Z ((m+8:Nat):Int)])::bs):=by
 have n:=U (Tn b o cap l m w (λi x u=>(T.below.cell (p:=(I b (o+i))) (by show b<_;omega)).trans (e i x u)) k g a h);obtain⟨B,y,-⟩:=T.rules;obtain⟨C,-⟩:=(T.blk _ _ _ (dC _ d)).rules;have s:=U (bU (((m:Int)+8)=((m+8:Nat):Int)));clear e a d;go_in;go_wp2_with fail;apply n.o.mono;rintro r v ⟨rfl,rfl⟩;go_wp2;go_ret;refine⟨O,?_⟩;rw[<-s.o];exact T.set_ t f 0 _
def Yr(m:Nat)(T:aI w0 w ((g5,3,#[Z (m:Int)])::bs))(t:w0.heap.size<=g5)(f:gv g5 bs)
  (d:(g2,150,#[.slice (some (I b o)) l.length cap])∈bs) (e:∀i x,l[i]? =some x->w0.cell? (I b (o+i))=some (.int .u8 x)) (A:b<w0.heap.size) (k:l.length<=cap) (g:cap<=maxLen) (a:∀c∈l,0<=c/\c<=255) (h:m+1<=l.length):
  Calls prog 114 #[Z 1,N g2,N g5] w λr j=>r=.returned (q (cy ((l.drop m).take 1)))/\aI w0 j ((g5,3,#[Z ((m+1:Nat):Int)])::bs):=by
 have n:=U (Uz b o cap l m w (λi x u=>(T.below.cell (p:=(I b (o+i))) (by show b<_;omega)).trans (e i x u)) k g a h);obtain⟨B,y,-⟩:=T.rules;obtain⟨C,-⟩:=(T.blk _ _ _ (dC _ d)).rules;have s:=U (bU (((m:Int)+1)=((m+1:Nat):Int)));clear e a d;go_in;go_wp2_with fail;apply n.o.mono;rintro r v ⟨rfl,rfl⟩;go_wp2;go_ret;refine⟨O,?_⟩;rw[<-s.o];exact T.set_ t f 0 _
def zX(x:z×Int×Int)(w:D)(e:Ending)(w':D):Prop:=e=.returned (.tuple #[.agg (aj x.1),Z x.2.1,Z x.2.2])/\S w w'
def CZ{fn:Func}{s1 s2 s3:Nat}(h:fn.results=#[.cell s1 64,.cell s2 3,.tmp s3])(tmps:Array H)(g g2:Nat)(e:z)(n a:Int)(w:D)(m:tmps.getD s1 undef=.pointer (some (I g 0)))(f:tmps.getD s2 undef=.pointer (some (I g2 0)))(d:tmps.getD s3 undef=Z a)
  (r:M w g 64 (aj e)) (i:M w g2 3 #[Z n]):(results fn tmps).run prog w=.ok (.tuple #[.agg (aj e),Z n,Z a]) w:=by
 obtain⟨c,-⟩:=r.rules;obtain⟨s,-⟩:=i.rules;have k:tmps[s1]?.getD undef=.pointer (some (I g 0)):=by rw[<-m];simp
 have j:tmps[s2]?.getD undef=.pointer (some (I g2 0)):=by rw[<-f];simp
 have p:tmps[s3]?.getD undef=Z a:=by rw[<-d];simp
 simp[results,h,k,j,p,go_sem,c,s]
def NN(A:Option Addr)(n cap:Nat)(a:Int)(w:D)(g:n<=cap)(c:cap<=maxLen)(e:-9223372036854775808<=a)(f:a<=9223372036854775807)(h:a<0\/(n:Int)<a):
  Calls prog 86 #[.slice A n cap,Z a] w (zX (z.zero,0,1) w):=by
 have d:cap<=9223372036854775807:=c;rcases h with h|h
 ·go_in;go_wp2_with fail;refine eu (v:=.tuple #[.agg (aj z.zero),Z 0,Z 1]) (by simp[results,results86,go_sem]) O ⟨O,?_⟩;go_grown
 go_in;go_wp2_with fail;refine eu (v:=.tuple #[.agg (aj z.zero),Z 0,Z 1]) (by simp[results,results86,go_sem]) O ⟨O,?_⟩;go_grown
def aaf(A:Option Addr)(n cap m:Nat)(w:D)(d:n<=cap)(c:cap<=maxLen)(a:m<=n)(h:n<m+91):
  Calls prog 86 #[.slice A n cap,Z m] w (zX (z.zero,0,5) w):=by
 go_in;go_wp2_with fail;refine eu (v:=.tuple #[.agg (aj z.zero),Z 0,Z 5]) (by simp[results,results86,go_sem]) O ⟨O,?_⟩;go_grown
def xi{a:Nat}{f:ay}{cs:Array H}(m:Nat)(T:aI w0 w [(a,f,cs),(g5,3,#[Z (m:Int)]),(g2,150,#[.slice (some (I b o)) l.length cap])])(v:w0.heap.size<=g5)(p:a≠g5)(n:g2≠g5)
  (u:∀i x,l[i]? =some x->w0.cell? (I b (o+i))=some (.int .u8 x)) (t:b<w0.heap.size) (A:l.length<=cap) (k:cap<=maxLen) (d:∀c∈l,0<=c/\c<=255) (e:Nat) (x:Int) (g:e=m+8) (y:x=cy ((l.drop m).take 8)) (h:e<=l.length):
  Calls prog 114 #[Z 8,N g2,N g5] w λr j=>r=.returned (q x)/\aI w0 j [(a,f,cs),(g5,3,#[Z (e:Int)]),(g2,150,#[.slice (some (I b o)) l.length cap])]:=by
 subst g y;apply(Yq m (T.perm (cs:=[(g5,3,#[Z (m:Int)]),(a,f,cs),(g2,150,#[.slice (some (I b o)) l.length cap])]) ah) v ⟨p,n,trivial⟩ ah u t A k d V).mono;rintro r j ⟨rfl,s⟩;exact⟨O,s.perm ah⟩
def AR{a:Nat}{f:ay}{cs:Array H}(m:Nat)(T:aI w0 w [(a,f,cs),(g5,3,#[Z (m:Int)]),(g2,150,#[.slice (some (I b o)) l.length cap])])(v:w0.heap.size<=g5)(p:a≠g5)(n:g2≠g5)
  (u:∀i x,l[i]? =some x->w0.cell? (I b (o+i))=some (.int .u8 x)) (t:b<w0.heap.size) (A:l.length<=cap) (k:cap<=maxLen) (d:∀c∈l,0<=c/\c<=255) (e:Nat) (x:Int) (g:e=m+1) (y:x=cy ((l.drop m).take 1)) (h:e<=l.length):
  Calls prog 114 #[Z 1,N g2,N g5] w λr j=>r=.returned (q x)/\aI w0 j [(a,f,cs),(g5,3,#[Z (e:Int)]),(g2,150,#[.slice (some (I b o)) l.length cap])]:=by
 subst g y;apply(Yr m (T.perm (cs:=[(g5,3,#[Z (m:Int)]),(a,f,cs),(g2,150,#[.slice (some (I b o)) l.length cap])]) ah) v ⟨p,n,trivial⟩ ah u t A k d V).mono;rintro r j ⟨rfl,s⟩;exact⟨O,s.perm ah⟩
def PW(b o cap:Nat)(l:List Int)(m:Nat)(w:D)(hc:∀i x,l[i]? =some x->w.cell? (I b (o+i))=some (.int .u8 x))(hb:b<w.heap.size)(hn:l.length<=cap)(hm:cap<=maxLen)(j:∀c∈l,0<=c/\c<=255)(h:m+91<=l.length):
  Calls prog 86 #[.slice (some (I b o)) l.length cap,Z m] w (zX (me l m) w):=by
 have θ:cap<=9223372036854775807:=hm;have HC:=U hc;have f:=U j;obtain⟨E,hE⟩:∃E:z,E=jm l m:=⟨_,O⟩;obtain⟨y,hy⟩:=aM (bG E);have r1:=qp l m V j;have r2:=qp l (m+57) V j;have r3:=qp l (m+66) V j;have C9:=U (lf E (by rw[hE];exact KC l m h j) y hy);have HD:=U (show y=true->kd E.d=true from λe=>Mw (by rw[hy,e]));have HR:=U (show me l m=if y=true then(E,(m:Int)+91,0)else(z.zero,0,5)from by cases y;rw[On h (by rw[<-hE];exact hy)];rfl;rw[Kt h (by rw[<-hE];exact hy),hE];rfl);obtain⟨l',α⟩:=cJ ((l.drop (m+9)).take 48);have ζ:l'.length=48:=by rw[α,il,kx];omega
 obtain⟨m2,ν⟩:=cJ (m+9);have c8:=λW (hW:S w W)=>ZQ (some (I b (o+m2))) (cap-m2) l' w.heap.size W
  (λ_=>⟨b,o+m2,O,hb,λi x hi=>by
   have ω:i<48:=by rw[<-ζ];exact(fN.1 hi).1
   rw[α,kw,av ω,ob,<-ν]at hi;rw[gQ];exact(hW.cell (p:=(I b _)) hb).trans (hc _ x hi)⟩) hW.size V V (λc Θ=>j c (by rw[α]at Θ;exact rj (mM Θ)))
 have hP:pF l'=if kd E.d=true then(E.d,0)else(an.zero,5):=by
  have:E.d=jT l':=by rw[hE,α];rfl
  unfold pF;rw[ζ,this];simp
 rw[ζ,hP]at c8;obtain⟨vb,φ⟩:=aM (kd E.d);rw[φ]at c8;rw[φ]at HD;obtain⟨a,er,ξ⟩:∃(a:an) (er:Int),(if vb=true then(E.d,(0:Int))else(an.zero,5))=(a,er):=⟨_,_,O⟩;rw[ξ]at c8;simp only at c8;have C8:=U c8;have P:=U ξ;obtain⟨m1,θ⟩:=cJ (m+1);obtain⟨m3,η⟩:=cJ (m+57);obtain⟨m4,κ⟩:=cJ (m+58);obtain⟨m5,γ⟩:=cJ (m+66);obtain⟨m6,π⟩:=cJ (m+67);obtain⟨m7,μ⟩:=cJ (m+75);obtain⟨m8,ψ⟩:=cJ (m+83);obtain⟨m9,Γ⟩:=cJ (m+91);obtain⟨Q,δ⟩:=cJ (cy ((l.drop m).take 1));obtain⟨x1,χ⟩:=cJ (cy ((l.drop m1).take 8));obtain⟨x3,ε⟩:=cJ (cy ((l.drop m3).take 1));obtain⟨x4,ι⟩:=cJ (cy ((l.drop m4).take 8));obtain⟨x5,β⟩:=cJ (cy ((l.drop m5).take 1));obtain⟨x6,σ⟩:=cJ (cy ((l.drop m6).take 8));obtain⟨x7,τ⟩:=cJ (cy ((l.drop m7).take 8));obtain⟨x8,υ⟩:=cJ (cy ((l.drop m8).take 8));have L:=U (show E=⟨Q,x1,E.d,x3,x4,x5,wrap64 x6,x7,x8⟩from by rw[<-IntWalk.i64_left,hE,δ,χ,ε,ι,β,σ,τ,υ,θ,η,κ,γ,π,μ,ψ];rfl);have Ω:0<=Q/\Q<=255:=by rw[δ,r1.1];exact r1.2
 have Φ:0<=x3/\x3<=255:=by rw[ε,η,r2.1];exact r2.2
 have Ψ:0<=x5/\x5<=255:=by rw[β,γ,r3.1];exact r3.2
 have hh:m9<=l.length:=V;have H1:=U θ;have H2:=U ν;have H3:=U η;have H4:=U κ;have H5:=U γ;have H6:=U π;have H7:=U μ;have H8:=U ψ;have H9:=U Γ;have X0:=U δ;have X1:=U χ;have X3:=U ε;have X4:=U ι;have X5:=U β;have X6:=U σ;have X7:=U τ;have X8:=U υ;have B2:m2+48<=l.length:=V;have Ξ:¬cap=m2:=V;clear hc j hE hy α ζ c8 hP φ ξ θ ν η κ γ π μ ψ Γ δ χ ε ι β σ τ υ r1 r2 r3;go_in;go_upto_region 8 with fail;have T:aI w _ [(w.heap.size+1,64,aj z.zero),(w.heap.size+1+1,3,#[Z (m:Int)]),(w.heap.size,150,#[.slice (some (I b o)) l.length cap])]:=((((aI.nil w).push (t:=150) (cs:=#[.slice (some (I b o)) l.length cap]) O).push (t:=64) (cs:=aj z.zero) (g:=w.heap.size+1) ah).push (t:=3) (cs:=#[Z (m:Int)]) (g:=w.heap.size+1+1) ah).perm ah;generalize ((w.alloc _).alloc _).alloc _=X at T⊢;go_wp2_with fail;apply(AR m T V V V HC.o hb hn hm f.o m1 Q H1.o X0.o (aA H1.o)).mono;clear T;rintro r X ⟨rfl,T⟩;go_wp2_with fail;apply(xi m1 T V V V HC.o hb hn hm f.o m2 x1 (cF H1.o H2.o) X1.o V).mono;clear T;rintro r X ⟨rfl,T⟩;obtain⟨J,u,C,F,G,s,-⟩:=T.rules;obtain⟨n,A,B,-⟩:=T.lts;go_wp2_with fail;replace T:=(T.set_ V ⟨V,V,trivial⟩ 0 (Z Q)).set_ V ⟨V,V,trivial⟩ 1 (q x1);rw[Eh,Eg]at T;simp only[PP,Qs,PT,PR,PQ,Qr,PU,Qt,PS]at T;generalize (X.setCell _ _).setCell _ _=w2 at T⊢;clear J u C F G s n A B;apply(C8.o _ T.below).mono;rintro r w3 ⟨rfl,K⟩;replace T:=T.call K;clear K;obtain⟨J,u,C,F,G,s,-⟩:=T.rules;obtain⟨n,A,B,-⟩:=T.lts;go_wp2_with fail;replace T:=(((((T.set_ V ⟨V,V,trivial⟩ 2 (q a.v0)).set_ V ⟨V,V,trivial⟩ 3 (q a.v1)).set_ V ⟨V,V,trivial⟩ 4 (q a.v2)).set_ V ⟨V,V,trivial⟩ 5 (q a.v3)).set_ V ⟨V,V,trivial⟩ 6 (q a.v4)).set_ V ⟨V,V,trivial⟩ 7 (q a.v5);rw[Ef,Ee,Ed,Ec,Eb,Ea]at T;simp only[Fa]at T;replace T:=((T.perm (cs:=[(w.heap.size+1+1,3,#[Z (m2:Int)]),(w.heap.size+1,64,aj ⟨Q,x1,a,0,0,0,0,0,0⟩),(w.heap.size,150,#[.slice (some (I b o)) l.length cap])]) ah).set_ V ⟨V,V,trivial⟩ 0 (Z ((m2:Int)+48)));rw[show((m2:Int)+48)=(m3:Int)from cF H2.o H3.o]at T;have e3:((m2:Int)+48)=(m3:Int):=cF H2.o H3.o;rw[e3];clear e3;replace T:=T.perm (cs:=[(w.heap.size+1,64,aj ⟨Q,x1,a,0,0,0,0,0,0⟩),(w.heap.size+1+1,3,#[Z (m3:Int)]),(w.heap.size,150,#[.slice (some (I b o)) l.length cap])]) ah;generalize ((((((w3.setCell _ _).setCell _ _).setCell _ _).setCell _ _).setCell _ _).setCell _ _).setCell _ _=w2 at T⊢;clear J u C F G s n A B;apply(AR m3 T V V V HC.o hb hn hm f.o m4 x3 (cF H3.o H4.o) X3.o (aA H4.o)).mono;clear T;rintro r X ⟨rfl,T⟩;go_wp2_with fail;apply(xi m4 T V V V HC.o hb hn hm f.o m5 x4 (cF H4.o H5.o) X4.o (aA H5.o)).mono;clear T;rintro r X ⟨rfl,T⟩;go_wp2_with fail;apply(AR m5 T V V V HC.o hb hn hm f.o m6 x5 (cF H5.o H6.o) X5.o (aA H6.o)).mono;clear T;rintro r X ⟨rfl,T⟩;obtain⟨J,u,C,F,G,s,-⟩:=T.rules;obtain⟨n,A,B,-⟩:=T.lts;go_wp2_with fail;replace T:=((T.set_ V ⟨V,V,trivial⟩ 8 (.int .u8 x3)).set_ V ⟨V,V,trivial⟩ 9 (q x4)).set_ V ⟨V,V,trivial⟩ 10 (Z x5);rw[Lm,Ll,Kk]at T;dsimp only at T;generalize ((X.setCell _ _).setCell _ _).setCell _ _=w2 at T⊢;clear J u C F G s n A B;apply(xi m6 T V V V HC.o hb hn hm f.o m7 x6 (cF H6.o H7.o) X6.o (aA H7.o)).mono;clear T;rintro r X ⟨rfl,T⟩;go_wp2_with fail;apply(xi m7 T V V V HC.o hb hn hm f.o m8 x7 (cF H7.o H8.o) X7.o (aA H8.o)).mono;clear T;rintro r X ⟨rfl,T⟩;go_wp2_with fail;apply(xi m8 T V V V HC.o hb hn hm f.o m9 x8 (cF H8.o H9.o) X8.o (aA H9.o)).mono;clear T;rintro r X ⟨rfl,T⟩;obtain⟨J,u,C,F,G,s,-⟩:=T.rules;obtain⟨n,A,B,-⟩:=T.lts;go_upto_region 13 with fail;replace T:=((T.set_ V ⟨V,V,trivial⟩ 11 (Z (IntKind.i64.wrap x6))).set_ V ⟨V,V,trivial⟩ 12 (q x7)).set_ V ⟨V,V,trivial⟩ 13 (q x8);rw[Kj,Ki,Kh,IntWalk.i64_left]at T;dsimp only at T;generalize ((X.setCell _ _).setCell _ _).setCell _ _=w2 at T⊢;clear J u C F G s n A B;have M9:=U (show(m9:Int)=(m:Int)+91 from aA H9.o);clear HC f H1 H2 H3 H4 H5 H6 H7 H8 H9 X0 X1 X3 X4 X5 X6 X7 X8 C8 B2 Ξ hh;rcases(show vb=false\/vb=true from by cases vb<;>simp)with rfl|rfl
 ·obtain⟨rfl,rfl⟩:an.zero=a/\(5:Int)=er:=az P.o;have hy:y=false:=by cases y;rfl;have:=HD.o O;cases this
  subst hy;have hr:=HR.o;rw[al ai]at hr;have R:=U hr;clear hr HR HD P C9 L;obtain⟨J,u,C,F,G,s,-⟩:=T.rules;obtain⟨n,A,B,-⟩:=T.lts;go_wp2_with fail;replace T:=T.setEv V ⟨V,V,trivial⟩ z.zero;replace T:aI w _ [(w.heap.size+1+1,3,#[Z (m9:Int)]),(w.heap.size+1,64,aj z.zero)]:=T.perm ah;replace T:=T.set_ V ⟨V,trivial⟩ 0 (Z 0);refine eu (v:=.tuple #[.agg (aj z.zero),Z 0,Z 5]) (CZ (s1:=4) (s2:=5) (s3:=6) Y _ (w.heap.size+1) (w.heap.size+1+1) z.zero 0 5 _ O O O (T.blk _ _ _ ah) (T.blk _ _ _ cz)) O ⟨by rw[R.o],T.below⟩
 obtain⟨rfl,rfl⟩:E.d=a/\(0:Int)=er:=az P.o;have c9:=C9.o;rw[L.o]at c9;have Δ:=U c9;rcases(show y=false\/y=true from by cases y<;>simp)with rfl|rfl
 ·have hr:=HR.o;rw[al ai]at hr;have R:=U hr;clear hr HR HD P C9 L c9;obtain⟨J,u,C,F,G,s,-⟩:=T.rules;obtain⟨n,A,B,-⟩:=T.lts;go_wp2_with fail;apply(Δ.o _).mono;rintro r w3 ⟨rfl,K⟩;replace T:=T.call K;clear J u C F G s n A B;obtain⟨J,u,C,F,G,s,-⟩:=T.rules;obtain⟨n,A,B,-⟩:=T.lts;go_wp2_with fail;replace T:=T.setEv V ⟨V,V,trivial⟩ z.zero;replace T:aI w _ [(w.heap.size+1+1,3,#[Z (m9:Int)]),(w.heap.size+1,64,aj z.zero)]:=T.perm ah;replace T:=T.set_ V ⟨V,trivial⟩ 0 (Z 0);refine eu (v:=.tuple #[.agg (aj z.zero),Z 0,Z 5]) (CZ (s1:=4) (s2:=5) (s3:=6) Y _ (w.heap.size+1) (w.heap.size+1+1) z.zero 0 5 _ O O O (T.blk _ _ _ ah) (T.blk _ _ _ cz)) O ⟨by rw[R.o],T.below⟩
 have hr:=HR.o;rw[av rfl,L.o,<-M9.o]at hr;have R:=U hr;clear hr HR HD P C9 L c9;obtain⟨J,u,C,F,G,s,-⟩:=T.rules;obtain⟨n,A,B,-⟩:=T.lts;go_wp2_with fail;apply(Δ.o _).mono;rintro r w3 ⟨rfl,K⟩;replace T:=T.call K;clear J u C F G s n A B;obtain⟨J,u,C,F,G,s,-⟩:=T.rules;obtain⟨n,A,B,-⟩:=T.lts;go_wp2_with fail;go_region;go_wp2_with fail;replace T:=T.setEv V ⟨V,V,trivial⟩ ⟨Q,x1,E.d,x3,x4,x5,wrap64 x6,x7,x8⟩;replace T:aI w _ [(w.heap.size+1+1,3,#[Z (m9:Int)]),(w.heap.size+1,64,aj ⟨Q,x1,E.d,x3,x4,x5,wrap64 x6,x7,x8⟩)]:=T.perm ah;replace T:=T.set_ V ⟨V,trivial⟩ 0 (Z (m9:Int));replace T:=T.drew;refine eu (v:=.tuple #[.agg (aj ⟨Q,x1,E.d,x3,x4,x5,wrap64 x6,x7,x8⟩),Z (m9:Int),Z 0]) (CZ (s1:=4) (s2:=5) (s3:=6) Y _ (w.heap.size+1) (w.heap.size+1+1) ⟨Q,x1,E.d,x3,x4,x5,wrap64 x6,x7,x8⟩ (m9:Int) 0 _ O O O (T.blk _ _ _ ah) (T.blk _ _ _ cz)) O ⟨by rw[R.o],T.below⟩
def WV(A:Option Addr)(cap:Nat)(l:List Int)(B:Nat)(a:Int)(w:D)(p:kD w B A l)(r:B<=w.heap.size)(f:l.length<=cap)(d:cap<=maxLen)(e:∀c∈l,0<=c/\c<=255)(i:-9223372036854775808<=a)(k:a<=9223372036854775807):
  Calls prog 86 #[.slice A l.length cap,Z a] w (zX (me l a) w):=by
 by_cases h:a<0\/(l.length:Int)<a;rw[MI h];exact NN A l.length cap a w f d i k h;obtain⟨m,rfl⟩:∃m:Nat,a=m:=⟨a.toNat,V⟩;by_cases g:l.length<m+91;rw[aaa V V V];exact aaf A l.length cap m w f d V g;obtain⟨b,o,rfl,j,n⟩:=p (by rintro rfl;simp at g);exact PW b o cap l m w n V f d e V
def aN.sl(x:aN):Prop:=∃A n c,x.s=.slice A n c
def dw(L:List aN):List H:=L.flatMap λx=>(aE x).toList
def oc(L:List aN):(dw L).length=L.length*12:=by
 induction L with
 |nil=>rfl
 |cons v L ih=>simp only[dw,vB,bW,dN]at ih⊢;rw[ih];simp[aE];omega
def LN(L:List aN)(i:Nat)(x:aN)(h:L[i]? =some x)(j:Nat)(d:j<12):(dw L)[i*12+j]? =(aE x)[j]?:=by
 induction L generalizing i with
 |nil=>simp at h
 |cons u L ih=>
  have a:((aE u).toList).length=12:=O;cases i with
  |zero=>simp at h;subst h;simp only[dw,vB];rw[p9 (by rw[a];omega),nV,cA,i5]
  |succ i=>have c:L[i]? =some x:=az h;have:=ih i c;simp only[dw,vB]at this⊢;rw[pZ (by rw[a];omega),a,bU ((i+1)*12+j-12=i*12+j)];exact this
def yG(L aeL:List aN):dw (L++aeL)=dw L++dw aeL:=by simp[dw]
def LM(x:aN):dw [x]=(aE x).toList:=by simp[dw]
def aak(L:List aN)(k:Nat)(c:k<=L.length):(dw L).take (k*12)=dw (L.take k):=by
 have e:dw L=dw (L.take k)++dw (L.drop k):=by rw[<-yG,lV]
 have a:(dw (L.take k)).length=k*12:=by rw[oc,il];congr 1;omega
 rw[e,<-a,List.take_left]
def Da(L:List aN)(k:Nat)(c:k<=L.length):(dw L).drop (k*12)=dw (L.drop k):=by
 have e:dw L=dw (L.take k)++dw (L.drop k):=by rw[<-yG,lV]
 have a:(dw (L.take k)).length=k*12:=by rw[oc,il];congr 1;omega
 rw[e,<-a,List.drop_left]
def Jy{L:List aN}(d:∀x∈L,x.sl):∀u∈dw L,u.oneCell'=true:=by
 intro y a;unfold dw at a;obtain⟨x,e,a⟩:=List.mem_flatMap.1 a;obtain⟨A,n,c,h⟩:=d x e;simp only[Dh,dh,sL,lE]at a;rcases a with rfl|rfl|rfl|rfl|rfl|rfl|rfl|rfl|rfl|rfl|rfl|rfl
 all_goals first|rfl|(rw[h];rfl)
abbrev xz(w:D)(B:Nat)(A:Option Addr)(L:List aN):Prop:=dK w B 12 A L.length (dw L)
@[reducible] def Il(w:D)(b o:Nat)(x:aN):Prop:=
 w.cell? (I b o)=some (.int .u8 x.k)/\w.cell? (I b (o+1))=some (Z x.f)/\w.cell? (I b (o+2))=some (Z x.t)/\w.cell? (I b (o+3))=some (q x.d.v0)/\w.cell? (I b (o+4))=some (q x.d.v1)/\w.cell? (I b (o+5))=some (q x.d.v2)/\w.cell? (I b (o+6))=some (q x.d.v3)/\w.cell? (I b (o+7))=some (q x.d.v4)/\w.cell? (I b (o+8))=some (q x.d.v5)/\w.cell? (I b (o+9))=some x.s/\w.cell? (I b (o+10))=some (q x.n)/\w.cell? (I b (o+11))=some (Z x.a)
def RX{x:aN}(h:∀j,j<12->w.cell? (I b (o+j))=(aE x)[j]?):Il w b o x:=
 ⟨h 0 V,h 1 V,h 2 V,h 3 V,h 4 V,h 5 V,h 6 V,h 7 V,h 8 V,h 9 V,h 10 V,h 11 V⟩
def xz.at_{B:Nat}{A:Option Addr}{L:List aN}(h:xz w B A L){i:Nat}{x:aN}(d:L[i]? =some x):∃b o,A=some (I b o)/\b<B/\Il w b (o+i*12) x:=by have e:i<L.length:=(fN.1 d).1;obtain⟨b,o,k,g,m⟩:=h.2 V;refine⟨b,o,k,g,RX λj a=>?_⟩;have c:=LN L i x d j a;obtain⟨v,f⟩:∃v,(aE x)[j]? =some v:=⟨(aE x)[j]'(by rw[Er];exact a),oZ _⟩;rw[f]at c⊢;rw[gQ];exact m _ _ c
def EQ:(prog.info? 331).map (λi=>(i.zero,i.size,i.bytes))=some (some (.agg #[.int .u8 0,Z 0,Z 0,q 0,q 0,q 0,q 0,q 0,q 0,.slice none 0 0,q 0,Z 0]),12,112):=Y
def dZ(s:H)(C:Nat->Bool):Array H:=#[s,.bool (C 0),.bool (C 1),.bool (C 2),.bool (C 3),.bool (C 4),.bool (C 5),.bool (C 6),.bool (C 7),.bool (C 8),.bool (C 9),.bool (C 10),.bool (C 11),.bool (C 12),.bool (C 13),.bool (C 14),.bool (C 15),.bool (C 16),.bool (C 17),.bool (C 18),.bool (C 19),.bool (C 20),.bool (C 21),.bool (C 22),.bool (C 23),.bool (C 24),.bool (C 25),.bool (C 26),.bool (C 27),.bool (C 28),.bool (C 29),.bool (C 30),.bool (C 31),.bool (C 32),.bool (C 33),.bool (C 34),.bool (C 35)]
def wv(s:H)(C:Nat->Bool)(i:Nat)(h:i<36):(dZ s C)[1+i]? =some (.bool (C i)):=by
 match i,h with
 |0,_=>rfl
 |1,_=>rfl
 |2,_=>rfl
 |3,_=>rfl
 |4,_=>rfl
 |5,_=>rfl
 |6,_=>rfl
 |7,_=>rfl
 |8,_=>rfl
 |9,_=>rfl
 |10,_=>rfl
 |11,_=>rfl
 |12,_=>rfl
 |13,_=>rfl
 |14,_=>rfl
 |15,_=>rfl
 |16,_=>rfl
 |17,_=>rfl
 |18,_=>rfl
 |19,_=>rfl
 |20,_=>rfl
 |21,_=>rfl
 |22,_=>rfl
 |23,_=>rfl
 |24,_=>rfl
 |25,_=>rfl
 |26,_=>rfl
 |27,_=>rfl
 |28,_=>rfl
 |29,_=>rfl
 |30,_=>rfl
 |31,_=>rfl
 |32,_=>rfl
 |33,_=>rfl
 |34,_=>rfl
 |35,_=>rfl
 |n+36,h=>exact absurd h V
def N7(s u:H)(C:Nat->Bool):(dZ s C).setIfInBounds 0 u=dZ u C:=rfl
def uQ(C:Nat->Bool)(i:Nat)(b:Bool):Nat->Bool:=λj=>if j=i then b else C j
def Lp(s:H)(C:Nat->Bool)(i:Nat)(h:i<36)(b:Bool):(dZ s C).setIfInBounds (1+i) (.bool b)=dZ s (uQ C i b):=by
 match i,h with
 |0,_=>rfl
 |1,_=>rfl
 |2,_=>rfl
 |3,_=>rfl
 |4,_=>rfl
 |5,_=>rfl
 |6,_=>rfl
 |7,_=>rfl
 |8,_=>rfl
 |9,_=>rfl
 |10,_=>rfl
 |11,_=>rfl
 |12,_=>rfl
 |13,_=>rfl
 |14,_=>rfl
 |15,_=>rfl
 |16,_=>rfl
 |17,_=>rfl
 |18,_=>rfl
 |19,_=>rfl
 |20,_=>rfl
 |21,_=>rfl
 |22,_=>rfl
 |23,_=>rfl
 |24,_=>rfl
 |25,_=>rfl
 |26,_=>rfl
 |27,_=>rfl
 |28,_=>rfl
 |29,_=>rfl
 |30,_=>rfl
 |31,_=>rfl
 |32,_=>rfl
 |33,_=>rfl
 |34,_=>rfl
 |35,_=>rfl
 |n+36,h=>exact absurd h V
