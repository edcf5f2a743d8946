import Derived.Test.YtghdobdjfnimmaaGreatDoorZ17
set_option maxRecDepth 100000
set_option maxHeartbeats 0
set_option linter.all false
namespace Go.Proofs.YtghdobdjfnimmaaGreatDoor
open Go.Proofs.Tryz
variable{l:List Int}{w w0:Yu}{b o g5 g2 cap:Nat}{bs:List (Nat×Yw×Array Yv)}
section
open Go.RowKit
@[go_sem] theorem QZ(e:Ev)(d:av):Array.foldl (λ(cs:Array Yv) (x:Yv×Nat)=>cs.setIfInBounds (2+x.snd) x.fst) (ao e) (aq d).zipIdx 0 6=ao {e with d:=d}:=by kernel_rfl
theorem Gf(v:av)(e:Ev)(a:e.ok)(b:Bool)(h:eS v e=b)(w:Yu):Yt 92 #[.agg (aq v),.agg (ao e)] w λr w'=>r=.returned (.bool b)/\Ys w w':=by
 subst h;exact Cn v e a w
def fI(l:List Int)(m:Nat):Ev:=
 ⟨bW ((l.drop m).take 1),bW ((l.drop (m+1)).take 8),wh ((l.drop (m+9)).take 48),bW ((l.drop (m+57)).take 1),bW ((l.drop (m+58)).take 8),bW ((l.drop (m+66)).take 1),IntKind.i64.wrap (bW ((l.drop (m+67)).take 8)),bW ((l.drop (m+75)).take 8),bW ((l.drop (m+83)).take 8)⟩
theorem fw(l:List Int)(m:Nat)(a:m<l.length)(h:∀c∈l,0<=c/\c<=255):bW ((l.drop m).take 1)=l.getD m 0/\0<=l.getD m 0/\l.getD m 0<=255:=by
 have e:(l.drop m).take 1=[l[m]]:=by rw[List.drop_eq_getElem_cons a];rfl
 have g:l.getD m 0=l[m]:=by rw[Wh,Ve a];rfl
 have r:=h l[m] (List.getElem_mem a);rw[e,g];refine⟨?_,r⟩;simp[bW]
theorem gW(l:List Int)(m k n:Nat)(h:k+n<=91):((((l.drop m).take 91).drop k).take n)=(l.drop (m+k)).take n:=by
 rw[List.drop_take,List.take_take,List.drop_drop,Nat.min_eq_left (by omega)]
theorem nj(l:List Int)(m k:Nat)(h:k<91):((l.drop m).take 91).getD k 0=l.getD (m+k) 0:=by
 rw[Wh,VU,Vh h,Wb,Wh]
theorem NC(l:List Int)(m:Nat)(a:m+91<=l.length)(h:∀c∈l,0<=c/\c<=255):fI l m=Iv ((l.drop m).take 91):=by
 unfold fI Iv Ru;simp only;rw[(fw l m (by omega) h).1,(fw l (m+57) (by omega) h).1,(fw l (m+66) (by omega) h).1,nj l m 0 (by omega),nj l m 57 (by omega),nj l m 66 (by omega),
  gW l m 1 8 (by omega),gW l m 9 48 (by omega),gW l m 58 8 (by omega),gW l m 67 8 (by omega),gW l m 75 8 (by omega),gW l m 83 8 (by omega)]
 rfl
theorem fL(l:List Int)(m:Nat)(h:∀c∈l,0<=c/\c<=255)(k:Nat):0<=bW ((l.drop m).take k)/\bW ((l.drop m).take k)<=18446744073709551615:=
 pH _ λc a=>h c (Wr (Ws a))
theorem rE(l:List Int)(m:Nat)(e:m+91<=l.length)(h:∀c∈l,0<=c/\c<=255):(fI l m).ok:=by
 have a:=fw l m (by omega) h;have b:=fw l (m+57) (by omega) h;have c:=fw l (m+66) (by omega) h;refine⟨?_,fL _ _ h _,KJ _ λc d=>h c (Wr (Ws d)),?_,fL _ _ h _,?_,?_,fL _ _ h _,fL _ _ h _⟩
 ·show -9223372036854775808<=bW _/\bW _<=9223372036854775807;rw[a.1];omega
 ·show 0<=bW _/\bW _<=255;rw[b.1];omega
 ·show -9223372036854775808<=bW _/\bW _<=9223372036854775807;rw[c.1];omega
 ·show -9223372036854775808<=IntKind.i64.wrap _/\IntKind.i64.wrap _<=9223372036854775807
  rw[Xu];omega
def jx(l:List Int)(a:Int):Ev×Int×Int:=
 if a<0\/(l.length:Int)<a then(Ev.zero,0,1)
 else if(l.length:Int)-a<91 then(Ev.zero,0,5)
 else if aX (fI l a.toNat)=true then(fI l a.toNat,a+91,0)
 else(Ev.zero,0,5)
theorem zB{a:Int}(h:a<0\/(l.length:Int)<a):jx l a=(Ev.zero,0,1):=Vh h
theorem tW{a:Int}(c:0<=a)(d:a<=l.length)(h:(l.length:Int)-a<91):jx l a=(Ev.zero,0,5):=by
 unfold jx;rw[Vf (by omega),Vh h]
theorem zA{m:Nat}(h:m+91<=l.length)(a:aX (fI l m)=true):jx l m=(fI l m,(m:Int)+91,0):=by
 unfold jx;rw[Vf (by omega),Vf (by omega),Yn,Vh a]
theorem BI{m:Nat}(h:m+91<=l.length)(a:aX (fI l m)=false):jx l m=(Ev.zero,0,5):=by
 unfold jx;rw[Vf (by omega),Vf (by omega),Yn,Vf (by simp[a])]
theorem xJ{e:Ev}(h:aX e=true):fV e.d=true:=by
 unfold aX at h;simp only[Vo]at h;obtain⟨a,_⟩:=h;unfold ib at a;simp only[Vo]at a;have c:=a.2;unfold gq at c;unfold fV;rw[VC]at c⊢;omega
structure Mc where
 k:Int
 f:Int
 t:Int
 d:av
 s:Yv
 n:Int
 a:Int
def aR(x:Mc):Array Yv:=#[Value.int .u8 x.k,Value.int .i64 x.f,Value.int .i64 x.t,Value.int .u64 x.d.v0,Value.int .u64 x.d.v1,Value.int .u64 x.d.v2,Value.int .u64 x.d.v3,Value.int .u64 x.d.v4,Value.int .u64 x.d.v5,x.s,Value.int .u64 x.n,Value.int .i64 x.a]
theorem pK(x:Mc):(aR x).size=12:=rfl
theorem lA(x:Mc):(aR x).toList=[Value.int .u8 x.k,Value.int .i64 x.f,Value.int .i64 x.t,Value.int .u64 x.d.v0,Value.int .u64 x.d.v1,Value.int .u64 x.d.v2,Value.int .u64 x.d.v3,Value.int .u64 x.d.v4,Value.int .u64 x.d.v5,x.s,Value.int .u64 x.n,Value.int .i64 x.a]:=rfl
theorem OY(x:Mc):(aR x)[0]? =some (Value.int .u8 x.k):=rfl
theorem OW(x:Mc):(aR x)[1]? =some (Value.int .i64 x.f):=rfl
theorem OV(x:Mc):(aR x)[2]? =some (Value.int .i64 x.t):=rfl
theorem OU(x:Mc):(aR x)[3]? =some (Value.int .u64 x.d.v0):=rfl
theorem OT(x:Mc):(aR x)[4]? =some (Value.int .u64 x.d.v1):=rfl
theorem OR(x:Mc):(aR x)[5]? =some (Value.int .u64 x.d.v2):=rfl
theorem OQ(x:Mc):(aR x)[6]? =some (Value.int .u64 x.d.v3):=rfl
theorem OP(x:Mc):(aR x)[7]? =some (Value.int .u64 x.d.v4):=rfl
theorem OO(x:Mc):(aR x)[8]? =some (Value.int .u64 x.d.v5):=rfl
theorem ON(x:Mc):(aR x)[9]? =some (x.s):=rfl
theorem KZ(x:Mc):(aR x)[10]? =some (Value.int .u64 x.n):=rfl
theorem KY(x:Mc):(aR x)[11]? =some (Value.int .i64 x.a):=rfl
theorem KX(d:Int)(x1:Int)(x2:Int)(x3:Int)(e:Int)(k:Int)(h:Int)(j:Int)(f:Int)(i:Yv)(a:Int)(c:Int):#[Value.int .u8 d,Value.int .i64 x1,Value.int .i64 x2,Value.int .u64 x3,Value.int .u64 e,Value.int .u64 k,Value.int .u64 h,Value.int .u64 j,Value.int .u64 f,i,Value.int .u64 a,Value.int .i64 c]=aR ⟨d,x1,x2,⟨x3,e,k,h,j,f⟩,i,a,c⟩:=rfl
theorem KW(x:Mc):(⟨x.k,x.f,x.t,x.d,x.s,x.n,x.a⟩:Mc)=x:=rfl
theorem Dc(x:Mc)(y:Int):(aR x).setIfInBounds 0 (.int .u8 y)=aR ⟨y,x.f,x.t,x.d,x.s,x.n,x.a⟩:=rfl
theorem Db(x:Mc)(y:Int):(aR x).setIfInBounds 1 (.int .i64 y)=aR ⟨x.k,y,x.t,x.d,x.s,x.n,x.a⟩:=rfl
theorem Da(x:Mc)(y:Int):(aR x).setIfInBounds 2 (.int .i64 y)=aR ⟨x.k,x.f,y,x.d,x.s,x.n,x.a⟩:=rfl
theorem C7(x:Mc)(y:Int):(aR x).setIfInBounds 3 (.int .u64 y)=aR ⟨x.k,x.f,x.t,⟨y,x.d.v1,x.d.v2,x.d.v3,x.d.v4,x.d.v5⟩,x.s,x.n,x.a⟩:=rfl
theorem C6(x:Mc)(y:Int):(aR x).setIfInBounds 4 (.int .u64 y)=aR ⟨x.k,x.f,x.t,⟨x.d.v0,y,x.d.v2,x.d.v3,x.d.v4,x.d.v5⟩,x.s,x.n,x.a⟩:=rfl
theorem CZ(x:Mc)(y:Int):(aR x).setIfInBounds 5 (.int .u64 y)=aR ⟨x.k,x.f,x.t,⟨x.d.v0,x.d.v1,y,x.d.v3,x.d.v4,x.d.v5⟩,x.s,x.n,x.a⟩:=rfl
theorem CY(x:Mc)(y:Int):(aR x).setIfInBounds 6 (.int .u64 y)=aR ⟨x.k,x.f,x.t,⟨x.d.v0,x.d.v1,x.d.v2,y,x.d.v4,x.d.v5⟩,x.s,x.n,x.a⟩:=rfl
theorem CX(x:Mc)(y:Int):(aR x).setIfInBounds 7 (.int .u64 y)=aR ⟨x.k,x.f,x.t,⟨x.d.v0,x.d.v1,x.d.v2,x.d.v3,y,x.d.v5⟩,x.s,x.n,x.a⟩:=rfl
theorem CV(x:Mc)(y:Int):(aR x).setIfInBounds 8 (.int .u64 y)=aR ⟨x.k,x.f,x.t,⟨x.d.v0,x.d.v1,x.d.v2,x.d.v3,x.d.v4,y⟩,x.s,x.n,x.a⟩:=rfl
theorem uI(x:Mc)(y:Yv):(aR x).setIfInBounds 9 (y)=aR ⟨x.k,x.f,x.t,x.d,y,x.n,x.a⟩:=rfl
theorem Ai(x:Mc)(y:Int):(aR x).setIfInBounds 10 (.int .u64 y)=aR ⟨x.k,x.f,x.t,x.d,x.s,y,x.a⟩:=rfl
theorem Ah(x:Mc)(y:Int):(aR x).setIfInBounds 11 (.int .i64 y)=aR ⟨x.k,x.f,x.t,x.d,x.s,x.n,y⟩:=rfl
theorem xh(x:Mc):(aR x=#[])=False:=by simp[aR]
def Mc.zero:Mc:=⟨0,0,0,av.zero,.slice none 0 0,0,0⟩
theorem Gu:(⟨0,0,0,av.zero,.slice none 0 0,0,0⟩:Mc)=Mc.zero:=rfl
attribute [go_sem] pK lA KX KW Gu xh OY OW OV OU OT OR OQ OP OO ON KZ KY Dc Db Da C7 C6 CZ CY CX CV uI Ai Ah
@[go_sem] theorem OI:Mc.zero.k=0:=rfl
@[go_sem] theorem OJ:Mc.zero.f=0:=rfl
@[go_sem] theorem OF:Mc.zero.t=0:=rfl
@[go_sem] theorem OL:Mc.zero.d=av.zero:=rfl
@[go_sem] theorem OG:Mc.zero.s=.slice none 0 0:=rfl
@[go_sem] theorem OH:Mc.zero.n=0:=rfl
@[go_sem] theorem OM:Mc.zero.a=0:=rfl
theorem yK(O R:Mc):(((((((((((((aR O).setIfInBounds 0 (.int .u8 R.k)).setIfInBounds 1 (.int .i64 R.f)).setIfInBounds 2 (.int .i64 R.t)).setIfInBounds 3 (.int .u64 R.d.v0)).setIfInBounds 4 (.int .u64 R.d.v1)).setIfInBounds 5 (.int .u64 R.d.v2)).setIfInBounds 6 (.int .u64 R.d.v3)).setIfInBounds 7 (.int .u64 R.d.v4)).setIfInBounds 8 (.int .u64 R.d.v5)).setIfInBounds 9 R.s).setIfInBounds 10 (.int .u64 R.n)).setIfInBounds 11 (.int .i64 R.a))=aR R:=by kernel_rfl
structure Ms where
 k:Int
 f:Int
 t:Int
 d:av
 l:List Ev
 n:Int
 a:Int
namespace Ms
theorem ext{x y:Ms}(m:x.k=y.k)(i:x.f=y.f)(e:x.t=y.t)(p:x.d=y.d)(h:x.l=y.l)(j:x.n=y.n)(c:x.a=y.a):x=y:=by
 cases x;cases y;simp_all
instance:DecidableEq Ms:=λx y=>
 decidable_of_iff (x.k=y.k/\x.f=y.f/\x.t=y.t/\x.d=y.d/\x.l=y.l/\x.n=y.n/\x.a=y.a)
  ⟨λ⟨h0,h1,h2,h3,h4,h5,h6⟩=>ext h0 h1 h2 h3 h4 h5 h6,λh=>by subst h;simp⟩
def zero:Ms:=⟨0,0,0,av.zero,[],0,0⟩
structure ok(m:Ms):Prop where
 k:0<=m.k/\m.k<=255
 f:-9223372036854775808<=m.f/\m.f<=9223372036854775807
 t:-9223372036854775808<=m.t/\m.t<=9223372036854775807
 d:m.d.ok
 l:∀e∈m.l,e.ok
 n:0<=m.n/\m.n<=18446744073709551615
 a:-9223372036854775808<=m.a/\m.a<=9223372036854775807
abbrev mc(m:Ms)(A:Option Addr)(c:Nat):Mc:=⟨m.k,m.f,m.t,m.d,.slice A m.l.length c,m.n,m.a⟩
end Ms
def ig(m:Ms):Bool:=cB m.f&&cB m.t&&decide (m.f≠m.t)&&fV m.d
def kK(m:Ms):Bool:=m.l.all aX&&decide (m.l.length<=16)&&decide (m.n=0)&&decide (m.a=0)
def qZ(m:Ms):Bool:=decide (m.l.length=0)&&decide (m.n≠0)&&decide (1<=m.a)&&decide (m.a<=1125899906842624)
def ee(m:Ms):Bool:=ig m&&(if m.k=1 then kK m else if m.k=2 then qZ m else false)
structure Ti(m:Ms):Prop where
 f:1<=m.f/\m.f<=6
 t:1<=m.t/\m.t<=6
 ne:m.f≠m.t
 d:fV m.d=true
 k:(m.k=1/\(∀e∈m.l,aX e=true)/\m.l.length<=16/\m.n=0/\m.a=0)\/(m.k=2/\m.l=[]/\m.n≠0/\1<=m.a/\m.a<=1125899906842624)
theorem Gx{m:Ms}(h:ee m=true):Ti m:=by
 unfold ee ig at h;simp only[Vo,VC]at h;obtain⟨⟨⟨⟨n,e⟩,p⟩,f⟩,a⟩:=h;obtain⟨i,t,s⟩:=gd n;obtain⟨j,r,q⟩:=gd e;refine⟨⟨by omega,by omega⟩,⟨by omega,by omega⟩,p,f,?_⟩;by_cases c:m.k=1
 ·rw[Vh c]at a
  unfold kK at a;simp only[Vo,VC,Wl]at a;exact .inl ⟨c,a.1.1.1,a.1.1.2,a.1.2,a.2⟩
 ·rw[Vf c]at a
  by_cases d:m.k=2
  ·rw[Vh d]at a
   unfold qZ at a;simp only[Vo,VC]at a;exact .inr ⟨d,VM a.1.1.1,a.1.1.2,a.1.2,a.2⟩
  ·rw[Vf d]at a;cases a
theorem bF.setMc{g:Nat}{t:Yw}{O:Mc}(h:bF w0 w ((g,t,aR O)::bs))(e:w0.heap.size<=g)(c:mS g bs)(R:Mc):bF w0 ((((((((((((w.setCell ⟨g,0,none⟩ (.int .u8 R.k)).setCell ⟨g,1,none⟩ (.int .i64 R.f)).setCell ⟨g,2,none⟩ (.int .i64 R.t)).setCell ⟨g,3,none⟩ (.int .u64 R.d.v0)).setCell ⟨g,4,none⟩ (.int .u64 R.d.v1)).setCell ⟨g,5,none⟩ (.int .u64 R.d.v2)).setCell ⟨g,6,none⟩ (.int .u64 R.d.v3)).setCell ⟨g,7,none⟩ (.int .u64 R.d.v4)).setCell ⟨g,8,none⟩ (.int .u64 R.d.v5)).setCell ⟨g,9,none⟩ R.s).setCell ⟨g,10,none⟩ (.int .u64 R.n)).setCell ⟨g,11,none⟩ (.int .i64 R.a)) ((g,t,aR R)::bs):=by
 rw[<-yK O R];exact((((((((((((h.set_ e c 0 (.int .u8 R.k)).set_ e c 1 (.int .i64 R.f)).set_ e c 2 (.int .i64 R.t)).set_ e c 3 (.int .u64 R.d.v0)).set_ e c 4 (.int .u64 R.d.v1)).set_ e c 5 (.int .u64 R.d.v2)).set_ e c 6 (.int .u64 R.d.v3)).set_ e c 7 (.int .u64 R.d.v4)).set_ e c 8 (.int .u64 R.d.v5)).set_ e c 9 R.s).set_ e c 10 (.int .u64 R.n)).set_ e c 11 (.int .i64 R.a))
theorem uD(k:Int)(w:Yu):
  Yt 222 #[.int .i64 k] w λe w'=>e=.returned (.bool (cB k))/\w=w':=by
 go_enter func222,ntmps222
 go_wp2
 all_goals go_ret
 all_goals (refine⟨?_,rfl⟩;simp[cB];omega)
theorem aL(k:Int)(b:Bool)(h:cB k=b)(w:Yu):
  Yt 222 #[.int .i64 k] w λe w'=>e=.returned (.bool b)/\w=w':=by
 subst h;exact uD k w
theorem RI(e:Ev)(d:e.ok)(b:Bool)(h:aX e=b)(w:Yu):Yt 224 #[.agg (ao e)] w λr w'=>r=.returned (.bool (!b))/\Ys w w':=by
 have f:=U9 (ii e d b h);clear h d;go_enter func224,ntmps224;go_wp2_with fail;have c:bF w _ [(w.heap.size,53,ao e)]:=(bF.nil w).push (t:=53) (cs:=ao e) rfl;refine(f.o _).mono ?_;rintro r j ⟨rfl,a⟩;have i:=c.call a;clear c a;go_wp2_with fail;go_ret;exact⟨rfl,i.below⟩
theorem Dz(A:Option Addr)(c:Nat)(L:List Ev)(w:Yu)(F:fC w w.heap.size A L)(Y:L.length<=c)(S:c<=maxLen)(ok:∀e∈L,e.ok):
  Yt 248 #[.slice A L.length c,.func (.func 224) #[] #[]] w λr w'=>∃v:Int,r=.returned (.int .i64 v)/\decide (0<=v)= !(L.all aX)/\Ys w w':=by
 have P:c<=9223372036854775807:=S;have Q:=U9 F;have O:=U9 ok;clear F ok;go_enter func248,ntmps248;go_wp2_with fail
 go_loopw [8] (λi wr=>∃k:Nat,k<=L.length/\i=.int .i64 k/\(∀e∈L.take k,aX e=true)/\Ys w wr) (λi _=>L.length-(intOf i).toNat)
 case atStart=>exact⟨0,by omega,rfl,λe he=>by simp at he,Vd _ _⟩
 case round=>
  obtain⟨k,V,rfl,a,d⟩:=hrel;have D:=U9 a;clear a;by_cases q:k<L.length
  ·obtain⟨x,p⟩:∃x,L[k]? =some x:=⟨L[k],Ve q⟩
   have z:=O.o x (Vn p);obtain⟨b1,W,rfl,t,B,x1,x2,x3,C,J,M,E,K,I,n,h,j,m⟩:=fC.at_ (Q.o.below d) p;have R:b1<wr.heap.size:=Vq t d.size;have X:(0:Int)<=(k:Int):=by omega
   have U:(k:Int)<(L.length:Int):=by omega
   obtain⟨y,s⟩:∃y,aX x=y:=⟨_,rfl⟩;have H:=U9 (RI x z y s);have N:=U9 p;have G:=U9 s;clear p s;rcases(show y=false\/y=true from by cases y<;>simp)with rfl|rfl
   ·go_wp2_with fail
    refine(H.o _).mono ?_;rintro r T ⟨rfl,f⟩;clear B x1 x2 x3 C J M E K I n h j m;go_wp2_with fail;go_ret;refine⟨k,rfl,?_,d.trans (f.mono d.size)⟩;have:L.all aX=false:=List.all_eq_false.2 ⟨x,Vn N.o,by simp[G.o]⟩;rw[this];simp
   ·go_wp2_with fail
    refine(H.o _).mono ?_;rintro r T ⟨rfl,f⟩;clear B x1 x2 x3 C J M E K I n h j m;go_wp2_with fail;go_roundw
    case rel=>
     refine⟨k+1,by omega,by go_num,λe he=>?_,d.trans (f.mono d.size)⟩;rw[VN,N.o]at he;rcases Vw.1 he with he|he
     ·exact D.o e he
     ·obtain rfl:e=x:=by simpa using he
      exact G.o
    case measure=>simp[intOf];omega
  ·obtain rfl:k=L.length:=by omega
   go_wp2_with fail;go_ret;refine⟨-1,rfl,?_,d⟩;have a:=D.o;rw[V4 (Vc _)]at a;have:L.all aX=true:=Wl.2 a;rw[this];rfl
theorem vM(A:Option Addr)(c:Nat)(L:List Ev)(b:Bool)(h:L.all aX=b)(w:Yu)(d:fC w w.heap.size A L)(j:L.length<=c)(f:c<=maxLen)(ok:∀e∈L,e.ok):
  Yt 223 #[.slice A L.length c,.func (.func 224) #[] #[]] w λr w'=>r=.returned (.bool (!b))/\Ys w w':=by
 have a:=U9 (Dz A c L w d j f ok);rw[h]at a;clear d ok h;go_enter func223,ntmps223;go_wp2_with fail;refine a.o.mono ?_;rintro r k ⟨v,rfl,m,i⟩;go_wp2_with fail;go_ret;exact⟨rfl,i⟩
theorem fC.next{w':Yu}{A:Option Addr}{L:List Ev}(h:fC w w.heap.size A L)(a:Ys w w'):fC w' w'.heap.size A L:=(h.below a).mono a.size
theorem xc{m:Ms}(h:ig m=false):ee m=false:=by unfold ee;rw[h];rfl
theorem w8{m:Ms}(h:ig m=true)(k:m.k=1):ee m=kK m:=by unfold ee;rw[h,Vh k];rfl
theorem Ag{m:Ms}(h:ig m=true)(k:m.k=2):ee m=qZ m:=by unfold ee;rw[h,Vf (by omega),Vh k];rfl
theorem w9{m:Ms}(a:m.k≠1)(c:m.k≠2):ee m=false:=by unfold ee;rw[Vf a,Vf c,Bool.and_false]
theorem Af(m:Ms)(h:ig m=false)(A:Option Addr)(c:Nat)(w:Yu):Yt 201 #[.agg (aR ⟨m.k,m.f,m.t,m.d,.slice A m.l.length c,m.n,m.a⟩)] w λr w'=>r=.returned (.bool false)/\Ys w w':=by
 have j:cB m.f=false\/(cB m.f=true/\cB m.t=false)\/(cB m.f=true/\cB m.t=true/\(m.f==m.t)=true)\/(cB m.f=true/\cB m.t=true/\(m.f==m.t)=false/\fV m.d=false):=by
  unfold ig at h;cases e:cB m.f
  ·exact .inl rfl
  ·cases i:cB m.t
   ·exact .inr (.inl ⟨rfl,rfl⟩)
   ·by_cases s:m.f=m.t
    ·exact .inr (.inr (.inl ⟨rfl,rfl,by rw[Xg];exact s⟩))
    ·refine .inr (.inr (.inr ⟨rfl,rfl,by rw[Vz];exact s,?_⟩))
     rw[e,i]at h;simpa[s]using h
 clear h;rcases j with e|⟨e,i⟩|⟨e,i,s⟩|⟨e,i,s,y⟩
 ·have p:=U9 (aL m.f _ e)
  clear e;go_enter func201,ntmps201;go_wp2_with (go_at_call 222;(first|(with_reducible refine(p.o _).mono ?_));rintro r v ⟨rfl,rfl⟩);go_ret;exact⟨rfl,(Vd _ _).alloc (Vc _) _⟩
 ·have p:=U9 (aL m.f _ e)
  have q:=U9 (aL m.t _ i);clear e i;go_enter func201,ntmps201;go_wp2_with (go_at_call 222;(first|(with_reducible refine(p.o _).mono ?_)|(with_reducible refine(q.o _).mono ?_));rintro r v ⟨rfl,rfl⟩);go_ret;exact⟨rfl,(Vd _ _).alloc (Vc _) _⟩
 ·have p:=U9 (aL m.f _ e)
  have q:=U9 (aL m.t _ i);clear e i;go_enter func201,ntmps201;go_wp2_with (go_at_call 222;(first|(with_reducible refine(p.o _).mono ?_)|(with_reducible refine(q.o _).mono ?_));rintro r v ⟨rfl,rfl⟩);go_ret;exact⟨rfl,(Vd _ _).alloc (Vc _) _⟩
 ·have p:=U9 (aL m.f _ e)
  have q:=U9 (aL m.t _ i);have z:=U9 (jw m.d _ y);clear e i y;go_enter func201,ntmps201;go_wp2_with (go_at_call 222;(first|(with_reducible refine(p.o _).mono ?_)|(with_reducible refine(q.o _).mono ?_));rintro r v ⟨rfl,rfl⟩);refine(z.o _).mono ?_;rintro r B ⟨rfl,x⟩;go_wp2_with fail;go_ret;exact⟨rfl,((Vd _ _).alloc (Vc _) _).trans (x.mono (by simp))⟩
theorem Ae(m:Ms)(e:ig m=true)(B:(m.k==1)=false)(D:(m.k==2)=false)(A:Option Addr)(c:Nat)(w:Yu):Yt 201 #[.agg (aR ⟨m.k,m.f,m.t,m.d,.slice A m.l.length c,m.n,m.a⟩)] w λr w'=>r=.returned (.bool false)/\Ys w w':=by
 have h:cB m.f=true/\cB m.t=true/\(m.f==m.t)=false/\fV m.d=true:=by
  unfold ig at e;simp only[Vo,VC]at e;exact⟨e.1.1.1,e.1.1.2,by rw[Vz];exact e.1.2,e.2⟩
 obtain⟨v,q,G,s⟩:=h;clear e
 ·have y:=U9 (aL m.f _ v)
  have x:=U9 (aL m.t _ q);have z:=U9 (jw m.d _ s);clear v q s;go_enter func201,ntmps201;go_wp2_with (go_at_call 222;(first|(with_reducible refine(y.o _).mono ?_)|(with_reducible refine(x.o _).mono ?_));rintro r C ⟨rfl,rfl⟩);have p:bF w _ [(w.heap.size,297,aR ⟨m.k,m.f,m.t,m.d,.slice A m.l.length c,m.n,m.a⟩)]:=(bF.nil w).push (t:=297) (cs:=aR ⟨m.k,m.f,m.t,m.d,.slice A m.l.length c,m.n,m.a⟩) rfl;refine(z.o _).mono ?_;rintro r H ⟨rfl,i⟩;have j:=p.call i;clear p i;obtain⟨F,-,-⟩:=j.rules;obtain⟨E,-⟩:=j.lts;go_wp2_with fail;go_ret;exact⟨rfl,j.below⟩
theorem CQ(m:Ms)(o:m.ok)(H:ig m=true)(Q:(m.k==1)=false)(V:(m.k==2)=true)(A:Option Addr)(c:Nat)(w:Yu):Yt 201 #[.agg (aR ⟨m.k,m.f,m.t,m.d,.slice A m.l.length c,m.n,m.a⟩)] w λr w'=>r=.returned (.bool (qZ m))/\Ys w w':=by
 have I:cB m.f=true/\cB m.t=true/\(m.f==m.t)=false/\fV m.d=true:=by
  unfold ig at H;simp only[Vo,VC]at H;exact⟨H.1.1.1,H.1.1.2,by rw[Vz];exact H.1.2,H.2⟩
 obtain⟨y,v,T,x⟩:=I;clear H;have U:=o.a;have s:(qZ m=false/\m.l.length≠0)\/(qZ m=false/\m.l.length=0/\m.n=0)\/(qZ m=false/\m.l.length=0/\m.n≠0/\m.a<1)\/(qZ m=false/\m.l.length=0/\m.n≠0/\1<=m.a/\¬m.a<=1125899906842624)\/(qZ m=true/\m.l.length=0/\m.n≠0/\1<=m.a/\m.a<=1125899906842624):=by
  unfold qZ;by_cases E:m.l.length=0
  ·by_cases j:m.n=0
   ·exact .inr (.inl ⟨by simp[j],E,j⟩)
   ·by_cases G:1<=m.a
    ·by_cases F:m.a<=1125899906842624
     ·exact .inr (.inr (.inr (.inr ⟨by simp[E,j,G,F],E,j,G,F⟩)))
     ·exact .inr (.inr (.inr (.inl ⟨by simp[F],E,j,G,F⟩)))
    ·exact .inr (.inr (.inl ⟨by simp[G],E,j,by omega⟩))
  ·exact .inl ⟨by simp;intro h;rw[h]at E;exact absurd rfl E,E⟩
 clear o;generalize m.l.length=P at s⊢;rcases s with⟨q,E⟩|⟨q,rfl,j⟩|⟨q,rfl,j,G⟩|⟨q,rfl,j,G,F⟩|⟨q,rfl,j,G,F⟩
 ·have B:=U9 q
  clear q;have R:((P:Int)==0)=false:=by rw[Vz];omega
  have C:=U9 (aL m.f _ y);have z:=U9 (aL m.t _ v);have D:=U9 (jw m.d _ x);clear y v x;go_enter func201,ntmps201;go_wp2_with (go_at_call 222;(first|(with_reducible refine(C.o _).mono ?_)|(with_reducible refine(z.o _).mono ?_));rintro r K ⟨rfl,rfl⟩);have p:bF w _ [(w.heap.size,297,aR ⟨m.k,m.f,m.t,m.d,.slice A P c,m.n,m.a⟩)]:=(bF.nil w).push (t:=297) (cs:=aR ⟨m.k,m.f,m.t,m.d,.slice A P c,m.n,m.a⟩) rfl;refine(D.o _).mono ?_;rintro r N ⟨rfl,e⟩;have i:=p.call e;clear p e;obtain⟨L,-,-⟩:=i.rules;obtain⟨M,-⟩:=i.lts;go_wp2_with fail;go_ret;exact⟨by rw[B.o];rfl,i.below⟩
 ·have B:=U9 q
  clear q;have J:(m.n==0)=true:=by rw[j];rfl
  have O:(m.n !=0)=false:=by rw[j];rfl
  clear j;have C:=U9 (aL m.f _ y);have z:=U9 (aL m.t _ v);have D:=U9 (jw m.d _ x);clear y v x;go_enter func201,ntmps201;go_wp2_with (go_at_call 222;(first|(with_reducible refine(C.o _).mono ?_)|(with_reducible refine(z.o _).mono ?_));rintro r K ⟨rfl,rfl⟩);have p:bF w _ [(w.heap.size,297,aR ⟨m.k,m.f,m.t,m.d,.slice A 0 c,m.n,m.a⟩)]:=(bF.nil w).push (t:=297) (cs:=aR ⟨m.k,m.f,m.t,m.d,.slice A 0 c,m.n,m.a⟩) rfl;refine(D.o _).mono ?_;rintro r N ⟨rfl,e⟩;have i:=p.call e;clear p e;obtain⟨L,-,-⟩:=i.rules;obtain⟨M,-⟩:=i.lts;go_wp2_with fail;go_ret;exact⟨by rw[B.o];rfl,i.below⟩
 ·have B:=U9 q
  clear q;have J:(m.n==0)=false:=by rw[Vz];exact j
  have O:(m.n !=0)=true:=by rw[bne,J];rfl
  have C:=U9 (aL m.f _ y);have z:=U9 (aL m.t _ v);have D:=U9 (jw m.d _ x);clear y v x;go_enter func201,ntmps201;go_wp2_with (go_at_call 222;(first|(with_reducible refine(C.o _).mono ?_)|(with_reducible refine(z.o _).mono ?_));rintro r K ⟨rfl,rfl⟩);have p:bF w _ [(w.heap.size,297,aR ⟨m.k,m.f,m.t,m.d,.slice A 0 c,m.n,m.a⟩)]:=(bF.nil w).push (t:=297) (cs:=aR ⟨m.k,m.f,m.t,m.d,.slice A 0 c,m.n,m.a⟩) rfl;refine(D.o _).mono ?_;rintro r N ⟨rfl,e⟩;have i:=p.call e;clear p e;obtain⟨L,-,-⟩:=i.rules;obtain⟨M,-⟩:=i.lts;go_wp2_with fail;go_ret;exact⟨by rw[B.o];rfl,i.below⟩
 ·have B:=U9 q
  clear q;have J:(m.n==0)=false:=by rw[Vz];exact j
  have O:(m.n !=0)=true:=by rw[bne,J];rfl
  have S:decide (m.a<=1125899906842624)=false:=Vj F;clear F;have C:=U9 (aL m.f _ y);have z:=U9 (aL m.t _ v);have D:=U9 (jw m.d _ x);clear y v x;go_enter func201,ntmps201;go_wp2_with (go_at_call 222;(first|(with_reducible refine(C.o _).mono ?_)|(with_reducible refine(z.o _).mono ?_));rintro r K ⟨rfl,rfl⟩);have p:bF w _ [(w.heap.size,297,aR ⟨m.k,m.f,m.t,m.d,.slice A 0 c,m.n,m.a⟩)]:=(bF.nil w).push (t:=297) (cs:=aR ⟨m.k,m.f,m.t,m.d,.slice A 0 c,m.n,m.a⟩) rfl;refine(D.o _).mono ?_;rintro r N ⟨rfl,e⟩;have i:=p.call e;clear p e;obtain⟨L,-,-⟩:=i.rules;obtain⟨M,-⟩:=i.lts;go_wp2_with fail;go_ret;exact⟨by rw[B.o];rfl,i.below⟩
 ·have B:=U9 q
  clear q;have J:(m.n==0)=false:=by rw[Vz];exact j
  have O:(m.n !=0)=true:=by rw[bne,J];rfl
  have C:=U9 (aL m.f _ y);have z:=U9 (aL m.t _ v);have D:=U9 (jw m.d _ x);clear y v x;go_enter func201,ntmps201;go_wp2_with (go_at_call 222;(first|(with_reducible refine(C.o _).mono ?_)|(with_reducible refine(z.o _).mono ?_));rintro r K ⟨rfl,rfl⟩);have p:bF w _ [(w.heap.size,297,aR ⟨m.k,m.f,m.t,m.d,.slice A 0 c,m.n,m.a⟩)]:=(bF.nil w).push (t:=297) (cs:=aR ⟨m.k,m.f,m.t,m.d,.slice A 0 c,m.n,m.a⟩) rfl;refine(D.o _).mono ?_;rintro r N ⟨rfl,e⟩;have i:=p.call e;clear p e;obtain⟨L,-,-⟩:=i.rules;obtain⟨M,-⟩:=i.lts;go_wp2_with fail;go_ret;exact⟨by rw[B.o];rfl,i.below⟩
theorem Ad(m:Ms)(o:m.ok)(P:ig m=true)(k1:(m.k==1)=true)(k2:(m.k==2)=false)(k3:(m.k !=1)=false)(A:Option Addr)(c:Nat)(w:Yu)(Y:fC w w.heap.size A m.l)(R:m.l.length<=c)(hm:c<=maxLen):Yt 201 #[.agg (aR ⟨m.k,m.f,m.t,m.d,.slice A m.l.length c,m.n,m.a⟩)] w λr w'=>r=.returned (.bool (kK m))/\Ys w w':=by
 have Q:cB m.f=true/\cB m.t=true/\(m.f==m.t)=false/\fV m.d=true:=by
  unfold ig at P;simp only[Vo,VC]at P;exact⟨P.1.1.1,P.1.1.2,by rw[Vz];exact P.1.2,P.2⟩
 obtain⟨E,C,h3,D⟩:=Q;clear P;have N:(kK m=false/\m.l.all aX=false)\/(kK m=false/\m.l.all aX=true/\16<m.l.length)\/(kK m=false/\m.l.all aX=true/\m.l.length<=16/\m.n≠0)\/(kK m=false/\m.l.all aX=true/\m.l.length<=16/\m.n=0/\m.a≠0)\/(kK m=true/\m.l.all aX=true/\m.l.length<=16/\m.n=0/\m.a=0):=by
  unfold kK;cases s:m.l.all aX
  ·exact .inl ⟨rfl,rfl⟩
  ·by_cases M:m.l.length<=16
   ·by_cases z:m.n=0
    ·by_cases F:m.a=0
     ·exact .inr (.inr (.inr (.inr ⟨by simp[M,z,F],rfl,M,z,F⟩)))
     ·exact .inr (.inr (.inr (.inl ⟨by simp[F],rfl,M,z,F⟩)))
    ·exact .inr (.inr (.inl ⟨by simp[z],rfl,M,z⟩))
   ·exact .inr (.inl ⟨by simp[M],rfl,by omega⟩)
 have G:=U9 λ(b:Bool) (h:m.l.all aX=b) (W:Yu) (hW:Ys w W)=>vM A c m.l b h W (Y.next hW) R hm o.l
 clear o Y;have α:c<=9223372036854775807:=hm;rcases N with⟨B,s⟩|⟨B,s,M⟩|⟨B,s,M,z⟩|⟨B,s,M,z,F⟩|⟨B,s,M,z,F⟩
 ·have J:=U9 B
  clear B;have I:=U9 (G.o _ s);clear G s;have U:=R;generalize m.l.length=p at*;have K:=U9 (aL m.f _ E);have H:=U9 (aL m.t _ C);have L:=U9 (jw m.d _ D);clear E C D;go_enter func201,ntmps201;go_wp2_with (go_at_call 222;(first|(with_reducible refine(K.o _).mono ?_)|(with_reducible refine(H.o _).mono ?_));rintro r S ⟨rfl,rfl⟩);have y:bF w _ [(w.heap.size,297,aR ⟨m.k,m.f,m.t,m.d,.slice A p c,m.n,m.a⟩)]:=(bF.nil w).push (t:=297) (cs:=aR ⟨m.k,m.f,m.t,m.d,.slice A p c,m.n,m.a⟩) rfl;refine(L.o _).mono ?_;rintro r V ⟨rfl,i⟩;have e:=y.call i;clear y i;obtain⟨v,-,-⟩:=e.rules;obtain⟨x,-⟩:=e.lts;go_wp2_with fail;refine(I.o _ e.below).mono ?_;rintro r T ⟨rfl,j⟩;have q:=e.call j;clear e j v x;obtain⟨v,-,-⟩:=q.rules;obtain⟨x,-⟩:=q.lts;go_wp2_with fail;go_ret;exact⟨by rw[J.o];rfl,q.below⟩
 ·have J:=U9 B
  clear B;have I:=U9 (G.o _ s);clear G s;have U:=R;generalize m.l.length=p at*;have O:¬(p:Int)<=16:=by omega
  have X:decide ((p:Int)<=16)=false:=Vj O;have K:=U9 (aL m.f _ E);have H:=U9 (aL m.t _ C);have L:=U9 (jw m.d _ D);clear E C D;go_enter func201,ntmps201;go_wp2_with (go_at_call 222;(first|(with_reducible refine(K.o _).mono ?_)|(with_reducible refine(H.o _).mono ?_));rintro r S ⟨rfl,rfl⟩);have y:bF w _ [(w.heap.size,297,aR ⟨m.k,m.f,m.t,m.d,.slice A p c,m.n,m.a⟩)]:=(bF.nil w).push (t:=297) (cs:=aR ⟨m.k,m.f,m.t,m.d,.slice A p c,m.n,m.a⟩) rfl;refine(L.o _).mono ?_;rintro r V ⟨rfl,i⟩;have e:=y.call i;clear y i;obtain⟨v,-,-⟩:=e.rules;obtain⟨x,-⟩:=e.lts;go_wp2_with fail;refine(I.o _ e.below).mono ?_;rintro r T ⟨rfl,j⟩;have q:=e.call j;clear e j v x;obtain⟨v,-,-⟩:=q.rules;obtain⟨x,-⟩:=q.lts;go_wp2_with fail;go_ret;exact⟨by rw[J.o];rfl,q.below⟩
 ·have J:=U9 B
  clear B;have I:=U9 (G.o _ s);clear G s;have U:=R;generalize m.l.length=p at*;have Z:(m.n==0)=false:=by rw[Vz];exact z
  clear z;have O:(p:Int)<=16:=by omega
  have X:decide ((p:Int)<=16)=true:=Vg O;have K:=U9 (aL m.f _ E);have H:=U9 (aL m.t _ C);have L:=U9 (jw m.d _ D);clear E C D;go_enter func201,ntmps201;go_wp2_with (go_at_call 222;(first|(with_reducible refine(K.o _).mono ?_)|(with_reducible refine(H.o _).mono ?_));rintro r S ⟨rfl,rfl⟩);have y:bF w _ [(w.heap.size,297,aR ⟨m.k,m.f,m.t,m.d,.slice A p c,m.n,m.a⟩)]:=(bF.nil w).push (t:=297) (cs:=aR ⟨m.k,m.f,m.t,m.d,.slice A p c,m.n,m.a⟩) rfl;refine(L.o _).mono ?_;rintro r V ⟨rfl,i⟩;have e:=y.call i;clear y i;obtain⟨v,-,-⟩:=e.rules;obtain⟨x,-⟩:=e.lts;go_wp2_with fail;refine(I.o _ e.below).mono ?_;rintro r T ⟨rfl,j⟩;have q:=e.call j;clear e j v x;obtain⟨v,-,-⟩:=q.rules;obtain⟨x,-⟩:=q.lts;go_wp2_with fail;go_ret;exact⟨by rw[J.o];rfl,q.below⟩
 ·have J:=U9 B
  clear B;have I:=U9 (G.o _ s);clear G s;have U:=R;generalize m.l.length=p at*;have Z:(m.n==0)=true:=by rw[z];rfl
  have a7:(m.a==0)=false:=by rw[Vz];exact F
  clear z F;have O:(p:Int)<=16:=by omega
  have X:decide ((p:Int)<=16)=true:=Vg O;have K:=U9 (aL m.f _ E);have H:=U9 (aL m.t _ C);have L:=U9 (jw m.d _ D);clear E C D;go_enter func201,ntmps201;go_wp2_with (go_at_call 222;(first|(with_reducible refine(K.o _).mono ?_)|(with_reducible refine(H.o _).mono ?_));rintro r S ⟨rfl,rfl⟩);have y:bF w _ [(w.heap.size,297,aR ⟨m.k,m.f,m.t,m.d,.slice A p c,m.n,m.a⟩)]:=(bF.nil w).push (t:=297) (cs:=aR ⟨m.k,m.f,m.t,m.d,.slice A p c,m.n,m.a⟩) rfl;refine(L.o _).mono ?_;rintro r V ⟨rfl,i⟩;have e:=y.call i;clear y i;obtain⟨v,-,-⟩:=e.rules;obtain⟨x,-⟩:=e.lts;go_wp2_with fail;refine(I.o _ e.below).mono ?_;rintro r T ⟨rfl,j⟩;have q:=e.call j;clear e j v x;obtain⟨v,-,-⟩:=q.rules;obtain⟨x,-⟩:=q.lts;go_wp2_with fail;go_ret;exact⟨by rw[J.o];rfl,q.below⟩
 ·have J:=U9 B
  clear B;have I:=U9 (G.o _ s);clear G s;have U:=R;generalize m.l.length=p at*;have Z:(m.n==0)=true:=by rw[z];rfl
  have a7:(m.a==0)=true:=by rw[F];rfl
  clear z F;have O:(p:Int)<=16:=by omega
  have X:decide ((p:Int)<=16)=true:=Vg O;have K:=U9 (aL m.f _ E);have H:=U9 (aL m.t _ C);have L:=U9 (jw m.d _ D);clear E C D;go_enter func201,ntmps201;go_wp2_with (go_at_call 222;(first|(with_reducible refine(K.o _).mono ?_)|(with_reducible refine(H.o _).mono ?_));rintro r S ⟨rfl,rfl⟩);have y:bF w _ [(w.heap.size,297,aR ⟨m.k,m.f,m.t,m.d,.slice A p c,m.n,m.a⟩)]:=(bF.nil w).push (t:=297) (cs:=aR ⟨m.k,m.f,m.t,m.d,.slice A p c,m.n,m.a⟩) rfl;refine(L.o _).mono ?_;rintro r V ⟨rfl,i⟩;have e:=y.call i;clear y i;obtain⟨v,-,-⟩:=e.rules;obtain⟨x,-⟩:=e.lts;go_wp2_with fail;refine(I.o _ e.below).mono ?_;rintro r T ⟨rfl,j⟩;have q:=e.call j;clear e j v x;obtain⟨v,-,-⟩:=q.rules;obtain⟨x,-⟩:=q.lts;go_wp2_with fail;go_ret;exact⟨by rw[J.o];rfl,q.below⟩
theorem RJ(m:Ms)(o:m.ok)(A:Option Addr)(c:Nat)(w:Yu)(p:fC w w.heap.size A m.l)(q:m.l.length<=c)(j:c<=maxLen):Yt 201 #[.agg (aR ⟨m.k,m.f,m.t,m.d,.slice A m.l.length c,m.n,m.a⟩)] w λr w'=>r=.returned (.bool (ee m))/\Ys w w':=by
 cases e:ig m with
 |false=>rw[xc e];exact Af m e A c w
 |true=>
  by_cases h:m.k=1
  ·rw[w8 e h]
   exact Ad m o e (by rw[h];rfl) (by rw[h];rfl) (by rw[h];rfl) A c w p q j
  ·by_cases i:m.k=2
   ·rw[Ag e i]
    exact CQ m o e (by rw[i];rfl) (by rw[i];rfl) A c w
   ·rw[w9 h i]
    exact Ae m e (by rw[Vz];exact h) (by rw[Vz];exact i) A c w
theorem uE(m:Ms)(o:m.ok)(b:Bool)(h:ee m=b)(A:Option Addr)(c:Nat)(w:Yu)(i:fC w w.heap.size A m.l)(j:m.l.length<=c)(e:c<=maxLen):Yt 201 #[.agg (aR ⟨m.k,m.f,m.t,m.d,.slice A m.l.length c,m.n,m.a⟩)] w λr w'=>r=.returned (.bool b)/\Ys w w':=by
 subst h;exact RJ m o A c w i j e
def Fj(w0:Yu)(g:Nat)(bs:List (Nat×Yw×Array Yv))(base:Nat)(l:List Int)(e:Ending)(w':Yu):Prop:=
 ∃u,e=.returned (.tuple #[])/\bF w0 w' ((g,121,#[u])::bs)/\w'.ownsRow base 5 1 u l.length (aU l)/\base<=w'.heap.size
section
variable{w0 w:Yu}{g:Nat}{u:Yv}{l:List Int}{bs:List (Nat×Yw×Array Yv)}{base:Nat}
theorem vH(n:Int)(T:bF w0 w ((g,121,#[u])::bs))(y:w0.heap.size<=g)(C:mS g bs)(d:w.ownsRow base 5 1 u l.length (aU l))(B:g<base)(j:base<=w.heap.size)(H:l.length<=10000000)(x:0<=n)(z:n<=18446744073709551615):
  Yt 235 #[.int .u64 n,.int .i64 8,Yr g] w (Fj w0 g bs base (l++cL n)):=by
 obtain⟨A,c,rfl,D,h,s⟩:=aF d;have r:=U9 (Oq A c l w.heap.size n w (py s) (Vc _) D h (by omega) x z);generalize h:l++dc n 8=m at r;have t:=U9 h;clear d s h;obtain⟨k,q,-⟩:=T.rules;have G:=T.lt;go_enter func235,ntmps235;go_wp2_with fail;refine r.o.mono ?_;rintro e E ⟨v,rfl,a,f⟩;obtain⟨F,c1,rfl,-⟩:=aF a;have i:=T.call f;clear k q;obtain⟨k,q,-⟩:=i.rules;have I:=i.lt;go_wp2_with fail
 go_end0
 rw[<-KK,t.o];refine⟨_,rfl,i.set_ y C 0 _,db (me (p:=⟨g,0,none⟩) a (by show g<_;omega) _) j,?_⟩;have:=f.size;simp;omega
theorem Er(n:Int)(T:bF w0 w ((g,121,#[u])::bs))(x:w0.heap.size<=g)(B:mS g bs)(d:w.ownsRow base 5 1 u l.length (aU l))(z:g<base)(j:base<=w.heap.size)(H:l.length<=10000000)(r:0<=n)(y:n<=255):
  Yt 235 #[.int .u64 n,.int .i64 1,Yr g] w (Fj w0 g bs base (l++[n])):=by
 obtain⟨A,c,rfl,C,h,t⟩:=aF d;have k:=U9 (Ou A c l w.heap.size n w (py t) (Vc _) C h (by omega) r y);rw[KL n r (by omega)]at k;generalize h:l++[n]=m at k;have E:=U9 h;clear d t h;obtain⟨q,s,-⟩:=T.rules;have G:=T.lt;go_enter func235,ntmps235;go_wp2_with fail;refine k.o.mono ?_;rintro e D ⟨v,rfl,a,f⟩;obtain⟨F,c1,rfl,-⟩:=aF a;have i:=T.call f;clear q s;obtain⟨q,s,-⟩:=i.rules;have I:=i.lt;go_wp2_with fail
 go_end0
 refine⟨_,rfl,i.set_ x B 0 _,db (me (p:=⟨g,0,none⟩) a (by show g<_;omega) _) j,?_⟩;have:=f.size;simp;omega
end
theorem Hg(e:Ev)(a:e.ok)(h:aX e=false)(w:Yu):Yt 216 #[.agg (ao e)] w (lS (lq e) w):=by
 have c:=U9 (ii e a false h);rw[yz h];clear h;go_enter func216,ntmps216;go_wp2_with (go_at_call 72;(with_reducible refine(c.o _).mono ?_);rintro e f ⟨rfl,d⟩);go_ret;exact⟨_,rfl,WT _ _ _ _,((Vd _ _).alloc (Vc _) _).trans (d.mono (by simp))⟩
theorem Ep(e:Ev)(Y:e.ok)(h:aX e=true)(w:Yu):Yt 216 #[.agg (ao e)] w (lS (lq e) w):=by
 have C1:=U9 (ii e Y true h);rw[ur h];have hm:=ji h;obtain⟨o1,o2,s1,s2,k1,k2,t1,t2,a1,a2⟩:=hm;have C2:=U9 (JU e.d Y.d);have n1:=Y.n;have r1:=Y.r;have f1:=Y.f;clear h Y;go_enter func216,ntmps216;go_upto_region 5 with(go_at_call 72;(with_reducible refine(C1.o _).mono ?_);rintro e' I ⟨rfl,E⟩;have T0:=((bF.nil w).push (t:=53) (cs:=ao e) rfl).call E;clear E);have T:=T0.push (t:=121) (cs:=#[.slice none 0 0]) rfl;have v:mS I.heap.size [(w.heap.size,53,ao e)]:=⟨by have:=T0.lt;omega,trivial⟩;have x:w.heap.size<=I.heap.size:=T0.below.size;have j:I.heap.size+1<=(I.alloc (.cells #[.slice none 0 0] 121)).heap.size:=by simp
 have i:(I.alloc (.cells #[.slice none 0 0] 121)).ownsRow (I.heap.size+1) 5 1 (.slice none 0 0) ([]:List Int).length (aU []):=WT _ _ _ _;generalize (I.alloc (.cells #[.slice none 0 0] 121))=J at T j i⊢;generalize I.heap.size=g3 at T v x j i⊢;clear T0;obtain⟨y,B,C,q,-⟩:=T.rules;obtain⟨m0,G⟩:∃m:List Int,m=[]:=⟨_,rfl⟩;rw[<-G]at i;have π:m0.length<=0:=by rw[G];exact Vc _
 have η:=U9 G;clear G;go_wp2_with fail;refine(Er e.o T x v i (Wt _) j (by omega) (by omega) (by omega)).mono ?_;clear T i y C B q j;rintro r J ⟨u,rfl,T,i,j⟩;obtain⟨y,B,C,q,-⟩:=T.rules;generalize V:m0++[e.o]=m1 at i;have τ:m1.length<=1:=by rw[<-V,Vl];have:([e.o]).length=1:=rfl;omega
 have ξ:=U9 V;clear V;go_wp2_with fail;refine(vH e.s T x v i (Wt _) j (by omega) (by omega) (by omega)).mono ?_;clear T i y C B q j;rintro r J ⟨u,rfl,T,i,j⟩;obtain⟨y,B,C,q,-⟩:=T.rules;generalize P:m1++cL e.s=m2 at i;have φ:m2.length<=9:=by rw[<-P,Vl];have:(cL e.s).length=8:=rfl;omega
 have ι:=U9 P;clear P;obtain⟨A,c,rfl,-⟩:=aF i;go_wp2_with fail;refine ev 4 [.is (.slice A m2.length c),.is (.pointer (some ⟨w.heap.size,2,none⟩)),.is (.agg (aq e.d)),.bytes (g8 e.d)] (by kernel_rfl) (by simp) (by kernel_rfl) (by kernel_rfl) (by kernel_rfl) (by kernel_rfl) ?_;simp only[U4,U5,U6,U7];refine jk rfl _ rfl (λW E=>?_) ?_
 ·obtain⟨x0,-,x1,-,-⟩:=(T.call E).rules
  obtain⟨y0,Z,-⟩:=(T.call E).lts;simp[execOp,go_sem,x0,x1,y0,Z]
 refine jk rfl _ rfl (λW E=>?_) ?_
 ·simp[execOp,go_sem]
 refine jk rfl _ rfl (λW E=>?_) ?_
 ·obtain⟨x0,-,x1,-,-⟩:=(T.call E).rules
  obtain⟨y0,Z,-⟩:=(T.call E).lts;simp[execOp,go_sem,x0,x1,y0,Z]
 refine uO rfl 236 #[.agg (aq e.d)] _ _ rfl ?_ (λw _=>AK (C2.o w)) ?_
 ·intro W;simp[go_sem]<;>rfl
 intro z w5 H hF;obtain⟨A5,c5,rfl,Γ,F,S⟩:fU (g8 e.d) z w5:=hF 3 z (Vs ⟨rfl,rfl⟩);have T5:=T.call H;have D:=dE i H;have α:=H.size;clear hF T i y C B q H;have κ:(g8 e.d).length<=48:=Vc _;obtain⟨M,hM⟩:∃M,M=g8 e.d:=⟨_,rfl⟩;rw[<-hM]at κ S;have K:(g8 e.d).length=M.length:=by rw[hM]
 refine dW _ rfl (.tmp 18) (.tmp 21) rfl (g3+1) _ m2 M rfl D A5 c5 _ ?_ S (by omega) (by omega) ?_
 ·rw[<-K];rfl
 intro v' w6 i R;obtain⟨A,c,rfl,-⟩:=aF i;have T:=T5.callB R (by omega) ⟨Wt _,by omega,trivial⟩;clear D T5 S K;have j:g3+1<=w6.heap.size:=Vi (Vi j α) R.size;obtain⟨y,B,C,q,-⟩:=T.rules;obtain⟨y0,Z,-⟩:=T.lts;generalize U:m2++M=m3 at i T;have υ:m3.length<=57:=by rw[<-U,Vl];omega
 have μ:=U9 U;have γ:=U9 hM;clear U hM;have i:=me (p:=⟨g3,0,none⟩) i (Wt _) (.slice A m3.length c);have T:=T.set_ x v 0 (.slice A m3.length c);go_wp2_with fail;have j:g3+1<=(w6.setCell ⟨g3,0,none⟩ (.slice A m3.length c)).heap.size:=by simp;exact j
 generalize w6.setCell ⟨g3,0,none⟩ (.slice A m3.length c)=w7 at T i j⊢;clear y B C q R α;obtain⟨y,B,C,q,-⟩:=T.rules;clear y0 Z;refine(Er e.k T x v i (Wt _) j (by omega) (by omega) (by omega)).mono ?_;clear T i y C B q j;rintro r J ⟨u,rfl,T,i,j⟩;obtain⟨y,B,C,q,-⟩:=T.rules;generalize L:m3++[e.k]=m4 at i;have χ:m4.length<=58:=by rw[<-L,Vl];have:([e.k]).length=1:=rfl;omega
 have δ:=U9 L;clear L;go_wp2_with fail;refine(vH e.n T x v i (Wt _) j (by omega) n1.1 n1.2).mono ?_;clear T i y C B q j;rintro r J ⟨u,rfl,T,i,j⟩;obtain⟨y,B,C,q,-⟩:=T.rules;generalize F:m4++cL e.n=m5 at i;have Δ:m5.length<=66:=by rw[<-F,Vl];have:(cL e.n).length=8:=rfl;omega
 have β:=U9 F;clear F;go_wp2_with fail;refine(Er e.t T x v i (Wt _) j (by omega) (by omega) (by omega)).mono ?_;clear T i y C B q j;rintro r J ⟨u,rfl,T,i,j⟩;obtain⟨y,B,C,q,-⟩:=T.rules;generalize Q:m5++[e.t]=m6 at i;have ψ:m6.length<=67:=by rw[<-Q,Vl];have:([e.t]).length=1:=rfl;omega
 have ζ:=U9 Q;clear Q;go_wp2_with fail;refine(vH e.a T x v i (Wt _) j (by omega) (by omega) (by omega)).mono ?_;clear T i y C B q j;rintro r J ⟨u,rfl,T,i,j⟩;obtain⟨y,B,C,q,-⟩:=T.rules;generalize N:m6++cL e.a=m7 at i;have ω:m7.length<=75:=by rw[<-N,Vl];have:(cL e.a).length=8:=rfl;omega
 have ε:=U9 N;clear N;go_wp2_with fail;refine(vH e.r T x v i (Wt _) j (by omega) r1.1 r1.2).mono ?_;clear T i y C B q j;rintro r J ⟨u,rfl,T,i,j⟩;obtain⟨y,B,C,q,-⟩:=T.rules;generalize X:m7++cL e.r=m8 at i;have σ:m8.length<=83:=by rw[<-X,Vl];have:(cL e.r).length=8:=rfl;omega
 have θ:=U9 X;clear X;go_wp2_with fail;refine(vH e.f T x v i (Wt _) j (by omega) f1.1 f1.2).mono ?_;clear T i y C B q j;rintro r J ⟨u,rfl,T,i,j⟩;obtain⟨y,B,C,q,-⟩:=T.rules;generalize O:m8++cL e.f=m9 at i;have Θ:m9.length<=91:=by rw[<-O,Vl];have:(cL e.f).length=8:=rfl;omega
 have ν:=U9 O;clear O;obtain⟨A,c,rfl,-⟩:=aF i;go_wp2_with fail;go_ret;have hE:m9=Me e:=by
  rw[<-ν.o,<-θ.o,<-ε.o,<-ζ.o,<-β.o,<-δ.o,<-μ.o,γ.o,<-ι.o,<-ξ.o,η.o];simp[Me]
 rw[<-hE];exact⟨_,rfl,db i (by omega),T.below⟩
theorem SE(e:Ev)(a:e.ok)(w:Yu):Yt 216 #[.agg (ao e)] w (lS (lq e) w):=by
 cases h:aX e with
 |false=>exact Hg e a h w
 |true=>exact Ep e a h w
theorem SC(m:Nat)(T:bF w0 w ((g5,3,#[.int .i64 (m:Int)])::bs))(q:w0.heap.size<=g5)(t:mS g5 bs)
  (d:(g2,121,#[.slice (some ⟨b,o,none⟩) l.length cap])∈bs) (e:∀i x,l[i]? =some x->w0.cell? ⟨b,o+i,none⟩=some (.int .u8 x)) (B:b<w0.heap.size) (j:l.length<=cap) (f:cap<=maxLen) (a:∀c∈l,0<=c/\c<=255) (h:m+8<=l.length):
  Yt 69 #[.int .i64 8,Yr g2,Yr g5] w λr w'=>r=.returned (.int .u64 (bW ((l.drop m).take 8)))/\bF w0 w' ((g5,3,#[.int .i64 ((m+8:Nat):Int)])::bs):=by
 have k:=U9 (Km b o cap l m w (λi x s=>(T.below.cell (p:=⟨b,o+i,none⟩) (by show b<_;omega)).trans (e i x s)) j f a h);obtain⟨z,A,-⟩:=T.rules;have C:=T.lt;obtain⟨D,-⟩:=(T.blk _ _ _ (VA _ d)).rules;have y:=(T.blk _ _ _ (VA _ d)).lt;have n:=U9 (show((m:Int)+8)=((m+8:Nat):Int)from by omega);clear e a d;go_enter func69,ntmps69;go_wp2_with fail;refine k.o.mono ?_;rintro r v ⟨rfl,rfl⟩;go_wp2_with fail;go_ret;refine⟨rfl,?_⟩;rw[<-n.o];exact T.set_ q t 0 _
theorem SD(m:Nat)(T:bF w0 w ((g5,3,#[.int .i64 (m:Int)])::bs))(q:w0.heap.size<=g5)(t:mS g5 bs)
  (d:(g2,121,#[.slice (some ⟨b,o,none⟩) l.length cap])∈bs) (e:∀i x,l[i]? =some x->w0.cell? ⟨b,o+i,none⟩=some (.int .u8 x)) (B:b<w0.heap.size) (j:l.length<=cap) (f:cap<=maxLen) (a:∀c∈l,0<=c/\c<=255) (h:m+1<=l.length):
  Yt 69 #[.int .i64 1,Yr g2,Yr g5] w λr w'=>r=.returned (.int .u64 (bW ((l.drop m).take 1)))/\bF w0 w' ((g5,3,#[.int .i64 ((m+1:Nat):Int)])::bs):=by
 have k:=U9 (Ko b o cap l m w (λi x s=>(T.below.cell (p:=⟨b,o+i,none⟩) (by show b<_;omega)).trans (e i x s)) j f a h);obtain⟨z,A,-⟩:=T.rules;have C:=T.lt;obtain⟨D,-⟩:=(T.blk _ _ _ (VA _ d)).rules;have y:=(T.blk _ _ _ (VA _ d)).lt;have n:=U9 (show((m:Int)+1)=((m+1:Nat):Int)from by omega);clear e a d;go_enter func69,ntmps69;go_wp2_with fail;refine k.o.mono ?_;rintro r v ⟨rfl,rfl⟩;go_wp2_with fail;go_ret;refine⟨rfl,?_⟩;rw[<-n.o];exact T.set_ q t 0 _
def tG(x:Ev×Int×Int)(w:Yu)(e:Ending)(w':Yu):Prop:=e=.returned (.tuple #[.agg (ao x.1),.int .i64 x.2.1,.int .i64 x.2.2])/\Ys w w'
theorem jf{fn:Func}{s1 s2 s3:Nat}(h:fn.results=#[.cell s1 53,.cell s2 3,.tmp s3])(tmps:Array Yv)(g g2:Nat)(e:Ev)(n a:Int)(w:Yu)(k:tmps.getD s1 undef=.pointer (some ⟨g,0,none⟩))(d:tmps.getD s2 undef=.pointer (some ⟨g2,0,none⟩))(c:tmps.getD s3 undef=.int .i64 a)
  (p:ai w g 53 (ao e)) (f:ai w g2 3 #[.int .i64 n]):(results fn tmps).run prog w=.ok (.tuple #[.agg (ao e),.int .i64 n,.int .i64 a]) w:=by
 obtain⟨q,-⟩:=p.rules;obtain⟨r,-⟩:=f.rules;have j:tmps[s1]?.getD undef=.pointer (some ⟨g,0,none⟩):=by rw[<-k];simp
 have i:tmps[s2]?.getD undef=.pointer (some ⟨g2,0,none⟩):=by rw[<-d];simp
 have m:tmps[s3]?.getD undef=.int .i64 a:=by rw[<-c];simp
 simp[results,h,j,i,m,go_sem,q,r]
theorem AR(A:Option Addr)(n cap:Nat)(a:Int)(w:Yu)(i:n<=cap)(c:cap<=maxLen)(e:-9223372036854775808<=a)(f:a<=9223372036854775807)(h:a<0\/(n:Int)<a):
  Yt 51 #[.slice A n cap,.int .i64 a] w (tG (Ev.zero,0,1) w):=by
 have d:cap<=9223372036854775807:=c;rcases h with h|h
 ·go_enter func51,ntmps51
  go_wp2_with fail;refine VF (v:=.tuple #[.agg (ao Ev.zero),.int .i64 0,.int .i64 1]) (by simp[results,results51,go_sem]) rfl ⟨rfl,?_⟩
  go_grown
 ·go_enter func51,ntmps51
  go_wp2_with fail;refine VF (v:=.tuple #[.agg (ao Ev.zero),.int .i64 0,.int .i64 1]) (by simp[results,results51,go_sem]) rfl ⟨rfl,?_⟩
  go_grown
theorem vD(A:Option Addr)(n cap m:Nat)(w:Yu)(e:n<=cap)(c:cap<=maxLen)(d:m<=n)(h:n<m+91):
  Yt 51 #[.slice A n cap,.int .i64 m] w (tG (Ev.zero,0,5) w):=by
 have a:cap<=9223372036854775807:=c;go_enter func51,ntmps51;go_wp2_with fail;refine VF (v:=.tuple #[.agg (ao Ev.zero),.int .i64 0,.int .i64 5]) (by simp[results,results51,go_sem]) rfl ⟨rfl,?_⟩
 go_grown
theorem vC{a:Nat}{f:Yw}{cs:Array Yv}(m:Nat)(T:bF w0 w [(a,f,cs),(g5,3,#[.int .i64 (m:Int)]),(g2,121,#[.slice (some ⟨b,o,none⟩) l.length cap])])(v:w0.heap.size<=g5)(p:a≠g5)(n:g2≠g5)
  (t:∀i x,l[i]? =some x->w0.cell? ⟨b,o+i,none⟩=some (.int .u8 x)) (s:b<w0.heap.size) (z:l.length<=cap) (k:cap<=maxLen) (d:∀c∈l,0<=c/\c<=255) (e:Nat) (x:Int) (j:e=m+8) (y:x=bW ((l.drop m).take 8)) (h:e<=l.length):
  Yt 69 #[.int .i64 8,Yr g2,Yr g5] w λr w'=>r=.returned (.int .u64 x)/\bF w0 w' [(a,f,cs),(g5,3,#[.int .i64 (e:Int)]),(g2,121,#[.slice (some ⟨b,o,none⟩) l.length cap])]:=by
 subst j y;refine(SC m (T.perm (cs:=[(g5,3,#[.int .i64 (m:Int)]),(a,f,cs),(g2,121,#[.slice (some ⟨b,o,none⟩) l.length cap])]) (by simp)) v ⟨p,n,trivial⟩ (by simp) t s z k d (by omega)).mono ?_;rintro r w' ⟨rfl,q⟩;exact⟨rfl,q.perm (by simp)⟩
theorem Ej{a:Nat}{f:Yw}{cs:Array Yv}(m:Nat)(T:bF w0 w [(a,f,cs),(g5,3,#[.int .i64 (m:Int)]),(g2,121,#[.slice (some ⟨b,o,none⟩) l.length cap])])(v:w0.heap.size<=g5)(p:a≠g5)(n:g2≠g5)
  (t:∀i x,l[i]? =some x->w0.cell? ⟨b,o+i,none⟩=some (.int .u8 x)) (s:b<w0.heap.size) (z:l.length<=cap) (k:cap<=maxLen) (d:∀c∈l,0<=c/\c<=255) (e:Nat) (x:Int) (j:e=m+1) (y:x=bW ((l.drop m).take 1)) (h:e<=l.length):
  Yt 69 #[.int .i64 1,Yr g2,Yr g5] w λr w'=>r=.returned (.int .u64 x)/\bF w0 w' [(a,f,cs),(g5,3,#[.int .i64 (e:Int)]),(g2,121,#[.slice (some ⟨b,o,none⟩) l.length cap])]:=by
 subst j y;refine(SD m (T.perm (cs:=[(g5,3,#[.int .i64 (m:Int)]),(a,f,cs),(g2,121,#[.slice (some ⟨b,o,none⟩) l.length cap])]) (by simp)) v ⟨p,n,trivial⟩ (by simp) t s z k d (by omega)).mono ?_;rintro r w' ⟨rfl,q⟩;exact⟨rfl,q.perm (by simp)⟩
theorem Ek(b o cap:Nat)(l:List Int)(m:Nat)(w:Yu)(hc:∀i x,l[i]? =some x->w.cell? ⟨b,o+i,none⟩=some (.int .u8 x))(O:b<w.heap.size)(hn:l.length<=cap)(X:cap<=maxLen)(f:∀c∈l,0<=c/\c<=255)(h:m+91<=l.length):
  Yt 51 #[.slice (some ⟨b,o,none⟩) l.length cap,.int .i64 m] w (tG (jx l m) w):=by
 have β:cap<=9223372036854775807:=X;have HC:=U9 hc;have a:=U9 f;obtain⟨E,hE⟩:∃E:Ev,E=fI l m:=⟨_,rfl⟩;obtain⟨y,hy⟩:∃y,aX E=y:=⟨_,rfl⟩;have r1:=fw l m (by omega) f;have r2:=fw l (m+57) (by omega) f;have r3:=fw l (m+66) (by omega) f;have C9:=U9 (ii E (by rw[hE];exact rE l m h f) y hy);have HD:=U9 (show y=true->fV E.d=true from λe=>xJ (by rw[hy,e]));have HR:=U9 (show jx l m=if y=true then(E,(m:Int)+91,0)else(Ev.zero,0,5)from by
  cases y
  ·rw[BI h (by rw[<-hE];exact hy)];rfl
  ·rw[zA h (by rw[<-hE];exact hy),hE];rfl)
 have HE:=U9 hE;obtain⟨l',N⟩:∃l',l'=(l.drop (m+9)).take 48:=⟨_,rfl⟩;have Z:l'.length=48:=by rw[N,VI,VS];omega
 obtain⟨P,η⟩:∃k,k=m+9:=⟨_,rfl⟩;have c8:=λW (hW:Ys w W)=>UE (some ⟨b,o+P,none⟩) (cap-P) l' w.heap.size W
  (λ_=>⟨b,o+P,rfl,O,λi x hi=>by
   have π:i<48:=by rw[<-Z];exact(Vx.1 hi).1
   rw[N,VU,Vh π,Wb,<-η]at hi;rw[VO];exact(hW.cell (p:=⟨b,_,none⟩) O).trans (hc _ x hi)⟩) hW.size (by omega) (by omega) (λc υ=>f c (by rw[N]at υ;exact Wr (Ws υ)))
 have hP:qP l'=if fV E.d=true then(E.d,0)else(av.zero,5):=by
  have:E.d=wh l':=by rw[hE,N];rfl
  unfold qP;rw[Z,this];simp
 rw[Z,hP]at c8;obtain⟨vb,ν⟩:∃v,fV E.d=v:=⟨_,rfl⟩;rw[ν]at c8;rw[ν]at HD;obtain⟨D,er,θ⟩:∃(D:av) (er:Int),(if vb=true then(E.d,(0:Int))else(av.zero,5))=(D,er):=⟨_,_,rfl⟩;rw[θ]at c8;simp only at c8;have C8:=U9 c8;have I:=U9 θ;obtain⟨m1,β⟩:∃k,k=m+1:=⟨_,rfl⟩;obtain⟨m3,α⟩:∃k,k=m+57:=⟨_,rfl⟩;obtain⟨m4,ε⟩:∃k,k=m+58:=⟨_,rfl⟩;obtain⟨m5,R⟩:∃k,k=m+66:=⟨_,rfl⟩;obtain⟨m6,ι⟩:∃k,k=m+67:=⟨_,rfl⟩;obtain⟨m7,ζ⟩:∃k,k=m+75:=⟨_,rfl⟩;obtain⟨m8,ξ⟩:∃k,k=m+83:=⟨_,rfl⟩;obtain⟨m9,σ⟩:∃k,k=m+91:=⟨_,rfl⟩;obtain⟨J,S⟩:∃x,x=bW ((l.drop m).take 1):=⟨_,rfl⟩;obtain⟨x1,γ⟩:∃x,x=bW ((l.drop m1).take 8):=⟨_,rfl⟩;obtain⟨x3,U⟩:∃x,x=bW ((l.drop m3).take 1):=⟨_,rfl⟩;obtain⟨x4,δ⟩:∃x,x=bW ((l.drop m4).take 8):=⟨_,rfl⟩;obtain⟨V,Q⟩:∃x,x=bW ((l.drop m5).take 1):=⟨_,rfl⟩;obtain⟨x6,Y⟩:∃x,x=bW ((l.drop m6).take 8):=⟨_,rfl⟩;obtain⟨x7,κ⟩:∃x,x=bW ((l.drop m7).take 8):=⟨_,rfl⟩;obtain⟨x8,μ⟩:∃x,x=bW ((l.drop m8).take 8):=⟨_,rfl⟩;have H:=U9 (show E=⟨J,x1,E.d,x3,x4,V,wrap64 x6,x7,x8⟩from by
  rw[<-IntWalk.i64_left,hE,S,γ,U,δ,Q,Y,κ,μ,β,α,ε,R,ι,ζ,ξ];rfl)
 have ω:0<=J/\J<=255:=by rw[S,r1.1];exact r1.2
 have χ:0<=x3/\x3<=255:=by rw[U,α,r2.1];exact r2.2
 have ψ:0<=V/\V<=255:=by rw[Q,R,r3.1];exact r3.2
 have Δ:0<=x1/\x1<=18446744073709551615:=by rw[γ];exact fL _ _ f _
 have Γ:0<=x6/\x6<=18446744073709551615:=by rw[Y];exact fL _ _ f _
 have hh:m9<=l.length:=by omega
 have H1:=U9 β;have H2:=U9 η;have H3:=U9 α;have H4:=U9 ε;have H5:=U9 R;have H6:=U9 ι;have H7:=U9 ζ;have H8:=U9 ξ;have H9:=U9 σ;have X0:=U9 S;have X1:=U9 γ;have X3:=U9 U;have X4:=U9 δ;have X5:=U9 Q;have X6:=U9 Y;have X7:=U9 κ;have X8:=U9 μ;have B2:P+48<=l.length:=by omega
 have φ:¬cap=P:=by omega
 clear hc f hE hy N Z c8 hP ν θ β η α ε R ι ζ ξ σ S γ U δ Q Y κ μ r1 r2 r3;go_enter func51,ntmps51;go_upto_region 8 with fail;have T:bF w _ [(w.heap.size+1,53,ao Ev.zero),(w.heap.size+1+1,3,#[.int .i64 (m:Int)]),(w.heap.size,121,#[.slice (some ⟨b,o,none⟩) l.length cap])]:=((((bF.nil w).push (t:=121) (cs:=#[.slice (some ⟨b,o,none⟩) l.length cap]) rfl).push (t:=53) (cs:=ao Ev.zero) (g:=w.heap.size+1) (by simp)).push (t:=3) (cs:=#[.int .i64 (m:Int)]) (g:=w.heap.size+1+1) (by simp)).perm (by simp);generalize ((w.alloc _).alloc _).alloc _=L at T⊢;go_wp2_with fail;refine(Ej m T (by omega) (by omega) (by omega) HC.o O hn X a.o m1 J H1.o X0.o (by have:=H1.o;omega)).mono ?_;clear T;rintro r L ⟨rfl,T⟩;go_wp2_with fail;refine(vC m1 T (by omega) (by omega) (by omega) HC.o O hn X a.o P x1 (by have:=H1.o;have:=H2.o;omega) X1.o (by omega)).mono ?_;clear T;rintro r L ⟨rfl,T⟩;obtain⟨F,q,A,B,C,n,-⟩:=T.rules;obtain⟨j,s,z,-⟩:=T.lts;go_wp2_with fail;replace T:=(T.set_ (by omega) ⟨by omega,by omega,trivial⟩ 0 (.int .i64 J)).set_ (by omega) ⟨by omega,by omega,trivial⟩ 1 (.int .u64 x1);rw[qf,qe]at T;simp only[Eb,DZ,Ef,Ed,Ec,DY,Eh,Ea,Ee]at T;generalize (L.setCell _ _).setCell _ _=w2 at T⊢;clear F q A B C n j s z;refine(C8.o _ T.below).mono ?_;rintro r w3 ⟨rfl,G⟩;replace T:=T.call G;clear G;obtain⟨F,q,A,B,C,n,-⟩:=T.rules;obtain⟨j,s,z,-⟩:=T.lts;go_wp2_with fail;replace T:=(((((T.set_ (by omega) ⟨by omega,by omega,trivial⟩ 2 (.int .u64 D.v0)).set_ (by omega) ⟨by omega,by omega,trivial⟩ 3 (.int .u64 D.v1)).set_ (by omega) ⟨by omega,by omega,trivial⟩ 4 (.int .u64 D.v2)).set_ (by omega) ⟨by omega,by omega,trivial⟩ 5 (.int .u64 D.v3)).set_ (by omega) ⟨by omega,by omega,trivial⟩ 6 (.int .u64 D.v4)).set_ (by omega) ⟨by omega,by omega,trivial⟩ 7 (.int .u64 D.v5);rw[qd,qc,qa,p9,pZ,pY]at T;simp only[ym]at T;replace T:=((T.perm (cs:=[(w.heap.size+1+1,3,#[.int .i64 (P:Int)]),(w.heap.size+1,53,ao ⟨J,x1,D,0,0,0,0,0,0⟩),(w.heap.size,121,#[.slice (some ⟨b,o,none⟩) l.length cap])]) (by simp)).set_ (by omega) ⟨by omega,by omega,trivial⟩ 0 (.int .i64 ((P:Int)+48)));rw[show((P:Int)+48)=(m3:Int)from by have:=H2.o;have:=H3.o;omega]at T;have e3:((P:Int)+48)=(m3:Int):=by have:=H2.o;have:=H3.o;omega
 rw[e3];clear e3;replace T:=T.perm (cs:=[(w.heap.size+1,53,ao ⟨J,x1,D,0,0,0,0,0,0⟩),(w.heap.size+1+1,3,#[.int .i64 (m3:Int)]),(w.heap.size,121,#[.slice (some ⟨b,o,none⟩) l.length cap])]) (by simp);generalize ((((((w3.setCell _ _).setCell _ _).setCell _ _).setCell _ _).setCell _ _).setCell _ _).setCell _ _=w2 at T⊢;clear F q A B C n j s z;refine(Ej m3 T (by omega) (by omega) (by omega) HC.o O hn X a.o m4 x3 (by have:=H3.o;have:=H4.o;omega) X3.o (by have:=H4.o;omega)).mono ?_;clear T;rintro r L ⟨rfl,T⟩;go_wp2_with fail;refine(vC m4 T (by omega) (by omega) (by omega) HC.o O hn X a.o m5 x4 (by have:=H4.o;have:=H5.o;omega) X4.o (by have:=H5.o;omega)).mono ?_;clear T;rintro r L ⟨rfl,T⟩;go_wp2_with fail;refine(Ej m5 T (by omega) (by omega) (by omega) HC.o O hn X a.o m6 V (by have:=H5.o;have:=H6.o;omega) X5.o (by have:=H6.o;omega)).mono ?_;clear T;rintro r L ⟨rfl,T⟩;obtain⟨F,q,A,B,C,n,-⟩:=T.rules;obtain⟨j,s,z,-⟩:=T.lts;go_wp2_with fail;replace T:=((T.set_ (by omega) ⟨by omega,by omega,trivial⟩ 8 (.int .u8 x3)).set_ (by omega) ⟨by omega,by omega,trivial⟩ 9 (.int .u64 x4)).set_ (by omega) ⟨by omega,by omega,trivial⟩ 10 (.int .i64 V);rw[vB,vA,rU]at T;dsimp only at T;generalize ((L.setCell _ _).setCell _ _).setCell _ _=w2 at T⊢;clear F q A B C n j s z;refine(vC m6 T (by omega) (by omega) (by omega) HC.o O hn X a.o m7 x6 (by have:=H6.o;have:=H7.o;omega) X6.o (by have:=H7.o;omega)).mono ?_;clear T;rintro r L ⟨rfl,T⟩;go_wp2_with fail;refine(vC m7 T (by omega) (by omega) (by omega) HC.o O hn X a.o m8 x7 (by have:=H7.o;have:=H8.o;omega) X7.o (by have:=H8.o;omega)).mono ?_;clear T;rintro r L ⟨rfl,T⟩;go_wp2_with fail;refine(vC m8 T (by omega) (by omega) (by omega) HC.o O hn X a.o m9 x8 (by have:=H8.o;have:=H9.o;omega) X8.o (by have:=H9.o;omega)).mono ?_;clear T;rintro r L ⟨rfl,T⟩;obtain⟨F,q,A,B,C,n,-⟩:=T.rules;obtain⟨j,s,z,-⟩:=T.lts;go_upto_region 13 with fail;replace T:=((T.set_ (by omega) ⟨by omega,by omega,trivial⟩ 11 (.int .i64 (IntKind.i64.wrap x6))).set_ (by omega) ⟨by omega,by omega,trivial⟩ 12 (.int .u64 x7)).set_ (by omega) ⟨by omega,by omega,trivial⟩ 13 (.int .u64 x8);rw[rT,rS,rR,IntWalk.i64_left]at T;dsimp only at T;generalize ((L.setCell _ _).setCell _ _).setCell _ _=w2 at T⊢;clear F q A B C n j s z;have M9:=U9 (show(m9:Int)=(m:Int)+91 from by have:=H9.o;omega);clear HC a H1 H2 H3 H4 H5 H6 H7 H8 H9 X0 X1 X3 X4 X5 X6 X7 X8 HE C8 B2 φ hh;rcases(show vb=false\/vb=true from by cases vb<;>simp)with rfl|rfl
 ·obtain⟨rfl,rfl⟩:av.zero=D/\(5:Int)=er:=by simpa using I.o
  have hy:y=false:=by
   cases y
   ·rfl
   ·have:=HD.o rfl;cases this
  subst hy;have M:=HR.o;rw[Vf (by decide)]at M;have K:=U9 M;clear M HR HD I C9 H;obtain⟨F,q,A,B,C,n,-⟩:=T.rules;obtain⟨j,s,z,-⟩:=T.lts;go_wp2_with fail;replace T:=T.setEv (by omega) ⟨by omega,by omega,trivial⟩ Ev.zero;replace T:bF w _ [(w.heap.size+1+1,3,#[.int .i64 (m9:Int)]),(w.heap.size+1,53,ao Ev.zero)]:=T.perm (by simp);replace T:=T.set_ (by omega) ⟨by omega,trivial⟩ 0 (.int .i64 0);refine VF (v:=.tuple #[.agg (ao Ev.zero),.int .i64 0,.int .i64 5]) (jf (s1:=4) (s2:=5) (s3:=6) (by kernel_rfl) _ (w.heap.size+1) (w.heap.size+1+1) Ev.zero 0 5 _ rfl rfl rfl (T.blk _ _ _ (by simp)) (T.blk _ _ _ Vp)) rfl ⟨by rw[K.o],T.below⟩
 ·obtain⟨rfl,rfl⟩:E.d=D/\(0:Int)=er:=by simpa using I.o
  have c9:=C9.o;rw[H.o]at c9;have τ:=U9 c9;rcases(show y=false\/y=true from by cases y<;>simp)with rfl|rfl
  ·have M:=HR.o
   rw[Vf (by decide)]at M;have K:=U9 M;clear M HR HD I C9 H c9;obtain⟨F,q,A,B,C,n,-⟩:=T.rules;obtain⟨j,s,z,-⟩:=T.lts;go_wp2_with fail;refine(τ.o _).mono ?_;rintro r w3 ⟨rfl,G⟩;replace T:=T.call G;clear F q A B C n j s z;obtain⟨F,q,A,B,C,n,-⟩:=T.rules;obtain⟨j,s,z,-⟩:=T.lts;go_wp2_with fail;replace T:=T.setEv (by omega) ⟨by omega,by omega,trivial⟩ Ev.zero;replace T:bF w _ [(w.heap.size+1+1,3,#[.int .i64 (m9:Int)]),(w.heap.size+1,53,ao Ev.zero)]:=T.perm (by simp);replace T:=T.set_ (by omega) ⟨by omega,trivial⟩ 0 (.int .i64 0);refine VF (v:=.tuple #[.agg (ao Ev.zero),.int .i64 0,.int .i64 5]) (jf (s1:=4) (s2:=5) (s3:=6) (by kernel_rfl) _ (w.heap.size+1) (w.heap.size+1+1) Ev.zero 0 5 _ rfl rfl rfl (T.blk _ _ _ (by simp)) (T.blk _ _ _ Vp)) rfl ⟨by rw[K.o],T.below⟩
  ·have M:=HR.o
   rw[Vh rfl,H.o,<-M9.o]at M;have K:=U9 M;clear M HR HD I C9 H c9;obtain⟨F,q,A,B,C,n,-⟩:=T.rules;obtain⟨j,s,z,-⟩:=T.lts;go_wp2_with fail;refine(τ.o _).mono ?_;rintro r w3 ⟨rfl,G⟩;replace T:=T.call G;clear F q A B C n j s z;obtain⟨F,q,A,B,C,n,-⟩:=T.rules;obtain⟨j,s,z,-⟩:=T.lts;go_wp2_with fail
   go_region
   go_wp2_with fail;replace T:=T.setEv (by omega) ⟨by omega,by omega,trivial⟩ ⟨J,x1,E.d,x3,x4,V,wrap64 x6,x7,x8⟩;replace T:bF w _ [(w.heap.size+1+1,3,#[.int .i64 (m9:Int)]),(w.heap.size+1,53,ao ⟨J,x1,E.d,x3,x4,V,wrap64 x6,x7,x8⟩)]:=T.perm (by simp);replace T:=T.set_ (by omega) ⟨by omega,trivial⟩ 0 (.int .i64 (m9:Int));replace T:=T.drew;refine VF (v:=.tuple #[.agg (ao ⟨J,x1,E.d,x3,x4,V,wrap64 x6,x7,x8⟩),.int .i64 (m9:Int),.int .i64 0]) (jf (s1:=4) (s2:=5) (s3:=6) (by kernel_rfl) _ (w.heap.size+1) (w.heap.size+1+1) ⟨J,x1,E.d,x3,x4,V,wrap64 x6,x7,x8⟩ (m9:Int) 0 _ rfl rfl rfl (T.blk _ _ _ (by simp)) (T.blk _ _ _ Vp)) rfl ⟨by rw[K.o],T.below⟩
theorem PN(A:Option Addr)(cap:Nat)(l:List Int)(B:Nat)(a:Int)(w:Yu)(q:gM w B A l)(r:B<=w.heap.size)(f:l.length<=cap)(d:cap<=maxLen)(e:∀c∈l,0<=c/\c<=255)(j:-9223372036854775808<=a)(n:a<=9223372036854775807):
  Yt 51 #[.slice A l.length cap,.int .i64 a] w (tG (jx l a) w):=by
 by_cases h:a<0\/(l.length:Int)<a
 ·rw[zB h]
  exact AR A l.length cap a w f d j n h
 ·obtain⟨m,rfl⟩:∃m:Nat,a=m:=⟨a.toNat,by omega⟩
  by_cases i:l.length<m+91
  ·rw[tW (by omega) (by omega) (by omega)]
   exact vD A l.length cap m w f d (by omega) i
  ·obtain⟨b,o,rfl,k,p⟩:=q (by rintro rfl;simp at i)
   exact Ek b o cap l m w p (by omega) f d e (by omega)
end
section
open Go.RowKit Go
def Mc.sl(x:Mc):Prop:=∃A n c,x.s=.slice A n c
def aS(L:List Mc):List Yv:=L.flatMap λx=>(aR x).toList
theorem bO(L:List Mc):(aS L).length=L.length*12:=by
 induction L with
 |nil=>rfl
 |cons v L ih=>simp only[aS,XH,Vl,VB]at ih⊢;rw[ih];simp[aR];omega
theorem xg(L:List Mc)(i:Nat)(x:Mc)(h:L[i]? =some x)(j:Nat)(d:j<12):(aS L)[i*12+j]? =(aR x)[j]?:=by
 induction L generalizing i with
 |nil=>simp at h
 |cons u L ih=>
  have a:((aR u).toList).length=12:=rfl;cases i with
  |zero=>
   simp at h;subst h;simp only[aS,XH];rw[V0 (by rw[a];omega),Xp,Vk,VK]
  |succ i=>
   have c:L[i]? =some x:=by simpa using h
   have:=ih i c;simp only[aS,XH]at this⊢;rw[VY (by rw[a];omega),a,show(i+1)*12+j-12=i*12+j from by omega];exact this
theorem fR(L M:List Mc):aS (L++M)=aS L++aS M:=by simp[aS]
theorem xe(x:Mc):aS [x]=(aR x).toList:=by simp[aS]
theorem uH(L:List Mc)(k:Nat)(c:k<=L.length):(aS L).take (k*12)=aS (L.take k):=by
 have e:aS L=aS (L.take k)++aS (L.drop k):=by rw[<-fR,Wf]
 have a:(aS (L.take k)).length=k*12:=by rw[bO,VI];congr 1;omega
 rw[e,<-a,List.take_left]
theorem jV(L:List Mc)(k:Nat)(c:k<=L.length):(aS L).drop (k*12)=aS (L.drop k):=by
 have e:aS L=aS (L.take k)++aS (L.drop k):=by rw[<-fR,Wf]
 have a:(aS (L.take k)).length=k*12:=by rw[bO,VI];congr 1;omega
 rw[e,<-a,List.drop_left]
theorem nS{L:List Mc}(d:∀x∈L,x.sl):∀u∈aS L,u.oneCell'=true:=by
 intro y a;unfold aS at a;obtain⟨x,e,a⟩:=List.mem_flatMap.1 a;obtain⟨A,n,c,h⟩:=d x e;simp only[lA,Vy,WM,WR]at a;rcases a with rfl|rfl|rfl|rfl|rfl|rfl|rfl|rfl|rfl|rfl|rfl|rfl
 all_goals first|rfl|(rw[h];rfl)
abbrev vX(w:Yu)(B:Nat)(A:Option Addr)(L:List Mc):Prop:=Rd w B 12 A L.length (aS L)
@[reducible] def Qq(w:Yu)(b o:Nat)(x:Mc):Prop:=
 w.cell? ⟨b,o,none⟩=some (.int .u8 x.k)/\w.cell? ⟨b,o+1,none⟩=some (.int .i64 x.f)/\w.cell? ⟨b,o+2,none⟩=some (.int .i64 x.t)/\w.cell? ⟨b,o+3,none⟩=some (.int .u64 x.d.v0)/\w.cell? ⟨b,o+4,none⟩=some (.int .u64 x.d.v1)/\w.cell? ⟨b,o+5,none⟩=some (.int .u64 x.d.v2)/\w.cell? ⟨b,o+6,none⟩=some (.int .u64 x.d.v3)/\w.cell? ⟨b,o+7,none⟩=some (.int .u64 x.d.v4)/\w.cell? ⟨b,o+8,none⟩=some (.int .u64 x.d.v5)/\w.cell? ⟨b,o+9,none⟩=some x.s/\w.cell? ⟨b,o+10,none⟩=some (.int .u64 x.n)/\w.cell? ⟨b,o+11,none⟩=some (.int .i64 x.a)
theorem Gv{x:Mc}(h:∀j,j<12->w.cell? ⟨b,o+j,none⟩=(aR x)[j]?):Qq w b o x:=
 ⟨h 0 (by omega),h 1 (by omega),h 2 (by omega),h 3 (by omega),h 4 (by omega),h 5 (by omega),h 6 (by omega),h 7 (by omega),h 8 (by omega),h 9 (by omega),h 10 (by omega),h 11 (by omega)⟩
theorem vX.at_{B:Nat}{A:Option Addr}{L:List Mc}(h:vX w B A L){i:Nat}{x:Mc}(d:L[i]? =some x):∃b o,A=some ⟨b,o,none⟩/\b<B/\Qq w b (o+i*12) x:=by
 have e:i<L.length:=(Vx.1 d).1;obtain⟨b,o,n,k,m⟩:=h.2 (by omega);refine⟨b,o,n,k,Gv λj a=>?_⟩;have c:=xg L i x d j a;obtain⟨v,f⟩:∃v,(aR x)[j]? =some v:=⟨(aR x)[j]'(by rw[pK];exact a),VV _⟩;rw[f]at c⊢;rw[VO];exact m _ _ c
theorem sZ:(prog.info? 297).map (λi=>(i.zero,i.size,i.bytes))=some (some (.agg #[.int .u8 0,.int .i64 0,.int .i64 0,.int .u64 0,.int .u64 0,.int .u64 0,.int .u64 0,.int .u64 0,.int .u64 0,.slice none 0 0,.int .u64 0,.int .i64 0]),12,112):=by kernel_rfl
end
section
open Go.RowKit
def dP(s:Yv)(C:Nat->Bool):Array Yv:=#[s,.bool (C 0),.bool (C 1),.bool (C 2),.bool (C 3),.bool (C 4),.bool (C 5),.bool (C 6),.bool (C 7),.bool (C 8),.bool (C 9),.bool (C 10),.bool (C 11),.bool (C 12),.bool (C 13),.bool (C 14),.bool (C 15),.bool (C 16),.bool (C 17),.bool (C 18),.bool (C 19),.bool (C 20),.bool (C 21),.bool (C 22),.bool (C 23),.bool (C 24),.bool (C 25),.bool (C 26),.bool (C 27),.bool (C 28),.bool (C 29),.bool (C 30),.bool (C 31),.bool (C 32),.bool (C 33),.bool (C 34),.bool (C 35)]
theorem jP(s:Yv)(C:Nat->Bool)(i:Nat)(h:i<36):(dP s C)[1+i]? =some (.bool (C i)):=by
 match i,h with
 |0,_=>rfl
 |1,_=>rfl
 |2,_=>rfl
 |3,_=>rfl
 |4,_=>rfl
 |5,_=>rfl
 |6,_=>rfl
 |7,_=>rfl
 |8,_=>rfl
 |9,_=>rfl
 |10,_=>rfl
 |11,_=>rfl
 |12,_=>rfl
 |13,_=>rfl
 |14,_=>rfl
 |15,_=>rfl
 |16,_=>rfl
 |17,_=>rfl
 |18,_=>rfl
 |19,_=>rfl
 |20,_=>rfl
 |21,_=>rfl
 |22,_=>rfl
 |23,_=>rfl
 |24,_=>rfl
 |25,_=>rfl
 |26,_=>rfl
 |27,_=>rfl
 |28,_=>rfl
 |29,_=>rfl
 |30,_=>rfl
 |31,_=>rfl
 |32,_=>rfl
 |33,_=>rfl
 |34,_=>rfl
 |35,_=>rfl
 |n+36,h=>exact absurd h (by omega)
theorem zZ(s u:Yv)(C:Nat->Bool):(dP s C).setIfInBounds 0 u=dP u C:=rfl
def ny(C:Nat->Bool)(i:Nat)(b:Bool):Nat->Bool:=λj=>if j=i then b else C j
theorem uB(s:Yv)(C:Nat->Bool)(i:Nat)(h:i<36)(b:Bool):(dP s C).setIfInBounds (1+i) (.bool b)=dP s (ny C i b):=by
 match i,h with
 |0,_=>rfl
 |1,_=>rfl
 |2,_=>rfl
 |3,_=>rfl
 |4,_=>rfl
 |5,_=>rfl
 |6,_=>rfl
 |7,_=>rfl
 |8,_=>rfl
 |9,_=>rfl
 |10,_=>rfl
 |11,_=>rfl
 |12,_=>rfl
 |13,_=>rfl
 |14,_=>rfl
 |15,_=>rfl
 |16,_=>rfl
 |17,_=>rfl
 |18,_=>rfl
 |19,_=>rfl
 |20,_=>rfl
 |21,_=>rfl
 |22,_=>rfl
 |23,_=>rfl
 |24,_=>rfl
 |25,_=>rfl
 |26,_=>rfl
 |27,_=>rfl
 |28,_=>rfl
 |29,_=>rfl
 |30,_=>rfl
 |31,_=>rfl
 |32,_=>rfl
 |33,_=>rfl
 |34,_=>rfl
 |35,_=>rfl
 |n+36,h=>exact absurd h (by omega)
end
