import Derived.Test.YtemcfhlbmhbjeaaGreatDoorZ06
import Derived.Deep.DrawnRows
set_option maxRecDepth 100000
set_option maxHeartbeats 0
set_option linter.all false
namespace Go.Proofs.YtemcfhlbmhbjeaaGreatDoor
open Go.Proofs.Tryz
variable{x:Int}{f:Nat->Int}{T:List (Int×Int)}{k:Nat}
open Go Go.RowKit
def iG{α β:Type}[DecidableEq α](L:List (α×β))(a b:α)(v:β):lk ((a,v)::L) b=if a=b then some v else lk L b:=by unfold lk;rw[List.find?_cons];by_cases h:a=b<;>simp[h]
def og{α β:Type}[DecidableEq α]{L:List (α×β)}{a:α}:(lk L a).isSome=true↔a∈L.map (·.1):=by
 constructor;intro h;obtain⟨v,b⟩:=n8.1 h;exact dY.2 ⟨_,dX b,O⟩;intro h;obtain⟨x,d,e⟩:=dY.1 h;cases c:lk L a with
 |some v=>rfl
 |none=>exact absurd e (zw c x d)
def jA:List (Int×Int)->Prop
 |[]=>True
 |(a,p)::r=>a≠0/\lk r a=none/\(p=0\/(lk r p).isSome=true)/\jA r
def aL:List (Int×Int)->Int->List Int
 |[],_=>[]
 |(a,p)::r,x=>if a=x then a::aL r p else aL r x
def jA.zero:∀{T:List (Int×Int)},jA T->lk T 0=none
 |[],_=>rfl
 |(a,p)::r,h=>by rw[iG,al h.1];exact jA.zero h.2.2.2
def yP:∀{T:List (Int×Int)} {x:Int},lk T x=none->aL T x=[]
 |[],_,_=>rfl
 |(a,p)::r,x,h=>by
  rw[iG]at h;unfold aL;by_cases e:a=x
  ·rw[av e]at h;cases h
  rw[al e]at h⊢;exact yP h
def qk:∀{T:List (Int×Int)} {x p:Int},jA T->lk T x=some p->aL T x=x::aL T p
 |[],_,_,_,h=>aK h
 |(a,aeT)::r,x,p,hw,h=>by
  obtain⟨j,i,g,l⟩:=hw;rw[iG]at h;have skip:∀y:Int,y=0\/(lk r y).isSome=true->aL ((a,aeT)::r) y=aL r y:=λy hy=>by
   have d:a≠y:=by rintro rfl;rcases hy with rfl|hy;exact j rfl;rw[i]at hy;cases hy
   conv=>lhs;unfold aL
   rw[al d]
  by_cases e:a=x
  ·rw[av e]at h;obtain rfl:=eZ h;subst e;rw[skip aeT g]
   conv=>lhs;unfold aL
   rw[av rfl]
  rw[al e]at h;have n:p=0\/(lk r p).isSome=true:=by
   clear skip g i j e
   induction r with
   |nil=>cases h
   |cons c r ih=>
    obtain⟨b,s⟩:=c;obtain⟨v,u,o,t⟩:=l;rw[iG]at h;have m:∀y:Int,y=0\/(lk r y).isSome=true->y=0\/(lk ((b,s)::r) y).isSome=true:=λy hy=>by rcases hy with hy|hy;exact .inl hy;right;rw[iG];split;rfl;exact hy
    split at h
    obtain rfl:=eZ h;exact m _ o;exact m _ (ih h t)
  rw[skip p n]
  conv=>lhs;unfold aL
  rw[al e];exact qk l h
def sT:∀(T:List (Int×Int)) (x:Int),(aL T x).length<=T.length
 |[],_=>ao _
 |(a,p)::r,x=>by unfold aL;split;have:=sT r p;simp;omega;have:=sT r x;simp;omega
def qn:∀{T:List (Int×Int)} {x y:Int},y∈aL T x->(lk T y).isSome=true
 |[],_,_,h=>aK h
 |(a,p)::r,x,y,h=>by
  unfold aL at h;rw[iG];split at h
  ·rcases dh.1 h with rfl|h;rw[av rfl];rfl;split;rfl;exact qn h
  split
  rfl;exact qn h
def jK(T:List (Int×Int))(x p:Int):Int:=
 if x=0 then 1 else if(lk T x).isSome then 14 else if p≠0/\(lk T p).isSome=false then 9 else if 32<=T.length\/4<=(aL T p).length then 6 else 0
def jM(T:List (Int×Int))(x p:Int):List (Int×Int):=if jK T x p=0 then(x,p)::T else T
def qo{p:Int}(h:jK T x p=0):x≠0/\lk T x=none/\(p=0\/(lk T p).isSome=true)/\T.length<32:=by
 unfold jK at h;split at h
 ·cases h
 split at h
 ·cases h
 split at h
 ·cases h
 split at h
 ·cases h
 rename_i c b d g;refine⟨c,az b,?_,V⟩;by_cases a:p=0;exact .inl a;right;cases e:(lk T p).isSome with
 |true=>rfl
 |false=>exact absurd ⟨a,e⟩ d
structure jg(T:List (Int×Int)):Prop where
 wf:jA T
 le:T.length<=32
 rg:∀x∈T,(0<=x.1/\x.1<=18446744073709551615)/\(0<=x.2/\x.2<=18446744073709551615)
def jg.nil:jg []:=⟨trivial,ah,λ_ h=>aK h⟩
def jg.add(h:jg T){p:Int}(g:0<=x/\x<=18446744073709551615)(a:0<=p/\p<=18446744073709551615):jg (jM T x p):=by
 unfold jM;split
 ·rename_i b;obtain⟨d,c,e,i⟩:=qo b;exact⟨⟨d,c,e,h.wf⟩,by simp;omega,λy hy=>by rcases dh.1 hy with rfl|hy;exact⟨g,a⟩;exact h.rg y hy⟩
 exact h
def eG(T:List (Int×Int)):List Int:=(T.map (·.1)).mergeSort λa b=>decide (a<=b)
def sW(T:List (Int×Int)):(eG T).Perm (T.map (·.1)):=pU _ _
def CV(T:List (Int×Int)):(eG T).length=T.length:=by rw[(sW T).length_eq,j3]
def zd:x∈eG T↔(lk T x).isSome=true:=by rw[(sW T).mem_iff,og]
def lP(x:Int):Bool:=decide (0<=x)&&decide (x<=1125899906842624)
def fL(l:List Int):Int×Bool:=if l.all lP then(l.sum,true)else(0,false)
def iw(f:Nat->Int)(k:Nat):List Int:=[f (6+k),f (18+k*6),f (18+k*6+1),f (18+k*6+2),f (18+k*6+3),f (18+k*6+4),f (18+k*6+5)]
def fU(f:Nat->Int)(k:Nat):List Int:=[f k,f (12+k),f (18+k),f (24+k),f (30+k),f (36+k),f (42+k),f (48+k)]
def mj(f:Nat->Int)(k:Nat):Int×Bool:=((fL (fU f k)).1-(fL (iw f k)).1,(fL (iw f k)).2&&(fL (fU f k)).2)
def qy(f:Nat->Int)(k:Nat):Bool:=(mj f k).2&&(!decide ((mj f k).1<0)&&(!decide (f (6+k)<f (12+k))&&decide (f (18+k*6+k)=0)))
def jU(f:Nat->Int):List Int:=[f 0,f 1,f 2,f 3,f 4,f 5]
def ie(f:Nat->Int):Bool:=(List.range 6).all (qy f)&&((fL (jU f)).2&&decide ((fL (jU f)).1<=1125899906842624))
def cS(f:Nat->Int)(k:Nat):Int:=if ie f then(mj f k).1 else 0
def EJ:∀(l:List Int),0<=(fL l).1/\(fL l).1<=l.length*1125899906842624:=by
 intro l;unfold fL;split
 ·rename_i h;show 0<=l.sum/\l.sum<=_
  induction l with
  |nil=>simp
  |cons x r ih=>
   simp only[List.all_cons,bZ]at h;have a:=ih h.2;have b:0<=x/\x<=1125899906842624:=by simpa[lP]using h.1
   rw[gy,dN];omega
 show(0:Int)<=0/\(0:Int)<=_;exact⟨o5 0,Int.mul_nonneg V V⟩
def putR(f:Nat->Int)(p:Nat)(x:Int):Int×(Nat->Int):=if 1125899906842624<f p+x then(6,aC)else(0,gU f p (f p+x))
def oE(f:Nat->Int)(x:Int):Bool:= !ie f||(decide (x<1)||decide (1125899906842624<x))
def fQ(f:Nat->Int)(k:Nat)(x:Int):Int×(Nat->Int):=if oE f x then(1,aC)else if cS f k<x then(11,aC)else putR f (6+k) x
def fR(f:Nat->Int)(k:Nat)(x:Int):Int×(Nat->Int):=if oE f x then(1,aC)else if f (6+k)-f (12+k)<x then(12,aC)else putR f (12+k) x
def iT(f:Nat->Int)(k j:Nat)(x:Int):Int×(Nat->Int):=if oE f x then(1,aC)else if k=j then(1,aC)else if cS f k<x then(11,aC)else putR f (18+k*6+j) x
def dx(f:Nat->Int):Prop:=∀i,i<54->0<=f i/\f i<=1125899906842624
def dx.aeU:dx aC:=λ_ _=>⟨o5 0,by show(0:Int)<=_;omega⟩
def dx.set(h:dx f)(p:Nat)(c:0<=x)(a:x<=1125899906842624):dx (gU f p x):=λi b=>by unfold gU;split;exact⟨c,a⟩;exact h i b
def dx.put(h:dx f){p:Nat}(a:p<54)(b:1<=x):dx (putR f p x).2:=by unfold putR;split;exact dx.aeU;rename_i c;exact h.set p (aA ((h p a).1)) V
def uD(h:¬oE f x=true):ie f=true/\1<=x/\x<=1125899906842624:=by unfold oE at h;simp at h;exact⟨h.1,V,V⟩
def dx.take(h:dx f)(c:k<6)(x:Int):dx (fQ f k x).2:=by unfold fQ;split;exact dx.aeU;split;exact dx.aeU;rename_i a b;exact h.put V (uD a).2.1
def dx.free(h:dx f)(c:k<6)(x:Int):dx (fR f k x).2:=by unfold fR;split;exact dx.aeU;split;exact dx.aeU;rename_i a b;exact h.put V (uD a).2.1
def dx.move(h:dx f){j:Nat}(b:k<6)(c:j<6)(x:Int):dx (iT f k j x).2:=by unfold iT;split;exact dx.aeU;split;exact dx.aeU;split;exact dx.aeU;rename_i a d e;exact h.put V (uD a).2.1
structure aG where
 inn:Nat->Bool
 kn:an
 tr:List (Int×Int)
 pa:List (Int×Int)
 ri:List (Int×(Nat->Int))
 ow:an
 gr:List ((Int×Int)×cI)
 qs:List ((Int×Int)×Bool)
namespace aG
def r(m:aG)(id:Int):Nat->Int:=(lk m.ri id).getD aC
def p(m:aG)(id:Int):Int:=(lk m.pa id).getD 0
def aeT(m:aG)(x:Int×Int):Bool:=(lk m.qs x).getD false
def g(m:aG)(x:Int×Int):cI:=(lk m.gr x).getD ⟨0,0,0,0,0⟩
end aG
def lj(f:Nat->Bool)(k:Nat)(x:Bool):Nat->Bool:=λi=>if i=k then x else f i
def z.w(e:z):Nat:=(e.o-1).toNat
def z.to_(e:z):Nat:=(e.t-1).toNat
def bg(o s:Int):Int:=if(1<=o/\o<=6)/\1<=s/\s<1099511627776 then o*1099511627776+s else 0
def ou(T:List (Int×Int))(a:Int->Int)(id x:Int):Int:=
 jK ((eG T).foldl (λt n=>if n∈aL T x then t else jM t n 0) ((aL T x).reverse.foldl (λt n=>jM t n (a n)) [])) id x
def jw(m:aG)(turn:(Nat->Int)->Int×(Nat->Int)):List Int->Int
 |[]=>0
 |id::r=>if(turn (m.r id)).1=0 then jw m turn r else(turn (m.r id)).1
def jv(m:aG)(turn:(Nat->Int)->Int×(Nat->Int))(l:List Int):List (Int×(Nat->Int)):=l.foldl (λR id=>putL R id (turn (m.r id)).2) m.ri
def qz(m:aG)(e:z):Int×aG:=
 if 5<=m.ow.get e.w\/140737488355328<e.a then(6,m)
 else if ou m.tr m.p (bg e.o e.s) e.n≠0 then(ou m.tr m.p (bg e.o e.s) e.n,m)
 else(0,{m with tr:=jM m.tr (bg e.o e.s) e.n,pa:=putL m.pa (bg e.o e.s) e.n,ow:=m.ow.set e.w (m.ow.get e.w+1),ri:=putL m.ri (bg e.o e.s) (gU aC e.w e.a)})
def qu(m:aG)(e:z):Int×aG:=
 if(lk m.ri e.n).isSome=false then(9,m)
 else if 140737488355328<m.r e.n e.w+e.a then(6,m)
 else(0,{m with ri:=putL m.ri e.n (gU (m.r e.n) e.w (m.r e.n e.w+e.a))})
def na(m:aG)(e:z):Int×aG:=
 if m.aeT (e.o,e.r)then(14,m)
 else if(lk m.tr e.n).isSome=false then(9,m)
 else if jw m (λf=>fQ f e.w e.a) (aL m.tr e.n)≠0 then(jw m (λf=>fQ f e.w e.a) (aL m.tr e.n),m)
 else(0,{m with ri:=jv m (λf=>fQ f e.w e.a) (aL m.tr e.n),qs:=putL m.qs (e.o,e.r) true,gr:=putL m.gr (e.o,e.r) ⟨e.o,e.r,e.n,e.a,0⟩})
def nh(m:aG)(e:z):Int×aG:=
 if m.aeT (e.o,e.r)then(14,m)
 else if(lk m.gr (e.o,e.f)).isSome=false\/(m.g (e.o,e.f)).b≠0 then(12,m)
 else if jw m (λf=>fR f e.w (m.g (e.o,e.f)).a) (aL m.tr (m.g (e.o,e.f)).n)≠0 then(jw m (λf=>fR f e.w (m.g (e.o,e.f)).a) (aL m.tr (m.g (e.o,e.f)).n),m)
 else(0,{m with ri:=jv m (λf=>fR f e.w (m.g (e.o,e.f)).a) (aL m.tr (m.g (e.o,e.f)).n),qs:=putL m.qs (e.o,e.r) true,gr:=putL m.gr (e.o,e.f) {m.g (e.o,e.f)with b:=e.r}})
def qx(m:aG)(e:z):Int×aG:=
 if(lk m.ri e.n).isSome=false then(9,m)
 else if m.inn e.to_=false then(10,m)
 else if(iT (m.r e.n) e.w e.to_ e.a).1≠0 then((iT (m.r e.n) e.w e.to_ e.a).1,m)
 else(0,{m with ri:=putL m.ri e.n (iT (m.r e.n) e.w e.to_ e.a).2})
def wV(m:aG)(e:z):Int×aG:=(0,{m with inn:=lj m.inn e.to_ true})
def wK(m:aG)(e:z):Int×aG:=(0,{m with inn:=lj m.inn (6+e.w) true})
def eU(m:aG)(e:z):Int×aG:=
 if e.k=1 then qz m e else if e.k=2 then qu m e else if e.k=3 then na m e else if e.k=4 then nh m e else if e.k=5 then qx m e else if e.k=6 then wV m e else wK m e
def ev(m:aG)(e:z):Int×aG:=
 if bG e=false then(1,m)else if gE m.kn e then(14,m)else if ka m.kn e=false then(13,m)else if m.inn e.w=false\/m.inn (6+e.w)=true then(10,m)else eU m e
def cU(m:aG)(e:z):Int×aG:=
 if(ev m e).1=0 then(0,{(ev m e).2 with kn:=(ev m e).2.kn.set e.w ((ev m e).2.kn.get e.w+1)})else((ev m e).1,m)
def kj(a b:cI):Bool:=decide (a.o<b.o)||(decide (a.o=b.o)&&decide (a.r<=b.r))
def ec(m:aG):List cI:=(m.gr.map (·.2)).mergeSort kj
def cq(m:aG):List eB:=(eG m.tr).map λid=>⟨id,m.p id,m.r id⟩
def gG(v:an):Int:=v.v0+v.v1+v.v2+v.v3+v.v4+v.v5
structure aG.ok(m:aG):Prop where
 tr:jg m.tr
 kn:∀k,k<6->0<=m.kn.get k/\m.kn.get k<1099511627776
 ow:∀k,k<6->0<=m.ow.get k/\m.ow.get k<=5
 ri:∀x∈m.ri,dx x.2
 pu:∀x∈m.pa,0<=x.2/\x.2<=18446744073709551615
 gl:(m.gr.length:Int)<=gG m.kn
 gk:∀x∈m.gr,x.1=(x.2.o,x.2.r)/\m.aeT x.1=true
 gb:∀x∈m.gr,x.2.b≠0->m.aeT (x.2.o,x.2.b)=true
 gu:∀x∈m.gr,∀y∈m.gr,x.2.o=y.2.o->y.2.b≠0->x.2.r≠y.2.b/\(x.2.b=y.2.b->x=y)
 gi:∀x∈m.gr,(1<=x.2.o/\x.2.o<=6)/\(0<x.2.r/\x.2.r<=18446744073709551615)/\(0<=x.2.n/\x.2.n<=18446744073709551615)/\(1<=x.2.a/\x.2.a<=1125899906842624)/\(0<=x.2.b/\x.2.b<=18446744073709551615)
def aG.ok.r{m:aG}(h:m.ok)(id:Int):dx (m.r id):=by
 unfold aG.r;cases a:lk m.ri id with
 |none=>exact dx.aeU
 |some f=>exact h.ri _ (dX a)
structure dT where
 k:Int
 n:Int
 t:Int
 a:Int
 r:Int
 f:Int
def rQ(a:dT)(g:cI):Bool:=decide (a.k=3)&&(decide (g.r=a.r)&&(decide (g.n=a.n)&&decide (g.a=a.a)))
def ti(a:dT)(g:cI):Bool:=decide (a.k=4)&&(decide (g.b=a.r)&&decide (g.r=a.f))
def kF(i:Int)(a:dT)(g:cI):Bool:=decide (g.o=i)&&(decide (g.r=a.r)||decide (g.b=a.r))
def gA(b:List cI)(i:Int)(a:dT):Bool×Int:=
 if a.r=0\/(a.k≠3/\a.k≠4)then(false,0)else match b.find? (kF i a)with
  |none=>(false,0)
  |some g=>if rQ a g||ti a g then(true,0)else(true,14)
def dn(m:aG)(i:Nat)(a:dT):z:=⟨(i:Int)+1,m.kn.get i+1,m.kn,a.k,a.n,a.t,a.a,a.r,a.f⟩
def bB(m:aG)(i:Nat)(a:dT):z×Int×aG:=
 if(gA (ec m) ((i:Int)+1) a).1 then(z.zero,(gA (ec m) ((i:Int)+1) a).2,m)
 else if(ev m (dn m i a)).1=0 then(dn m i a,0,(cU m (dn m i a)).2)else(z.zero,(ev m (dn m i a)).1,m)
def ms:eR Int Int:=uV 31 181 (λx=>q x) 0
def uM:ms.Ok:=wy underlying181 (λw=>Y)
structure it(w:D)(t tm:Nat)(T:List (Int×Int)):Prop where
 blk:M w t 264 #[.map (some tm)]
 map:bA ms w tm T
section
variable{w w':D}{t tm:Nat}{T:List (Int×Int)}{F:Nat->Prop}
def it.ne(h:it w t tm T):t≠tm:=λe=>(h.map.ne_blk h.blk) e.symm
def it.call(h:it w t tm T)(a:S w w'):it w' t tm T:=⟨h.blk.call a,h.map.call a⟩
def it.mod(h:it w t tm T)(m:aa F w w')(a:¬F t)(b:¬F tm):it w' t tm T:=⟨m.blk h.blk a,m.gmap h.map b⟩
def it.fr{g:Nat}(h:it w t tm T)(f:aH w w' g none)(a:t≠g)(b:tm≠g):it w' t tm T:=⟨f.blk h.blk a ah,h.map.fr f b ah⟩
def bo(x:Int):Prop:=0<=x/\x<=18446744073709551615
def Us(h:bA ms w tm T)(a:bo x):(Instr.lookup 181 (.map (some tm)) (q x) true).run prog w=.ok (.tuple #[q ((lk T x).getD 0),.bool (lk T x).isSome]) w:=h.look2 uM a
def xE(h:bA ms w tm T)(a:bo x):(Instr.lookup 181 (.map (some tm)) (q x) false).run prog w=.ok (q ((lk T x).getD 0)) w:=h.look uM a
def Te(w w':D)(u:H):Prop:=∃t tm,u=.pointer (some (I t 0))/\it w' t tm []/\w.heap.size<=t/\w.heap.size<=tm/\S w w'
def Ho(w:D):Calls prog 104 #[] w λr w'=>∃u,r=.returned u/\Te w w' u:=by have a:= @qc prog;go_wp2;go_ret;refine⟨_,O,w.heap.size+1,w.heap.size,ah,⟨M.new_at ah O,(bA.made ms w).call ((aq _ _).alloc (ao _) _)⟩,V,V,((aq _ _).alloc (ao _) _).alloc ah _⟩
def vh(h:it w t tm T)(a:bo x)(b:Bool)(c:(lk T x).isSome=b):Calls prog 194 #[N t,q x] w λr w'=>r=.returned (.bool b)/\w=w':=by obtain⟨e,-⟩:=h.blk.rules;have d:=Us h.map a;rw[c]at d;go_wp2;go_ret;exact⟨O,O⟩
def Vu(o s:Int)(b:1<=o/\o<=6)(a:0<=s/\s<1099511627776):bits .or .u64 (o*1099511627776) s=o*1099511627776+s:=by rw[u64_or _ _ V V V V,nat_join 40 _ _ V V];omega
def BS(o s:Int)(p:bo s)(w:D):Calls prog 48 #[Z o,q s] w λr w'=>r=.returned (q (bg o s))/\w=w':=by
 obtain⟨m,u⟩:=p;have a:=U (show bg o s=if(1<=o/\o<=6)/\1<=s/\s<1099511627776 then o*1099511627776+s else 0 from O);by_cases h:(1<=o/\o<=6)/\1<=s/\s<1099511627776
 ·obtain⟨⟨c,b⟩,e,d⟩:=h;have n:=Vu o s ⟨c,b⟩ ⟨m,d⟩;rw[av ⟨⟨c,b⟩,e,d⟩]at a;have j:decide (o<1)=false:=by simp;omega
  have g:decide (6<o)=false:=by simp;omega
  have i:decide (s<1)=false:=by simp;omega
  have l:decide (1099511627776<=s)=false:=by simp;omega
  go_wp2;go_ret;exact⟨by rw[a.o];rfl,O⟩
 rw[al h]at a;by_cases c:o<1
 ·have j:decide (o<1)=true:=fa c;go_wp2;go_ret;exact⟨by rw[a.o];rfl,O⟩
 have j:decide (o<1)=false:=fO c;by_cases b:6<o
 ·have g:decide (6<o)=true:=fa b;go_wp2;go_ret;exact⟨by rw[a.o];rfl,O⟩
 have g:decide (6<o)=false:=fO b;by_cases e:s<1
 ·have i:decide (s<1)=true:=fa e;go_wp2;go_ret;exact⟨by rw[a.o];rfl,O⟩
 have i:decide (s<1)=false:=fO e;have d:1099511627776<=s:=V;have l:decide (1099511627776<=s)=true:=fa d;go_wp2;go_ret;exact⟨by rw[a.o];rfl,O⟩
def ZG(t:Nat)(x:Int)(w:D):Calls prog 303 #[N t,q x] w λr w'=>
  r=.returned (.func (.func 308) #[] #[N w.heap.size,N (w.heap.size+1)])/\w'=(w.alloc (.cells #[N t] 180)).alloc (.cells #[q x] 31):=by
 go_wp2;go_ret;exact⟨O,O⟩
end
section
open Go.Shelf
attribute [local go_sem] Oper.semAt_some
section
variable{t tm:Nat}{T:List (Int×Int)}
def G7(t tm:Nat)(T:List (Int×Int))(b a:Nat)(w:D):Prop:=it w t tm T/\M w b 180 #[N t]/\b≠a/\t≠a/\tm≠a
def Yh(a:Nat)(w w':D):Prop:=w'.heap[a]? =w.heap[a]?
def Ig(a:Nat)(w w':D):Prop:=aH w w' a none
def EV(T:List (Int×Int))(a:Nat)(w:D):Nat:=match w.cell? (I a 0)with
 |some (.int _ x)=>(aL T x).length
 |_=>0
def Ks{w:D}{a:Nat}(h:M w a 31 #[q x]):EV T a w=(aL T x).length:=by unfold EV;rw[h.cell];rfl
def TX(hT:jg T)(n:Nat)(bt b:Nat)(s:Int)(γ:bo s)(w0:D)(hb:M w0 b 31 #[q s]):
  Aj Fence.wide n prog 308 #[N bt,N b] (λx:Int=>#[q x]) (Ig b) (G7 t tm T bt b) (Yh b) T.length (λ_=>True) (aL T s) w0:=by
 intro l J W F E hY C h0;have β:M W b 31 #[q s]:=C.trans hb;have HY:=U hY;have HS:=U F;have HI:=U E;clear hY F E C hb;refine callsIn_of_wp func308 O trivial ?_ O;simp only[ntmps308,pV,dN,g8,Nat.reduceAdd,Nat.reduceSub,tR,tY,ue,tZ,ju,sM]
 gi_wp2
 gi_loopw [4] (λ_ wr=>∃(c:List Int) (x:Int),aL T s=c++aL T x/\bo x/\M wr b 31 #[q x]/\J c wr) (λ_ wr=>EV T b wr)
 case atStart=>exact⟨[],s,O,γ,β,h0⟩
 obtain⟨c,x,A,hx,e,P⟩:=hrel;obtain⟨g,a,n1,n2,n3⟩:=HI.o _ _ P;have HL:=U (Ks (T:=T) e);cases m:lk T x with
 |none=>have C1:=U (vh g hx false (by rw[m];rfl));rw[yP m,eF]at A;obtain⟨R,-⟩:=a.rules;obtain⟨X,-⟩:=e.rules;have d:=aB A P;clear g a e m A P HL;gi_wp2_with fail;refine⟨trivial,λh=>(aK h),(j4.2 C1.o).mono ?_⟩;rintro r w1 ⟨rfl,rfl⟩;gi_wp2_with fail;refine⟨λ_ h=>(aK h),?_⟩;gi_wp2_with fail;go_end0;exact⟨⟨_,O⟩,by rw[d.o.1];exact d.o.2⟩
 |some p=>
  have C1:=U (vh g hx true (by rw[m];rfl));have w:=qk hT.wf m;have j:c.length<T.length:=by have h1:=sT T s;rw[A,w]at h1;simp at h1;omega
  have K:bo p:=by have:=(hT.rg _ (dX m)).2;exact this
  obtain⟨fn,tmps,assign,body,hy,hR⟩:=HY.o c x wr P j trivial;obtain⟨R,-⟩:=a.rules;obtain⟨X,-⟩:=e.rules;have HR:=U hR;have d:=js A w m K hx e;clear g a e m A P w hR j K hx;gi_wp2_with fail;refine⟨trivial,λh=>(aK h),(j4.2 C1.o).mono ?_⟩;rintro r w1 ⟨rfl,rfl⟩;gi_wp2_with fail;refine⟨λh=>(aK h),HR.o.mono ?_⟩;rintro r v ⟨rfl,y,L⟩;obtain⟨g,a,n1,n2,n3⟩:=HI.o _ _ y;have e:M v b 31 #[q x]:=L.trans d.o.2.2.2.2.2;clear R X hy C1 HR L;obtain⟨R,-⟩:=a.rules;obtain⟨X,fi⟩:=e.rules;obtain⟨α,-⟩:=g.blk.rules;have G:=λn=>xE ((g.map.same (w':=v.drewN n) O)) d.o.2.2.2.2.1;have i:=xE ((g.map.same (w':=v.drew) O)) d.o.2.2.2.2.1;rw[d.o.2.2.1]at G i;have HX:=aB y e;clear g a e y;gi_wp2_with fail
  gi_region
  have B:=HS.o _ _ _ HX.o.1 (show Ig b v (v.setCell (I b 0) (q p)).drew from(aH.of_set (I b 0) O _).drew);have u:M (v.setCell (I b 0) (q p)).drew b 31 #[q p]:=HX.o.2.set_ 0 (q p);have Q:=U (Ks (T:=T) u);generalize (v.setCell _ _).drew=W4 at B u Q⊢;clear G i HX α X R fi;gi_wp2_with fail;go_roundw;exact⟨c++[x],p,by rw[d.o.1,d.o.2.1];simp,d.o.2.2.2.1,u,B⟩;rw[Q.o,HL.o,d.o.2.1];simp
end
def Py{B:Nat}{W g:D}{a:Option Nat}(d:W.grownBy g a)(h:∀k o,a=some k->W.heap[k]? =some o->o.isCells=true):KeepsFrom B W g:=
 ⟨d.size,λk o _ b c=>(d.block k (fI.1 b).1 λe=>by rw[h k o e.symm b]at c;cases c).trans b⟩
def oe{w:D}{base:Nat}{e:ay}{sz n:Nat}{v:H}{xs:List H}(h:w.ownsRow base e sz v n xs)(k:Nat)(o:Obj)(a:v.ownBlock=some k)(b:w.heap[k]? =some o):o.isCells=true:=by
 rcases h.2 with⟨rfl,_⟩|⟨g,d,c,rfl,_,i,_⟩;simp[Value.ownBlock]at a;obtain rfl:g=k:=by simpa[Value.ownBlock]using a
 rw[i]at b;cases b;rfl
structure qR(w:D)(t tm:Nat)(T:List (Int×Int))(g bt bi:Nat)(b0:Nat)(pre:List Int)(W:D):Prop where
 row:∃v,M W g 113 #[v]/\gI W b0 v pre
 inv:G7 t tm T bt bi W
 below:S w W
 sz:b0<=W.heap.size
section
variable{w:D}{t tm g bt bi b0:Nat}{T:List (Int×Int)}{pre:List Int}{W W':D}
def qR.fr(h:qR w t tm T g bt bi b0 pre W)(f:aH W W' k none)(c:w.heap.size<=k)(o:g≠k)(e:bt≠k)(d:t≠k)(l:tm≠k)(i:∀v,M W g 113 #[v]->v.ownBlock≠some k):qR w t tm T g bt bi b0 pre W':=by obtain⟨⟨v,b,a⟩,⟨p,m,n⟩,j,r⟩:=h;exact⟨⟨v,f.blk b o ah,f.own a (i v b) (by cases v.ownBlock<;>simp)⟩,⟨p.fr f d l,f.blk m e ah,n⟩,f.below j c (λ_ h=>aK h),aZ r f.size⟩
end
def qR.call{w:D}{t tm g l e i:Nat}{b:List Int}{W m:D}(h:qR w t tm T g l e i b W)(a:S W m):qR w t tm T g l e i b m:=by obtain⟨⟨v,o,c⟩,⟨p,d,n⟩,j,r⟩:=h;exact⟨⟨v,o.call a,c.call a⟩,⟨p.call a,d.call a,n⟩,j.trans (a.mono j.size),aZ r a.size⟩
def xB{w:D}{t tm:Nat}(h:it w t tm T)(hT:jg T)(hx:bo x):Calls prog 287 #[N t,q x] w λr w'=>∃u,r=.returned u/\gI w' w.heap.size u (aL T x)/\S w w':=by
 have C1:=U (λW=>ZG t x W);have lt:=h.blk.lt;have φ:=h.map.lt;have B1:ax (((w.alloc (.cells #[.slice none 0 0] 113)).alloc (.cells #[N t] 180)).alloc (.cells #[q x] 31)) [(w.heap.size+2,31,#[q x]),(w.heap.size+1,180,#[N t]),(w.heap.size,113,#[.slice none 0 0])]:=
  (((ax.nil.push (t:=113) (cs:=#[.slice none 0 0]) (g:=w.heap.size) O).push (t:=180) (cs:=#[N t]) (g:=w.heap.size+1) ah).push (t:=31) (cs:=#[q x]) (g:=w.heap.size+2) ah)
 have D1:S w (((w.alloc (.cells #[.slice none 0 0] 113)).alloc (.cells #[N t] 180)).alloc (.cells #[q x] 31)):=(((aq w.heap.size w).alloc (ao _) _).alloc ah _).alloc aQ _;obtain⟨W1,P⟩:=aM (((w.alloc (.cells #[.slice none 0 0] 113)).alloc (.cells #[N t] 180)).alloc (.cells #[q x] 31));have ν:W1.heap.size=w.heap.size+3:=by rw[<-P];simp
 rw[P]at B1 D1;have I0:qR w t tm T w.heap.size (w.heap.size+1) (w.heap.size+2) (w.heap.size+3) [] W1:=⟨⟨_,B1.drop.drop.head,Row.nil⟩,⟨h.call D1,B1.drop.head,V,V,V⟩,D1,V⟩;have ε:=B1.head;have HB:=U ε;clear h B1 D1;refine(j4 (n:=3)).1 ?_;refine callsIn_of_wp_marks func287 O trivial ?_ O;simp only[ntmps287,pV,dN,g8,Nat.reduceAdd,Nat.reduceSub,tR,tY,ue,tZ,ju,sM];gi_wp2_with fail;refine⟨trivial,(j4.2 (C1.o _)).mono ?_⟩;rintro r w1 ⟨rfl,rfl⟩;rw[oX,P];clear P C1;gi_wp2_with fail;refine Fn O V (gf:=308) (lb:=#[N (w.heap.size+1),N (w.heap.size+2)]) O trivial (kT func308 Y O)
  (TX (t:=t) (tm:=tm) hT _ (w.heap.size+1) (w.heap.size+2) x hx W1 HB.o) (λh k=>k.trans h) O (λW o Q=>(oW W o _ (fI.1 (Q.trans HB.o)).1).trans Q)
  (λW l o hl=>rh V) (λ_=>rfl) (qR w t tm T w.heap.size (w.heap.size+1) (w.heap.size+2) (w.heap.size+3))
  (λW o C=>C.call ((aq _ _).alloc (ao _) o)) (λi W l o o' hl ho hc C=>?_) (λi A B C hs=>⟨?_,?_⟩) (λi A C=>C.inv) I0
  (λy=>{tmps:=#[N t,q x,undef,undef,N w.heap.size,q y,N t,q x,.func (.func 308) #[] #[N (w.heap.size+1),N (w.heap.size+2)],q y,undef,undef,undef,undef,undef],defers:=[]}) ?assign ?body ?done
 ·obtain⟨g1,g2,g3,g4⟩:=vO W l o';refine C.fr ⟨g1,g2,g3,g4,λk Q p _=>rh p⟩ V V V V V λv E e=>?_;obtain⟨v',F,a⟩:=C.row;obtain⟨_,e2⟩:=E.type_eq F;obtain rfl:v=v':=az e2;have:=oe a l o e ho;rw[hc]at this;cases this
 refine C.fr hs V V V V V λv E e=>?_;obtain⟨v',F,a⟩:=C.row;obtain⟨_,e2⟩:=E.type_eq F;obtain rfl:v=v':=az e2;have:=(a.ge _ e).1;omega;exact⟨hs.size,λk o Q ho _=>(hs.block k (fI.1 ho).1 V ah).trans ho⟩
 case assign=>
  intro l y W K hK
  gi_wp2
  exact hK
 case body=>
  intro l i y W C ξ _;obtain⟨⟨v,E,a⟩,d,L,hz⟩:=C;have υ:=hT.le;have ha:S W (W.alloc (.cells #[q y] 31)):=(aq _ _).alloc (ao _) _;obtain⟨v',J,γ,b,θ,j,hf⟩:=gI.app (w:=W.alloc (.cells #[q y] 31)) (cap:=1) 113 (a.call ha) (jn (c:=mq) kV (x:=y) (M.new W 31 (mq y))) aQ aQ;obtain⟨qv,fv⟩:=(E.call ha).rules;obtain⟨π,σ⟩:=E.rules;have p:v.ownBlock≠some w.heap.size:=λe=>aA ((a.ge _ e).1);have s:M J w.heap.size 113 #[v]:=(j.block _ (E.call ha).lt (λe=>p e.symm)).trans (E.call ha);obtain⟨q2,f2⟩:=s.rules;have ls:J.heap.size>=W.heap.size+1:=az j.size;have G:∀k,k<w.heap.size+3->J.heap[k]? =W.heap[k]?:=λk Q=>by rw[j.block k aQ (λe=>aA ((a.ge _ e.symm).1))];exact oW W _ k V
  simp only[dN,g8,cA]at γ;obtain⟨A',c',F,χ,τ⟩:=b.sl;rw[show(i++[y]).length=i.length+1 from ah]at F;subst F;have HK:=U (show KeepsFrom (w.heap.size+3) W (J.setCell (I w.heap.size 0) (.slice A' (i.length+1) c'))from
   ((KeepsOthers.alloc W _).from _).trans ((Py j (λk o e ho=>oe (a.call ha) k o e ho)).trans ((KeepsOthers.setCell _ _ _).from _)))
  have HI:=U (show qR w t tm T w.heap.size (w.heap.size+1) (w.heap.size+2) (w.heap.size+3) (i++[y]) (J.setCell (I w.heap.size 0) (.slice A' (i.length+1) c'))from by
   have X:aH J (J.setCell (I w.heap.size 0) (.slice A' (i.length+1) c')) w.heap.size none:=aH.of_set _ O _;have α:∀{gg:Nat} {ty:ay} {cs:Array H},M W gg ty cs->gg<w.heap.size+3->M J gg ty cs:=λhb hl=>(G _ hl).trans hb;have η:bA ms J tm T:=d.1.map.same (G tm V);refine⟨⟨_,s.set_ 0 _,X.own b (λe=>aA ((b.ge _ e).1)) (by cases(Value.slice A' (i.length+1) c').ownBlock<;>simp)⟩,
    ⟨⟨X.blk (α d.1.blk V) V ah,η.fr X V ah⟩,X.blk (α d.2.1 V) V ah,d.2.2⟩,?_,?_⟩
   refine⟨j.os.trans L.os,j.tape.trans L.tape,j.output.trans L.output,cF X.size L.size,λk Q=>?_⟩;rw[X.block k V V ah,G k V];exact L.block k Q;have:=X.size;omega)
  have ζ:=U (show(J.setCell (I w.heap.size 0) (.slice A' (i.length+1) c')).heap[w.heap.size+2]? =W.heap[w.heap.size+2]? from by rw[yt _ _ _ _ (by show w.heap.size+2≠w.heap.size;omega)];exact G _ V);obtain⟨A,c,rfl,κ,ι⟩:=a.sl;clear E a d L b θ j hf p s G hT ha;gi_wp2_with fail;exact⟨by rw[ν];exact HK.o,ζ.o,HI.o⟩
 case done=>intro m W hD C hK;obtain⟨⟨v,E,a⟩,d,L,hz⟩:=C;obtain⟨qv,fv⟩:=E.rules;obtain⟨A,c,rfl,κ,ι⟩:=a.sl;have hn:w.heap.size≠m:=V;have δ:=(yt W (I w.heap.size 0) m (.slice A (aL T x).length c) (by show m≠w.heap.size;omega)).trans hK;have s:M (W.setCell (I w.heap.size 0) (.slice A (aL T x).length c)) w.heap.size 113 #[.slice A (aL T x).length c]:=E.set_ 0 _;have hF:aH W (W.setCell (I w.heap.size 0) (.slice A (aL T x).length c)) w.heap.size none:=aH.of_set _ O _;have b:=hF.own a (λe=>aA ((a.ge _ e).1)) (by cases(Value.slice A (aL T x).length c).ownBlock<;>simp);have β:=hF.below L (ao _) (λ_ h=>aK h);have R:=cQ δ s b β;clear d L E a δ s hF b β hK hT;gi_wp2_with fail;generalize W.setCell _ _=W2 at R⊢;obtain⟨g1,g2,g3,g4⟩:=vO W2 m (.deferred none);have hf:aH W2 (W2.putObj m (.deferred none)) m none:=⟨g1,g2,g3,g4,λk Q p _=>rh p⟩;have μ:=hf.blk R.o.2.1 hn ah;obtain⟨q3,-⟩:=μ.rules;refine⟨ah,.inl ⟨_,_,O,run_takeDeferred R.o.1,?_⟩⟩;refine⟨.slice A (aL T x).length c,by simp[results,results287,go_sem,q3],_,O,?_,?_⟩;refine kB (hf.own R.o.2.2.1 (λe=>?_) (by cases(Value.slice A (aL T x).length c).ownBlock<;>simp)) (mO _ _);have:=oe R.o.2.2.1 m _ e R.o.1;simp[Obj.isCells]at this;exact hf.below R.o.2.2.2 V (λ_ h=>aK h)
end
section
open Go.Shelf
attribute [local go_sem] Oper.semAt_some
def lI(l:List Int):Nat->List (Int×Int)
 |0=>[]
 |k+1=>((k:Int),l.getD k 0)::lI l k
section
variable{base c1:Nat}{v:H}{l:List Int}
def Hg(base c1:Nat)(v:H)(l:List Int)(w:D):Prop:=M w c1 113 #[v]/\gI w base v l
def QM(n:Nat)(hl:l.length<=1000000)(w0:D):Aj Fence.wide n prog 366 #[N c1] (λx:Int×Int=>#[Z x.1,q x.2]) (λA B=>A=B) (Hg base c1 v l) (λ_ _=>True) l.length (λx=>x.2∈l) (lI l l.length) w0:=by
 intro lp J W η s hY ζ X;have HY:=U hY;have HI:=U s;obtain⟨t,F⟩:=s _ _ X;obtain⟨A,c,hv,hc,hm⟩:=F.sl;subst hv;obtain⟨q0,-⟩:=t.rules;have e0:IntKind.i64.wrap ((l.length:Int)-1)=(l.length:Int)-1:=bS _ V;have H0:=U X;clear hY η s ζ X t F;refine callsIn_of_wp func366 O trivial ?_ O;simp only[ntmps366,pV,dN,g8,Nat.reduceAdd,Nat.reduceSub,tR,tY,ue,tZ,ju,sM];gi_wp2_with fail
 gi_loopw [3] (λi wr=>∃(d:List (Int×Int)) (k:Nat),k<=l.length/\i=Z ((k:Int)-1)/\lI l l.length=d++lI l k/\J d wr) (λi _=>(intOf i+1).toNat)
 case atStart=>exact⟨[],l.length,V,O,O,H0.o⟩
 obtain⟨d,k,hk,rfl,E,K⟩:=hrel;obtain⟨p,e⟩:=HI.o _ _ K;obtain⟨β,-⟩:=p.rules;cases k with
 |zero=>
  have P:=aB E K;clear p e E K;gi_wp2_with fail
  try (refine⟨λ_ h=>(aK h),?_⟩;gi_wp2_with fail)
  go_end0;exact⟨⟨_,O⟩,by rw[P.o.1];simpa[lI]using P.o.2⟩
 |succ k=>
  have R:k<l.length:=V;obtain⟨y,L⟩:∃y,l[k]? =some y:=⟨l[k],bY R⟩;have m:d.length<l.length:=by
   have h1:∀j,(lI l j).length=j:=λj=>by induction j with
    |zero=>rfl
    |succ j ih=>simp[lI,ih]
   have h2:=bH List.length E;rw[bW,h1,h1]at h2;omega
  obtain⟨fn,tmps,assign,body,α,hR⟩:=HY.o d ((k:Int),y) wr K m (cX L);obtain⟨g,γ,hs,u,δ,ι,κ⟩:=e.sl_pos V;rw[hs]at e;have G:=e.rng kV L;obtain⟨rfl,w⟩:A=some (I g 0)/\c=γ:=by injection hs with a b c;exact⟨a,c⟩
  have ε:wr.cell? (I g k)=some (q y):=by have this:=G 0 (q y) O;rw[iP]at this;exact this
  have C:lI l l.length=(d++[((k:Int),y)])++lI l k:=by
   rw[E];have Q:l.getD k 0=y:=by rw[sB,L];rfl
   show d++(((k:Int),l.getD k 0)::lI l k)=_;rw[Q];simp
  have ek:((k+1:Nat):Int)-1=(k:Int):=V;have e1:IntKind.i64.wrap ((k:Int)-1)=(k:Int)-1:=bS _ V;rw[ek];have HR:=U hR;have P:=U C;clear p e E K hR m G hs u δ w L C;gi_wp2_with fail;refine⟨λh=>(aK h),HR.o.mono ?_⟩;rintro r W3 ⟨rfl,θ,-⟩;clear ε β α HR;gi_wp2_with fail;go_roundw;exact⟨d++[((k:Int),y)],k,V,O,P.o,θ⟩;simp[intOf]
end
end
