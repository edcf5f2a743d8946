import Derived.Test.YtghdobdjfnimmaaGreatDoorZ09
import Derived.Deep.DrawnRows
set_option maxRecDepth 100000
set_option maxHeartbeats 0
set_option linter.all false
namespace Go.Proofs.YtghdobdjfnimmaaGreatDoor
open Go.Proofs.Tryz
variable{x:Int}{f:Nat->Int}{T:List (Int×Int)}{k:Nat}
section
open Go.RowKit Go
theorem gO{α β:Type}[DecidableEq α](L:List (α×β))(a b:α)(v:β):lk ((a,v)::L) b=if a=b then some v else lk L b:=by
 unfold lk;rw[List.find?_cons];by_cases h:a=b<;>simp[h]
theorem Am{α β:Type}[DecidableEq α]{L:List (α×β)}{a:α}:(lk L a).isSome=true↔a∈L.map (·.1):=by
 constructor
 ·intro h
  obtain⟨v,b⟩:=V6.1 h;exact VJ.2 ⟨_,bK b,rfl⟩
 ·intro h
  obtain⟨x,d,e⟩:=VJ.1 h;cases c:lk L a with
  |some v=>rfl
  |none=>exact absurd e (oN c x d)
def Tc:List (Int×Int)->Prop
 |[]=>True
 |(a,p)::r=>a≠0/\lk r a=none/\(p=0\/(lk r p).isSome=true)/\Tc r
def aC:List (Int×Int)->Int->List Int
 |[],_=>[]
 |(a,p)::r,x=>if a=x then a::aC r p else aC r x
theorem pE:∀{T:List (Int×Int)} {x:Int},lk T x=none->aC T x=[]
 |[],_,_=>rfl
 |(a,p)::r,x,h=>by
  rw[gO]at h;unfold aC;by_cases e:a=x
  ·rw[Vh e]at h;cases h
  ·rw[Vf e]at h⊢
   exact pE h
theorem pD:∀{T:List (Int×Int)} {x p:Int},Tc T->lk T x=some p->aC T x=x::aC T p
 |[],_,_,_,h=>by cases h
 |(a,q)::r,x,p,hw,h=>by
  obtain⟨l,j,i,m⟩:=hw;rw[gO]at h;have skip:∀y:Int,y=0\/(lk r y).isSome=true->aC ((a,q)::r) y=aC r y:=λy hy=>by
   have d:a≠y:=by
    rintro rfl;rcases hy with rfl|hy
    ·exact l rfl
    ·rw[j]at hy;cases hy
   conv=>lhs;unfold aC
   rw[Vf d]
  by_cases e:a=x
  ·rw[Vh e]at h
   obtain rfl:=VT h;subst e;rw[skip q i]
   conv=>lhs;unfold aC
   rw[Vh rfl]
  ·rw[Vf e]at h
   have o:p=0\/(lk r p).isSome=true:=by
    clear skip i j l e
    induction r with
    |nil=>cases h
    |cons c r ih=>
     obtain⟨b,s⟩:=c;obtain⟨A,z,u,v⟩:=m;rw[gO]at h;have n:∀y:Int,y=0\/(lk r y).isSome=true->y=0\/(lk ((b,s)::r) y).isSome=true:=λy hy=>by
      rcases hy with hy|hy
      ·exact .inl hy
      ·right;rw[gO];split
       ·rfl
       ·exact hy
     split at h
     ·obtain rfl:=VT h
      exact n _ u
     ·exact n _ (ih h v)
   rw[skip p o]
   conv=>lhs;unfold aC
   rw[Vf e];exact pD m h
theorem dV:∀(T:List (Int×Int)) (x:Int),(aC T x).length<=T.length
 |[],_=>Vc _
 |(a,p)::r,x=>by
  unfold aC;split
  ·have:=dV r p;simp;omega
  ·have:=dV r x;simp;omega
theorem iU:∀{T:List (Int×Int)} {x y:Int},y∈aC T x->(lk T y).isSome=true
 |[],_,_,h=>by cases h
 |(a,p)::r,x,y,h=>by
  unfold aC at h;rw[gO];split at h
  ·rcases Vy.1 h with rfl|h
   ·rw[Vh rfl];rfl
   ·split
    ·rfl
    ·exact iU h
  ·split
   ·rfl
   ·exact iU h
def tx(T:List (Int×Int))(x p:Int):Int:=
 if x=0 then 1 else if(lk T x).isSome then 14 else if p≠0/\(lk T p).isSome=false then 9 else if 32<=T.length\/4<=(aC T p).length then 6 else 0
def lN(T:List (Int×Int))(x p:Int):List (Int×Int):=if tx T x p=0 then(x,p)::T else T
theorem se{p:Int}(h:tx T x p=0):x≠0/\lk T x=none/\(p=0\/(lk T p).isSome=true)/\T.length<32:=by
 unfold tx at h;split at h
 ·cases h
 split at h
 ·cases h
 split at h
 ·cases h
 split at h
 ·cases h
 rename_i c b d i;refine⟨c,by simpa using b,?_,by omega⟩;by_cases a:p=0
 ·exact .inl a
 ·right
  cases e:(lk T p).isSome with
  |true=>rfl
  |false=>exact absurd ⟨a,e⟩ d
structure tO(T:List (Int×Int)):Prop where
 wf:Tc T
 le:T.length<=32
 rg:∀x∈T,(0<=x.1/\x.1<=18446744073709551615)/\(0<=x.2/\x.2<=18446744073709551615)
theorem tO.nil:tO []:=⟨trivial,by simp,λ_ h=>by cases h⟩
theorem tO.add(h:tO T){p:Int}(i:0<=x/\x<=18446744073709551615)(a:0<=p/\p<=18446744073709551615):tO (lN T x p):=by
 unfold lN;split
 ·rename_i b
  obtain⟨d,c,e,j⟩:=se b;exact⟨⟨d,c,e,h.wf⟩,by simp;omega,λy hy=>by
   rcases Vy.1 hy with rfl|hy
   ·exact⟨i,a⟩
   ·exact h.rg y hy⟩
 ·exact h
def cS(T:List (Int×Int)):List Int:=(T.map (·.1)).mergeSort λa b=>decide (a<=b)
theorem jl(T:List (Int×Int)):(cS T).Perm (T.map (·.1)):=WF _ _
theorem jm(T:List (Int×Int)):(cS T).length=T.length:=by rw[(jl T).length_eq,Wd]
theorem rM:x∈cS T↔(lk T x).isSome=true:=by rw[(jl T).mem_iff,Am]
def Fs(x:Int):Bool:=decide (0<=x)&&decide (x<=1125899906842624)
def gx(l:List Int):Int×Bool:=if l.all Fs then(l.sum,true)else(0,false)
def ft(f:Nat->Int)(k:Nat):List Int:=[f (6+k),f (18+k*6),f (18+k*6+1),f (18+k*6+2),f (18+k*6+3),f (18+k*6+4),f (18+k*6+5)]
def gA(f:Nat->Int)(k:Nat):List Int:=[f k,f (12+k),f (18+k),f (24+k),f (30+k),f (36+k),f (42+k),f (48+k)]
def qS(f:Nat->Int)(k:Nat):Int×Bool:=((gx (gA f k)).1-(gx (ft f k)).1,(gx (ft f k)).2&&(gx (gA f k)).2)
def lB(f:Nat->Int)(k:Nat):Bool:=(qS f k).2&&(!decide ((qS f k).1<0)&&(!decide (f (6+k)<f (12+k))&&decide (f (18+k*6+k)=0)))
def tL(f:Nat->Int):List Int:=[f 0,f 1,f 2,f 3,f 4,f 5]
def pL(f:Nat->Int):Bool:=(List.range 6).all (lB f)&&((gx (tL f)).2&&decide ((gx (tL f)).1<=1125899906842624))
def dF(f:Nat->Int)(k:Nat):Int:=if pL f then(qS f k).1 else 0
theorem sy:∀(l:List Int),0<=(gx l).1/\(gx l).1<=l.length*1125899906842624:=by
 intro l;unfold gx;split
 ·rename_i h
  show 0<=l.sum/\l.sum<=_
  induction l with
  |nil=>simp
  |cons x r ih=>
   simp only[List.all_cons,Vo]at h;have a:=ih h.2;have b:0<=x/\x<=1125899906842624:=by simpa[Fs]using h.1
   rw[XU,VB];omega
 ·show(0:Int)<=0/\(0:Int)<=_
  exact⟨Int.le_refl 0,Int.mul_nonneg (by omega) (by omega)⟩
def putR(f:Nat->Int)(p:Nat)(x:Int):Int×(Nat->Int):=if 1125899906842624<f p+x then(6,z0)else(0,jD f p (f p+x))
def qz(f:Nat->Int)(x:Int):Bool:= !pL f||(decide (x<1)||decide (1125899906842624<x))
def fX(f:Nat->Int)(k:Nat)(x:Int):Int×(Nat->Int):=if qz f x then(1,z0)else if dF f k<x then(11,z0)else putR f (6+k) x
def gh(f:Nat->Int)(k:Nat)(x:Int):Int×(Nat->Int):=if qz f x then(1,z0)else if f (6+k)-f (12+k)<x then(12,z0)else putR f (12+k) x
def fF(f:Nat->Int)(k j:Nat)(x:Int):Int×(Nat->Int):=if qz f x then(1,z0)else if k=j then(1,z0)else if dF f k<x then(11,z0)else putR f (18+k*6+j) x
def da(f:Nat->Int):Prop:=∀i,i<54->0<=f i/\f i<=1125899906842624
theorem da.z:da z0:=λ_ _=>⟨Int.le_refl 0,by show(0:Int)<=_;omega⟩
theorem da.set(h:da f)(p:Nat)(c:0<=x)(a:x<=1125899906842624):da (jD f p x):=λi b=>by
 unfold jD;split
 ·exact⟨c,a⟩
 ·exact h i b
theorem da.put(h:da f){p:Nat}(a:p<54)(b:1<=x):da (putR f p x).2:=by
 unfold putR;split
 ·exact da.z
 ·rename_i c
  exact h.set p (by have:=(h p a).1;omega) (by omega)
theorem tv(h:¬qz f x=true):pL f=true/\1<=x/\x<=1125899906842624:=by
 unfold qz at h;simp at h;exact⟨h.1,by omega,by omega⟩
theorem da.take(h:da f)(c:k<6)(x:Int):da (fX f k x).2:=by
 unfold fX;split
 ·exact da.z
 split
 ·exact da.z
 ·rename_i a b
  exact h.put (by omega) (tv a).2.1
theorem da.free(h:da f)(c:k<6)(x:Int):da (gh f k x).2:=by
 unfold gh;split
 ·exact da.z
 split
 ·exact da.z
 ·rename_i a b
  exact h.put (by omega) (tv a).2.1
theorem da.move(h:da f){j:Nat}(b:k<6)(c:j<6)(x:Int):da (fF f k j x).2:=by
 unfold fF;split
 ·exact da.z
 split
 ·exact da.z
 split
 ·exact da.z
 ·rename_i a d e
  exact h.put (by omega) (tv a).2.1
structure az where
 inn:Nat->Bool
 kn:av
 tr:List (Int×Int)
 pa:List (Int×Int)
 ri:List (Int×(Nat->Int))
 ow:av
 gr:List ((Int×Int)×gF)
 qs:List ((Int×Int)×Bool)
namespace az
def r(m:az)(id:Int):Nat->Int:=(lk m.ri id).getD z0
def p(m:az)(id:Int):Int:=(lk m.pa id).getD 0
def q(m:az)(x:Int×Int):Bool:=(lk m.qs x).getD false
def g(m:az)(x:Int×Int):gF:=(lk m.gr x).getD ⟨0,0,0,0,0⟩
end az
def mK(f:Nat->Bool)(k:Nat)(x:Bool):Nat->Bool:=λi=>if i=k then x else f i
def Ev.w(e:Ev):Nat:=(e.o-1).toNat
def Ev.to_(e:Ev):Nat:=(e.t-1).toNat
def gH(o s:Int):Int:=if(1<=o/\o<=6)/\1<=s/\s<1099511627776 then o*1099511627776+s else 0
def lZ(T:List (Int×Int))(a:Int->Int)(id x:Int):Int:=
 tx ((cS T).foldl (λt n=>if n∈aC T x then t else lN t n 0) ((aC T x).reverse.foldl (λt n=>lN t n (a n)) [])) id x
def eA(m:az)(turn:(Nat->Int)->Int×(Nat->Int)):List Int->Int
 |[]=>0
 |id::r=>if(turn (m.r id)).1=0 then eA m turn r else(turn (m.r id)).1
def fN(m:az)(turn:(Nat->Int)->Int×(Nat->Int))(l:List Int):List (Int×(Nat->Int)):=l.foldl (λR id=>putL R id (turn (m.r id)).2) m.ri
def jW(m:az)(e:Ev):Int×az:=
 if 5<=m.ow.get e.w\/140737488355328<e.a then(6,m)
 else if lZ m.tr m.p (gH e.o e.s) e.n≠0 then(lZ m.tr m.p (gH e.o e.s) e.n,m)
 else(0,{m with tr:=lN m.tr (gH e.o e.s) e.n,pa:=putL m.pa (gH e.o e.s) e.n,ow:=m.ow.set e.w (m.ow.get e.w+1),ri:=putL m.ri (gH e.o e.s) (jD z0 e.w e.a)})
def iu(m:az)(e:Ev):Int×az:=
 if(lk m.ri e.n).isSome=false then(9,m)
 else if 140737488355328<m.r e.n e.w+e.a then(6,m)
 else(0,{m with ri:=putL m.ri e.n (jD (m.r e.n) e.w (m.r e.n e.w+e.a))})
def hU(m:az)(e:Ev):Int×az:=
 if m.q (e.o,e.r)then(14,m)
 else if(lk m.tr e.n).isSome=false then(9,m)
 else if eA m (λf=>fX f e.w e.a) (aC m.tr e.n)≠0 then(eA m (λf=>fX f e.w e.a) (aC m.tr e.n),m)
 else(0,{m with ri:=fN m (λf=>fX f e.w e.a) (aC m.tr e.n),qs:=putL m.qs (e.o,e.r) true,gr:=putL m.gr (e.o,e.r) ⟨e.o,e.r,e.n,e.a,0⟩})
def ie(m:az)(e:Ev):Int×az:=
 if m.q (e.o,e.r)then(14,m)
 else if(lk m.gr (e.o,e.f)).isSome=false\/(m.g (e.o,e.f)).b≠0 then(12,m)
 else if eA m (λf=>gh f e.w (m.g (e.o,e.f)).a) (aC m.tr (m.g (e.o,e.f)).n)≠0 then(eA m (λf=>gh f e.w (m.g (e.o,e.f)).a) (aC m.tr (m.g (e.o,e.f)).n),m)
 else(0,{m with ri:=fN m (λf=>gh f e.w (m.g (e.o,e.f)).a) (aC m.tr (m.g (e.o,e.f)).n),qs:=putL m.qs (e.o,e.r) true,gr:=putL m.gr (e.o,e.f) {m.g (e.o,e.f)with b:=e.r}})
def jU(m:az)(e:Ev):Int×az:=
 if(lk m.ri e.n).isSome=false then(9,m)
 else if m.inn e.to_=false then(10,m)
 else if(fF (m.r e.n) e.w e.to_ e.a).1≠0 then((fF (m.r e.n) e.w e.to_ e.a).1,m)
 else(0,{m with ri:=putL m.ri e.n (fF (m.r e.n) e.w e.to_ e.a).2})
def pR(m:az)(e:Ev):Int×az:=(0,{m with inn:=mK m.inn e.to_ true})
def mv(m:az)(e:Ev):Int×az:=(0,{m with inn:=mK m.inn (6+e.w) true})
def cX(m:az)(e:Ev):Int×az:=
 if e.k=1 then jW m e else if e.k=2 then iu m e else if e.k=3 then hU m e else if e.k=4 then ie m e else if e.k=5 then jU m e else if e.k=6 then pR m e else mv m e
def bE(m:az)(e:Ev):Int×az:=
 if aX e=false then(1,m)else if dJ m.kn e then(14,m)else if eS m.kn e=false then(13,m)else if m.inn e.w=false\/m.inn (6+e.w)=true then(10,m)else cX m e
def cz(m:az)(e:Ev):Int×az:=
 if(bE m e).1=0 then(0,{(bE m e).2 with kn:=(bE m e).2.kn.set e.w ((bE m e).2.kn.get e.w+1)})else((bE m e).1,m)
def uU(a b:gF):Bool:=decide (a.o<b.o)||(decide (a.o=b.o)&&decide (a.r<=b.r))
def bh(m:az):List gF:=(m.gr.map (·.2)).mergeSort uU
def aW(m:az):List Nd:=(cS m.tr).map λid=>⟨id,m.p id,m.r id⟩
def fD(v:av):Int:=v.v0+v.v1+v.v2+v.v3+v.v4+v.v5
structure az.ok(m:az):Prop where
 tr:tO m.tr
 kn:∀k,k<6->0<=m.kn.get k/\m.kn.get k<1099511627776
 ow:∀k,k<6->0<=m.ow.get k/\m.ow.get k<=5
 ri:∀x∈m.ri,da x.2
 pu:∀x∈m.pa,0<=x.2/\x.2<=18446744073709551615
 gl:(m.gr.length:Int)<=fD m.kn
 gk:∀x∈m.gr,x.1=(x.2.o,x.2.r)/\m.q x.1=true
 gb:∀x∈m.gr,x.2.b≠0->m.q (x.2.o,x.2.b)=true
 gu:∀x∈m.gr,∀y∈m.gr,x.2.o=y.2.o->y.2.b≠0->x.2.r≠y.2.b/\(x.2.b=y.2.b->x=y)
 gi:∀x∈m.gr,(1<=x.2.o/\x.2.o<=6)/\(0<x.2.r/\x.2.r<=18446744073709551615)/\(0<=x.2.n/\x.2.n<=18446744073709551615)/\(1<=x.2.a/\x.2.a<=1125899906842624)/\(0<=x.2.b/\x.2.b<=18446744073709551615)
theorem az.ok.r{m:az}(h:m.ok)(id:Int):da (m.r id):=by
 unfold az.r;cases a:lk m.ri id with
 |none=>exact da.z
 |some f=>exact h.ri _ (bK a)
structure cJ where
 k:Int
 n:Int
 t:Int
 a:Int
 r:Int
 f:Int
def rq(a:cJ)(g:gF):Bool:=decide (a.k=3)&&(decide (g.r=a.r)&&(decide (g.n=a.n)&&decide (g.a=a.a)))
def nk(a:cJ)(g:gF):Bool:=decide (a.k=4)&&(decide (g.b=a.r)&&decide (g.r=a.f))
def lG(i:Int)(a:cJ)(g:gF):Bool:=decide (g.o=i)&&(decide (g.r=a.r)||decide (g.b=a.r))
def dg(b:List gF)(i:Int)(a:cJ):Bool×Int:=
 if a.r=0\/(a.k≠3/\a.k≠4)then(false,0)else match b.find? (lG i a)with
  |none=>(false,0)
  |some g=>if rq a g||nk a g then(true,0)else(true,14)
def dB(m:az)(i:Nat)(a:cJ):Ev:=⟨(i:Int)+1,m.kn.get i+1,m.kn,a.k,a.n,a.t,a.a,a.r,a.f⟩
def cH(m:az)(i:Nat)(a:cJ):Ev×Int×az:=
 if(dg (bh m) ((i:Int)+1) a).1 then(Ev.zero,(dg (bh m) ((i:Int)+1) a).2,m)
 else if(bE m (dB m i a)).1=0 then(dB m i a,0,(cz m (dB m i a)).2)else(Ev.zero,(bE m (dB m i a)).1,m)
def Be:MT Int Int:=rL 32 165 (λx=>.int .u64 x) 0
theorem nc:Be.Ok:=jS underlying165 (λw=>by kernel_rfl)
structure cV(w:Yu)(t tm:Nat)(T:List (Int×Int)):Prop where
 blk:ai w t 217 #[.map (some tm)]
 map:aZ Be w tm T
section
variable{w w':Yu}{t tm:Nat}{T:List (Int×Int)}{F:Nat->Prop}
theorem cV.ne(h:cV w t tm T):t≠tm:=λe=>(h.map.ne_blk h.blk) e.symm
theorem cV.call(h:cV w t tm T)(a:Ys w w'):cV w' t tm T:=⟨h.blk.call a,h.map.call a⟩
theorem cV.mod(h:cV w t tm T)(m:ah F w w')(a:¬F t)(b:¬F tm):cV w' t tm T:=⟨m.blk h.blk a,m.gmap h.map b⟩
theorem cV.fr{g:Nat}(h:cV w t tm T)(f:Fr w w' g none)(a:t≠g)(b:tm≠g):cV w' t tm T:=⟨f.blk h.blk a (by simp),h.map.fr f b (by simp)⟩
def aT(x:Int):Prop:=0<=x/\x<=18446744073709551615
theorem K1(h:aZ Be w tm T)(a:aT x):(Instr.lookup 165 (.map (some tm)) (.int .u64 x) true).run prog w=.ok (.tuple #[.int .u64 ((lk T x).getD 0),.bool (lk T x).isSome]) w:=h.look2 nc a
theorem yN(h:aZ Be w tm T)(a:aT x):(Instr.lookup 165 (.map (some tm)) (.int .u64 x) false).run prog w=.ok (.int .u64 ((lk T x).getD 0)) w:=h.look nc a
def Id(w w':Yu)(u:Yv):Prop:=∃t tm,u=.pointer (some ⟨t,0,none⟩)/\cV w' t tm []/\w.heap.size<=t/\w.heap.size<=tm/\Ys w w'
theorem NN(w:Yu):Yt 59 #[] w λr w'=>∃u,r=.returned u/\Id w w' u:=by
 have a:= @XE prog;go_enter func59,ntmps59;go_wp2_with fail;go_ret;refine⟨_,rfl,w.heap.size+1,w.heap.size,by simp,⟨ai.new_at (by simp) rfl,(aZ.made Be w).call ((Vd _ _).alloc (Vc _) _)⟩,by omega,by omega,((Vd _ _).alloc (Vc _) _).alloc (by simp) _⟩
theorem BH(h:cV w t tm T)(a:aT x)(b:Bool)(c:(lk T x).isSome=b):Yt 169 #[Yr t,.int .u64 x] w λr w'=>r=.returned (.bool b)/\w=w':=by
 obtain⟨q,-⟩:=h.blk.rules;have d:=K1 h.map a;rw[c]at d;clear a c h;go_enter func169,ntmps169;go_wp2_with fail;go_ret;exact⟨rfl,rfl⟩
theorem MI(o s:Int)(b:1<=o/\o<=6)(a:0<=s/\s<1099511627776):bits .or .u64 (o*1099511627776) s=o*1099511627776+s:=by
 rw[u64_or _ _ (by omega) (by omega) (by omega) (by omega),nat_join 40 _ _ (by omega) (by omega)];omega
theorem Rf(o s:Int)(q:aT s)(w:Yu):Yt 28 #[.int .i64 o,.int .u64 s] w λr w'=>r=.returned (.int .u64 (gH o s))/\w=w':=by
 obtain⟨n,s1⟩:=q;have a:=U9 (show gH o s=if(1<=o/\o<=6)/\1<=s/\s<1099511627776 then o*1099511627776+s else 0 from rfl);by_cases h:(1<=o/\o<=6)/\1<=s/\s<1099511627776
 ·obtain⟨⟨c,b⟩,e,d⟩:=h
  have p:=MI o s ⟨c,b⟩ ⟨n,d⟩;rw[Vh ⟨⟨c,b⟩,e,d⟩]at a;have l:decide (o<1)=false:=by simp;omega
  have i:decide (6<o)=false:=by simp;omega
  have j:decide (s<1)=false:=by simp;omega
  have m:decide (1099511627776<=s)=false:=by simp;omega
  go_enter func28,ntmps28;go_wp2_with fail;go_ret;exact⟨by rw[a.o];rfl,rfl⟩
 ·rw[Vf h]at a
  by_cases c:o<1
  ·have l:decide (o<1)=true:=Vg c
   go_enter func28,ntmps28;go_wp2_with fail;go_ret;exact⟨by rw[a.o];rfl,rfl⟩
  have l:decide (o<1)=false:=Vj c;by_cases b:6<o
  ·have i:decide (6<o)=true:=Vg b
   go_enter func28,ntmps28;go_wp2_with fail;go_ret;exact⟨by rw[a.o];rfl,rfl⟩
  have i:decide (6<o)=false:=Vj b;by_cases e:s<1
  ·have j:decide (s<1)=true:=Vg e
   go_enter func28,ntmps28;go_wp2_with fail;go_ret;exact⟨by rw[a.o];rfl,rfl⟩
  have j:decide (s<1)=false:=Vj e;have d:1099511627776<=s:=by omega
  have m:decide (1099511627776<=s)=true:=Vg d;go_enter func28,ntmps28;go_wp2_with fail;go_ret;exact⟨by rw[a.o];rfl,rfl⟩
theorem UF(t:Nat)(x:Int)(w:Yu):Yt 272 #[Yr t,.int .u64 x] w λr w'=>
  r=.returned (.func (.func 277) #[] #[Yr w.heap.size,Yr (w.heap.size+1)])/\w'=(w.alloc (.cells #[Yr t] 164)).alloc (.cells #[.int .u64 x] 32):=by
 go_enter func272,ntmps272;go_wp2_with fail;go_ret;exact⟨rfl,rfl⟩
end
end
section
open Go.RowKit Go Go.Shelf
attribute [local go_sem] Oper.semAt_some
section
variable{t tm:Nat}{T:List (Int×Int)}
def JA(t tm:Nat)(T:List (Int×Int))(bt bi:Nat)(w:Yu):Prop:=cV w t tm T/\ai w bt 164 #[Yr t]/\bt≠bi/\t≠bi/\tm≠bi
def S9(bi:Nat)(w w':Yu):Prop:=w'.heap[bi]? =w.heap[bi]?
def Qj(bi:Nat)(w w':Yu):Prop:=Fr w w' bi none
def wA(T:List (Int×Int))(bi:Nat)(w:Yu):Nat:=match w.cell? ⟨bi,0,none⟩with
 |some (.int _ x)=>(aC T x).length
 |_=>0
theorem rp{w:Yu}{bi:Nat}(h:ai w bi 32 #[.int .u64 x]):wA T bi w=(aC T x).length:=by
 unfold wA;rw[h.cell]
 rfl
theorem JV(U:tO T)(n:Nat)(bt bi:Nat)(m:Int)(Q:aT m)(Z:Yu)(S:ai Z bi 32 #[.int .u64 m]):
  xW Fence.wide n prog 277 #[Yr bt,Yr bi] (λx:Int=>#[.int .u64 x]) (Qj bi) (JA t tm T bt bi) (S9 bi) T.length (λ_=>True) (aC T m) Z:=by
 intro l J W D C Y B h0;have P:ai W bi 32 #[.int .u64 m]:=B.trans S;have HY:=U9 Y;have HS:=U9 D;have HI:=U9 C;clear Y D C B S;refine callsIn_of_wp func277 rfl trivial ?_ rfl;simp only[ntmps277,WU,VB,VR,Nat.reduceAdd,Nat.reduceSub,XR,XS,Ym,XX,V8,XQ]
 gi_wp2
 gi_loopw [4] (λ_ wr=>∃(pre:List Int) (x:Int),aC T m=pre++aC T x/\aT x/\ai wr bi 32 #[.int .u64 x]/\J pre wr) (λ_ wr=>wA T bi wr)
 case atStart=>exact⟨[],m,rfl,Q,P,h0⟩
 case round=>
  obtain⟨pre,x,z,O,b,I⟩:=hrel;obtain⟨d,a,n1,n2,n3⟩:=HI.o _ _ I;have HL:=U9 (rp (T:=T) b);cases j:lk T x with
  |none=>
   have N:=U9 (BH d O false (by rw[j];rfl));rw[pE j,Xa]at z;obtain⟨L,-⟩:=a.rules;obtain⟨M,-⟩:=b.rules;have c:=U9 (Vb z I);clear d a b j z I HL;gi_wp2_with fail;refine⟨trivial,λh=>(by cases h),(Wp.2 N.o).mono ?_⟩;rintro r w1 ⟨rfl,rfl⟩;gi_wp2_with fail;refine⟨λ_ h=>(by cases h),?_⟩;gi_wp2_with fail
   go_end0
   exact⟨⟨_,rfl⟩,by rw[c.o.1];exact c.o.2⟩
  |some p=>
   have N:=U9 (BH d O true (by rw[j];rfl));have v:=pD U.wf j;have i:pre.length<T.length:=by
    have V:=dV T m;rw[z,v]at V;simp at V;omega
   have G:aT p:=by
    have:=(U.rg _ (bK j)).2;exact this
   obtain⟨fn,tmps,assign,body,hy,hR⟩:=HY.o pre x wr I i trivial;obtain⟨L,-⟩:=a.rules;obtain⟨M,-⟩:=b.rules;have X:=U9 hR;have c:=U9 (Vb z (Vb v (Vb j (Vb G (Vb O b)))));clear d a b j z I v hR i G O;gi_wp2_with fail;refine⟨trivial,λh=>(by cases h),(Wp.2 N.o).mono ?_⟩;rintro r w1 ⟨rfl,rfl⟩;gi_wp2_with fail;refine⟨λh=>(by cases h),X.o.mono ?_⟩;rintro r u ⟨rfl,y,H⟩;obtain⟨d,a,n1,n2,n3⟩:=HI.o _ _ y;have b:ai u bi 32 #[.int .u64 x]:=H.trans c.o.2.2.2.2.2;clear L M hy N X H;obtain⟨L,-⟩:=a.rules;obtain⟨M,fi⟩:=b.rules;obtain⟨q,-⟩:=d.blk.rules;have li:=b.lt;have E:=λn=>yN ((d.map.same (w':=u.drewN n) rfl)) c.o.2.2.2.2.1
   have e:=yN ((d.map.same (w':=u.drew) rfl)) c.o.2.2.2.2.1;rw[c.o.2.2.1]at E e;have R:=U9 (Vb y b);clear d a b y;gi_wp2_with fail
   gi_region
   have A:=HS.o _ _ _ R.o.1 (show Qj bi u (u.setCell ⟨bi,0,none⟩ (.int .u64 p)).drew from(Fr.of_set ⟨bi,0,none⟩ rfl _).drew);have s:ai (u.setCell ⟨bi,0,none⟩ (.int .u64 p)).drew bi 32 #[.int .u64 p]:=R.o.2.set_ 0 (.int .u64 p);have K:=U9 (rp (T:=T) s);generalize (u.setCell _ _).drew=W4 at A s K⊢;clear E e R q M L fi li;gi_wp2_with fail;go_roundw
   case rel=>exact⟨pre++[x],p,by rw[c.o.1,c.o.2.1];simp,c.o.2.2.2.1,s,A⟩
   case measure=>rw[K.o,HL.o,c.o.2.1];simp
end
theorem Dq{B:Nat}{W W':Yu}{a:Option Nat}(d:W.grownBy W' a)(h:∀k o,a=some k->W.heap[k]? =some o->o.isCells=true):KeepsFrom B W W':=
 ⟨d.size,λk o _ b c=>(d.block k (Vv.1 b).1 λe=>by rw[h k o e.symm b]at c;cases c).trans b⟩
theorem eC{w:Yu}{base:Nat}{e:Yw}{sz n:Nat}{v:Yv}{xs:List Yv}(h:w.ownsRow base e sz v n xs)(k:Nat)(o:Obj)(a:v.ownBlock=some k)(b:w.heap[k]? =some o):o.isCells=true:=by
 rcases h.2 with⟨rfl,_⟩|⟨g,cap,cur,rfl,_,c,_⟩
 ·simp[Value.ownBlock]at a
 ·obtain rfl:g=k:=by simpa[Value.ownBlock]using a
  rw[c]at b;cases b;rfl
structure tF(w:Yu)(t tm:Nat)(T:List (Int×Int))(g bt bi:Nat)(b0:Nat)(pre:List Int)(W:Yu):Prop where
 row:∃v,ai W g 172 #[v]/\ij W b0 v pre
 inv:JA t tm T bt bi W
 below:Ys w W
 sz:b0<=W.heap.size
section
variable{w:Yu}{t tm g bt bi b0:Nat}{T:List (Int×Int)}{pre:List Int}{W W':Yu}
theorem tF.fr(h:tF w t tm T g bt bi b0 pre W)(f:Fr W W' k none)(c:w.heap.size<=k)(o:g≠k)(e:bt≠k)(d:t≠k)(l:tm≠k)(i:∀v,ai W g 172 #[v]->v.ownBlock≠some k):tF w t tm T g bt bi b0 pre W':=by
 obtain⟨⟨v,b,a⟩,⟨p,m,n⟩,j,q⟩:=h;exact⟨⟨v,f.blk b o (by simp),f.own a (i v b) (by cases v.ownBlock<;>simp)⟩,⟨p.fr f d l,f.blk m e (by simp),n⟩,f.below j c (λ_ h=>by cases h),Vi q f.size⟩
end
theorem tF.call{w:Yu}{t tm g bt bi b0:Nat}{pre:List Int}{W W':Yu}(h:tF w t tm T g bt bi b0 pre W)(a:Ys W W'):tF w t tm T g bt bi b0 pre W':=by
 obtain⟨⟨v,e,b⟩,⟨i,c,n⟩,d,j⟩:=h;exact⟨⟨v,e.call a,b.call a⟩,⟨i.call a,c.call a,n⟩,d.trans (a.mono d.size),Vi j a.size⟩
theorem yn{w:Yu}{t tm:Nat}(h:cV w t tm T)(hT:tO T)(hx:aT x):Yt 256 #[Yr t,.int .u64 x] w λr w'=>∃u,r=.returned u/\ij w' w.heap.size u (aC T x)/\Ys w w':=by
 have C1:=U9 (λW=>UF t x W);have lt:=h.blk.lt;have ν:=h.map.lt;have V:aD (((w.alloc (.cells #[.slice none 0 0] 172)).alloc (.cells #[Yr t] 164)).alloc (.cells #[.int .u64 x] 32)) [(w.heap.size+2,32,#[.int .u64 x]),(w.heap.size+1,164,#[Yr t]),(w.heap.size,172,#[.slice none 0 0])]:=
  (((aD.nil.push (t:=172) (cs:=#[.slice none 0 0]) (g:=w.heap.size) rfl).push (t:=164) (cs:=#[Yr t]) (g:=w.heap.size+1) (by simp)).push (t:=32) (cs:=#[.int .u64 x]) (g:=w.heap.size+2) (by simp))
 have Z:Ys w (((w.alloc (.cells #[.slice none 0 0] 172)).alloc (.cells #[Yr t] 164)).alloc (.cells #[.int .u64 x] 32)):=(((Vd w.heap.size w).alloc (Vc _) _).alloc (by simp) _).alloc (by simp;omega) _;obtain⟨P,E⟩:∃P,((w.alloc (.cells #[.slice none 0 0] 172)).alloc (.cells #[Yr t] 164)).alloc (.cells #[.int .u64 x] 32)=P:=⟨_,rfl⟩;have ι:P.heap.size=w.heap.size+3:=by rw[<-E];simp
 rw[E]at V Z;have I0:tF w t tm T w.heap.size (w.heap.size+1) (w.heap.size+2) (w.heap.size+3) [] P:=⟨⟨_,V.drop.drop.head,Row.nil⟩,⟨h.call Z,V.drop.head,by omega,by omega,by omega⟩,Z,by omega⟩;have δ:=V.head;have HB:=U9 δ;have HH:=U9 h;clear h V Z;refine(Wp (n:=3)).1 ?_;refine callsIn_of_wp_marks func256 rfl trivial ?_ rfl;simp only[ntmps256,WU,VB,VR,Nat.reduceAdd,Nat.reduceSub,XR,XS,Ym,XX,V8,XQ];gi_wp2_with fail;refine⟨trivial,(Wp.2 (C1.o _)).mono ?_⟩;rintro r w1 ⟨rfl,rfl⟩;rw[WA,E];clear E C1;gi_wp2_with fail;refine yv rfl (by omega) (gf:=277) (lb:=#[Yr (w.heap.size+1),Yr (w.heap.size+2)]) rfl trivial (enters_of func277 (by kernel_rfl) rfl)
  (JV (t:=t) (tm:=tm) hT _ (w.heap.size+1) (w.heap.size+2) x hx P HB.o) (λh k=>k.trans h) rfl (λW o H=>(WK W o _ (Vv.1 (H.trans HB.o)).1).trans H)
  (λW l o hl=>WC (by omega)) (λ_=>rfl) (tF w t tm T w.heap.size (w.heap.size+1) (w.heap.size+2) (w.heap.size+3))
  (λW o p=>p.call ((Vd _ _).alloc (Vc _) o)) (λpre W l o o' hl L hc p=>?_) (λpre A B p hs=>⟨?_,?_⟩) (λpre A p=>p.inv) I0
  (λy=>{tmps:=#[Yr t,.int .u64 x,undef,undef,Yr w.heap.size,.int .u64 y,Yr t,.int .u64 x,.func (.func 277) #[] #[Yr (w.heap.size+1),Yr (w.heap.size+2)],.int .u64 y,undef,undef,undef,undef,undef],defers:=[]}) ?assign ?body ?done
 ·obtain⟨g1,g2,g3,g4⟩:=grownBy_putObj' W l o'
  refine p.fr ⟨g1,g2,g3,g4,λk H q _=>WC q⟩ (by omega) (by omega) (by omega) (by omega) (by omega) λv m e=>?_
  obtain⟨Y,s,a⟩:=p.row;obtain⟨_,e2⟩:=m.type_eq s;obtain rfl:v=Y:=by simpa using e2
  have:=eC a l o e L;rw[hc]at this;cases this
 ·refine p.fr hs (by omega) (by omega) (by omega) (by omega) (by omega) λv m e=>?_
  obtain⟨Y,s,a⟩:=p.row;obtain⟨_,e2⟩:=m.type_eq s;obtain rfl:v=Y:=by simpa using e2
  have:=(a.ge _ e).1;omega
 ·exact⟨hs.size,λk o H L _=>(hs.block k (Vv.1 L).1 (by omega) (by simp)).trans L⟩
 case assign=>
  intro l y W K hK
  gi_wp2
  exact hK
 case body=>
  intro l pre y W p κ _;have γ:=p;obtain⟨⟨v,m,a⟩,d,G,hz⟩:=p;have π:=hT.le;have M:Ys W (W.alloc (.cells #[.int .u64 y] 32)):=(Vd _ _).alloc (Vc _) _;obtain⟨Y,C,U,b,ζ,i,R⟩:=ij.app (w:=W.alloc (.cells #[.int .u64 y] 32)) (cap:=1) 172 (a.call M) (dU (c:=o4) cY (x:=y) (ai.new W 32 (o4 y))) (by simp;omega) (by simp;omega);obtain⟨qv,fv⟩:=(m.call M).rules;obtain⟨σ,μ⟩:=m.rules;have lv:=m.lt;have q:v.ownBlock≠some w.heap.size:=λe=>by have:=(a.ge _ e).1;omega
  have j:ai C w.heap.size 172 #[v]:=(i.block _ (m.call M).lt (λe=>q e.symm)).trans (m.call M);obtain⟨q2,f2⟩:=j.rules;have l2:=j.lt;have ls:C.heap.size>=W.heap.size+1:=by have:=i.size;simpa using this
  have z:∀k,k<w.heap.size+3->C.heap[k]? =W.heap[k]?:=λk H=>by
   rw[i.block k (by simp;omega) (λe=>by have:=(a.ge _ e.symm).1;omega)];exact WK W _ k (by omega)
  simp only[VB,VR,Vk]at U;obtain⟨Q,N,s,τ,ξ⟩:=b.sl;rw[show(pre++[y]).length=pre.length+1 from by simp]at s;subst s;have HK:=U9 (show KeepsFrom (w.heap.size+3) W (C.setCell ⟨w.heap.size,0,none⟩ (.slice Q (pre.length+1) N))from
   ((KeepsOthers.alloc W _).from _).trans ((Dq i (λk o e L=>eC (a.call M) k o e L)).trans ((KeepsOthers.setCell _ _ _).from _)))
  have HI:=U9 (show tF w t tm T w.heap.size (w.heap.size+1) (w.heap.size+2) (w.heap.size+3) (pre++[y]) (C.setCell ⟨w.heap.size,0,none⟩ (.slice Q (pre.length+1) N))from by
   have J:Fr C (C.setCell ⟨w.heap.size,0,none⟩ (.slice Q (pre.length+1) N)) w.heap.size none:=Fr.of_set _ rfl _;have X:∀{gg:Nat} {ty:Yw} {cs:Array Yv},ai W gg ty cs->gg<w.heap.size+3->ai C gg ty cs:=λhb hl=>(z _ hl).trans hb
   have ε:aZ Be C tm T:=d.1.map.same (z tm (by omega));refine⟨⟨_,j.set_ 0 _,J.own b (λe=>by have:=(b.ge _ e).1;omega) (by cases(Value.slice Q (pre.length+1) N).ownBlock<;>simp)⟩,
    ⟨⟨J.blk (X d.1.blk (by omega)) (by omega) (by simp),ε.fr J (by omega) (by simp)⟩,J.blk (X d.2.1 (by omega)) (by omega) (by simp),d.2.2⟩,?_,?_⟩
   ·refine⟨i.os.trans G.os,i.tape.trans G.tape,i.output.trans G.output,by have:=J.size;have:=G.size;omega,λk H=>?_⟩
    rw[J.block k (by omega) (by omega) (by simp),z k (by omega)];exact G.block k H
   ·have:=J.size;omega)
  have β:=U9 (show(C.setCell ⟨w.heap.size,0,none⟩ (.slice Q (pre.length+1) N)).heap[w.heap.size+2]? =W.heap[w.heap.size+2]? from by
   rw[heap_setCell_other _ _ _ _ (by show w.heap.size+2≠w.heap.size;omega)];exact z _ (by omega))
  obtain⟨A,c,rfl,α,θ⟩:=a.sl;clear γ m a d G b ζ i R q j z hT M HH;gi_wp2_with fail;exact⟨by rw[ι];exact HK.o,β.o,HI.o⟩
 case done=>
  intro D W hD p hK;obtain⟨⟨v,m,a⟩,d,G,hz⟩:=p;obtain⟨qv,fv⟩:=m.rules;have lv:=m.lt;obtain⟨A,c,rfl,α,θ⟩:=a.sl;have hn:w.heap.size≠D:=by omega
  have O:=(heap_setCell_other W ⟨w.heap.size,0,none⟩ D (.slice A (aC T x).length c) (by show D≠w.heap.size;omega)).trans hK;have j:ai (W.setCell ⟨w.heap.size,0,none⟩ (.slice A (aC T x).length c)) w.heap.size 172 #[.slice A (aC T x).length c]:=m.set_ 0 _;have hF:Fr W (W.setCell ⟨w.heap.size,0,none⟩ (.slice A (aC T x).length c)) w.heap.size none:=Fr.of_set _ rfl _;have b:=hF.own a (λe=>by have:=(a.ge _ e).1;omega) (by cases(Value.slice A (aC T x).length c).ownBlock<;>simp);have S:=hF.below G (Vc _) (λ_ h=>by cases h);have I:=U9 (Vb O (Vb j (Vb b S)));clear d G m a O j hF b S hK hT;gi_wp2_with fail;generalize W.setCell _ _=W2 at I⊢;obtain⟨g1,g2,g3,g4⟩:=grownBy_putObj' W2 D (.deferred none);have R:Fr W2 (W2.putObj D (.deferred none)) D none:=⟨g1,g2,g3,g4,λk H q _=>WC q⟩;have η:=R.blk I.o.2.1 hn (by simp);obtain⟨q3,-⟩:=η.rules;refine⟨by simp,.inl ⟨_,_,rfl,run_takeDeferred I.o.1,?_⟩⟩;refine⟨.slice A (aC T x).length c,by simp[results,results256,go_sem,q3],_,rfl,?_,?_⟩
  ·refine db (R.own I.o.2.2.1 (λe=>?_) (by cases(Value.slice A (aC T x).length c).ownBlock<;>simp)) (Wa _ _)
   have:=eC I.o.2.2.1 D _ e I.o.1;simp[Obj.isCells]at this
  ·exact R.below I.o.2.2.2 (by omega) (λ_ h=>by cases h)
end
