import Derived.Test.YtemcfhlbmhbjeaaGreatDoorZ03
set_option maxRecDepth 100000
set_option maxHeartbeats 0
set_option linter.all false
namespace Go.Proofs.YtemcfhlbmhbjeaaGreatDoor
open Go.Proofs.Tryz
variable{g:Nat}{t:ay}{r:Option Nat}{es:Array MapEntry}
open Go Go.RowKit
section
variable{P:Program}{α:Type}{c:α->Array H}{sz:Nat}{e:ay}
def Row.app(w:D)(t ty:ay)(i:TypeInfo)(j:H)(bytes:Nat)(J:P.underlying t=some (.slice e))(hi:P.info? e=some i)(W:i.zero=some j)(d:i.size=sz)(s:i.bytes=bytes)(y:j.cells.size=sz)(p:0<sz)
  (hc:∀x,(c x).size=sz) (Q:∀x,∀u∈(c x).toList,u.oneCell'=true) {base:Nat} {v:H} {L:List α} (h:Row w base e sz c v L) {B:Nat} {A:Option Addr} {cap:Nat} {aeL:List α} (hr:dK w B sz A aeL.length (cZ c aeL))
  (hn:L.length+aeL.length<=1000000) (n:bytes<=1000) (f:base<=w.heap.size):
  ∃l k,(iU t ty v (.slice A aeL.length cap)).run P w=.ok (.value l) k/\Row k base e sz c l (L++aeL)/\iO base [e] w k/\w.grownBy k v.ownBlock/\(l.ownBlock=v.ownBlock\/∀b,l.ownBlock=some b->w.heap.size<=b):=by
 obtain⟨l,k,m,G,h3,E,R⟩:=Zo (P:=P) w base t ty e i j sz bytes J hi W d s y p v L.length (cZ c L) h B A aeL.length cap (cZ c aeL) hr
  (λu hu=>by obtain⟨x,_,hx⟩:=Qq aeL u hu;exact Q x u hx) (by unfold maxLen;omega) (by have:(L.length+aeL.length)*bytes<=1000000*1000:=Nat.mul_le_mul hn n;omega) f
 refine⟨l,k,zJ m,?_,⟨h3,λg t' cs a o=>?_⟩,E,R⟩;unfold Row;rw[Jn,bW];exact G;unfold M at a⊢;rw[E.block g (fI.1 a).1 ?_];exact a;intro F;rcases h.2 with⟨rfl,_⟩|⟨T,C,X,rfl,_,K,_⟩;simp[Value.ownBlock]at F;have:g=T:=by simpa[Value.ownBlock]using F
 subst this;rw[K]at a;injection a with a;injection a with _ a;exact o (by simp[a])
end
def kf{α:Type}(p:α->Bool)(L:List α):Int:=match L.findIdx? p with|some k=>(k:Int)|none=>-1
section
variable{α:Type}{p:α->Bool}{L:List α}
def Ky(h:∀x∈L,p x=false):kf p L=-1:=by unfold kf;rw[Cv.2 h]
def DN{k:Nat}{x:α}(b:L[k]? =some x)(e:p x=true)(h:∀j,j<k->∀y,L[j]? =some y->p y=false):kf p L=k:=by unfold kf;obtain⟨a,d⟩:=fN.1 b;rw[Ct.2 ⟨a,by rw[d];exact e,λj c=>az (h j c _ (bY V))⟩]
def JK(p:α->Bool)(L:List α):(kf p L=-1/\∀x∈L,p x=false)\/∃(k:Nat) (x:α),kf p L=k/\L[k]? =some x/\p x=true:=by
 unfold kf;cases h:L.findIdx? p with
 |none=>exact .inl ⟨O,Cv.1 h⟩
 |some k=>obtain⟨a,b,_⟩:=Ct.1 h;exact .inr ⟨k,L[k],O,bY a,b⟩
end
def mq(x:Int):Array H:=#[q x]
def kV(x:Int):(mq x).size=1:=rfl
def MG(x:Int):∀u∈(mq x).toList,u.oneCell'=true:=by intro u a;simp[mq]at a;subst a;rfl
structure eB where
 id:Int
 p:Int
 r:Nat->Int
def eW(x:eB):Array H:=#[q x.id,q x.p]++aw x.r
def mT(x:eB):(eW x).size=56:=by simp[eW,mS]
def xD(x:eB):(eW x)[0]? =some (q x.id):=by unfold eW;rw[Array.getElem?_append_left ah];rfl
def GL(x:eB)(j:Nat):(eW x)[2+j]? =(aw x.r)[j]?:=by unfold eW;rw[Array.getElem?_append_right ah];simp
def Lq(x:eB):∀u∈(eW x).toList,u.oneCell'=true:=by
 intro u hu;simp only[eW,Array.toList_append,bP]at hu;rcases hu with hu|hu
 ·simp at hu;rcases hu with rfl|rfl<;>rfl
 exact nU.1 (Ek x.r) u (az hu)
def RV(x:eB):(eW x).all (·.oneCell')=true:=nU.2 λu a=>Lq x u (az a)
def eB.zero:eB:=⟨0,0,aC⟩
@[go_sem] theorem acC:#[q 0,q 0,Z 0,Z 0,Z 0,Z 0,Z 0,Z 0,Z 0,Z 0,Z 0,Z 0,Z 0,Z 0,Z 0,Z 0,Z 0,Z 0,Z 0,Z 0,Z 0,Z 0,Z 0,Z 0,Z 0,Z 0,Z 0,Z 0,Z 0,Z 0,Z 0,Z 0,Z 0,Z 0,Z 0,Z 0,Z 0,Z 0,Z 0,Z 0,Z 0,Z 0,Z 0,Z 0,Z 0,Z 0,Z 0,Z 0,Z 0,Z 0,Z 0,Z 0,Z 0,Z 0,Z 0,Z 0]=eW eB.zero:=Y
structure cI where
 o:Int
 r:Int
 n:Int
 a:Int
 b:Int
def bR(x:cI):Array H:=#[Z x.o,q x.r,q x.n,Z x.a,q x.b]
def po(x:cI):(bR x).size=5:=rfl
def DY(x:cI):∀u∈(bR x).toList,u.oneCell'=true:=by intro u a;simp[bR]at a;rcases a with rfl|rfl|rfl|rfl|rfl<;>rfl
def EL(x:cI):(bR x).all (·.oneCell')=true:=nU.2 λu a=>DY x u (az a)
def Ve:(prog.info? 119).map (λi=>(i.zero,i.size,i.bytes))=some (some (.agg #[Z 0,q 0,q 0,Z 0,q 0]),5,40):=Y
def Vc:(prog.info? 52).map (λi=>(i.zero,i.size,i.bytes))=some (some (.agg #[q 0,q 0,Z 0,Z 0,Z 0,Z 0,Z 0,Z 0,Z 0,Z 0,Z 0,Z 0,Z 0,Z 0,Z 0,Z 0,Z 0,Z 0,Z 0,Z 0,Z 0,Z 0,Z 0,Z 0,Z 0,Z 0,Z 0,Z 0,Z 0,Z 0,Z 0,Z 0,Z 0,Z 0,Z 0,Z 0,Z 0,Z 0,Z 0,Z 0,Z 0,Z 0,Z 0,Z 0,Z 0,Z 0,Z 0,Z 0,Z 0,Z 0,Z 0,Z 0,Z 0,Z 0,Z 0,Z 0]),56,448):=Y
def Sk:(prog.info? 31).map (λi=>(i.zero,i.size,i.bytes))=some (some (q 0),1,8):=Y
def pq(x:cI):(prog.info? 119).map (·.size)=some (bR x).size:=by rw[po];kernel_rfl
def wP(x:eB):(prog.info? 52).map (·.size)=some (eW x).size:=by rw[mT];kernel_rfl
abbrev eV(w:D)(base:Nat)(v:H)(L:List eB):Prop:=Row w base 52 56 eW v L
abbrev iK(w:D)(base:Nat)(v:H)(L:List cI):Prop:=Row w base 119 5 bR v L
abbrev gI(w:D)(base:Nat)(v:H)(L:List Int):Prop:=Row w base 31 1 mq v L
section
variable{w:D}{base B:Nat}{v:H}{A:Option Addr}{cap:Nat}(ty:ay)
def eV.app{L aeL:List eB}(h:eV w base v L)(j:dK w B 56 A aeL.length (cZ eW aeL))(m:L.length+aeL.length<=1000000)(a:base<=w.heap.size):
  ∃d c,(iU 34 ty v (.slice A aeL.length cap)).run prog w=.ok (.value d) c/\eV c base d (L++aeL)/\iO base [52] w c/\w.grownBy c v.ownBlock/\(d.ownBlock=v.ownBlock\/∀b,d.ownBlock=some b->w.heap.size<=b):=by
 obtain⟨e,l,f,i,k⟩:=i7 Vc;exact Row.app w 34 ty e _ 448 underlying34 l f i k O ai mT Lq h (cap:=cap) j m ai a
def iK.app{L aeL:List cI}(h:iK w base v L)(j:dK w B 5 A aeL.length (cZ bR aeL))(m:L.length+aeL.length<=1000000)(a:base<=w.heap.size):
  ∃d c,(iU 35 ty v (.slice A aeL.length cap)).run prog w=.ok (.value d) c/\iK c base d (L++aeL)/\iO base [119] w c/\w.grownBy c v.ownBlock/\(d.ownBlock=v.ownBlock\/∀b,d.ownBlock=some b->w.heap.size<=b):=by
 obtain⟨e,l,f,i,k⟩:=i7 Ve;exact Row.app w 35 ty e _ 40 underlying35 l f i k O ai po DY h (cap:=cap) j m ai a
def gI.app{L aeL:List Int}(h:gI w base v L)(j:dK w B 1 A aeL.length (cZ mq aeL))(m:L.length+aeL.length<=1000000)(a:base<=w.heap.size):
  ∃d c,(iU 113 ty v (.slice A aeL.length cap)).run prog w=.ok (.value d) c/\gI c base d (L++aeL)/\iO base [31] w c/\w.grownBy c v.ownBlock/\(d.ownBlock=v.ownBlock\/∀b,d.ownBlock=some b->w.heap.size<=b):=by
 obtain⟨e,l,f,i,k⟩:=i7 Sk;exact Row.app w 113 ty e _ 8 underlying113 l f i k O ai kV MG h (cap:=cap) j m ai a
def jn{α:Type}{c:α->Array H}{sz:Nat}(b:∀x,(c x).size=sz){x:α}(h:M w g t (c x)):dK w (g+1) sz (some (I g 0)) [x].length (cZ c [x]):=by refine⟨lF b [x],λ_=>⟨g,0,O,V,λj u a=>?_⟩⟩;rw[Li,i5]at a;rw[h.cell,cA,a]
end
@[go_sem ↓ high] def abQ:=@iY 52
@[go_sem ↓ high] def abi:=@jC 52
@[go_sem ↓ high] def abT:=@iY 119
@[go_sem ↓ high] def abk:=@jC 119
@[go_sem ↓ high] def acn:=@mr 34
@[go_sem ↓ high] def acp:=@mr 35
@[go_sem ↓ high] def ack:=@mr 113
def nM(d:an):Nat->Int
 |0=>d.get 0
 |k+1=>max (nM d k) (d.get (k+1))
def E9(d:an)(m:Int)(k:Nat):nM d k<m↔∀j,j<=k->d.get j<m:=by
 induction k with
 |zero=>constructor;intro h j a;obtain rfl:j=0:=V;exact h;intro h;exact h 0 (ao _)
 |succ k ih=>
  simp only[nM];constructor
  ·intro h j a;by_cases e:j=k+1;subst e;omega;exact ih.1 V j V
  intro h;have b:=ih.2 λj a=>h j V;have c:=h (k+1) (ao _);omega
def J5(d:an):decide (1099511627776<=nM d 5)= !rG d:=by
 cases a:rG d with
 |true=>have:=(E9 d 1099511627776 5).2 λj b=>Jg.1 a j V;simp;omega
 |false=>
  have:¬nM d 5<1099511627776:=λh=>by rw[Jg.2 λj b=>(E9 d 1099511627776 5).1 h j V]at a;cases a
  simp;omega
def KO(g:Nat)(d:an)(w:D)(a:∀i,i<6->w.cell? (I g (2+i))=some (q (d.get i))):
  Calls prog 140 #[.slice (some (I g 2)) 6 6] w λe f=>e=.returned (q (nM d 5))/\w=f:=by
 have u:=a 0 V;replace a:=U a;go_wp2;go_loop [3,4] (λm i=>∃k:Nat,k<6/\i=Z ((k:Int)+1)/\m=q (nM d k)) (λ_ i=>6-(intOf i).toNat);exact⟨0,V,O,O⟩;obtain⟨k,l,rfl,rfl⟩:=hrel;by_cases c:k<5
 ·have p:=a.o (k+1) V;have b:=U (show max (nM d k) (d.get (k+1))=nM d (k+1)from O);have j:(0:Int)<=(k:Int)+1:=V;have s:(k:Int)+1<6:=V;have n:((k:Int)+1).toNat=k+1:=V;go_wp2_with fail
  all_goals
   go_round
   ·exact⟨k+1,V,by go_num,by rw[<-b.o]<;>congr 1<;>first|omega|rfl⟩
   simp[intOf];omega
 obtain rfl:k=5:=V;go_wp2;go_ret;exact⟨O,O⟩
def OV(e:z)(h:ol e=false)(m:e.ok):cY e.o=false\/(∃k:Nat,k<6/\e.o=(k:Int)+1/\(e.s<1\/(1<=e.s/\1099511627776<=e.s)\/(1<=e.s/\e.s<1099511627776/\e.d.get k≠e.s-1)\/(1<=e.s/\e.s<1099511627776/\e.d.get k=e.s-1/\rG e.d=false))):=by
 cases c:cY e.o with
 |false=>exact .inl O
 |true=>
  obtain⟨k,f,i⟩:=rE c;refine .inr ⟨k,f,i,?_⟩;have j:(e.o-1).toNat=k:=V;unfold ol at h;rw[c,j]at h;simp only[Bool.true_and]at h;by_cases l:e.s<1;exact .inl l;by_cases a:e.s<1099511627776
  ·by_cases b:e.d.get k=e.s-1;refine .inr (.inr (.inr ⟨V,a,b,?_⟩));simpa[a,b,bU ((1<=e.s))]using h;exact .inr (.inr (.inl ⟨V,a,b⟩))
  exact .inr (.inl ⟨V,V⟩)
def Dr(e:z)(h:ol e=true):∃k:Nat,k<6/\e.o=(k:Int)+1/\1<=e.s/\e.s<1099511627776/\e.d.get k=e.s-1/\rG e.d=true:=by unfold ol at h;simp only[bZ,eN]at h;obtain⟨⟨⟨⟨j,i⟩,m⟩,a⟩,l⟩:=h;obtain⟨k,b,c⟩:=rE j;have f:(e.o-1).toNat=k:=V;rw[f]at a;exact⟨k,b,c,i,m,a,l⟩
def uB(e:z)(k:Nat)(h:k<6):(aj e)[2+k]? =some (q (e.d.get k)):=
 an.six (P:=λk=>(aj e)[2+k]? =some (q (e.d.get k))) O O O O O O k h
def SP(e:z)(G:e.ok)(h:ol e=false)(w:D):Calls prog 117 #[.agg (aj e)] w λr v=>r=.returned (.bool false)/\S w v:=by
 rcases OV e h G with u|⟨k,j,c,a|⟨a,b⟩|⟨a,b,l⟩|⟨a,b,l,p⟩⟩
 ·have f:=U (sX e.o false u);clear u h;go_wp2;go_quiet ((go_at_call 139;exact eE ((f.o _).mono λ_ _ ⟨a,b⟩=>⟨a,b.symm⟩)));go_wp2;go_ret;exact⟨O,j7 ((aq _ _).alloc (ao _) _) _⟩
 ·have f:=U (sX e.o true (by rw[c];exact s5 k j));have m:decide (e.s<1)=true:=az a;clear c h;go_wp2;go_quiet ((go_at_call 139;exact eE ((f.o _).mono λ_ _ ⟨a,b⟩=>⟨a,b.symm⟩)));go_wp2;go_ret;exact⟨O,j7 ((aq _ _).alloc (ao _) _) _⟩
 ·have f:=U (sX e.o true (by rw[c];exact s5 k j));have m:decide (e.s<1)=false:=az a;have n:decide (1099511627776<=e.s)=true:=az b;clear c h;go_wp2;go_quiet ((go_at_call 139;exact eE ((f.o _).mono λ_ _ ⟨a,b⟩=>⟨a,b.symm⟩)));go_wp2;go_ret;exact⟨O,j7 ((aq _ _).alloc (ao _) _) _⟩
 ·have f:=U (sX e.o true (by rw[c];exact s5 k j));have m:decide (e.s<1)=false:=az a;have n:decide (1099511627776<=e.s)=false:=az b;have C:IntKind.u64.wrap (e.s-1)=e.s-1:=tU _ V;have A:IntKind.i64.wrap (e.o-1)=(k:Int):=by rw[c];simp;exact bS _ V
  have F:(0:Int)<=(k:Int):=V;have x:(k:Int)<6:=V;have B:=uB e k j;have J:(e.d.get k !=e.s-1)=true:=by simpa[bne]using l
  clear c h l;go_wp2;go_quiet ((go_at_call 139;exact eE ((f.o _).mono λ_ _ ⟨a,b⟩=>⟨a,b.symm⟩)));go_wp2;go_ret;exact⟨O,j7 ((aq _ _).alloc (ao _) _) _⟩
 have f:=U (sX e.o true (by rw[c];exact s5 k j));have m:decide (e.s<1)=false:=az a;have n:decide (1099511627776<=e.s)=false:=az b;have C:IntKind.u64.wrap (e.s-1)=e.s-1:=tU _ V;have A:IntKind.i64.wrap (e.o-1)=(k:Int):=by rw[c];simp;exact bS _ V
 have F:(0:Int)<=(k:Int):=V;have x:(k:Int)<6:=V;have B:=uB e k j;have J:(e.d.get k !=e.s-1)=false:=by simpa[bne]using l
 have L:decide (1099511627776<=nM e.d 5)=true:=by rw[J5,p];rfl
 have y:=U λW hc=>KO w.heap.size e.d W hc;clear c h l p;go_wp2;go_quiet ((go_at_call 139;exact eE ((f.o _).mono λ_ _ ⟨a,b⟩=>⟨a,b.symm⟩)));go_wp2_with fail;refine(y.o _ ?hc).mono ?_
 (case hc=>exact λi E=>(((((aI.nil w).push (t:=64) (cs:=aj e) O).drewN nq).blk _ _ _ cz).cell (2+i)).trans (uB e i E))
 rintro r K ⟨rfl,rfl⟩;go_wp2;go_ret;exact⟨O,j7 ((aq _ _).alloc (ao _) _) _⟩
def TN(v:an)(b:v.ok)(o x y:Int)(h:oy v o=(x,y))(w:D):
  Calls prog 299 #[.agg (aF v),Z o] w λe a=>e=.returned (.tuple #[q x,Z y])/\S w a:=by
 have c:=Nh v b o w;rw[h]at c;exact c
def nk(a:an)(x:Bool)(h:kd a=x)(w:D):
  Calls prog 138 #[.agg (aF a)] w λe b=>e=.returned (.bool x)/\S w b:=by
 subst h;exact Hm a w
section
open Go.ChangeMaps (setBlock heap_setBlock_same heap_setBlock_other)
open Go.MapKept (Stamped stamped_iff stamped_push stamped_erase stamped_empty stamped_modify)
open Go.Maps (Keyed)
structure eR(α β:Type) where
 K:ay
 E:ay
 T:ay
 kc:α->H
 vc:β->H
 aeU:β
 okk:α->Prop
structure eR.Ok{α β:Type}(m:eR α β):Prop where
 law:Keyed prog m.K
 und:prog.underlying m.T=some (.map m.K m.E)
 key:∀a,m.okk a->∃l,keyOf prog m.K (m.kc a)=some l
 inj:∀a b,m.kc a=m.kc b->a=b
 zero:∀w,(zeroValue m.E).run prog w=.ok (m.vc m.aeU) w
section
variable{α β:Type}[DecidableEq α]
def lk(L:List (α×β))(a:α):Option β:=(L.find? λx=>decide (x.1=a)).map (·.2)
def dR(L:List (α×β)):Prop:=L.Pairwise λx y=>x.1≠y.1
def dropL(L:List (α×β))(a:α):List (α×β):=L.filter λx=>decide (x.1≠a)
def putL(L:List (α×β))(a:α)(v:β):List (α×β):=(a,v)::dropL L a
variable{L aeL:List (α×β)}{a b:α}{v:β}
def Gi:lk ([]:List (α×β)) a=none:=rfl
def dX(h:lk L a=some v):(a,v)∈L:=by
 unfold lk at h;cases c:L.find? (λx=>decide (x.1=a))with
 |none=>rw[c]at h;cases h
 |some x=>rw[c]at h;have d:=List.find?_some c;have e:=Cu c;simp at h d;obtain⟨f,i⟩:=x;simp at h d;subst h d;exact e
def zw(h:lk L a=none):∀x∈L,x.1≠a:=λx d e=>by
 unfold lk at h;cases c:L.find? (λx=>decide (x.1=a))with
 |none=>have:=vA.1 c x d;simp[e]at this
 |some y=>rw[c]at h;cases h
omit [DecidableEq α]in
def dR.eq(h:dR L){x y:α×β}(f:x∈L)(i:y∈L)(e:x.1=y.1):x=y:=by
 induction L with
 |nil=>cases f
 |cons c r ih=>obtain⟨d,j⟩:=n9.1 h;rcases dh.1 f with rfl|hx'<;>rcases dh.1 i with rfl|hy';rfl;exact absurd e (d y hy');exact absurd e.symm (d x hx');exact ih j hx' hy'
omit [DecidableEq α]in
def dR.perm(h:dR L)(p:L.Perm aeL):dR aeL:=(p.pairwise_iff (λ{_ _} hn=>eC hn)).1 h
def dR.lk(h:dR L)(d:(a,v)∈L):lk L a=some v:=by
 cases c:Go.Proofs.YtemcfhlbmhbjeaaGreatDoor.lk L a with
 |none=>exact absurd O (zw c _ d)
 |some u=>rw[show u=v from bH Prod.snd (h.eq (dX c) d rfl)]
def Se(h:dR L)(p:L.Perm aeL)(a:α):lk aeL a=lk L a:=by
 cases c:lk L a with
 |some u=>exact(h.perm p).lk (p.mem_iff.1 (dX c))
 |none=>
  cases d:lk aeL a with
  |none=>rfl
  |some u=>exact absurd O (zw c _ (p.mem_iff.2 (dX d)))
def wi(h:lk L a=none):dropL L a=L:=yq.2 λx c=>az (zw h x c)
def rz{x:α×β}:x∈dropL L a↔x∈L/\x.1≠a:=by simp[dropL,lD]
def dR.dropL(h:dR L)(a:α):dR (dropL L a):=List.Pairwise.sublist List.filter_sublist h
def dR.putL(h:dR L)(a:α)(v:β):dR (putL L a v):=n9.2 ⟨λx c=>eC (rz.1 c).2,h.dropL a⟩
def dR.split(h:dR L)(d:(a,v)∈L):L.Perm ((a,v)::Go.Proofs.YtemcfhlbmhbjeaaGreatDoor.dropL L a):=by
 induction L with
 |nil=>cases d
 |cons c r ih=>
  obtain⟨f,j⟩:=n9.1 h;rcases dh.1 d with rfl|hx'
  ·have:Go.Proofs.YtemcfhlbmhbjeaaGreatDoor.dropL ((a,v)::r) a=r:=by unfold Go.Proofs.YtemcfhlbmhbjeaaGreatDoor.dropL;rw[lC,al ah];exact yq.2 λx d=>by simpa using(f x d).symm
   rw[this]
  have i:c.1≠a:=λe=>f (a,v) hx' e;have:Go.Proofs.YtemcfhlbmhbjeaaGreatDoor.dropL (c::r) a=c::Go.Proofs.YtemcfhlbmhbjeaaGreatDoor.dropL r a:=by unfold Go.Proofs.YtemcfhlbmhbjeaaGreatDoor.dropL;rw[lC,av (az i)]
  rw[this];exact((ih j hx').cons c).trans (List.Perm.swap _ _ _)
def dR.drop_length(h:dR L)(c:(a,v)∈L):(Go.Proofs.YtemcfhlbmhbjeaaGreatDoor.dropL L a).length+1=L.length:=by have:=(h.split c).length_eq;simp at this;omega
def Jx(h:dR L)(a:α)(v:β):(putL L a v).length=if(lk L a).isSome then L.length else L.length+1:=by
 cases c:lk L a with
 |none=>simp[putL,wi c]
 |some u=>have:=h.drop_length (dX c);simp[putL];omega
def Jj(L:List (α×β))(a:α)(v:β):lk (putL L a v) a=some v:=by simp[lk,putL]
def ZD(L:List (α×β))(a:α):lk (dropL L a) a=none:=by
 cases c:lk (dropL L a) a with
 |none=>rfl
 |some u=>exact absurd O (rz.1 (dX c)).2
def IY(L:List (α×β)){a b:α}(c:b≠a):lk (dropL L a) b=lk L b:=by unfold lk dropL;rw[List.find?_filter];congr 2;funext x;by_cases e:x.1=b;simp[e,c];simp[e]
def ZB(L:List (α×β)){a b:α}(v:β)(c:b≠a):lk (putL L a v) b=lk L b:=by rw[<-IY L c];unfold lk putL;rw[List.find?_cons];simp[eC c]
def lH{x:α×β}:x∈putL L a v↔x=(a,v)\/(x∈L/\x.1≠a):=by simp[putL,rz]
end
section
variable{α β:Type}
def eR.kv(m:eR α β)(x:α×β):H×H:=(m.kc x.1,m.vc x.2)
structure bA(m:eR α β)(w:D)(b:Nat)(L:List (α×β)):Prop where
 ex:∃es clock,w.heap[b]? =some (.map es clock)/\Stamped es clock/\(es.toList.map eA).Perm (L.map m.kv)
 ok:∀x∈L,m.okk x.1
variable{m:eR α β}{w w':D}{b:Nat}{L aeL:List (α×β)}
def bA.lt(h:bA m w b L):b<w.heap.size:=by obtain⟨es,a,c,_⟩:=h.ex;exact(fI.1 c).1
def bA.same(h:bA m w b L)(e:w'.heap[b]? =w.heap[b]?):bA m w' b L:=by obtain⟨es,a,c,r⟩:=h.ex;exact⟨⟨es,a,e.trans c,r⟩,h.ok⟩
def bA.call(h:bA m w b L)(a:S w w'):bA m w' b L:=h.same (a.block b h.lt)
def bA.far(h:bA m w b L){p:Addr}(a:b≠p.block)(u:H):bA m (w.setCell p u) b L:=h.same (yr w p u b a)
def bA.fr(h:bA m w b L)(f:aH w w' g r)(a:b≠g)(c:some b≠r):bA m w' b L:=h.same (f.block b h.lt a c)
def bA.perm(h:bA m w b L)(p:L.Perm aeL):bA m w b aeL:=by obtain⟨es,a,f,i,c⟩:=h.ex;exact⟨⟨es,a,f,i,c.trans (p.map _)⟩,λe d=>h.ok e (p.mem_iff.2 d)⟩
def bA.ne_blk(h:bA m w b L){cs:Array H}(c:M w g t cs):b≠g:=λe=>by subst e;obtain⟨es,a,d,_⟩:=h.ex;unfold M at c;rw[c]at d;cases d
def bA.ndk(h:bA m w b L):dR L:=by obtain⟨es,a,l,k,d⟩:=h.ex;have i:=((sI _ _).1 k).2.2;have f:(es.toList.map eA).Pairwise (λx y=>x.1≠y.1):=yx.2 i;have j:=(d.pairwise_iff (λ{_ _} c=>eC c)).1 f;refine(yx.1 j).imp λc e=>c ?_;simp[eR.kv,e]
def we(c:(es.toList.map eA).Perm (L.map m.kv)){x:MapEntry}(f:x∈es.toList):∃e∈L,x.key=m.kc e.1/\x.val=m.vc e.2:=by have:=c.mem_iff.1 (dY.2 ⟨x,f,O⟩);obtain⟨e,d,a⟩:=dY.1 this;simp only[eR.kv,eA,ru]at a;exact⟨e,d,a.1.symm,a.2.symm⟩
def yR(c:m.Ok)(d:(es.toList.map eA).Perm (L.map m.kv))(a:∀e∈L,m.okk e.1):∀x∈es.toList,∃l,keyOf prog m.K x.key=some l:=λx i=>by obtain⟨e,h,f,_⟩:=we d i;rw[f];exact c.key _ (a e h)
def bA.made(m:eR α β)(w:D):bA m (w.alloc (.map #[] 0)) w.heap.size []:=⟨⟨#[],0,vP w _,stamped_empty 0,nZ _⟩,λ_ h=>aK h⟩
def bA.made_at(m:eR α β){w:D}{b:Nat}(h:w.heap.size=b):bA m (w.alloc (.map #[] 0)) b []:=by subst h;exact bA.made m w
variable[DecidableEq α]
def bA.look2(c:m.Ok)(h:bA m w b L){a:α}(u:m.okk a):(Instr.lookup m.T (.map (some b)) (m.kc a) true).run prog w=.ok (.tuple #[m.vc ((lk L a).getD m.aeU),.bool (lk L a).isSome]) w:=by
 have C:=h.ndk;obtain⟨es,p,s,J,o⟩:=h.ex;obtain⟨K,d⟩:=c.key a u;rcases c.law.find w d es.toList (yR c o h.ok)with⟨n,i⟩|⟨j,G,n,i,A⟩
 ·have y:lk L a=none:=by
   cases F:lk L a with
   |none=>rfl
   |some v=>exfalso;obtain⟨x,B,f⟩:=dY.1 (o.mem_iff.2 (dY.2 ⟨_,dX F,O⟩));simp only[eR.kv,eA,ru]at f;exact i x B f.1
  rw[y];simp[Instr.lookup,eT c.und,kS s,c.law.check w _ d,n,c.zero,Result.andThen]
 obtain⟨e,E,l,k⟩:=we o (cX i);obtain rfl:=c.inj _ _ (l.symm.trans A);rw[C.lk (v:=e.2) E];simp[Instr.lookup,eT c.und,kS s,c.law.check w _ d,n,Result.andThen,k]
def bA.look(c:m.Ok)(h:bA m w b L){a:α}(u:m.okk a):(Instr.lookup m.T (.map (some b)) (m.kc a) false).run prog w=.ok (m.vc ((lk L a).getD m.aeU)) w:=by
 have C:=h.ndk;obtain⟨es,p,s,J,o⟩:=h.ex;obtain⟨K,d⟩:=c.key a u;rcases c.law.find w d es.toList (yR c o h.ok)with⟨n,i⟩|⟨j,G,n,i,A⟩
 ·have y:lk L a=none:=by
   cases F:lk L a with
   |none=>rfl
   |some v=>exfalso;obtain⟨x,B,f⟩:=dY.1 (o.mem_iff.2 (dY.2 ⟨_,dX F,O⟩));simp only[eR.kv,eA,ru]at f;exact i x B f.1
  rw[y];simp[Instr.lookup,eT c.und,kS s,c.law.check w _ d,n,c.zero,Result.andThen]
 obtain⟨e,E,l,k⟩:=we o (cX i);obtain rfl:=c.inj _ _ (l.symm.trans A);rw[C.lk (v:=e.2) E];simp[Instr.lookup,eT c.und,kS s,c.law.check w _ d,n,Result.andThen,k]
omit [DecidableEq α]in
def yE(c:b<w.heap.size)(o:Obj):aH w (setBlock w b o) b none:=
 ⟨O,O,O,by simp[setBlock],λk _ a _=>by simp[setBlock,eC a]⟩
def ZX{j:Nat}{a:MapEntry}(e:es.toList[j]? =some a)(f:MapEntry->MapEntry):
  ∃r,es.toList.Perm (a::r)/\(es.modify j f).toList.Perm (f a::r):=by
 obtain⟨d,c⟩:=fN.1 e;have i:es.toList=es.toList.take j++a::es.toList.drop (j+1):=by rw[<-c,List.getElem_cons_drop,lV]
 have h:(es.modify j f).toList=es.toList.take j++f a::es.toList.drop (j+1):=by rw[Array.toList_modify,List.modify_eq_take_cons_drop d,c]
 exact⟨es.toList.take j++es.toList.drop (j+1),by rw(occs:=.pos [1]) [i];exact List.perm_middle,by rw[h];exact List.perm_middle⟩
def bA.put(c:m.Ok)(h:bA m w b L){a:α}(J:m.okk a)(v:β):
  ∃w',(Instr.mapUpdate m.T (.map (some b)) (m.kc a) (m.vc v)).run prog w=.ok () w'/\bA m w' b (putL L a v)/\aH w w' b none:=by
 have X:=h.ndk;have p:=h.lt;have A:=h.ok;obtain⟨es,d,o,P,y⟩:=h.ex;obtain⟨kl,f⟩:=c.key a J;have i:∀x∈putL L a v,m.okk x.1:=λx k=>by rcases lH.1 k with rfl|⟨k,_⟩;exact J;exact A x k
 rcases c.law.find w f es.toList (yR c y A)with⟨E,l⟩|⟨j,B,E,l,G⟩
 ·have R:lk L a=none:=by
   cases hc:lk L a with
   |none=>rfl
   |some v=>exfalso;obtain⟨x,k,s⟩:=dY.1 (y.mem_iff.2 (dY.2 ⟨_,dX hc,O⟩));simp only[eR.kv,eA,ru]at s;exact l x k s.1
  refine⟨setBlock w b (.map (es.push ⟨m.kc a,m.vc v,d⟩) (d+1)),?_,⟨⟨_,_,sC o _,stamped_push P l,?_⟩,i⟩,yE p _⟩;simp[Instr.mapUpdate,eT c.und,kS o,c.law.check w false f,E,sD _ o,Result.andThen,setBlock];rw[Array.toList_push,jh,putL,wi R,cW];exact(y.append (nZ _)).trans (List.perm_append_comm (l₂:=[_]))
 obtain⟨e,he,u,C⟩:=we y (cX l);obtain rfl:=c.inj _ _ (u.symm.trans G);obtain⟨r,W,Q⟩:=ZX l (λF=>{F with key:=m.kc e.1,val:=m.vc v});refine⟨setBlock w b (.map (es.modify j λF=>{F with key:=m.kc e.1,val:=m.vc v}) d),?_,⟨⟨_,_,sC o _,stamped_modify P j _ (λ_ _=>rfl) (λx _ k=>?_),?_⟩,i⟩,yE p _⟩
 ·have n:es[j]? =some B:=by rw[<-i5];exact l
  simp[Instr.mapUpdate,eT c.und,kS o,c.law.check w false f,E,n,G,c.law.stays w f,sD _ o,Result.andThen,setBlock]
 ·have n:es[j]? =some B:=by rw[<-i5];exact l
  rw[n]at k;obtain rfl:=eZ k;exact G.symm
 have K:=(W.map eA).symm.trans (y.trans ((X.split (a:=e.1) (v:=e.2) he).map m.kv));rw[cW,cW,show eA B=m.kv (e.1,e.2)by simp[eA,eR.kv,u,C]]at K;have q2:=K.cons_inv;refine(Q.map eA).trans ?_;rw[cW,putL,cW];exact q2.cons _
omit [DecidableEq α]in
def bA.len(c:m.Ok)(h:bA m w b L)(ty:ay):(Builtin.len_ #[m.T] ty #[.map (some b)]).run prog w=.ok (Z L.length) w:=by obtain⟨es,a,f,i,d⟩:=h.ex;have e:es.size=L.length:=az d.length_eq;simp[Builtin.len_,eT c.und,kS f,goInt,Result.andThen,e]
def bA.drop(c:m.Ok)(h:bA m w b L){a:α}(G:m.okk a)(ty:ay):
  ∃w',(Builtin.delete_ #[m.T,m.K] ty #[.map (some b),m.kc a]).run prog w=.ok (.tuple #[]) w'/\bA m w' b (dropL L a)/\aH w w' b none:=by
 have Q:=h.ndk;have l:=h.lt;have i:=h.ok;obtain⟨es,d,k,C,p⟩:=h.ex;obtain⟨kl,f⟩:=c.key a G;rcases c.law.find w f es.toList (yR c p i)with⟨A,u⟩|⟨j,F,A,u,P⟩
 ·have J:lk L a=none:=by
   cases X:lk L a with
   |none=>rfl
   |some v=>exfalso;obtain⟨x,s,n⟩:=dY.1 (p.mem_iff.2 (dY.2 ⟨_,dX X,O⟩));simp only[eR.kv,eA,ru]at n;exact u x s n.1
  refine⟨setBlock w b (.map es d),?_,⟨⟨es,d,sC k _,C,by rw[wi J];exact p⟩,λx s=>i x (rz.1 s).1⟩,yE l _⟩;simp[Builtin.delete_,eT c.und,kS k,c.law.check w _ f,A,sD _ k,Result.andThen,setBlock]
 obtain⟨e,W,o,y⟩:=we p (cX u);obtain rfl:=c.inj _ _ (o.symm.trans P);obtain⟨E,R⟩:=Ei u;refine⟨setBlock w b (.map (es.eraseIdxIfInBounds j) d),?_,⟨⟨_,_,sC k _,Cz C j,?_⟩,λx s=>i x (rz.1 s).1⟩,yE l _⟩;simp[Builtin.delete_,eT c.und,kS k,c.law.check w _ f,A,sD _ k,Result.andThen,setBlock];rw[E];have B:=(R.map eA).symm.trans (p.trans ((Q.split (a:=e.1) (v:=e.2) W).map m.kv));simp only[cW]at B;rw[show eA F=m.kv (e.1,e.2)by simp[eA,eR.kv,o,y]]at B;exact B.cons_inv
omit [DecidableEq α]in
structure fP(m:eR α β)(w:D)(b r:Nat)(left kept:List (α×β)):Prop where
 ex:∃es clock since seen c0,w.heap[b]? =some (.map es clock)/\Stamped es clock/\w.heap[r]? =some (.mapIter (some b) since seen c0)/\(∀x∈es.toList,x.born<since)/\since<=c0/\since<=clock/\
  ((es.toList.filter λx=> !seen.contains x.born).map eA).Perm (left.map m.kv)/\((es.toList.filter λx=>seen.contains x.born).map eA).Perm (kept.map m.kv)
 ok:∀e∈left++kept,m.okk e.1
variable{r:Nat}{left kept:List (α×β)}
omit [DecidableEq α]
def fP.map(h:fP m w b r left kept):bA m w b (left++kept):=by obtain⟨es,a,c,seen,o,f,i,k,l,j,n,d,e⟩:=h.ex;refine⟨⟨es,a,f,i,?_⟩,h.ok⟩;have:=(Dm (λx:MapEntry=>seen.contains x.born) es.toList).map eA;rw[jh]at this⊢;exact this.trans (d.append e)
def fP.lt(h:fP m w b r left kept):r<w.heap.size:=by obtain⟨es,c,a,seen,i,e,f,d,_⟩:=h.ex;exact(fI.1 d).1
def fP.ne(h:fP m w b r left kept):r≠b:=λe=>by obtain⟨es,c,a,seen,j,d,i,f,_⟩:=h.ex;subst e;rw[f]at d;cases d
def fP.same(h:fP m w b r left kept)(d:w'.heap[b]? =w.heap[b]?)(l:w'.heap[r]? =w.heap[r]?):fP m w' b r left kept:=by obtain⟨es,c,a,seen,k,i,j,e,f⟩:=h.ex;exact⟨⟨es,c,a,seen,k,d.trans i,j,l.trans e,f⟩,h.ok⟩
def fP.call(h:fP m w b r left kept)(a:S w w'):fP m w' b r left kept:=h.same (a.block b h.map.lt) (a.block r h.lt)
def bA.range(d:m.Ok)(h:bA m w b L):∃w',(Instr.range m.T (.map (some b))).run prog w=.ok (N w.heap.size) w'/\fP m w' b w.heap.size L []/\S w w'/\w'.heap.size=w.heap.size+1:=by have c:=h.lt;obtain⟨es,a,e,f,i⟩:=h.ex;refine⟨_,run_range_map w _ _ _ b es a d.und e,⟨⟨es,a,a,#[],a,?_,f,vP w _,((sI _ _).1 f).1,ao _,ao _,?_,?_⟩,?_⟩,(aq _ _).alloc (ao _) _,ah⟩;rw[(MapKept.heap_alloc w _).2 b c];exact e;rw[yq.2 (λx _=>ah)];exact i;simp;simpa using h.ok
def fP.next(h:fP m w b r left kept)(ty:ay):
  (left=[]/\(Instr.next (N r) false ty).run prog w=.ok (.tuple #[.bool false]) w)\/
  ∃e l w',left.Perm (e::l)/\(Instr.next (N r) false ty).run prog w=.ok (.tuple #[.bool true,m.kc e.1,m.vc e.2]) w'/\
   fP m w' b r l (e::kept)/\aH w w' r none/\(Instr.entry (N r)).run prog w'=.ok (.tuple #[m.kc e.1,m.vc e.2]) w':=by
 have W:=h.ne;have ζ:=h.lt;obtain⟨es,c,d,seen,c0,hb,hs,hr,p,δ,E,hl,hk⟩:=h.ex;have v:=(sI es c).1 hs;rcases run_next_at (P:=prog) w ty r b d c0 seen es c hr hb p δ with⟨h0,i⟩|⟨f,X,T,B,i⟩;refine .inl ⟨?_,i⟩;have:(leftOf es seen).toList.length=0:=az h0;rw[JC]at this;have h1:=hl.length_eq;simp only[j3]at h1;exact lR V;obtain⟨o,A⟩:=mem_left X;have R:eA f∈left.map m.kv:=hl.mem_iff.1 (dY.2 ⟨f,lD.2 ⟨o,by rw[A];rfl⟩,O⟩);obtain⟨e,he,n⟩:=dY.1 R;obtain⟨sl,tl,J⟩:=List.append_of_mem he;have u:left.Perm (e::(sl++tl)):=by rw[J];exact List.perm_middle
 have F:f.key=m.kc e.1:=(bH Prod.fst n).symm;have G:f.val=m.vc e.2:=(bH Prod.snd n).symm;have γ:T.heap[r]? =some (.mapIter (some b) d seen c0):=by rcases B with rfl|rfl<;>exact hr
 have ε:T.heap[b]? =some (.map es c):=by rcases B with rfl|rfl<;>exact hb
 have j:=MapKept.heap_set (o':=.mapIter (some b) d (seen.push f.born) c) γ;have Q:(setBlock T r (.mapIter (some b) d (seen.push f.born) c)).heap[b]? =some (.map es c):=(j.2 b (λe1=>W e1.symm)).trans ε;have y:=vU es.toList (λx=>seen.contains x.born) (λx=>(seen.push f.born).contains x.born) f v.2.1 o A (λx _=>contains_push ..);have s:=vU es.toList (λx=> !(seen.push f.born).contains x.born) (λx=> !seen.contains x.born) f v.2.1 o ah (λx _=>by rw[contains_push];by_cases hx:x.born=f.born;rw[hx,A];simp;rw[show(x.born==f.born)=false from fH.2 hx];simp);rw[F,G]at i;refine .inr ⟨e,sl++tl,_,u,i,⟨⟨es,c,d,seen.push f.born,c,Q,hs,j.1,p,E,E,?_,?_⟩,?_⟩,?_,?_⟩;have C:=(s.map eA).symm.trans (hl.trans (u.map m.kv));simp only[cW]at C;rw[<-n]at C;exact C.cons_inv;have C:=(y.map eA);simp only[cW]at C⊢;rw[n];exact C.trans (hk.cons _);intro x hx;refine h.ok x ?_;have K:=u.mem_iff (a:=x);simp only[bP,dh]at hx K⊢;rcases hx with hx|rfl|hx;exact .inl (K.2 (.inr hx));exact .inl he;exact .inr hx
 ·rcases B with rfl|rfl<;>exact⟨rfl,rfl,rfl,by simp[setBlock],λk _ hk _=>j.2 k hk⟩
 rw[<-F,<-G];exact run_entry_at _ r b d seen es c f j.1 Q o v.2.1
end
def uV{β:Type}(E T:ay)(b:β->H)(a:β):eR Int β:=⟨31,E,T,λx=>q x,b,a,λx=>0<=x/\x<=18446744073709551615⟩
def wy{β:Type}{E T:ay}{d:β->H}{c:β}(f:prog.underlying T=some (.map 31 E))(i:∀w,(zeroValue E).run prog w=.ok (d c) w):(uV E T d c).Ok:=
 ⟨Go.Maps.int_keyed underlying31,f,λa e=>⟨_,Go.Maps.keyOf_int_mk underlying31 (by simp[Lit.wf,IntKind.min,IntKind.max,IntKind.signed,IntKind.bits];exact e)⟩,λa b h=>by injection h,i⟩
end
structure aa(F:Nat->Prop)(w w':D):Prop where
 os:w'.os=w.os
 tape:w'.tape=w.tape
 output:w'.output=w.output
 size:w.heap.size<=w'.heap.size
 block:∀k,k<w.heap.size->¬F k->w'.heap[k]? =w.heap[k]?
def bC:Nat->Prop:=λ_=>False
def aR(g:Nat):Nat->Prop:=λk=>k=g
def Hc(F G:Nat->Prop):Nat->Prop:=λk=>F k\/G k
def dF(F:Nat->Prop)(w w':D):Nat->Prop:=λk=>F k\/(w.heap.size<=k/\k<w'.heap.size)
def jP(F:Nat->Prop)(w:D):Prop:=∀k,F k->k<w.heap.size
def dJ(F G:Nat->Prop):Prop:=∀k,F k->G k->False
section
variable{F G aeJ:Nat->Prop}{w w' w'' w0:D}
def aa.refl:aa F w w:=⟨O,O,O,ao _,λ_ _ _=>rfl⟩
def aa.trans(a:aa F w w')(b:aa F w' w''):aa F w w'':=
 ⟨b.os.trans a.os,b.tape.trans a.tape,b.output.trans a.output,aZ a.size b.size,λk c h=>(b.block k (ee c a.size) h).trans (a.block k c h)⟩
def aa.trans'(a:aa F w w')(b:aa G w' w'')(h:∀k,k<w.heap.size->G k->F k):aa F w w'':=
 ⟨b.os.trans a.os,b.tape.trans a.tape,b.output.trans a.output,aZ a.size b.size,λk c d=>(b.block k (ee c a.size) (λe=>d (h k c e))).trans (a.block k c d)⟩
def aa.mono(a:aa F w w')(h:∀k,F k->G k):aa G w w':=⟨a.os,a.tape,a.output,a.size,λk c b=>a.block k c λd=>b (h k d)⟩
def aa.of_below(b:S w w'):aa F w w':=⟨b.os,b.tape,b.output,b.size,λk a _=>b.block k a⟩
def aa.below(a:aa F w w')(h:∀k,k<w.heap.size->¬F k):S w w':=⟨a.os,a.tape,a.output,a.size,λk b=>a.block k b (h k b)⟩
def aa.no(a:aa bC w w'):S w w':=a.below λ_ _ h=>h
def aa.of_fr(f:aH w w' g r)(d:F g)(b:∀k,r=some k->F k):aa F w w':=
 ⟨f.os,f.tape,f.output,f.size,λk c a=>f.block k c (λe=>a (e▸d)) (λe=>a (b k e.symm))⟩
def aa.of_fr1(f:aH w w' g none)(a:F g):aa F w w':=aa.of_fr f a λ_ h=>aK h
def aa.of_grown(g:w.grownBy w' r)(h:∀k,r=some k->F k):aa F w w':=
 ⟨g.os,g.tape,g.output,g.size,λk a b=>g.block k a λe=>b (h k e.symm)⟩
def aa.drew:aa F w w.drew:=aa.of_below (aq _ _).drew
def aa.drewN(n:Nat):aa F w (w.drewN n):=aa.of_below (j7 (aq _ _) n)
def aa.alloc(o:Obj):aa F w (w.alloc o):=aa.of_below ((aq _ _).alloc (ao _) o)
def aa.set(p:Addr)(h:F p.block)(u:H):aa F w (w.setCell p u):=aa.of_fr1 (aH.of_set p O u) h
def aa.call(a:aa F w w')(b:S w' w''):aa F w w'':=a.trans' (aa.of_below (F:=bC) b) λ_ _ h=>h.elim
def aa.setOld(a:aa F w w')(p:Addr)(h:F p.block\/w.heap.size<=p.block)(u:H):aa F w (w'.setCell p u):=
 a.trans' (aa.set (F:=aR p.block) (w:=w') p O u) λk b e=>by have e:k=p.block:=e;subst e;rcases h with h|h;exact h;omega
def aa.blk{cs:Array H}(a:aa F w w')(b:M w g t cs)(h:¬F g):M w' g t cs:=(a.block g b.lt h).trans b
def aa.gmap{α β:Type}{m:eR α β}{b:Nat}{L:List (α×β)}(a:aa F w w')(h:bA m w b L)(c:¬F b):bA m w' b L:=h.same (a.block b h.lt c)
def aa.row{α:Type}{c:α->Array H}{sz base:Nat}{e:ay}{v:H}{L:List α}(a:aa F w w')(h:Row w base e sz c v L)(l:∀g,v.ownBlock=some g->¬F g):Row w' base e sz c v L:=by refine⟨h.1,?_⟩;rcases h.2 with j|⟨g,f,d,rfl,k,i,b⟩;exact .inl j;exact .inr ⟨g,f,d,O,k,(a.block g (M.lt i) (l g O)).trans i,b⟩
def dF.inH(h:jP F w)(a:w.heap.size<=w'.heap.size):jP (dF F w w') w':=λk hk=>by rcases hk with hk|hk;exact ee (h k hk) a;exact hk.2
def jP.mono(h:jP F w)(a:w.heap.size<=w'.heap.size):jP F w':=λk b=>ee (h k b) a
def dJ.symm(h:dJ F G):dJ G F:=λk a b=>h k b a
end
def ax(w:D)(bs:List (Nat×ay×Array H)):Prop:=∀g t a,(g,t,a)∈bs->M w g t a
@[reducible] def kC(F:Nat->Prop):List (Nat×ay×Array H)->Prop
 |[]=>True
 |(g,_,_)::r=>¬F g/\kC F r
def kC.o{F:Nat->Prop}:∀{bs:List (Nat×ay×Array H)},kC F bs->∀g t cs,(g,t,cs)∈bs->¬F g
 |(_,_,_)::_,h,_,_,_,hm=>by rcases dh.1 hm with e|hm;cases e;exact h.1;exact kC.o h.2 _ _ _ hm
section
variable{F:Nat->Prop}{w w':D}{bs:List (Nat×ay×Array H)}{g:Nat}{t:ay}{cs:Array H}
def ax.nil:ax w []:=λ_ _ _ h=>aK h
def ax.cons(b:M w g t cs)(h:ax w bs):ax w ((g,t,cs)::bs):=λd c a hm=>by rcases dh.1 hm with e|hm;cases e;exact b;exact h _ _ _ hm
def ax.push(h:ax w bs)(c:w.heap.size=g):ax (w.alloc (.cells cs t)) ((g,t,cs)::bs):=
 ax.cons (M.new_at c O) λe d b a=>(h _ _ _ a).alloc _
def ax.alloc(h:ax w bs)(o:Obj):ax (w.alloc o) bs:=λ_ _ _ a=>(h _ _ _ a).alloc _
def ax.drew(h:ax w bs):ax w.drew bs:=h
def ax.drewN(h:ax w bs)(n:Nat):ax (w.drewN n) bs:=h
def ax.call(h:ax w bs)(b:S w w'):ax w' bs:=λ_ _ _ a=>(h _ _ _ a).below b (h _ _ _ a).lt
def ax.mod(h:ax w bs)(a:aa F w w')(c:kC F bs):ax w' bs:=λ_ _ _ b=>a.blk (h _ _ _ b) (c.o _ _ _ b)
def ax.perm{cs:List (Nat×ay×Array H)}(h:ax w bs)(a:∀x∈cs,x∈bs):ax w cs:=λ_ _ _ b=>h _ _ _ (a _ b)
def ax.drop(h:ax w ((g,t,cs)::bs)):ax w bs:=λ_ _ _ a=>h _ _ _ (dC _ a)
def ax.head(h:ax w ((g,t,cs)::bs)):M w g t cs:=h _ _ _ cz
def ax.set_(h:ax w ((g,t,cs)::bs))(b:gv g bs)(i:Nat)(u:H):ax (w.setCell (I g i) u) ((g,t,cs.setIfInBounds i u)::bs):=
 ax.cons (h.head.set_ i u) λe d c a=>(h.drop _ _ _ a).far (p:=(I g i)) (b.o _ _ _ a) u
def ax.rules(h:ax w bs):xK w bs:=by
 induction bs with
 |nil=>trivial
 |cons x r ih=>obtain⟨g,t,cs⟩:=x;exact⟨h.head.cell,h.head.frozen,ih h.drop⟩
def ax.lts(h:ax w bs):Ck w bs:=by
 induction bs with
 |nil=>trivial
 |cons x r ih=>obtain⟨g,t,cs⟩:=x;exact⟨h.head.lt,ih h.drop⟩
end
def P2(e:z)(hv:e.ok)(h:ol e=true)(w:D):Calls prog 117 #[.agg (aj e)] w λr X=>r=.returned (.bool (ib e&&decide (nx e=e.bare)))/\S w X:=by
 obtain⟨k,G,y,j,f,L,J⟩:=Dr e h;have K:=U (sX e.o true (by rw[y];exact s5 k G));have d1:decide (e.s<1)=false:=az j;have d2:decide (1099511627776<=e.s)=false:=az f;have s1:IntKind.u64.wrap (e.s-1)=e.s-1:=tU _ V;have o1:IntKind.i64.wrap (e.o-1)=(k:Int):=by rw[y];simp;exact bS _ V
 have i1:(0:Int)<=(k:Int):=V;have i2:(k:Int)<6:=V;have g1:=uB e k G;have n1:(e.d.get k !=e.s-1)=false:=by simpa[bne]using L
 have hm:decide (1099511627776<=nM e.d 5)=false:=by rw[J5,J];rfl
 have F:=U λW hc=>KO w.heap.size e.d W hc;obtain⟨B,a⟩:=aM (ib e);have v:=U a;have A:=λ(W:D) (T:aI w W [(w.heap.size+1,286,aj e),(w.heap.size,64,aj e)])=>NO T (qi _) ⟨V,trivial⟩;rw[a]at A;have P:=U A;clear y h L J a A;rcases(show B=false\/B=true from by cases B<;>simp)with rfl|rfl
 ·go_wp2;go_quiet ((go_at_call 139;exact eE ((K.o _).mono λ_ _ ⟨j,f⟩=>⟨j,f.symm⟩)));have n:=((aI.nil w).push (t:=64) (cs:=aj e) O).drewN nq;go_wp2_with fail;refine(F.o _ ?hc).mono ?_
  (case hc=>exact λi C=>((n.blk _ _ _ cz).cell (2+i)).trans (uB e i C))
  rintro r Q ⟨rfl,rfl⟩;go_wp2_with fail;have u:=n.push (t:=286) (cs:=aj e) (g:=w.heap.size+1) ah;refine IV 3 Y Y ai Y Y ?_;simp only[cR];have E:=u.drew;go_wp2_with (go_at_call 141;(apply(P.o _ E).mono);rintro r w2 ⟨rfl,e',c,-⟩);obtain⟨R,-,q1,-,-⟩:=c.rules;obtain⟨l0,l1,-⟩:=c.lts;refine Hw ?_
  repeat (go_big_quiet_step (fail))
  refine qa ?_;rintro p ⟨x,rfl⟩;have m:=c.call x.below;generalize x.w=p at m;go_wp2;go_ret;refine⟨?_,m.below⟩;rw[v.o];rfl
 go_wp2;go_quiet ((go_at_call 139;exact eE ((K.o _).mono λ_ _ ⟨j,f⟩=>⟨j,f.symm⟩)));have n:=((aI.nil w).push (t:=64) (cs:=aj e) O).drewN nq;go_wp2_with fail;refine(F.o _ ?hc).mono ?_
 (case hc=>exact λi C=>((n.blk _ _ _ cz).cell (2+i)).trans (uB e i C))
 rintro r Q ⟨rfl,rfl⟩;go_wp2_with fail;have u:=n.push (t:=286) (cs:=aj e) (g:=w.heap.size+1) ah;refine IV 3 Y Y ai Y Y ?_;simp only[cR];have E:=u.drew;go_wp2_with (go_at_call 141;(apply(P.o _ E).mono);rintro r w2 ⟨rfl,e',c,l⟩;have HE:=U l;clear l);obtain⟨R,-,q1,-,-⟩:=c.rules;obtain⟨l0,l1,-⟩:=c.lts;refine Hw ?_
 repeat (go_big_quiet_step (fail))
 refine qa ?_;rintro p ⟨x,rfl⟩;have m:=c.call x.below;generalize x.w=p at m;go_wp2;go_ret;refine⟨?_,m.below⟩;rw[v.o,Bool.true_and,<-HE.o v.o];rfl
def Yt(e:z)(a:e.ok)(w:D):Calls prog 117 #[.agg (aj e)] w λr b=>r=.returned (.bool (bG e))/\S w b:=by
 unfold bG;cases h:ol e with
 |false=>exact SP e a h w
 |true=>rw[Bool.true_and];exact P2 e a h w
def lf(e:z)(c:e.ok)(b:Bool)(h:bG e=b)(w:D):Calls prog 117 #[.agg (aj e)] w λr a=>r=.returned (.bool b)/\S w a:=by subst h;exact Yt e c w
