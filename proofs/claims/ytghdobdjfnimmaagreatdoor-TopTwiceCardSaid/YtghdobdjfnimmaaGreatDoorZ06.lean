import Derived.Test.YtghdobdjfnimmaaGreatDoorZ03
set_option maxRecDepth 100000
set_option maxHeartbeats 0
set_option linter.all false
namespace Go.Proofs.YtghdobdjfnimmaaGreatDoor
open Go.Proofs.Tryz
section
open Go.RowKit Go
section
variable{P:Program}{α:Type}{c:α->Array Yv}{sz:Nat}{e:Yw}
theorem Row.app(w:Yu)(t ty:Yw)(i:TypeInfo)(z:Yv)(bytes:Nat)(E:P.underlying t=some (.slice e))(Q:P.info? e=some i)(J:i.zero=some z)(d:i.size=sz)(o:i.bytes=bytes)(q:z.cells.size=sz)(n:0<sz)
  (T:∀x,(c x).size=sz) (G:∀x,∀u∈(c x).toList,u.oneCell'=true) {base:Nat} {v:Yv} {L:List α} (h:Row w base e sz c v L) {B:Nat} {A:Option Addr} {cap:Nat} {M:List α} (K:Rd w B sz A M.length (cC c M))
  (S:L.length+M.length<=1000000) (l:bytes<=1000) (f:base<=w.heap.size):
  ∃j w',(iy t ty v (.slice A M.length cap)).run P w=.ok (.value j) w'/\Row w' base e sz c j (L++M)/\Kt base [e] w w'/\w.grownBy w' v.ownBlock/\(j.ownBlock=v.ownBlock\/∀b,j.ownBlock=some b->w.heap.size<=b):=by
 obtain⟨j,w',k,D,O,s,H⟩:=oy (P:=P) w base t ty e i z sz bytes E Q J d o q n v L.length (cC c L) h B A M.length cap (cC c M) K
  (λu N=>by obtain⟨x,_,R⟩:=DU M u N;exact G x u R) (by unfold maxLen;omega) (by
   have:(L.length+M.length)*bytes<=1000000*1000:=Nat.mul_le_mul S l;omega) f
 refine⟨j,w',oK k,?_,⟨O,λg t' cs a m=>?_⟩,s,H⟩
 ·unfold Row
  rw[nX,Vl];exact D
 ·unfold ai at a⊢
  rw[s.block g (Vv.1 a).1 ?_]
  ·exact a
  ·intro C
   rcases h.2 with⟨rfl,_⟩|⟨I,r,cur,rfl,_,F,_⟩
   ·simp[Value.ownBlock]at C
   ·have:g=I:=by simpa[Value.ownBlock]using C
    subst this;rw[F]at a;injection a with a;injection a with _ a;exact m (by simp[a])
end
def oq{α:Type}(p:α->Bool)(L:List α):Int:=match L.findIdx? p with|some k=>(k:Int)|none=>-1
section
variable{α:Type}{p:α->Bool}{L:List α}
theorem zH(h:∀x∈L,p x=false):oq p L=-1:=by
 unfold oq;rw[X9.2 h]
theorem zG{k:Nat}{x:α}(b:L[k]? =some x)(g:p x=true)(h:∀j,j<k->∀y,L[j]? =some y->p y=false):oq p L=k:=by
 unfold oq;obtain⟨a,f⟩:=Vx.1 b;rw[Xl.2 ⟨a,by rw[f];exact g,λj d=>by simpa using h j d _ (Ve (by omega))⟩]
theorem pn(p:α->Bool)(L:List α):(oq p L=-1/\∀x∈L,p x=false)\/∃(k:Nat) (x:α),oq p L=k/\L[k]? =some x/\p x=true:=by
 unfold oq;cases h:L.findIdx? p with
 |none=>exact .inl ⟨rfl,X9.1 h⟩
 |some k=>
  obtain⟨a,b,_⟩:=Xl.1 h;exact .inr ⟨k,L[k],rfl,Ve a,b⟩
end
def o4(x:Int):Array Yv:=#[.int .u64 x]
theorem cY(x:Int):(o4 x).size=1:=rfl
theorem zx(x:Int):∀u∈(o4 x).toList,u.oneCell'=true:=by intro u a;simp[o4]at a;subst a;rfl
structure Nd where
 id:Int
 p:Int
 r:Nat->Int
def jG(x:Nd):Array Yv:=#[.int .u64 x.id,.int .u64 x.p]++aG x.r
theorem eJ(x:Nd):(jG x).size=56:=by simp[jG,dZ]
theorem Cv(x:Nd):(jG x)[0]? =some (.int .u64 x.id):=by unfold jG;rw[Array.getElem?_append_left (by simp)];rfl
theorem Iw(x:Nd)(j:Nat):(jG x)[2+j]? =(aG x.r)[j]?:=by
 unfold jG;rw[Array.getElem?_append_right (by simp)];simp
theorem uC(x:Nd):∀u∈(jG x).toList,u.oneCell'=true:=by
 intro u hu;simp only[jG,Array.toList_append,Vw]at hu;rcases hu with hu|hu
 ·simp at hu;rcases hu with rfl|rfl<;>rfl
 ·exact VL.1 (pq x.r) u (by simpa using hu)
theorem Gp(x:Nd):(jG x).all (·.oneCell')=true:=VL.2 λu a=>uC x u (by simpa using a)
def Nd.zero:Nd:=⟨0,0,z0⟩
@[go_sem] theorem Oz:#[.int .u64 0,.int .u64 0,.int .i64 0,.int .i64 0,.int .i64 0,.int .i64 0,.int .i64 0,.int .i64 0,.int .i64 0,.int .i64 0,.int .i64 0,.int .i64 0,.int .i64 0,.int .i64 0,.int .i64 0,.int .i64 0,.int .i64 0,.int .i64 0,.int .i64 0,.int .i64 0,.int .i64 0,.int .i64 0,.int .i64 0,.int .i64 0,.int .i64 0,.int .i64 0,.int .i64 0,.int .i64 0,.int .i64 0,.int .i64 0,.int .i64 0,.int .i64 0,.int .i64 0,.int .i64 0,.int .i64 0,.int .i64 0,.int .i64 0,.int .i64 0,.int .i64 0,.int .i64 0,.int .i64 0,.int .i64 0,.int .i64 0,.int .i64 0,.int .i64 0,.int .i64 0,.int .i64 0,.int .i64 0,.int .i64 0,.int .i64 0,.int .i64 0,.int .i64 0,.int .i64 0,.int .i64 0,.int .i64 0,.int .i64 0]=jG Nd.zero:=by kernel_rfl
structure gF where
 o:Int
 r:Int
 n:Int
 a:Int
 b:Int
def eu(x:gF):Array Yv:=#[.int .i64 x.o,.int .u64 x.r,.int .u64 x.n,.int .i64 x.a,.int .u64 x.b]
theorem eL(x:gF):(eu x).size=5:=rfl
theorem pW(x:gF):∀u∈(eu x).toList,u.oneCell'=true:=by intro u a;simp[eu]at a;rcases a with rfl|rfl|rfl|rfl|rfl<;>rfl
theorem s9(x:gF):(eu x).all (·.oneCell')=true:=VL.2 λu a=>pW x u (by simpa using a)
theorem Lq:(prog.info? 85).map (λi=>(i.zero,i.size,i.bytes))=some (some (.agg #[.int .i64 0,.int .u64 0,.int .u64 0,.int .i64 0,.int .u64 0]),5,40):=by kernel_rfl
theorem Lo:(prog.info? 82).map (λi=>(i.zero,i.size,i.bytes))=some (some (.agg #[.int .u64 0,.int .u64 0,.int .i64 0,.int .i64 0,.int .i64 0,.int .i64 0,.int .i64 0,.int .i64 0,.int .i64 0,.int .i64 0,.int .i64 0,.int .i64 0,.int .i64 0,.int .i64 0,.int .i64 0,.int .i64 0,.int .i64 0,.int .i64 0,.int .i64 0,.int .i64 0,.int .i64 0,.int .i64 0,.int .i64 0,.int .i64 0,.int .i64 0,.int .i64 0,.int .i64 0,.int .i64 0,.int .i64 0,.int .i64 0,.int .i64 0,.int .i64 0,.int .i64 0,.int .i64 0,.int .i64 0,.int .i64 0,.int .i64 0,.int .i64 0,.int .i64 0,.int .i64 0,.int .i64 0,.int .i64 0,.int .i64 0,.int .i64 0,.int .i64 0,.int .i64 0,.int .i64 0,.int .i64 0,.int .i64 0,.int .i64 0,.int .i64 0,.int .i64 0,.int .i64 0,.int .i64 0,.int .i64 0,.int .i64 0]),56,448):=by kernel_rfl
theorem GG:(prog.info? 32).map (λi=>(i.zero,i.size,i.bytes))=some (some (.int .u64 0),1,8):=by kernel_rfl
theorem fQ(x:gF):(prog.info? 85).map (·.size)=some (eu x).size:=by rw[eL];kernel_rfl
theorem ki(x:Nd):(prog.info? 82).map (·.size)=some (jG x).size:=by rw[eJ];kernel_rfl
abbrev eM(w:Yu)(base:Nat)(v:Yv)(L:List Nd):Prop:=Row w base 82 56 jG v L
abbrev iH(w:Yu)(base:Nat)(v:Yv)(L:List gF):Prop:=Row w base 85 5 eu v L
abbrev ij(w:Yu)(base:Nat)(v:Yv)(L:List Int):Prop:=Row w base 32 1 o4 v L
section
variable{w:Yu}{base B:Nat}{v:Yv}{A:Option Addr}{cap:Nat}(ty:Yw)
theorem eM.app{L M:List Nd}(h:eM w base v L)(j:Rd w B 56 A M.length (cC jG M))(m:L.length+M.length<=1000000)(a:base<=w.heap.size):
  ∃d w',(iy 35 ty v (.slice A M.length cap)).run prog w=.ok (.value d) w'/\eM w' base d (L++M)/\Kt base [82] w w'/\w.grownBy w' v.ownBlock/\(d.ownBlock=v.ownBlock\/∀b,d.ownBlock=some b->w.heap.size<=b):=by
 obtain⟨f,l,g,i,k⟩:=V7 Lo;exact Row.app w 35 ty f _ 448 underlying35 l g i k rfl (by decide) eJ uC h (cap:=cap) j m (by decide) a
theorem iH.app{L M:List gF}(h:iH w base v L)(j:Rd w B 5 A M.length (cC eu M))(m:L.length+M.length<=1000000)(a:base<=w.heap.size):
  ∃d w',(iy 36 ty v (.slice A M.length cap)).run prog w=.ok (.value d) w'/\iH w' base d (L++M)/\Kt base [85] w w'/\w.grownBy w' v.ownBlock/\(d.ownBlock=v.ownBlock\/∀b,d.ownBlock=some b->w.heap.size<=b):=by
 obtain⟨f,l,g,i,k⟩:=V7 Lq;exact Row.app w 36 ty f _ 40 underlying36 l g i k rfl (by decide) eL pW h (cap:=cap) j m (by decide) a
theorem ij.app{L M:List Int}(h:ij w base v L)(j:Rd w B 1 A M.length (cC o4 M))(m:L.length+M.length<=1000000)(a:base<=w.heap.size):
  ∃d w',(iy 172 ty v (.slice A M.length cap)).run prog w=.ok (.value d) w'/\ij w' base d (L++M)/\Kt base [32] w w'/\w.grownBy w' v.ownBlock/\(d.ownBlock=v.ownBlock\/∀b,d.ownBlock=some b->w.heap.size<=b):=by
 obtain⟨f,l,g,i,k⟩:=V7 GG;exact Row.app w 172 ty f _ 8 underlying172 l g i k rfl (by decide) cY zx h (cap:=cap) j m (by decide) a
theorem dU{α:Type}{c:α->Array Yv}{sz:Nat}(b:∀x,(c x).size=sz){g:Nat}{t:Yw}{x:α}(h:ai w g t (c x)):Rd w (g+1) sz (some ⟨g,0,none⟩) [x].length (cC c [x]):=by
 refine⟨bN b [x],λ_=>⟨g,0,rfl,by omega,λj u a=>?_⟩⟩;rw[vw,VK]at a;rw[h.cell,Vk,a]
end
section
variable(ρ:Yx->Yv)(dst:Option Tmp)(x y z u:Yx)(ty:Yw)(pos:String)(after:Array Edge)(guard:Option (Nat×Bool))
@[go_sem ↓ high] theorem IV:execOp ρ {dst,op:=.load 82 x,type:=ty,pos,after,guard}=dR 82 (ρ x):=by simp[execOp,dR]
@[go_sem ↓ high] theorem IE:execOp ρ {dst,op:=.store 82 x y,type:=ty,pos,after,guard}=eR 82 (ρ x) (ρ y):=by simp[execOp,eR]
@[go_sem ↓ high] theorem IY:execOp ρ {dst,op:=.load 85 x,type:=ty,pos,after,guard}=dR 85 (ρ x):=by simp[execOp,dR]
@[go_sem ↓ high] theorem IG:execOp ρ {dst,op:=.store 85 x y,type:=ty,pos,after,guard}=eR 85 (ρ x) (ρ y):=by simp[execOp,eR]
@[go_sem ↓ high] theorem L8:execOp ρ {dst,op:=.call {callee:=.builtin .append,args:=#[x,y],argTypes:=#[35,35]},type:=ty,pos,after,guard}=iy 35 ty (ρ x) (ρ y):=by simp[execOp,iy,resolve,invoke,builtin]
@[go_sem ↓ high] theorem Ma:execOp ρ {dst,op:=.call {callee:=.builtin .append,args:=#[x,y],argTypes:=#[36,36]},type:=ty,pos,after,guard}=iy 36 ty (ρ x) (ρ y):=by simp[execOp,iy,resolve,invoke,builtin]
@[go_sem ↓ high] theorem LW:execOp ρ {dst,op:=.call {callee:=.builtin .append,args:=#[x,y],argTypes:=#[172,172]},type:=ty,pos,after,guard}=iy 172 ty (ρ x) (ρ y):=by simp[execOp,iy,resolve,invoke,builtin]
end
end
