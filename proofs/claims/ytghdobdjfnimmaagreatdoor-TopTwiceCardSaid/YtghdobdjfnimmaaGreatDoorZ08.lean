import Derived.Test.YtghdobdjfnimmaaGreatDoorZ05
import Derived.Test.YtghdobdjfnimmaaGreatDoorZ06
import Derived.Test.YtghdobdjfnimmaaGreatDoorZ07
set_option maxRecDepth 100000
set_option maxHeartbeats 0
set_option linter.all false
namespace Go.Proofs.YtghdobdjfnimmaaGreatDoor
open Go.Proofs.Tryz
variable{w w':Yu}{x1 x2 x3:Yx}{i id g k:Nat}{a:Act}{v u v1 v2:Yv}{l:List Oper}{F:aI}{t:Yw}{e:Ev}{Q:Exit->Act->Yu->Prop}{listed:Array Bool}{r:Option Nat}{es:Array MapEntry}
section
open Go.RowKit Go
open Go.ChangeMaps (setBlock heap_setBlock_same heap_setBlock_other)
open Go.MapKept (Stamped stamped_iff stamped_push stamped_erase stamped_empty stamped_modify)
open Go.Maps (Keyed)
structure MT(α β:Type) where
 K:Yw
 E:Yw
 T:Yw
 kc:α->Yv
 vc:β->Yv
 z:β
 okk:α->Prop
structure MT.Ok{α β:Type}(m:MT α β):Prop where
 law:Keyed prog m.K
 und:prog.underlying m.T=some (.map m.K m.E)
 key:∀a,m.okk a->∃l,keyOf prog m.K (m.kc a)=some l
 inj:∀a b,m.kc a=m.kc b->a=b
 zero:∀w,(zeroValue m.E).run prog w=.ok (m.vc m.z) w
section
variable{α β:Type}[DecidableEq α]
def lk(L:List (α×β))(a:α):Option β:=(L.find? λx=>decide (x.1=a)).map (·.2)
def jH(L:List (α×β)):Prop:=L.Pairwise λx y=>x.1≠y.1
def dropL(L:List (α×β))(a:α):List (α×β):=L.filter λx=>decide (x.1≠a)
def putL(L:List (α×β))(a:α)(v:β):List (α×β):=(a,v)::dropL L a
variable{L M:List (α×β)}{a b:α}{v:β}
theorem bK(h:lk L a=some v):(a,v)∈L:=by
 unfold lk at h;cases f:L.find? (λx=>decide (x.1=a))with
 |none=>rw[f]at h;cases h
 |some x=>
  rw[f]at h;have j:=List.find?_some f;have p:=List.mem_of_find?_eq_some f;simp at h j;obtain⟨x1,x2⟩:=x;simp at h j;subst h j;exact p
theorem oN(h:lk L a=none):∀x∈L,x.1≠a:=λx j e=>by
 unfold lk at h;cases f:L.find? (λx=>decide (x.1=a))with
 |none=>have:=XB.1 f x j;simp[e]at this
 |some y=>rw[f]at h;cases h
omit [DecidableEq α]in
theorem jH.eq(h:jH L){x y:α×β}(j:x∈L)(p:y∈L)(e:x.1=y.1):x=y:=by
 induction L with
 |nil=>cases j
 |cons c r ih=>
  obtain⟨f,q⟩:=Wk.1 h;rcases Vy.1 j with rfl|hx'<;>rcases Vy.1 p with rfl|hy'
  ·rfl
  ·exact absurd e (f y hy')
  ·exact absurd e.symm (f x hx')
  ·exact ih q hx' hy'
omit [DecidableEq α]in
theorem jH.perm(h:jH L)(p:L.Perm M):jH M:=(p.pairwise_iff (λ{_ _} hn=>V1 hn)).1 h
theorem jH.lk(h:jH L)(j:(a,v)∈L):lk L a=some v:=by
 cases f:Go.Proofs.YtghdobdjfnimmaaGreatDoor.lk L a with
 |none=>exact absurd rfl (oN f _ j)
 |some u=>rw[show u=v from Vt Prod.snd (h.eq (bK f) j rfl)]
theorem GB(h:jH L)(p:L.Perm M)(a:α):lk M a=lk L a:=by
 cases f:lk L a with
 |some u=>exact(h.perm p).lk (p.mem_iff.1 (bK f))
 |none=>
  cases j:lk M a with
  |none=>rfl
  |some u=>exact absurd rfl (oN f _ (p.mem_iff.2 (bK j)))
theorem jr(h:lk L a=none):dropL L a=L:=XW.2 λx f=>by simpa using oN h x f
theorem gV{x:α×β}:x∈dropL L a↔x∈L/\x.1≠a:=by simp[dropL,Xb]
theorem jH.dropL(h:jH L)(a:α):jH (dropL L a):=List.Pairwise.sublist List.filter_sublist h
theorem jH.putL(h:jH L)(a:α)(v:β):jH (putL L a v):=Wk.2 ⟨λx f=>V1 (gV.1 f).2,h.dropL a⟩
theorem jH.split(h:jH L)(f:(a,v)∈L):L.Perm ((a,v)::Go.Proofs.YtghdobdjfnimmaaGreatDoor.dropL L a):=by
 induction L with
 |nil=>cases f
 |cons c r ih=>
  obtain⟨j,q⟩:=Wk.1 h;rcases Vy.1 f with rfl|hx'
  ·have:Go.Proofs.YtghdobdjfnimmaaGreatDoor.dropL ((a,v)::r) a=r:=by
    unfold Go.Proofs.YtghdobdjfnimmaaGreatDoor.dropL;rw[V9,Vf (by simp)];exact XW.2 λx f=>by simpa using(j x f).symm
   rw[this]
  ·have p:c.1≠a:=λe=>j (a,v) hx' e
   have:Go.Proofs.YtghdobdjfnimmaaGreatDoor.dropL (c::r) a=c::Go.Proofs.YtghdobdjfnimmaaGreatDoor.dropL r a:=by
    unfold Go.Proofs.YtghdobdjfnimmaaGreatDoor.dropL;rw[V9,Vh (by simpa using p)]
   rw[this];exact((ih q hx').cons c).trans (List.Perm.swap _ _ _)
theorem jH.drop_length(h:jH L)(f:(a,v)∈L):(Go.Proofs.YtghdobdjfnimmaaGreatDoor.dropL L a).length+1=L.length:=by
 have:=(h.split f).length_eq;simp at this;omega
theorem un(h:jH L)(a:α)(v:β):(putL L a v).length=if(lk L a).isSome then L.length else L.length+1:=by
 cases f:lk L a with
 |none=>simp[putL,jr f]
 |some u=>have:=h.drop_length (bK f);simp[putL];omega
theorem mr(L:List (α×β))(a:α)(v:β):lk (putL L a v) a=some v:=by simp[lk,putL]
theorem qU(L:List (α×β))(a:α):lk (dropL L a) a=none:=by
 cases f:lk (dropL L a) a with
 |none=>rfl
 |some u=>exact absurd rfl (gV.1 (bK f)).2
theorem jX(L:List (α×β)){a b:α}(f:b≠a):lk (dropL L a) b=lk L b:=by
 unfold lk dropL;rw[List.find?_filter];congr 2;funext x;by_cases e:x.1=b
 ·simp[e,f]
 ·simp[e]
theorem qT(L:List (α×β)){a b:α}(v:β)(f:b≠a):lk (putL L a v) b=lk L b:=by
 rw[<-jX L f];unfold lk putL;rw[List.find?_cons];simp[V1 f]
theorem ew{x:α×β}:x∈putL L a v↔x=(a,v)\/(x∈L/\x.1≠a):=by simp[putL,gV]
end
section
variable{α β:Type}
def MT.kv(m:MT α β)(x:α×β):Yv×Yv:=(m.kc x.1,m.vc x.2)
structure aZ(m:MT α β)(w:Yu)(b:Nat)(L:List (α×β)):Prop where
 ex:∃es clock,w.heap[b]? =some (.map es clock)/\Stamped es clock/\(es.toList.map ja).Perm (L.map m.kv)
 ok:∀x∈L,m.okk x.1
variable{m:MT α β}{w w':Yu}{b:Nat}{L M:List (α×β)}
theorem aZ.lt(h:aZ m w b L):b<w.heap.size:=by
 obtain⟨es,f,j,_⟩:=h.ex;exact(Vv.1 j).1
theorem aZ.same(h:aZ m w b L)(e:w'.heap[b]? =w.heap[b]?):aZ m w' b L:=by
 obtain⟨es,f,j,r⟩:=h.ex;exact⟨⟨es,f,e.trans j,r⟩,h.ok⟩
theorem aZ.call(h:aZ m w b L)(f:Ys w w'):aZ m w' b L:=h.same (f.block b h.lt)
theorem aZ.far(h:aZ m w b L){p:Addr}(f:b≠p.block)(u:Yv):aZ m (w.setCell p u) b L:=h.same (Xx w p u b f)
theorem aZ.fr(h:aZ m w b L)(f:Fr w w' g r)(j:b≠g)(p:some b≠r):aZ m w' b L:=h.same (f.block b h.lt j p)
theorem aZ.perm(h:aZ m w b L)(p:L.Perm M):aZ m w b M:=by
 obtain⟨es,f,x,y,j⟩:=h.ex;exact⟨⟨es,f,x,y,j.trans (p.map _)⟩,λe q=>h.ok e (p.mem_iff.2 q)⟩
theorem aZ.ne_blk(h:aZ m w b L){cs:Array Yv}(j:ai w g t cs):b≠g:=λe=>by
 subst e;obtain⟨es,f,p,_⟩:=h.ex;unfold ai at j;rw[j]at p;cases p
theorem aZ.ndk(h:aZ m w b L):jH L:=by
 obtain⟨es,f,I,D,p⟩:=h.ex;have A:=((Xk _ _).1 D).2.2;have z:(es.toList.map ja).Pairwise (λx y=>x.1≠y.1):=Yl.2 A;have B:=(p.pairwise_iff (λ{_ _} j=>V1 j)).1 z;refine(Yl.1 B).imp λj q=>j ?_
 simp[MT.kv,q]
theorem ic(h:(es.toList.map ja).Perm (L.map m.kv)){x:MapEntry}(p:x∈es.toList):∃e∈L,x.key=m.kc e.1/\x.val=m.vc e.2:=by
 have:=h.mem_iff.1 (VJ.2 ⟨x,p,rfl⟩);obtain⟨e,j,f⟩:=VJ.1 this;simp only[MT.kv,ja,Xd]at f;exact⟨e,j,f.1.symm,f.2.symm⟩
theorem kw(H:m.Ok)(h:(es.toList.map ja).Perm (L.map m.kv))(f:∀e∈L,m.okk e.1):∀x∈es.toList,∃l,keyOf prog m.K x.key=some l:=λx q=>by
 obtain⟨e,p,j,_⟩:=ic h q;rw[j];exact H.key _ (f e p)
theorem aZ.made(m:MT α β)(w:Yu):aZ m (w.alloc (.map #[] 0)) w.heap.size []:=⟨⟨#[],0,Yh w _,stamped_empty 0,WP _⟩,λ_ h=>by cases h⟩
theorem aZ.made_at(m:MT α β){w:Yu}{b:Nat}(h:w.heap.size=b):aZ m (w.alloc (.map #[] 0)) b []:=by subst h;exact aZ.made m w
variable[DecidableEq α]
theorem aZ.look2(H:m.Ok)(h:aZ m w b L){a:α}(N:m.okk a):(Instr.lookup m.T (.map (some b)) (m.kc a) true).run prog w=.ok (.tuple #[m.vc ((lk L a).getD m.z),.bool (lk L a).isSome]) w:=by
 have X:=h.ndk;obtain⟨es,I,J,hs,D⟩:=h.ex;obtain⟨kl,f⟩:=H.key a N;rcases H.law.find w f es.toList (kw H D h.ok)with⟨B,q⟩|⟨j,e0,B,q,S⟩
 ·have O:lk L a=none:=by
   cases hc:lk L a with
   |none=>rfl
   |some v=>
    exfalso;obtain⟨x,V,p⟩:=VJ.1 (D.mem_iff.2 (VJ.2 ⟨_,bK hc,rfl⟩));simp only[MT.kv,ja,Xd]at p;exact q x V p.1
  rw[O];simp[Instr.lookup,VD H.und,VQ J,H.law.check w _ f,B,H.zero,Result.andThen]
 ·obtain⟨e,Y,A,y⟩:=ic D (Vn q)
  obtain rfl:=H.inj _ _ (A.symm.trans S);rw[X.lk (v:=e.2) Y];simp[Instr.lookup,VD H.und,VQ J,H.law.check w _ f,B,Result.andThen,y]
theorem aZ.look(H:m.Ok)(h:aZ m w b L){a:α}(N:m.okk a):(Instr.lookup m.T (.map (some b)) (m.kc a) false).run prog w=.ok (m.vc ((lk L a).getD m.z)) w:=by
 have X:=h.ndk;obtain⟨es,I,J,hs,D⟩:=h.ex;obtain⟨kl,f⟩:=H.key a N;rcases H.law.find w f es.toList (kw H D h.ok)with⟨B,q⟩|⟨j,e0,B,q,S⟩
 ·have O:lk L a=none:=by
   cases hc:lk L a with
   |none=>rfl
   |some v=>
    exfalso;obtain⟨x,V,p⟩:=VJ.1 (D.mem_iff.2 (VJ.2 ⟨_,bK hc,rfl⟩));simp only[MT.kv,ja,Xd]at p;exact q x V p.1
  rw[O];simp[Instr.lookup,VD H.und,VQ J,H.law.check w _ f,B,H.zero,Result.andThen]
 ·obtain⟨e,Y,A,y⟩:=ic D (Vn q)
  obtain rfl:=H.inj _ _ (A.symm.trans S);rw[X.lk (v:=e.2) Y];simp[Instr.lookup,VD H.und,VQ J,H.law.check w _ f,B,Result.andThen,y]
omit [DecidableEq α]in
theorem gQ(h:b<w.heap.size)(o:Obj):Fr w (setBlock w b o) b none:=
 ⟨rfl,rfl,rfl,by simp[setBlock],λk _ f _=>by simp[setBlock,V1 f]⟩
theorem sV{j:Nat}{h:MapEntry}(x:es.toList[j]? =some h)(f:MapEntry->MapEntry):
  ∃r,es.toList.Perm (h::r)/\(es.modify j f).toList.Perm (f h::r):=by
 obtain⟨q,p⟩:=Vx.1 x;have z:es.toList=es.toList.take j++h::es.toList.drop (j+1):=by
  rw[<-p,List.getElem_cons_drop,Wf]
 have y:(es.modify j f).toList=es.toList.take j++f h::es.toList.drop (j+1):=by
  rw[Array.toList_modify,List.modify_eq_take_cons_drop q,p]
 exact⟨es.toList.take j++es.toList.drop (j+1),by rw(occs:=.pos [1]) [z];exact List.perm_middle,by rw[y];exact List.perm_middle⟩
theorem aZ.put(H:m.Ok)(h:aZ m w b L){a:α}(hk:m.okk a)(v:β):
  ∃w',(Instr.mapUpdate m.T (.map (some b)) (m.kc a) (m.vc v)).run prog w=.ok () w'/\aZ m w' b (putL L a v)/\Fr w w' b none:=by
 have hn:=h.ndk;have D:=h.lt;have O:=h.ok;obtain⟨es,f,B,hs,N⟩:=h.ex;obtain⟨kl,p⟩:=H.key a hk;have q:∀x∈putL L a v,m.okk x.1:=λx y=>by
  rcases ew.1 y with rfl|⟨y,_⟩
  ·exact hk
  ·exact O x y
 rcases H.law.find w p es.toList (kw H N O)with⟨X,z⟩|⟨j,S,X,z,h3⟩
 ·have hf:lk L a=none:=by
   cases hc:lk L a with
   |none=>rfl
   |some v=>
    exfalso;obtain⟨x,y,I⟩:=VJ.1 (N.mem_iff.2 (VJ.2 ⟨_,bK hc,rfl⟩));simp only[MT.kv,ja,Xd]at I;exact z x y I.1
  refine⟨setBlock w b (.map (es.push ⟨m.kc a,m.vc v,f⟩) (f+1)),?_,⟨⟨_,_,Wq B _,stamped_push hs z,?_⟩,q⟩,gQ D _⟩
  ·simp[Instr.mapUpdate,VD H.und,VQ B,H.law.check w false p,X,Ww _ B,Result.andThen,setBlock]
  ·rw[Array.toList_push,WS,putL,jr hf,VG]
   exact(N.append (WP _)).trans (List.perm_append_comm (l₂:=[_]))
 ·obtain⟨e,he,J,V⟩:=ic N (Vn z)
  obtain rfl:=H.inj _ _ (J.symm.trans h3);obtain⟨r,p1,p2⟩:=sV z (λY=>{Y with key:=m.kc e.1,val:=m.vc v});refine⟨setBlock w b (.map (es.modify j λY=>{Y with key:=m.kc e.1,val:=m.vc v}) f),?_,⟨⟨_,_,Wq B _,stamped_modify hs j _ (λ_ _=>rfl) (λx _ y=>?_),?_⟩,q⟩,gQ D _⟩
  ·have A:es[j]? =some S:=by rw[<-VK];exact z
   simp[Instr.mapUpdate,VD H.und,VQ B,H.law.check w false p,X,A,h3,H.law.stays w p,Ww _ B,Result.andThen,setBlock]
  ·have A:es[j]? =some S:=by rw[<-VK];exact z
   rw[A]at y;obtain rfl:=VT y;exact h3.symm
  ·have q1:=(p1.map ja).symm.trans (N.trans ((hn.split (a:=e.1) (v:=e.2) he).map m.kv))
   rw[VG,VG,show ja S=m.kv (e.1,e.2)by simp[ja,MT.kv,J,V]]at q1;have q2:=q1.cons_inv;refine(p2.map ja).trans ?_;rw[VG,putL,VG];exact q2.cons _
omit [DecidableEq α]in
theorem aZ.len(H:m.Ok)(h:aZ m w b L)(ty:Yw):(Builtin.len_ #[m.T] ty #[.map (some b)]).run prog w=.ok (.int .i64 L.length) w:=by
 obtain⟨es,f,q,x,j⟩:=h.ex;have p:es.size=L.length:=by simpa using j.length_eq
 simp[Builtin.len_,VD H.und,VQ q,goInt,Result.andThen,p]
theorem aZ.drop(H:m.Ok)(h:aZ m w b L){a:α}(hk:m.okk a)(ty:Yw):
  ∃w',(Builtin.delete_ #[m.T,m.K] ty #[.map (some b),m.kc a]).run prog w=.ok (.tuple #[]) w'/\aZ m w' b (dropL L a)/\Fr w w' b none:=by
 have hn:=h.ndk;have z:=h.lt;have q:=h.ok;obtain⟨es,f,y,V,D⟩:=h.ex;obtain⟨kl,p⟩:=H.key a hk;rcases H.law.find w p es.toList (kw H D q)with⟨O,J⟩|⟨j,Y,O,J,h3⟩
 ·have hf:lk L a=none:=by
   cases hc:lk L a with
   |none=>rfl
   |some v=>
    exfalso;obtain⟨x,I,A⟩:=VJ.1 (D.mem_iff.2 (VJ.2 ⟨_,bK hc,rfl⟩));simp only[MT.kv,ja,Xd]at A;exact J x I A.1
  refine⟨setBlock w b (.map es f),?_,⟨⟨es,f,Wq y _,V,by rw[jr hf];exact D⟩,λx I=>q x (gV.1 I).1⟩,gQ z _⟩
  ·simp[Builtin.delete_,VD H.und,VQ y,H.law.check w _ p,O,Ww _ y,Result.andThen,setBlock]
 ·obtain⟨e,he,B,N⟩:=ic D (Vn J)
  obtain rfl:=H.inj _ _ (B.symm.trans h3);obtain⟨X,k2⟩:=qg J;refine⟨setBlock w b (.map (es.eraseIdxIfInBounds j) f),?_,⟨⟨_,_,Wq y _,Yo V j,?_⟩,λx I=>q x (gV.1 I).1⟩,gQ z _⟩
  ·simp[Builtin.delete_,VD H.und,VQ y,H.law.check w _ p,O,Ww _ y,Result.andThen,setBlock]
  ·rw[X]
   have S:=(k2.map ja).symm.trans (D.trans ((hn.split (a:=e.1) (v:=e.2) he).map m.kv));simp only[VG]at S;rw[show ja Y=m.kv (e.1,e.2)by simp[ja,MT.kv,B,N]]at S;exact S.cons_inv
omit [DecidableEq α]in
structure cq(m:MT α β)(w:Yu)(b r:Nat)(left kept:List (α×β)):Prop where
 ex:∃es clock since seen c0,w.heap[b]? =some (.map es clock)/\Stamped es clock/\w.heap[r]? =some (.mapIter (some b) since seen c0)/\(∀x∈es.toList,x.born<since)/\since<=c0/\since<=clock/\
  ((es.toList.filter λx=> !seen.contains x.born).map ja).Perm (left.map m.kv)/\((es.toList.filter λx=>seen.contains x.born).map ja).Perm (kept.map m.kv)
 ok:∀e∈left++kept,m.okk e.1
variable{r:Nat}{left kept:List (α×β)}
omit [DecidableEq α]
theorem cq.map(h:cq m w b r left kept):aZ m w b (left++kept):=by
 obtain⟨es,f,j,seen,J,y,z,B,D,A,I,p,q⟩:=h.ex;refine⟨⟨es,f,y,z,?_⟩,h.ok⟩;have:=(lH (λx:MapEntry=>seen.contains x.born) es.toList).map ja;rw[WS]at this⊢;exact this.trans (p.append q)
theorem cq.lt(h:cq m w b r left kept):r<w.heap.size:=by
 obtain⟨es,j,f,seen,y,q,x,p,_⟩:=h.ex;exact(Vv.1 p).1
theorem cq.ne(h:cq m w b r left kept):r≠b:=λe=>by
 obtain⟨es,j,f,seen,y,p,x,q,_⟩:=h.ex;subst e;rw[q]at p;cases p
theorem cq.same(h:cq m w b r left kept)(p:w'.heap[b]? =w.heap[b]?)(B:w'.heap[r]? =w.heap[r]?):cq m w' b r left kept:=by
 obtain⟨es,j,f,seen,A,y,z,q,x⟩:=h.ex;exact⟨⟨es,j,f,seen,A,p.trans y,z,B.trans q,x⟩,h.ok⟩
theorem cq.call(h:cq m w b r left kept)(f:Ys w w'):cq m w' b r left kept:=h.same (f.block b h.map.lt) (f.block r h.lt)
theorem aZ.range(H:m.Ok)(h:aZ m w b L):∃w',(Instr.range m.T (.map (some b))).run prog w=.ok (Yr w.heap.size) w'/\cq m w' b w.heap.size L []/\Ys w w'/\w'.heap.size=w.heap.size+1:=by
 have j:=h.lt;obtain⟨es,f,p,q,y⟩:=h.ex;refine⟨_,run_range_map w _ _ _ b es f H.und p,⟨⟨es,f,f,#[],f,?_,q,Yh w _,((Xk _ _).1 q).1,Vc _,Vc _,?_,?_⟩,?_⟩,(Vd _ _).alloc (Vc _) _,by simp⟩
 ·rw[(MapKept.heap_alloc w _).2 b j];exact p
 ·rw[XW.2 (λx _=>by simp)];exact y
 ·simp
 ·simpa using h.ok
theorem cq.next(h:cq m w b r left kept)(ty:Yw):
  (left=[]/\(Instr.next (Yr r) false ty).run prog w=.ok (.tuple #[.bool false]) w)\/
  ∃e z w',left.Perm (e::z)/\(Instr.next (Yr r) false ty).run prog w=.ok (.tuple #[.bool true,m.kc e.1,m.vc e.2]) w'/\
   cq m w' b r z (e::kept)/\Fr w w' r none/\(Instr.entry (Yr r)).run prog w'=.ok (.tuple #[m.kc e.1,m.vc e.2]) w':=by
 have ι:=h.ne;have π:=h.lt;obtain⟨es,f,j,seen,c0,hb,hs,hr,D,ν,Y,hl,hk⟩:=h.ex;have N:=(Xk es f).1 hs;rcases run_next_at (P:=prog) w ty r b j c0 seen es f hr hb D ν with⟨h0,q⟩|⟨p,κ,w1,V,q⟩
 ·refine .inl ⟨?_,q⟩
  have:(leftOf es seen).toList.length=0:=by simpa using h0
  rw[nV]at this;have h1:=hl.length_eq;simp only[Wd]at h1;exact VM (by omega)
 ·obtain⟨B,S⟩:=mem_left κ
  have θ:ja p∈left.map m.kv:=hl.mem_iff.1 (VJ.2 ⟨p,Xb.2 ⟨B,by rw[S];rfl⟩,rfl⟩);obtain⟨e,he,A⟩:=VJ.1 θ;obtain⟨sl,tl,ε⟩:=List.append_of_mem he;have J:left.Perm (e::(sl++tl)):=by rw[ε];exact List.perm_middle
  have γ:p.key=m.kc e.1:=(Vt Prod.fst A).symm;have δ:p.val=m.vc e.2:=(Vt Prod.snd A).symm;have μ:w1.heap[r]? =some (.mapIter (some b) j seen c0):=by rcases V with rfl|rfl<;>exact hr
  have ξ:w1.heap[b]? =some (.map es f):=by rcases V with rfl|rfl<;>exact hb
  have y:=MapKept.heap_set (o':=.mapIter (some b) j (seen.push p.born) f) μ;have η:(setBlock w1 r (.mapIter (some b) j (seen.push p.born) f)).heap[b]? =some (.map es f):=(y.2 b (λe1=>ι e1.symm)).trans ξ;have O:=gj es.toList (λx=>seen.contains x.born) (λx=>(seen.push p.born).contains x.born) p N.2.1 B S (λx _=>contains_push ..);have I:=gj es.toList (λx=> !(seen.push p.born).contains x.born) (λx=> !seen.contains x.born) p N.2.1 B (by simp) (λx _=>by
   rw[contains_push];by_cases hx:x.born=p.born
   ·rw[hx,S];simp
   ·rw[show(x.born==p.born)=false from Vz.2 hx];simp)
  rw[γ,δ]at q;refine .inr ⟨e,sl++tl,_,J,q,⟨⟨es,f,j,seen.push p.born,f,η,hs,y.1,D,Y,Y,?_,?_⟩,?_⟩,?_,?_⟩
  ·have X:=(I.map ja).symm.trans (hl.trans (J.map m.kv))
   simp only[VG]at X;rw[<-A]at X;exact X.cons_inv
  ·have X:=(O.map ja)
   simp only[VG]at X⊢;rw[A];exact X.trans (hk.cons _)
  ·intro x hx
   refine h.ok x ?_;have ζ:=J.mem_iff (a:=x);simp only[Vw,Vy]at hx ζ⊢;rcases hx with hx|rfl|hx
   ·exact .inl (ζ.2 (.inr hx))
   ·exact .inl he
   ·exact .inr hx
  ·rcases V with rfl|rfl<;>exact⟨rfl,rfl,rfl,by simp[setBlock],λk _ hk _=>y.2 k hk⟩
  ·rw[<-γ,<-δ]
   exact run_entry_at _ r b j seen es f p y.1 η B N.2.1
end
def rL{β:Type}(E T:Yw)(f:β->Yv)(z:β):MT Int β:=⟨32,E,T,λx=>.int .u64 x,f,z,λx=>0<=x/\x<=18446744073709551615⟩
theorem jS{β:Type}{E T:Yw}{f:β->Yv}{z:β}(p:prog.underlying T=some (.map 32 E))(q:∀w,(zeroValue E).run prog w=.ok (f z) w):(rL E T f z).Ok:=
 ⟨Go.Maps.int_keyed underlying32,p,λa j=>⟨_,Go.Maps.keyOf_int_mk underlying32 (by simp[Lit.wf,IntKind.min,IntKind.max,IntKind.signed,IntKind.bits];exact j)⟩,λa b h=>by injection h,q⟩
end
section
open Go.RowKit Go
structure ah(F:Nat->Prop)(w w':Yu):Prop where
 os:w'.os=w.os
 tape:w'.tape=w.tape
 output:w'.output=w.output
 size:w.heap.size<=w'.heap.size
 block:∀k,k<w.heap.size->¬F k->w'.heap[k]? =w.heap[k]?
def cM:Nat->Prop:=λ_=>False
def cj(g:Nat):Nat->Prop:=λk=>k=g
def Uy(F G:Nat->Prop):Nat->Prop:=λk=>F k\/G k
def io(F:Nat->Prop)(w w':Yu):Nat->Prop:=λk=>F k\/(w.heap.size<=k/\k<w'.heap.size)
def tP(F:Nat->Prop)(w:Yu):Prop:=∀k,F k->k<w.heap.size
def iB(F G:Nat->Prop):Prop:=∀k,F k->G k->False
section
variable{F G H:Nat->Prop}{w w' w'' w0:Yu}
theorem ah.refl:ah F w w:=⟨rfl,rfl,rfl,Vc _,λ_ _ _=>rfl⟩
theorem ah.trans(a:ah F w w')(b:ah F w' w''):ah F w w'':=
 ⟨b.os.trans a.os,b.tape.trans a.tape,b.output.trans a.output,Vi a.size b.size,λk f h=>(b.block k (Vq f a.size) h).trans (a.block k f h)⟩
theorem ah.trans'(a:ah F w w')(b:ah G w' w'')(h:∀k,k<w.heap.size->G k->F k):ah F w w'':=
 ⟨b.os.trans a.os,b.tape.trans a.tape,b.output.trans a.output,Vi a.size b.size,λk f j=>(b.block k (Vq f a.size) (λp=>j (h k f p))).trans (a.block k f j)⟩
theorem ah.mono(a:ah F w w')(h:∀k,F k->G k):ah G w w':=⟨a.os,a.tape,a.output,a.size,λk j f=>a.block k j λp=>f (h k p)⟩
theorem ah.of_below(b:Ys w w'):ah F w w':=⟨b.os,b.tape,b.output,b.size,λk f _=>b.block k f⟩
theorem ah.below(a:ah F w w')(h:∀k,k<w.heap.size->¬F k):Ys w w':=⟨a.os,a.tape,a.output,a.size,λk f=>a.block k f (h k f)⟩
theorem ah.no(a:ah cM w w'):Ys w w':=a.below λ_ _ h=>h
theorem ah.of_fr(f:Fr w w' g r)(q:F g)(j:∀k,r=some k->F k):ah F w w':=
 ⟨f.os,f.tape,f.output,f.size,λk p h=>f.block k p (λe=>h (e▸q)) (λe=>h (j k e.symm))⟩
theorem ah.of_fr1(f:Fr w w' g none)(j:F g):ah F w w':=ah.of_fr f j λ_ h=>by cases h
theorem ah.of_grown(g:w.grownBy w' r)(h:∀k,r=some k->F k):ah F w w':=
 ⟨g.os,g.tape,g.output,g.size,λk f j=>g.block k f λe=>j (h k e.symm)⟩
theorem ah.drew:ah F w w.drew:=ah.of_below (Vd _ _).drew
theorem ah.drewN(n:Nat):ah F w (w.drewN n):=ah.of_below (bC (Vd _ _) n)
theorem ah.alloc(o:Obj):ah F w (w.alloc o):=ah.of_below ((Vd _ _).alloc (Vc _) o)
theorem ah.set(p:Addr)(h:F p.block)(u:Yv):ah F w (w.setCell p u):=ah.of_fr1 (Fr.of_set p rfl u) h
theorem ah.call(a:ah F w w')(b:Ys w' w''):ah F w w'':=a.trans' (ah.of_below (F:=cM) b) λ_ _ h=>h.elim
theorem ah.setOld(a:ah F w w')(p:Addr)(h:F p.block\/w.heap.size<=p.block)(u:Yv):ah F w (w'.setCell p u):=
 a.trans' (ah.set (F:=cj p.block) (w:=w') p rfl u) λk f e=>by
  have e:k=p.block:=e;subst e;rcases h with h|h
  ·exact h
  ·omega
theorem ah.blk{cs:Array Yv}(a:ah F w w')(b:ai w g t cs)(h:¬F g):ai w' g t cs:=(a.block g b.lt h).trans b
theorem ah.gmap{α β:Type}{m:MT α β}{b:Nat}{L:List (α×β)}(a:ah F w w')(h:aZ m w b L)(f:¬F b):aZ m w' b L:=h.same (a.block b h.lt f)
theorem ah.row{α:Type}{c:α->Array Yv}{sz base:Nat}{e:Yw}{L:List α}(a:ah F w w')(h:Row w base e sz c v L)(p:∀g,v.ownBlock=some g->¬F g):Row w' base e sz c v L:=by
 refine⟨h.1,?_⟩;rcases h.2 with j|⟨g,cap,cur,rfl,q,f,rest⟩
 ·exact .inl j
 ·exact .inr ⟨g,cap,cur,rfl,q,(a.block g (ai.lt f) (p g rfl)).trans f,rest⟩
theorem io.inH(h:tP F w)(f:w.heap.size<=w'.heap.size):tP (io F w w') w':=λk hk=>by
 rcases hk with hk|hk
 ·exact Vq (h k hk) f
 ·exact hk.2
theorem tP.mono(h:tP F w)(f:w.heap.size<=w'.heap.size):tP F w':=λk j=>Vq (h k j) f
theorem iB.symm(h:iB F G):iB G F:=λk a b=>h k b a
end
def aD(w:Yu)(bs:List (Nat×Yw×Array Yv)):Prop:=∀g t cs,(g,t,cs)∈bs->ai w g t cs
@[reducible] def gJ(F:Nat->Prop):List (Nat×Yw×Array Yv)->Prop
 |[]=>True
 |(g,_,_)::r=>¬F g/\gJ F r
theorem gJ.o{F:Nat->Prop}:∀{bs:List (Nat×Yw×Array Yv)},gJ F bs->∀g t cs,(g,t,cs)∈bs->¬F g
 |(_,_,_)::_,h,_,_,_,hm=>by
  rcases Vy.1 hm with e|hm
  ·cases e;exact h.1
  ·exact gJ.o h.2 _ _ _ hm
section
variable{F:Nat->Prop}{w w':Yu}{bs:List (Nat×Yw×Array Yv)}{g:Nat}{t:Yw}{cs:Array Yv}
theorem aD.nil:aD w []:=λ_ _ _ h=>by cases h
theorem aD.cons(j:ai w g t cs)(h:aD w bs):aD w ((g,t,cs)::bs):=λp t' f hm=>by
 rcases Vy.1 hm with e|hm
 ·cases e;exact j
 ·exact h _ _ _ hm
theorem aD.push(h:aD w bs)(f:w.heap.size=g):aD (w.alloc (.cells cs t)) ((g,t,cs)::bs):=
 aD.cons (ai.new_at f rfl) λq t' p j=>(h _ _ _ j).alloc _
theorem aD.alloc(h:aD w bs)(o:Obj):aD (w.alloc o) bs:=λ_ _ _ f=>(h _ _ _ f).alloc _
theorem aD.drew(h:aD w bs):aD w.drew bs:=h
theorem aD.drewN(h:aD w bs)(n:Nat):aD (w.drewN n) bs:=h
theorem aD.call(h:aD w bs)(j:Ys w w'):aD w' bs:=λ_ _ _ f=>(h _ _ _ f).below j (h _ _ _ f).lt
theorem aD.mod(h:aD w bs)(a:ah F w w')(j:gJ F bs):aD w' bs:=λ_ _ _ f=>a.blk (h _ _ _ f) (j.o _ _ _ f)
theorem aD.perm{cs:List (Nat×Yw×Array Yv)}(h:aD w bs)(f:∀x∈cs,x∈bs):aD w cs:=λ_ _ _ j=>h _ _ _ (f _ j)
theorem aD.drop(h:aD w ((g,t,cs)::bs)):aD w bs:=λ_ _ _ f=>h _ _ _ (VA _ f)
theorem aD.head(h:aD w ((g,t,cs)::bs)):ai w g t cs:=h _ _ _ Vp
theorem aD.set_(h:aD w ((g,t,cs)::bs))(j:mS g bs)(i:Nat)(u:Yv):aD (w.setCell ⟨g,i,none⟩ u) ((g,t,cs.setIfInBounds i u)::bs):=
 aD.cons (h.head.set_ i u) λx t' q f=>(h.drop _ _ _ f).far (p:=⟨g,i,none⟩) (j.o _ _ _ f) u
theorem aD.rules(h:aD w bs):zf w bs:=by
 induction bs with
 |nil=>trivial
 |cons x r ih=>
  obtain⟨g,t,cs⟩:=x;exact⟨h.head.cell,h.head.frozen,ih h.drop⟩
theorem aD.lts(h:aD w bs):Tj w bs:=by
 induction bs with
 |nil=>trivial
 |cons x r ih=>
  obtain⟨g,t,cs⟩:=x;exact⟨h.head.lt,ih h.drop⟩
end
end
section
open Go.RowKit Go Go.BigFrame
section
variable{P:Program}
open Classical in
noncomputable def us(P:Program)(o:Oper)(xs:List Yv):Option Yv:=
 if h:∃v,∀(ρ:Yx->Yv) (w:Yu),o.op.operands.toList.map ρ=xs->(execOp ρ o).run P w=.ok (.value v) w then some h.choose else none
theorem Cj{o:Oper}(W:Yu)(h:∀(ρ:Yx->Yv) (w:Yu),o.op.operands.toList.map ρ=jA a o->(execOp ρ o).run P w=.ok (.value v) w):us P o (jA a o)=some v:=by
 have j:∃v,∀(ρ:Yx->Yv) (w:Yu),o.op.operands.toList.map ρ=jA a o->(execOp ρ o).run P w=.ok (.value v) w:=⟨v,h⟩;unfold us;rw[dif_pos j];have p:=j.choose_spec a.eval W rfl;have f:=h a.eval W rfl;rw[p]at f;injection f with f _;injection f with f;rw[f]
end
structure AY(B:Nat)(t:Yw)(w w':Yu):Prop where
 os:w'.os=w.os
 tape:w'.tape=w.tape
 output:w'.output=w.output
 size:w.heap.size<=w'.heap.size
 block:∀k,k<w.heap.size->w'.heap[k]? =w.heap[k]?\/(B<=k/\∃cs cs',cs'.size=cs.size/\ai w k t cs/\ai w' k t cs')
def Fp(Z:List Yw)(w:Yu)(k:Nat):Prop:=∃cs t,t∈Z/\ai w k t cs
structure cR(Z:List Yw)(F:Nat->Prop)(B:Nat)(w0 w:Yu):Prop where
 os:w.os=w0.os
 tape:w.tape=w0.tape
 output:w.output=w0.output
 size:w0.heap.size<=w.heap.size
 block:∀k,k<w0.heap.size->w.heap[k]? =w0.heap[k]?\/(B<=k/\Fp Z w0 k/\Fp Z w k)\/F k
theorem cR.refl(Z:List Yw)(F:Nat->Prop)(B:Nat)(w:Yu):cR Z F B w w:=⟨rfl,rfl,rfl,Vc _,λ_ _=>.inl rfl⟩
theorem cR.below{F:Nat->Prop}{B:Nat}{w0:Yu}(h:cR [] F B w0 w)(hF:∀k,¬F k):Ys w0 w:=
 ⟨h.os,h.tape,h.output,h.size,λk f=>by
  rcases h.block k f with h1|⟨-,⟨cs,t,j,-⟩,-⟩|h1
  ·exact h1
  ·cases j
  ·exact absurd h1 (hF k)⟩
inductive Eg where
 |is (v:Yv)
 |fn
 |box (t:Yw) (n:Nat)
 |st (t:Yw) (ct:Yv->Array Yv)
 |cal (sh:Yv->Prop) (hne:∃u,sh u) (post:Yu->Yv->Yu->Prop)
def Value.toArr:Yv->Array Yv
 |.agg cs=>cs
 |_=>#[]
noncomputable def gT(P:Program)(ops:Array Oper)(E:List Eg)(i:Nat)(xs:List Yv)(u:Yv):Prop:=match E[i]? with
 |some (.is v)=>u=v
 |some .fn=>∀v,((ops[i]?).bind λo=>us P o xs)=some v->u=v
 |some (.st _ _)=>u=undef
 |some (.cal sh _ _)=>sh u
 |_=>True
theorem xC(P:Program)(ops:Array Oper)(E:List Eg)(i:Nat)(xs:List Yv):∃u,gT P ops E i xs u:=by
 unfold gT;split
 ·exact⟨_,rfl⟩
 ·cases h:(ops[i]?).bind λo=>us P o xs with
  |none=>exact⟨undef,λv f=>by cases f⟩
  |some v=>exact⟨v,λq f=>by cases f;rfl⟩
 ·exact⟨_,rfl⟩
 ·rename_i y j p x
  exact j
 ·exact⟨undef,trivial⟩
def gR(Z:List Yw)(F:Nat->Prop)(W:Yu)(c:Nat)(E:List Eg)(i:Nat)(xs:List Yv)(u:Yv)(w:Yu):Prop:=match E[i]? with
 |some (.box t n)=>∃g,u=.pointer (some ⟨g,0,none⟩)/\W.heap.size<=g/\∃cs,cs.size=n/\ai w g t cs
 |some (.st t ct)=>∃g v,xs=[Yr g,v]/\W.heap.size<=g/\ai w g t (ct v)
 |some (.cal _ _ post)=>∃f h,(i=c->Ys W f)/\ah F W f/\post f u h/\cR Z (λk=>i≠c/\F k) W.heap.size h w
 |_=>True
def gS(Z:List Yw)(F:Nat->Prop)(W:Yu)(c:Nat)(E:List Eg)(i:Nat)(w w':Yu):Prop:=match E[i]? with
 |some (.st t _)=>t∈Z/\AY W.heap.size t w w'
 |some (.cal _ _ _)=>if i=c then ah F w w' else Ys w w'
 |_=>Ys w w'
def gC(F:Nat->Prop)(W:Yu)(b:Bool)(w:Yu):Prop:=if b then ah F W w else Ys W w
theorem dN{F:Nat->Prop}{W:Yu}{b:Bool}(h:gC F W b w):ah F W w:=by
 cases b with
 |true=>exact h
 |false=>exact ah.of_below h
theorem pX{F:Nat->Prop}{W:Yu}{b f:Bool}(h:gC F W b w)(j:b=true->f=true):gC F W f w:=by
 cases f with
 |true=>exact dN h
 |false=>
  cases b with
  |true=>cases j rfl
  |false=>exact h
def rI(t:Yw):List Eg->Bool
 |[]=>true
 |.st t' _::r=> !(t==t')&&rI t r
 |_::r=>rI t r
def mI:List Eg->Bool
 |[]=>true
 |.st t _::r=>rI t r&&mI r
 |_::r=>mI r
theorem rH{t':Yw}{f:Yv->Array Yv}:∀{E:List Eg} {j:Nat},rI t E=true->E[j]? =some (.st t' f)->t≠t'
 |e::r,0,h,hj=>by
  simp only[List.getElem?_cons_zero,Xf]at hj;subst hj;simp only[rI,Vo,Yk,Vz]at h;exact h.1
 |e::r,j+1,h,hj=>by
  rw[Xv]at hj;refine rH (E:=r) ?_ hj;cases e with
  |st t'' c=>simp only[rI,Vo]at h;exact h.2
  |is v=>exact h
  |fn=>exact h
  |box t n=>exact h
  |cal s n p=>exact h
theorem nu{t':Yw}{q f:Yv->Array Yv}:∀{E:List Eg} {i j:Nat},mI E=true->i<j->E[i]? =some (.st t q)->E[j]? =some (.st t' f)->t≠t'
 |e::r,0,j+1,h,_,hi,hj=>by
  simp only[List.getElem?_cons_zero,Xf]at hi;subst hi;rw[Xv]at hj;simp only[mI,Vo]at h;exact rH h.1 hj
 |e::r,i+1,j+1,h,hl,hi,hj=>by
  rw[Xv]at hi hj;refine nu (E:=r) ?_ (by omega) hi hj;cases e with
  |st t'' c=>simp only[mI,Vo]at h;exact h.2
  |is v=>exact h
  |fn=>exact h
  |box t n=>exact h
  |cal s n p=>exact h
section
variable{P:Program}{ops:Array Oper}{Z:List Yw}{F:Nat->Prop}{W:Yu}{c:Nat}{E:List Eg}
theorem GJ{j:Nat}(p:gS Z F W c E j w w'):w'.os=w.os/\w'.tape=w.tape/\w'.output=w.output/\w.heap.size<=w'.heap.size/\
  ∀k,k<w.heap.size->w'.heap[k]? =w.heap[k]?\/(j=c/\F k)\/∃t y,E[j]? =some (.st t y)/\t∈Z/\W.heap.size<=k/\∃cs f,f.size=cs.size/\ai w k t cs/\ai w' k t f:=by
 have q:Ys w w'->w'.os=w.os/\w'.tape=w.tape/\w'.output=w.output/\w.heap.size<=w'.heap.size/\
  ∀k,k<w.heap.size->w'.heap[k]? =w.heap[k]?\/(j=c/\F k)\/∃t y,E[j]? =some (.st t y)/\t∈Z/\W.heap.size<=k/\∃cs f,f.size=cs.size/\ai w k t cs/\ai w' k t f:=λh=>⟨h.os,h.tape,h.output,h.size,λk x=>.inl (h.block k x)⟩
 unfold gS at p;split at p
 ·rename_i t y B
  obtain⟨J,h⟩:=p;refine⟨h.os,h.tape,h.output,h.size,λk x=>?_⟩;rcases h.block k x with z|⟨z,D⟩
  ·exact .inl z
  ·exact .inr (.inr ⟨t,y,B,J,z,D⟩)
 ·split at p
  ·rename_i I
   refine⟨p.os,p.tape,p.output,p.size,λk x=>?_⟩;by_cases A:F k
   ·exact .inr (.inl ⟨I,A⟩)
   ·exact .inl (p.block k x A)
  ·exact q p
 ·exact q p
theorem tc(hF:∀k,F k->k<W.heap.size)(hE:mI E=true):∀i j xs u w w',i≠j->gR Z F W c E i xs u w->gS Z F W c E j w w'->gR Z F W c E i xs u w':=by
 intro i j xs u w w' ε D hs;obtain⟨s1,s2,s3,s4,X⟩:=GJ hs;unfold gR at D⊢;split at D
 ·rename_i t n V
  obtain⟨g,hu,N,cs,hn,p⟩:=D;rcases X g p.lt with f|⟨-,f⟩|⟨t',ct,-,-,-,h,q,B,f,J⟩
  ·exact⟨g,hu,N,cs,hn,f.trans p⟩
  ·have:=hF g f;omega
  ·have e:=VT ((show w.heap[g]? =_ from p).symm.trans f)
   injection e with e1 S e3;subst e1 S;exact⟨g,hu,N,q,by rw[B,hn],J⟩
 ·rename_i t ct V
  obtain⟨g,v,hx,N,p⟩:=D;rcases X g p.lt with f|⟨-,f⟩|⟨t',δ,A,-,-,h,q,B,f,J⟩
  ·exact⟨g,v,hx,N,f.trans p⟩
  ·have:=hF g f;omega
  ·have e:=VT ((show w.heap[g]? =_ from p).symm.trans f)
   injection e with e1 S e3;rcases WG i j with hl|hl
   ·exact absurd S (nu hE hl V A)
   ·exact absurd S.symm (nu hE (by omega) A V)
 ·rename_i γ V
  obtain⟨w1,w2,f,J,h3,y⟩:=D;refine⟨w1,w2,f,J,h3,⟨s1.trans y.os,s2.trans y.tape,s3.trans y.output,Vi y.size s4,λk hk=>?_⟩⟩;have z:=Vq hk y.size;rcases y.block k hk with g1|⟨g1,g2,g3⟩|g1
  ·rcases X k z with x|⟨x,I⟩|⟨t',ct,-,O,x,cs,h,I,f3,Y⟩
   ·exact .inl (x.trans g1)
   ·exact .inr (.inr ⟨by omega,I⟩)
   ·exact .inr (.inl ⟨x,⟨cs,t',O,g1.symm.trans f3⟩,⟨h,t',O,Y⟩⟩)
  ·rcases X k z with x|⟨x,I⟩|⟨t',ct,-,O,x,cs,h,I,f3,Y⟩
   ·obtain⟨cs,t,hz,p⟩:=g3
    exact .inr (.inl ⟨g1,g2,cs,t,hz,x.trans p⟩)
   ·have:=hF k I;omega
   ·exact .inr (.inl ⟨g1,g2,⟨h,t',O,Y⟩⟩)
  ·exact .inr (.inr g1)
 ·trivial
end
section
variable{P:Program}{ops:Array Oper}{Z:List Yw}{F:Nat->Prop}{W:Yu}{c:Nat}{E:List Eg}{Q:List Eg->Act->iI->Prop}{o:Oper}{rest:List Oper}{U:Type}{a:U->Act}{K:U->iI}
abbrev Gw(P:Program)(ops:Array Oper)(Z:List Yw)(F:Nat->Prop)(W:Yu)(c:Nat)(E:List Eg)(Q:Act->iI->Prop)(i:Nat)(l:List Oper)(a:Act)(K:iI):Prop:=
 zk P .any ops c (gC F W) (gT P ops E) (gR Z F W c E) (gS Z F W c E) Q i l a K
def gY(P:Program)(ops:Array Oper)(Z:List Yw)(F:Nat->Prop)(W:Yu)(c:Nat)(E:List Eg)(Q:List Eg->Act->iI->Prop)(l:List Oper)(U:Type)(a:U->Act)(K:U->iI):Prop:=
 ∃f,mI (E++f)=true/\∀u,Gw P ops Z F W c (E++f) (Q (E++f)) E.length l (a u) (K u)
theorem dd(E:List Eg)(x:Eg)(f:List Eg):(E++x::f)[E.length]? =some x:=by
 rw[VY (Vc _),Nat.sub_self]
 rfl
theorem gY.more{x:Eg}(h:gY P ops Z F W c (E++[x]) Q rest U a K):∃f,mI (E++x::f)=true/\∀u,Gw P ops Z F W c (E++x::f) (Q (E++x::f)) (E.length+1) rest (a u) (K u):=by
 obtain⟨f,j,h⟩:=h;rw[Wn]at j h;rw[Vl]at h;exact⟨f,j,h⟩
theorem aK(f:mI E=true)(h:∀u,Q E (a u) (K u)):gY P ops Z F W c E Q [] U a K:=⟨[],by
 rw[Xa];exact⟨f,h⟩⟩
theorem ay{a:Act}{Q:Exit->Act->Yu->Prop}(Z:List Yw)(F:Nat->Prop)(c:Nat)(hF:∀k,F k->k<w.heap.size)(p:P.follows .mixedOrders=true)(x:Region.lexB .any l.toArray=true)
  (h:gY P l.toArray Z F w c [] (λE q y=>∀w',gC F w (decide (c<l.length)) w'->(∀k xs u,y k xs u->gR Z F w c E k xs u w')->Q .normal q w') l Unit (λ_=>a) (λ_ _ _ _=>False)):(Code.region id l.toArray true).wp P Q a w:=by
 obtain⟨E,f,h⟩:=h;exact tQ c (gT P l.toArray E) (gR Z F w c E) (gS Z F w c E) (gC F w) p x (Vd _ _).drew (xC _ _ _) (λ_ j=>pX j λ_=>rfl) (tc hF f) (h ())
def QM(Q:List Eg->Act->iI->Prop):Prop:=∀E a K f,(∀k xs u,K k xs u->f k xs u)->Q E a K->Q E a f
theorem al(j:∀u,Region.wanted o (yielded ops (a u).tmps)=false)(h:gY P ops Z F W c (E++[.is undef]) Q rest U (λu=>(a u).put o.dst undef) K):gY P ops Z F W c E Q (o::rest) U a K:=by
 obtain⟨p,f,h⟩:=h.more;exact⟨_,f,λu=>by unfold Gw zk;rw[Vf (by rw[j u];exact Bool.false_ne_true)];exact h u⟩
theorem xA(y:∀u,Region.wanted o (yielded ops (a u).tmps)=true)(h:∃v,(∀u,∀w,ah F W w->(execOp (a u).eval o).run P w=.ok (.value v) w)/\gY P ops Z F W c (E++[.is v]) Q rest U (λu=>(a u).put o.dst v) K)(z:QM Q:=by exact λ_ _ _ _ A h w' B j=>h w' B λk xs u f=>j k xs u (A k xs u f)):gY P ops Z F W c E Q (o::rest) U a K:=by
 obtain⟨v,j,h⟩:=h;obtain⟨I,q,h⟩:=h.more;refine⟨_,q,λu=>gB (y u) (λb w _ _ _ p _=>?_) λx D=>?_⟩
 ·rw[j u w (dN p)]
  exact⟨by simp only[gT,dd],pX p λh=>by simp[h],by simp only[gS,dd];exact Vd _ _,by simp only[gR,dd]⟩
 ·have:x=v:=by simpa only[gT,dd]using D
  subst this;exact iL (z _) _ _ _ _ _ (λk xs u f=>.inr f) (h u)
theorem IA(B:∀u,Region.wanted o (yielded ops (a u).tmps)=true)(J:ops[E.length]? =some o)
  (h:∃v:U->Yv,(∀u,∀ρ:Yx->Yv,o.op.operands.toList.map ρ=jA (a u) o->∀w,(execOp ρ o).run P w=.ok (.value (v u)) w)/\gY P ops Z F W c (E++[.fn]) Q rest U (λu=>(a u).put o.dst (v u)) K) (I:QM Q:=by exact λ_ _ _ _ N h w' O j=>h w' O λk xs u p=>j k xs u (N k xs u p)):gY P ops Z F W c E Q (o::rest) U a K:=by
 obtain⟨v,j,h⟩:=h;obtain⟨S,A,h⟩:=h.more;have y:∀u,((ops[E.length]?).bind λo'=>us P o' (jA (a u) o))=some (v u):=λu=>by
  simp only[J,Option.bind_some];exact Cj W λρ w q=>j u ρ q w
 refine⟨_,A,λu=>gB (B u) (λb w _ _ _ D _=>?_) λx z=>?_⟩
 ·rw[j u (a u).eval rfl w]
  exact⟨by simp only[gT,dd];intro V f;rw[y u]at f;cases f;rfl,pX D λh=>by simp[h],by simp only[gS,dd];exact Vd _ _,by simp only[gR,dd]⟩
 ·have:x=v u:=by simp only[gT,dd]at z;exact z (v u) (y u)
  subst this;exact iL (I _) _ _ _ _ _ (λk xs u p=>.inr p) (h u)
theorem mq{ρ f:Yx->Yv}:∀{l:List Yx} {x:Yx},l.map ρ=l.map f->x∈l->ρ x=f x
 |y::l,x,h,hx=>by
  simp only[VG,List.cons.injEq]at h;rcases Vy.1 hx with rfl|hx
  ·exact h.1
  ·exact mq h.2 hx
theorem Pb(p:∀u,Region.wanted o (yielded ops (a u).tmps)=true)(x:ops[E.length]? =some o)(x1:Yx)(z:o.op.operands.toList=[x1])(v1:U->Yv)(A:∀u,cT (a u) x1=some (v1 u))
  (h:∃v:U->Yv,(∀u,∀ρ:Yx->Yv,ρ x1=v1 u->∀w,(execOp ρ o).run P w=.ok (.value (v u)) w)/\gY P ops Z F W c (E++[.fn]) Q rest U (λu=>(a u).put o.dst (v u)) K) (y:QM Q:=by exact λ_ _ _ _ B h w' D j=>h w' D λk xs u q=>j k xs u (B k xs u q)):gY P ops Z F W c E Q (o::rest) U a K:=by
 obtain⟨v,j,h⟩:=h;exact IA p x ⟨v,λu ρ f w=>j u ρ ((mq f (by rw[z];simp)).trans (aQ (A u))) w,h⟩ y
theorem cU(A:∀u,Region.wanted o (yielded ops (a u).tmps)=true)(y:E.length≠c)(f:FuncId)(args:U->Array Yv)(v:Yv)(D:∀u,∀w,(execOp (a u).eval o).run P w=.ok (.enter f (args u)) w)
  (J:∀u w,ah F W w->Calls P f (args u) w λe w'=>e=.returned v/\Ys w w')
  (h:gY P ops Z F W c (E++[.is v]) Q rest U (λu=>(a u).put o.dst v) K) (B:QM Q:=by exact λ_ _ _ _ N h w' y I=>h w' y λk xs u p=>I k xs u (N k xs u p)):gY P ops Z F W c E Q (o::rest) U a K:=by
 obtain⟨S,z,h⟩:=h.more;refine⟨_,z,λu=>gB (A u) (λb w _ _ _ j _=>?_) λx O=>?_⟩
 ·rw[D u w]
  refine(J u w (dN j)).mono ?_;rintro e w' ⟨rfl,q⟩;refine⟨_,rfl,by simp only[gT,dd],?_,by simp only[gS,dd];exact q,by simp only[gR,dd]⟩;rw[show(b||E.length==c)=b from by simp[y]];cases b with
  |true=>exact(dN j).call q
  |false=>exact XC j (q.mono (Xj j))
 ·have:x=v:=by simpa only[gT,dd]using O
  subst this;exact iL (B _) _ _ _ _ _ (λk xs u p=>.inr p) (h u)
theorem dM(I:∀u,Region.wanted o (yielded ops (a u).tmps)=true)(A:E.length≠c)(f:FuncId)(args:U->Array Yv){V:Type}(q:V->Yv)(d:V)(j:Yu->Yv->Yu->Prop)(J:∀u,∀w,(execOp (a u).eval o).run P w=.ok (.enter f (args u)) w)
  (N:∀u w,ah F W w->Calls P f (args u) w λe w'=>∃p,e=.returned (q p)/\j w (q p) w'/\Ys w w')
  (h:gY P ops Z F W c (E++[.cal (λu=>∃p,u=q p) ⟨q d,d,rfl⟩ j]) Q rest (U×V) (λp=>(a p.1).put o.dst (q p.2)) (λp=>(K p.1).ins E.length (jA (a p.1) o) (q p.2))):gY P ops Z F W c E Q (o::rest) U a K:=by
 obtain⟨S,B,h⟩:=h.more;refine⟨_,B,λu=>gB (I u) (λb w _ _ _ y _=>?_) λx O=>?_⟩;rotate_left
 ·obtain⟨p,rfl⟩:∃p,x=q p:=by simpa only[gT,dd]using O
  exact h (u,p)
 rw[J u w];refine(N u w (dN y)).mono ?_;rintro e w' ⟨r,rfl,D,z⟩;refine⟨_,rfl,(by simp only[gT,dd];exact⟨r,rfl⟩),?_,by simp only[gS,dd,Vf A];exact z,?_⟩
 ·rw[show(b||E.length==c)=b from by simp[A]]
  cases b with
  |true=>exact(dN y).call z
  |false=>exact XC y (z.mono (Xj y))
 ·simp only[gR,dd]
  exact⟨w,w',λe=>absurd e A,dN y,D,cR.refl _ _ _ _⟩
theorem bP(J:∀u,Region.wanted o (yielded ops (a u).tmps)=true)(B:E.length=c)(f:FuncId)(args:U->Array Yv){V:Type}(q:V->Yv)(d:V)(j:Yu->Yv->Yu->Prop)(N:∀u,∀w,(execOp (a u).eval o).run P w=.ok (.enter f (args u)) w)
  (O:∀u w,Ys W w->Calls P f (args u) w λe w'=>∃p,e=.returned (q p)/\j w (q p) w'/\ah F w w')
  (h:gY P ops Z F W c (E++[.cal (λu=>∃p,u=q p) ⟨q d,d,rfl⟩ j]) Q rest (U×V) (λp=>(a p.1).put o.dst (q p.2)) (λp=>(K p.1).ins E.length (jA (a p.1) o) (q p.2))):gY P ops Z F W c E Q (o::rest) U a K:=by
 obtain⟨X,D,h⟩:=h.more;refine⟨_,D,λu=>gB (J u) (λb w _ A _ y _=>?_) λx S=>?_⟩;rotate_left
 ·obtain⟨p,rfl⟩:∃p,x=q p:=by simpa only[gT,dd]using S
  exact h (u,p)
 have z:=A B;subst z;have y:Ys W w:=y;rw[N u w];refine(O u w y).mono ?_;rintro e w' ⟨r,rfl,I,z⟩;refine⟨_,rfl,(by simp only[gT,dd];exact⟨r,rfl⟩),?_,by simp only[gS,dd,Vh B];exact z,?_⟩
 ·rw[show(false||E.length==c)=true from by simp[B]]
  exact(ah.of_below y).trans z
 ·simp only[gR,dd]
  exact⟨w,w',λ_=>y,ah.of_below y,I,cR.refl _ _ _ _⟩
theorem eW(z:∀u,Region.wanted o (yielded ops (a u).tmps)=true)(t:Yw)(cs:Array Yv)
  (f:∀(ρ:Yx->Yv) w,(execOp ρ o).run P w=.ok (.value (Yr w.heap.size)) (w.alloc (.cells cs t)))
  (h:gY P ops Z F W c (E++[.box t cs.size]) Q rest (U×Yv) (λp=>(a p.1).put o.dst p.2) (λp=>(K p.1).ins E.length (jA (a p.1) o) p.2)):gY P ops Z F W c E Q (o::rest) U a K:=by
 obtain⟨A,y,h⟩:=h.more;refine⟨_,y,λu=>gB (z u) (λb w _ _ _ j _=>?_) λx _=>h (u,x)⟩;rw[f];have q:Ys w (w.alloc (.cells cs t)):=(Vd _ _).alloc (Vc _) _;refine⟨(by simp only[gT,dd]),?_,by simp only[gS,dd];exact q,?_⟩
 ·refine pX (b:=b) ?_ λh=>by simp[h]
  cases b with
  |true=>exact(dN j).call q
  |false=>exact XC j (q.mono (Xj j))
 ·simp only[gR,dd]
  exact⟨_,rfl,(dN j).size,cs,rfl,ai.new _ _ _⟩
theorem vf(hw:∀u,Region.wanted o (yielded ops (a u).tmps)=true)(k:Nat)(t:Yw)(n:Nat)(O:Yv->Array Yv)(hk:mi o k=true)(J:E[k]? =some (.box t n))(hZ:t∈Z)(hF:∀j,F j->j<W.heap.size)(z v:U->Yv)(xs:U->List Yv)(hK:∀u,K u k (xs u) (z u))(hx:∀u,jA (a u) o=[z u,v u])(hn:∀u,(O (v u)).size=n)
  (A:∀u w g cs,z u=.pointer (some ⟨g,0,none⟩)->cs.size=n->ai w g t cs->∃w',(execOp (a u).eval o).run P w=.ok .skip w'/\ai w' g t (O (v u))/\Fr w w' g none)
  (h:gY P ops Z F W c (E++[.st t O]) Q rest U (λu=>(a u).put o.dst undef) (λu=>(K u).ins E.length (jA (a u) o) undef)):gY P ops Z F W c E Q (o::rest) U a K:=by
 obtain⟨E',hd,h⟩:=h.more;have q:(E++Eg.st t O::E')[k]? =some (.box t n):=by
  have:=(Vx.1 J).1;rw[V0 this];exact J
 refine⟨_,hd,λu=>gB (hw u) (λb w _ _ _ X hR=>?_) λx S=>?_⟩
 ·have y:=hR k _ _ (hK u) (eD hk)
  simp only[gR,q]at y;obtain⟨g,hz,Y,cs,B,y⟩:=y;obtain⟨w',hr,D,f⟩:=A u w g cs hz B y;rw[hr];refine⟨(by simp only[gT,dd]),?_,?_,?_⟩
  ·refine pX (b:=b) ?_ λh=>by simp[h]
   cases b with
   |true=>
    have p:ah F W w:=X;exact⟨f.os.trans p.os,f.tape.trans p.tape,f.output.trans p.output,Vi p.size f.size,λj N V=>(f.block j (Vq N p.size) (by omega) (by simp)).trans (p.block j N V)⟩
   |false=>exact f.below X (by omega) (λ_ h=>by cases h)
  ·simp only[gS,dd]
   refine⟨hZ,f.os,f.tape,f.output,f.size,λj N=>?_⟩;by_cases I:j=g
   ·subst I
    exact .inr ⟨Y,cs,_,by rw[hn u,B],y,D⟩
   ·exact .inl (f.block j N I (by simp))
  ·simp only[gR,dd]
   exact⟨g,v u,by rw[hx u,hz],Y,D⟩
 ·have:x=undef:=by simpa only[gT,dd]using S
  subst this;exact h u
theorem cZ(Y:∀u,Region.wanted o (yielded ops (a u).tmps)=true)(k:Nat)(t ty:Yw)(n:Nat)(x y:Yx)(I:o.op=.store ty x y)(O:mi o k=true)(B:E[k]? =some (.box t n))(hZ:t∈Z)(hF:∀j,F j->j<W.heap.size)(z:U->Yv)(cs:U->Array Yv)(xs:U->List Yv)(N:∀u,cT (a u) x=some (z u))(J:∀u,cT (a u) y=some (.agg (cs u)))(S:∀u,K u k (xs u) (z u))(hi:(P.info? ty).map (·.size)=some n)(q:∀u,(cs u).size=n)(V:∀u,(cs u).all (·.oneCell')=true)
  (h:gY P ops Z F W c (E++[.st t Value.toArr]) Q rest U (λu=>(a u).put o.dst undef) (λu=>(K u).ins E.length (jA (a u) o) undef)):gY P ops Z F W c E Q (o::rest) U a K:=by
 refine vf Y k t n Value.toArr O B hZ hF z (λu=>.agg (cs u)) xs S (λu=>?_) (λu=>q u) (λu w g f X p D=>?_) h
 ·unfold jA
  rw[I];simp[Op.operands,aQ (N u),aQ (J u)]
 ·refine⟨w.setRow g (cs u),?_,WB w g _ _ t _ D,⟨rfl,rfl,rfl,by simp[World.setRow],λj hj A _=>Wv w g j _ A⟩⟩
  have he:(execOp (a u).eval o).run P w=(eR ty (z u) (.agg (cs u))).run P w:=by
   unfold execOp eR;rw[I];simp[aQ (N u),aQ (J u)]
  have hr:=oJ (P:=P) (ty:=ty) (o:=0) D (by rw[hi,q u]) (by rw[q u,p];omega) (V u);rw[he,X,hr];have e:(f.toList.take 0++(cs u).toList++f.toList.drop (0+(cs u).size)).toArray=cs u:=by
   rw[XD (by simp[q u,p])];simp
  rw[e]
theorem rO(N:∀u,Region.wanted o (yielded ops (a u).tmps)=true)(k:Nat)(t:Yw)(x y:Yx)(S:o.op.operands.toList=[x,y])(O:mi o k=true)(D:E[k]? =some (.box t 1))(X:t∈Z)(hF:∀j,F j->j<W.heap.size)(z v:U->Yv)(xs:U->List Yv)(J:∀u,cT (a u) x=some (z u))(I:∀u,cT (a u) y=some (v u))(Y:∀u,K u k (xs u) (z u))
  (f:∀u (ρ:Yx->Yv) w g cs,ρ x=.pointer (some ⟨g,0,none⟩)->ρ y=v u->cs.size=1->ai w g t cs->g<w.heap.size->w.cell? ⟨g,0,none⟩=cs[0]?->w.frozen? ⟨g,0,none⟩=false->(execOp ρ o).run P w=.ok .skip (w.setCell ⟨g,0,none⟩ (v u)))
  (h:gY P ops Z F W c (E++[.st t (λv=>#[v])]) Q rest U (λu=>(a u).put o.dst undef) (λu=>(K u).ins E.length (jA (a u) o) undef)):gY P ops Z F W c E Q (o::rest) U a K:=by
 refine vf N k t 1 (λv=>#[v]) O D X hF z v xs Y (λu=>?_) (λu=>rfl) (λu w g p hz q A=>?_) h
 ·unfold jA
  rw[S];simp[aQ (J u),aQ (I u)]
 ·refine⟨_,f u (a u).eval w g p ((aQ (J u)).trans hz) (aQ (I u)) q A A.lt (A.rules.1 0) (A.rules.2 0),?_,Fr.of_set _ rfl _⟩
  have B:=A.set_ 0 (v u);have e:p.setIfInBounds 0 (v u)=#[v u]:=by
   apply Array.ext
   ·simp[q]
   ·intro i h1 V
    have:i=0:=by simp at V;omega
    subst this;simp
  rw[e]at B;exact B
end
section
variable{P:Program}{ops:Array Oper}{Z:List Yw}{F:Nat->Prop}{W:Yu}{c:Nat}{E:List Eg}{Q:List Eg->Act->iI->Prop}{o:Oper}{rest:List Oper}{U:Type}{a:U->Act}{K:U->iI}
theorem te{h:List Eg}(f:k<E.length){xs:List Yv}:gR Z F W c (E++h) k xs u w=gR Z F W c E k xs u w:=by
 unfold gR;rw[V0 f]
theorem eO{a:Act}{Q:Exit->Act->Yu->Prop}(n:Nat)(Z:List Yw)(F:Nat->Prop)(c:Nat)(hF:∀k,F k->k<w.heap.size)(hm:P.follows .mixedOrders=true)(hn:n<=l.length)
  (N:jz .any l.toArray n=true) (z:Region.lexB .any (l.take n).toArray=true) (y:eP .any l.toArray (l.drop n).length n (aO n 0 (Array.replicate l.length false))=true)
  (hE:(Region.ready .any l.toArray (aO (l.drop n).length n (aO n 0 (Array.replicate l.length false)))).isEmpty=true)
  (h:gY P (l.take n).toArray Z F w c [] (λE A K'=>∀w',gC F w (decide (c<(l.take n).length)) w'->(∀k xs u,K' k xs u->gR Z F w c E k xs u w')->wpList P l.toArray Q (l.drop n) A w') (l.take n) Unit (λ_=>a) (λ_ _ _ _=>False)):(Code.region id l.toArray true).wp P Q a w:=by
 obtain⟨E,D,h⟩:=h;have h:=h ();refine WV hm ?_;simp only[Region.lexB,Vo]at z;have O:∀a w,wpList P l.toArray Q (l.drop n) a w->wpAny P .any l.toArray Q (l.drop n).length (aO n 0 (Array.replicate l.length false)) a w:=λa w f=>by
  have I:=fh (P:=P) (md:=.any) (Q:=Q) (K:=λa w=>Q .normal a w) (l.drop n).length n (aO n 0 (Array.replicate l.length false)) (l.drop n) a w 0
   (λa w J=>⟨by simpa using hE,J⟩) rfl (λj _=>by simp) y (by rw[iT];exact f)
  exact I
 have X:=jb (P:=P) (c:=c) (C:=gC F w) (T:=gT P (l.take n).toArray E) (R:=gR Z F w c E) (S:=gS Z F w c E) (md:=.any) (xC _ _ _) z.1 (l.take n) 0 (Array.replicate (l.take n).length false) a (λ_ _ _=>False) (by simp) (by simpa using z.2) h;have V:wpAny P .any (l.take n).toArray (oA Q (λa w=>wpList P l.toArray Q (l.drop n) a w)) (l.take n).length (Array.replicate (l.take n).length false) a w.drew:=
  eQ (c:=c) (C:=gC F w) (T:=gT P (l.take n).toArray E) (R:=gR Z F w c E) (S:=gS Z F w c E) (λ_ Y=>pX Y λ_=>rfl) (tc hF D)
   (λA F' w' q x f=>f w' (by simpa using q) x) _ _ _ (λ_ _ _=>False) _ (by simp) (λj o _ p=>by rw[bB]at p;cases p) (λ_ _ _ f=>False.elim f) (by rw[bB];exact(Vd _ _).drew) (λ_ _ _ f=>False.elim f) X
 have γ:(l.take n).length=n:=by simp;omega
 have B:=ff (n:=n) (m:=(l.drop n).length) hn N O (l.take n).length (Array.replicate (l.take n).length false) (Array.replicate l.length false) a w.drew (by simp;omega) (by simp)
  (λi hi=>by rw[bB,bB]) (λi _=>bB _ _) (λj o _ p=>by rw[bB]at p;cases p) (by simp) V
 have e:(l.take n).length+(l.drop n).length=l.length:=by rw[<-Vl,Wf]
 rw[e]at B;simpa using B
theorem nh(I:∀u,Region.wanted o (yielded ops (a u).tmps)=true)(A:E.length≠c){V:Type}(j:V->Yv)(d:V)(f:Yu->Yv->Yu->Prop)
  (y:∀u w,ah F W w->∃p w',(execOp (a u).eval o).run P w=.ok (.value (j p)) w'/\f w (j p) w'/\Ys w w')
  (h:gY P ops Z F W c (E++[.cal (λu=>∃p,u=j p) ⟨j d,d,rfl⟩ f]) Q rest (U×V) (λp=>(a p.1).put o.dst (j p.2)) (λp=>(K p.1).ins E.length (jA (a p.1) o) (j p.2))):gY P ops Z F W c E Q (o::rest) U a K:=by
 obtain⟨O,B,h⟩:=h.more;refine⟨_,B,λu=>gB (I u) (λb w _ _ _ q _=>?_) λx N=>?_⟩;rotate_left
 ·obtain⟨p,rfl⟩:∃p,x=j p:=by simpa only[gT,dd]using N
  exact h (u,p)
 obtain⟨r,w',J,D,z⟩:=y u w (dN q);rw[J];refine⟨(by simp only[gT,dd];exact⟨r,rfl⟩),?_,by simp only[gS,dd,Vf A];exact z,?_⟩
 ·rw[show(b||E.length==c)=b from by simp[A]]
  cases b with
  |true=>exact(dN q).call z
  |false=>exact XC q (z.mono (Xj q))
 ·simp only[gR,dd]
  exact⟨w,w',λe=>absurd e A,dN q,D,cR.refl _ _ _ _⟩
theorem ku(S:∀u,Region.wanted o (yielded ops (a u).tmps)=true)(I:E.length=c)(k:Nat)(X:mi o k=true)(J:k<E.length){V:Type}(j:V->Yv)(d:V)(f:Yu->Yv->Yu->Prop)(z:U->Yv)(xs:U->List Yv)(hK:∀u,K u k (xs u) (z u))
  (y:∀u w,Ys W w->gR Z F W c E k (xs u) (z u) w->∃p w',(execOp (a u).eval o).run P w=.ok (.value (j p)) w'/\f w (j p) w'/\ah F w w')
  (h:gY P ops Z F W c (E++[.cal (λu=>∃p,u=j p) ⟨j d,d,rfl⟩ f]) Q rest (U×V) (λp=>(a p.1).put o.dst (j p.2)) (λp=>(K p.1).ins E.length (jA (a p.1) o) (j p.2))):gY P ops Z F W c E Q (o::rest) U a K:=by
 obtain⟨E',N,h⟩:=h.more;refine⟨_,N,λu=>gB (S u) (λb w _ D _ q Y=>?_) λx hx=>?_⟩;rotate_left
 ·obtain⟨p,rfl⟩:∃p,x=j p:=by simpa only[gT,dd]using hx
  exact h (u,p)
 have B:=D I;subst B;have q:Ys W w:=q;have A:=Y k _ _ (hK u) (eD X);rw[te J]at A;obtain⟨r,w',hr,O,B⟩:=y u w q A;rw[hr];refine⟨(by simp only[gT,dd];exact⟨r,rfl⟩),?_,by simp only[gS,dd,Vh I];exact B,?_⟩
 ·rw[show(false||E.length==c)=true from by simp[I]]
  exact(ah.of_below q).trans B
 ·simp only[gR,dd]
  exact⟨w,w',λ_=>q,ah.of_below q,O,cR.refl _ _ _ _⟩
theorem vh(I:∀u,Region.wanted o (yielded ops (a u).tmps)=true)(A:E.length≠c)(k:Nat)(j:mi o k=true)(B:k<E.length)(f:FuncId)(args:U->Array Yv)(v:Yv)(N:∀u,∀w,(execOp (a u).eval o).run P w=.ok (.enter f (args u)) w)
  (z:U->Yv) (xs:U->List Yv) (V:∀u,K u k (xs u) (z u)) (X:∀u w,ah F W w->gR Z F W c E k (xs u) (z u) w->Calls P f (args u) w λe w'=>e=.returned v/\Ys w w')
  (h:gY P ops Z F W c (E++[.is v]) Q rest U (λu=>(a u).put o.dst v) K) (J:QM Q:=by exact λ_ _ _ _ Y h w' A S=>h w' A λk xs u j=>S k xs u (Y k xs u j)):gY P ops Z F W c E Q (o::rest) U a K:=by
 obtain⟨E',D,h⟩:=h.more;refine⟨_,D,λu=>gB (I u) (λb w _ _ _ q O=>?_) λx hx=>?_⟩
 ·have p:=O k _ _ (V u) (eD j)
  rw[te B]at p;rw[N u w];refine(X u w (dN q) p).mono ?_;rintro e w' ⟨rfl,y⟩;refine⟨_,rfl,by simp only[gT,dd],?_,by simp only[gS,dd];exact y,by simp only[gR,dd]⟩;rw[show(b||E.length==c)=b from by simp[A]];cases b with
  |true=>exact(dN q).call y
  |false=>exact XC q (y.mono (Xj q))
 ·have:x=v:=by simpa only[gT,dd]using hx
  subst this;exact iL (J _) _ _ _ _ _ (λk xs u j=>.inr j) (h u)
def sg(t:Yw)(cs:Array Yv)(w:Yu)(u:Yv)(w':Yu):Prop:=∃g,u=.slice (some ⟨g,0,none⟩) 1 1/\w.heap.size<=g/\ai w' g t cs
end
end
section
open Go.RowKit Go.BigFrame
theorem aA{α:Sort _}{p q:α->Prop}{v:α}(f:p v)(h:q v):∃v,p v/\q v:=⟨v,f,h⟩
def UM(o:Oper):Option (Yx×Yx×Yx):=match o.op with
 |.call ⟨.builtin _,#[x],_⟩=>some (x,x,x)
 |.call ⟨.builtin _,#[x,y],_⟩=>some (x,y,y)
 |.build _ #[]=>some (.const undef,.const undef,.const undef)
 |_=>none
def ND(o:Oper):Option (Yx×Yx×Yx):=match UM o with
 |some t=>some t
 |none=>match UP o with
  |some x=>some (x,x,x)
  |none=>match UO o with
   |some (x,y)=>some (x,y,y)
   |none=>UN o
section
variable{P:Program}{ops:Array Oper}{W:Yu}{E:List En}{Q:List En->Act->aI->Prop}{o:Oper}{rest:List Oper}{U:Type}{a:U->Act}{F:U->aI}
theorem dx(z:ND o=some (x1,x2,x3)){v1 v2 v3:U->Yv}
  (h:∃v,(∀u,∀ρ:Yx->Yv,ρ x1=v1 u->ρ x2=v2 u->ρ x3=v3 u->∀w,Ys W w->(execOp ρ o).run P w=.ok (.value v) w)/\wm P ops W (E++[.is v]) Q rest U (λu=>(a u).put o.dst v) (λu=>(F u).ins E.length v))
  (f:∀u,Region.wanted o (yielded ops (a u).tmps)=true:=by exact λ_=>rfl)
  (q:∀u,cT (a u) x1=some (v1 u):=by exact λ_=>rfl) (j:∀u,cT (a u) x2=some (v2 u):=by exact λ_=>rfl) (x:∀u,cT (a u) x3=some (v3 u):=by exact λ_=>rfl):wm P ops W E Q (o::rest) U a F:=by
 obtain⟨v,p,h⟩:=h;exact iv f ⟨v,λu w y=>p u (a u).eval (aQ (q u)) (aQ (j u)) (aQ (x u)) w y,h⟩
theorem dq{T:Yu->Prop}(I:∀w,Ys W w->T w)(J:ND o=some (x1,x2,x3)){v1 v2 v3:U->Yv}
  (h:wm P ops W (E++[.is v]) Q rest U (λu=>(a u).put o.dst v) (λu=>(F u).ins E.length v))
  (f:∀u,Region.wanted o (yielded ops (a u).tmps)=true:=by exact λ_=>rfl)
  (A:∀u,cT (a u) x1=some (v1 u):=by exact λ_=>rfl) (j:∀u,cT (a u) x2=some (v2 u):=by exact λ_=>rfl) (B:∀u,cT (a u) x3=some (v3 u):=by exact λ_=>rfl)
  (p:∀u,∀ρ:Yx->Yv,ρ x1=v1 u->ρ x2=v2 u->ρ x3=v3 u->∀w,T w->(execOp ρ o).run P w=.ok (.value v) w:=by intro _ ρ x y z w q;simp[execOp,go_sem,x,y,z,q]<;>exact rfl):wm P ops W E Q (o::rest) U a F:=
 iv f ⟨v,λu w D=>p u (a u).eval (aQ (A u)) (aQ (j u)) (aQ (B u)) w (I w D),h⟩
end
section
variable{P:Program}{ops:Array Oper}{W:Yu}{E:List En}{Q:Act->aI->Prop}{i:Nat}{o:Oper}{rest:List Oper}{a:Act}{F:aI}
theorem sW(A:ND o=some (x1,x2,x3))(p:E[i]? =some (.is v)){v3:Yv}(f:∀ρ:Yx->Yv,ρ x1=v1->ρ x2=v2->ρ x3=v3->∀w,Ys W w->(execOp ρ o).run P w=.ok (.value v) w)
  (h:Lw P ops W E Q (i+1) rest (a.put o.dst v) (F.ins i v)) (j:Region.wanted o (yielded ops a.tmps)=true:=by rfl) (x:cT a x1=some v1:=by rfl) (q:cT a x2=some v2:=by rfl) (y:cT a x3=some v3:=by rfl):Lw P ops W E Q i (o::rest) a F:=
 jk j v p (λw z=>f a.eval (aQ x) (aQ q) (aQ y) w z) h
end
end
section
open Go.RowKit Go Go.BigFrame
def Kr(p:Op):List Yx:=match p with
 |.call c=>match c.callee with
  |.builtin _=>c.args.toList
  |_=>c.operands.toList
 |p=>p.operands.toList
theorem Gg(p:Op):Kr p=p.operands.toList:=by
 unfold Kr;split
 ·rename_i c
  split
  ·rename_i e
   simp[Op.operands,Call.operands,e]
  ·rfl
 ·rfl
def Q3(o:Oper):Option (Yx×Yx×Yx):=match Kr o.op with
 |[x]=>some (x,x,x)
 |[x,y]=>some (x,y,y)
 |[x,y,z]=>some (x,y,z)
 |_=>none
theorem Hw{o:Oper}(h:Q3 o=some (x1,x2,x3)):x1∈o.op.operands.toList/\x2∈o.op.operands.toList/\x3∈o.op.operands.toList:=by
 unfold Q3 at h;rw[<-Gg];split at h
 all_goals first|cases h|skip
 all_goals
  rename_i e;rw[e];simp
section
variable{P:Program}{ops:Array Oper}{Z:List Yw}{F:Nat->Prop}{W:Yu}{c:Nat}{E:List Eg}{Q:List Eg->Act->iI->Prop}{o:Oper}{rest:List Oper}{U:Type}{a:U->Act}{K:U->iI}
theorem bT(I:ND o=some (x1,x2,x3)){v1 v2 v3:U->Yv}
  (h:∃v,(∀u,∀ρ:Yx->Yv,ρ x1=v1 u->ρ x2=v2 u->ρ x3=v3 u->∀w,ah F W w->(execOp ρ o).run P w=.ok (.value v) w)/\gY P ops Z F W c (E++[.is v]) Q rest U (λu=>(a u).put o.dst v) K)
  (j:∀u,Region.wanted o (yielded ops (a u).tmps)=true:=by exact λ_=>rfl)
  (y:∀u,cT (a u) x1=some (v1 u):=by exact λ_=>rfl) (x:∀u,cT (a u) x2=some (v2 u):=by exact λ_=>rfl) (z:∀u,cT (a u) x3=some (v3 u):=by exact λ_=>rfl)
  (q:QM Q:=by exact λ_ _ _ _ B h w' D f=>h w' D λk xs u p=>f k xs u (B k xs u p)):gY P ops Z F W c E Q (o::rest) U a K:=by
 obtain⟨v,f,h⟩:=h;exact xA j ⟨v,λu w A=>f u (a u).eval (aQ (y u)) (aQ (x u)) (aQ (z u)) w A,h⟩ q
theorem bM(x:ops[E.length]? =some o)(A:Q3 o=some (x1,x2,x3)){v1 v2 v3:U->Yv}
  (h:∃v:U->Yv,(∀u,∀ρ:Yx->Yv,ρ x1=v1 u->ρ x2=v2 u->ρ x3=v3 u->∀w,(execOp ρ o).run P w=.ok (.value (v u)) w)/\gY P ops Z F W c (E++[.fn]) Q rest U (λu=>(a u).put o.dst (v u)) K)
  (p:∀u,Region.wanted o (yielded ops (a u).tmps)=true:=by exact λ_=>rfl)
  (I:∀u,cT (a u) x1=some (v1 u):=by exact λ_=>rfl) (B:∀u,cT (a u) x2=some (v2 u):=by exact λ_=>rfl) (N:∀u,cT (a u) x3=some (v3 u):=by exact λ_=>rfl)
  (y:QM Q:=by exact λ_ _ _ _ O h w' S j=>h w' S λk xs u q=>j k xs u (O k xs u q)):gY P ops Z F W c E Q (o::rest) U a K:=by
 obtain⟨v,j,h⟩:=h;obtain⟨J,z,D⟩:=Hw A;exact IA p x ⟨v,λu ρ f w=>j u ρ ((mq f J).trans (aQ (I u))) ((mq f z).trans (aQ (B u))) ((mq f D).trans (aQ (N u))) w,h⟩ y
theorem eV{T:Yu->Prop}(S:∀w,ah F W w->T w)(V:ND o=some (x1,x2,x3)){v1 v2 v3:U->Yv}
  (h:gY P ops Z F W c (E++[.is v]) Q rest U (λu=>(a u).put o.dst v) K)
  (j:∀u,Region.wanted o (yielded ops (a u).tmps)=true:=by exact λ_=>rfl)
  (D:∀u,cT (a u) x1=some (v1 u):=by exact λ_=>rfl) (B:∀u,cT (a u) x2=some (v2 u):=by exact λ_=>rfl) (I:∀u,cT (a u) x3=some (v3 u):=by exact λ_=>rfl)
  (f:∀u,∀ρ:Yx->Yv,ρ x1=v1 u->ρ x2=v2 u->ρ x3=v3 u->∀w,T w->(execOp ρ o).run P w=.ok (.value v) w:=by intro _ ρ x y z w q;simp[execOp,go_sem,x,y,z,q]<;>exact rfl)
  (A:QM Q:=by exact λ_ _ _ _ N h w' O f=>h w' O λk xs u p=>f k xs u (N k xs u p)):gY P ops Z F W c E Q (o::rest) U a K:=
 xA j ⟨v,λu w J=>f u (a u).eval (aQ (D u)) (aQ (B u)) (aQ (I u)) w (S w J),h⟩ A
theorem bH(B:Q3 o=some (x1,x2,x3)){v v1 v2 v3:U->Yv}
  (h:gY P ops Z F W c (E++[.fn]) Q rest U (λu=>(a u).put o.dst (v u)) K) (q:ops[E.length]? =some o:=by kernel_rfl)
  (j:∀u,Region.wanted o (yielded ops (a u).tmps)=true:=by exact λ_=>rfl)
  (I:∀u,cT (a u) x1=some (v1 u):=by exact λ_=>rfl) (D:∀u,cT (a u) x2=some (v2 u):=by exact λ_=>rfl) (J:∀u,cT (a u) x3=some (v3 u):=by exact λ_=>rfl)
  (f:∀u,∀ρ:Yx->Yv,ρ x1=v1 u->ρ x2=v2 u->ρ x3=v3 u->∀w,(execOp ρ o).run P w=.ok (.value (v u)) w:=by intro _ ρ x y z w;simp[execOp,go_sem,x,y,z]<;>exact rfl)
  (A:QM Q:=by exact λ_ _ _ _ N h w' O f=>h w' O λk xs u p=>f k xs u (N k xs u p)):gY P ops Z F W c E Q (o::rest) U a K:=
 bM q B ⟨v,f,h⟩ j I D J A
theorem bJ{xs:List Yv}{x:Yv->Prop}{p:∃u,x u}{f:Yu->Yv->Yu->Prop}(h:gR Z F W c E i xs u w)(y:E[i]? =some (.cal x p f)):
  ∃j q,(i=c->Ys W j)/\ah F W j/\f j u q/\cR Z (λk=>i≠c/\F k) W.heap.size q w:=by
 unfold gR at h;rw[y]at h;exact h
end
end
section
open Go.RowKit Go
theorem AV(w:Yu)(t:Yw)(c:Array Yv):∃f,f=w.alloc (.cells c t)/\ai f w.heap.size t c/\Ys w f:=⟨_,rfl,ai.new _ _ _,(Vd _ _).alloc (Vc _) _⟩
theorem qy(w:Yu)(p:Yw)(c1:Array Yv)(j:Yw)(f:Array Yv):∃h,h=(w.alloc (.cells c1 p)).alloc (.cells f j)/\aD h [(w.heap.size+1,j,f),(w.heap.size,p,c1)]/\Ys w h:=
 ⟨_,rfl,((aD.nil (w:=w)).push (t:=p) (cs:=c1) (g:=w.heap.size) rfl).push (t:=j) (cs:=f) (g:=w.heap.size+1) (by simp),((Vd _ _).alloc (Vc _) _).alloc (by simp) _⟩
theorem SN(w:Yu)(q:Yw)(c1:Array Yv)(j:Yw)(f:Array Yv)(p:Yw)(x:Array Yv):∃h,h=((w.alloc (.cells c1 q)).alloc (.cells f j)).alloc (.cells x p)/\aD h [(w.heap.size+2,p,x),(w.heap.size+1,j,f),(w.heap.size,q,c1)]/\Ys w h:=
 ⟨_,rfl,(((aD.nil (w:=w)).push (t:=q) (cs:=c1) (g:=w.heap.size) rfl).push (t:=j) (cs:=f) (g:=w.heap.size+1) (by simp)).push (t:=p) (cs:=x) (g:=w.heap.size+2) (by simp),(((Vd _ _).alloc (Vc _) _).alloc (by simp) _).alloc (by simp;omega) _⟩
end
section
open Go.RowKit
def Me(e:Ev):List Int:=e.o::(cL e.s++(g8 e.d++(e.k::(cL e.n++(e.t::(cL e.a++(cL e.r++cL e.f)))))))
theorem xH(e:Ev):(Me e).length=91:=rfl
def lq(e:Ev):List Int:=if aX e=true then Me e else[]
theorem ur(h:aX e=true):lq e=Me e:=Vh h
theorem yz(h:aX e=false):lq e=[]:=Vf (by simp[h])
theorem pB(e:Ev):(lq e).length<=91:=by unfold lq;split<;>simp[xH]
structure Bb(e:Ev):Prop where
 o1:1<=e.o
 o2:e.o<=6
 s1:1<=e.s
 s2:e.s<1099511627776
 k1:1<=e.k
 k2:e.k<=7
 t1:0<=e.t
 t2:e.t<=6
 a1:0<=e.a
 a2:e.a<=1125899906842624
theorem ji(h:aX e=true):Bb e:=by
 unfold aX at h;simp only[Vo]at h;obtain⟨q,p,j⟩:=h;have j:=(Dj e).1 (Wo j);have N:(1<=e.o/\e.o<=6)/\1<=e.s/\e.s<1099511627776:=by
  unfold ib cB at q;simp only[Vo,VC]at q;exact⟨q.1.1.1.1,q.1.1.1.2,q.1.1.2⟩
 obtain⟨⟨J,I⟩,s1,s2⟩:=N;have key:(1<=e.k/\e.k<=7)/\(0<=e.t/\e.t<=6)/\0<=e.a/\e.a<=1125899906842624:=by
  obtain⟨o,s,d,k,n,t,a,r,f⟩:=e;unfold Kl Ev.bare at j;unfold bU fS In cB at p;simp only at j p J I s1 s2⊢;by_cases A:k=1
  ·subst A;simp at j p;omega
  by_cases y:k=2
  ·subst y;simp at j p;omega
  by_cases D:k=3
  ·subst D;simp at j p;omega
  by_cases z:k=4
  ·subst z;simp at j p;omega
  by_cases B:k=5
  ·subst B;simp at j p;omega
  by_cases x:k=6
  ·subst x;simp at j p;omega
  ·simp[A,y,D,z,B,x]at j p;omega
 exact⟨J,I,s1,s2,key.1.1,key.1.2,key.2.1.1,key.2.1.2,key.2.2.1,key.2.2.2⟩
theorem fj(n:Int):∀c∈cL n,0<=c/\c<=255:=by
 intro c f;simp only[cL,Vy,WM,WR]at f;rcases f with rfl|rfl|rfl|rfl|rfl|rfl|rfl|rfl<;>exact aB _ _
theorem AP(h:Bb e):∀c∈Me e,0<=c/\c<=255:=by
 intro c hc;obtain⟨A,z,s1,s2,f,p,q,j,x,y⟩:=h;simp only[Me,Vy,Vw]at hc;rcases hc with rfl|hc|hc|rfl|hc|rfl|hc|hc|hc
 ·omega
 ·exact fj _ c hc
 ·exact wy _ c hc
 ·omega
 ·exact fj _ c hc
 ·omega
 ·exact fj _ c hc
 ·exact fj _ c hc
 ·exact fj _ c hc
theorem wM(e:Ev):∀c∈lq e,0<=c/\c<=255:=by
 intro c f;cases h:aX e with
 |true=>rw[ur h]at f;exact AP (ji h) c f
 |false=>rw[yz h]at f;cases f
def Ru(l:List Int):Ev:=
 ⟨l.getD 0 0,bW ((l.drop 1).take 8),wh ((l.drop 9).take 48),l.getD 57 0,bW ((l.drop 58).take 8),l.getD 66 0,bW ((l.drop 67).take 8),bW ((l.drop 75).take 8),bW ((l.drop 83).take 8)⟩
def Iv(l:List Int):Ev:={Ru l with a:=IntKind.i64.wrap (Ru l).a}
end
section
open Go.RowKit Go
section
variable{F:Fence}{n:Nat}{P:Program}{α:Type}
def xW(F:Fence)(n:Nat)(P:Program)(gf:Nat)(lb:Array Yv)(h:α->Array Yv)(y:Yu->Yu->Prop)(Inv:Yu->Prop)(q:Yu->Yu->Prop)(N:Nat)(Ok:α->Prop)(xs:List α)(w0:Yu):Prop:=
 ∀(l:Nat) (J:List α->Yu->Prop) (W:Yu),(∀f A B,J f A->y A B->J f B)->(∀f A,J f A->Inv A)->
  (∀f x p,J f p->f.length<N->Ok x->YieldAt F (n-1) P l (h x) p λe j=>e=.returned (.bool true)/\J (f++[x]) j/\q p j)->
  q w0 W->J [] W->CallsIn F n P gf (#[.func (.yield l) #[] #[]]++lb) W λe j=>(∃v,e=.returned v)/\J xs j
def Kj(B:Nat)(f:Yu->Yu->Prop)(I:List α->Yu->Prop)(h:List α)(W:Yu):Exit->Act->Yu->Prop
 |.normal,_,W'=>KeepsFrom B W W'/\f W W'/\I h W'
 |_,_,_=>False
theorem yv{g:Yx}{ps:Array Tmp}{assign body:Code}
  (π:F.round=none) (h1:1<=n) {gf:Nat} {lb:Array Yv} (hg:a.eval g=.func (.func gf) #[] lb) (Δ:F.fn gf) (eg:∀args w,(callFunc gf args).run P w=.ok (.enter gf args) w)
  {y:α->Array Yv} {St:Yu->Yu->Prop} {Inv:Yu->Prop} {O:Yu->Yu->Prop} {N:Nat} {Ok:α->Prop} {xs:List α} (δ:xW F (n-1) P gf lb y St Inv O N Ok xs w)
  (κ:∀{A B C:Yu},O A B->O B C->O A C) (τ:O w w) (η:∀(W:Yu) (o:Obj),O w W->O w (W.alloc o)) (ν:∀(W:Yu) (l:Nat) (o:Obj),w.heap.size<=l->O W (W.putObj l o)) (χ:∀x,(y x).size=ps.size)
  (I:List α->Yu->Prop) (ζ:∀W o,I [] W->I [] (W.alloc o)) (φ:∀f W l o o',w.heap.size<=l->W.heap[l]? =some o->o.isCells=false->I f W->I f (W.putObj l o'))
  (ω:∀f A B,I f A->St A B->I f B/\KeepsFrom w.heap.size A B) (ι:∀f A,I f A->Inv A) (h0:I [] w) (S:α->Act)
  (z:∀(l:Nat) (x:α) (W:Yu) (K:Act->Yu->Prop),K (S x) W->
   assign.wpIn (F.inRound l) (n-1-1) P (Exit.then K (λ_ _ _=>False)) {tmps:=(ps.zip (y x)).foldl (λt (p,v)=>t.setIfInBounds p v) a.tmps,defers:=[]} W)
  (γ:∀(l:Nat) (f:List α) (x:α) (W:Yu),I f W->f.length<N->Ok x->body.wpIn (F.inRound l) (n-1-1) P (Kj w.heap.size O I (f++[x]) W) (S x) W)
  (X:∀(D:Nat) (W:Yu),w.heap.size<=D->I xs W->W.heap[D]? =some (.deferred (some []))->Q .normal {a with defers:={target:=.collected D,args:=#[]}::a.defers} W):
  (Code.rangeFunc g ps assign body).wpIn F n P Q a w:=by
 refine wpIn_rangeFunc λfn ψ=>?_
 rw[π];generalize hb:w.heap.size=b at*;obtain⟨q,j⟩:∃q:LoopState->Option Code->Loop,q=λst pe=>{state:=st,pending:=pe,fn,tmps:=a.tmps,params:=ps,assign,body,defers:=b}:=⟨_,rfl⟩
 have ξ:((w.alloc (.deferred (some []))).alloc (.loop (q .ready none))).heap[b+1]? =some (.loop (q .ready none)):=by
  have:=World.alloc_heap_new (w.alloc (.deferred (some []))) (.loop (q .ready none));rwa[WA,hb]at this
 have Γ:((w.alloc (.deferred (some []))).alloc (.loop (q .ready none))).heap[b]? =some (.deferred (some [])):=
  (WK _ _ _ (by simp[hb])).trans (by have:=World.alloc_heap_new w (.deferred (some []));rwa[hb]at this)
 have ε:(Instr.enterLoop fn a.tmps ps assign body none).run P w=.ok (b+1,[{target:=.collected b,args:=#[]}]) ((w.alloc (.deferred (some []))).alloc (.loop (q .ready none))):=by
  rw[j,<-hb];exact run_enterLoop_outer _ _ _ _ _
 refine⟨b+1,[{target:=.collected b,args:=#[]}],_,{target:=.fn (.func gf) lb,args:=#[.func (.yield (b+1)) #[] #[]]},(w.alloc (.deferred (some []))).alloc (.loop (q .ready none)),gf,#[.func (.yield (b+1)) #[] #[]]++lb,(w.alloc (.deferred (some []))).alloc (.loop (q .ready none)),ε,?_,?_,?_,λ_=>h1,?_⟩
 ·simp only[resolve,hg];simp[go_sem]
 ·intro f' θ;simp[Target.leads]at θ;subst θ;exact Δ
 ·simp[invoke,go_sem,eg]
 have turn:∀(f:List α) (W:Yu) (r r':Loop),W.heap[b+1]? =some (.loop r)->W.heap[b]? =some (.deferred (some []))->I f W->
   I f (W.putObj (b+1) (.loop r'))/\(W.putObj (b+1) (.loop r')).heap[b+1]? =some (.loop r')/\(W.putObj (b+1) (.loop r')).heap[b]? =some (.deferred (some [])):=λf W r r' J V Y=>
  ⟨φ f W _ _ _ (by omega) J rfl Y,World.putObj_heap_same (Vv.1 J).1,(WC (by omega)).trans V⟩
 refine(δ (b+1) (λf W=>I f W/\W.heap[b+1]? =some (.loop (q .ready none))/\W.heap[b]? =some (.deferred (some []))) _
  (λf A B ⟨Y,J,V⟩ hs=>?_) (λf A h=>ι f A h.1) ?_ (η _ _ (η _ _ τ)) ⟨ζ _ _ (ζ _ _ h0),ξ,Γ⟩).mono ?_
 ·obtain⟨h2,h3⟩:=ω f A B Y hs
  exact⟨h2,h3.same _ _ (by omega) J rfl,h3.same _ _ (Vc _) V rfl⟩
 ·rintro f x W ⟨Y,J,V⟩ μ σ
  have hy:=run_yield (P:=P) (args:=y x) J (by rw[j];exact χ x);rw[j]at hy;refine⟨fn,_,assign,body,hy,roundIn_of_wpIn ψ (z _ x W _ ⟨_,run_beginRound J (by rw[j]),?_⟩)⟩;obtain⟨i2,l2,d2⟩:=turn f W _ {q .ready none with state:=.busy} J V Y;refine wpIn_mono (γ _ f x _ i2 μ σ) ?_;rintro e a3 W3 hp;cases e with
  |normal=>
   obtain⟨k3,υ,i3⟩:=hp;have l3:=k3.same _ _ (by omega) l2 rfl;have d3:=k3.same _ _ (Vc _) d2 rfl;obtain⟨i4,l4,d4⟩:=turn (f++[x]) W3 _ (q .ready none) l3 d3 i3;refine⟨_,_,run_endRound none l3,rfl,⟨?_,?_,?_⟩,?_⟩
   ·rw[j]at i4⊢;exact i4
   ·rw[j]at l4⊢;exact l4
   ·rw[j]at d4⊢;exact d4
   ·exact κ (κ (ν _ _ _ (by omega)) υ) (ν _ _ _ (by omega))
  |ret=>exact hp.elim
  |exit id=>exact hp.elim
  |goto t=>exact hp.elim
  |panic ch=>exact hp.elim
  |outgrown=>exact hp.elim
 ·rintro e W2 ⟨⟨v,rfl⟩,Y,J,V⟩
  have h2:=run_endLoop (P:=P) J (by rw[j];simp);obtain⟨i4,l4,d4⟩:=turn xs W2 _ {q .ready none with state:=.exhausted} J V Y;have h3:(Instr.endLoop (b+1)).run P W2=.ok none (W2.putObj (b+1) (.loop {q .ready none with state:=.exhausted})):=by rw[h2];rw[j]
  exact⟨none,_,h3,X _ _ (Vc _) i4 d4⟩
end
end
section
open Go.RowKit
theorem Et(e:Ev)(hv:e.ok)(h:ib e=true)(w:Yu):Yt 72 #[.agg (ao e)] w λr w'=>r=.returned (.bool (bU e&&decide (jB e=e.bare)))/\Ys w w':=by
 obtain⟨k,Y,J,q,p,h3,h4⟩:=na e h;have C1:=U9 (eY e.o true (by rw[J];exact ia k Y));have d1:decide (e.s<1)=false:=by simpa using q
 have d2:decide (1099511627776<=e.s)=false:=by simpa using p
 have s1:IntKind.u64.wrap (e.s-1)=e.s-1:=XN _ (by omega);have o1:IntKind.i64.wrap (e.o-1)=(k:Int):=by rw[J];simp;exact VE _ (by omega)
 have i1:(0:Int)<=(k:Int):=by omega
 have i2:(k:Int)<6:=by omega
 have g1:=kA e k Y;have n1:(e.d.get k !=e.s-1)=false:=by simpa[bne]using h3
 have hm:decide (1099511627776<=Bv e.d 5)=false:=by rw[rj,h4];rfl
 have X:=U9 λW hc=>uc w.heap.size e.d W hc
 obtain⟨O,f⟩:∃b,bU e=b:=⟨_,rfl⟩;have I:=U9 f;have N:=λ(W:Yu) (T:bF w W [(w.heap.size+1,228,ao e),(w.heap.size,53,ao e)])=>AS T (XV _) ⟨by omega,trivial⟩
 rw[f]at N;have C3:=U9 N;clear J h h3 h4 f N;rcases(show O=false\/O=true from by cases O<;>simp)with rfl|rfl
 ·go_enter func72,ntmps72
  go_wp2_with fail;go_quiet ((go_at_call 87;exact Vu ((C1.o _).mono λ_ _ ⟨q,p⟩=>⟨q,p.symm⟩)));have A:=((bF.nil w).push (t:=53) (cs:=ao e) rfl).drewN nq;go_wp2_with fail;refine(X.o _ ?hc).mono ?_
  (case hc=>exact λi S=>((A.blk _ _ _ Vp).cell (2+i)).trans (kA e i S))
  rintro r w1 ⟨rfl,rfl⟩;go_wp2_with fail;have D:=A.push (t:=228) (cs:=ao e) (g:=w.heap.size+1) (by simp);refine jJ 3 (by kernel_rfl) (by kernel_rfl) (by decide) (by kernel_rfl) (by kernel_rfl) ?_;simp only[U4,U5,U6,U7];have V:=D.drew;go_wp2_with (go_at_call 89;(refine(C3.o _ V).mono ?_);rintro r w2 ⟨rfl,e',j,-⟩);obtain⟨q0,-,q1,-,-⟩:=j.rules;obtain⟨l0,l1,-⟩:=j.lts;refine On ?_
  repeat (go_big_quiet_step (fail))
  refine Xm ?_;rintro B ⟨x,rfl⟩;have z:=j.call x.below;generalize x.w=B at z;go_wp2_with fail;go_ret;refine⟨?_,z.below⟩;rw[I.o];rfl
 ·go_enter func72,ntmps72
  go_wp2_with fail;go_quiet ((go_at_call 87;exact Vu ((C1.o _).mono λ_ _ ⟨q,p⟩=>⟨q,p.symm⟩)));have A:=((bF.nil w).push (t:=53) (cs:=ao e) rfl).drewN nq;go_wp2_with fail;refine(X.o _ ?hc).mono ?_
  (case hc=>exact λi S=>((A.blk _ _ _ Vp).cell (2+i)).trans (kA e i S))
  rintro r w1 ⟨rfl,rfl⟩;go_wp2_with fail;have D:=A.push (t:=228) (cs:=ao e) (g:=w.heap.size+1) (by simp);refine jJ 3 (by kernel_rfl) (by kernel_rfl) (by decide) (by kernel_rfl) (by kernel_rfl) ?_;simp only[U4,U5,U6,U7];have V:=D.drew;go_wp2_with (go_at_call 89;(refine(C3.o _ V).mono ?_);rintro r w2 ⟨rfl,e',j,y⟩;have HE:=U9 y;clear y);obtain⟨q0,-,q1,-,-⟩:=j.rules;obtain⟨l0,l1,-⟩:=j.lts;refine On ?_
  repeat (go_big_quiet_step (fail))
  refine Xm ?_;rintro B ⟨x,rfl⟩;have z:=j.call x.below;generalize x.w=B at z;go_wp2_with fail;go_ret;refine⟨?_,z.below⟩;rw[I.o,Bool.true_and,<-HE.o I.o];rfl
theorem SF(e:Ev)(f:e.ok)(w:Yu):Yt 72 #[.agg (ao e)] w λr w'=>r=.returned (.bool (aX e))/\Ys w w':=by
 unfold aX;cases h:ib e with
 |false=>exact Hi e f h w
 |true=>rw[Bool.true_and];exact Et e f h w
theorem ii(e:Ev)(f:e.ok)(b:Bool)(h:aX e=b)(w:Yu):Yt 72 #[.agg (ao e)] w λr w'=>r=.returned (.bool b)/\Ys w w':=by
 subst h;exact SF e f w
end
section
open Go.RowKit Go
section
variable{P:Program}{ops:Array Oper}{md:Region.Mode}{C:Yu->Prop}{T:Nat->Option Yv}{R:Nat->Yv->Yu->Prop}{fp:Nat->Yv->Option Nat}{c:Nat->Option Nat}
def qI(md:Region.Mode)(ops:Array Oper)(o:Oper)(k:Nat):Prop:=qG md o k\/ops.size<=k
def kF(md:Region.Mode)(ops:Array Oper)(fp:Nat->Yv->Option Nat)(c:Nat->Option Nat)(i:Nat)(o:Oper)(F:aI)(u:Yv)(w w':Yu):Prop:=
 ∃K:Option Nat,w.grownBy w' K/\(K=none\/∃k x,F k x/\qI md ops o k/\c k=some i/\K=fp k x)/\∀b,fp i u=some b->b<w'.heap.size/\(w.heap.size<=b\/K=some b)
def iA(P:Program)(md:Region.Mode)(ops:Array Oper)(C:Yu->Prop)(T:Nat->Option Yv)(R:Nat->Yv->Yu->Prop)(fp:Nat->Yv->Option Nat)(c:Nat->Option Nat)(i:Nat)(o:Oper)(F:aI)(w:Yu):Result Next->Prop
 |.ok (.value u) w'=>i9 T i u/\C w'/\kF md ops fp c i o F u w w'/\R i u w'
 |.ok (.enter f args) w'=>Calls P f args w' λe w''=>∃u,e=.returned u/\i9 T i u/\C w''/\kF md ops fp c i o F u w w''/\R i u w''
 |_=>False
theorem kF.mono{o:Oper}{j:aI}(h:kF md ops fp c i o F u w w')(hF:∀k x,F k x->qI md ops o k->j k x):kF md ops fp c i o j u w w':=by
 obtain⟨K,p,f,q⟩:=h;refine⟨K,p,?_,q⟩;rcases f with f|⟨k,x,a,b,d,e⟩
 ·exact .inl f
 ·exact .inr ⟨k,x,hF k x a b,b,d,e⟩
theorem iA.mono{o:Oper}{j:aI}{r:Result Next}(h:iA P md ops C T R fp c i o F w r)(hF:∀k x,F k x->qI md ops o k->j k x):iA P md ops C T R fp c i o j w r:=by
 cases r with
 |ok n w'=>
  cases n<;>simp only[iA]at h⊢
  case value u=>exact⟨h.1,h.2.1,h.2.2.1.mono hF,h.2.2.2⟩
  case enter f args=>
   refine Xi h ?_;rintro e w'' ⟨u,p,z,q,A,y⟩;exact⟨u,p,z,q,A.mono hF,y⟩
 |halt x w'=>simp only[iA]at h
def Nk(P:Program)(md:Region.Mode)(ops:Array Oper)(C:Yu->Prop)(T:Nat->Option Yv)(R:Nat->Yv->Yu->Prop)(fp:Nat->Yv->Option Nat)(c:Nat->Option Nat)(i:Nat)(o:Oper)(a:Act)(F:aI):Prop:=
 ∀w,C w->(∀k u,F k u->qI md ops o k->(c k=none\/c k=some i)->R k u w)->iA P md ops C T R fp c i o F w ((execOp a.eval o).run P w)
def jY(P:Program)(md:Region.Mode)(ops:Array Oper)(C:Yu->Prop)(T:Nat->Option Yv)(R:Nat->Yv->Yu->Prop)(fp:Nat->Yv->Option Nat)(c:Nat->Option Nat)(i:Nat)(K:Act->aI->Prop)(a:Act)(F:aI):Prop:=
 match ops[i]? with
 |none=>K a F
 |some o=>if Region.wanted o (yielded ops a.tmps)then Nk P md ops C T R fp c i o a F/\∀u,i9 T i u->K (a.put o.dst u) (F.ins i u)else K (a.put o.dst undef) F
theorem AC{K p:Act->aI->Prop}(h:∀a F,K a F->p a F)(f:jY P md ops C T R fp c i K a F):jY P md ops C T R fp c i p a F:=by
 unfold jY at*;split
 ·exact h _ _ (by simpa[*]using f)
 ·rename_i o q
  simp only[q]at f;split
  ·rename_i j;simp only[j,We]at f;exact⟨f.1,λu x=>h _ _ (f.2 u x)⟩
  ·rename_i j;simp only[j]at f;exact h _ _ f
def oW(P:Program)(md:Region.Mode)(ops:Array Oper)(C:Yu->Prop)(T:Nat->Option Yv)(R:Nat->Yv->Yu->Prop)(fp:Nat->Yv->Option Nat)(c:Nat->Option Nat)(Q:Act->aI->Prop):Nat->Array Bool->Act->aI->Prop
 |0,listed,a,F=>Region.ready md ops listed=[]/\Q a F
 |fuel+1,listed,a,F=>
  (Region.ready md ops listed=[]->Q a F)/\
  ∀i∈Region.ready md ops listed,jY P md ops C T R fp c i (oW P md ops C T R fp c Q fuel (listed.setIfInBounds i true)) a F
def im(c:Nat->Option Nat)(listed:Array Bool)(k:Nat):Prop:=∀j,c k=some j->listed.getD j true=false
structure nJ(R:Nat->Yv->Yu->Prop)(fp:Nat->Yv->Option Nat)(c:Nat->Option Nat)(listed:Array Bool)(F:aI)(w:Yu):Prop where
 rel:∀k u,F k u->im c listed k->R k u w
 lt:∀k u,F k u->im c listed k->∀b,fp k u=some b->b<w.heap.size
 ne:∀k u k' u',F k u->F k' u'->im c listed k->im c listed k'->k≠k'->∀b,fp k u=some b->fp k' u'≠some b
theorem dw(h:im c (listed.setIfInBounds i true) k):im c listed k:=λj f=>by
 have:=h j f;by_cases e:i=j
 ·subst e
  rcases WG i listed.size with h'|h'
  ·simp[h']at this
  ·simp[VP h']at this
 ·rwa[WH true e]at this
theorem zW(f:c k=some i)(j:listed.getD i true=false):¬im c (listed.setIfInBounds i true) k:=λh=>by
 have:=h i f;rcases WG i listed.size with h'|h'
 ·simp[h']at this
 ·simp[VP h']at j
theorem nJ.step(hR:∀k u w w' K,R k u w->w.grownBy w' K->(∀b,fp k u=some b->b<w.heap.size/\K≠some b)->R k u w'){o:Oper}
  (z:nJ R fp c listed F w) (hi:listed.getD i true=false) (hs:kF md ops fp c i o F u w w') (hr:R i u w'):nJ R fp c (listed.setIfInBounds i true) (F.ins i u) w':=by
 obtain⟨K,Y,S,J⟩:=hs;have p:∀k x,F k x->im c (listed.setIfInBounds i true) k->∀b,fp k x=some b->K≠some b:=λk x hF y b f A=>by
  rcases S with S|⟨O,x0,N,_,I,V⟩
  ·rw[S]at A;cases A
  ·have hk:k≠O:=λe=>by subst e;exact zW I hi y
   have X:im c listed O:=λj hj=>by rw[I]at hj;cases hj;exact hi
   exact z.ne k x O x0 hF N (dw y) X hk b f (V▸A)
 refine⟨λk x hF y=>?_,λk x hF y b f=>?_,λk x k' x' hF hF' y B D b f=>?_⟩
 ·rcases hF with⟨rfl,rfl⟩|hF
  ·exact hr
  ·exact hR k x w w' K (z.rel k x hF (dw y)) Y λb f=>⟨z.lt k x hF (dw y) b f,p k x hF y b f⟩
 ·rcases hF with⟨rfl,rfl⟩|hF
  ·exact(J b f).1
  ·exact Vq (z.lt k x hF (dw y) b f) Y.size
 ·intro q
  rcases hF with⟨rfl,rfl⟩|hF
  ·rcases hF' with⟨rfl,rfl⟩|hF'
   ·exact D rfl
   ·rcases(J b f).2 with h|h
    ·have:=z.lt k' x' hF' (dw B) b q;omega
    ·exact p k' x' hF' B b q h
  ·rcases hF' with⟨rfl,rfl⟩|hF'
   ·rcases(J b q).2 with h|h
    ·have:=z.lt k x hF (dw y) b f;omega
    ·exact p k x hF y b f h
   ·exact z.ne k x k' x' hF hF' (dw y) (dw B) D b f q
theorem gN{Q:Act->aI->Prop}{Q':Exit->Act->Yu->Prop}(D:∀k u w w' K,R k u w->w.grownBy w' K->(∀b,fp k u=some b->b<w.heap.size/\K≠some b)->R k u w')(A:∀a F w listed,C w->nJ R fp c listed F w->Q a F->Q' .normal a w):
  ∀(fuel:Nat) (listed:Array Bool) (a:Act) (F:aI) (w:Yu),C w->nJ R fp c listed F w->oW P md ops C T R fp c Q fuel listed a F->wpAny P md ops Q' fuel listed a w
 |0,_,_,_,_,hw,hJ,h=>⟨h.1,A _ _ _ _ hw hJ h.2⟩
 |fuel+1,listed,a,F,w,hw,hJ,h=>by
  refine⟨λh0=>A _ _ _ _ hw hJ (h.1 h0),λi hi=>?_⟩;have y:=h.2 i hi;have q:=(WZ.1 hi).1;unfold jY at y;unfold wpOp;obtain⟨o0,N,_⟩:=(WZ.1 hi).2;split
  ·rename_i I;rw[N]at I;cases I
  ·rename_i o I
   simp only[I]at y;split
   ·rename_i p
    simp only[p,We]at y;obtain⟨V,hk⟩:=y;have z:=V w hw λk u S _ hc=>hJ.rel k u S λj J=>by
     rcases hc with hc|hc
     ·rw[hc]at J;cases J
     ·rw[hc]at J;cases J;exact q
    refine .inl ?_;unfold Oper.wp;generalize (execOp a.eval o).run P w=r at z;cases r with
    |ok n w'=>
     cases n<;>simp only[iA]at z<;>simp only[Oper.upon]
     case value u=>
      obtain⟨hm,hc,Y,X⟩:=z;exact gN D A fuel _ _ _ _ hc (hJ.step D q Y X) (hk u hm)
     case enter f args=>
      refine z.mono λe w'' ⟨u,he,hm,hc,Y,X⟩=>?_
      subst he;exact gN D A fuel _ _ _ _ hc (hJ.step D q Y X) (hk u hm)
    |halt x w'=>simp only[iA]at z
   ·rename_i p
    simp only[p]at y;refine gN D A fuel _ _ _ _ hw ⟨λk u hF B=>hJ.rel k u hF (dw B),λk u hF B=>hJ.lt k u hF (dw B),λk u k' u' hF O B γ=>hJ.ne k u k' u' hF O (dw B) (dw γ)⟩ y
theorem sm{Q:Act->aI->Prop}{z:Oper}(hi:ops[i]? =some z)(δ:∀(j:Nat) (o:Oper) cs b,ops[j]? =some o->o.op≠ .select cs b):
  ∀(fuel:Nat) (listed:Array Bool) (a:Act) (F:aI),
   (∀j p,ops[j]? =some p->j≠i->listed.getD j true=false->(∀e∈p.after,Region.binds md e=true->e.on≠i)->z.apart ops p=true)->
   i∈Region.ready md ops listed->jY P md ops C T R fp c i (oW P md ops C T R fp c Q fuel (listed.setIfInBounds i true)) a F->oW P md ops C T R fp c Q (fuel+1) listed a F:=by
 intro fuel
 induction fuel with
 |zero=>
  intro listed a F _ hr H;refine⟨λh=>(by rw[h]at hr;cases hr),λj hj=>?_⟩;by_cases y:j=i
  ·subst y;exact H
  ·have h1:=Xz hj y
   have h2:Region.ready md ops (listed.setIfInBounds i true)=[]:=by
    unfold jY at H;simp only[hi]at H;split at H
    ·obtain⟨u,hu⟩:=kp T i;exact(H.2 u hu).1
    ·exact H.1
   rw[h2]at h1;cases h1
 |succ fuel ih=>
  intro listed a F J hr H;refine⟨λh=>(by rw[h]at hr;cases hr),λj hj=>?_⟩;by_cases y:j=i
  ·subst y;exact H
  obtain⟨X,p,N,υ⟩:=WZ.1 hj;have γ:∀e∈p.after,Region.binds md e=true->e.on≠i:=λe he hb ζ=>by
   have h1:=υ e he hb;have h0:=(WZ.1 hr).1;rw[ζ]at h1;rcases WG i listed.size with h'|h'
   ·simp[h']at h0 h1;rw[h0]at h1;cases h1
   ·simp[VP h']at h1
  have θ:¬qG md p i:=λ⟨e,he,hb,ζ⟩=>γ e he hb ζ
  have ψ:=J j p N y X γ;obtain⟨p1,p2,p3⟩:=Oper.apart_spec ψ;have ω:=λcs b=>δ i z cs b hi
  have Δ:=λcs b=>δ j p cs b N
  have f:∀k ok,ops[k]? =some ok->k≠i->(listed.setIfInBounds j true).getD k true=false->
    (∀e∈ok.after,Region.binds md e=true->e.on≠i)->z.apart ops ok=true:=λk ok hk χ τ φ=>by
   refine J k ok hk χ ?_ φ;by_cases μ:j=k
   ·subst μ;exact X
   ·rw[WH true μ]at τ;exact τ
  have O:(listed.setIfInBounds i true).setIfInBounds j true=(listed.setIfInBounds j true).setIfInBounds i true:=Yd _ _ (V1 y);have ν:=Xz hj y;have V:=Xz hr (V1 y);have B:¬qI md ops p i:=λh=>by
   rcases h with h|h
   ·exact θ h
   ·have:=(Vv.1 hi).1;omega
  have π:∀u,∀Y,(∀k v,Y k v->k=i\/F k v)->Nk P md ops C T R fp c j p (a.put z.dst u) Y->Nk P md ops C T R fp c j p a F:=λu Y I h w hw hf=>by
   have:=h w hw λk v hk hn hc=>by
    rcases I k v hk with rfl|hk
    ·exact absurd hn B
    ·exact hf k v hk hn hc
   rw[execOp_put p Δ a z.dst u p1]at this;exact this.mono λk x hk hn=>by
    rcases I k x hk with rfl|hk
    ·exact absurd hn B
    ·exact hk
  have ξ:∀u Y,(∀k v,F k v->Y k v)->(∀k v,Y k v->qI md ops z k->F k v\/True)->Nk P md ops C T R fp c i z a F->Nk P md ops C T R fp c i z (a.put p.dst u) Y:=λu Y I _ h w hw hf=>by
   rw[execOp_put z ω a p.dst u p3];exact(h w hw λk v hk hn hc=>hf k v (I k v hk) hn hc).mono λk x hk _=>I k x hk
  have ι:∀u k v,F k v->(F.ins j u) k v:=λu k v h=>.inr h
  have ε:∀u k v,(F.ins i u) k v->k=i\/F k v:=λu k v h=>h.imp And.left id
  unfold jY at H;simp only[hi]at H;unfold jY;simp only[N];split at H
  ·rename_i D
   obtain⟨σ,HK⟩:=H;have q:∀u,i9 T i u->_:=λu hu=>(HK u hu).2 j ν
   unfold jY at q;simp only[N,Wi p a z.dst _ p1,O]at q;split
   ·rename_i A
    simp only[A,We]at q;obtain⟨u0,Γ⟩:=kp T i;refine⟨π u0 _ (ε u0) (q u0 Γ).1,λS η=>ih _ _ _ f V ?_⟩;unfold jY;simp only[hi,Wi z a p.dst S p3,D,We];refine⟨ξ S _ (ι S) (λ_ _ _ _=>.inr trivial) σ,λui κ=>?_⟩;have:=(q ui κ).2 S η;rw[Wz a ui S p2,aI.ins_comm]at this;exact this
   ·rename_i A
    simp only[A]at q;refine ih _ _ _ f V ?_;unfold jY;simp only[hi,Wi z a p.dst undef p3,D,We];refine⟨ξ undef _ (λk v h=>h) (λ_ _ _ _=>.inr trivial) σ,λui κ=>?_⟩;have:=q ui κ;simp only[V5,Xq]at this;rw[Wz a ui undef p2]at this;exact this
  ·rename_i D
   have q:=H.2 j ν;unfold jY at q;simp only[N,Wi p a z.dst _ p1,O]at q;split
   ·rename_i A
    simp only[A,We]at q;refine⟨π undef _ (λk v h=>.inr h) q.1,λS η=>ih _ _ _ f V ?_⟩;unfold jY;simp only[hi,Wi z a p.dst S p3,D];have:=q.2 S η;rw[Wz a undef S p2]at this;exact this
   ·rename_i A
    simp only[A]at q;refine ih _ _ _ f V ?_;unfold jY;simp only[hi,Wi z a p.dst undef p3,D];simp only[V5,Xq]at q⊢;rw[Wz a undef undef p2]at q;exact q
def lT(P:Program)(md:Region.Mode)(ops:Array Oper)(C:Yu->Prop)(T:Nat->Option Yv)(R:Nat->Yv->Yu->Prop)(fp:Nat->Yv->Option Nat)(c:Nat->Option Nat)(Q:Act->aI->Prop):Nat->List Oper->Act->aI->Prop
 |_,[],a,F=>Q a F
 |i,o::rest,a,F=>if Region.wanted o (yielded ops a.tmps)then Nk P md ops C T R fp c i o a F/\∀u,i9 T i u->lT P md ops C T R fp c Q (i+1) rest (a.put o.dst u) (F.ins i u)else lT P md ops C T R fp c Q (i+1) rest (a.put o.dst undef) F
theorem oV{Q:Act->aI->Prop}(x:Region.noSelect ops=true):∀(l:List Oper) (k:Nat) (listed:Array Bool) (a:Act) (F:aI),(∀j,l[j]? =ops[k+j]?)->
  Region.lexFrom md ops l.length k listed=true->lT P md ops C T R fp c Q k l a F->oW P md ops C T R fp c Q l.length listed a F
 |[],_,_,_,_,_,hB,h=>⟨by simpa[Region.lexFrom]using hB,h⟩
 |o::l,k,listed,a,F,hl,hB,h=>by
  have q:ops[k]? =some o:=by simpa using(hl 0).symm
  simp only[VB,Region.lexFrom,Vo]at hB;obtain⟨⟨z,y⟩,p⟩:=hB;refine sm q (Region.noSelect_spec x) l.length listed a F (Region.free_spec q y) (by simpa using z) ?_;have f:jY P md ops C T R fp c k (lT P md ops C T R fp c Q (k+1) l) a F:=by unfold jY;simp only[q];exact h
  exact AC (λa F h=>oV x l (k+1) _ _ _ (λj=>by have:=hl (j+1);simpa[VO,Nat.add_comm 1 j]using this) p h) f
theorem qN(T:Nat->Option Yv)(R:Nat->Yv->Yu->Prop)(fp:Nat->Yv->Option Nat)(c:Nat->Option Nat)(C:Yu->Prop)(f:aI)
  (y:P.follows .mixedOrders=true) (x:Region.lexB .any l.toArray=true) (z:C w.drew) (B:∀k u w w' K,R k u w->w.grownBy w' K->(∀b,fp k u=some b->b<w.heap.size/\K≠some b)->R k u w')
  (D:nJ R fp c (Array.replicate l.length false) f w.drew)
  (h:lT P .any l.toArray C T R fp c (λq p=>∀w' listed,C w'->nJ R fp c listed p w'->Q .normal q w') 0 l a f):(Code.region id l.toArray true).wp P Q a w:=by
 simp only[Region.lexB,Vo]at x;have:=oV (P:=P) (C:=C) (T:=T) (R:=R) (fp:=fp) (c:=c) (md:=.any) x.1 l 0 (Array.replicate l.length false) a f (by simp) (by simpa using x.2) h;refine WV y (gN (T:=T) (Q:=λq p=>∀w' listed,C w'->nJ R fp c listed p w'->Q .normal q w') B (λ_ F w' listed j A h=>h w' listed j A) _ _ _ f _ z ?_ ?_)
 ·simpa using D
 ·simpa using this
theorem jN{Q:Act->aI->Prop}{o:Oper}{rest:List Oper}(h:Region.wanted o (yielded ops a.tmps)=true)(f:Nk P md ops C T R fp c i o a F)
  (j:∀u,i9 T i u->lT P md ops C T R fp c Q (i+1) rest (a.put o.dst u) (F.ins i u)):lT P md ops C T R fp c Q i (o::rest) a F:=by
 unfold lT;rw[Vh h];exact⟨f,j⟩
end
inductive Es where
 |is (v:Yv)
 |row (base:Nat) (e:Yw) (size n:Nat) (xs:List Yv)
def Jt(E:List Es)(i:Nat):Option Yv:=match E[i]? with
 |some (.is v)=>some v
 |_=>none
def qK(E:List Es)(i:Nat)(u:Yv)(w:Yu):Prop:=match E[i]? with
 |some (.row base e size n xs)=>w.ownsRow base e size u n xs
 |_=>True
def qW(E:List Es)(i:Nat)(u:Yv):Option Nat:=match E[i]? with
 |some (.row ..)=>u.ownBlock
 |_=>none
def tM(cs:List (Nat×Nat))(k:Nat):Option Nat:=(cs.find? λp=>p.1==k).map (·.2)
theorem El{E:List Es}(k:Nat)(u:Yv)(w w':Yu)(K:Option Nat)(h:qK E k u w)(x:w.grownBy w' K)(f:∀b,qW E k u=some b->b<w.heap.size/\K≠some b):qK E k u w':=by
 unfold qK qW at*;split
 ·rename_i base e size n xs j
  simp only[j]at h f;refine h.kept x ?_;cases q:u.ownBlock with
  |none=>exact .inl rfl
  |some b=>exact .inr λp=>(f b q).2 p.symm
 ·trivial
theorem j3(f:Ys w w'):w.grownBy w' none:=⟨f.os,f.tape,f.output,f.size,λi h _=>f.block i h⟩
section
variable{P:Program}{ops:Array Oper}{W:Yu}{base:Nat}{E:List Es}{cs:List (Nat×Nat)}{Q:Act->aI->Prop}{i:Nat}{o:Oper}{rest:List Oper}{a:Act}{F:aI}
abbrev Sw(P:Program)(ops:Array Oper)(W:Yu)(base:Nat)(E:List Es)(cs:List (Nat×Nat))(Q:Act->aI->Prop)(i:Nat)(l:List Oper)(a:Act)(F:aI):Prop:=
 lT P .any ops (λw=>Below base W w) (Jt E) (qK E) (qW E) (tM cs) Q i l a F
theorem wB(y:Region.wanted o (yielded ops a.tmps)=true)(v:Yv)(p:E[i]? =some (.is v))(j:∀w,Below base W w->(execOp a.eval o).run P w=.ok (.value v) w)
  (h:Sw P ops W base E cs Q (i+1) rest (a.put o.dst v) (F.ins i v)):Sw P ops W base E cs Q i (o::rest) a F:=by
 refine jN y (λw q _=>?_) λu z=>?_
 ·rw[j w q]
  refine⟨λA f=>by simp only[Jt,p]at f;cases f;rfl,q,⟨none,World.grownBy.refl w none,.inl rfl,λb x=>?_⟩,by simp only[qK,p]⟩;simp only[qW,p]at x;cases x
 ·have:=z v (by simp only[Jt,p])
  subst this;exact h
theorem Ip(I:Region.wanted o (yielded ops a.tmps)=true)(f:FuncId)(args:Array Yv)(B:Nat)(e:Yw)(size n:Nat)(xs:List Yv)(x:E[i]? =some (.row B e size n xs))(O:B<=base)(A:base<=W.heap.size)(N:∀w,(execOp a.eval o).run P w=.ok (.enter f args) w)
  (c:∀w,Below base W w->Calls P f args w λr w'=>∃u,r=.returned u/\w'.ownsRow w.heap.size e size u n xs/\Ys w w')
  (h:∀u,Sw P ops W base E cs Q (i+1) rest (a.put o.dst u) (F.ins i u)):Sw P ops W base E cs Q i (o::rest) a F:=by
 refine jN I (λw z _=>?_) λu _=>h u
 rw[N w];refine(c w z).mono ?_;rintro r w' ⟨u,rfl,j,D⟩;have y:=z.size;refine⟨u,rfl,λV q=>(by simp only[Jt,x]at q;cases q),z.trans (D.mono (Vi A y)),⟨none,j3 D,.inl rfl,λb p=>?_⟩,?_⟩
 ·simp only[qW,x]at p
  obtain⟨S,J⟩:=j.lt b p;exact⟨J,.inl S⟩
 ·simp only[qK,x]
  exact db j (by omega)
theorem J2(I:Region.wanted o (yielded ops a.tmps)=true)(B:Nat)(e:Yw)(size n:Nat)(xs:List Yv)(x:E[i]? =some (.row B e size n xs))(J:B<=base)(A:base<=W.heap.size)
  (p:∀w,Below base W w->∃u w',(execOp a.eval o).run P w=.ok (.value u) w'/\Ys w w'/\w'.ownsRow w.heap.size e size u n xs)
  (h:∀u,Sw P ops W base E cs Q (i+1) rest (a.put o.dst u) (F.ins i u)):Sw P ops W base E cs Q i (o::rest) a F:=by
 refine jN I (λw z _=>?_) λu _=>h u
 obtain⟨u,w',S,D,f⟩:=p w z;rw[S];have y:=z.size;refine⟨λV q=>(by simp only[Jt,x]at q;cases q),z.trans (D.mono (Vi A y)),⟨none,j3 D,.inl rfl,λb j=>?_⟩,?_⟩
 ·simp only[qW,x]at j
  obtain⟨O,N⟩:=f.lt b j;exact⟨N,.inl O⟩
 ·simp only[qK,x]
  exact db f (by omega)
end
end
section
open Go.RowKit
theorem zQ{b1 b2:Nat}{p y:Yw}{s1 s2 D N:Nat}{j h:List Yv}(I:w.ownsRow b1 p s1 v1 D j)(A:w.ownsRow b2 y s2 v2 N h)(z:p≠y):v1.ownBlock=none\/v1.ownBlock≠v2.ownBlock:=by
 rcases I.2 with⟨rfl,_⟩|⟨g,cap,cur,rfl,_,O,_⟩
 ·exact .inl rfl
 ·rcases A.2 with⟨rfl,_⟩|⟨S,q,x,rfl,_,f,_⟩
  ·exact .inr (by simp[Value.ownBlock])
  ·refine .inr λe=>?_
   obtain rfl:g=S:=by simpa[Value.ownBlock]using e
   rw[O]at f;injection f with J;injection J with _ B;exact z B
section
variable{P:Program}(w:Yu)
theorem pp(base:Nat)(t ty e:Yw)(i:TypeInfo)(z:Yv)(size bytes:Nat)(Y:P.underlying t=some (.slice e))(hi:P.info? e=some i)(hz:i.zero=some z)
  (x:i.size=size) (N:i.bytes=bytes) (X:z.cells.size=size) (J:0<size)
  (v:Yv) (n:Nat) (xs:List Yv) (f:w.ownsRow base e size v n xs) (B:Nat) (A:Option Addr) (m c:Nat) (h:List Yv) (hr:Rd w B size A m h) (h1:∀u∈h,u.oneCell'=true)
  (I:n+m<=maxLen) (q:(n+m)*bytes<=140737488355328) (p:base<=w.heap.size):
  ∃D w',(Builtin.append_ #[t,t] ty #[v,.slice A m c]).run P w=.ok D w'/\w'.ownsRow base e size D (n+m) (xs++h)/\Below base w w'/\w.grownBy w' v.ownBlock:=by
 have O:∀w',w.grownBy w' v.ownBlock->Below base w w':=λw' hg=>(Vd _ _).grown hg p λk hk=>(f.lt k hk).1
 by_cases hm:m=0
 ·subst hm
  obtain rfl:h=[]:=VM (by simpa using hr.1);rcases A with _|ad
  ·refine⟨v,w,?_,by simpa using f,Vd _ _,⟨rfl,rfl,rfl,Vc _,λ_ _ _=>rfl⟩⟩
   rcases f.2 with⟨rfl,rfl⟩|⟨g,cap,cur,rfl,_,_,γ,_⟩
   ·simp[Builtin.append_,VD Y,sizeOf,typeInfo,hi,Builtin.lenOf,Builtin.firstCells]
   ·simp[Builtin.append_,VD Y,sizeOf,typeInfo,hi,Builtin.lenOf,Builtin.firstCells,γ,storeCells]
  ·obtain⟨D,w',y,h2,V,_⟩:=XJ (P:=P) w base t ty e i z size bytes Y hi hz x N X J v n xs f ad 0 c [] (by simp) (λj u S=>by simp at S) (λu S=>by cases S) I q p
   exact⟨D,w',y,h2,O w' V,V⟩
 ·obtain⟨b,o,rfl,δ,hc⟩:=hr.2 (by omega)
  obtain⟨D,w',y,h2,V,_⟩:=XJ (P:=P) w base t ty e i z size bytes Y hi hz x N X J v n xs f ⟨b,o,none⟩ m c h hr.1 (λj u S=>by rw[d6];exact hc j u S) h1 I q p;exact⟨D,w',y,h2,O w' V,V⟩
end
end
section
open Go.RowKit Go Go.BigFrame
section
variable{P:Program}(w:Yu)
theorem jy(base:Nat)(t ty e:Yw)(i:TypeInfo)(z:Yv)(size bytes:Nat)(N:P.underlying t=some (.slice e))(O:P.info? e=some i)(hz:i.zero=some z)
  (D:i.size=size) (ζ:i.bytes=bytes) (μ:z.cells.size=size) (ι:0<size)
  (v:Yv) (n:Nat) (xs:List Yv) (p:w.ownsRow base e size v n xs) (B:Nat) (A:Option Addr) (m c:Nat) (f:List Yv) (x:Rd w B size A m f) (h1:∀u∈f,u.oneCell'=true)
  (X:n+m<=maxLen) (h:(n+m)*bytes<=140737488355328) (S:base<=w.heap.size):
  ∃v' w',(Builtin.append_ #[t,t] ty #[v,.slice A m c]).run P w=.ok v' w'/\w'.ownsRow base e size v' (n+m) (xs++f)/\Below base w w'/\w.grownBy w' v.ownBlock/\(v'.ownBlock=v.ownBlock\/∀b,v'.ownBlock=some b->w.heap.size<=b):=by
 obtain⟨v',w',y,h2,h3,h4⟩:=pp (P:=P) w base t ty e i z size bytes N O hz D ζ μ ι v n xs p B A m c f x h1 X h S;refine⟨v',w',y,h2,h3,h4,?_⟩;subst D;subst ζ;by_cases hm:m=0
 ·subst hm
  rcases p.2 with⟨rfl,rfl⟩|⟨g,cap,cur,rfl,κ,hg,J,θ,γ,Y⟩
  ·rcases h2.2 with⟨rfl,_⟩|⟨g',ν,ξ,rfl,_,π,_⟩
   ·exact .inl rfl
   ·refine .inr λb hb=>?_
    obtain rfl:g'=b:=by simpa[Value.ownBlock]using hb
    rcases WG g' w.heap.size with η|hge
    ·exfalso
     have ε:=y;rcases A with _|ad
     ·simp[Builtin.append_,VD N,sizeOf,typeInfo,O,Builtin.lenOf,Builtin.firstCells]at ε
     ·simp[Builtin.append_,VD N,sizeOf,typeInfo,O,Builtin.lenOf,Builtin.firstCells,loadCells,loadCellsFrom]at ε
    ·exact hge
  ·obtain rfl:f=[]:=VM (by simpa using x.1)
   left;rcases A with _|ad
   ·simp[Builtin.append_,VD N,sizeOf,typeInfo,O,Builtin.lenOf,Builtin.firstCells,J,storeCells]at y
    rw[<-y.1]
   ·rw[XY (P:=P) w t ty e i N O g n cap cur hg ad 0 c [] (by simp) (λj u hu=>by simp at hu) (λu hu=>by cases hu) J (by rw[γ];simp;exact Xh _ J)]at y
    injection y with e1 _;rw[<-e1]
    rfl
 ·obtain⟨b,o,rfl,η,hc⟩:=x.2 (by omega)
  have q:∀j u,f[j]? =some u->w.cell? ((⟨b,o,none⟩:Addr).add j)=some u:=λj u hu=>by rw[d6];exact hc j u hu
  rcases p.2 with⟨rfl,rfl⟩|⟨g,cap,cur,rfl,κ,hg,J,θ,γ,Y⟩
  ·rw[run_append_nil (P:=P) w t ty e i z N O hz ⟨b,o,none⟩ m c f x.1 q (by omega) (by simp only[maxLen]at X;omega) (by have hb:=h;simp only[Vk]at hb;omega)]at y
   injection y with e1 _;rw[<-e1];refine .inr λb' δ=>?_
   have:w.heap.size=b':=by simpa[Value.ownBlock]using δ
   omega
  ·by_cases I:n+m<=cap
   ·rw[XY (P:=P) w t ty e i N O g n cap cur hg ⟨b,o,none⟩ m c f x.1 q h1 I (by rw[x.1,γ,<-Nat.add_mul];exact Xh _ I)]at y
    injection y with e1 _;rw[<-e1];exact .inl rfl
   ·have V:∀j u,xs[j]? =some u->w.cell? ((⟨g,0,none⟩:Addr).add j)=some u:=p.cells (g:=g) rfl
    rw[run_append_grow (P:=P) w t ty e i z N O hz ⟨g,0,none⟩ n cap xs p.1 V ⟨b,o,none⟩ m c f x.1 q (by omega) (by simp only[maxLen]at X;omega) (growslice_fits (by omega) h)]at y;injection y with e1 _;rw[<-e1];refine .inr λb' δ=>?_
    have:w.heap.size=b':=by simpa[Value.ownBlock]using δ
    omega
end
section
variable{P:Program}{ops:Array Oper}{W:Yu}{base:Nat}{E:List Es}{cs:List (Nat×Nat)}{Q:Act->aI->Prop}{i:Nat}{o:Oper}{rest:List Oper}{a:Act}{F:aI}
theorem zC(hw:Region.wanted o (yielded ops a.tmps)=true)(s x:Yx)(t:Yw)(ho:o.op=.call {callee:=.builtin .append,args:=#[s,x],argTypes:=#[t,t]})
  (e:Yw) (O:TypeInfo) (z:Yv) (size bytes:Nat) (ht:P.underlying t=some (.slice e)) (hi:P.info? e=some O) (hz:O.zero=some z)
  (p:O.size=size) (δ:O.bytes=bytes) (κ:z.cells.size=size) (γ:0<size)
  (y B:Nat) (u1 u2:Yv) (n m:Nat) (xs f ys:List Yv) (nm:Nat) (D:E[y]? =some (.row base e size n xs)) (μ:E[B]? =some (.row base e size m f)) (hE:E[i]? =some (.row base e size nm ys)) (ν:nm=n+m) (X:ys=xs++f)
  (S:tM cs y=some i) (ζ:tM cs B=none\/tM cs B=some i) (I:F y u1) (ξ:F B u2) (N:qI .any ops o y) (θ:qI .any ops o B) (ι:a.eval s=u1) (η:a.eval x=u2)
  (h1:∀u∈f,u.oneCell'=true) (Y:n+m<=maxLen) (j:(n+m)*bytes<=140737488355328) (π:base<=W.heap.size)
  (h:∀u,Sw P ops W base E cs Q (i+1) rest (a.put o.dst u) (F.ins i u)):Sw P ops W base E cs Q i (o::rest) a F:=by
 subst ν X;refine jN hw (λw hC hK=>?_) λu _=>h u
 have r1:=hK y u1 I N (.inr S);have r2:=hK B u2 ξ θ ζ;simp only[qK,D]at r1;simp only[qK,μ]at r2;have σ:=hC.size;obtain⟨A,c,rfl,_,_,ε⟩:=aF r2;obtain⟨v',w',J,g1,g2,g3,g4⟩:=jy (P:=P) w base t o.type e O z size bytes ht hi hz p δ κ γ u1 n xs r1 _ A m c f ε h1 Y j (by omega);have q:(execOp a.eval o).run P w=.ok (.value v') w':=by
  unfold execOp;simp only[ho,resolve,invoke,builtin,Wu,XK,V2,Wy,VG,WQ,ι,η,J]
 rw[q];refine⟨λv hv=>(by simp only[Jt,hE]at hv;cases hv),hC.trans g2,⟨u1.ownBlock,g3,.inr ⟨y,u1,I,N,S,by simp only[qW,D]⟩,λb V=>?_⟩,by simp only[qK,hE];exact g1⟩;simp only[qW,hE]at V;refine⟨(g1.lt b V).2,?_⟩;rcases g4 with g4|g4
 ·exact .inr (by rw[<-g4];exact V)
 ·exact .inl (g4 b V)
end
section
variable{ops:Array Oper}{W:Yu}{base:Nat}{E:List Es}{cs:List (Nat×Nat)}{Q:Act->aI->Prop}{i:Nat}{o:Oper}{rest:List Oper}{a:Act}{F:aI}
theorem Dw:nJ (qK E) (qW E) (tM cs) listed (λ_ _=>False) w:=
 ⟨λ_ _ h=>h.elim,λ_ _ h=>h.elim,λ_ _ _ _ h=>h.elim⟩
theorem ru{Q:Exit->Act->Yu->Prop}{a:Act}(base:Nat)(E:List Es)(cs:List (Nat×Nat))(f:aI)(j:prog.follows .mixedOrders=true)(y:Region.lexB .any l.toArray=true)
  (x:nJ (qK E) (qW E) (tM cs) (Array.replicate l.length false) f w.drew)
  (h:Sw prog l.toArray w base E cs (λq p=>∀w' listed,Below base w w'->nJ (qK E) (qW E) (tM cs) listed p w'->Q .normal q w') 0 l a f):(Code.region id l.toArray true).wp prog Q a w:=
 qN (Jt E) (qK E) (qW E) (tM cs) (λw'=>Below base w w') f j y (Vd _ _).drew El x h
end
end
section
open Go.RowKit Go.BigFrame
section
variable{P:Program}{ops:Array Oper}{W:Yu}{base:Nat}{E:List Es}{cs:List (Nat×Nat)}{Q:Act->aI->Prop}{i:Nat}{o:Oper}{rest:List Oper}{a:Act}{F:aI}
theorem FV(A:ND o=some (x1,x2,x3))(p:E[i]? =some (.is v)){v3:Yv}(f:∀ρ:Yx->Yv,ρ x1=v1->ρ x2=v2->ρ x3=v3->∀w,Below base W w->(execOp ρ o).run P w=.ok (.value v) w)
  (h:Sw P ops W base E cs Q (i+1) rest (a.put o.dst v) (F.ins i v)) (j:Region.wanted o (yielded ops a.tmps)=true:=by rfl) (x:cT a x1=some v1:=by rfl) (q:cT a x2=some v2:=by rfl) (y:cT a x3=some v3:=by rfl):Sw P ops W base E cs Q i (o::rest) a F:=
 wB j v p (λw z=>f a.eval (aQ x) (aQ q) (aQ y) w z) h
end
end
section
open Go.RowKit Go Go.BigFrame
def sR(ops:Array Oper):Bool:=ops.all λo=>match o.op with
 |.defer _=>false
 |_=>true
section
variable{P:Program}
section
variable{ops:Array Oper}{md:Region.Mode}{Q:Exit->Act->Yu->Prop}{l n:Nat}
theorem sK{f:String}{args:Array Yv}{R:Yv->Yu->Prop}(h:Rows P f args w R):Go.RowsIn (Fence.wide.inRound l) n P f args w R:=
 λc cs _=>let⟨v,w',r,s⟩:=h c cs;⟨v,w',r,stepsIn_wide.2 s⟩
theorem qY{f:FuncId}{args:Array Yv}{R:Ending->Yu->Prop}(h:Calls P f args w R):CallsIn (Fence.wide.inRound l) n P f args w R:=(Wp.2 h).inRound l
theorem wS{o:Oper}(f:∀c,o.op≠ .defer c){K:Act->Yu->Prop}(h:o.wp P a w K Q):o.wpIn (Fence.wide.inRound l) n P a w K Q:=by
 refine⟨λ_ _=>trivial,?_⟩;rw[Oper.semAt_eq _ _ _ f];unfold Oper.wp at h;generalize (execOp a.eval o).run P w=r at h⊢;cases r with
 |ok x w'=>
  cases x<;>simp only[Oper.upon,Oper.uponIn]at h⊢<;>
   first
    |exact h
    |exact⟨λh=>(by cases h),qY h⟩
    |exact⟨λh=>(by cases h),sK h⟩
 |halt x w'=>cases x<;>simp only[Oper.upon,Oper.uponIn]at h⊢<;>exact h
theorem eB(j:sR ops=true)(q:∀a w,¬Q .outgrown a w):∀(fuel:Nat) (listed:Array Bool) (a:Act) (w:Yu),wpAny P md ops Q fuel listed a w->wpAnyIn (Fence.wide.inRound l) n P md ops Q fuel listed a w
 |0,_,_,_,h=>h
 |fuel+1,listed,a,w,h=>by
  refine⟨h.1,λi D=>?_⟩;have f:=h.2 i D;unfold wpOp at f;unfold wpOpIn;split
  ·rename_i p
   simp only[p]at f;exact eB j q fuel _ _ _ f
  ·rename_i o p
   simp only[p]at f;have y:∀c,o.op≠ .defer c:=λc e=>by
    have:=(VL.1 j) o (Array.mem_of_getElem? p);rw[e]at this;cases this
   split
   ·rename_i x
    simp only[x,We]at f;rcases f with f|⟨_,B,w',z⟩
    ·exact Oper.wpIn_mono (λa w A=>eB j q fuel _ _ _ A) (wS y f)
    ·exact absurd z (q B w')
   ·rename_i x
    simp only[x]at f;exact⟨λ_ _=>trivial,eB j q fuel _ _ _ (by simpa using f)⟩
end
theorem mV{V X:Nat}(n:Nat)(E:List En)(hm:P.follows .mixedOrders=true)(hn:n<=l.length)
  (N:jz .any l.toArray n=true)
  (y:Region.lexB .any (l.take n).toArray=true) (hF:eP .any l.toArray (l.drop n).length n (aO n 0 (Array.replicate l.length false))=true)
  (hE:(Region.ready .any l.toArray (aO (l.drop n).length n (aO n 0 (Array.replicate l.length false)))).isEmpty=true)
  (B:sR l.toArray=true) (I:∀a w,¬Q .outgrown a w)
  (h:Lw P (l.take n).toArray w E (λp f=>∀w',Ys w w'->(∀k u,f k u->tN E k u w')->wpList P l.toArray Q (l.drop n) p w') 0 (l.take n) a (λ_ _=>False)):(Code.region id l.toArray true).wpIn (Fence.wide.inRound V) X P Q a w:=by
 refine wpIn_region_any hm (eB B I _ _ _ _ ?_);show wpAny P .any l.toArray Q l.toArray.size (Array.replicate l.toArray.size false) a w.drew;simp only[Region.lexB,Vo]at y;have O:∀a w,wpList P l.toArray Q (l.drop n) a w->wpAny P .any l.toArray Q (l.drop n).length (aO n 0 (Array.replicate l.length false)) a w:=λa w q=>by
  have D:=fh (P:=P) (md:=.any) (Q:=Q) (K:=λa w=>Q .normal a w) (l.drop n).length n (aO n 0 (Array.replicate l.length false)) (l.drop n) a w 0
   (λa w J=>⟨by simpa using hE,J⟩) rfl (λj _=>by simp) hF (by rw[iT];exact q)
  exact D
 have Y:=gZ (P:=P) (C:=λw'=>Ys w w') (T:=Bf E) (R:=tN E) (md:=.any) (Q:=λp f=>∀w',Ys w w'->(∀k u,f k u->tN E k u w')->wpList P l.toArray Q (l.drop n) p w') y.1 (l.take n) 0 (Array.replicate (l.take n).length false) a (λ_ _=>False) (by simp) (by simpa using y.2) h;have S:wpAny P .any (l.take n).toArray (oA Q (λa w=>wpList P l.toArray Q (l.drop n) a w)) (l.take n).length (Array.replicate (l.take n).length false) a w.drew:=
  cK (T:=Bf E) (Q:=λp f=>∀w',Ys w w'->(∀k u,f k u->tN E k u w')->wpList P l.toArray Q (l.drop n) p w') kC (λ_ F w' x hF q=>q w' x hF) _ _ _ (λ_ _=>False) _ (Vd _ _).drew (λ_ _ q=>False.elim q) Y
 have γ:(l.take n).length=n:=by simp;omega
 have z:=ff (n:=n) (m:=(l.drop n).length) hn N O (l.take n).length (Array.replicate (l.take n).length false) (Array.replicate l.length false) a w.drew (by simp;omega) (by simp)
  (λi hi=>by
   rw[bB,bB]) (λi _=>bB _ _) (λj o _ A=>by rw[bB]at A;cases A) (by simp) S
 have e:(l.take n).length+(l.drop n).length=l.length:=by rw[<-Vl,Wf]
 rw[e]at z;simpa using z
theorem uM{z B:Nat}(n:Nat)(p:P.follows .mixedOrders=true)(I:n<=l.length)
  (y:jz .any l.toArray n=true)
  (A:Region.lexB .any (l.take n).toArray=true) (hF:eP .any l.toArray (l.drop n).length n (aO n 0 (Array.replicate l.length false))=true)
  (j:(Region.ready .any l.toArray (aO (l.drop n).length n (aO n 0 (Array.replicate l.length false)))).isEmpty=true)
  (f:sR l.toArray=true) (D:∀a w,¬Q .outgrown a w)
  (h:wm P (l.take n).toArray w [] (λE x q=>∀w',Ys w w'->(∀k u,q k u->tN E k u w')->wpList P l.toArray Q (l.drop n) x w') (l.take n) Unit (λ_=>a) (λ_ _ _=>False)):(Code.region id l.toArray true).wpIn (Fence.wide.inRound z) B P Q a w:=by
 obtain⟨E,h⟩:=h;exact mV n E p I y A hF j f D (h ())
end
end
section
open Go.RowKit Go
section
variable{P:Program}{fn:Func}{R:Ending->Yu->Prop}{a:Act}{w:Yu}{s u:Nat}{ty t:Yw}{g:Nat}{cs:Array Yv}{d:TypeDesc}
theorem aE(h:fn.results=#[.cell s ty])(p:a.tmps.getD s undef=.pointer (some ⟨g,0,none⟩))(y:ai w g t cs)(x:P.underlying ty=some d)(j:(match d with|.struct _|.array _ _=>true|_=>false)=true)
  (z:(P.info? ty).map (·.size)=some cs.size) (f:a.defers=[]) (q:R (.returned (.agg cs)) w):bodyPost P fn R .ret a w:=
 VF (results_cell_row h a.tmps w g t cs _ d p y x j z) f q
theorem cP(h:fn.results=#[.cell s ty,.tmp u])(p:a.tmps.getD s undef=.pointer (some ⟨g,0,none⟩))(q:a.tmps.getD u undef=v)(z:ai w g t cs)(y:P.underlying ty=some d)(j:(match d with|.struct _|.array _ _=>true|_=>false)=true)
  (A:(P.info? ty).map (·.size)=some cs.size) (f:a.defers=[]) (x:R (.returned (.tuple #[.agg cs,v])) w):bodyPost P fn R .ret a w:=by
 refine VF (v:=.tuple #[.agg cs,v]) ?_ f x;rw[results_cell_tmp h,p,q];simp[asAddr,run_loadVar_row w g t ty cs _ d z y j A]
end
end
