import Derived.Test.YtghdobdjfnimmaaGreatDoorZ23
import Derived.Test.YtghdobdjfnimmaaGreatDoorZ19
set_option maxRecDepth 100000
set_option maxHeartbeats 0
set_option linter.all false
namespace Go.Proofs.YtghdobdjfnimmaaGreatDoor
open Go.Proofs.Tryz
variable{w W:Yu}{F:Nat->Prop}{dm mb base k c1 c2 q:Nat}{L:List (Int×Option Nat)}{v:Yv}{now i n:Int}{A:Option Addr}
section
open Go.RowKit Go
def Nu:Option Nat->Yv
 |none=>.pointer none
 |some q=>.pointer (some ⟨q,0,none⟩)
@[go_sem] theorem NH:Nu none=.pointer none:=rfl
@[go_sem] theorem tU(q:Nat):Nu (some q)=.pointer (some ⟨q,0,none⟩):=rfl
def KR:MT Int (Option Nat):=rL 302 192 Nu none
theorem lz:KR.Ok:=jS underlying192 (λw=>by kernel_rfl)
def qM(n a t k:Int):Array Yv:=#[.int .u64 n,.int .i64 a,.int .u64 t,.int .u64 k]
def mP(w:Yu)(q:Nat):Prop:=∃n a t k,ai w q 307 (qM n a t k)/\aT n/\od a/\aT t/\aT k
structure fo(w:Yu)(F:Nat->Prop)(dm mb:Nat)(L:List (Int×Option Nat)):Prop where
 blk:ai w dm 194 #[.map (some mb)]
 map:aZ KR w mb L
 els:∀x∈L,∃q,x.2=some q/\mP w q/\F q
 len:L.length<=32
 fd:F dm
 fm:F mb
 inh:tP F w
section
variable{w w':Yu}{F G:Nat->Prop}{dm mb q:Nat}{L:List (Int×Option Nat)}
theorem mP.lt(h:mP w q):q<w.heap.size:=by obtain⟨n,a,t,k,b,-⟩:=h;exact b.lt
theorem mP.same(h:mP w q)(e:w'.heap[q]? =w.heap[q]?):mP w' q:=by
 obtain⟨n,a,t,k,b,c⟩:=h;exact⟨n,a,t,k,e.trans b,c⟩
theorem mP.call(h:mP w q)(a:Ys w w'):mP w' q:=h.same (a.block q h.lt)
theorem mP.set{p i:Nat}{u:Yv}(h:mP w q)(c:p=q->∃n a t k n' b t' k',ai w q 307 (qM n a t k)/\(qM n a t k).setIfInBounds i u=qM n' b t' k'/\aT n'/\od b/\aT t'/\aT k'):mP (w.setCell ⟨p,i,none⟩ u) q:=by
 by_cases e:p=q
 ·obtain⟨n,a,t,k,n',b,t',k',f,j,d⟩:=c e
  subst e;have:=f.set_ i u;rw[j]at this;exact⟨n',b,t',k',this,d⟩
 ·exact h.same (Xx w ⟨p,i,none⟩ u q (λh=>e h.symm))
theorem fo.keep(h:fo w F dm mb L)(d:w.heap.size<=w'.heap.size)(a:∀k,F k->k<w.heap.size->w'.heap[k]? =w.heap[k]?):fo w' F dm mb L:=
 ⟨(a _ h.fd h.blk.lt).trans h.blk,h.map.same (a _ h.fm h.map.lt),λx f=>by
  obtain⟨q,e,c,b⟩:=h.els x f;exact⟨q,e,c.same (a q b c.lt),b⟩,h.len,h.fd,h.fm,h.inh.mono d⟩
theorem fo.mod(h:fo w F dm mb L)(m:ah G w w')(a:iB F G):fo w' F dm mb L:=h.keep m.size λk d c=>m.block k c λb=>a k d b
theorem fo.call(h:fo w F dm mb L)(a:Ys w w'):fo w' F dm mb L:=h.keep a.size λk _ b=>a.block k b
theorem fo.mono(h:fo w F dm mb L)(a:∀k,F k->G k)(d:tP G w):fo w G dm mb L:=⟨h.blk,h.map,λx f=>by
  obtain⟨q,e,c,b⟩:=h.els x f;exact⟨q,e,c,a q b⟩,h.len,a _ h.fd,a _ h.fm,d⟩
end
theorem PS(w:Yu):Yt 40 #[] w λr w'=>∃dm mb,r=.returned (Yr dm)/\fo w' (λk=>w.heap.size<=k/\k<w'.heap.size) dm mb []/\Ys w w':=by
 have a:= @XE prog;go_enter func40,ntmps40;go_wp2_with fail;go_ret;exact⟨_,w.heap.size,rfl,⟨ai.new_at (by simp) rfl,(aZ.made KR w).call ((Vd _ _).alloc (Vc _) _),(λx c=>by cases c),by simp,by simp,⟨Vc _,by simp;omega⟩,λk b=>b.2⟩,((Vd _ _).alloc (Vc _) _).alloc (by simp) _⟩
def Qz(w:Yu)(F:Nat->Prop)(dm mb:Nat)(w':Yu):Prop:=∃L',fo w' (io F w w') dm mb L'/\ah F w w'
theorem PR(h:fo w F dm mb L){a:Int}(X:aT n)(Y:od a)(f:aT now):
  Yt 215 #[Yr dm,.int .u64 n,.int .i64 a,.int .u64 now] w λr w'=>(∃e,r=.returned (.int .i64 e))/\Qz w F dm mb w':=by
 obtain⟨q0,f0⟩:=h.blk.rules;have l0:=h.blk.lt;have c:(Instr.lookup 192 (.map (some mb)) (.int .u64 n) false).run prog w=.ok (Nu ((lk L n).getD none)) w:=h.map.look lz X;have H:∀ty,(Builtin.len_ #[192] ty #[.map (some mb)]).run prog w=.ok (.int .i64 L.length) w:=λty=>h.map.len lz ty
 have b:=U9 (Vb h (Vb X (Vb Y f)));have O:=U9 (show Qz w F dm mb w from⟨L,h.mono (λk hk=>.inl hk) (io.inH h.inh (Vc _)),ah.refl⟩);clear h Y f;obtain⟨n0,n1⟩:=X;go_enter func215,ntmps215;by_cases h1:a<1
 ·go_wp2_with fail
  go_ret;exact⟨⟨_,rfl⟩,O.o⟩
 by_cases h2:1125899906842624<a
 ·go_wp2_with fail
  go_ret;exact⟨⟨_,rfl⟩,O.o⟩
 by_cases h3:n=0
 ·go_wp2_with fail
  go_ret;exact⟨⟨_,rfl⟩,O.o⟩
 by_cases h4:4611686018427387904<now
 ·go_wp2_with fail
  go_ret;exact⟨⟨_,rfl⟩,O.o⟩
 cases s:lk L n with
 |some v=>
  obtain⟨q,T,hw,hf⟩:=b.o.1.els _ (bK s);have T:v=some q:=T;subst T;obtain⟨n',a',t',k',Q,M,E,N,B⟩:=hw;obtain⟨q1,f1⟩:=Q.rules;have l1:=Q.lt;rw[s]at c;replace c:(Instr.lookup 192 (.map (some mb)) (.int .u64 n) false).run prog w=.ok (Yr q) w:=c;have j:=U9 (Vb Q (Vb hf (Vb M (Vb E (Vb N B)))));clear Q hf M E N B s H;unfold qM at q1;go_wp2_with fail;go_ret;refine⟨⟨_,rfl⟩,L,⟨b.o.1.blk.far (p:=⟨q,1,none⟩) (λe=>?_) _,b.o.1.map.far (p:=⟨q,1,none⟩) (b.o.1.map.ne_blk j.o.1) _,λx K=>?_,b.o.1.len,.inl b.o.1.fd,.inl b.o.1.fm,λk hk=>?_⟩,ah.set (F:=F) ⟨q,1,none⟩ j.o.2.1 _⟩
  ·have e:dm=q:=e
   subst e;exact absurd (b.o.1.blk.type_eq j.o.1).1 (by decide)
  ·obtain⟨P,U,d,t⟩:=b.o.1.els x K
   refine⟨P,U,d.set λe=>?_,.inl t⟩;subst e;have Y:=b.o.2.2.1;have β:=j.o.2.2.2.1;exact⟨n',a',t',k',n',max a' a,t',k',j.o.1,rfl,j.o.2.2.1,⟨by unfold od at*;omega,by unfold od at*;omega⟩,j.o.2.2.2.2.1,j.o.2.2.2.2.2⟩
  ·rcases hk with hk|hk
   ·simpa using b.o.1.inh k hk
   ·exact hk.2
 |none=>
  rw[s]at c;replace c:(Instr.lookup 192 (.map (some mb)) (.int .u64 n) false).run prog w=.ok (.pointer none) w:=c;by_cases h5:32<=L.length
  ·clear s
   go_wp2_with fail;go_ret;exact⟨⟨_,rfl⟩,O.o⟩
  ·have z:Ys w (w.alloc (.cells (qM n a now 1) 307)):=(Vd _ _).alloc (Vc _) _
   obtain⟨V,bQ,I,D⟩:=(b.o.1.map.call z).put lz (a:=n) b.o.2.1 (some w.heap.size);have u:(Instr.mapUpdate 192 (.map (some mb)) (.int .u64 n) (Yr w.heap.size)).run prog (w.alloc (.cells (qM n a now 1) 307))=.ok () V:=bQ;have R:=U9 (Vb I (Vb D s));have l:ai (w.alloc (.cells (qM n a now 1) 307)) w.heap.size 307 (qM n a now 1):=ai.new _ _ _;clear bQ I D s z;unfold qM at u l R;go_wp2_with fail;go_ret;have S:mb≠w.heap.size:=Nat.ne_of_lt b.o.1.map.lt;have C:ah (cj mb) _ V:=ah.of_fr1 (F:=cj mb) R.o.2.1 rfl;have z:Ys w (w.alloc (.cells #[.int .u64 n,.int .i64 a,.int .u64 now,.int .u64 1] 307)):=(Vd _ _).alloc (Vc _) _;have mF:ah F w V:=(ah.of_below (F:=F) z).trans (C.mono λk e=>by have e:k=mb:=e;subst e;exact b.o.1.fm);have hs:=mF.size;have γ:=C.size;refine⟨⟨_,rfl⟩,putL L n (some w.heap.size),⟨C.blk (b.o.1.blk.call z) (λe=>?_),R.o.1,λx K=>?_,?_,.inl b.o.1.fd,.inl b.o.1.fm,io.inH b.o.1.inh hs⟩,mF⟩
   ·have e:dm=mb:=e
    exact b.o.1.map.ne_blk b.o.1.blk e.symm
   ·rcases ew.1 K with rfl|⟨K,-⟩
    ·refine⟨w.heap.size,rfl,⟨n,a,now,1,C.blk l λe=>S e.symm,b.o.2.1,b.o.2.2.1,b.o.2.2.2,⟨by decide,by decide⟩⟩,.inr ⟨Vc _,?_⟩⟩
     have:w.heap.size<(w.alloc (.cells #[.int .u64 n,.int .i64 a,.int .u64 now,.int .u64 1] 307)).heap.size:=l.lt;omega
    ·obtain⟨P,U,d,t⟩:=b.o.1.els x K
     have J:=d.call z;refine⟨P,U,J.same (C.block P J.lt λe=>?_),.inl t⟩;have e:P=mb:=e;subst e;obtain⟨n1,a1,t1,k1,Z,-⟩:=d;exact b.o.1.map.ne_blk Z rfl
   ·rw[un b.o.1.map.ndk,R.o.2.2]
    simp;omega
end
section
open Go.RowKit Go Go.Shelf Go.Lib Go.Sort
def tJ(q:Nat):Array Yv:=#[Yr q]
theorem ma(q:Nat):(tJ q).size=1:=rfl
theorem Ck(q:Nat):∀u∈(tJ q).toList,u.oneCell'=true:=by intro u a;simp[tJ]at a;subst a;rfl
abbrev mR(w:Yu)(base:Nat)(v:Yv)(L:List Nat):Prop:=Row w base 302 1 tJ v L
theorem Lm:(prog.info? 302).map (λi=>(i.zero,i.size,i.bytes))=some (some (.pointer none),1,8):=by kernel_rfl
theorem mR.app{B:Nat}{cap:Nat}(ty:Yw){L M:List Nat}(h:mR w base v L)(l:Rd w B 1 A M.length (cC tJ M))(r:L.length+M.length<=1000000)(a:base<=w.heap.size):
  ∃c w',(iy 362 ty v (.slice A M.length cap)).run prog w=.ok (.value c) w'/\mR w' base c (L++M)/\Kt base [302] w w'/\w.grownBy w' v.ownBlock/\(c.ownBlock=v.ownBlock\/∀b,c.ownBlock=some b->w.heap.size<=b):=by
 obtain⟨d,p,f,j,o⟩:=V7 Lm;exact Row.app w 362 ty d _ 8 underlying362 p f j o rfl (by decide) ma Ck h (cap:=cap) l r (by decide) a
section
variable(ρ:Yx->Yv)(dst:Option Tmp)(x y:Yx)(ty:Yw)(pos:String)(after:Array Edge)(guard:Option (Nat×Bool))
@[go_sem ↓ high] theorem LZ:execOp ρ {dst,op:=.call {callee:=.builtin .append,args:=#[x,y],argTypes:=#[362,362]},type:=ty,pos,after,guard}=iy 362 ty (ρ x) (ρ y):=by simp[execOp,iy,resolve,invoke,builtin]
@[go_sem ↓ high] theorem Jd:execOp ρ {dst,op:=.buildSlice 362 1 #[(0,x)],type:=ty,pos,after,guard}=iJ 362 (ρ x):=by simp[execOp,iJ]
end
@[go_sem] theorem NY(q:Nat)(w:Yu):(iJ 362 (Yr q)).run prog w=.ok (.value (.slice (some ⟨w.heap.size,0,none⟩) 1 1)) (w.alloc (.cells (tJ q) 302)):=by kernel_rfl
theorem mR.at_{n c:Nat}{L:List Nat}(h:mR w base (.slice A n c) L)(j:L[k]? =some q):∃g,A=some ⟨g,0,none⟩/\g<w.heap.size/\w.cell? ⟨g,k,none⟩=some (Yr q):=by
 have r:=(Vx.1 j).1;obtain⟨g,cap,o,l,s,p,d⟩:=h.sl_pos (by omega);rw[o]at h;have f:=h.rng ma j;obtain⟨rfl,-⟩:A=some ⟨g,0,none⟩/\c=cap:=by injection o with a b c;exact⟨a,c⟩
 have:=f 0 _ rfl;rw[V3]at this;exact⟨g,rfl,d,this⟩
def vW(w:Yu)(q:Nat)(n:Int):Prop:=∃a t k,ai w q 307 (qM n a t k)
theorem PU{c d:Nat}{a b:Int}(p:vW W c a)(j:vW W d b):Yt 261 #[Yr c,Yr d] W λe w'=>e=.returned (.int .i64 (Lib.compareInt a b))/\∃n,w'=W.drewN n:=by
 obtain⟨E,B,r,b1⟩:=p;obtain⟨J,t,u,b2⟩:=j;have C:=U9 λX=>ET a b X
 obtain⟨f,D⟩:=b1.rules;obtain⟨l,s⟩:=b2.rules;have H:=b1.lt;have I:=b2.lt;generalize Lib.compareInt a b=z at C;unfold qM at f l;clear b1 b2;go_enter func261,ntmps261;go_upto_region 1 with fail;refine gG 11 (by kernel_rfl) (by simp) (by kernel_rfl) (by kernel_rfl) (by kernel_rfl) (by kernel_rfl) ?_;simp only[U4,U5,U6,U7]
 iterate 11 (go_big_quiet_step (first|(go_at_call 58;with_reducible exact(C.o _).mono λ_ _ h=>⟨h.1,_,h.2⟩)))
 refine Xm ?_;rintro _ ⟨nq,rfl⟩;go_wp2_with fail;go_ret;exact⟨rfl,nq,rfl⟩
section
variable{α:Type}[Inhabited α]{enc:α->Yv}{base:Nat}{e:Yw}{w w':Yu}{g n cap:Nat}{L L':List α}
omit [Inhabited α]in
theorem vx(enc:α->Yv)(L:List α):cC (λx=>#[enc x]) L=L.map enc:=by
 induction L with
 |nil=>rfl
 |cons x r ih=>rw[kx,ih,VG];rfl
theorem ug(h:Row w base e 1 (λx=>#[enc x]) (.slice (some ⟨g,0,none⟩) n cap) L)(J:L'.length=L.length){m:Nat}{os:Array Obj}
  (d:w'=sortWorld enc w g 0 m L'.toArray os):Row w' base e 1 (λx=>#[enc x]) (.slice (some ⟨g,0,none⟩) n cap) L'/\w.grownBy w' (some g):=by
 obtain⟨cur,H,u,M,R,-⟩:=h.blk;have N:g<w.heap.size:=ai.lt H;have a:∀k,k<w.heap.size->k≠g->w'.heap[k]? =w.heap[k]?:=λk r b=>by
  rw[d];unfold sortWorld;rw[Yq _ _ (by simpa[putRow,mapBlock]using r)];show((Sort.ahead w m).heap.modify g _)[k]? =_;rw[WO,Vf (V1 b)]
  rfl
 have j:ai w' g e (putCells enc 0 L'.toArray cur):=by
  show w'.heap[g]? =_;rw[d];unfold sortWorld;rw[Yq _ _ (by simpa[putRow,mapBlock]using N)];show((Sort.ahead w m).heap.modify g _)[g]? =_;rw[WO,Vh rfl,show(Sort.ahead w m).heap[g]? =some (.cells cur e (0,0))from H]
  rfl
 have s:w.grownBy w' (some g):=by
  refine⟨by rw[d];rfl,by rw[d];rfl,by rw[d];rfl,?_,λk r b=>a k r λe=>b (by rw[e])⟩;rw[d];show w.heap.size<=((Sort.ahead w m).heap.modify g _++os).size;rw[Array.size_append,Array.size_modify];exact Wa _ _
 refine⟨?_,s⟩;have bQ:(putCells enc 0 L'.toArray cur).toList.take (L'.length*1)=cC (λx=>#[enc x]) L':=by
  have O:cC (λx=>#[enc x]) L'=L'.map enc:=vx enc L';rw[O,V3];apply List.ext_getElem?;intro t;by_cases l:t<L'.length
  ·rw[VU,Vh l,VK]
   unfold putCells;rw[Xc,VV (by omega),WE,Vh (by simp;omega),Wm,Ve l];simp[l]
  ·rw[VU,Vf l,XM (by rw[Wd];omega)]
 obtain⟨T,o⟩:=h;rcases o with⟨o,-⟩|⟨U,E,K,Q,C,S,p,B,I,P⟩
 ·cases o
 ·injection Q with f D z
  injection f with f;injection f with f _ _;subst f z;refine⟨bN (c:=λx=>#[enc x]) (sz:=1) (λ_=>rfl) L',.inr ⟨g,cap,_,by rw[J,D],C,j,by rw[J];exact p,B,?_,bQ⟩⟩;show(putCells _ _ _ _).size=_;unfold putCells;rw[Array.size_mapIdx,u]
end
theorem vO{α:Type}(f:α->Int):Go.Sort.SWO (Go.Proofs.ltOf λx y=>Lib.compareInt (f x) (f y)) where
 irrefl x:=by unfold Go.Proofs.ltOf Lib.compareInt;simp
 trans x y z h1 h2:=by unfold Go.Proofs.ltOf Lib.compareInt at*;grind
 ntrans x y z h1 h2:=by unfold Go.Proofs.ltOf Lib.compareInt at*;grind
theorem Il{L:List Nat}(h:mR w base v L)(S:∀q∈L,mP w q)(N:L.length<=1000000):
  Yt 260 #[v,.func (.func 261) #[] #[]] w λr w'=>r=.returned (.tuple #[])/\∃L',mR w' base v L'/\L.Perm L'/\w.grownBy w' v.ownBlock:=by
 have X:∀args w,(callFunc 261 args).run prog w=.ok (.enter 261 args) w:=enters_of func261 (by kernel_rfl) rfl;rcases Ye L.length with h0|h0
 ·have:L=[]:=Wg.1 h0
  subst this;obtain⟨A,cap,rfl,-,-⟩:=h.sl;refine(Yb (P:=prog) (ρ:=ph) {BT with} A cap _ w).mono ?_;rintro r w' ⟨rfl,rfl⟩;exact⟨rfl,[],h,List.Perm.nil,⟨rfl,rfl,rfl,Vc _,λ_ _ _=>rfl⟩⟩
 obtain⟨g,cap,rfl,Q,hm,hg,J⟩:=h.sl_pos h0;let α:={x:Nat×Int//vW w x.1 x.2};have B:∀q∈L,∃n,vW w q n:=λq I=>by
  obtain⟨n,a,t,k,l,-⟩:=S q I;exact⟨n,a,t,k,l⟩
 obtain⟨M,p⟩:∃M:List α,M.map (λx=>x.1.1)=L:=by
  clear h h0 S N Q
  induction L with
  |nil=>exact⟨[],rfl⟩
  |cons q L ih=>
   obtain⟨M,p⟩:=ih λq I=>B q (VA _ I)
   obtain⟨n,N⟩:=B q Vp;exact⟨⟨(q,n),N⟩::M,by rw[VG,p]⟩
 have o:M.length=L.length:=by rw[<-p,Wd]
 haveI:Inhabited α:=⟨M[0]'(by omega)⟩
 let enc:α->Yv:=λx=>.pointer (some ⟨x.1.1,0,none⟩)
 have b:Row w base 302 1 (λx=>#[enc x]) (.slice (some ⟨g,0,none⟩) L.length cap) M:=by
  have K:cC (λx=>#[enc x]) M=cC tJ L:=by
   rw[<-p];simp[cC,List.flatMap_map,enc,tJ]
  unfold Row;rw[K,o];exact h
 have hH:Holds enc w g 0 M.toArray:=λj hj=>by
  have s:j<M.length:=by simpa using hj
  have hx:M[j]? =some M[j]:=Ve s;have V:=Row.rng (c:=λx=>#[enc x]) (sz:=1) (λ_=>rfl) b hx 0 (enc M[j]) rfl;refine⟨?_,b.frozen _⟩;have e1:M.toArray[j]! =M[j]:=by simp[s]
  rw[e1,Vk];simpa using V
 have O:∃cur,ai w g 302 cur:=by
  obtain⟨cur,l,-⟩:=b.blk;exact⟨cur,l⟩
 have C:Go.Proofs.CmpLays1 prog 261 #[] enc (λx y=>Lib.compareInt x.1.2 y.1.2) g 0 M.toArray.size w:=λm os T _ x y=>by
  have R:∀z:α,vW (sortWorld enc w g 0 m T os) z.1.1 z.1.2:=λz=>by
   obtain⟨a,t,k,l⟩:=z.2;obtain⟨cur,Q⟩:=O;have E:z.1.1≠g:=λe=>by
    have:=(Q.type_eq (e▸l)).1;exact absurd this (by decide)
   refine⟨a,t,k,?_⟩;show(sortWorld enc w g 0 m T os).heap[z.1.1]? =_;unfold sortWorld;rw[Yq _ _ (by simpa[putRow,mapBlock]using l.lt)];show((Sort.ahead w m).heap.modify g _)[z.1.1]? =_;rw[WO,Vf (V1 E)];exact l
  refine(PU (R x) (R y)).mono ?_;rintro e w' ⟨rfl,q,rfl⟩;exact⟨rfl,q,#[],by rw[grow_empty]⟩
 have f:=Any.slices_SortFunc BT enc (λx=>rfl) (λx y=>Lib.compareInt x.1.2 y.1.2) (vO λx:α=>x.1.2) 261 #[] g 0 cap M.toArray w X C hH J (by simp;omega);change Yt 260 _ _ _ at f;rw[show M.toArray.size=L.length from by simpa using o]at f;refine Xi f ?_;rintro r w' ⟨rfl,u,n,os,Y,hs,D⟩;obtain⟨Z,U⟩:=lu (d:=M.toArray) (by simpa[o]using Y);have hl:u.toList.length=M.length:=by simpa using U
 obtain⟨H,r2⟩:=ug (L':=u.toList) b hl (by simpa using D);refine⟨rfl,u.toList.map (λx=>x.1.1),?_,?_,r2⟩
 ·have K:cC (λx=>#[enc x]) u.toList=cC tJ (u.toList.map λx=>x.1.1):=by
   simp[cC,List.flatMap_map,enc,tJ]
  unfold Row at H;rw[K]at H;unfold mR Row;rw[Wd];exact H
 ·rw[<-p]
  exact List.Perm.map _ (by simpa using Z)
end
section
open Go.RowKit Go
@[go_sem] theorem Cy(x:Int):KR.kc x=.int .u64 x:=rfl
@[go_sem] theorem Cx(x:Option Nat):KR.vc x=Nu x:=rfl
theorem Hm(q:Nat)(w:Yu):Yt 242 #[Yr q] w λr w'=>(∃b:Bool,r=.returned (.bool b))/\Ys w w':=by
 go_enter func242,ntmps242;go_wp2_with fail;go_ret;exact⟨⟨true,rfl⟩,Vd _ _⟩
theorem Mq{u:Nat}(h:mP w q)(l:ai w u 32 #[.int .u64 now]):Yt 245 #[Yr q,Yr u] w λr w'=>(∃b:Bool,r=.returned (.bool b))/\Ys w w':=by
 obtain⟨n,a,t,k,c,-⟩:=h;unfold qM at c;have z:=U9 (λ(W:Yu) (h:Ys w W)=>Vb (c.call h).rules (Vb (c.call h).lt (Vb (l.call h).rules (l.call h).lt)));obtain⟨b,f⟩:∃b,decide (t<=now)=b:=⟨_,rfl⟩;clear c l;go_enter func245,ntmps245;go_wp2_with fail;refine bS (by kernel_rfl) (by kernel_rfl) ?_
 iterate 7
  first
  |refine dx rfl ?_;apply aA
   ·intro _ ρ p j d W c;have B:=z.o W c;simp[execOp,go_sem,p,j,d,B,f]<;>exact rfl
  |refine aw (λ_=>rfl) ?_
  simp only[UW,UX,UY,UZ]
 refine aH ?_;intro _ D s;have C:=U9 s;clear s z;go_wp2_with fail;go_ret;exact⟨⟨b,rfl⟩,C.o⟩
structure JC(w:Yu)(mb r:Nat)(L left kept:List (Int×Option Nat))(v:Yv)(ks:List Nat)(W:Yu):Prop where
 rg:cq KR W mb r left kept
 row:mR W (w.heap.size+1) v ks
 kq:∀q∈ks,∃x∈L,x.2=some q
 kl:ks.length<=kept.length
 pm:L.Perm (left++kept)
 below:Ys w W
 sz:w.heap.size+1<=W.heap.size
def Fd(w:Yu)(L:List (Int×Option Nat))(r:Ending)(w':Yu):Prop:=∃u a,r=.returned u/\mR w' w.heap.size u a/\(∀q∈a,∃x∈L,x.2=some q)/\a.length<=L.length/\Ys w w'
theorem EC(h:fo w F dm mb L):Yt 241 #[Yr dm,.func (.func 242) #[] #[]] w (Fd w L):=by
 obtain⟨q,-⟩:=h.blk.rules;have HM:=U9 h.map;have τ:=h.map.lt;have π:=h.len;have HE:=U9 (λx hx=>h.els x hx);clear h;go_enter func241,ntmps241;go_wp2_with (first|(at_range;refine dL lz rfl _ rfl rfl HM.o ?_;intro w0 M β η))
 go_frame
 have A0:JC w mb w.heap.size L L [] (.slice none 0 0) [] w0:=⟨M,Row.nil,(by simp),(by simp),by simp,β,by omega⟩;clear M β η q HM
 go_loopg [4] L.length (λg v wr=>∃left l D,left.length=g/\JC w mb w.heap.size L left l v D wr)
 case atStart=>exact⟨L,[],[],rfl,A0⟩
 case round=>
  obtain⟨left,l,D,T,A⟩:=hrel;clear A0;go_wp2_with (first|(at_next;refine d8 rfl _ rfl rfl A.rg ?_ ?_))
  ·intro δ
   obtain rfl:=δ;have S:D.length<=L.length:=by have h1:=A.kl;have h2:=A.pm.length_eq;simp at h2;omega
   obtain⟨A1,c1,rfl,ξ,κ⟩:=A.row.sl;have C2:=U9 (Il A.row (λq hq=>by
    obtain⟨x,hx,e⟩:=A.kq q hq;obtain⟨q2,e2,hw,-⟩:=HE.o x hx;rw[e]at e2;obtain rfl:=VT e2;exact hw.call A.below) (by omega))
   have p:=U9 (Vb A S);clear A T S;go_wp2_with fail;refine C2.o.mono ?_;rintro r w2 ⟨rfl,ε,f,X,s⟩;have HX:=U9 (Vb f (Vb X s));clear f X s C2;go_wp2_with fail;go_ret;refine⟨_,ε,rfl,db HX.o.1 (Wa _ _),λq hq=>p.o.1.kq q (HX.o.2.1.symm.subset hq),?_,?_⟩
   ·rw[<-HX.o.2.1.length_eq];exact p.o.2
   ·exact p.o.1.below.trans ((ah.of_grown (F:=λk=>w.heap.size<=k) HX.o.2.2 (λk U=>by have:=(p.o.1.row.ge k U).1;omega)).belowB (λk _ h=>h) p.o.1.below.size)
  ·intro Q ep a w2 hp K I Y
   have E:a.length+1=left.length:=by have:=hp.length_eq;simpa using this.symm
   have C:(Q,ep)∈L:=A.pm.symm.subset (Wj _ (hp.symm.subset Vp));obtain⟨t,N,γ,-⟩:=HE.o _ C;have N:ep=some t:=N;subst N;have σ:D.length<=1000:=by have h1:=A.kl;have h2:=A.pm.length_eq;simp at h2;omega
   have R:u4.ownBlock≠some w.heap.size:=λe=>by have:=(A.row.ge _ e).1;omega
   have f:=I.own A.row R (by cases u4.ownBlock<;>simp);have P:=I.below A.below (Vc _) (λ_ h=>by cases h);have θ:=Vi A.sz I.size;have ζ:=γ.call P;have C1:=U9 (Hm t w2);have p:=U9 (Vb A (Vb hp (Vb K (Vb f (Vb P (Vb E (Vb T C)))))));obtain⟨A1,c1,rfl,ξ,κ⟩:=A.row.sl;clear A hp K I f P E T C ζ γ;simp only[Cy,Cx,tU]at Y⊢;go_wp2_with fail;refine C1.o.mono ?_;rintro r J ⟨⟨b,rfl⟩,u⟩;have H:L.Perm (a++(Q,some t)::l):=p.o.1.pm.trans ((WI _ p.o.2.1).trans List.perm_middle.symm);have z:=p.o.2.2.2.2.1.trans (u.mono p.o.2.2.2.2.1.size);have j:=p.o.2.2.1.call u;have d:=Row.call p.o.2.2.2.1 u;have μ:=Vi θ u.size;clear C1 Y;cases b with
   |false=>
    have H3:=U9 (show JC w mb w.heap.size L a ((Q,some t)::l) _ D J from⟨j,d,p.o.1.kq,Vi p.o.1.kl (by simp),H,z,μ⟩);clear H z j d u;go_wp2_with fail;have E:=p.o.2.2.2.2.2.1;have T:=p.o.2.2.2.2.2.2.1
    go_roundg a.length
    case measure=>omega
    case rel=>exact⟨a,(Q,some t)::l,D,rfl,H3.o⟩
   |true=>
    have ha:Ys J (J.alloc (.cells (tJ t) 302)):=(Vd _ _).alloc (Vc _) _;obtain⟨v',w4,Z,B,ι,s,hf⟩:=mR.app (w:=J.alloc (.cells (tJ t) 302)) (cap:=1) 362 (Row.call d ha) (dU (c:=tJ) ma (x:=t) (ai.new J 302 (tJ t))) (by simp;omega) (by simp;omega);simp only[VB,VR,Vk]at Z;have O:∀{k:Nat},k<J.heap.size->(Value.slice A1 D.length c1).ownBlock≠some k->w4.heap[k]? =J.heap[k]?:=λ{k} U hn=>by
     rw[s.block k (by simp;omega) (λe=>hn e.symm)];exact WK J _ k U
    have V:JC w mb w.heap.size L a ((Q,some t)::l) v' (D++[t]) w4:=by
     refine⟨j.same (O j.map.lt λe=>?_) (O j.lt R),B,λq hq=>?_,?_,H,?_,?_⟩
     ·have h1:=eC d mb
      obtain⟨es,ck,ν,_⟩:=j.map.ex;have:=h1 _ e ν;simp[Obj.isCells]at this
     ·rcases Vw.1 hq with hq|hq
      ·exact p.o.1.kq q hq
      ·rw[VH.1 hq]
       exact⟨_,p.o.2.2.2.2.2.2.2,rfl⟩
     ·have:=p.o.1.kl
      simp;omega
     ·refine(z.trans (ha.mono z.size)).trans ((ah.of_grown (F:=λk=>w.heap.size<=k) s (λk U=>?_)).belowB (λk _ h=>h) (by have:=z.size;simp;omega))
      have:=(d.lt k U).1;omega
     ·have:=s.size;simp at this;omega
    have H3:=U9 V;clear H z j d u ha B ι s hf O V;go_wp2_with fail;have E:=p.o.2.2.2.2.2.1;have T:=p.o.2.2.2.2.2.2.1
    go_roundg a.length
    case measure=>omega
    case rel=>exact⟨a,(Q,some t)::l,D++[t],rfl,H3.o⟩
theorem ED(h:fo w F dm mb L){bn:Nat}(hB:ai w bn 32 #[.int .u64 now]):Yt 241 #[Yr dm,.func (.func 245) #[] #[Yr bn]] w (Fd w L):=by
 obtain⟨q,-⟩:=h.blk.rules;have HM:=U9 h.map;have τ:=h.map.lt;have π:=h.len;have HE:=U9 (λx hx=>h.els x hx);have HN:=U9 hB;clear h hB;go_enter func241,ntmps241;go_wp2_with (first|(at_range;refine dL lz rfl _ rfl rfl HM.o ?_;intro w0 N γ η))
 go_frame
 have A0:JC w mb w.heap.size L L [] (.slice none 0 0) [] w0:=⟨N,Row.nil,(by simp),(by simp),by simp,γ,by omega⟩;clear N γ η q HM
 go_loopg [4] L.length (λg v wr=>∃left l D,left.length=g/\JC w mb w.heap.size L left l v D wr)
 case atStart=>exact⟨L,[],[],rfl,A0⟩
 case round=>
  obtain⟨left,l,D,T,A⟩:=hrel;clear A0;go_wp2_with (first|(at_next;refine d8 rfl _ rfl rfl A.rg ?_ ?_))
  ·intro ε
   obtain rfl:=ε;have S:D.length<=L.length:=by have h1:=A.kl;have h2:=A.pm.length_eq;simp at h2;omega
   obtain⟨A1,c1,rfl,ξ,κ⟩:=A.row.sl;have C2:=U9 (Il A.row (λq hq=>by
    obtain⟨x,hx,e⟩:=A.kq q hq;obtain⟨q2,e2,hw,-⟩:=HE.o x hx;rw[e]at e2;obtain rfl:=VT e2;exact hw.call A.below) (by omega))
   have p:=U9 (Vb A S);clear A T S;go_wp2_with fail;refine C2.o.mono ?_;rintro r w2 ⟨rfl,ζ,f,Y,s⟩;have HX:=U9 (Vb f (Vb Y s));clear f Y s C2;go_wp2_with fail;go_ret;refine⟨_,ζ,rfl,db HX.o.1 (Wa _ _),λq hq=>p.o.1.kq q (HX.o.2.1.symm.subset hq),?_,?_⟩
   ·rw[<-HX.o.2.1.length_eq];exact p.o.2
   ·exact p.o.1.below.trans ((ah.of_grown (F:=λk=>w.heap.size<=k) HX.o.2.2 (λk V=>by have:=(p.o.1.row.ge k V).1;omega)).belowB (λk _ h=>h) p.o.1.below.size)
  ·intro Q ep a w2 hp M J Z
   have E:a.length+1=left.length:=by have:=hp.length_eq;simpa using this.symm
   have C:(Q,ep)∈L:=A.pm.symm.subset (Wj _ (hp.symm.subset Vp));obtain⟨z,O,δ,-⟩:=HE.o _ C;have O:ep=some z:=O;subst O;have σ:D.length<=1000:=by have h1:=A.kl;have h2:=A.pm.length_eq;simp at h2;omega
   have R:u4.ownBlock≠some w.heap.size:=λe=>by have:=(A.row.ge _ e).1;omega
   have f:=J.own A.row R (by cases u4.ownBlock<;>simp);have I:=J.below A.below (Vc _) (λ_ h=>by cases h);have θ:=Vi A.sz J.size;have U:=δ.call I;have C1:=U9 (Mq U (HN.o.call I));have p:=U9 (Vb A (Vb hp (Vb M (Vb f (Vb I (Vb E (Vb T C)))))));obtain⟨A1,c1,rfl,ξ,κ⟩:=A.row.sl;clear A hp M J f I E T C U δ;simp only[Cy,Cx,tU]at Z⊢;go_wp2_with fail;refine C1.o.mono ?_;rintro r K ⟨⟨b,rfl⟩,t⟩;have H:L.Perm (a++(Q,some z)::l):=p.o.1.pm.trans ((WI _ p.o.2.1).trans List.perm_middle.symm);have u:=p.o.2.2.2.2.1.trans (t.mono p.o.2.2.2.2.1.size);have j:=p.o.2.2.1.call t;have d:=Row.call p.o.2.2.2.1 t;have μ:=Vi θ t.size;clear C1 Z;cases b with
   |false=>
    have H3:=U9 (show JC w mb w.heap.size L a ((Q,some z)::l) _ D K from⟨j,d,p.o.1.kq,Vi p.o.1.kl (by simp),H,u,μ⟩);clear H u j d t;go_wp2_with fail;have E:=p.o.2.2.2.2.2.1;have T:=p.o.2.2.2.2.2.2.1
    go_roundg a.length
    case measure=>omega
    case rel=>exact⟨a,(Q,some z)::l,D,rfl,H3.o⟩
   |true=>
    have ha:Ys K (K.alloc (.cells (tJ z) 302)):=(Vd _ _).alloc (Vc _) _;obtain⟨v',w4,β,B,ι,s,hf⟩:=mR.app (w:=K.alloc (.cells (tJ z) 302)) (cap:=1) 362 (Row.call d ha) (dU (c:=tJ) ma (x:=z) (ai.new K 302 (tJ z))) (by simp;omega) (by simp;omega);simp only[VB,VR,Vk]at β;have P:∀{k:Nat},k<K.heap.size->(Value.slice A1 D.length c1).ownBlock≠some k->w4.heap[k]? =K.heap[k]?:=λ{k} V hn=>by
     rw[s.block k (by simp;omega) (λe=>hn e.symm)];exact WK K _ k V
    have X:JC w mb w.heap.size L a ((Q,some z)::l) v' (D++[z]) w4:=by
     refine⟨j.same (P j.map.lt λe=>?_) (P j.lt R),B,λq hq=>?_,?_,H,?_,?_⟩
     ·have h1:=eC d mb
      obtain⟨es,ck,ν,_⟩:=j.map.ex;have:=h1 _ e ν;simp[Obj.isCells]at this
     ·rcases Vw.1 hq with hq|hq
      ·exact p.o.1.kq q hq
      ·rw[VH.1 hq]
       exact⟨_,p.o.2.2.2.2.2.2.2,rfl⟩
     ·have:=p.o.1.kl
      simp;omega
     ·refine(u.trans (ha.mono u.size)).trans ((ah.of_grown (F:=λk=>w.heap.size<=k) s (λk V=>?_)).belowB (λk _ h=>h) (by have:=u.size;simp;omega))
      have:=(d.lt k V).1;omega
     ·have:=s.size;simp at this;omega
    have H3:=U9 X;clear H u j d t ha B ι s hf P X;go_wp2_with fail;have E:=p.o.2.2.2.2.2.1;have T:=p.o.2.2.2.2.2.2.1
    go_roundg a.length
    case measure=>omega
    case rel=>exact⟨a,(Q,some z)::l,D++[z],rfl,H3.o⟩
structure Bh where
 n:Int
 a:Int
def kf(x:Bh):Array Yv:=#[.int .u64 x.n,.int .i64 x.a]
def Bh.ok(x:Bh):Prop:=aT x.n/\od x.a
theorem iM(x:Bh):(kf x).size=2:=rfl
theorem Bq(x:Bh):∀u∈(kf x).toList,u.oneCell'=true:=by intro u a;simp[kf]at a;rcases a with rfl|rfl<;>rfl
abbrev kX(w:Yu)(base:Nat)(v:Yv)(L:List Bh):Prop:=Row w base 305 2 kf v L
theorem Ll:(prog.info? 305).map (λi=>(i.zero,i.size,i.bytes))=some (some (.agg #[.int .u64 0,.int .i64 0]),2,16):=by kernel_rfl
theorem kX.app{B:Nat}{cap:Nat}(ty:Yw){L M:List Bh}(h:kX w base v L)(l:Rd w B 2 A M.length (cC kf M))(r:L.length+M.length<=1000000)(a:base<=w.heap.size):
  ∃c w',(iy 340 ty v (.slice A M.length cap)).run prog w=.ok (.value c) w'/\kX w' base c (L++M)/\Kt base [305] w w'/\w.grownBy w' v.ownBlock/\(c.ownBlock=v.ownBlock\/∀b,c.ownBlock=some b->w.heap.size<=b):=by
 obtain⟨d,p,f,j,o⟩:=V7 Ll;exact Row.app w 340 ty d _ 16 underlying340 p f j o rfl (by decide) iM Bq h (cap:=cap) l r (by decide) a
section
variable(ρ:Yx->Yv)(dst:Option Tmp)(x y:Yx)(ty:Yw)(pos:String)(after:Array Edge)(guard:Option (Nat×Bool))
@[go_sem ↓ high] theorem Jq:execOp ρ {dst,op:=.call {callee:=.builtin .append,args:=#[x,y],argTypes:=#[340,340]},type:=ty,pos,after,guard}=iy 340 ty (ρ x) (ρ y):=by simp[execOp,iy,resolve,invoke,builtin]
@[go_sem ↓ high] theorem G5:execOp ρ {dst,op:=.buildSlice 340 1 #[(0,x)],type:=ty,pos,after,guard}=iJ 340 (ρ x):=by simp[execOp,iJ]
end
theorem rA(x:Bh)(w:Yu):(iJ 340 (.agg #[.int .u64 x.n,.int .i64 x.a])).run prog w=.ok (.value (.slice (some ⟨w.heap.size,0,none⟩) 1 1)) (w.alloc (.cells (kf x) 305)):=by kernel_rfl
def Np(w:Yu)(r:Ending)(w':Yu):Prop:=∃u a,r=.returned u/\kX w' w.heap.size u a/\a.length<=32/\(∀x∈a,x.ok)/\Ys w w'
theorem Mp(h:fo w F dm mb L):Yt 218 #[Yr dm] w (Np w):=by
 have C:=U9 (EC h);have HH:=U9 h;have Z:=h.len;clear h;go_enter func218,ntmps218;go_wp2_with fail;refine C.o.mono ?_;rintro r M ⟨u,p,rfl,b,J,γ,l⟩;obtain⟨A,c,rfl,ζ,Q⟩:=b.sl;have β:c<=9223372036854775807:=Q;have B:=U9 (Vb b (Vb J l));clear b J l C;go_wp2_with fail
 go_loopw [2,8] (λv i wr=>∃(k:Nat) (d:List Bh),k<=p.length/\i=.int .i64 k/\kX wr M.heap.size v d/\d.length=k/\(∀x∈d,x.ok)/\Ys M wr) (λ_ i _=>p.length-(intOf i).toNat)
 case atStart=>exact⟨0,[],by omega,rfl,Row.nil,rfl,by simp,Vd _ _⟩
 case round=>
  obtain⟨k,d,hk,rfl,b,f,s,l⟩:=hrel;obtain⟨Av,cv,rfl,-,-⟩:=b.sl;by_cases O:k<p.length
  ·have X:decide ((k:Int)<p.length)=true:=Vg (by omega)
   obtain⟨q,P⟩:∃q,p[k]? =some q:=⟨p[k],Ve O⟩;obtain⟨x,D,e⟩:=B.o.2.1 q (Vn P);obtain⟨q2,U,V,-⟩:=HH.o.els x D;rw[e]at U;obtain rfl:=VT U;obtain⟨n,a,t,kk,N,K,E,-⟩:=(V.call B.o.2.2).call l;obtain⟨g,rfl,hg,ε⟩:=mR.at_ (Row.call B.o.1 l) P;unfold qM at N;obtain⟨q1,f1⟩:=N.rules;have l1:=N.lt;have Y:=rA ⟨n,a⟩ wr;have S:Ys wr (wr.alloc (.cells (kf ⟨n,a⟩) 305)):=(Vd _ _).alloc (Vc _) _;obtain⟨v',T,I,j,H,R,hf⟩:=kX.app (w:=wr.alloc (.cells (kf ⟨n,a⟩) 305)) (cap:=1) 340 (Row.call b S) (dU (c:=kf) iM (x:=⟨n,a⟩) (ai.new wr 305 (kf ⟨n,a⟩))) (by simp;omega) (by have:=l.size;simp;omega);simp only[VB,VR,Vk]at I;have z:=U9 (show kX T M.heap.size v' (d++[⟨n,a⟩])/\(∀x∈d++[⟨n,a⟩],x.ok)/\Ys M T from⟨j,λx D=>(Vw.1 D).elim (s x) λD=>by rw[VH.1 D];exact⟨K,E⟩,(l.trans (S.mono l.size)).trans H.below⟩);have δ:d.length<=32:=by omega
   have HL:=U9 f;clear b s l V N P j H R hf S f D e K E;go_wp2_with fail;go_roundw
   case rel=>exact⟨k+1,_,by omega,by go_num,z.o.1,by rw[Vl,HL.o];rfl,z.o.2.1,z.o.2.2⟩
   case measure=>simp[intOf];omega
  ·obtain rfl:k=p.length:=by omega
   have X:decide ((p.length:Int)<p.length)=false:=Vj (by omega);have z:=U9 (Vb b (Vb f (Vb s l)));clear b f s l;go_wp2_with fail;go_ret;exact⟨_,d,rfl,z.o.1.mono B.o.2.2.size,by rw[z.o.2.1];omega,z.o.2.2.1,B.o.2.2.trans (z.o.2.2.2.mono B.o.2.2.size)⟩
theorem fo.set{i:Nat}{u:Yv}{a t k n' c t' k':Int}(h:fo w F dm mb L)(d:ai w q 307 (qM n a t k))(o:(qM n a t k).setIfInBounds i u=qM n' c t' k')(l:aT n'/\od c/\aT t'/\aT k'):fo (w.setCell ⟨q,i,none⟩ u) F dm mb L:=by
 refine⟨h.blk.far (p:=⟨q,i,none⟩) (λe=>?_) _,h.map.far (p:=⟨q,i,none⟩) (h.map.ne_blk d) _,λx z=>?_,h.len,h.fd,h.fm,λk j=>by simpa using h.inh k j⟩
 ·have e:dm=q:=e
  subst e;exact absurd (h.blk.type_eq d).1 (by decide)
 ·obtain⟨r,s,f,b⟩:=h.els x z
  refine⟨r,s,f.set λe=>?_,b⟩;subst e;exact⟨n,a,t,k,n',c,t',k',d,o,l⟩
theorem JX(x:Int):aT (IntKind.u64.wrap x):=by unfold aT;rw[WW];omega
def Nn(w:Yu)(F:Nat->Prop)(dm mb:Nat)(L:List (Int×Option Nat))(r:Ending)(w':Yu):Prop:=∃u a,r=.returned u/\kX w' w.heap.size u a/\a.length<=32/\(∀x∈a,x.ok)/\fo w' F dm mb L/\ah F w w'
theorem PT(h:fo w F dm mb L)(ζ:aT now):Yt 220 #[Yr dm,.int .u64 now] w (Nn w F dm mb L):=by
 have D0:Ys w (w.alloc (.cells #[.int .u64 now] 32)):=(Vd _ _).alloc (Vc _) _;have B0:ai (w.alloc (.cells #[.int .u64 now] 32)) w.heap.size 32 #[.int .u64 now]:=ai.new _ _ _;have C:=U9 (ED (h.call D0) B0);have HH:=U9 (Vb h (Vb B0 D0));have Δ:=h.len;have HN:=U9 (show∀k,F k->k<w.heap.size from h.inh);clear h D0 B0;go_enter func220,ntmps220;go_wp2_with fail;refine C.o.mono ?_;rintro r w1 ⟨u,D,rfl,b,μ,Θ,X⟩;obtain⟨A,c,rfl,Φ,υ⟩:=b.sl;have Γ:c<=9223372036854775807:=υ;have Y:=U9 (Vb b (Vb μ (Vb (HH.o.2.1.call X) (HH.o.2.2.trans (X.mono HH.o.2.2.size)))));have HZ:=U9 (show w.heap.size<w1.heap.size from Vq HH.o.2.1.lt X.size);have HR:=U9 (λg (e:(Value.slice A D.length c).ownBlock=some g) (Q:F g)=>show False from by
  have h1:=(b.ge g e).1;have h2:=HN.o g Q;simp at h1;omega)
 clear b μ X C;go_wp2_with fail
 go_loopw [4,11] (λv i wr=>∃(k:Nat) (f:List Bh),k<=D.length/\i=.int .i64 k/\kX wr w1.heap.size v f/\f.length=k/\(∀x∈f,x.ok)/\fo wr F dm mb L/\ah F w1 wr) (λ_ i _=>D.length-(intOf i).toNat)
 case atStart=>exact⟨0,[],by omega,rfl,Row.nil,rfl,by simp,HH.o.1.call Y.o.2.2.2,ah.refl⟩
 case round=>
  obtain⟨k,f,hk,rfl,b,l,E,B,R⟩:=hrel;obtain⟨Av,cv,rfl,-,-⟩:=b.sl;by_cases τ:k<D.length
  ·have hd:decide ((k:Int)<D.length)=true:=Vg (by omega)
   obtain⟨q,hq⟩:∃q,D[k]? =some q:=⟨D[k],Ve τ⟩;obtain⟨x,Z,e⟩:=Y.o.2.1 q (Vn hq);obtain⟨q2,e2,hw,U⟩:=B.els x Z;rw[e]at e2;obtain rfl:=VT e2;obtain⟨n,a,t,T,hB,P,O,θ,ν⟩:=hw;obtain⟨g,rfl,hg,ψ⟩:=mR.at_ (R.row Y.o.1 HR.o) hq;have δ:=R.blk Y.o.2.2.1 (λQ=>by have:=HN.o _ Q;omega);have HB:=U9 (Vb hB (Vb U (Vb P (Vb O (Vb θ ν)))));obtain⟨q1,f1⟩:=hB.rules;have l1:=hB.lt;unfold qM at q1;have ω:=rA ⟨n,a⟩ wr;have ha:Ys wr (wr.alloc (.cells (kf ⟨n,a⟩) 305)):=(Vd _ _).alloc (Vc _) _;obtain⟨v',K,κ,z,η,I,Q⟩:=kX.app (w:=wr.alloc (.cells (kf ⟨n,a⟩) 305)) (cap:=1) 340 (Row.call b ha) (dU (c:=kf) iM (x:=⟨n,a⟩) (ai.new wr 305 (kf ⟨n,a⟩))) (by simp;omega) (by have:=R.size;simp;omega);simp only[VB,VR,Vk]at κ;have π:ah cM wr K\/True:=.inr trivial;have V:∀j,F j->j<wr.heap.size->K.heap[j]? =wr.heap[j]?:=λj Q hj=>by
    rw[I.block j (by simp;omega) (λe=>by
     have h1:=(b.ge j e.symm).1;have h2:=HN.o j Q;have h3:=HZ.o;omega)]
    exact WK wr _ j hj
   have χ:wr.heap.size<=K.heap.size:=by have:=I.size;simp at this;omega
   have J:fo K F dm mb L:=B.keep χ V;have M:ah F w1 K:=R.trans' (ah.of_grown (F:=λj=>w1.heap.size<=j) I (λj hj=>(b.ge j hj).1)|>λm=>(ah.of_below (F:=λj=>w1.heap.size<=j) ha).trans m) λj hj h=>by omega
   have H:ai K q 307 (qM n a t T):=(V q U hB.lt).trans hB;have p:ai K w.heap.size 32 #[.int .u64 now]:=η.blk _ _ _ (δ.call ha) (by decide);have H4:=U9 (Vb z (Vb J (Vb M (Vb H p))));have HO:=U9 (show∀x∈f++[⟨n,a⟩],x.ok from λx Z=>(Vw.1 Z).elim (E x) λZ=>by rw[VH.1 Z];exact⟨P,O⟩);have HF:=U9 (λ(W:Yu) (h:Ys K W)=>Vb (H.call h).rules (Vb (H.call h).lt (Vb (p.call h).rules (p.call h).lt)));have Ξ:f.length<=32:=by omega
   have HL:=U9 l;clear b E B R hB hq z η I Q ha l Z e P O θ ν δ J M H p V π;go_wp2_with fail;refine aP 9 (by kernel_rfl) (by simp) (by decide+kernel) (by decide+kernel) (by decide+kernel) (by decide+kernel) ?_;simp only[U4,U5,U6,U7]
   iterate 9
    first
    |refine dx rfl ?_;apply aA
     ·intro _ ρ φ ξ σ W X;have hq:=HF.o W X;simp[execOp,go_sem,φ,ξ,σ,hq,qM]<;>exact rfl
    |refine aw (λ_=>rfl) ?_
    simp only[UW,UX,UY,UZ]
   refine aH ?_;intro _ W5 hC _;have s:=H4.o.2.2.2.1.call hC;have ε:=(H4.o.2.1.call hC).set (i:=2) (u:=.int .u64 (IntKind.u64.wrap (now+T))) s rfl ⟨HB.o.2.2.1,HB.o.2.2.2.1,JX _,HB.o.2.2.2.2.2⟩;have ι:=s.set_ 2 (.int .u64 (IntKind.u64.wrap (now+T)));have γ:=λy (hy:aT y)=>ε.set (i:=3) (u:=.int .u64 y) (t':=IntKind.u64.wrap (now+T)) (k':=y) ι rfl ⟨HB.o.2.2.1,HB.o.2.2.2.1,JX _,hy⟩
   have d:=Row.call H4.o.1 hC;have β:=Row.ne_box d s (by decide);have S:=λ(u y:Yv)=>(ah.set (F:=cj q) (w:=W5) ⟨q,2,none⟩ rfl u).setOld ⟨q,3,none⟩ (.inl rfl) y
   have N:=U9 (λy (hy:aT y)=>Vb (γ y hy) (Vb ((S (.int .u64 (IntKind.u64.wrap (now+T))) (.int .u64 y)).row d λg hg e=>β (by rw[hg];exact Vt some e)) ((H4.o.2.2.1.call hC).trans ((S (.int .u64 (IntKind.u64.wrap (now+T))) (.int .u64 y)).mono λk e=>by have e:k=q:=e;subst e;exact U))));obtain⟨q5,f5⟩:=s.rules;have l5:=s.lt;unfold qM at q5;rw[WW]at N;clear HF hC s ε ι γ d β S q1 f1 l1 ψ hg ζ;go_wp2_with fail;go_roundw
   case rel=>
    have h6:=N.o (min (2*T%18446744073709551616) 16) (by unfold aT;omega);exact⟨k+1,_,by omega,by go_num,h6.2.1,by rw[Vl,HL.o];rfl,HO.o,h6.1,h6.2.2⟩
   case measure=>simp[intOf];omega
  ·obtain rfl:k=D.length:=by omega
   have hd:decide ((D.length:Int)<D.length)=false:=Vj (by omega);have N:=U9 (Vb b (Vb l (Vb E (Vb B R))));clear b l E B R;go_wp2_with fail;go_ret;exact⟨_,f,rfl,N.o.1.mono Y.o.2.2.2.size,by rw[N.o.2.1];omega,N.o.2.2.1,N.o.2.2.2.1,(ah.of_below (F:=F) Y.o.2.2.2).trans N.o.2.2.2.2⟩
def Tn(w:Yu)(F:Nat->Prop)(dm mb:Nat)(r:Ending)(w':Yu):Prop:=(∃b:Bool,r=.returned (.bool b))/\∃L',fo w' F dm mb L'/\ah F w w'
theorem Mr(h:fo w F dm mb L)(r:aT n):Yt 168 #[Yr dm,.int .u64 n] w (Tn w F dm mb):=by
 obtain⟨N,O⟩:=h.blk.rules;have Q:=h.blk.lt;have b:(Instr.lookup 192 (.map (some mb)) (.int .u64 n) false).run prog w=.ok (Nu ((lk L n).getD none)) w:=h.map.look lz r;have c:=U9 h;cases p:lk L n with
 |none=>
  rw[p]at b;replace b:(Instr.lookup 192 (.map (some mb)) (.int .u64 n) false).run prog w=.ok (.pointer none) w:=b;clear h r p;go_enter func168,ntmps168;go_wp2_with fail;go_ret;exact⟨⟨_,rfl⟩,L,c.o,ah.refl⟩
 |some v=>
  obtain⟨q,t,-,-⟩:=h.els _ (bK p);have t:v=some q:=t;subst t;rw[p]at b;replace b:(Instr.lookup 192 (.map (some mb)) (.int .u64 n) false).run prog w=.ok (Yr q) w:=b;have s:=λty=>h.map.drop lz (a:=n) r ty
  have u:∃j,(∀ty,(Builtin.delete_ #[192,32] ty #[.map (some mb),.int .u64 n]).run prog w=.ok (.tuple #[]) j)/\aZ KR j mb (dropL L n)/\Fr w j mb none:=by
   obtain⟨j,I,H,K⟩:=s 0;refine⟨j,λty=>?_,H,K⟩;obtain⟨P,E,-⟩:=s ty;rw[show(Builtin.delete_ #[192,32] ty #[.map (some mb),.int .u64 n])=(Builtin.delete_ #[192,32] 0 #[.map (some mb),.int .u64 n])from rfl];exact I
  obtain⟨j,C,l,d⟩:=u;have D:=U9 (Vb l d);clear h r p s l d;go_enter func168,ntmps168;go_wp2_with fail;go_ret;have m:ah (cj mb) w j:=ah.of_fr1 (F:=cj mb) D.o.2 rfl;refine⟨⟨_,rfl⟩,dropL L n,⟨m.blk c.o.blk λe=>?_,D.o.1,λx M=>?_,?_,c.o.fd,c.o.fm,c.o.inh.mono m.size⟩,m.mono λk e=>by have e:k=mb:=e;subst e;exact c.o.fm⟩
  ·have e:dm=mb:=e
   exact c.o.map.ne_blk c.o.blk e.symm
  ·obtain⟨B,J,f,d⟩:=c.o.els x (gV.1 M).1
   refine⟨B,J,f.same (m.block B f.lt λe=>?_),d⟩;have e:B=mb:=e;subst e;obtain⟨T,S,R,E,z,-⟩:=f;exact c.o.map.ne_blk z rfl
  ·exact Vi (List.length_filter_le _ _) c.o.len
theorem Pp{L:LB}{m:az}(h:dD w L m)(Y:m.ok){x:Int}(U:aT x)(hk:k<6)(a:Int)(T:∀y∈aC m.tr x,aT y)(hl:(aC m.tr x).length<=1000):
  Yt 214 #[Yr L.b,.int .i64 ((k:Int)+1),.int .u64 x,.int .i64 a] w λr w'=>∃t I,r=.returned (.tuple #[.int .u64 t,.int .i64 I])/\aT t/\Ys w w':=by
 have C:=U9 (LE h Y U);have Z:=U9 (Vb h T);clear h Y U T;go_enter func214,ntmps214;go_wp2_with fail;refine C.o.mono ?_;rintro r w1 ⟨u,rfl,f,R⟩;generalize hP:aC m.tr x=P at f hl;obtain⟨A,c,rfl,ζ,N⟩:=f.sl;have β:c<=9223372036854775807:=N;have p:=U9 (Vb f (Vb R hP));clear f R hP C;go_wp2_with fail
 go_loopw [17] (λi wr=>∃j:Nat,j<=P.length/\i=.int .i64 j/\Ys w1 wr) (λi _=>P.length-(intOf i).toNat)
 case atStart=>exact⟨0,by omega,rfl,Vd _ _⟩
 case round=>
  obtain⟨j,hj,rfl,l⟩:=hrel;by_cases E:j<P.length
  ·have hd:decide ((j:Int)<P.length)=true:=Vg (by omega)
   obtain⟨y,M⟩:∃y,P[j]? =some y:=⟨P[j],Ve E⟩;have s:aT y:=Z.o.2 y (by rw[p.o.2.2];exact Vn M);have d:=Row.call p.o.1 l;obtain⟨g,cap,O,z,J,δ,ε⟩:=d.sl_pos (by omega);rw[O]at d;have B:=d.rng cY M;obtain⟨rfl,H⟩:A=some ⟨g,0,none⟩/\c=cap:=by injection O with a b c;exact⟨a,c⟩
   have γ:wr.cell? ⟨g,j,none⟩=some (.int .u64 y):=by have this:=B 0 (.int .u64 y) rfl;rw[V3]at this;exact this
   have Q:=U9 (oO ((Z.o.1.call p.o.2.1).call l) s k hk);have K:=U9 (Vb s l);clear d B O z J H M s l;go_wp2_with fail;refine Q.o.mono ?_;rintro r w3 ⟨rfl,D⟩;obtain⟨n,V⟩:∃n,dF (m.r y) k=n:=⟨_,rfl⟩;have S:=U9 (K.o.2.trans (D.mono K.o.2.size));rw[V];clear D Q V;by_cases X:n<a
   ·go_wp2_with fail
    go_ret2;exact⟨_,_,rfl,K.o.1,p.o.2.1.trans (S.o.mono p.o.2.1.size)⟩
   ·go_wp2_with fail
    go_roundw
    case rel=>exact⟨j+1,by omega,by go_num,S.o⟩
    case measure=>simp[intOf];omega
  ·obtain rfl:j=P.length:=by omega
   have hd:decide ((P.length:Int)<P.length)=false:=Vj (by omega);have HB:=U9 l;clear l;go_wp2_with fail;go_ret2;exact⟨0,0,rfl,⟨by decide,by decide⟩,p.o.2.1.trans (HB.o.mono p.o.2.1.size)⟩
theorem UI{g z:Nat}{e:Ev}{s:Int}{d:av}(b:ai W g 53 (ao e))(j:ai W c1 3 #[.int .i64 i])(c:ai W c2 32 #[.int .u64 s])(p:ai W z 34 (aq d)):
  Yt 270 #[Yr g,Yr c1,Yr c2,Yr z] W λr B=>(∃u,r=.returned u)/\ai B g 53 (ao ⟨i,s,d,e.k,e.n,e.t,e.a,e.r,e.f⟩)/\ah (cj g) W B:=by
 have H:g≠c1:=λh=>absurd (b.type_eq (h▸j)).1 (by decide)
 have K:g≠c2:=λh=>absurd (b.type_eq (h▸c)).1 (by decide)
 have N:g≠z:=λh=>absurd (b.type_eq (h▸p)).1 (by decide)
 obtain⟨q,D⟩:=b.rules;obtain⟨J,-⟩:=j.rules;obtain⟨O,-⟩:=c.rules;obtain⟨M,-⟩:=p.rules;have l:=b.lt;have E:=j.lt;have I:=c.lt;have P:=p.lt;have C:=U9 b;clear b j c p;go_enter func270,ntmps270
 go_region
 go_end0
 refine⟨⟨_,rfl⟩,?_,?_⟩
 ·have h:=(((((((C.o.set_ 0 (.int .i64 i)).set_ 1 (.int .u64 s)).set_ 2 (.int .u64 d.v0)).set_ 3 (.int .u64 d.v1)).set_ 4 (.int .u64 d.v2)).set_ 5 (.int .u64 d.v3)).set_ 6 (.int .u64 d.v4)).set_ 7 (.int .u64 d.v5)
  simp only[qf,qe,qd,qc,qa,p9,pZ,pY]at h;exact h.drew
 ·have f:Fr W _ g none:=(((((((Fr.of_set (w:=W) ⟨g,0,none⟩ rfl (.int .i64 i)).set ⟨g,1,none⟩ rfl (.int .u64 s)).set ⟨g,2,none⟩ rfl (.int .u64 d.v0)).set ⟨g,3,none⟩ rfl (.int .u64 d.v1)).set ⟨g,4,none⟩ rfl (.int .u64 d.v2)).set ⟨g,5,none⟩ rfl (.int .u64 d.v3)).set ⟨g,6,none⟩ rfl (.int .u64 d.v4)).set ⟨g,7,none⟩ rfl (.int .u64 d.v5)
  exact(ah.of_fr1 (F:=cj g) f rfl).trans ah.drew
theorem Po{D:Nat}{s:Int}{d:av}(a:cJ)(J:ai W c1 3 #[.int .i64 i])(I:ai W c2 32 #[.int .u64 s])(M:ai W D 34 (aq d)):
  Yt 269 #[.agg (cQ a),.func (.func 270) #[] #[Yr c1,Yr c2,Yr D]] W λr S=>r=.returned (.agg (ao ⟨i,s,d,a.k,a.n,a.t,a.a,a.r,a.f⟩))/\Ys W S:=by
 have H:aD W [(c1,3,#[.int .i64 i]),(c2,32,#[.int .u64 s]),(D,34,aq d)]:=aD.cons J (aD.cons I (aD.cons M aD.nil));have p:=H.lts;have N:Ys W (((W.alloc (.cells (cQ a) 42)).alloc (.cells (ao Ev.zero) 53)).alloc (.cells (ao Ev.zero) 53)):=(((Vd _ _).alloc (by simp<;>omega) _).alloc (by simp<;>omega) _).alloc (by simp<;>omega) _;have C:aD (((W.alloc (.cells (cQ a) 42)).alloc (.cells (ao Ev.zero) 53)).alloc (.cells (ao Ev.zero) 53)) [(W.heap.size+1+1,53,ao Ev.zero),(W.heap.size+1,53,ao Ev.zero),(W.heap.size,42,cQ a)]:=((aD.nil.push (g:=W.heap.size) rfl).push (g:=W.heap.size+1) (by simp)).push (g:=W.heap.size+1+1) (by simp);have B:=fE C.head rfl ⟨0,0,av.zero,a.k,a.n,a.t,a.a,a.r,a.f⟩;have E:=C.row (by refine⟨?_,?_,trivial⟩<;>omega) (ao ⟨0,0,av.zero,a.k,a.n,a.t,a.a,a.r,a.f⟩);have z:=Below.rowN N (g:=W.heap.size+1+1) (by omega) (ao ⟨0,0,av.zero,a.k,a.n,a.t,a.a,a.r,a.f⟩);have b:=H.call z;have O:=U9 (UI E.head b.head b.drop.head b.drop.drop.head);have l:=U9 (Vb E z);clear N C E z b H J I M p;go_enter func269,ntmps269;go_wp2_with fail;refine O.o.mono ?_;rintro r R ⟨⟨u,rfl⟩,j,c⟩;have h:=c.blk l.o.1.drop.head (by show ¬(W.heap.size+1=W.heap.size+1+1);omega);have K:Ys W R:=l.o.2.trans ⟨c.os,c.tape,c.output,c.size,λk Q=>c.block k (Vq Q l.o.2.size) (by show ¬(k=W.heap.size+1+1);omega)⟩;have T:=dz j;have U:=fE h rfl ⟨i,s,d,a.k,a.n,a.t,a.a,a.r,a.f⟩;have P:=U9 (Vb (ax h (ao ⟨i,s,d,a.k,a.n,a.t,a.a,a.r,a.f⟩)) (Below.rowN K (g:=W.heap.size+1) (by omega) (ao ⟨i,s,d,a.k,a.n,a.t,a.a,a.r,a.f⟩)));clear O B j c h K l;go_wp2_with fail;exact aE (s:=4) results269 rfl P.o.1 underlying53 rfl (bY _) rfl ⟨rfl,P.o.2⟩
structure cJ.ok(y:cJ):Prop where
 k:U8 y.k
 n:xU y.n
 t:od y.t
 a:od y.a
 r:xU y.r
 f:xU y.f
theorem az.ok.knok{m:az}(a:m.ok):m.kn.ok:=λk b=>⟨(a.kn k b).1,by have:=(a.kn k b).2;omega⟩
theorem mM{m:az}(c:m.ok)(d:k<6){a:cJ}(b:a.ok):(dB m k a).ok:=
 ⟨⟨by show -9223372036854775808<=(k:Int)+1;omega,by show(k:Int)+1<=9223372036854775807;omega⟩,⟨by show 0<=m.kn.get k+1;have:=(c.kn k d).1;omega,by show m.kn.get k+1<=18446744073709551615;have:=(c.kn k d).2;omega⟩,c.knok,b.k,b.n,b.t,b.a,b.r,b.f⟩
theorem Bt{m:az}(a:m.ok)(b:k<6):jK m.kn ((k:Int)+1)=(m.kn.get k+1,0):=by
 have h:=a.kn k b;unfold jK;rw[Vh (by unfold lf;simp;omega)];have e:((k:Int)+1-1).toNat=k:=by omega
 rw[e,Vf (by omega)]
section
variable{w w':Yu}{L:LB}{m:az}
def uL(m:az)(k:Nat)(a:cJ):Yv:=.tuple #[.agg (ao (if(bE m (dB m k a)).1=0 then dB m k a else Ev.zero)),.int .i64 (bE m (dB m k a)).1]
theorem Pn(h:dD w L m)(hm:m.ok)(hT:dh w)(hk:k<6){a:cJ}(ha:a.ok):
  Yt 255 #[Yr L.b,.int .i64 ((k:Int)+1),.agg (cQ a)] w λr w'=>r=.returned (uL m k a)/\Ys w w':=by
 have D0:Ys w (((w.alloc (.cells #[.int .i64 ((k:Int)+1)] 3)).alloc (.cells (cQ a) 42)).alloc (.cells (ao Ev.zero) 53)):=(((Vd _ _).alloc (by simp<;>omega) _).alloc (by simp<;>omega) _).alloc (by simp<;>omega) _;have B0:aD (((w.alloc (.cells #[.int .i64 ((k:Int)+1)] 3)).alloc (.cells (cQ a) 42)).alloc (.cells (ao Ev.zero) 53)) [(w.heap.size+1+1,53,ao Ev.zero),(w.heap.size+1,42,cQ a),(w.heap.size,3,#[.int .i64 ((k:Int)+1)])]:=((aD.nil.push (g:=w.heap.size) rfl).push (g:=w.heap.size+1) (by simp)).push (g:=w.heap.size+1+1) (by simp);have CK:=U9 (tg (h.call D0));have c:=U9 (Vb h (Vb hm (Vb hT (Vb ha (Vb B0 D0)))));have η:=hm.kn k hk;clear h hm hT ha B0 D0;go_enter func255,ntmps255;go_wp2_with fail;refine CK.o.mono ?_;rintro r S ⟨rfl,z⟩;have D1:=c.o.2.2.2.2.2.trans (z.mono c.o.2.2.2.2.2.size);have V:=c.o.2.2.2.2.1.call z;have H1:=U9 (Vb V D1);have CN:=U9 (λX=>JN m.kn c.o.2.1.knok ((k:Int)+1) _ _ (Bt c.o.2.1 hk) X);obtain⟨q2,f2,q1,-,q0,-,-⟩:=V.rules;obtain⟨l2,l1,l0,-⟩:=V.lts;clear CK z V D1;go_wp2_with fail;refine(CN.o _).mono ?_;rintro r Y ⟨rfl,j⟩;have B2:aD (S.alloc (.cells (aq m.kn) 34)) ((S.heap.size,34,aq m.kn)::_):=H1.o.1.push rfl;have K:=B2.call j;have D2:Ys S (S.alloc (.cells (aq m.kn) 34)):=(Vd _ _).alloc (Vc _) _;have P:=H1.o.2.trans ((D2.trans (j.mono D2.size)).mono H1.o.2.size);have H3:=U9 (Vb K P);obtain⟨q3,f3,q2,f2,q1,-,q0,-,-⟩:=K.rules;obtain⟨l3,l2,l1,l0,-⟩:=K.lts;have D4:Ys Y (Y.alloc (.cells #[.int .u64 (m.kn.get k+1)] 32)):=(Vd _ _).alloc (Vc _) _;have D:aD (Y.alloc (.cells #[.int .u64 (m.kn.get k+1)] 32)) ((Y.heap.size,32,#[.int .u64 (m.kn.get k+1)])::_):=K.push rfl;have δ:=pQ (a:=a) D.drop.drop.drop.head;have CM:=U9 (Po a D.drop.drop.drop.drop.head D.head D.drop.head);have H4:=U9 (Vb D (P.trans (D4.mono P.size)));have β:=j.size;simp only[WA]at β;clear CN j B2 K D2 P D4 D;go_wp2_with fail;refine CM.o.mono ?_;rintro r C ⟨rfl,l⟩;rw[show(⟨(k:Int)+1,m.kn.get k+1,m.kn,a.k,a.n,a.t,a.a,a.r,a.f⟩:Ev)=dB m k a from rfl];have B5:=H4.o.1.call l;have Q:=H4.o.2.trans (l.mono H4.o.2.size);have B6:aD (C.alloc (.cells (ao Ev.zero) 53)) ((C.heap.size,53,ao Ev.zero)::_):=B5.push rfl;have H:=fE B6.head rfl (dB m k a);have ε:=l.size;simp only[WA]at ε;have I:=B5.lts;have B7:=B6.row (by obtain⟨l5,l4,l3,l2,l1,-⟩:=I;refine⟨?_,?_,?_,?_,?_,trivial⟩<;>omega) (ao (dB m k a));have U:Ys w ((C.alloc (.cells (ao Ev.zero) 53)).setRow C.heap.size (ao (dB m k a))):=Below.rowN (Q.trans (((Vd C.heap.size C).alloc (Vc _) _).mono Q.size)) (by have:=Q.size;omega) _;have M:=dz B7.head;have hE:=mM c.o.2.1 hk c.o.2.2.2.1;have R:=U9 (GN (c.o.1.call U) c.o.2.1 (c.o.2.2.1.call U c.o.2.2.1.lt.1 c.o.2.2.1.lt.2) (dB m k a) hE);have H7:=U9 (Vb B7 U);obtain⟨B,p⟩:∃B,(bE m (dB m k a)).1=B:=⟨_,rfl⟩;have HV:=U9 (show uL m k a=.tuple #[.agg (ao (if B=0 then dB m k a else Ev.zero)),.int .i64 B]from by unfold uL;rw[p]);rw[p]at R;generalize dB m k a=E at*;clear CM l B5 Q B6 B7 U δ I p hE;go_wp2_with fail;refine R.o.mono ?_;rintro r W4 ⟨rfl,d⟩;have Z:=H7.o.1.call d;have O:=H7.o.2.trans (d.mono H7.o.2.size);have ζ:=dz Z.head;have b2:=Z.drop.drop.drop.head;have J:=d.size;by_cases T:B=0
 ·subst T
  have γ:=fE b2 rfl E;have N:=U9 (Vb (ax b2 (ao E)) (Below.rowN O (g:=w.heap.size+1+1) (by omega) (ao E)));clear R H M d Z O b2 J;go_wp2_with fail;refine cP (s:=6) (u:=7) results255 rfl rfl N.o.1 underlying53 rfl (bY _) rfl ⟨?_,N.o.2⟩;rw[HV.o,Vh (by simp)]
  rfl
 ·have θ:(B !=0)=true:=by simpa using T
  have HZ:=U9 T;have γ:=fE b2 rfl Ev.zero;have N:=U9 (Vb (ax b2 (ao Ev.zero)) (Below.rowN O (g:=w.heap.size+1+1) (by omega) (ao Ev.zero)));clear R H M d Z O b2 J T;go_wp2_with fail;refine cP (s:=6) (u:=7) results255 rfl rfl N.o.1 underlying53 rfl (bY _) rfl ⟨?_,N.o.2⟩;rw[HV.o,Vf HZ.o]
  rfl
end
theorem Sz{a:cJ}(E:ai W c1 3 #[.int .i64 i])(D:ai W c2 42 (cQ a))(g:gF):
  Yt 267 #[.agg (eu g),Yr c1,Yr c2] W λr N=>r=.returned (.bool (lG i a g))/\Ys W N:=by
 have H:Ys W (W.alloc (.cells (eu g) 85)):=(Vd _ _).alloc (Vc _) _;have u:aD (W.alloc (.cells (eu g) 85)) [(W.heap.size,85,eu g),(c1,3,#[.int .i64 i]),(c2,42,cQ a)]:=(aD.cons E (aD.cons D aD.nil)).push rfl;obtain⟨P,-,Q,-,X,-,-⟩:=u.rules;obtain⟨R,T,U,-⟩:=u.lts;have z:=U9 H;obtain⟨f,d,l,j,c⟩:=g;obtain⟨J,M,p,K,s,I⟩:=a;have O:(eu ⟨f,d,l,j,c⟩)[0]? =some (.int .i64 f):=rfl;have S:(eu ⟨f,d,l,j,c⟩)[1]? =some (.int .u64 d):=rfl;have V:(eu ⟨f,d,l,j,c⟩)[4]? =some (.int .u64 c):=rfl;obtain⟨b1,C⟩:∃b,(f==i)=b:=⟨_,rfl⟩;obtain⟨b2,B⟩:∃b,(d==s)=b:=⟨_,rfl⟩;obtain⟨b3,h⟩:∃b,(c==s)=b:=⟨_,rfl⟩;have t:=U9 (show lG i ⟨J,M,p,K,s,I⟩ ⟨f,d,l,j,c⟩=(b1&&(b2||b3))from by
  rw[<-C,<-B,<-h];unfold lG;simp[BEq.beq])
 clear E D H u;go_enter func267,ntmps267;cases b1
 ·go_wp2_with fail
  go_ret;exact⟨by rw[t.o];rfl,z.o⟩
 cases b2
 ·go_wp2_with fail
  go_ret;exact⟨by rw[t.o];simp[h],z.o⟩
 ·go_wp2_with fail
  go_ret;exact⟨by rw[t.o];rfl,z.o⟩
theorem GM{G:List gF}(h:iH w base v G)(hn:G.length<=1000000){a:cJ}(S:ai w c1 3 #[.int .i64 i])(Q:ai w c2 42 (cQ a)):
  Yt 266 #[v,.func (.func 267) #[] #[Yr c1,Yr c2]] w λr w'=>r=.returned (.int .i64 (oq (lG i a) G))/\Ys w w':=by
 obtain⟨A,c,rfl,hc,hm⟩:=h.sl;have H:=U9 (Vb h (Vb S Q));clear h S Q;go_enter func266,ntmps266;go_wp2_with fail
 go_loopw [8] (λu wr=>∃k:Nat,k<=G.length/\u=.int .i64 k/\(∀x∈G.take k,lG i a x=false)/\Ys w wr) (λu _=>G.length-(intOf u).toNat)
 case atStart=>exact⟨0,by omega,rfl,by simp,Vd _ _⟩
 case round=>
  obtain⟨k,hk,rfl,l,s⟩:=hrel;have f:=U9 (Vb l s);clear l s;by_cases D:k<G.length
  ·obtain⟨y,M⟩:∃y,G[k]? =some y:=⟨G[k],Ve D⟩
   have d:=Row.call H.o.1 f.o.2;obtain⟨g,cap,N,p,J,Y,Z⟩:=d.sl_pos (by omega);rw[N]at d;have t:=d.rng eL M;obtain⟨rfl,I⟩:A=some ⟨g,0,none⟩/\c=cap:=by injection N with a b c;exact⟨a,c⟩
   have O:=aY (P:=prog) t underlying85 rfl (fQ y);have U:decide ((k:Int)<G.length)=true:=Vg (by omega);have k0:(0:Int)<=(k:Int):=by omega
   have kl:(k:Int)<G.length:=by omega
   obtain⟨b,E⟩:∃b,lG i a y=b:=⟨_,rfl⟩;have K:=U9 (λ(X:Yu) (R:Ys w X)=>Sz (H.o.2.1.call R) (H.o.2.2.call R) y);rw[E]at K;have C:=U9 (Vb M E);clear d t N p J I M E;go_wp2_with fail;refine(K.o _ f.o.2).mono ?_;rintro r w2 ⟨rfl,B⟩;have T:=U9 (f.o.2.trans (B.mono f.o.2.size));clear K B O;cases b with
   |true=>
    go_wp2_with fail;go_ret;refine⟨?_,T.o⟩;rw[zG C.o.1 C.o.2 λj hj z hz=>f.o.1 z (List.mem_take_iff_getElem.2 ⟨j,by have:=(Vx.1 hz).1;omega,(Vx.1 hz).2⟩)]
    rfl
   |false=>
    go_wp2_with fail;go_roundw
    case rel=>
     refine⟨k+1,by omega,by go_num,λz hz=>?_,T.o⟩;rw[VN,C.o.1]at hz;rcases Vw.1 hz with hz|hz
     ·exact f.o.1 z hz
     ·obtain rfl:z=y:=by simpa using hz
      exact C.o.2
    case measure=>simp[intOf];omega
  ·obtain rfl:k=G.length:=by omega
   have U:decide ((G.length:Int)<G.length)=false:=Vj (by omega);go_wp2_with fail;go_ret;refine⟨?_,f.o.2⟩;rw[zH λx V=>f.o.1 x (by rw[WN];exact V)]
   rfl
theorem ky{α:Type}{p:α->Bool}{L:List α}:(oq p L=-1->L.find? p=none)/\∀(k:Nat) (x:α),oq p L=k->L[k]? =some x->L.find? p=some x:=by
 unfold oq;cases h:L.findIdx? p with
 |none=>
  refine⟨λ_=>XB.2 λx c=>by simpa using X9.1 h x c,λk x a=>?_⟩;simp only at a;omega
 |some j=>
  obtain⟨b,f,d⟩:=Xl.1 h;refine⟨λa=>by simp only at a;omega,λk x a c=>?_⟩;have:j=k:=by simp only at a;omega
  subst this;have e:L[j]=x:=(Vx.1 c).2;subst e;rw[List.find?_eq_some_iff_getElem];exact⟨f,j,b,rfl,λi l=>by simpa using d i l⟩
theorem LL{inn:Nat->Bool}{kn:av}{vN:Yv}{G:List gF}(hN:∃A n c,vN=.slice A n c)(h:iH w base v G)(hn:G.length<=1000000)(i:Int)(a:cJ):
  Yt 254 #[.agg (cy inn kn vN v),.int .i64 i,.agg (cQ a)] w λr w'=>r=.returned (.tuple #[.bool (dg G i a).1,.int .i64 (dg G i a).2])/\Ys w w':=by
 have D0:Ys w (((w.alloc (.cells (cy inn kn vN v) 38)).alloc (.cells #[.int .i64 i] 3)).alloc (.cells (cQ a) 42)):=(((Vd _ _).alloc (by simp<;>omega) _).alloc (by simp<;>omega) _).alloc (by simp<;>omega) _;have B0:aD (((w.alloc (.cells (cy inn kn vN v) 38)).alloc (.cells #[.int .i64 i] 3)).alloc (.cells (cQ a) 42)) [(w.heap.size+1+1,42,cQ a),(w.heap.size+1,3,#[.int .i64 i]),(w.heap.size,38,cy inn kn vN v)]:=((aD.nil.push (g:=w.heap.size) rfl).push (g:=w.heap.size+1) (by simp)).push (g:=w.heap.size+1+1) (by simp);have R0:=Row.call h D0;have CI:=U9 (GM R0 hn B0.drop.head B0.head);obtain⟨q2,-,q1,-,q0,-,-⟩:=B0.rules;obtain⟨l2,l1,l0,-⟩:=B0.lts;have U:=U9 (Vb B0 (Vb D0 (Vb h hn)));obtain⟨A,c,rfl,hc,hm⟩:=h.sl;obtain⟨AN,nN,cN,rfl⟩:=hN;obtain⟨l,M,f,K,j,D⟩:=a;clear D0 B0 R0 h hn;go_enter func254,ntmps254;have HZ:=U9 (show(j=0\/(l≠3/\l≠4))->dg G i ⟨l,M,f,K,j,D⟩=(false,0)from λs=>by
  unfold dg;rw[Vh s])
 have J:=U9 (show ¬(j=0\/(l≠3/\l≠4))->dg G i ⟨l,M,f,K,j,D⟩=match G.find? (lG i ⟨l,M,f,K,j,D⟩)with|none=>(false,0)|some g=>if rq ⟨l,M,f,K,j,D⟩ g||nk ⟨l,M,f,K,j,D⟩ g then(true,0)else(true,14)from λs=>by
  unfold dg;rw[Vf s]
  rfl)
 have E:=U9 (show(j=0\/(l≠3/\l≠4))->∀(X:Yu),Ys w X->Ending.returned (.tuple #[.bool false,.int .i64 0])=.returned (.tuple #[.bool (dg G i ⟨l,M,f,K,j,D⟩).1,.int .i64 (dg G i ⟨l,M,f,K,j,D⟩).2])/\Ys w X from λs X hX=>by
  rw[HZ.o s];exact⟨rfl,hX⟩)
 obtain⟨n,β⟩:∃n,oq (lG i ⟨l,M,f,K,j,D⟩) G=n:=⟨_,rfl⟩;have T:=U9 β;rw[β]at CI;clear HZ β;by_cases s:j=0
 ·have HD:=U9 (E.o (.inl s))
  have η:(j==0)=true:=by simpa using s
  clear E J s CI T;go_wp2_with fail;go_ret2;exact HD.o _ U.o.2.1
 ·have η:(j==0)=false:=by simpa using s
  by_cases k3:l=3
  ·subst k3
   have HA:=U9 (J.o (by simp[s]));clear E J s;go_wp2_with fail;refine CI.o.mono ?_;rintro r p ⟨rfl,C⟩;have D1:=U.o.2.1.trans (C.mono U.o.2.1.size);have V:=U.o.1.call C;obtain⟨p2,-,p1,-,p0,-,-⟩:=V.rules;obtain⟨m2,m1,m0,-⟩:=V.lts;have u:=U9 (Vb V D1);clear CI C q2 q1 q0 l2 l1 l0 V;rcases pn (lG i ⟨3,M,f,K,j,D⟩) G with⟨H,-⟩|⟨k,x,H,Y,-⟩
   ·rw[H]at T
    obtain rfl:=T.o;go_wp2_with fail;go_ret2;exact⟨by rw[HA.o,ky.1 H];rfl,u.o.2⟩
   ·rw[H]at T
    obtain rfl:=T.o;have κ:k<G.length:=(Vx.1 Y).1;have d:=Row.call U.o.2.2.1 u.o.2;obtain⟨g,cap,z,R,δ,ξ,ι⟩:=d.sl_pos (by omega);rw[z]at d;have S:=d.rng eL Y;obtain⟨rfl,ε⟩:A=some ⟨g,0,none⟩/\c=cap:=by injection z with a b c;exact⟨a,c⟩
    have θ:=aY (P:=prog) S underlying85 rfl (fQ x);have k0:(0:Int)<=(k:Int):=by omega
    have kl:(k:Int)<G.length:=by omega
    have kn:decide ((k:Int)<0)=false:=Vj (by omega);have B3:ai (p.alloc (.cells #[.int .i64 0,.int .u64 0,.int .u64 0,.int .i64 0,.int .u64 0] 85)) p.heap.size 85 #[.int .i64 0,.int .u64 0,.int .u64 0,.int .i64 0,.int .u64 0]:=ai.new _ _ _;have μ:=bX (P:=prog) (ty:=85) B3 (fQ x) rfl (s9 x);have B4:aD ((p.alloc (.cells #[.int .i64 0,.int .u64 0,.int .u64 0,.int .i64 0,.int .u64 0] 85)).setRow p.heap.size (eu x)) ((p.heap.size,85,eu x)::_):=(u.o.1.push (t:=85) (cs:=#[.int .i64 0,.int .u64 0,.int .u64 0,.int .i64 0,.int .u64 0]) rfl).row (by refine⟨?_,?_,?_,trivial⟩<;>omega) (eu x);have D4:=U9 (Below.rowN ((u.o.2).trans (((Vd p.heap.size p).alloc (Vc _) (.cells #[.int .i64 0,.int .u64 0,.int .u64 0,.int .i64 0,.int .u64 0] 85)).mono u.o.2.size)) (g:=p.heap.size) u.o.2.size (eu x));obtain⟨r3,-,r2,-,r1,-,r0,-,-⟩:=B4.rules;obtain⟨s3,s2,s1,s0,-⟩:=B4.lts;have B:=HA.o;rw[ky.2 k x H Y]at B;obtain⟨Z,I,N,Q,O⟩:=x;have e1:(eu ⟨Z,I,N,Q,O⟩)[1]? =some (.int .u64 I):=rfl;have e2:(eu ⟨Z,I,N,Q,O⟩)[2]? =some (.int .u64 N):=rfl;have e3:(eu ⟨Z,I,N,Q,O⟩)[3]? =some (.int .i64 Q):=rfl;have e4:(eu ⟨Z,I,N,Q,O⟩)[4]? =some (.int .u64 O):=rfl;obtain⟨c1,ζ⟩:∃b,(I==j)=b:=⟨_,rfl⟩;obtain⟨c2,γ⟩:∃b,(N==M)=b:=⟨_,rfl⟩;obtain⟨c3,ν⟩:∃b,(Q==K)=b:=⟨_,rfl⟩;have HR:=U9 (show dg G i ⟨3,M,f,K,j,D⟩=if(c1&&(c2&&c3))=true then(true,0)else(true,14)from by
     rw[B,<-ζ,<-γ,<-ν];unfold rq nk;simp[BEq.beq])
    clear HA B3 B4 d S z R δ ε H Y u D1 B;cases c1
    ·go_wp2_with fail
     go_ret2;exact⟨by rw[HR.o];rfl,D4.o⟩
    cases c2
    ·go_wp2_with fail
     go_ret2;exact⟨by rw[HR.o];rfl,D4.o⟩
    cases c3
    ·go_wp2_with fail
     go_ret2;exact⟨by rw[HR.o];rfl,D4.o⟩
    ·go_wp2_with fail
     go_ret2;exact⟨by rw[HR.o];rfl,D4.o⟩
  ·by_cases k4:l=4
   ·subst k4
    have HA:=U9 (J.o (by simp[s]));clear E J s k3;go_wp2_with fail;refine CI.o.mono ?_;rintro r p ⟨rfl,C⟩;have D1:=U.o.2.1.trans (C.mono U.o.2.1.size);have V:=U.o.1.call C;obtain⟨p2,-,p1,-,p0,-,-⟩:=V.rules;obtain⟨m2,m1,m0,-⟩:=V.lts;have u:=U9 (Vb V D1);clear CI C q2 q1 q0 l2 l1 l0 V;rcases pn (lG i ⟨4,M,f,K,j,D⟩) G with⟨H,-⟩|⟨k,x,H,Y,-⟩
    ·rw[H]at T
     obtain rfl:=T.o;go_wp2_with fail;go_ret2;exact⟨by rw[HA.o,ky.1 H];rfl,u.o.2⟩
    ·rw[H]at T
     obtain rfl:=T.o;have κ:k<G.length:=(Vx.1 Y).1;have d:=Row.call U.o.2.2.1 u.o.2;obtain⟨g,cap,z,R,δ,ξ,ι⟩:=d.sl_pos (by omega);rw[z]at d;have S:=d.rng eL Y;obtain⟨rfl,ε⟩:A=some ⟨g,0,none⟩/\c=cap:=by injection z with a b c;exact⟨a,c⟩
     have θ:=aY (P:=prog) S underlying85 rfl (fQ x);have k0:(0:Int)<=(k:Int):=by omega
     have kl:(k:Int)<G.length:=by omega
     have kn:decide ((k:Int)<0)=false:=Vj (by omega);have B3:ai (p.alloc (.cells #[.int .i64 0,.int .u64 0,.int .u64 0,.int .i64 0,.int .u64 0] 85)) p.heap.size 85 #[.int .i64 0,.int .u64 0,.int .u64 0,.int .i64 0,.int .u64 0]:=ai.new _ _ _;have μ:=bX (P:=prog) (ty:=85) B3 (fQ x) rfl (s9 x);have B4:aD ((p.alloc (.cells #[.int .i64 0,.int .u64 0,.int .u64 0,.int .i64 0,.int .u64 0] 85)).setRow p.heap.size (eu x)) ((p.heap.size,85,eu x)::_):=(u.o.1.push (t:=85) (cs:=#[.int .i64 0,.int .u64 0,.int .u64 0,.int .i64 0,.int .u64 0]) rfl).row (by refine⟨?_,?_,?_,trivial⟩<;>omega) (eu x);have D4:=U9 (Below.rowN ((u.o.2).trans (((Vd p.heap.size p).alloc (Vc _) (.cells #[.int .i64 0,.int .u64 0,.int .u64 0,.int .i64 0,.int .u64 0] 85)).mono u.o.2.size)) (g:=p.heap.size) u.o.2.size (eu x));obtain⟨r3,-,r2,-,r1,-,r0,-,-⟩:=B4.rules;obtain⟨s3,s2,s1,s0,-⟩:=B4.lts;have B:=HA.o;rw[ky.2 k x H Y]at B;obtain⟨Z,I,N,Q,O⟩:=x;have e1:(eu ⟨Z,I,N,Q,O⟩)[1]? =some (.int .u64 I):=rfl;have e2:(eu ⟨Z,I,N,Q,O⟩)[2]? =some (.int .u64 N):=rfl;have e3:(eu ⟨Z,I,N,Q,O⟩)[3]? =some (.int .i64 Q):=rfl;have e4:(eu ⟨Z,I,N,Q,O⟩)[4]? =some (.int .u64 O):=rfl;obtain⟨c1,ζ⟩:∃b,(O==j)=b:=⟨_,rfl⟩;obtain⟨c2,γ⟩:∃b,(I==D)=b:=⟨_,rfl⟩;have HR:=U9 (show dg G i ⟨4,M,f,K,j,D⟩=if(c1&&c2)=true then(true,0)else(true,14)from by
      rw[B,<-ζ,<-γ];unfold rq nk;simp[BEq.beq])
     clear HA B3 B4 d S z R δ ε H Y u D1 B;cases c1
     ·go_wp2_with fail
      go_ret2;exact⟨by rw[HR.o];rfl,D4.o⟩
     cases c2
     ·go_wp2_with fail
      go_ret2;exact⟨by rw[HR.o];rfl,D4.o⟩
     ·go_wp2_with fail
      go_ret2;exact⟨by rw[HR.o];rfl,D4.o⟩
   ·have HD:=U9 (E.o (.inr ⟨k3,k4⟩))
    have h3:(l !=3)=true:=by simpa using k3
    have h4:(l !=4)=true:=by simpa using k4
    clear E J s CI T k3 k4;go_wp2_with fail;go_ret2;exact HD.o _ U.o.2.1
theorem yq{inn:Nat->Bool}{kn:av}{x y x' y':Yv}(h:Value.agg (cy inn kn x y)=.agg (cy inn kn x' y')):x=x'/\y=y':=by
 injection h with h;have b:=Vt (λa:Array Yv=>a[18]?) h;have c:=Vt (λa:Array Yv=>a[19]?) h;simp only[BQ,BP,Xf]at b c;exact⟨b,c⟩
section
variable{w w':Yu}{L:LB}{m:az}
def Fg(m:az)(X:Yu)(r:Yv)(X':Yu):Prop:=∃vN vG,r=.agg (cy m.inn m.kn vN vG)/\eM X' X.heap.size vN (aW m)/\iH X' X.heap.size vG (bh m)
theorem pV(m:az):(bh m).length=m.gr.length:=by unfold bh;rw[List.length_mergeSort,Wd]
def zN(p:Ev×Int×az):Yv:=.tuple #[.agg (ao p.1),.int .i64 p.2.1]
theorem Sy(h:dD w L m)(B:m.ok)(hT:dh w)(hN:fD m.kn<=900000)(hk:k<6){a:cJ}(ha:a.ok):
  Yt 233 #[Yr L.b,.int .i64 ((k:Int)+1),.agg (cQ a)] w λr w'=>r=.returned (zN (cH m k a))/\dD w' L (cH m k a).2.2/\ah L.mem w w':=by
 have D0:Ys w ((w.alloc (.cells (cQ a) 42)).alloc (.cells (ao Ev.zero) 53)):=((Vd _ _).alloc (by simp<;>omega) _).alloc (by simp<;>omega) _;have S:aD ((w.alloc (.cells (cQ a) 42)).alloc (.cells (ao Ev.zero) 53)) [(w.heap.size+1,53,ao Ev.zero),(w.heap.size,42,cQ a)]:=(aD.nil.push (g:=w.heap.size) rfl).push (g:=w.heap.size+1) (by simp);have HL:=h.lt;obtain⟨H,P⟩:∃H,H=(w.alloc (.cells (cQ a) 42)).alloc (.cells (ao Ev.zero) 53):=⟨_,rfl⟩;rw[<-P]at D0 S;have HW:=U9 P;have f:=U9 (Vb h (Vb B (Vb hT (Vb ha (Vb S (Vb D0 HL))))));have HF:=U9 (λ(X:Yu) (c:ah cM H X)=>Vb (S.call c.no).rules (Vb (S.call c.no).lts (pQ (S.call c.no).drop.head)));have CS:=U9 (λ(X:Yu) (c:ah cM H X)=>xD (h.call (D0.trans (c.no.mono D0.size))) B hN);have η:=B.gl;have HG:=U9 (show(bh m).length<=1000000 from by rw[pV];omega);clear h B hT ha S D0 P η HL hN;go_enter func233,ntmps233;go_wp2_with fail;generalize hg:(w.alloc _).alloc _=X0;obtain rfl:H=X0:=HW.o.trans hg;clear HW hg;refine ay [] cM 10 (λ_ h=>h.elim) (by kernel_rfl) (by kernel_rfl) ?_
 iterate 1
  first
  |refine eV HF.o rfl ?_
  |refine al (λ_=>rfl) ?_
  |refine bH rfl ?_
  simp only[UW,UX,UY,UZ]
 refine dM (λ_=>rfl) (Vm rfl) 35 (λ_=>#[Yr L.b]) (λp:Yv×Yv=>.agg (cy m.inn m.kn p.1 p.2)) (.nilFunc,.nilFunc) (Fg m) (λ_ w=>by simp[execOp,go_sem]<;>rfl) (λ_ X c=>?cs) ?_
 case cs=>
  refine(CS.o X c).mono ?_;rintro r X' ⟨vN,vG,rfl,h1,h2,h3⟩;exact⟨(vN,vG),rfl,⟨vN,vG,rfl,h1,h2⟩,h3⟩
 simp only[UW,UX,UY,UZ]
 iterate 2
  first
  |refine eV HF.o rfl ?_
  |refine al (λ_=>rfl) ?_
  |refine bH rfl ?_
  simp only[UW,UX,UY,UZ]
 refine vh (λ_=>rfl) (Vm rfl) 1 (by decide) (VZ rfl) 254 (λu=>#[.agg (cy m.inn m.kn u.2.1 u.2.2),.int .i64 ((k:Int)+1),.agg (cQ a)]) (.tuple #[.bool (dg (bh m) ((k:Int)+1) a).1,.int .i64 (dg (bh m) ((k:Int)+1) a).2]) (λ_ w=>by simp[execOp,go_sem]<;>rfl) (λu=>.agg (cy m.inn m.kn u.2.1 u.2.2)) _ (λ_=>by repeat (first|exact Vs ⟨rfl,rfl,rfl⟩|apply Vr)) (λu X c V=>?ca) ?_
 case ca=>
  simp only[U0,U1,U2,U3,Nat.reduceAdd,Vk]at V;obtain⟨w1,w2,-,g2,⟨vN,vG,hv,h1,h2⟩,g4⟩:∃w1 w2,(1=10->Ys H w1)/\ah cM H w1/\Fg m w1 (.agg (cy m.inn m.kn u.2.1 u.2.2)) w2/\cR [] (λk=>1≠10/\cM k) H.heap.size w2 X:=V;obtain⟨rfl,rfl⟩:=yq hv;have d:=g4.below λ_ h=>h.2
  obtain⟨A1,c1,e1,-,-⟩:=h1.sl;exact LL ⟨_,_,_,e1⟩ (Row.call h2 d) HG.o _ a
 simp only[UW,UX,UY,UZ]
 iterate 5
  first
  |refine eV HF.o rfl ?_
  |refine al (λ_=>rfl) ?_
  |refine bH rfl ?_
  simp only[UW,UX,UY,UZ]
 refine aK (by kernel_rfl) ?_;rintro⟨_,p⟩ W1 t-;have t:Ys H W1:=t;have K:=f.o.2.2.2.2.1.call t;have T:=f.o.2.2.2.2.2.1.trans (t.mono f.o.2.2.2.2.2.1.size);have L1:=f.o.1.call T;have T1:=f.o.2.2.1.call T f.o.2.2.1.lt.1 f.o.2.2.1.lt.2;have D:=U9 (Vb K (Vb T (Vb L1 T1)));have υ:=dz K.head;have φ:=fE K.head rfl Ev.zero;have ψ:=pQ K.drop.head;have κ:=U9 (Vb (ax K.head (ao Ev.zero)) (Vb (L1.call (Below.rowN (Vd _ _) (g:=W1.heap.size) (Vc _) (ao Ev.zero))) (Below.rowN T (g:=w.heap.size+1) (by omega) (ao Ev.zero))));have θ:=U9 (λg=>L1.fr (aM W1 (w.heap.size+1) (ao Ev.zero)) g);clear κ;have ζ:=U9 (Vb (ax K.head (ao Ev.zero)) (Below.rowN T (g:=w.heap.size+1) (by omega) (ao Ev.zero)));have nL:¬L.mem (w.heap.size+1):=λB=>by have:=f.o.2.2.2.2.2.2 _ B;omega
 have HN:=U9 nL;have CM:=U9 (Pn L1 f.o.2.1 T1 hk f.o.2.2.2.1);have HQ:=U9 (show cH m k a=if(dg (bh m) ((k:Int)+1) a).1 then(Ev.zero,(dg (bh m) ((k:Int)+1) a).2,m)else if(bE m (dB m k a)).1=0 then(dB m k a,0,(cz m (dB m k a)).2)else(Ev.zero,(bE m (dB m k a)).1,m)from rfl);generalize dg (bh m) ((k:Int)+1) a=ag at HQ⊢;obtain⟨g1,g2⟩:=ag;clear t HF CS HG K T L1 T1 nL;cases g1 with
 |true=>
  go_wp2_with fail;refine cP (s:=6) (u:=7) results233 rfl rfl ζ.o.1 underlying53 rfl (bY _) rfl ?_;have I:=HQ.o;rw[Vh (by simp)]at I;rw[I];exact⟨rfl,θ.o HN.o,ah.of_below ζ.o.2⟩
 |false=>
  go_wp2_with fail;refine CM.o.mono ?_;rintro r l ⟨rfl,d⟩;obtain⟨z,O⟩:∃z,(bE m (dB m k a)).1=z:=⟨_,rfl⟩;have ε:=U9 (show cH m k a=if z=0 then(dB m k a,0,(cz m (dB m k a)).2)else(Ev.zero,z,m)from by
   rw[HQ.o,Vf (by simp),O])
  have ξ:=U9 (show z=0->(cz m (dB m k a)).1=0 from λR=>by
   unfold cz;rw[Vh (by rw[O,R])])
  rw[show uL m k a=.tuple #[.agg (ao (if z=0 then dB m k a else Ev.zero)),.int .i64 z]from by unfold uL;rw[O]];have hE:=mM f.o.2.1 hk f.o.2.2.2.1;generalize dB m k a=E at*;obtain⟨X,hX⟩:∃X,(if z=0 then E else Ev.zero)=X:=⟨_,rfl⟩;rw[hX];have ν:=U9 hX;have B2:=D.o.1.call d;have D2:=D.o.2.1.trans (d.mono D.o.2.1.size);have B3:aD (l.alloc (.cells (ao Ev.zero) 53)) ((l.heap.size,53,ao Ev.zero)::_):=B2.push rfl;have σ:=fE B3.head rfl X;have l2:=B2.lts;have C:=B3.row (by obtain⟨l2,l1,-⟩:=l2;refine⟨?_,?_,trivial⟩<;>omega) (ao X);have S4:Ys l ((l.alloc (.cells (ao Ev.zero) 53)).setRow l.heap.size (ao X)):=Below.rowN ((Vd l.heap.size l).alloc (Vc _) _) (Vc _) _;have S1:=d.trans (S4.mono d.size);have J:=D.o.2.2.1.call S1;have Q:=D.o.2.2.2.call S1 D.o.2.2.2.lt.1 D.o.2.2.2.lt.2;have D4:=D.o.2.1.trans (S1.mono D.o.2.1.size);obtain⟨N,j⟩:∃N,N=(l.alloc (.cells (ao Ev.zero) 53)).setRow l.heap.size (ao X):=⟨_,rfl⟩;rw[<-j]at C J Q D4;have M:=U9 j;have H4:=U9 (Vb C (Vb J (Vb Q D4)));have χ:=D2.size;by_cases R:z=0
  ·subst R
   obtain rfl:E=X:=by simpa using ν.o
   have Z:gJ L.mem [(l.heap.size,53,ao E),(w.heap.size+1,53,ao Ev.zero),(w.heap.size,42,cQ a)]:=⟨λB=>by have:=f.o.2.2.2.2.2.2 _ B;omega,HN.o,λB=>by have:=f.o.2.2.2.2.2.2 _ B;omega,trivial⟩;have π:=U9 Z;have γ:=U9 (λ(Y:Yu) (c:ah L.mem N Y)=>Vb (C.mod c Z).rules (Vb (C.mod c Z).lts (dz (C.mod c Z).head)));have CA:=U9 (λ(Y:Yu) (c:Ys N Y)=>DJ (J.call c) f.o.2.1 (Q.call c Q.lt.1 Q.lt.2) E hE);have μ:=J.lt;clear B2 D2 B3 l2 C S4 S1 J Q D4 j d CM Z hX hE;go_wp2_with fail;generalize hg:(l.alloc _).setRow _ _=X4;obtain rfl:N=X4:=M.o.trans hg;clear M hg;refine eO 4 [] L.mem 3 μ (by kernel_rfl) (by simp) (by decide+kernel) (by kernel_rfl) (by decide+kernel) (by kernel_rfl) ?_;simp only[U4,U5,U6,U7]
   iterate 3
    first
    |refine eV γ.o rfl ?_
    |refine al (λ_=>rfl) ?_
    |refine bH rfl ?_
    simp only[UW,UX,UY,UZ]
   refine bP (λ_=>rfl) rfl 73 (λ_=>#[Yr L.b,.agg (ao E)]) (λ_:Unit=>.int .i64 (cz m E).1) () (λY r Y'=>dD Y' L (cz m E).2) (λ_ w=>by simp[execOp,go_sem]<;>rfl) (λ_ Y c=>?ca2) ?_
   case ca2=>
    refine(CA.o Y c).mono ?_;rintro r Y' ⟨rfl,h1,h2⟩;exact⟨(),rfl,h1,h2⟩
   simp only[UW,UX,UY,UZ];refine aK (by kernel_rfl) ?_;rintro⟨_,p⟩ W5 hC V;simp only[U0,U1,U2,U3,Nat.reduceAdd,Vk]at V;have hC:ah L.mem N W5:=hC;obtain⟨w1,w2,-,-,g3,g4⟩:=bJ (V 3 _ _ (by repeat (first|exact Vs ⟨rfl,rfl,rfl⟩|apply Vr))) rfl;have L5:=g3.call (g4.below λ_ h=>h.1 rfl);have B5:=H4.o.1.mod hC π.o;have M5:ah L.mem w W5:=(ah.of_below H4.o.2.2.2).trans hC;have τ:=fE B5.drop.head rfl E;have U:=U9 (Vb (ax B5.drop.head (ao E)) (Vb (L5.fr (aM W5 (w.heap.size+1) (ao E)) HN.o) (M5.trans' (ah.of_fr1 (F:=cj (w.heap.size+1)) (aM W5 (w.heap.size+1) (ao E)) rfl) λk hk he=>by have he:k=w.heap.size+1:=he;omega)));clear hC V g3 g4 L5 B5 M5 γ;go_wp2_with fail;refine cP (s:=6) (u:=7) results233 rfl rfl U.o.1 underlying53 rfl (bY _) rfl ?_;have I:=ε.o;rw[Vh (by simp)]at I;rw[I];refine⟨?_,U.o.2⟩;show Ending.returned (.tuple #[.agg (ao E),.int .i64 (cz m E).1])=_;rw[ξ.o (by simp)]
   rfl
  ·have ω:(z !=0)=true:=by simpa using R
   have β:=dz C.drop.head;have δ:=fE C.drop.head rfl Ev.zero;have U:=U9 (Vb (ax C.drop.head (ao Ev.zero)) (Vb (J.fr (aM N (w.heap.size+1) (ao Ev.zero)) HN.o) (Below.rowN D4 (g:=w.heap.size+1) (by omega) (ao Ev.zero))));have I:=ε.o;rw[Vf R]at I;have ι:=U9 I;rw[j]at β δ;clear B2 D2 B3 l2 C S4 S1 J Q D4 j d CM hX hE R I;go_wp2_with fail;rw[<-M.o];refine cP (s:=6) (u:=7) results233 rfl rfl U.o.1 underlying53 rfl (bY _) rfl ?_;rw[ι.o];exact⟨rfl,U.o.2.1,ah.of_below U.o.2.2⟩
end
end
