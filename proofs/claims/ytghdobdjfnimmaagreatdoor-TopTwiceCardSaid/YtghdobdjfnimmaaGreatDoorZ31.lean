import Derived.Test.YtghdobdjfnimmaaGreatDoorZ30
set_option maxRecDepth 100000
set_option maxHeartbeats 0
set_option linter.all false
namespace Go.Proofs.YtghdobdjfnimmaaGreatDoor
open Go.Proofs.Tryz
variable{cs:Array Yv}{g:Nat}{t:Yw}
section
open Go.RowKit
structure Mx(b:Nat)(w:Yu)(x:Mc)(m:Ms):Prop where
 eq:x=⟨m.k,m.f,m.t,m.d,x.s,m.n,m.a⟩
 own:w.ownsRow b 53 14 x.s m.l.length (dH m.l)
 ok:m.ok
theorem Mx.sl{b:Nat}{w:Yu}{x:Mc}{m:Ms}(h:Mx b w x m):x.sl:=by
 obtain⟨A,c,e,-⟩:=aF h.own;exact⟨A,_,c,e⟩
structure dK(w0 w:Yu)(bs:List (Nat×Yw×Array Yv))(h:Nat)(s:Yv)(X:List Mc)(L:List Ms)(C:Nat->Bool):Prop where
 T:bF w0 w ((h,120,dP s C)::bs)
 hB:w0.heap.size<=h
 nes:mS h bs
 nds:Uz bs
 far:∀g t cs,(g,t,cs)∈bs->s.ownBlock≠some g
 own:w.ownsRow w0.heap.size 297 12 s X.length (aS X)
 evs:gw (Mx w0.heap.size w) X L
section
variable{w0 w w':Yu}{bs:List (Nat×Yw×Array Yv)}{h:Nat}{s:Yv}{X:List Mc}{L:List Ms}{C:Nat->Bool}
theorem dK.blk(N:dK w0 w bs h s X L C):ai w h 120 (dP s C):=N.T.blk _ _ _ Vp
theorem dK.sl(N:dK w0 w bs h s X L C):∀x∈X,x.sl:=λx b=>by
 obtain⟨m,_,a⟩:=N.evs.left b;exact a.sl
theorem dK.s_ne(N:dK w0 w bs h s X L C):s.ownBlock≠some h:=fJ N.own N.blk (by decide)
theorem dK.s_ge(N:dK w0 w bs h s X L C):∀k,s.ownBlock=some k->w0.heap.size<=k:=λk a=>(N.own.lt k a).1
theorem dK.ev_ne(N:dK w0 w bs h s X L C){b:Nat}{v:Yv}{n:Nat}{xs:List Yv}(o:w.ownsRow b 53 14 v n xs):v.ownBlock≠some h/\(v.ownBlock=none\/v.ownBlock≠s.ownBlock):=
 ⟨fJ o N.blk (by decide),zQ o N.own (by decide)⟩
theorem dK.trk(N:dK w0 w bs h s X L C)(f:Fr w w' h s.ownBlock)(b:ai w' h 120 cs):bF w0 w' ((h,120,cs)::bs):=
 ⟨f.below N.T.below N.hB N.s_ge,λg t a hm=>by
  rcases Vy.1 hm with e|hm
  ·cases e;exact b
  ·exact f.blk (N.T.blk _ _ _ (VA _ hm)) (N.nes.o _ _ _ hm) (λe=>N.far _ _ _ hm e.symm)⟩
theorem dK.evs'(N:dK w0 w bs h s X L C)(f:Fr w w' h s.ownBlock):gw (Mx w0.heap.size w') X L:=
 N.evs.imp λ_ _ _ _ a=>⟨a.eq,f.own a.own (N.ev_ne a.own).1 (N.ev_ne a.own).2,a.ok⟩
theorem dK.move(N:dK w0 w bs h s X L C)(f:Fr w w' h s.ownBlock){s':Yv}{i:Nat->Bool}{X':List Mc}{L':List Ms}(b:ai w' h 120 (dP s' i))(c:w'.ownsRow w0.heap.size 297 12 s' X'.length (aS X'))
  (hs:s'.ownBlock=s.ownBlock\/∀k,s'.ownBlock=some k->w.heap.size<=k) (a:gw (Mx w0.heap.size w') X' L'):dK w0 w' bs h s' X' L' i:=by
 refine⟨N.trk f b,N.hB,N.nes,N.nds,λg t cs d=>?_,c,a⟩;rcases hs with hs|hs
 ·rw[hs];exact N.far _ _ _ d
 ·intro e
  have l:=hs _ e;have j:=(N.T.blk _ _ _ (VA _ d)).lt;omega
theorem dK.turn(N:dK w0 w bs h s X L C)(f:Fr w w' h none){a:Nat->Bool}(b:ai w' h 120 (dP s a)):dK w0 w' bs h s X L a:=
 N.move f.weak b (f.own N.own N.s_ne (by cases s.ownBlock<;>simp)) (.inl rfl) (N.evs' f.weak)
theorem dK.call(N:dK w0 w bs h s X L C)(b:Ys w w'):dK w0 w' bs h s X L C:=
 ⟨N.T.call b,N.hB,N.nes,N.nds,N.far,dE N.own b,N.evs.imp λ_ _ _ _ a=>⟨a.eq,dE a.own b,a.ok⟩⟩
theorem dK.push(N:dK w0 w bs h s X L C)(f:w.heap.size=g):dK w0 (w.alloc (.cells cs t)) ((g,t,cs)::bs) h s X L C:=by
 have b:=N.call (w':=w.alloc (.cells cs t)) ((Vd _ _).alloc (Vc _) _);have d:=N.T.lt;refine⟨(N.T.push (t:=t) (cs:=cs) f).perm (by intro x hx;simp at hx⊢;rcases hx with hx|hx|hx<;>simp[hx]),N.hB,⟨by omega,N.nes⟩,⟨mS.of λc t' a hm=>by have:=(N.T.blk c t' a (VA _ hm)).lt;omega,N.nds⟩,λc t' a hm=>?_,b.own,b.evs⟩;rcases Vy.1 hm with e|hm
 ·cases e
  intro i;have:=(N.own.lt _ i).2;omega
 ·exact N.far _ _ _ hm
theorem dK.drew(N:dK w0 w bs h s X L C):dK w0 w.drew bs h s X L C:=N.call (Vd _ _).drew
theorem dK.drop(N:dK w0 w ((g,t,cs)::bs) h s X L C):dK w0 w bs h s X L C:=
 ⟨N.T.perm (by intro x hx;simp at hx⊢;rcases hx with hx|hx<;>simp[hx]),N.hB,N.nes.2,N.nds.2,λb t' a c=>N.far b t' a (VA _ c),N.own,N.evs⟩
theorem dK.swap{a b:Nat×Yw×Array Yv}(N:dK w0 w (a::b::bs) h s X L C):dK w0 w (b::a::bs) h s X L C:=by
 obtain⟨i,k,m⟩:=a;obtain⟨l,f,j⟩:=b;refine⟨N.T.perm (by intro x hx;simp at hx⊢;rcases hx with hx|hx|hx|hx<;>simp[hx]),N.hB,⟨N.nes.2.1,N.nes.1,N.nes.2.2⟩,⟨⟨λe=>N.nds.1.1 e.symm,N.nds.2.1⟩,N.nds.1.2,N.nds.2.2⟩,λd t' c hm=>N.far d t' c ?_,N.own,N.evs⟩;simp at hm⊢;rcases hm with hm|hm|hm<;>simp[hm]
theorem dK.bmove{a:Array Yv}(N:dK w0 w ((g,t,cs)::bs) h s X L C)(p:w0.heap.size<=g)(m:53≠t)(f:Fr w w' g none)(b:ai w' g t a):dK w0 w' ((g,t,a)::bs) h s X L C:=by
 have d:=N.T.blk g t cs (by simp);have c:∀{v:Yv} {n:Nat} {xs:List Yv} {e:Yw} {size:Nat},v.ownBlock≠some g->w.ownsRow w0.heap.size e size v n xs->w'.ownsRow w0.heap.size e size v n xs:=λ{v} _ _ _ _ h1 o=>f.own o h1 (by cases v.ownBlock<;>simp)
 refine⟨⟨f.below N.T.below p (λk l=>by cases l),λj t' i hm=>?_⟩,N.hB,N.nes,N.nds,λj t' i hm=>?_,c (N.far g t cs (by simp)) N.own,N.evs.imp λ_ _ _ _ hm=>⟨hm.eq,c (fJ hm.own d m) hm.own,hm.ok⟩⟩
 ·rcases Vy.1 hm with e|hm
  ·cases e;exact f.blk N.blk (λe=>N.nes.1 e.symm) (by simp)
  ·rcases Vy.1 hm with e|hm
   ·cases e;exact b
   ·exact f.blk (N.T.blk j t' i (by simp[hm])) (N.nds.1.o _ _ _ hm) (by simp)
 ·rcases Vy.1 hm with e|hm
  ·cases e;exact N.far g t cs (by simp)
  ·exact N.far j t' i (by simp[hm])
end
end
