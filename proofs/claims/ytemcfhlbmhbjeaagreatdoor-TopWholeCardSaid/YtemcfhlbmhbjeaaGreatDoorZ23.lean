import Derived.Test.YtemcfhlbmhbjeaaGreatDoorZ19
set_option maxRecDepth 100000
set_option maxHeartbeats 0
set_option linter.all false
namespace Go.Proofs.YtemcfhlbmhbjeaaGreatDoor
open Go.Proofs.Tryz
variable{cs:Array H}{g:Nat}{t:ay}
open Go Go.RowKit
def aai(k:Int)(w:D):
  Calls prog 243 #[Z k] w λe a=>e=.returned (.bool (cY k))/\w=a:=by
 go_wp2
 all_goals go_ret
 all_goals (refine⟨?_,O⟩;simp[cY];omega)
def sV(k:Int)(b:Bool)(h:cY k=b)(w:D):
  Calls prog 243 #[Z k] w λe a=>e=.returned (.bool b)/\w=a:=by
 subst h;exact aai k w
def w8(h:Nat)(A:Option Addr)(n cap:Nat)(C:Nat->Bool)(k:Int)(b:Bool)(a:decide (0<=k/\k<(n:Int))=b)(w:D)(i:M w h 149 (dZ (.slice A n cap) C)):
  Calls prog 239 #[N h,Z k] w λe j=>e=.returned (.bool b)/\w=j:=by
 obtain⟨c,-⟩:=i.rules;have l:w.cell? (I h 0)=some (.slice A n cap):=by rw[c];rfl
 clear c i;by_cases f:0<=k
 ·by_cases d:k<(n:Int)
  ·obtain rfl:true=b:=by rw[<-a];simp[f,d]
   clear a;go_wp2;go_ret;exact⟨O,O⟩
  obtain rfl:false=b:=by rw[<-a];simp[d]
  clear a;go_wp2;go_ret;exact⟨O,O⟩
 obtain rfl:false=b:=by rw[<-a];simp[f]
 clear a;go_wp2;go_ret;exact⟨O,O⟩
def Ya(w:D):Calls prog 44 #[] w λe a=>e=.returned (N w.heap.size)/\a=w.alloc (.cells (dZ (.slice none 0 0) λ_=>false) 149):=by go_wp2;go_ret;exact⟨O,O⟩
def Jq(A:Option Addr)(l c:Nat)(w:D):(binOp .eql 175 (.slice A l c) (.slice none 0 0)).run prog w=.ok (.bool A.isNone) w:=by simp only[binOp];simp[run_equal_slice_nil w 175 64 A l c underlying175]
def QF(A:Option Addr)(c:Nat)(L:List z)(w:D)(i:jy w w.heap.size A L)(p:L.length<=100000):
  Calls prog 260 #[.slice A L.length c] w λe j=>∃u,e=.returned u/\j.ownsRow w.heap.size 64 14 u L.length (i8 L)/\S w j:=by
 cases A with
 |none=>
  have k:L=[]:=by
   cases L with
   |nil=>rfl
   |cons e L=>obtain⟨b,o,h,_⟩:=i.2 ah;cases h
  subst k;clear i;have d:=Jq none 0 c;simp only[Option.isNone_none]at d;go_wp2;go_ret;exact⟨_,O,sK _ _ _ _,aq _ _⟩
 |some a=>replace i:=U i;have d:=Jq (some a) L.length c;simp only[Option.isNone_some]at d;go_in;go_wp2_with (at_builtin;refine ME _ O (.tmp 5) (.tmp 6) O w.heap.size _ [] L O ?h1 (some a) c w.heap.size O ?h2 ?h3 ?h4 ?_;(case h1=>exact t6 w #[] 0 (ao _) ai O);(case h2=>exact i.o.below ((aq _ _).alloc (ao _) _));(case h3=>simp;omega);(case h4=>simp);intro n j f m);go_ret;rw[ju]at f;exact⟨_,O,f,((aq _ _).alloc (ao _) _).trans m⟩
def Z2{fn:Func}{s:Nat}(h:fn.results=#[.cell s 331])(tmps:Array H)(g:Nat)(x:aN)(w:D)(c:tmps.getD s undef=.pointer (some (I g 0)))(d:M w g 331 (aE x)):(results fn tmps).run prog w=.ok (.agg (aE x)) w:=by
 obtain⟨b,-⟩:=d.rules;have a:tmps[s]?.getD undef=.pointer (some (I g 0)):=by rw[<-c];simp
 simp[results,h,a,go_sem,b]
def Hr(m:bL)(A:Option Addr)(c:Nat)(w:D)(L:jy w w.heap.size A m.l)(X:m.l.length<=100000):
  Calls prog 238 #[.agg (aE ⟨m.k,m.f,m.t,m.d,.slice A m.l.length c,m.n,m.a⟩)] w λe C=>∃u,e=.returned (.agg (aE ⟨m.k,m.f,m.t,m.d,u,m.n,m.a⟩))/\C.ownsRow w.heap.size 64 14 u m.l.length (i8 m.l)/\S w C:=by
 have T:=U λ(W:D) (G:S w W)=>QF A c m.l W ((L.below G).mono G.size) X;clear L;go_in;go_wp2_with fail;have y:aI w _ [(w.heap.size+1,331,aE aN.zero),(w.heap.size,331,aE ⟨m.k,m.f,m.t,m.d,.slice A m.l.length c,m.n,m.a⟩)]:=((aI.nil w).push (t:=331) (cs:=aE ⟨m.k,m.f,m.t,m.d,.slice A m.l.length c,m.n,m.a⟩) O).push (t:=331) (cs:=aE aN.zero) (g:=w.heap.size+1) ah;have P:w.heap.size+2<=((w.alloc (.cells (aE ⟨m.k,m.f,m.t,m.d,.slice A m.l.length c,m.n,m.a⟩) 331)).alloc (.cells (aE aN.zero) 331)).heap.size:=ah;apply(T.o _ y.below).mono;rintro r w2 ⟨u,rfl,i,E⟩;obtain⟨x,j,rfl,-,-,-⟩:=dS i;have b:=kB i P;have h:=y.call E;clear y E i P;obtain⟨K,J,B,F,-⟩:=h.rules;obtain⟨R,Q,-⟩:=h.lts;go_upto_region 2 with fail;replace h:=(h.perm (cs:=[(w.heap.size,331,aE ⟨m.k,m.f,m.t,m.d,.slice A m.l.length c,m.n,m.a⟩),(w.heap.size+1,331,aE aN.zero)]) ah).set_ (Nat.le_refl _) ⟨V,trivial⟩ 9 (.slice x m.l.length j);rw[Lr]at h;dsimp only at h;replace b:=wD (p:=(I w.heap.size 9)) b (bU (w.heap.size<w.heap.size+2)) (.slice x m.l.length j);generalize (World.setCell _ _ _)=w3 at h b⊢;clear B K F J Q R;obtain⟨B,F,K,J,-⟩:=h.rules;obtain⟨Q,R,-⟩:=h.lts;go_wp2_with fail;replace h:=(h.perm (cs:=[(w.heap.size+1,331,aE aN.zero),(w.heap.size,331,aE ⟨m.k,m.f,m.t,m.d,.slice x m.l.length j,m.n,m.a⟩)]) ah).setMc (Nat.le_succ _) ⟨V,trivial⟩ ⟨m.k,m.f,m.t,m.d,.slice x m.l.length j,m.n,m.a⟩;refine bodyPost_ret (v:=.agg (aE ⟨m.k,m.f,m.t,m.d,.slice x m.l.length j,m.n,m.a⟩)) (Z2 (s:=2) Y _ (w.heap.size+1) _ _ O (h.blk _ _ _ List.mem_cons_self)) O ⟨_,O,?_,h.below⟩;refine kB ?_ (bU (w.heap.size<=w.heap.size+2))
 repeat refine wD ?_ (bU (w.heap.size+1<w.heap.size+2)) _
 exact b
structure vp(b:Nat)(w:D)(x:aN)(m:bL):Prop where
 eq:x=⟨m.k,m.f,m.t,m.d,x.s,m.n,m.a⟩
 own:w.ownsRow b 64 14 x.s m.l.length (i8 m.l)
 ok:m.ok
def vp.sl{b:Nat}{w:D}{x:aN}{m:bL}(h:vp b w x m):x.sl:=by obtain⟨A,c,e,-⟩:=dS h.own;exact⟨A,_,c,e⟩
structure bK(w0 w:D)(bs:List (Nat×ay×Array H))(h:Nat)(s:H)(X:List aN)(L:List bL)(C:Nat->Bool):Prop where
 T:aI w0 w ((h,149,dZ s C)::bs)
 hB:w0.heap.size<=h
 nes:gv h bs
 nds:GR bs
 far:∀g t cs,(g,t,cs)∈bs->s.ownBlock≠some g
 own:w.ownsRow w0.heap.size 331 12 s X.length (dw X)
 evs:ii (vp w0.heap.size w) X L
section
variable{w0 w w':D}{bs:List (Nat×ay×Array H)}{h:Nat}{s:H}{X:List aN}{L:List bL}{C:Nat->Bool}
def bK.blk(a:bK w0 w bs h s X L C):M w h 149 (dZ s C):=a.T.blk _ _ _ cz
def bK.sl(a:bK w0 w bs h s X L C):∀x∈X,x.sl:=λx c=>by obtain⟨m,_,b⟩:=a.evs.left c;exact b.sl
def bK.s_ne(a:bK w0 w bs h s X L C):s.ownBlock≠some h:=un a.own a.blk ai
def bK.s_ge(a:bK w0 w bs h s X L C):∀k,s.ownBlock=some k->w0.heap.size<=k:=λk b=>(a.own.lt k b).1
def bK.ev_ne(a:bK w0 w bs h s X L C){b:Nat}{v:H}{n:Nat}{xs:List H}(o:w.ownsRow b 64 14 v n xs):v.ownBlock≠some h/\(v.ownBlock=none\/v.ownBlock≠s.ownBlock):=
 ⟨un o a.blk ai,Nb o a.own ai⟩
def bK.trk(a:bK w0 w bs h s X L C)(f:aH w w' h s.ownBlock)(b:M w' h 149 cs):aI w0 w' ((h,149,cs)::bs):=
 ⟨f.below a.T.below a.hB a.s_ge,λg t c hm=>by rcases dh.1 hm with e|hm;cases e;exact b;exact f.blk (a.T.blk _ _ _ (dC _ hm)) (a.nes.o _ _ _ hm) (λe=>a.far _ _ _ hm e.symm)⟩
def bK.evs'(a:bK w0 w bs h s X L C)(f:aH w w' h s.ownBlock):ii (vp w0.heap.size w') X L:=
 a.evs.imp λ_ _ _ _ b=>⟨b.eq,f.own b.own (a.ev_ne b.own).1 (a.ev_ne b.own).2,b.ok⟩
def bK.move(a:bK w0 w bs h s X L C)(f:aH w w' h s.ownBlock){s':H}{j:Nat->Bool}{X':List aN}{L':List bL}(b:M w' h 149 (dZ s' j))(d:w'.ownsRow w0.heap.size 331 12 s' X'.length (dw X'))
  (hs:s'.ownBlock=s.ownBlock\/∀k,s'.ownBlock=some k->w.heap.size<=k) (c:ii (vp w0.heap.size w') X' L'):bK w0 w' bs h s' X' L' j:=by
 refine⟨a.trk f b,a.hB,a.nes,a.nds,λg t cs i=>?_,d,c⟩;rcases hs with hs|hs;rw[hs];exact a.far _ _ _ i;intro e;have m:=hs _ e;have l:=(a.T.blk _ _ _ (dC _ i)).lt;omega
def bK.turn(a:bK w0 w bs h s X L C)(f:aH w w' h none){c:Nat->Bool}(b:M w' h 149 (dZ s c)):bK w0 w' bs h s X L c:=
 a.move f.weak b (f.own a.own a.s_ne (by cases s.ownBlock<;>simp)) (.inl O) (a.evs' f.weak)
def bK.call(a:bK w0 w bs h s X L C)(c:S w w'):bK w0 w' bs h s X L C:=
 ⟨a.T.call c,a.hB,a.nes,a.nds,a.far,sR a.own c,a.evs.imp λ_ _ _ _ b=>⟨b.eq,sR b.own c,b.ok⟩⟩
def bK.push(a:bK w0 w bs h s X L C)(j:w.heap.size=g):bK w0 (w.alloc (.cells cs t)) ((g,t,cs)::bs) h s X L C:=by have c:=a.call (w':=w.alloc (.cells cs t)) ((aq _ _).alloc (ao _) _);have i:=a.T.lt;refine⟨(a.T.push (t:=t) (cs:=cs) j).perm (by intro x hx;simp at hx⊢;rcases hx with hx|hx|hx<;>simp[hx]),a.hB,⟨V,a.nes⟩,⟨gv.of λf d b hm=>aA ((a.T.blk f d b (dC _ hm)).lt),a.nds⟩,λf d b hm=>?_,c.own,c.evs⟩;rcases dh.1 hm with e|hm;cases e;intro k;have:=(a.own.lt _ k).2;omega;exact a.far _ _ _ hm
def bK.drew(a:bK w0 w bs h s X L C):bK w0 w.drew bs h s X L C:=a.call (aq _ _).drew
def bK.drop(a:bK w0 w ((g,t,cs)::bs) h s X L C):bK w0 w bs h s X L C:=
 ⟨a.T.perm (by intro x hx;simp at hx⊢;rcases hx with hx|hx<;>simp[hx]),a.hB,a.nes.2,a.nds.2,λe d b c=>a.far e d b (dC _ c),a.own,a.evs⟩
def bK.swap{a b:Nat×ay×Array H}(c:bK w0 w (a::b::bs) h s X L C):bK w0 w (b::a::bs) h s X L C:=by obtain⟨k,m,o⟩:=a;obtain⟨n,j,l⟩:=b;refine⟨c.T.perm (by intro x hx;simp at hx⊢;rcases hx with hx|hx|hx|hx<;>simp[hx]),c.hB,⟨c.nes.2.1,c.nes.1,c.nes.2.2⟩,⟨⟨λe=>c.nds.1.1 e.symm,c.nds.2.1⟩,c.nds.1.2,c.nds.2.2⟩,λi f d hm=>c.far i f d ?_,c.own,c.evs⟩;simp at hm⊢;rcases hm with hm|hm|hm<;>simp[hm]
def bK.bmove{c:Array H}(a:bK w0 w ((g,t,cs)::bs) h s X L C)(x:w0.heap.size<=g)(u:64≠t)(f:aH w w' g none)(b:M w' g t c):bK w0 w' ((g,t,c)::bs) h s X L C:=by have i:=a.T.blk g t cs ah;have d:∀{v:H} {n:Nat} {p:List H} {e:ay} {size:Nat},v.ownBlock≠some g->w.ownsRow w0.heap.size e size v n p->w'.ownsRow w0.heap.size e size v n p:=λ{v} _ _ _ _ h1 o=>f.own o h1 (by cases v.ownBlock<;>simp);refine⟨⟨f.below a.T.below x (λk r=>aK r),λm l j hm=>?_⟩,a.hB,a.nes,a.nds,λm l j hm=>?_,d (a.far g t cs ah) a.own,a.evs.imp λ_ _ _ _ hm=>⟨hm.eq,d (un hm.own i u) hm.own,hm.ok⟩⟩;rcases dh.1 hm with e|hm;cases e;exact f.blk a.blk (λe=>a.nes.1 e.symm) ah;rcases dh.1 hm with e|hm;cases e;exact b;exact f.blk (a.T.blk m l j (by simp[hm])) (a.nds.1.o _ _ _ hm) ah;rcases dh.1 hm with e|hm;cases e;exact a.far g t cs ah;exact a.far m l j (by simp[hm])
end
