import Derived.Test.YtemcfhlbmhbjeaaGreatDoorZ23
import Derived.Deep.RegionLaw
set_option maxRecDepth 100000
set_option maxHeartbeats 0
set_option linter.all false
namespace Go.Proofs.YtemcfhlbmhbjeaaGreatDoor
open Go.Proofs.Tryz
variable{w w0 w':D}{bs:List (Nat×ay×Array H)}{h g:Nat}{ops:Array Oper}{o:Oper}{a:Act}{Q:Exit->Act->D->Prop}{s:H}{X:List aN}{L:List bL}{C:Nat->Bool}{P:Program}{K:Act->D->Prop}{E:Prop}
open Go Go.RowKit
def Yb(h:Nat)(s:H)(C:Nat->Bool)(i j:Nat)(x:i<6)(y:j<6)(t:i≠j)(w0 w:D)(T:aI w0 w [(h,149,dZ s C)])(m:w0.heap.size<=h):
  Calls prog 227 #[N h,Z ((i:Int)+1),Z ((j:Int)+1)] w λe w'=>e=.returned (Z 0)/\aI w0 w' [(h,149,dZ s (uQ (uQ C (i*6+j) true) (j*6+i) true))]/\aH w w' h none:=by
 have v:=U (sV ((i:Int)+1) true (s5 i x));have p:=U (sV ((j:Int)+1) true (s5 j y));have G:((i:Int)+1==(j:Int)+1)=false:=by rw[fH];omega
 have J:(0:Int)<=(i:Int):=V;have R:(i:Int)<6:=V;have B:(0:Int)<=(j:Int):=V;have F:(j:Int)<6:=V;obtain⟨n,u,-⟩:=T.rules;have l:=wv s C (i*6+j) V;have k:=wv s C (j*6+i) V;rw[<-gQ]at l k;have W:¬1+i*6+j=1+j*6+i:=V;have n2:¬1+j*6+i=1+i*6+j:=V;go_in;go_upto_region 7 with(go_at_call 243;(first|(with_reducible refine(v.o _).mono ?_)|(with_reducible refine(p.o _).mono ?_));rintro r A ⟨rfl,rfl⟩);go_region;have b:=Lp s C (i*6+j) V true;have c:=Lp s (uQ C (i*6+j) true) (j*6+i) V true;rw[<-gQ]at b c;have d:=((T.set_ m trivial (1+i*6+j) (.bool true)).set_ m trivial (1+j*6+i) (.bool true)).drew;rw[b,c]at d;have f:aH w _ h none:=((aH.of_set (w:=w) (I h (1+i*6+j)) O (.bool true)).set (I h (1+j*6+i)) O (.bool true)).drew;clear b c n u l k;generalize World.drew _=w2 at d f⊢;go_wp2;go_ret;exact⟨O,d,f⟩
def Wl(b:bK w0 w bs h s X L C)(i j:Nat)(d:i<6)(f:j<6)(c:i≠j):
  Calls prog 227 #[N h,Z ((i:Int)+1),Z ((j:Int)+1)] w λe w'=>e=.returned (Z 0)/\bK w0 w' bs h s X L (uQ (uQ C (i*6+j) true) (j*6+i) true)/\aH w w' h none:=by
 apply(Yb h s C i j d f c w0 w (b.T.perm ah) b.hB).mono;rintro e w' ⟨rfl,T,F⟩;exact⟨O,b.turn F (T.blk _ _ _ cz),F⟩
def O7(h:Nat)(i j:Int)(l:cY i=false\/(cY i=true/\cY j=false)\/(cY i=true/\cY j=true/\(i==j)=true))(w:D):Calls prog 227 #[N h,Z i,Z j] w λe w'=>e=.returned (Z 10)/\w=w':=by
 rcases l with b|⟨b,c⟩|⟨b,c,m⟩
 ·have d:=U (sV i _ b);clear b;go_in;go_wp2_with (go_at_call 243;(with_reducible refine(d.o _).mono ?_);rintro r k ⟨rfl,rfl⟩);go_ret;exact⟨O,O⟩
 ·have d:=U (sV i _ b);have f:=U (sV j _ c);clear b c;go_in;go_wp2_with (go_at_call 243;(first|(with_reducible refine(d.o _).mono ?_)|(with_reducible refine(f.o _).mono ?_));rintro r k ⟨rfl,rfl⟩);go_ret;exact⟨O,O⟩
 have d:=U (sV i _ b);have f:=U (sV j _ c);clear b c;go_in;go_wp2_with (go_at_call 243;(first|(with_reducible refine(d.o _).mono ?_)|(with_reducible refine(f.o _).mono ?_));rintro r k ⟨rfl,rfl⟩);go_ret;exact⟨O,O⟩
def Zk(w:D)(g o:Nat)(t ty:ay)(b cells:Array H)(l:w.heap[g]? =some (.cells b t (0,0)))(e:(P.info? ty).map (·.size)=some cells.size)
  (f:o+cells.size<=b.size) (k:cells.all (·.oneCell')=true):
  (storeVar ty (I g o) (.agg cells)).run P w=.ok () (w.setRow g (b.toList.take o++cells.toList++b.toList.drop (o+cells.size)).toArray):=by
 have:=yw (P:=P) g o t cells.toList 0 b w l (az f) (λv j=>(nU.1 k) v (az j));cases c:P.info? ty with
 |none=>simp[c]at e
 |some i=>
  have d:cells.size=i.size:=by simp[c]at e;omega
  rw[oU,lW]at this;rw[d]at this;simp[storeVar,sizeOf,typeInfo,c,Value.cells,d,this]
def Zi{c:List Oper}(e:o.guard=none)(ty:ay)(x y:aO)(f:o.op=.store ty x y)
  (g off:Nat) (cells:Array H) (n:a.eval x=.pointer (some (I g off))) (i:a.eval y=.agg cells)
  (t:ay) (b:Array H) (l:w.heap[g]? =some (.cells b t (0,0))) (m:(P.info? ty).map (·.size)=some cells.size)
  (d:off+cells.size<=b.size) (k:cells.all (·.oneCell')=true)
  (h:wpList P ops Q c (a.put o.dst undef) (w.setRow g (b.toList.take off++cells.toList++b.toList.drop (off+cells.size)).toArray)):wpList P ops Q (o::c) a w:=by
 refine rk e λ_ j=>?_;unfold Oper.wp execOp;simp only[f,n,i,Instr.storeAt,Instr.sureAddr,lS,sF,lX,Zk w g off t ty b cells l m d k];exact j _ _ h
def aI.row{t:ay}{cs:Array H}(h:aI w0 w ((g,t,cs)::bs))(n:w0.heap.size<=g)(d:gv g bs)(b:Array H):aI w0 (w.setRow g b) ((g,t,b)::bs):=by have j:=h.blk _ _ _ cz;refine⟨⟨h.below.os,h.below.tape,h.below.output,aZ h.below.size (by simp[World.setRow]),λk f=>?_⟩,λl m i hm=>?_⟩;rw[lT w g k _ V];exact h.below.block k f;rcases dh.1 hm with e|hm;cases e;exact lU w g _ _ t _ j;have c:=h.blk _ _ _ (dC _ hm);unfold M at c⊢;rw[lT w g l _ (d.o _ _ _ hm)];exact c
def xG:Array H:=#[.bool false,.bool false,.bool false,.bool false,.bool false,.bool false,.bool false,.bool false,.bool false,.bool false,.bool false,.bool false,.bool false,.bool false,.bool false,.bool false,.bool false,.bool false,.bool false,.bool false,.bool false,.bool false,.bool false,.bool false,.bool false,.bool false,.bool false,.bool false,.bool false,.bool false,.bool false,.bool false,.bool false,.bool false,.bool false,.bool false]
def QC(s:H)(C:Nat->Bool):1+xG.size<=(dZ s C).size:=ao 37
def N8(s:H)(C:Nat->Bool):((dZ s C).toList.take 1++xG.toList++(dZ s C).toList.drop (1+xG.size)).toArray=dZ s λ_=>false:=Y
def Wj(h:Nat)(s:H)(C:Nat->Bool)(w0 w:D)(T:aI w0 w [(h,149,dZ s C)])(f:w0.heap.size<=h):
  Calls prog 186 #[N h] w λe w'=>e=.returned (.tuple #[])/\aI w0 w' [(h,149,dZ s λ_=>false)]/\w'=w.setRow h (dZ s λ_=>false):=by
 have b:=T.blk _ _ _ cz;obtain⟨c,i,-⟩:=T.rules;clear c;replace b:=U b;go_in;go_wp2_with (refine Zi O _ (.tmp 7) (.tmp 5) O h 1 xG O O _ _ b.o Y (QC s C) Y ?_;rw[N8]);go_end0;exact⟨O,T.row f trivial _,O⟩
def Um(b:bK w0 w bs h s X L C):
  Calls prog 186 #[N h] w λe w'=>e=.returned (.tuple #[])/\bK w0 w' bs h s X L (λ_=>false)/\aH w w' h none:=by
 apply(Wj h s C w0 w (b.T.perm ah) b.hB).mono;rintro e w' ⟨rfl,T,rfl⟩;have F:aH w (w.setRow h (dZ s λ_=>false)) h none:=aH.refl.row _;exact⟨O,b.turn F (T.blk _ _ _ cz),F⟩
@[go_sem ↓ high] def aaM:=@lz 146
@[go_sem] theorem ab7(x:aN)(w:D):(ke 146 (.agg (aE x))).run prog w=.ok (.value (bh w.heap.size 1 1)) (w.alloc (.cells (aE x) 331)):=Y
def Kv(k:o.guard=none)(f:FuncId)(args:Array H)(i:(execOp a.eval o).run P w=.ok (.enter f args) w)
  {R:Ending->D->Prop} (c:Calls P f args w R) (h:∀e w',R e w'->∃u,e=.returned u/\K (a.put o.dst u) w'):if Region.wanted o (yielded ops a.tmps)=true then Oper.wp P o a w K Q else E:=by
 have b:Region.wanted o (yielded ops a.tmps)=true:=by simp[Region.wanted,k]
 rw[av b];unfold Oper.wp;rw[i];refine o4 c λe w' j=>?_;obtain⟨u,rfl,d⟩:=h e w' j;exact d
def I7(i:o.guard=none)(s x:aO)
  (W:o.op=.call {callee:=.builtin .append,args:=#[s,x],argTypes:=#[146,146]})
  (base:Nat) (v:H) (L:List aN) (y:aN) (m:y.sl) (hs:a.eval s=v) (e:w.ownsRow base 331 12 v L.length (dw L)) (g:Nat) (hx:a.eval x=bh g 1 1) (F:M w g 331 (aE y))
  (hn:L.length<=100000) (c:base<=w.heap.size)
  (h:∀d w',w'.ownsRow base 331 12 d (L++[y]).length (dw (L++[y]))->Below base w w'->w.grownBy w' v.ownBlock->(d.ownBlock=v.ownBlock\/∀b,d.ownBlock=some b->w.heap.size<=b)->K (a.put o.dst d) w'):if Region.wanted o (yielded ops a.tmps)=true then Oper.wp prog o a w K Q else E:=by
 have T:Region.wanted o (yielded ops a.tmps)=true:=by simp[Region.wanted,i]
 rw[av T];obtain⟨R,t,k,n,p⟩:=i7 EQ;obtain⟨l,-⟩:=F.rules;have r:dK w w.heap.size 12 (some (I g 0)) 1 (dw [y]):=⟨by rw[oc];rfl,λ_=>⟨g,0,O,F.lt,λj u B=>by rw[LM,i5]at B;rw[cA,l];exact B⟩⟩;obtain⟨d,w',f,A,h3,G,J⟩:=IW (P:=prog) w base 146 o.type 331 R (.agg #[.int .u8 0,Z 0,Z 0,q 0,q 0,q 0,q 0,q 0,q 0,.slice none 0 0,q 0,Z 0]) 12 112 underlying146 t k n p O ai v L.length (dw L) e w.heap.size (some (I g 0)) 1 1 (dw [y]) r (Jy (az m)) (by unfold maxLen;omega) V c;unfold Oper.wp execOp;simp only[W,resolve,invoke,builtin,lS,sF,lX,pW,cW,mJ,hs,hx,f];rw[<-yG]at A;exact h d w' (by rw[bW];exact A) h3 G J
def jJ(w0 w w':D)(bs:List (Nat×ay×Array H))(h:Nat)(s:H)(X:List aN)(L':List bL)(d:Nat->Bool):Prop:=
 ∃b c,bK w0 w' bs h b c L' d/\aH w w' h s.ownBlock/\(b.ownBlock=s.ownBlock\/∀k,b.ownBlock=some k->w.heap.size<=k)/\∀x∈c,x∈X\/∀k,x.s.ownBlock=some k->w.heap.size<=k
section
variable{w0 w:D}{bs:List (Nat×ay×Array H)}{h:Nat}{s:H}{X:List aN}{L:List bL}{C:Nat->Bool}
def jJ.same(b:bK w0 w bs h s X L C)(c:S w w'):jJ w0 w w' bs h s X L C:=
 ⟨s,X,b.call c,aH.of_below c,.inl O,λ_ d=>.inl d⟩
def O2(m:bL)(o:m.ok)(j:ix m=false)(A:Option Addr)(c:Nat)(v:jy w w.heap.size A m.l)(B:m.l.length<=c)(i:c<=maxLen)(x:M w h 149 (dZ s C)):
  Calls prog 222 #[N h,.agg (aE ⟨m.k,m.f,m.t,m.d,.slice A m.l.length c,m.n,m.a⟩)] w λe w'=>e=.returned (Z 1)/\S w w':=by
 have y:=U λ(W:D) (p:S w W)=>xj m o false j A c W ((v.below p).mono p.size) B i;clear v o j x;go_in;go_wp2_with fail;have b:aI w _ [(w.heap.size,331,aE ⟨m.k,m.f,m.t,m.d,.slice A m.l.length c,m.n,m.a⟩)]:=(aI.nil w).push (t:=331) (cs:=aE ⟨m.k,m.f,m.t,m.d,.slice A m.l.length c,m.n,m.a⟩) O;apply(y.o _ b.below).mono;rintro r G ⟨rfl,u⟩;have F:=b.call u;clear b u;go_wp2;go_ret;exact⟨O,F.below⟩
end
def jJ.drop{t:ay}{cs:Array H}(b:jJ w0 w w' ((g,t,cs)::bs) h s X L C):jJ w0 w w' bs h s X L C:=by obtain⟨d,c,n,r⟩:=b;exact⟨d,c,n.drop,r⟩
def Fw{i v:D}{m:bL}{u c:H}{b:Nat}(y:bK w0 i bs h s X L C)(B:S w i)(p:i.ownsRow b 64 14 u m.l.length (i8 m.l))(α:w0.heap.size<=b)(R:w.heap.size<=b)(ok:m.ok)(o:Obj)(hg:(i.alloc o).grownBy v s.ownBlock)
  (j:v.ownsRow w0.heap.size 331 12 c (X++[(⟨m.k,m.f,m.t,m.d,u,m.n,m.a⟩:aN)]).length (dw (X++[⟨m.k,m.f,m.t,m.d,u,m.n,m.a⟩]))) (F:c.ownBlock=s.ownBlock\/∀b,c.ownBlock=some b->(i.alloc o).heap.size<=b):
  jJ w0 w (v.setCell (I h 0) c) bs h s X (L++[m]) C:=by
 have F1:aH i (i.alloc o) h s.ownBlock:=aH.of_below ((aq _ _).alloc (ao _) _);have F2:aH i v h s.ownBlock:=F1.trans (aH.of_grown hg);have J:aH i (v.setCell (I h 0) c) h s.ownBlock:=F2.set _ O _;have b5:M v h 149 (dZ s C):=(hg.block h (ee y.T.lt ah) (λe=>y.s_ne e.symm)).trans (y.blk.alloc o);have b6:M (v.setCell (I h 0) c) h 149 (dZ c C):=by rw[<-N7 s c C];exact b5.set_ 0 c
 have G:=(aH.of_set (w:=v) (r:=none) (I h 0) O c).own j (un j b5 ai) (by cases c.ownBlock<;>simp);have hz:i.heap.size<=(i.alloc o).heap.size:=ah;have W:=B.size;refine⟨c,X++[(⟨m.k,m.f,m.t,m.d,u,m.n,m.a⟩:aN)],y.move J b6 G (F.imp id λhh k A=>aZ hz (hh k A)) (ii.snoc (y.evs' J) ⟨O,kB (J.own p (y.ev_ne p).1 (y.ev_ne p).2) α,ok⟩),(aH.of_below B).trans J,F.imp id λhh k A=>aZ W (aZ hz (hh k A)),λx hx=>?_⟩;rcases bP.1 hx with hx|hx;exact .inl hx;obtain rfl:=dd.1 hx;exact .inr λk A=>aZ R (p.lt k A).1
section
variable{w0 w:D}{bs:List (Nat×ay×Array H)}{h:Nat}{s:H}{X:List aN}{L:List bL}{C:Nat->Bool}
def O3(k:Int)(i j:Nat)(hi:i<6)(hj:j<6)(d:an)(l:List z)(n a:Int)(o:(⟨k,(i:Int)+1,(j:Int)+1,d,l,n,a⟩:bL).ok)(T:ix ⟨k,(i:Int)+1,(j:Int)+1,d,l,n,a⟩=true)(A:Option Addr)(c:Nat)(J:jy w w.heap.size A l)(hc:l.length<=c)(p:c<=maxLen)
  (x:M w h 149 (dZ s C)) (hC:C (i*6+j)=true):
  Calls prog 222 #[N h,.agg (aE ⟨k,(i:Int)+1,(j:Int)+1,d,.slice A l.length c,n,a⟩)] w λe w'=>e=.returned (Z 0)/\S w w':=by
 have R:=U λ(W:D) (F:S w W)=>xj ⟨k,(i:Int)+1,(j:Int)+1,d,l,n,a⟩ o true T A c W ((J.below F).mono F.size) hc p;have G:=U x;have m:=x.lt;clear J o T x;dsimp only at R;have a1:(0:Int)<=(i:Int):=V;have a2:(i:Int)<6:=V;have a3:(0:Int)<=(j:Int):=V;have a4:(j:Int)<6:=V;go_in;go_wp2_with fail;have v:aI w _ [(w.heap.size,331,aE ⟨k,(i:Int)+1,(j:Int)+1,d,.slice A l.length c,n,a⟩)]:=(aI.nil w).push (t:=331) (cs:=aE ⟨k,(i:Int)+1,(j:Int)+1,d,.slice A l.length c,n,a⟩) O;apply(R.o _ v.below).mono;rintro r w2 ⟨rfl,B⟩;have f:=v.call B;have b:M w2 h 149 (dZ s C):=(f.below.block h m).trans G.o;clear v B;obtain⟨q1,f1,-⟩:=f.rules;obtain⟨l1,-⟩:=f.lts;obtain⟨y,f0⟩:=b.rules;have u:=wv s C (i*6+j) V;rw[<-gQ,hC]at u;have x1:w2.cell? (I h (1+i*6+j))=some (.bool true):=by rw[y];exact u
 clear u y G b;go_upto_region 5 with fail;go_region;go_wp2;go_ret;exact⟨O,f.drew.below⟩
def NV(k:Int)(i j:Nat)(hi:i<6)(hj:j<6)(d:an)(l:List z)(n a:Int)(o:(⟨k,(i:Int)+1,(j:Int)+1,d,l,n,a⟩:bL).ok)(hm:ix ⟨k,(i:Int)+1,(j:Int)+1,d,l,n,a⟩=true)(A:Option Addr)(c:Nat)(hL:jy w w.heap.size A l)(hc:l.length<=c)(x:c<=maxLen)
  (m:Option Addr) (f c1:Nat) (F:M w h 149 (dZ (.slice m f c1) C)) (hC:C (i*6+j)=false) (hn:(128:Int)<=(f:Int)):
  Calls prog 222 #[N h,.agg (aE ⟨k,(i:Int)+1,(j:Int)+1,d,.slice A l.length c,n,a⟩)] w λe w'=>e=.returned (Z 7)/\S w w':=by
 have C1:=U λ(W:D) (R:S w W)=>xj ⟨k,(i:Int)+1,(j:Int)+1,d,l,n,a⟩ o true hm A c W ((hL.below R).mono R.size) hc x;have T:=U F;have u:=F.lt;clear hL o hm F;dsimp only at C1;have a1:(0:Int)<=(i:Int):=V;have a2:(i:Int)<6:=V;have a3:(0:Int)<=(j:Int):=V;have a4:(j:Int)<6:=V;go_in;go_wp2_with fail;have B:aI w _ [(w.heap.size,331,aE ⟨k,(i:Int)+1,(j:Int)+1,d,.slice A l.length c,n,a⟩)]:=(aI.nil w).push (t:=331) (cs:=aE ⟨k,(i:Int)+1,(j:Int)+1,d,.slice A l.length c,n,a⟩) O;apply(C1.o _ B.below).mono;rintro r G ⟨rfl,J⟩;have p:=B.call J;have b:M G h 149 (dZ (.slice m f c1) C):=(p.below.block h u).trans T.o;clear B J;obtain⟨q1,f1,-⟩:=p.rules;obtain⟨l1,-⟩:=p.lts;obtain⟨v,f0⟩:=b.rules;have y:=wv (.slice m f c1) C (i*6+j) V;rw[<-gQ,hC]at y;have x1:G.cell? (I h (1+i*6+j))=some (.bool false):=by rw[v];exact y
 have x0:G.cell? (I h 0)=some (.slice m f c1):=by rw[v];rfl
 clear y v T b;go_upto_region 5 with fail;go_region;go_wp2;go_ret;exact⟨O,p.drew.below⟩
def RT(k:Int)(i j:Nat)(hi:i<6)(hj:j<6)(d:an)(l:List z)(n a:Int)(o:(⟨k,(i:Int)+1,(j:Int)+1,d,l,n,a⟩:bL).ok)(hm:ix ⟨k,(i:Int)+1,(j:Int)+1,d,l,n,a⟩=true)(A:Option Addr)(c:Nat)(hL:jy w w.heap.size A l)(hc:l.length<=c)(β:c<=maxLen)(hn:l.length<=100000)
  (G:bK w0 w bs h s X L C) (hC:C (i*6+j)=false) (hX:X.length<128):
  Calls prog 222 #[N h,.agg (aE ⟨k,(i:Int)+1,(j:Int)+1,d,.slice A l.length c,n,a⟩)] w λe w'=>e=.returned (Z 0)/\jJ w0 w w' bs h s X (L++[⟨k,(i:Int)+1,(j:Int)+1,d,l,n,a⟩]) C:=by
 have C1:=U λ(W:D) (hW:S w W)=>xj ⟨k,(i:Int)+1,(j:Int)+1,d,l,n,a⟩ o true hm A c W ((hL.below hW).mono hW.size) hc β;have C2:=U λ(W:D) (hW:S w W)=>Hr ⟨k,(i:Int)+1,(j:Int)+1,d,l,n,a⟩ A c W ((hL.below hW).mono hW.size) hn;have OK:=U o;clear hL o hm;dsimp only at C1 C2;obtain⟨y,F,rfl,-⟩:=dS G.own;have a1:(0:Int)<=(i:Int):=V;have a2:(i:Int)<6:=V;have a3:(0:Int)<=(j:Int):=V;have a4:(j:Int)<6:=V;have d1:=cP ((128:Int)<=(X.length:Int));go_in;go_wp2_with fail;have N0:bK w0 _ ((w.heap.size,331,aE ⟨k,(i:Int)+1,(j:Int)+1,d,.slice A l.length c,n,a⟩)::bs) h (.slice y X.length F) X L C:=G.push (t:=331) (cs:=aE ⟨k,(i:Int)+1,(j:Int)+1,d,.slice A l.length c,n,a⟩) O;have B0:S w _:=(aq w.heap.size w).alloc (ao _) (.cells (aE ⟨k,(i:Int)+1,(j:Int)+1,d,.slice A l.length c,n,a⟩) 331 (0,0));apply(C1.o _ B0).mono;rintro r w2 ⟨rfl,x⟩;have N2:=N0.call x;have B2:=B0.trans (x.mono ah);clear N0 B0 x;obtain⟨J,f0,q1,f1,-⟩:=N2.T.rules;obtain⟨l0,l1,-⟩:=N2.T.lts;have g1:=wv (.slice y X.length F) C (i*6+j) V;rw[<-gQ,hC]at g1;have x1:w2.cell? (I h (1+i*6+j))=some (.bool false):=by rw[<-g1];exact J _
 have x0:w2.cell? (I h 0)=some (.slice y X.length F):=J 0;clear g1 J;go_upto_region 5 with fail;go_region;go_upto_region 9 with fail;have N3:=N2.drew;have B3:=B2.drew;clear N2 B2 f0 q1 f1 l0 l1 x1 x0 G;generalize w2.drew=w3 at N3 B3⊢;obtain⟨J,f0,q1,f1,-⟩:=N3.T.rules;obtain⟨l0,l1,-⟩:=N3.T.lts;have x0:w3.cell? (I h 0)=some (.slice y X.length F):=J 0;clear J;go_region_law (first|(refine Kv rfl 238 #[.agg (aE ⟨k,(i:Int)+1,(j:Int)+1,d,.slice A l.length c,n,a⟩)] (by simp[execOp,go_sem]<;>rfl) (C2.o _ B3.drew) ?_;rintro e w4 ⟨u,rfl,B,x⟩;refine⟨_,O,?_⟩;have f:=N3.drew.call x;have B4:=B3.drew.trans (x.mono B3.size);have y0:w4.cell? (I h 0)=some (.slice y X.length F):=f.T.rules.1 0;have m0:=f.T.lt)|(refine I7 rfl (.tmp 36) (.tmp 39) rfl w0.heap.size _ X ⟨k,(i:Int)+1,(j:Int)+1,d,u,n,a⟩ ?sl rfl (f.own.alloc _) w4.heap.size rfl (M.new_at rfl rfl) V (aZ f.T.below.size ah) ?_;(case sl=>(obtain⟨A9,c9,e9,-⟩:=dS B;exact⟨A9,_,c9,e9⟩));intro v' w5 b γ p α;obtain⟨A5,c5,e5,-⟩:=dS b;obtain rfl:v'=.slice A5 (X.length+1) c5:=(by rw[e5,bW];rfl);clear e5;have aC:w5.cell? (I h 0)=some (.slice y X.length F):=p.cell (a:=(I h 0)) (v:=.slice y X.length F) ((f.blk.alloc _).rules.1 0) (λe=>f.s_ne e.symm);have z1:w5.frozen? (I h 0)=false:=by rw[World.frozen?_of_block (p.block h (ee m0 ah) (λe=>f.s_ne e.symm))];exact((f.blk.alloc _).rules).2 0))
 all_goals
  have R:=(Fw (m:=⟨k,(i:Int)+1,(j:Int)+1,d,l,n,a⟩) f B4 B (aZ N3.T.below.size (ao _)) B3.size OK.o _ p b α).drop;clear f B4 N3 B3 B γ p b α y0 m0 aC z1 x0 q1 f0 f1 l0 l1 x;generalize (World.setCell _ _ _)=w6 at R⊢;go_wp2;go_ret;exact⟨O,R⟩
end
def xT(m:bL):Nat:=(m.f-1).toNat*6+(m.t-1).toNat
def qI(L:List bL)(C:Nat->Bool)(m:bL):Int:=if ix m=false then 1 else if C (xT m)=true then 0 else if 128<=L.length then 7 else 0
def nC(L:List bL)(C:Nat->Bool)(m:bL):List bL:=if ix m=false then L else if C (xT m)=true then L else if 128<=L.length then L else L++[m]
def Lt{m:bL}(h:ix m=true):∃i j:Nat,i<6/\j<6/\i≠j/\m.f=(i:Int)+1/\m.t=(j:Int)+1:=by unfold ix lc at h;simp only[bZ,eN]at h;obtain⟨i,l,k⟩:=rE h.1.1.1.1;obtain⟨j,d,c⟩:=rE h.1.1.1.2;have b:=h.1.1.2;exact⟨i,j,l,d,λe=>b V,k,c⟩
section
variable{w0 w:D}{bs:List (Nat×ay×Array H)}{h:Nat}{s:H}{X:List aN}{L:List bL}{C:Nat->Bool}
def X9(m:bL)(o:m.ok)(A:Option Addr)(c:Nat)(G:jy w w.heap.size A m.l)(R:m.l.length<=c)(u:c<=maxLen)(hn:m.l.length<=100000)(b:bK w0 w bs h s X L C):
  Calls prog 222 #[N h,.agg (aE ⟨m.k,m.f,m.t,m.d,.slice A m.l.length c,m.n,m.a⟩)] w λe w'=>e=.returned (Z (qI L C m))/\jJ w0 w w' bs h s X (nC L C m) C:=by
 cases p:ix m with
 |false=>
  have v:qI L C m=1:=by simp[qI,p]
  have x:nC L C m=L:=by simp[nC,p]
  rw[v,x];apply(O2 m o p A c G R u b.blk).mono;rintro e w' ⟨rfl,y⟩;exact⟨O,.same b y⟩
 |true=>
  obtain⟨i,j,W,T,-,J,B⟩:=Lt p;have hcut:xT m=i*6+j:=by simp[xT,J,B]
  have α:=b.evs.len;cases r:C (i*6+j)with
  |true=>
   have v:qI L C m=0:=by simp[qI,p,hcut,r]
   have x:nC L C m=L:=by simp[nC,p,hcut,r]
   rw[v,x];obtain⟨k,f,t,d,l,n,a⟩:=m;dsimp only at*;subst J B;apply(O3 k i j W T d l n a o p A c G R u b.blk r).mono;rintro e w' ⟨rfl,y⟩;exact⟨O,.same b y⟩
  |false=>
   by_cases F:128<=L.length
   ·have v:qI L C m=7:=by simp[qI,p,hcut,r,F]
    have x:nC L C m=L:=by simp[nC,p,hcut,r,F]
    rw[v,x];obtain⟨A1,c1,rfl,-⟩:=dS b.own;obtain⟨k,f,t,d,l,n,a⟩:=m;dsimp only at*;subst J B;apply(NV k i j W T d l n a o p A c G R u A1 X.length c1 b.blk r V).mono;rintro e w' ⟨rfl,y⟩;exact⟨O,.same b y⟩
   have v:qI L C m=0:=by simp[qI,p,hcut,r,F]
   have x:nC L C m=L++[m]:=by simp[nC,p,hcut,r,F]
   rw[v,x];obtain⟨k,f,t,d,l,n,a⟩:=m;dsimp only at*;subst J B;exact RT k i j W T d l n a o p A c G R u hn b r V
def Z5(k:Int)(c:Option Addr)(b c1:Nat)(f:M w h 149 (dZ (.slice c b c1) C))(d:decide (0<=k/\k<(b:Int))=false):
  Calls prog 226 #[N h,Z k] w λe w'=>e=.returned (Z 4)/\w=w':=by
 have i:=U (w8 h c b c1 C k false d w f);clear f d;go_in;go_wp2_with (go_at_call 239;(with_reducible refine i.o.mono ?_);rintro r j ⟨rfl,rfl⟩);go_ret;exact⟨O,O⟩
def aah(k:Int)(d:Option Addr)(c c1:Nat)(f:M w h 149 (dZ (.slice d c c1) C))(i:decide (0<=k/\k<(c:Int))=true)(n:(128:Int)<=(c:Int)):
  Calls prog 226 #[N h,Z k] w λe w'=>e=.returned (Z 7)/\w=w':=by
 have j:=U (w8 h d c c1 C k true i w f);obtain⟨b,-⟩:=f.rules;have m:w.cell? (I h 0)=some (.slice d c c1):=b 0;clear f i b;go_in;go_wp2_with (go_at_call 239;(with_reducible refine j.o.mono ?_);rintro r l ⟨rfl,rfl⟩);go_ret;exact⟨O,O⟩
def NU(k:Nat)(m:bL)(hk:L[k]? =some m)(hn:m.l.length<=100000)(b:bK w0 w bs h s X L C)(hX:X.length<128):
  Calls prog 226 #[N h,Z (k:Int)] w λe w'=>e=.returned (Z 0)/\jJ w0 w w' bs h s X (L++[m]) C:=by
 obtain⟨x,hx,eq,ox,om⟩:=b.evs.get hk;have β:k<X.length:=(List.getElem?_eq_some_iff.1 hx).1;obtain⟨A1,A,rfl,ι,η,B⟩:=dS b.own;obtain⟨Ax,cx,ex,δ,ζ,F⟩:=dS ox;rw[ex]at eq;subst eq;clear ex;dsimp only at ox;have C1:=U (w8 h A1 X.length A C (k:Int) true (decide_eq_true ⟨V,V⟩) w b.blk);have C2:=U λ(W:D) (hW:S w W)=>Hr m Ax cx W ((F.below hW).mono hW.size) hn;have OK:=U om;obtain⟨G,J,rfl,ε,y0,y1,y2,y3,y4,y5,y6,y7,y8,y9,γ,θ⟩:=xz.at_ B hx;clear B F om;clear hx hk;have a1:(0:Int)<=(k:Int):=V;have a2:(k:Int)<(X.length:Int):=V;have d1:=cP ((128:Int)<=(X.length:Int));obtain⟨q0,f0,-⟩:=b.T.rules;obtain⟨l0,-⟩:=b.T.lts;have x0:w.cell? (I h 0)=some (.slice (some (I G J)) X.length A):=q0 0;clear q0;go_in;go_upto_region 7 with(go_at_call 239;(with_reducible refine C1.o.mono ?_);rintro r w1 ⟨rfl,rfl⟩);go_region_law (first|(refine Kv rfl 238 #[.agg (aE ⟨m.k,m.f,m.t,m.d,.slice Ax m.l.length cx,m.n,m.a⟩)] (by simp[execOp,go_sem]<;>rfl) (C2.o _ (aq _ _).drew) ?_;rintro e w4 ⟨u,rfl,p,hb⟩;refine⟨_,O,?_⟩;have i:=b.drew.call hb;have B4:=((aq w.heap.size w).drew).trans hb;have z9:w4.cell? (I h 0)=some (.slice (some (I G J)) X.length A):=i.T.rules.1 0;have m0:=i.T.lt)|(refine I7 rfl (.tmp 24) (.tmp 33) rfl w0.heap.size _ X ⟨m.k,m.f,m.t,m.d,u,m.n,m.a⟩ ?sl rfl (i.own.alloc _) w4.heap.size rfl (M.new_at rfl rfl) V (aZ i.T.below.size ah) ?_;(case sl=>(obtain⟨A9,c9,e9,-⟩:=dS p;exact⟨A9,_,c9,e9⟩));intro v' w5 c α j y;obtain⟨A5,c5,e5,-⟩:=dS c;obtain rfl:v'=.slice A5 (X.length+1) c5:=(by rw[e5,bW];rfl);clear e5;have aC:w5.cell? (I h 0)=some (.slice (some (I G J)) X.length A):=j.cell (a:=(I h 0)) (v:=.slice (some (I G J)) X.length A) ((i.blk.alloc _).rules.1 0) (λe=>i.s_ne e.symm);have z1:w5.frozen? (I h 0)=false:=by rw[World.frozen?_of_block (j.block h (ee m0 ah) (λe=>i.s_ne e.symm))];exact((i.blk.alloc _).rules).2 0))
 all_goals
  have R:=Fw (m:=m) i B4 p (aZ b.T.below.size (ao _)) (ao _) OK.o _ j c y;clear i B4 b p α j c y m0 aC z1 z9 x0 f0 l0 hb;generalize (World.setCell _ _ _)=w6 at R⊢;go_wp2;go_ret;exact⟨O,R⟩
end
def Zs(k:o.guard=none)(s x:aO)
  (F:o.op=.call {callee:=.builtin .append,args:=#[s,x],argTypes:=#[146,146]})
  (g n cap:Nat) (cur:Array H) (T:w.heap[g]? =some (.cells cur 331 (0,0))) (R:a.eval s=bh g n cap) (A:Addr) (m c:Nat) (W:a.eval x=.slice (some A) m c) (L:List aN) (B:L.length=m) (l:∀x∈L,x.sl)
  (d:∀j u,(dw L)[j]? =some u->w.cell? (A.add j)=some u) (r:Nat) (G:n+m=r) (f:n+m<=cap) (i:n*12+m*12<=cur.size)
  (h:K (a.put o.dst (bh g r cap)) (w.setRow g (cur.toList.take (n*12)++dw L++cur.toList.drop (n*12+m*12)).toArray)):if Region.wanted o (yielded ops a.tmps)=true then Oper.wp prog o a w K Q else E:=by
 subst B;subst G;have v:Region.wanted o (yielded ops a.tmps)=true:=by simp[Region.wanted,k]
 rw[av v];obtain⟨t,p,J,e,y⟩:=i7 EQ;have b:=vJ (P:=prog) w 146 o.type 331 t underlying146 p g n cap cur T A L.length c (dw L) (by rw[oc,e]) d (Jy l) f (by rw[e,oc];exact i);rw[e,oc]at b;unfold Oper.wp execOp;simp only[F,resolve,invoke,builtin,lS,sF,lX,pW,cW,mJ,R,W,b];exact h
def E5(w:D):(zeroValue 331).run prog w=.ok (.agg (aE aN.zero)) w:=Y
def Zv:(Builtin.zeroCells (Value.agg (aE aN.zero)).cells 1).toList=(aE aN.zero).toList:=Y
def Zq:(Builtin.zeroCells (Value.agg #[.int .u8 0,Z 0,Z 0,q 0,q 0,q 0,q 0,q 0,q 0,.slice none 0 0,q 0,Z 0]).cells 1).toList=(aE aN.zero).toList:=Y
def Zj{b:List Oper}(f:o.guard=none)(x:aO)(j:o.op=.call {callee:=.builtin .clear,args:=#[x],argTypes:=#[146]})
  (g off c:Nat) (m:a.eval x=.slice (some (I g off)) 1 c) (cur:Array H) (t:ay) (l:w.heap[g]? =some (.cells cur t (0,0))) (i:off+12<=cur.size)
  (h:wpList prog ops Q b (a.put o.dst (.tuple #[])) (w.setRow g (cur.toList.take off++(aE aN.zero).toList++cur.toList.drop (off+12)).toArray)):wpList prog ops Q (o::b) a w:=by
 have d:=yw (P:=prog) g off t (aE aN.zero).toList 0 cur w l (by rw[oU];exact i) ai;rw[oU,show(aE aN.zero).toList.length=12 from rfl]at d;have e:(Builtin.clear_ #[146] o.type #[.slice (some (I g off)) 1 c]).run prog w=.ok (.tuple #[]) (w.setRow g (cur.toList.take off++(aE aN.zero).toList++cur.toList.drop (off+12)).toArray):=by simp only[Builtin.clear_,eT underlying146,lS,lX,E5,Zv];simp[E5];rw[Zq,d];simp
 refine rk f λ_ k=>?_;unfold Oper.wp execOp;simp only[j,resolve,invoke,builtin,lS,sF,lX,pW,cW,mJ,m,e];exact k _ _ h
def mn(cur:Array H)(i j n:Nat):Array H:=(cur.toList.take (i*12)++(cur.toList.take (n*12)).drop (j*12)++cur.toList.drop (i*12+(n-j)*12)).toArray
def O6(g n c i j b:Nat)(hq:b+1=n)(ε:i<j)(δ:j<=i+1)(hj:j<=n)(η:n<=c)(hc:c<=maxLen)(X:List aN)(y:X.length=n)(B:∀x∈X,x.sl)(w:D)(cur:Array H)(J:M w g 331 cur)(p:cur.size=c*12)(d:cur.toList.take (n*12)=dw X):
  Calls prog 240 #[bh g n c,Z (i:Int),Z (j:Int)] w λe w'=>e=.returned (bh g b c)/\w'=(w.drew.setRow g (mn cur i j n)).setRow g ((mn cur i j n).toList.take (b*12)++(aE aN.zero).toList++(mn cur i j n).toList.drop (b*12+12)).toArray:=by
 have e1:((i:Int)==(j:Int))=false:=by rw[fH];omega
 have ζ:i<=c:=V;have κ:j<=c:=V;obtain⟨A,hA,G⟩:∃A:Addr,(if c=j then(some (I g 0):Option Addr)else some (I g (j*12)))=some A/\mG (∀k u,(dw (X.drop j))[k]? =some u->w.drew.cell? (A.add k)=some u):=by
  have m:∀k u,(dw (X.drop j))[k]? =some u->w.drew.cell? (I g (j*12+k))=some u:=λk u r=>by
   have W:k<(X.drop j).length*12:=by have:=(fN.1 r).1;rwa[oc]at this
   rw[kx,y]at W;rw[<-Da X j V,<-d,ob,List.getElem?_take_of_lt V,i5]at r;obtain⟨b,-⟩:=J.rules;exact(b _).trans r
  by_cases h:c=j
  ·refine⟨I g 0,by simp[h],U λk u r=>?_⟩;have W:k<(X.drop j).length*12:=by have:=(fN.1 r).1;rwa[oc]at this
   rw[kx,y]at W;omega
  exact⟨I g (j*12),by simp[h],U λk u r=>by rw[mU];exact m k u r⟩
 have R:(mn cur i j n)=(cur.toList.take (i*12)++dw (X.drop j)++cur.toList.drop (i*12+(n-j)*12)).toArray:=by unfold mn;rw[d,Da X j V]
 have t:(mn cur i j n).size=c*12:=by rw[R];simp only[pV,bW,il,kx,lW,oc,p,y];omega
 have T:=U B;have HG:=U J;have β:=U p;have HX:=U y;have HD:=U R;have F:=U t;have l:=U (lU w.drew g cur (mn cur i j n) 331 (0,0) J);have v:i+(n-j)=b:=V;have ι:n-b=1:=V;have μ:b<=n:=V;have θ:¬c=b:=V;have γ:=U v;have HQ:=U hq;generalize mn cur i j n=aeI at HD F R t l⊢;obtain⟨w2,f⟩:=aM (w.drew.setRow g aeI);rw[f]at l⊢;replace f:=U f;clear B J p d y hc R t v hq;go_in;go_upto_region 5 with fail;go_region_law (refine Zs O (.tmp 22) (.tmp 25) O g i c cur (HG.o.trans O) O A (n-j) (c-j) O (X.drop j) (by rw[kx,HX.o]) (λx hx=>T.o x (rj hx)) G.o b γ.o V (by rw[β.o];omega) ?_;rw[<-HD.o,f.o])
 all_goals
  go_wp2_with ((refine Zj O (.tmp 31) O g (b*12) (c-b) O aeI 331 l.o (by rw[F.o];have:=HQ.o;omega) ?_));go_ret;exact⟨O,by rw[i6];rfl⟩
def RU(base n c i:Nat)(A:Option Addr)(hi:i<n)(X:List aN)(t:X.length=n)(u:∀x∈X,x.sl)(w:D)(v:w.ownsRow base 331 12 (.slice A n c) n (dw X)):
  Calls prog 240 #[.slice A n c,Z (i:Int),Z ((i:Int)+1)] w λe w'=>e=.returned (.slice A (n-1) c)/\w'.ownsRow base 331 12 (.slice A (n-1) c) (n-1) (dw (X.eraseIdx i))/\w.grownBy w' (Value.slice A n c).ownBlock:=by
 rcases v.2 with⟨_,h0⟩|⟨g,α,b,hv,T,G,B,j,m,f⟩;omega;injection hv with e1 _ e3;subst e1 e3;apply(O6 g n c i (i+1) (n-1) V V V V B j X t u w b G m f).mono;rintro e w' ⟨rfl,rfl⟩;have J:(mn b i (i+1) n)=(b.toList.take (i*12)++dw (X.drop (i+1))++b.toList.drop (i*12+(n-(i+1))*12)).toArray:=by unfold mn;rw[f,Da X (i+1) V]
 have F:(mn b i (i+1) n).size=c*12:=by rw[J];simp only[pV,bW,il,kx,lW,oc,m,t];omega
 have W:b.toList.take (i*12)=dw (X.take i):=by rw[<-aak X i V,<-f,List.take_take];congr 1;omega
 have R:X.eraseIdx i=X.take i++X.drop (i+1):=List.eraseIdx_eq_take_drop_succ X i;have d:(dw (X.eraseIdx i)).length=(n-1)*12:=by rw[oc,List.length_eraseIdx_of_lt V,t]
 have p:(mn b i (i+1) n).toList.take ((n-1)*12)=dw (X.eraseIdx i):=by rw[J,W,R,<-yG,<-R,<-d];exact List.take_left
 have y:=lU w.drew g b (mn b i (i+1) n) 331 (0,0) G;refine⟨O,⟨by rw[d],.inr ⟨g,c,_,O,T,lU _ g _ _ _ _ y,V,j,?_,?_⟩⟩,⟨O,O,O,by simp[World.setRow],λk hk r=>?_⟩⟩;rw[p];simp only[pV,bW,kx,lW,F,d];show(n-1)*12+12+_=_;omega;rw[p,<-d,i6];exact List.take_left;have l:k≠g:=λe=>r (by subst e;rfl);rw[lT _ g k _ l,lT _ g k _ l];rfl
def Jc{fn:Func}{s1 s2:Nat}(h:fn.results=#[.cell s1 331,.tmp s2])(tmps:Array H)(g:Nat)(x:aN)(b:Bool)(w:D)(i:tmps.getD s1 undef=.pointer (some (I g 0)))(d:tmps.getD s2 undef=.bool b)
  (j:M w g 331 (aE x)):(results fn tmps).run prog w=.ok (.tuple #[.agg (aE x),.bool b]) w:=by
 obtain⟨c,-⟩:=j.rules;have f:tmps[s1]?.getD undef=.pointer (some (I g 0)):=by rw[<-i];simp
 have e:tmps[s2]?.getD undef=.bool b:=by rw[<-d];simp
 simp[results,h,f,e,go_sem,c]
def setMsg(w:D)(g:Nat)(R:aN):D:=(((((((((((w.setCell (I g 0) (.int .u8 R.k)).setCell (I g 1) (Z R.f)).setCell (I g 2) (Z R.t)).setCell (I g 3) (q R.d.v0)).setCell (I g 4) (q R.d.v1)).setCell (I g 5) (q R.d.v2)).setCell (I g 6) (q R.d.v3)).setCell (I g 7) (q R.d.v4)).setCell (I g 8) (q R.d.v5)).setCell (I g 9) R.s).setCell (I g 10) (q R.n)).setCell (I g 11) (Z R.a)
def DM(w:D)(g:Nat)(R:aN):aH w (setMsg w g R) g none:=
 (((((((((((aH.of_set (I g 0) O _).set (I g 1) O _).set (I g 2) O _).set (I g 3) O _).set (I g 4) O _).set (I g 5) O _).set (I g 6) O _).set (I g 7) O _).set (I g 8) O _).set (I g 9) O _).set (I g 10) O _).set (I g 11) O _
def aav{b:aN}(h:M w g 331 (aE b))(R:aN):M (setMsg w g R) g 331 (aE R):=by rw[<-FA b R];exact(((((((((((h.set_ 0 (.int .u8 R.k)).set_ 1 (Z R.f)).set_ 2 (Z R.t)).set_ 3 (q R.d.v0)).set_ 4 (q R.d.v1)).set_ 5 (q R.d.v2)).set_ 6 (q R.d.v3)).set_ 7 (q R.d.v4)).set_ 8 (q R.d.v5)).set_ 9 R.s).set_ 10 (q R.n)).set_ 11 (Z R.a)
def ZH{b:D}{B:Nat}(h:Below B b w)(i:B<=g)(R:aN):Below B b (setMsg w g R):=by
 have f:=DM w g R;exact h.trans ⟨f.os,f.tape,f.output,f.size,λk d=>by
  by_cases c:k<w.heap.size;exact f.block k c V ah;have e:(setMsg w g R).heap.size=w.heap.size:=by simp[setMsg]
  rw[kQ V,kQ V]⟩
def aH.low{w'':D}{r:Option Nat}(a:aH w w' h r)(b:Below w.heap.size w' w''):aH w w'' h r:=
 ⟨b.os.trans a.os,b.tape.trans a.tape,b.output.trans a.output,aZ a.size b.size,λk c e d=>(b.block k c).trans (a.block k c e d)⟩
section
variable{w0 w:D}{bs:List (Nat×ay×Array H)}{h:Nat}{s:H}{X:List aN}{L:List bL}{C:Nat->Bool}
def bK.setMsg{c:aN}(b:bK w0 w ((g,331,aE c)::bs) h s X L C)(d:w0.heap.size<=g)(R:aN):bK w0 (setMsg w g R) ((g,331,aE R)::bs) h s X L C:=
 b.bmove d ai (DM w g R) (aav (b.T.blk g _ (aE c) ah) R)
def J3(k:Int)(f:Option Addr)(c c1:Nat)(d:M w h 149 (dZ (.slice f c c1) C))(i:decide (0<=k/\k<(c:Int))=false):
  Calls prog 223 #[N h,Z k] w λe w'=>e=.returned (.tuple #[.agg (aE aN.zero),.bool false])/\S w w':=by
 have l:=U λ(W:D) (j:S w W)=>w8 h f c c1 C k false i W (d.below j d.lt);clear d i;go_in;go_wp2_with fail;have b:aI w _ [(w.heap.size,331,aE aN.zero)]:=(aI.nil w).push (t:=331) (cs:=aE aN.zero) O;apply(l.o _ b.below).mono;rintro r m ⟨rfl,rfl⟩;obtain⟨n,u,-⟩:=b.rules;obtain⟨p,-⟩:=b.lts;go_wp2_with fail;refine eu (v:=.tuple #[.agg (aE aN.zero),.bool false]) (Jc (s1:=4) (s2:=5) Y _ w.heap.size aN.zero false _ O O (b.blk _ _ _ cz)) O ⟨O,b.below⟩
def J8(k:Nat)(m:bL)(hk:L[k]? =some m)(c:bK w0 w bs h s X L C):
  Calls prog 223 #[N h,Z (k:Int)] w λe w'=>∃u,e=.returned (.tuple #[.agg (aE ⟨m.k,m.f,m.t,m.d,u,m.n,m.a⟩),.bool true])/\w'.ownsRow w0.heap.size 64 14 u m.l.length (i8 m.l)/\(∃s' X',bK w0 w' bs h s' X' (L.eraseIdx k) C/\aH w w' h s.ownBlock/\s'.ownBlock=s.ownBlock/\∀x∈X',x∈X)/\∃x∈X,u=x.s:=by
 obtain⟨x,hx,eq,ox,om⟩:=c.evs.get hk;have β:k<X.length:=(List.getElem?_eq_some_iff.1 hx).1;obtain⟨A1,j,rfl,χ,τ,α⟩:=dS c.own;obtain⟨G,J,ex,ψ,ω,σ⟩:=dS ox;rw[ex]at eq;subst eq;clear ex;have ν:=List.mem_of_getElem? hx;dsimp only at ox;have C1:=U λ(W:D) (hW:S w W)=>w8 h A1 X.length j C (k:Int) true (decide_eq_true ⟨V,V⟩) W (c.blk.below hW c.T.lt);have C2:=U λ(W:D) (hW:W.ownsRow w0.heap.size 331 12 (.slice A1 X.length j) X.length (dw X))=>RU w0.heap.size X.length j k A1 β X O c.sl W hW;obtain⟨y,A,rfl,μ,-⟩:=xz.at_ α hx;clear σ om;have HX:=U hx;have γ:=U α;have OX:=U ox;clear hx hk α ox;have a1:(0:Int)<=(k:Int):=V;have a2:(k:Int)<(X.length:Int):=V;have π:=c.T.below.size;have Γ:X.length<=9223372036854775807:=aZ χ τ;go_in;go_wp2_with fail;have N1:bK w0 _ ((w.heap.size,331,aE aN.zero)::bs) h (.slice (some (I y A)) X.length j) X L C:=c.push (t:=331) (cs:=aE aN.zero) O;have B1:S w _:=(aq w.heap.size w).alloc (ao _) (.cells (aE aN.zero) 331 (0,0));have η:w.heap.size+1=(w.alloc (.cells (aE aN.zero) 331)).heap.size:=ah;apply(C1.o _ B1).mono;rintro r w1 ⟨rfl,rfl⟩;generalize w.alloc _=w1 at N1 B1 η⊢;obtain⟨ι,φ,ea,ζ,y0,y1,y2,y3,y4,y5,y6,y7,y8,y9,θ,κ⟩:=xz.at_ (γ.o.below B1) HX.o;obtain⟨rfl,rfl⟩:y=ι/\A=φ:=az ea;clear ea;obtain⟨q0,f0,q1,f1,-⟩:=N1.T.rules;obtain⟨l0,l1,-⟩:=N1.T.lts;have x0:w1.cell? (I h 0)=some (.slice (some (I y A)) X.length j):=q0 0;clear q0;clear η;go_upto_region 4 with fail;have B:bK w0 _ ((w1.heap.size,331,aE ⟨m.k,m.f,m.t,m.d,.slice G m.l.length J,m.n,m.a⟩)::(w.heap.size,331,aE aN.zero)::bs) h (.slice (some (I y A)) X.length j) X L C:=N1.push (t:=331) (cs:=aE ⟨m.k,m.f,m.t,m.d,.slice G m.l.length J,m.n,m.a⟩) O;have B2:=B1.alloc B1.size (.cells (aE ⟨m.k,m.f,m.t,m.d,.slice G m.l.length J,m.n,m.a⟩) 331 (0,0));generalize w1.alloc _=w2 at B B2⊢;have b:=(OX.o:w.ownsRow w0.heap.size 64 14 (.slice G m.l.length J) m.l.length (i8 m.l));replace b:=sR b B2;clear y0 y1 y2 y3 y4 y5 y6 y7 y8 y9 θ κ x0 q1 f0 f1 l0 l1 ζ γ HX OX C1 μ;obtain⟨q0,f0,q1,f1,q2,f2,-⟩:=B.T.rules;obtain⟨l0,l1,l2,-⟩:=B.T.lts;have x0:w2.cell? (I h 0)=some (.slice (some (I y A)) X.length j):=q0 0;clear q0;go_wp2_with fail;apply(C2.o w2 B.own).mono;rintro r w3 ⟨rfl,i,hg⟩;have p:w3.heap[h]? =w2.heap[h]?:=hg.block h l0 (λe=>B.s_ne e.symm);have x3:w3.cell? (I h 0)=some (.slice (some (I y A)) X.length j):=(World.cell?_of_block p).trans x0;have f3:w3.frozen? (I h 0)=false:=(World.frozen?_of_block p).trans (f0 0);have ξ:=U p;have HG:=U hg;have υ:=U i;have ε:=U b;clear x0 f0 q1 f1 q2 f2 p hg i b;go_upto_region 5 with fail;have p:=ξ.o;have hg:=HG.o;have i:=υ.o;have b:=ε.o;have F3:aH w2 (w3.setCell (I h 0) (.slice (some (I y A)) (X.length-1) j)) h (Value.slice (some (I y A)) X.length j).ownBlock:=(aH.of_grown hg).set _ O _;have b3:M w3 h 149 (dZ (.slice (some (I y A)) X.length j) C):=p.trans B.blk;have b4:M (w3.setCell (I h 0) (.slice (some (I y A)) (X.length-1) j)) h 149 (dZ (.slice (some (I y A)) (X.length-1) j) C):=b3.set_ 0 _;have δ:(X.eraseIdx k).length=X.length-1:=List.length_eraseIdx_of_lt β;have R:=(aH.of_set (w:=w3) (r:=none) (I h 0) O (.slice (some (I y A)) (X.length-1) j)).own i (λe=>B.s_ne e) (.inr (by simp[Value.ownBlock]));have N4:=B.move F3 b4 (X':=X.eraseIdx k) (L':=L.eraseIdx k) (by rw[δ];exact R) (.inl O) ((B.evs' F3).erase k);have F:=F3.own b (B.ev_ne b).1 (B.ev_ne b).2;have F4:aH w _ h (Value.slice (some (I y A)) X.length j).ownBlock:=(aH.of_below B2).trans F3;clear F3 b3 b4 R B b hg i p x3 f3 l1 l2 c δ l0;generalize (World.setCell _ _ _)=w4 at N4 F F4⊢;obtain⟨q0,f0,q1,f1,q2,f2,-⟩:=N4.T.rules;obtain⟨l0,l1,l2,-⟩:=N4.T.lts;clear q0 f0;go_wp2_with fail;have N5:=N4.swap.setMsg π ⟨m.k,m.f,m.t,m.d,.slice G m.l.length J,m.n,m.a⟩;have B5:=ZH (Below.refl w.heap.size w4) (Nat.le_refl _) ⟨m.k,m.f,m.t,m.d,.slice G m.l.length J,m.n,m.a⟩;have F5:=(DM w4 w.heap.size ⟨m.k,m.f,m.t,m.d,.slice G m.l.length J,m.n,m.a⟩).own F (un F (N4.swap.T.blk w.heap.size _ (aE aN.zero) (List.mem_cons_of_mem _ List.mem_cons_self)) ai) (by cases G<;>simp[Value.ownBlock]);have T5:=N5.T.blk w.heap.size _ _ (List.mem_cons_of_mem _ List.mem_cons_self);unfold setMsg at N5 B5 F5 T5;dsimp only at N5 B5 F5 T5;generalize (World.setCell _ _ _)=w5 at N5 B5 F5 T5⊢;refine bodyPost_ret (v:=.tuple #[.agg (aE ⟨m.k,m.f,m.t,m.d,.slice G m.l.length J,m.n,m.a⟩),.bool true]) (Jc (s1:=4) (s2:=5) Y _ w.heap.size _ true _ O O T5) O ⟨_,O,F5,⟨_,_,N5.drop.drop,F4.low B5,O,λx hx=>List.mem_of_mem_eraseIdx hx⟩,_,ν,O⟩
def O1(k:Nat)(m:bL)(j:L[k]? =some m)(b:bK w0 w bs h s X L C):
  Calls prog 223 #[N h,Z (k:Int)] w λe w'=>∃u,e=.returned (.tuple #[.agg (aE ⟨m.k,m.f,m.t,m.d,u,m.n,m.a⟩),.bool true])/\w'.ownsRow w0.heap.size 64 14 u m.l.length (i8 m.l)/\jJ w0 w w' bs h s X (L.eraseIdx k) C:=
 (J8 k m j b).mono λ_ _ ⟨u,v,p,⟨c,A,B,r,y,i⟩,_⟩=>⟨u,v,p,c,A,B,r,.inl y,λx F=>.inl (i x F)⟩
end
section
variable{w0 w w' w'':D}{bs:List (Nat×ay×Array H)}{h:Nat}{s:H}{X:List aN}{L L':List bL}{C C':Nat->Bool}
def jJ.call(c:jJ w0 w w' bs h s X L' C')(b:S w' w''):jJ w0 w w'' bs h s X L' C':=by obtain⟨e,d,n,f,r⟩:=c;exact⟨e,d,n.call b,f.low (b.mono f.size),r⟩
def Ml(k:Int)(c:Option Addr)(b c1:Nat)(f:M w h 149 (dZ (.slice c b c1) C))(d:decide (0<=k/\k<(b:Int))=false):
  Calls prog 225 #[N h,Z k] w λe w'=>e=.returned (.bool false)/\S w w':=by
 have j:=U (J3 k c b c1 f d);clear f d;go_in;go_wp2_with fail;apply j.o.mono;rintro r l ⟨rfl,i⟩;go_wp2;go_ret;exact⟨O,i.alloc i.size _⟩
def O5(k:Nat)(m:bL)(f:L[k]? =some m)(b:bK w0 w bs h s X L C):
  Calls prog 225 #[N h,Z (k:Int)] w λe w'=>e=.returned (.bool true)/\jJ w0 w w' bs h s X (L.eraseIdx k) C:=by
 have i:=U (O1 k m f b);clear f b;go_in;go_wp2_with fail;apply i.o.mono;rintro r j ⟨u,rfl,d,R⟩;obtain⟨A,c,rfl,-⟩:=dS d;clear d i;go_wp2;go_ret;exact⟨O,R.call ((aq _ _).alloc (ao _) _)⟩
end
def bK.new(w:D):bK w (w.alloc (.cells (dZ (.slice none 0 0) λ_=>false) 149)) [] w.heap.size (.slice none 0 0) [] [] λ_=>false:=
 ⟨(aI.nil w).push (t:=149) (cs:=dZ (.slice none 0 0) λ_=>false) O,ao _,trivial,trivial,(λ_ _ _ b=>aK b),sK _ _ _ _,trivial⟩
