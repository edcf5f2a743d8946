import Derived.Test.YtghdobdjfnimmaaGreatDoorZ31
import Derived.Deep.RegionLaw
set_option maxRecDepth 100000
set_option maxHeartbeats 0
set_option linter.all false
namespace Go.Proofs.YtghdobdjfnimmaaGreatDoor
open Go.Proofs.Tryz
variable{w w0 w':Yu}{bs:List (Nat×Yw×Array Yv)}{h g:Nat}{ops:Array Oper}{o:Oper}{a:Act}{Q:Exit->Act->Yu->Prop}{s:Yv}{X:List Mc}{L:List Ms}{C:Nat->Bool}{P:Program}{K:Act->Yu->Prop}{E:Prop}
section
open Go.RowKit
theorem Rz(h:Nat)(s:Yv)(C:Nat->Bool)(i j:Nat)(v:i<6)(y:j<6)(q:i≠j)(w0 w:Yu)(T:bF w0 w [(h,120,dP s C)])(m:w0.heap.size<=h):
  Yt 191 #[Yr h,.int .i64 ((i:Int)+1),.int .i64 ((j:Int)+1)] w λe w'=>e=.returned (.int .i64 0)/\bF w0 w' [(h,120,dP s (ny (ny C (i*6+j) true) (j*6+i) true))]/\Fr w w' h none:=by
 have u:=U9 (eT ((i:Int)+1) true (ia i v));have p:=U9 (eT ((j:Int)+1) true (ia j y));have F:((i:Int)+1==(j:Int)+1)=false:=by rw[Vz];omega
 have G:(0:Int)<=(i:Int):=by omega
 have H:(i:Int)<6:=by omega
 have A:(0:Int)<=(j:Int):=by omega
 have B:(j:Int)<6:=by omega
 obtain⟨n,t,-⟩:=T.rules;have D:=T.lt;have l:=jP s C (i*6+j) (by omega);have k:=jP s C (j*6+i) (by omega);rw[<-VO]at l k;have I:¬1+i*6+j=1+j*6+i:=by omega
 have J:¬1+j*6+i=1+i*6+j:=by omega
 go_enter func191,ntmps191;go_upto_region 7 with(go_at_call 207;(first|(with_reducible refine(u.o _).mono ?_)|(with_reducible refine(p.o _).mono ?_));rintro r z ⟨rfl,rfl⟩)
 go_region
 have b:=uB s C (i*6+j) (by omega) true;have c:=uB s (ny C (i*6+j) true) (j*6+i) (by omega) true;rw[<-VO]at b c;have d:=((T.set_ m trivial (1+i*6+j) (.bool true)).set_ m trivial (1+j*6+i) (.bool true)).drew;rw[b,c]at d;have f:Fr w _ h none:=((Fr.of_set (w:=w) ⟨h,1+i*6+j,none⟩ rfl (.bool true)).set ⟨h,1+j*6+i,none⟩ rfl (.bool true)).drew;clear b c n t l k;generalize World.drew _=w2 at d f⊢;go_wp2_with fail;go_ret;exact⟨rfl,d,f⟩
theorem OE(N:dK w0 w bs h s X L C)(i j:Nat)(d:i<6)(c:j<6)(b:i≠j):
  Yt 191 #[Yr h,.int .i64 ((i:Int)+1),.int .i64 ((j:Int)+1)] w λe w'=>e=.returned (.int .i64 0)/\dK w0 w' bs h s X L (ny (ny C (i*6+j) true) (j*6+i) true)/\Fr w w' h none:=by
 refine(Rz h s C i j d c b w0 w (N.T.perm (by simp)) N.hB).mono ?_;rintro e w' ⟨rfl,T,F⟩;exact⟨rfl,N.turn F (T.blk _ _ _ Vp),F⟩
theorem Cw(h:Nat)(i j:Int)(l:cB i=false\/(cB i=true/\cB j=false)\/(cB i=true/\cB j=true/\(i==j)=true))(w:Yu):Yt 191 #[Yr h,.int .i64 i,.int .i64 j] w λe w'=>e=.returned (.int .i64 10)/\w=w':=by
 rcases l with b|⟨b,c⟩|⟨b,c,m⟩
 ·have d:=U9 (eT i _ b)
  clear b;go_enter func191,ntmps191;go_wp2_with (go_at_call 207;(with_reducible refine(d.o _).mono ?_);rintro r k ⟨rfl,rfl⟩);go_ret;exact⟨rfl,rfl⟩
 ·have d:=U9 (eT i _ b)
  have f:=U9 (eT j _ c);clear b c;go_enter func191,ntmps191;go_wp2_with (go_at_call 207;(first|(with_reducible refine(d.o _).mono ?_)|(with_reducible refine(f.o _).mono ?_));rintro r k ⟨rfl,rfl⟩);go_ret;exact⟨rfl,rfl⟩
 ·have d:=U9 (eT i _ b)
  have f:=U9 (eT j _ c);clear b c;go_enter func191,ntmps191;go_wp2_with (go_at_call 207;(first|(with_reducible refine(d.o _).mono ?_)|(with_reducible refine(f.o _).mono ?_));rintro r k ⟨rfl,rfl⟩);go_ret;exact⟨rfl,rfl⟩
theorem ot(w:Yu)(g o:Nat)(t ty:Yw)(b cells:Array Yv)(l:w.heap[g]? =some (.cells b t (0,0)))(e:(P.info? ty).map (·.size)=some cells.size)
  (f:o+cells.size<=b.size) (k:cells.all (·.oneCell')=true):
  (storeVar ty ⟨g,o,none⟩ (.agg cells)).run P w=.ok () (w.setRow g (b.toList.take o++cells.toList++b.toList.drop (o+cells.size)).toArray):=by
 have:=Yj (P:=P) g o t cells.toList 0 b w l (by simpa using f) (λv j=>(VL.1 k) v (by simpa using j));cases c:P.info? ty with
 |none=>simp[c]at e
 |some i=>
  have d:cells.size=i.size:=by simp[c]at e;omega
  rw[Yc,VW]at this;rw[d]at this;simp[storeVar,sizeOf,typeInfo,c,Value.cells,d,this]
theorem ol{c:List Oper}(e:o.guard=none)(ty:Yw)(x y:Yx)(f:o.op=.store ty x y)
  (g off:Nat) (cells:Array Yv) (n:a.eval x=.pointer (some ⟨g,off,none⟩)) (i:a.eval y=.agg cells)
  (t:Yw) (b:Array Yv) (l:w.heap[g]? =some (.cells b t (0,0))) (m:(P.info? ty).map (·.size)=some cells.size)
  (d:off+cells.size<=b.size) (k:cells.all (·.oneCell')=true)
  (h:wpList P ops Q c (a.put o.dst undef) (w.setRow g (b.toList.take off++cells.toList++b.toList.drop (off+cells.size)).toArray)):wpList P ops Q (o::c) a w:=by
 refine Xo e λ_ j=>?_
 unfold Oper.wp execOp;simp only[f,n,i,Instr.storeAt,Instr.sureAddr,Wu,XK,V2,ot w g off t ty b cells l m d k];exact j _ _ h
theorem bF.row{t:Yw}{cs:Array Yv}(h:bF w0 w ((g,t,cs)::bs))(m:w0.heap.size<=g)(d:mS g bs)(b:Array Yv):bF w0 (w.setRow g b) ((g,t,b)::bs):=by
 have j:=h.blk _ _ _ Vp;refine⟨⟨h.below.os,h.below.tape,h.below.output,Vi h.below.size (by simp[World.setRow]),λk f=>?_⟩,λl t' i hm=>?_⟩
 ·rw[Wv w g k _ (by omega)]
  exact h.below.block k f
 ·rcases Vy.1 hm with e|hm
  ·cases e
   exact WB w g _ _ t _ j
  ·have c:=h.blk _ _ _ (VA _ hm)
   unfold ai at c⊢;rw[Wv w g l _ (d.o _ _ _ hm)];exact c
def yY:Array Yv:=#[.bool false,.bool false,.bool false,.bool false,.bool false,.bool false,.bool false,.bool false,.bool false,.bool false,.bool false,.bool false,.bool false,.bool false,.bool false,.bool false,.bool false,.bool false,.bool false,.bool false,.bool false,.bool false,.bool false,.bool false,.bool false,.bool false,.bool false,.bool false,.bool false,.bool false,.bool false,.bool false,.bool false,.bool false,.bool false,.bool false]
theorem EJ(s:Yv)(C:Nat->Bool):1+yY.size<=(dP s C).size:=Vc 37
theorem Aa(s:Yv)(C:Nat->Bool):((dP s C).toList.take 1++yY.toList++(dP s C).toList.drop (1+yY.size)).toArray=dP s λ_=>false:=by kernel_rfl
theorem Oy(h:Nat)(s:Yv)(C:Nat->Bool)(w0 w:Yu)(T:bF w0 w [(h,120,dP s C)])(f:w0.heap.size<=h):
  Yt 161 #[Yr h] w λe w'=>e=.returned (.tuple #[])/\bF w0 w' [(h,120,dP s λ_=>false)]/\w'=w.setRow h (dP s λ_=>false):=by
 have c:=T.blk _ _ _ Vp;obtain⟨b,k,-⟩:=T.rules;have i:=T.lt;have j:w.cell? ⟨h,0,none⟩=some s:=by rw[b];rfl
 clear b;have d:=U9 c;clear c;go_enter func161,ntmps161;go_wp2_with (refine ol rfl _ (.tmp 7) (.tmp 5) rfl h 1 yY rfl rfl _ _ d.o (by kernel_rfl) (EJ s C) (by kernel_rfl) ?_;rw[Aa])
 go_end0
 exact⟨rfl,T.row f trivial _,rfl⟩
theorem KP(N:dK w0 w bs h s X L C):
  Yt 161 #[Yr h] w λe w'=>e=.returned (.tuple #[])/\dK w0 w' bs h s X L (λ_=>false)/\Fr w w' h none:=by
 refine(Oy h s C w0 w (N.T.perm (by simp)) N.hB).mono ?_;rintro e w' ⟨rfl,T,rfl⟩;have F:Fr w (w.setRow h (dP s λ_=>false)) h none:=Fr.refl.row _;exact⟨rfl,N.turn F (T.blk _ _ _ Vp),F⟩
end
section
open Go.RowKit Go
section
variable(ρ:Yx->Yv)(dst:Option Tmp)(ty:Yw)(x:Yx)(pos:String)(after:Array Edge)(guard:Option (Nat×Bool))
@[go_sem ↓ high] theorem Fu:execOp ρ {dst,op:=.buildSlice 117 1 #[(0,x)],type:=ty,pos,after,guard}=iJ 117 (ρ x):=by simp[execOp,iJ]
end
@[go_sem] theorem J7(x:Mc)(w:Yu):(iJ 117 (.agg (aR x))).run prog w=.ok (.value (.slice (some ⟨w.heap.size,0,none⟩) 1 1)) (w.alloc (.cells (aR x) 297)):=by kernel_rfl
theorem rx(k:o.guard=none)(f:FuncId)(args:Array Yv)(i:(execOp a.eval o).run P w=.ok (.enter f args) w)
  {R:Ending->Yu->Prop} (c:Calls P f args w R) (h:∀e w',R e w'->∃u,e=.returned u/\K (a.put o.dst u) w'):if Region.wanted o (yielded ops a.tmps)=true then Oper.wp P o a w K Q else E:=by
 have b:Region.wanted o (yielded ops a.tmps)=true:=by simp[Region.wanted,k]
 rw[Vh b];unfold Oper.wp;rw[i];refine Xi c λe w' j=>?_
 obtain⟨u,rfl,d⟩:=h e w' j;exact d
theorem jL(i:o.guard=none)(s x:Yx)
  (H:o.op=.call {callee:=.builtin .append,args:=#[s,x],argTypes:=#[117,117]})
  (base:Nat) (v:Yv) (L:List Mc) (y:Mc) (l:y.sl) (J:a.eval s=v) (e:w.ownsRow base 297 12 v L.length (aS L)) (g:Nat) (M:a.eval x=.slice (some ⟨g,0,none⟩) 1 1) (A:ai w g 297 (aR y))
  (N:L.length<=100000) (c:base<=w.heap.size)
  (h:∀d w',w'.ownsRow base 297 12 d (L++[y]).length (aS (L++[y]))->Below base w w'->w.grownBy w' v.ownBlock->(d.ownBlock=v.ownBlock\/∀b,d.ownBlock=some b->w.heap.size<=b)->K (a.put o.dst d) w'):if Region.wanted o (yielded ops a.tmps)=true then Oper.wp prog o a w K Q else E:=by
 have G:Region.wanted o (yielded ops a.tmps)=true:=by simp[Region.wanted,i]
 rw[Vh G];obtain⟨F,r,k,m,n⟩:=V7 sZ;obtain⟨q,-⟩:=A.rules;have p:Rd w w.heap.size 12 (some ⟨g,0,none⟩) 1 (aS [y]):=⟨by rw[bO];rfl,λ_=>⟨g,0,rfl,A.lt,λj u z=>by
  rw[xe,VK]at z;rw[Vk,q];exact z⟩⟩
 obtain⟨d,w',f,t,I,B,D⟩:=jy (P:=prog) w base 117 o.type 297 F (.agg #[.int .u8 0,.int .i64 0,.int .i64 0,.int .u64 0,.int .u64 0,.int .u64 0,.int .u64 0,.int .u64 0,.int .u64 0,.slice none 0 0,.int .u64 0,.int .i64 0]) 12 112 underlying117 r k m n rfl (by decide) v L.length (aS L) e w.heap.size (some ⟨g,0,none⟩) 1 1 (aS [y]) p (nS (by simpa using l)) (by unfold maxLen;omega) (by omega) c;unfold Oper.wp execOp;simp only[H,resolve,invoke,builtin,Wu,XK,V2,Wy,VG,WQ,J,M,f];rw[<-fR]at t;exact h d w' (by rw[Vl];exact t) I B D
def fH(w0 w w':Yu)(bs:List (Nat×Yw×Array Yv))(h:Nat)(s:Yv)(X:List Mc)(L':List Ms)(C':Nat->Bool):Prop:=
 ∃s' X',dK w0 w' bs h s' X' L' C'/\Fr w w' h s.ownBlock/\(s'.ownBlock=s.ownBlock\/∀k,s'.ownBlock=some k->w.heap.size<=k)/\∀x∈X',x∈X\/∀k,x.s.ownBlock=some k->w.heap.size<=k
section
variable{w0 w:Yu}{bs:List (Nat×Yw×Array Yv)}{h:Nat}{s:Yv}{X:List Mc}{L:List Ms}{C:Nat->Bool}
theorem fH.same(N:dK w0 w bs h s X L C)(b:Ys w w'):fH w0 w w' bs h s X L C:=
 ⟨s,X,N.call b,Fr.of_below b,.inl rfl,λ_ c=>.inl c⟩
theorem Cr(m:Ms)(o:m.ok)(j:ee m=false)(A:Option Addr)(c:Nat)(u:fC w w.heap.size A m.l)(z:m.l.length<=c)(i:c<=maxLen)(v:ai w h 120 (dP s C)):
  Yt 186 #[Yr h,.agg (aR ⟨m.k,m.f,m.t,m.d,.slice A m.l.length c,m.n,m.a⟩)] w λe w'=>e=.returned (.int .i64 1)/\Ys w w':=by
 have y:=U9 λ(W:Yu) (p:Ys w W)=>uE m o false j A c W ((u.below p).mono p.size) z i
 clear u o j v;go_enter func186,ntmps186;go_wp2_with fail;have b:bF w _ [(w.heap.size,297,aR ⟨m.k,m.f,m.t,m.d,.slice A m.l.length c,m.n,m.a⟩)]:=(bF.nil w).push (t:=297) (cs:=aR ⟨m.k,m.f,m.t,m.d,.slice A m.l.length c,m.n,m.a⟩) rfl;refine(y.o _ b.below).mono ?_;rintro r D ⟨rfl,q⟩;have B:=b.call q;clear b q;go_wp2_with fail;go_ret;exact⟨rfl,B.below⟩
end
theorem fH.drop{t:Yw}{cs:Array Yv}(N:fH w0 w w' ((g,t,cs)::bs) h s X L C):fH w0 w w' bs h s X L C:=by
 obtain⟨s',X',n,r⟩:=N;exact⟨s',X',n.drop,r⟩
theorem yG{i q:Yu}{m:Ms}{u c:Yv}{b:Nat}(v:dK w0 i bs h s X L C)(B:Ys w i)(p:i.ownsRow b 53 14 u m.l.length (dH m.l))(H:w0.heap.size<=b)(F:w.heap.size<=b)(ok:m.ok)(o:Obj)(M:(i.alloc o).grownBy q s.ownBlock)
  (j:q.ownsRow w0.heap.size 297 12 c (X++[(⟨m.k,m.f,m.t,m.d,u,m.n,m.a⟩:Mc)]).length (aS (X++[⟨m.k,m.f,m.t,m.d,u,m.n,m.a⟩]))) (z:c.ownBlock=s.ownBlock\/∀b,c.ownBlock=some b->(i.alloc o).heap.size<=b):
  fH w0 w (q.setCell ⟨h,0,none⟩ c) bs h s X (L++[m]) C:=by
 have S:Fr i (i.alloc o) h s.ownBlock:=Fr.of_below ((Vd _ _).alloc (Vc _) _);have R:Fr i q h s.ownBlock:=S.trans (Fr.of_grown M);have D:Fr i (q.setCell ⟨h,0,none⟩ c) h s.ownBlock:=R.set _ rfl _;have J:ai q h 120 (dP s C):=(M.block h (Vq v.T.lt (by simp)) (λe=>v.s_ne e.symm)).trans (v.blk.alloc o);have O:ai (q.setCell ⟨h,0,none⟩ c) h 120 (dP c C):=by rw[<-zZ s c C];exact J.set_ 0 c
 have A:=(Fr.of_set (w:=q) (r:=none) ⟨h,0,none⟩ rfl c).own j (fJ j J (by decide)) (by cases c.ownBlock<;>simp);have N:i.heap.size<=(i.alloc o).heap.size:=by simp
 have G:=B.size;refine⟨c,X++[(⟨m.k,m.f,m.t,m.d,u,m.n,m.a⟩:Mc)],v.move D O A (z.imp id λI k y=>Vi N (I k y)) (gw.snoc (v.evs' D) ⟨rfl,db (D.own p (v.ev_ne p).1 (v.ev_ne p).2) H,ok⟩),(Fr.of_below B).trans D,z.imp id λI k y=>Vi G (Vi N (I k y)),λx hx=>?_⟩;rcases Vw.1 hx with hx|hx
 ·exact .inl hx
 ·obtain rfl:=VH.1 hx
  exact .inr λk y=>Vi F (p.lt k y).1
section
variable{w0 w:Yu}{bs:List (Nat×Yw×Array Yv)}{h:Nat}{s:Yv}{X:List Mc}{L:List Ms}{C:Nat->Bool}
theorem Cs(k:Int)(i j:Nat)(V:i<6)(Y:j<6)(d:av)(l:List Ev)(n a:Int)(o:(⟨k,(i:Int)+1,(j:Int)+1,d,l,n,a⟩:Ms).ok)(H:ee ⟨k,(i:Int)+1,(j:Int)+1,d,l,n,a⟩=true)(A:Option Addr)(c:Nat)(F:fC w w.heap.size A l)(M:l.length<=c)(p:c<=maxLen)
  (v:ai w h 120 (dP s C)) (J:C (i*6+j)=true):
  Yt 186 #[Yr h,.agg (aR ⟨k,(i:Int)+1,(j:Int)+1,d,.slice A l.length c,n,a⟩)] w λe w'=>e=.returned (.int .i64 0)/\Ys w w':=by
 have G:=U9 λ(W:Yu) (B:Ys w W)=>uE ⟨k,(i:Int)+1,(j:Int)+1,d,l,n,a⟩ o true H A c W ((F.below B).mono B.size) M p
 have D:=U9 v;have m:=v.lt;clear F o H v;dsimp only at G;have a1:(0:Int)<=(i:Int):=by omega
 have Z:(i:Int)<6:=by omega
 have S:(0:Int)<=(j:Int):=by omega
 have T:(j:Int)<6:=by omega
 go_enter func186,ntmps186;go_wp2_with fail;have u:bF w _ [(w.heap.size,297,aR ⟨k,(i:Int)+1,(j:Int)+1,d,.slice A l.length c,n,a⟩)]:=(bF.nil w).push (t:=297) (cs:=aR ⟨k,(i:Int)+1,(j:Int)+1,d,.slice A l.length c,n,a⟩) rfl;refine(G.o _ u.below).mono ?_;rintro r I ⟨rfl,z⟩;have f:=u.call z;have b:ai I h 120 (dP s C):=(f.below.block h m).trans D.o;clear u z;obtain⟨R,O,-⟩:=f.rules;obtain⟨l1,-⟩:=f.lts;obtain⟨y,N⟩:=b.rules;have U:=b.lt;have q:=jP s C (i*6+j) (by omega);rw[<-VO,J]at q;have x1:I.cell? ⟨h,1+i*6+j,none⟩=some (.bool true):=by rw[y];exact q
 clear q y D b;go_upto_region 5 with fail
 go_region
 go_wp2_with fail;go_ret;exact⟨rfl,f.drew.below⟩
theorem zV(k:Int)(i j:Nat)(hi:i<6)(hj:j<6)(d:av)(l:List Ev)(n a:Int)(o:(⟨k,(i:Int)+1,(j:Int)+1,d,l,n,a⟩:Ms).ok)(M:ee ⟨k,(i:Int)+1,(j:Int)+1,d,l,n,a⟩=true)(A:Option Addr)(c:Nat)(I:fC w w.heap.size A l)(R:l.length<=c)(v:c<=maxLen)
  (m:Option Addr) (f c1:Nat) (B:ai w h 120 (dP (.slice m f c1) C)) (N:C (i*6+j)=false) (O:(128:Int)<=(f:Int)):
  Yt 186 #[Yr h,.agg (aR ⟨k,(i:Int)+1,(j:Int)+1,d,.slice A l.length c,n,a⟩)] w λe w'=>e=.returned (.int .i64 7)/\Ys w w':=by
 have J:=U9 λ(W:Yu) (G:Ys w W)=>uE ⟨k,(i:Int)+1,(j:Int)+1,d,l,n,a⟩ o true M A c W ((I.below G).mono G.size) R v
 have H:=U9 B;have q:=B.lt;clear I o M B;dsimp only at J;have a1:(0:Int)<=(i:Int):=by omega
 have a2:(i:Int)<6:=by omega
 have Z:(0:Int)<=(j:Int):=by omega
 have a4:(j:Int)<6:=by omega
 have Y:decide ((128:Int)<=(f:Int))=true:=Vg O;go_enter func186,ntmps186;go_wp2_with fail;have z:bF w _ [(w.heap.size,297,aR ⟨k,(i:Int)+1,(j:Int)+1,d,.slice A l.length c,n,a⟩)]:=(bF.nil w).push (t:=297) (cs:=aR ⟨k,(i:Int)+1,(j:Int)+1,d,.slice A l.length c,n,a⟩) rfl;refine(J.o _ z.below).mono ?_;rintro r D ⟨rfl,F⟩;have p:=z.call F;have b:ai D h 120 (dP (.slice m f c1) C):=(p.below.block h q).trans H.o;clear z F;obtain⟨V,U,-⟩:=p.rules;obtain⟨l1,-⟩:=p.lts;obtain⟨u,T⟩:=b.rules;have l0:=b.lt;have y:=jP (.slice m f c1) C (i*6+j) (by omega);rw[<-VO,N]at y;have x1:D.cell? ⟨h,1+i*6+j,none⟩=some (.bool false):=by rw[u];exact y
 have S:D.cell? ⟨h,0,none⟩=some (.slice m f c1):=by rw[u];rfl
 clear y u H b;go_upto_region 5 with fail
 go_region
 go_wp2_with fail;go_ret;exact⟨rfl,p.drew.below⟩
theorem Gm(k:Int)(i j:Nat)(hi:i<6)(hj:j<6)(d:av)(l:List Ev)(n a:Int)(o:(⟨k,(i:Int)+1,(j:Int)+1,d,l,n,a⟩:Ms).ok)(hm:ee ⟨k,(i:Int)+1,(j:Int)+1,d,l,n,a⟩=true)(A:Option Addr)(c:Nat)(V:fC w w.heap.size A l)(hc:l.length<=c)(U:c<=maxLen)(hn:l.length<=100000)
  (N:dK w0 w bs h s X L C) (hC:C (i*6+j)=false) (hX:X.length<128):
  Yt 186 #[Yr h,.agg (aR ⟨k,(i:Int)+1,(j:Int)+1,d,.slice A l.length c,n,a⟩)] w λe w'=>e=.returned (.int .i64 0)/\fH w0 w w' bs h s X (L++[⟨k,(i:Int)+1,(j:Int)+1,d,l,n,a⟩]) C:=by
 have C1:=U9 λ(W:Yu) (G:Ys w W)=>uE ⟨k,(i:Int)+1,(j:Int)+1,d,l,n,a⟩ o true hm A c W ((V.below G).mono G.size) hc U
 have C2:=U9 λ(W:Yu) (G:Ys w W)=>Ox ⟨k,(i:Int)+1,(j:Int)+1,d,l,n,a⟩ A c W ((V.below G).mono G.size) hn
 have OK:=U9 o;clear V o hm;dsimp only at C1 C2;obtain⟨y,c1,rfl,-⟩:=aF N.own;have a1:(0:Int)<=(i:Int):=by omega
 have a2:(i:Int)<6:=by omega
 have a3:(0:Int)<=(j:Int):=by omega
 have a4:(j:Int)<6:=by omega
 have d1:decide ((128:Int)<=(X.length:Int))=false:=Vj (by omega);go_enter func186,ntmps186;go_wp2_with fail;have N0:dK w0 _ ((w.heap.size,297,aR ⟨k,(i:Int)+1,(j:Int)+1,d,.slice A l.length c,n,a⟩)::bs) h (.slice y X.length c1) X L C:=N.push (t:=297) (cs:=aR ⟨k,(i:Int)+1,(j:Int)+1,d,.slice A l.length c,n,a⟩) rfl;have Y:Ys w _:=(Vd w.heap.size w).alloc (Vc _) (.cells (aR ⟨k,(i:Int)+1,(j:Int)+1,d,.slice A l.length c,n,a⟩) 297 (0,0));refine(C1.o _ Y).mono ?_;rintro r w2 ⟨rfl,q⟩;have I:=N0.call q;have B2:=Y.trans (q.mono (by simp));clear N0 Y q;obtain⟨B,M,S,O,-⟩:=I.T.rules;obtain⟨Z,l1,-⟩:=I.T.lts;have g1:=jP (.slice y X.length c1) C (i*6+j) (by omega);rw[<-VO,hC]at g1;have x1:w2.cell? ⟨h,1+i*6+j,none⟩=some (.bool false):=by rw[<-g1];exact B _
 have J:w2.cell? ⟨h,0,none⟩=some (.slice y X.length c1):=B 0;clear g1 B;go_upto_region 5 with fail
 go_region
 go_upto_region 9 with fail;have D:=I.drew;have F:=B2.drew;clear I B2 M S O Z l1 x1 J N;generalize w2.drew=w3 at D F⊢;obtain⟨B,M,S,O,-⟩:=D.T.rules;obtain⟨Z,l1,-⟩:=D.T.lts;have J:w3.cell? ⟨h,0,none⟩=some (.slice y X.length c1):=B 0;clear B
 go_region_law (first|(refine rx rfl 202 #[.agg (aR ⟨k,(i:Int)+1,(j:Int)+1,d,.slice A l.length c,n,a⟩)] (by simp[execOp,go_sem]<;>rfl) (C2.o _ F.drew) ?_;rintro e w4 ⟨u,rfl,z,q⟩;refine⟨_,rfl,?_⟩;have f:=D.drew.call q;have B4:=F.drew.trans (q.mono F.size);have y0:w4.cell? ⟨h,0,none⟩=some (.slice y X.length c1):=f.T.rules.1 0;have m0:=f.T.lt)|(refine jL rfl (.tmp 36) (.tmp 39) rfl w0.heap.size _ X ⟨k,(i:Int)+1,(j:Int)+1,d,u,n,a⟩ ?sl rfl (f.own.alloc _) w4.heap.size rfl (ai.new_at rfl rfl) (by omega) (Vi f.T.below.size (by simp)) ?_;(case sl=>(obtain⟨A9,c9,e9,-⟩:=aF z;exact⟨A9,_,c9,e9⟩));intro v' w5 b α p H;obtain⟨A5,c5,e5,-⟩:=aF b;obtain rfl:v'=.slice A5 (X.length+1) c5:=(by rw[e5,Vl];rfl);clear e5;have z0:w5.cell? ⟨h,0,none⟩=some (.slice y X.length c1):=p.cell (a:=⟨h,0,none⟩) (v:=.slice y X.length c1) ((f.blk.alloc _).rules.1 0) (λe=>f.s_ne e.symm);have z1:w5.frozen? ⟨h,0,none⟩=false:=by rw[World.frozen?_of_block (p.block h (Vq m0 (by simp)) (λe=>f.s_ne e.symm))];exact((f.blk.alloc _).rules).2 0))
 all_goals
  have R:=(yG (m:=⟨k,(i:Int)+1,(j:Int)+1,d,l,n,a⟩) f B4 z (Vi D.T.below.size (Vc _)) F.size OK.o _ p b H).drop;clear f B4 D F z α p b H y0 m0 z0 z1 J S M O Z l1 q;generalize (World.setCell _ _ _)=w6 at R⊢;go_wp2_with fail;go_ret;exact⟨rfl,R⟩
end
def Ho(m:Ms):Nat:=(m.f-1).toNat*6+(m.t-1).toNat
def sN(L:List Ms)(C:Nat->Bool)(m:Ms):Int:=if ee m=false then 1 else if C (Ho m)=true then 0 else if 128<=L.length then 7 else 0
def qR(L:List Ms)(C:Nat->Bool)(m:Ms):List Ms:=if ee m=false then L else if C (Ho m)=true then L else if 128<=L.length then L else L++[m]
theorem uJ{m:Ms}(h:ee m=true):∃i j:Nat,i<6/\j<6/\i≠j/\m.f=(i:Int)+1/\m.t=(j:Int)+1:=by
 unfold ee ig at h;simp only[Vo,VC]at h;obtain⟨i,l,k⟩:=gd h.1.1.1.1;obtain⟨j,d,c⟩:=gd h.1.1.1.2;have b:=h.1.1.2;exact⟨i,j,l,d,λe=>b (by omega),k,c⟩
section
variable{w0 w:Yu}{bs:List (Nat×Yw×Array Yv)}{h:Nat}{s:Yv}{X:List Mc}{L:List Ms}{C:Nat->Bool}
theorem Rv(m:Ms)(o:m.ok)(A:Option Addr)(c:Nat)(F:fC w w.heap.size A m.l)(D:m.l.length<=c)(q:c<=maxLen)(M:m.l.length<=100000)(N:dK w0 w bs h s X L C):
  Yt 186 #[Yr h,.agg (aR ⟨m.k,m.f,m.t,m.d,.slice A m.l.length c,m.n,m.a⟩)] w λe w'=>e=.returned (.int .i64 (sN L C m))/\fH w0 w w' bs h s X (qR L C m) C:=by
 cases b:ee m with
 |false=>
  have r:sN L C m=1:=by simp[sN,b]
  have u:qR L C m=L:=by simp[qR,b]
  rw[r,u];refine(Cr m o b A c F D q N.blk).mono ?_;rintro e w' ⟨rfl,v⟩;exact⟨rfl,.same N v⟩
 |true=>
  obtain⟨i,j,H,G,-,B,y⟩:=uJ b;have hcut:Ho m=i*6+j:=by simp[Ho,B,y]
  have J:=N.evs.len;cases p:C (i*6+j)with
  |true=>
   have r:sN L C m=0:=by simp[sN,b,hcut,p]
   have u:qR L C m=L:=by simp[qR,b,hcut,p]
   rw[r,u];obtain⟨k,f,t,d,l,n,a⟩:=m;dsimp only at*;subst B y;refine(Cs k i j H G d l n a o b A c F D q N.blk p).mono ?_;rintro e w' ⟨rfl,v⟩;exact⟨rfl,.same N v⟩
  |false=>
   by_cases z:128<=L.length
   ·have r:sN L C m=7:=by simp[sN,b,hcut,p,z]
    have u:qR L C m=L:=by simp[qR,b,hcut,p,z]
    rw[r,u];obtain⟨I,c1,rfl,-⟩:=aF N.own;obtain⟨k,f,t,d,l,n,a⟩:=m;dsimp only at*;subst B y;refine(zV k i j H G d l n a o b A c F D q I X.length c1 N.blk p (by omega)).mono ?_;rintro e w' ⟨rfl,v⟩;exact⟨rfl,.same N v⟩
   ·have r:sN L C m=0:=by simp[sN,b,hcut,p,z]
    have u:qR L C m=L++[m]:=by simp[qR,b,hcut,p,z]
    rw[r,u];obtain⟨k,f,t,d,l,n,a⟩:=m;dsimp only at*;subst B y;exact Gm k i j H G d l n a o b A c F D q M N p (by omega)
theorem uy(k:Int)(c:Option Addr)(b c1:Nat)(f:ai w h 120 (dP (.slice c b c1) C))(d:decide (0<=k/\k<(b:Int))=false):
  Yt 190 #[Yr h,.int .i64 k] w λe w'=>e=.returned (.int .i64 4)/\w=w':=by
 have i:=U9 (pI h c b c1 C k false d w f);clear f d;go_enter func190,ntmps190;go_wp2_with (go_at_call 203;(with_reducible refine i.o.mono ?_);rintro r j ⟨rfl,rfl⟩);go_ret;exact⟨rfl,rfl⟩
theorem uz(k:Int)(d:Option Addr)(b c1:Nat)(c:ai w h 120 (dP (.slice d b c1) C))(f:decide (0<=k/\k<(b:Int))=true)(j:(128:Int)<=(b:Int)):
  Yt 190 #[Yr h,.int .i64 k] w λe w'=>e=.returned (.int .i64 7)/\w=w':=by
 have i:=U9 (pI h d b c1 C k true f w c);obtain⟨q,-⟩:=c.rules;have n:w.cell? ⟨h,0,none⟩=some (.slice d b c1):=q 0;have m:=c.lt;have p:decide ((128:Int)<=(b:Int))=true:=Vg j;clear c f q;go_enter func190,ntmps190;go_wp2_with (go_at_call 203;(with_reducible refine i.o.mono ?_);rintro r l ⟨rfl,rfl⟩);go_ret;exact⟨rfl,rfl⟩
theorem zU(k:Nat)(m:Ms)(O:L[k]? =some m)(hn:m.l.length<=100000)(N:dK w0 w bs h s X L C)(hX:X.length<128):
  Yt 190 #[Yr h,.int .i64 (k:Int)] w λe w'=>e=.returned (.int .i64 0)/\fH w0 w w' bs h s X (L++[m]) C:=by
 obtain⟨x,B,U,Y,om⟩:=N.evs.get O;have α:k<X.length:=(List.getElem?_eq_some_iff.1 B).1;obtain⟨A1,c1,rfl,θ,ζ,q⟩:=aF N.own;obtain⟨Ax,S,I,γ,ε,y⟩:=aF Y;rw[I]at U;subst U;clear I;dsimp only at Y;have C1:=U9 (pI h A1 X.length c1 C (k:Int) true (decide_eq_true ⟨by omega,by omega⟩) w N.blk);have C2:=U9 λ(W:Yu) (M:Ys w W)=>Ox m Ax S W ((y.below M).mono M.size) hn
 have OK:=U9 om;obtain⟨z,A,rfl,δ,y0,y1,y2,y3,y4,y5,y6,y7,y8,y9,β,η⟩:=vX.at_ q B;clear q y om;have HX:=U9 B;clear B O;have a1:(0:Int)<=(k:Int):=by omega
 have a2:(k:Int)<(X.length:Int):=by omega
 have d1:decide ((128:Int)<=(X.length:Int))=false:=Vj (by omega);obtain⟨J,f0,-⟩:=N.T.rules;obtain⟨l0,-⟩:=N.T.lts;have x0:w.cell? ⟨h,0,none⟩=some (.slice (some ⟨z,A,none⟩) X.length c1):=J 0;clear J;go_enter func190,ntmps190;go_upto_region 7 with(go_at_call 203;(with_reducible refine C1.o.mono ?_);rintro r w1 ⟨rfl,rfl⟩)
 go_region_law (first|(refine rx rfl 202 #[.agg (aR ⟨m.k,m.f,m.t,m.d,.slice Ax m.l.length S,m.n,m.a⟩)] (by simp[execOp,go_sem]<;>rfl) (C2.o _ (Vd _ _).drew) ?_;rintro e G ⟨u,rfl,j,D⟩;refine⟨_,rfl,?_⟩;have c:=N.drew.call D;have B4:=((Vd w.heap.size w).drew).trans D;have z9:G.cell? ⟨h,0,none⟩=some (.slice (some ⟨z,A,none⟩) X.length c1):=c.T.rules.1 0;have Z:=c.T.lt)|(refine jL rfl (.tmp 24) (.tmp 33) rfl w0.heap.size _ X ⟨m.k,m.f,m.t,m.d,u,m.n,m.a⟩ ?sl rfl (c.own.alloc _) G.heap.size rfl (ai.new_at rfl rfl) (by omega) (Vi c.T.below.size (by simp)) ?_;(case sl=>(obtain⟨A9,c9,e9,-⟩:=aF j;exact⟨A9,_,c9,e9⟩));intro v' V b F i p;obtain⟨A5,c5,H,-⟩:=aF b;obtain rfl:v'=.slice A5 (X.length+1) c5:=(by rw[H,Vl];rfl);clear H;have z0:V.cell? ⟨h,0,none⟩=some (.slice (some ⟨z,A,none⟩) X.length c1):=i.cell (a:=⟨h,0,none⟩) (v:=.slice (some ⟨z,A,none⟩) X.length c1) ((c.blk.alloc _).rules.1 0) (λe=>c.s_ne e.symm);have z1:V.frozen? ⟨h,0,none⟩=false:=by rw[World.frozen?_of_block (i.block h (Vq Z (by simp)) (λe=>c.s_ne e.symm))];exact((c.blk.alloc _).rules).2 0))
 all_goals
  have R:=yG (m:=m) c B4 j (Vi N.T.below.size (Vc _)) (Vc _) OK.o _ i b p;clear c B4 N j F i b p Z z0 z1 z9 x0 f0 l0 D;generalize (World.setCell _ _ _)=w6 at R⊢;go_wp2_with fail;go_ret;exact⟨rfl,R⟩
end
theorem o7(k:o.guard=none)(s x:Yx)
  (z:o.op=.call {callee:=.builtin .append,args:=#[s,x],argTypes:=#[117,117]})
  (g n cap:Nat) (cur:Array Yv) (G:w.heap[g]? =some (.cells cur 297 (0,0))) (F:a.eval s=.slice (some ⟨g,0,none⟩) n cap) (A:Addr) (m c:Nat) (H:a.eval x=.slice (some A) m c) (L:List Mc) (y:L.length=m) (l:∀x∈L,x.sl)
  (d:∀j u,(aS L)[j]? =some u->w.cell? (A.add j)=some u) (r:Nat) (B:n+m=r) (f:n+m<=cap) (i:n*12+m*12<=cur.size)
  (h:K (a.put o.dst (.slice (some ⟨g,0,none⟩) r cap)) (w.setRow g (cur.toList.take (n*12)++aS L++cur.toList.drop (n*12+m*12)).toArray)):if Region.wanted o (yielded ops a.tmps)=true then Oper.wp prog o a w K Q else E:=by
 subst y;subst B;have t:Region.wanted o (yielded ops a.tmps)=true:=by simp[Region.wanted,k]
 rw[Vh t];obtain⟨q,p,D,e,v⟩:=V7 sZ;have b:=XY (P:=prog) w 117 o.type 297 q underlying117 p g n cap cur G A L.length c (aS L) (by rw[bO,e]) d (nS l) f (by rw[e,bO];exact i);rw[e,bO]at b;unfold Oper.wp execOp;simp only[z,resolve,invoke,builtin,Wu,XK,V2,Wy,VG,WQ,F,H,b];exact h
theorem yh(w:Yu):(zeroValue 297).run prog w=.ok (.agg (aR Mc.zero)) w:=by kernel_rfl
theorem qL:(Builtin.zeroCells (Value.agg (aR Mc.zero)).cells 1).toList=(aR Mc.zero).toList:=by kernel_rfl
theorem oT:(Builtin.zeroCells (Value.agg #[.int .u8 0,.int .i64 0,.int .i64 0,.int .u64 0,.int .u64 0,.int .u64 0,.int .u64 0,.int .u64 0,.int .u64 0,.slice none 0 0,.int .u64 0,.int .i64 0]).cells 1).toList=(aR Mc.zero).toList:=by kernel_rfl
theorem oo{b:List Oper}(f:o.guard=none)(x:Yx)(j:o.op=.call {callee:=.builtin .clear,args:=#[x],argTypes:=#[117]})
  (g off c:Nat) (m:a.eval x=.slice (some ⟨g,off,none⟩) 1 c) (cur:Array Yv) (t:Yw) (l:w.heap[g]? =some (.cells cur t (0,0))) (i:off+12<=cur.size)
  (h:wpList prog ops Q b (a.put o.dst (.tuple #[])) (w.setRow g (cur.toList.take off++(aR Mc.zero).toList++cur.toList.drop (off+12)).toArray)):wpList prog ops Q (o::b) a w:=by
 have d:=Yj (P:=prog) g off t (aR Mc.zero).toList 0 cur w l (by rw[Yc];exact i) (by decide);rw[Yc,show(aR Mc.zero).toList.length=12 from rfl]at d;have e:(Builtin.clear_ #[117] o.type #[.slice (some ⟨g,off,none⟩) 1 c]).run prog w=.ok (.tuple #[]) (w.setRow g (cur.toList.take off++(aR Mc.zero).toList++cur.toList.drop (off+12)).toArray):=by
  simp only[Builtin.clear_,VD underlying117,Wu,V2,yh,qL];simp[yh];rw[oT,d];simp
 refine Xo f λ_ k=>?_
 unfold Oper.wp execOp;simp only[j,resolve,invoke,builtin,Wu,XK,V2,Wy,VG,WQ,m,e];exact k _ _ h
def nv(cur:Array Yv)(i j n:Nat):Array Yv:=(cur.toList.take (i*12)++(cur.toList.take (n*12)).drop (j*12)++cur.toList.drop (i*12+(n-j)*12)).toArray
theorem Cu(g n c i j q:Nat)(O:q+1=n)(W:i<j)(U:j<=i+1)(hj:j<=n)(γ:n<=c)(R:c<=maxLen)(X:List Mc)(v:X.length=n)(y:∀x∈X,x.sl)(w:Yu)(cur:Array Yv)(F:ai w g 297 cur)(m:cur.size=c*12)(b:cur.toList.take (n*12)=aS X):
  Yt 204 #[.slice (some ⟨g,0,none⟩) n c,.int .i64 (i:Int),.int .i64 (j:Int)] w λe w'=>e=.returned (.slice (some ⟨g,0,none⟩) q c)/\w'=(w.drew.setRow g (nv cur i j n)).setRow g ((nv cur i j n).toList.take (q*12)++(aR Mc.zero).toList++(nv cur i j n).toList.drop (q*12+12)).toArray:=by
 have β:c<=9223372036854775807:=R;have e1:((i:Int)==(j:Int))=false:=by rw[Vz];omega
 have α:i<=c:=by omega
 have ζ:j<=c:=by omega
 obtain⟨A,hA,B⟩:∃A:Addr,(if c=j then(some ⟨g,0,none⟩:Option Addr)else some ⟨g,j*12,none⟩)=some A/\Va (∀k u,(aS (X.drop j))[k]? =some u->w.drew.cell? (A.add k)=some u):=by
  have l:∀k u,(aS (X.drop j))[k]? =some u->w.drew.cell? ⟨g,j*12+k,none⟩=some u:=λk u p=>by
   have I:k<(X.drop j).length*12:=by have:=(Vx.1 p).1;rwa[bO]at this
   rw[VS,v]at I;rw[<-jV X j (by omega),<-b,Wb,List.getElem?_take_of_lt (by omega),VK]at p;obtain⟨q,-⟩:=F.rules;exact(q _).trans p
  by_cases h:c=j
  ·refine⟨⟨g,0,none⟩,by simp[h],U9 λk u p=>?_⟩
   have I:k<(X.drop j).length*12:=by have:=(Vx.1 p).1;rwa[bO]at this
   rw[VS,v]at I;omega
  ·exact⟨⟨g,j*12,none⟩,by simp[h],U9 λk u p=>by rw[d6];exact l k u p⟩
 have G:(nv cur i j n)=(cur.toList.take (i*12)++aS (X.drop j)++cur.toList.drop (i*12+(n-j)*12)).toArray:=by
  unfold nv;rw[b,jV X j (by omega)]
 have r:(nv cur i j n).size=c*12:=by
  rw[G];simp only[WU,Vl,VI,VS,VW,bO,m,v];omega
 have H:=U9 y;have Z:=U9 F;have M:=U9 m;have HX:=U9 v;have S:=U9 G;have z:=U9 r;have f:=U9 (WB w.drew g cur (nv cur i j n) 297 (0,0) F);have t:i+(n-j)=q:=by omega
 have ε:n-q=1:=by omega
 have η:q<=n:=by omega
 have θ:n<=c:=by omega
 have δ:¬c=q:=by omega
 have V:q<=c:=by omega
 have N:=U9 t;have Y:=U9 O;generalize nv cur i j n=D at S z G r f⊢;obtain⟨T,d⟩:∃T,w.drew.setRow g D=T:=⟨_,rfl⟩;rw[d]at f⊢;have J:=U9 d;clear d;clear y F m b v R G r t O;go_enter func204,ntmps204;go_upto_region 5 with fail
 go_region_law (refine o7 rfl (.tmp 22) (.tmp 25) rfl g i c cur (Z.o.trans rfl) rfl A (n-j) (c-j) rfl (X.drop j) (by rw[VS,HX.o]) (λx hx=>H.o x (Wr hx)) B.o q N.o (by omega) (by rw[M.o];omega) ?_;rw[<-S.o,J.o])
 all_goals
  go_wp2_with ((refine oo rfl (.tmp 31) rfl g (q*12) (c-q) rfl D 297 f.o (by rw[z.o];have:=Y.o;omega) ?_));go_ret;exact⟨rfl,by rw[Wn];rfl⟩
theorem Gn(base n c i:Nat)(A:Option Addr)(O:i<n)(X:List Mc)(q:X.length=n)(r:∀x∈X,x.sl)(w:Yu)(t:w.ownsRow base 297 12 (.slice A n c) n (aS X)):
  Yt 204 #[.slice A n c,.int .i64 (i:Int),.int .i64 ((i:Int)+1)] w λe w'=>e=.returned (.slice A (n-1) c)/\w'.ownsRow base 297 12 (.slice A (n-1) c) (n-1) (aS (X.eraseIdx i))/\w.grownBy w' (Value.slice A n c).ownBlock:=by
 rcases t.2 with⟨_,M⟩|⟨g,cap,cur,J,F,z,v,f,l,d⟩
 ·omega
 ·injection J with H _ I
  subst H I;refine(Cu g n c i (i+1) (n-1) (by omega) (by omega) (by omega) (by omega) v f X q r w cur z l d).mono ?_;rintro e w' ⟨rfl,rfl⟩;have B:(nv cur i (i+1) n)=(cur.toList.take (i*12)++aS (X.drop (i+1))++cur.toList.drop (i*12+(n-(i+1))*12)).toArray:=by
   unfold nv;rw[d,jV X (i+1) (by omega)]
  have y:(nv cur i (i+1) n).size=c*12:=by
   rw[B];simp only[WU,Vl,VI,VS,VW,bO,l,q];omega
  have G:cur.toList.take (i*12)=aS (X.take i):=by
   rw[<-uH X i (by omega),<-d,List.take_take];congr 1;omega
  have D:X.eraseIdx i=X.take i++X.drop (i+1):=List.eraseIdx_eq_take_drop_succ X i;have b:(aS (X.eraseIdx i)).length=(n-1)*12:=by
   rw[bO,List.length_eraseIdx_of_lt (by omega),q]
  have m:(nv cur i (i+1) n).toList.take ((n-1)*12)=aS (X.eraseIdx i):=by
   rw[B,G,D,<-fR,<-D,<-b];exact List.take_left
  have u:=WB w.drew g cur (nv cur i (i+1) n) 297 (0,0) z;refine⟨rfl,⟨by rw[b],.inr ⟨g,c,_,rfl,F,WB _ g _ _ _ _ u,by omega,f,?_,?_⟩⟩,⟨rfl,rfl,rfl,by simp[World.setRow],λk N p=>?_⟩⟩
  ·rw[m]
   simp only[WU,Vl,VS,VW,y,b];show(n-1)*12+12+_=_;omega
  ·rw[m,<-b,Wn]
   exact List.take_left
  ·have j:k≠g:=λe=>p (by subst e;rfl)
   rw[Wv _ g k _ j,Wv _ g k _ j]
   rfl
theorem kR{fn:Func}{s1 s2:Nat}(h:fn.results=#[.cell s1 297,.tmp s2])(tmps:Array Yv)(g:Nat)(x:Mc)(b:Bool)(w:Yu)(f:tmps.getD s1 undef=.pointer (some ⟨g,0,none⟩))(c:tmps.getD s2 undef=.bool b)
  (i:ai w g 297 (aR x)):(results fn tmps).run prog w=.ok (.tuple #[.agg (aR x),.bool b]) w:=by
 obtain⟨q,-⟩:=i.rules;have e:tmps[s1]?.getD undef=.pointer (some ⟨g,0,none⟩):=by rw[<-f];simp
 have d:tmps[s2]?.getD undef=.bool b:=by rw[<-c];simp
 simp[results,h,e,d,go_sem,q]
def setMsg(w:Yu)(g:Nat)(R:Mc):Yu:=(((((((((((w.setCell ⟨g,0,none⟩ (.int .u8 R.k)).setCell ⟨g,1,none⟩ (.int .i64 R.f)).setCell ⟨g,2,none⟩ (.int .i64 R.t)).setCell ⟨g,3,none⟩ (.int .u64 R.d.v0)).setCell ⟨g,4,none⟩ (.int .u64 R.d.v1)).setCell ⟨g,5,none⟩ (.int .u64 R.d.v2)).setCell ⟨g,6,none⟩ (.int .u64 R.d.v3)).setCell ⟨g,7,none⟩ (.int .u64 R.d.v4)).setCell ⟨g,8,none⟩ (.int .u64 R.d.v5)).setCell ⟨g,9,none⟩ R.s).setCell ⟨g,10,none⟩ (.int .u64 R.n)).setCell ⟨g,11,none⟩ (.int .i64 R.a)
theorem mZ(w:Yu)(g:Nat)(R:Mc):Fr w (setMsg w g R) g none:=
 (((((((((((Fr.of_set ⟨g,0,none⟩ rfl _).set ⟨g,1,none⟩ rfl _).set ⟨g,2,none⟩ rfl _).set ⟨g,3,none⟩ rfl _).set ⟨g,4,none⟩ rfl _).set ⟨g,5,none⟩ rfl _).set ⟨g,6,none⟩ rfl _).set ⟨g,7,none⟩ rfl _).set ⟨g,8,none⟩ rfl _).set ⟨g,9,none⟩ rfl _).set ⟨g,10,none⟩ rfl _).set ⟨g,11,none⟩ rfl _
theorem wG{O:Mc}(h:ai w g 297 (aR O))(R:Mc):ai (setMsg w g R) g 297 (aR R):=by
 rw[<-yK O R];exact(((((((((((h.set_ 0 (.int .u8 R.k)).set_ 1 (.int .i64 R.f)).set_ 2 (.int .i64 R.t)).set_ 3 (.int .u64 R.d.v0)).set_ 4 (.int .u64 R.d.v1)).set_ 5 (.int .u64 R.d.v2)).set_ 6 (.int .u64 R.d.v3)).set_ 7 (.int .u64 R.d.v4)).set_ 8 (.int .u64 R.d.v5)).set_ 9 R.s).set_ 10 (.int .u64 R.n)).set_ 11 (.int .i64 R.a)
theorem sE{b:Yu}{B:Nat}(h:Below B b w)(i:B<=g)(R:Mc):Below B b (setMsg w g R):=by
 have f:=mZ w g R;exact h.trans ⟨f.os,f.tape,f.output,f.size,λk d=>by
  by_cases c:k<w.heap.size
  ·exact f.block k c (by omega) (by simp)
  ·have e:(setMsg w g R).heap.size=w.heap.size:=by simp[setMsg]
   rw[VP (by omega),VP (by omega)]⟩
theorem Fr.low{w'':Yu}{r:Option Nat}(a:Fr w w' h r)(b:Below w.heap.size w' w''):Fr w w'' h r:=
 ⟨b.os.trans a.os,b.tape.trans a.tape,b.output.trans a.output,Vi a.size b.size,λk c e d=>(b.block k c).trans (a.block k c e d)⟩
section
variable{w0 w:Yu}{bs:List (Nat×Yw×Array Yv)}{h:Nat}{s:Yv}{X:List Mc}{L:List Ms}{C:Nat->Bool}
theorem dK.setMsg{O:Mc}(N:dK w0 w ((g,297,aR O)::bs) h s X L C)(b:w0.heap.size<=g)(R:Mc):dK w0 (setMsg w g R) ((g,297,aR R)::bs) h s X L C:=
 N.bmove b (by decide) (mZ w g R) (wG (N.T.blk g _ (aR O) (by simp)) R)
theorem pJ(k:Int)(f:Option Addr)(c c1:Nat)(d:ai w h 120 (dP (.slice f c c1) C))(i:decide (0<=k/\k<(c:Int))=false):
  Yt 187 #[Yr h,.int .i64 k] w λe w'=>e=.returned (.tuple #[.agg (aR Mc.zero),.bool false])/\Ys w w':=by
 have l:=U9 λ(W:Yu) (j:Ys w W)=>pI h f c c1 C k false i W (d.below j d.lt)
 clear d i;go_enter func187,ntmps187;go_wp2_with fail;have b:bF w _ [(w.heap.size,297,aR Mc.zero)]:=(bF.nil w).push (t:=297) (cs:=aR Mc.zero) rfl;refine(l.o _ b.below).mono ?_;rintro r m ⟨rfl,rfl⟩;obtain⟨n,q,-⟩:=b.rules;obtain⟨p,-⟩:=b.lts;go_wp2_with fail;refine VF (v:=.tuple #[.agg (aR Mc.zero),.bool false]) (kR (s1:=4) (s2:=5) (by kernel_rfl) _ w.heap.size Mc.zero false _ rfl rfl (b.blk _ _ _ Vp)) rfl ⟨rfl,b.below⟩
theorem rK(k:Nat)(m:Ms)(hk:L[k]? =some m)(N:dK w0 w bs h s X L C):
  Yt 187 #[Yr h,.int .i64 (k:Int)] w λe w'=>∃u,e=.returned (.tuple #[.agg (aR ⟨m.k,m.f,m.t,m.d,u,m.n,m.a⟩),.bool true])/\w'.ownsRow w0.heap.size 53 14 u m.l.length (dH m.l)/\(∃s' X',dK w0 w' bs h s' X' (L.eraseIdx k) C/\Fr w w' h s.ownBlock/\s'.ownBlock=s.ownBlock/\∀x∈X',x∈X)/\∃x∈X,u=x.s:=by
 obtain⟨x,D,eq,ox,om⟩:=N.evs.get hk;have S:k<X.length:=(List.getElem?_eq_some_iff.1 D).1;obtain⟨A1,c1,rfl,ξ,κ,H⟩:=aF N.own;obtain⟨z,A,ex,σ,τ,ι⟩:=aF ox;rw[ex]at eq;subst eq;clear ex;have ζ:=List.mem_of_getElem? D;dsimp only at ox;have C1:=U9 λ(W:Yu) (hW:Ys w W)=>pI h A1 X.length c1 C (k:Int) true (decide_eq_true ⟨by omega,by omega⟩) W (N.blk.below hW N.T.lt)
 have C2:=U9 λ(W:Yu) (hW:W.ownsRow w0.heap.size 297 12 (.slice A1 X.length c1) X.length (aS X))=>Gn w0.heap.size X.length c1 k A1 S X rfl N.sl W hW
 obtain⟨j,p,rfl,ε,-⟩:=vX.at_ H D;clear ι om;have HX:=U9 D;have U:=U9 H;have OX:=U9 ox;clear D hk H ox;have a1:(0:Int)<=(k:Int):=by omega
 have a2:(k:Int)<(X.length:Int):=by omega
 have θ:=N.T.below.size;have φ:X.length<=9223372036854775807:=Vi ξ κ;go_enter func187,ntmps187;go_wp2_with fail;have N1:dK w0 _ ((w.heap.size,297,aR Mc.zero)::bs) h (.slice (some ⟨j,p,none⟩) X.length c1) X L C:=N.push (t:=297) (cs:=aR Mc.zero) rfl;have R:Ys w _:=(Vd w.heap.size w).alloc (Vc _) (.cells (aR Mc.zero) 297 (0,0));have J:w.heap.size+1=(w.alloc (.cells (aR Mc.zero) 297)).heap.size:=by simp
 refine(C1.o _ R).mono ?_;rintro r w1 ⟨rfl,rfl⟩;generalize w.alloc _=w1 at N1 R J⊢;obtain⟨γ,ν,ea,α,y0,y1,y2,y3,y4,y5,y6,y7,y8,y9,β,δ⟩:=vX.at_ (U.o.below R) HX.o;obtain⟨rfl,rfl⟩:j=γ/\p=ν:=by simpa using ea
 clear ea;obtain⟨I,M,q1,f1,-⟩:=N1.T.rules;obtain⟨O,l1,-⟩:=N1.T.lts;have x0:w1.cell? ⟨h,0,none⟩=some (.slice (some ⟨j,p,none⟩) X.length c1):=I 0;clear I;have χ:=U9 J;clear J;go_upto_region 4 with fail;have q:dK w0 _ ((w1.heap.size,297,aR ⟨m.k,m.f,m.t,m.d,.slice z m.l.length A,m.n,m.a⟩)::(w.heap.size,297,aR Mc.zero)::bs) h (.slice (some ⟨j,p,none⟩) X.length c1) X L C:=N1.push (t:=297) (cs:=aR ⟨m.k,m.f,m.t,m.d,.slice z m.l.length A,m.n,m.a⟩) rfl;have B2:=R.alloc R.size (.cells (aR ⟨m.k,m.f,m.t,m.d,.slice z m.l.length A,m.n,m.a⟩) 297 (0,0));generalize w1.alloc _=w2 at q B2⊢;have b:=(OX.o:w.ownsRow w0.heap.size 53 14 (.slice z m.l.length A) m.l.length (dH m.l));replace b:=dE b B2;have υ:=B2.size;clear y0 y1 y2 y3 y4 y5 y6 y7 y8 y9 β δ x0 q1 M f1 O l1 α U HX OX C1 ε;obtain⟨I,M,q1,f1,q2,f2,-⟩:=q.T.rules;obtain⟨O,l1,l2,-⟩:=q.T.lts;have x0:w2.cell? ⟨h,0,none⟩=some (.slice (some ⟨j,p,none⟩) X.length c1):=I 0;clear I;go_wp2_with fail;refine(C2.o w2 q.own).mono ?_;rintro r F ⟨rfl,c,G⟩;have π:=G.size;have i:F.heap[h]? =w2.heap[h]?:=G.block h O (λe=>q.s_ne e.symm);have x3:F.cell? ⟨h,0,none⟩=some (.slice (some ⟨j,p,none⟩) X.length c1):=(World.cell?_of_block i).trans x0;have f3:F.frozen? ⟨h,0,none⟩=false:=(World.frozen?_of_block i).trans (M 0);have η:=U9 i;have HG:=U9 G;have μ:=U9 c;have Y:=U9 b;clear x0 M q1 f1 q2 f2 i G c b;go_upto_region 5 with fail;have i:=η.o;have G:=HG.o;have c:=μ.o;have b:=Y.o;have F3:Fr w2 (F.setCell ⟨h,0,none⟩ (.slice (some ⟨j,p,none⟩) (X.length-1) c1)) h (Value.slice (some ⟨j,p,none⟩) X.length c1).ownBlock:=(Fr.of_grown G).set _ rfl _;have b3:ai F h 120 (dP (.slice (some ⟨j,p,none⟩) X.length c1) C):=i.trans q.blk;have b4:ai (F.setCell ⟨h,0,none⟩ (.slice (some ⟨j,p,none⟩) (X.length-1) c1)) h 120 (dP (.slice (some ⟨j,p,none⟩) (X.length-1) c1) C):=b3.set_ 0 _;have V:(X.eraseIdx k).length=X.length-1:=List.length_eraseIdx_of_lt S;have B:=(Fr.of_set (w:=F) (r:=none) ⟨h,0,none⟩ rfl (.slice (some ⟨j,p,none⟩) (X.length-1) c1)).own c (λe=>q.s_ne e) (.inr (by simp[Value.ownBlock]));have N4:=q.move F3 b4 (X':=X.eraseIdx k) (L':=L.eraseIdx k) (by rw[V];exact B) (.inl rfl) ((q.evs' F3).erase k);have y:=F3.own b (q.ev_ne b).1 (q.ev_ne b).2;have F4:Fr w _ h (Value.slice (some ⟨j,p,none⟩) X.length c1).ownBlock:=(Fr.of_below B2).trans F3;clear F3 b3 b4 B q b G c i x3 f3 l1 l2 N V O;generalize (World.setCell _ _ _)=w4 at N4 y F4⊢;obtain⟨I,M,q1,f1,q2,f2,-⟩:=N4.T.rules;obtain⟨O,l1,l2,-⟩:=N4.T.lts;clear I M;go_wp2_with fail;have Z:=N4.swap.setMsg θ ⟨m.k,m.f,m.t,m.d,.slice z m.l.length A,m.n,m.a⟩;have B5:=sE (Below.refl w.heap.size w4) (Nat.le_refl _) ⟨m.k,m.f,m.t,m.d,.slice z m.l.length A,m.n,m.a⟩;have F5:=(mZ w4 w.heap.size ⟨m.k,m.f,m.t,m.d,.slice z m.l.length A,m.n,m.a⟩).own y (fJ y (N4.swap.T.blk w.heap.size _ (aR Mc.zero) (List.mem_cons_of_mem _ List.mem_cons_self)) (by decide)) (by cases z<;>simp[Value.ownBlock]);have T5:=Z.T.blk w.heap.size _ _ (List.mem_cons_of_mem _ List.mem_cons_self);unfold setMsg at Z B5 F5 T5;dsimp only at Z B5 F5 T5;generalize (World.setCell _ _ _)=w5 at Z B5 F5 T5⊢;refine bodyPost_ret (v:=.tuple #[.agg (aR ⟨m.k,m.f,m.t,m.d,.slice z m.l.length A,m.n,m.a⟩),.bool true]) (kR (s1:=4) (s2:=5) (by kernel_rfl) _ w.heap.size _ true _ rfl rfl T5) rfl ⟨_,rfl,F5,⟨_,_,Z.drop.drop,F4.low B5,rfl,λx D=>List.mem_of_mem_eraseIdx D⟩,_,ζ,rfl⟩
theorem Cq(k:Nat)(m:Ms)(b:L[k]? =some m)(N:dK w0 w bs h s X L C):
  Yt 187 #[Yr h,.int .i64 (k:Int)] w λe w'=>∃u,e=.returned (.tuple #[.agg (aR ⟨m.k,m.f,m.t,m.d,u,m.n,m.a⟩),.bool true])/\w'.ownsRow w0.heap.size 53 14 u m.l.length (dH m.l)/\fH w0 w w' bs h s X (L.eraseIdx k) C:=
 (rK k m b N).mono λ_ _ ⟨u,p,i,⟨s',X',r,j,q,c⟩,_⟩=>⟨u,p,i,s',X',r,j,.inl q,λx v=>.inl (c x v)⟩
end
section
variable{w0 w w' w'':Yu}{bs:List (Nat×Yw×Array Yv)}{h:Nat}{s:Yv}{X:List Mc}{L L':List Ms}{C C':Nat->Bool}
theorem fH.call(N:fH w0 w w' bs h s X L' C')(b:Ys w' w''):fH w0 w w'' bs h s X L' C':=by
 obtain⟨s',X',n,f,r⟩:=N;exact⟨s',X',n.call b,f.low (b.mono f.size),r⟩
theorem wX(k:Int)(c:Option Addr)(b c1:Nat)(f:ai w h 120 (dP (.slice c b c1) C))(d:decide (0<=k/\k<(b:Int))=false):
  Yt 189 #[Yr h,.int .i64 k] w λe w'=>e=.returned (.bool false)/\Ys w w':=by
 have j:=U9 (pJ k c b c1 f d);clear f d;go_enter func189,ntmps189;go_wp2_with fail;refine j.o.mono ?_;rintro r l ⟨rfl,i⟩;go_wp2_with fail;go_ret;exact⟨rfl,i.alloc i.size _⟩
theorem Ct(k:Nat)(m:Ms)(d:L[k]? =some m)(N:dK w0 w bs h s X L C):
  Yt 189 #[Yr h,.int .i64 (k:Int)] w λe w'=>e=.returned (.bool true)/\fH w0 w w' bs h s X (L.eraseIdx k) C:=by
 have f:=U9 (Cq k m d N);clear d N;go_enter func189,ntmps189;go_wp2_with fail;refine f.o.mono ?_;rintro r i ⟨u,rfl,b,R⟩;obtain⟨A,c,rfl,-⟩:=aF b;clear b f;go_wp2_with fail;go_ret;exact⟨rfl,R.call ((Vd _ _).alloc (Vc _) _)⟩
end
theorem dK.new(w:Yu):dK w (w.alloc (.cells (dP (.slice none 0 0) λ_=>false) 120)) [] w.heap.size (.slice none 0 0) [] [] λ_=>false:=
 ⟨(bF.nil w).push (t:=120) (cs:=dP (.slice none 0 0) λ_=>false) rfl,Vc _,trivial,trivial,(λ_ _ _ b=>by cases b),WT _ _ _ _,trivial⟩
end
