import Derived.Test.YtghdobdjfnimmaaGreatDoorZ25
set_option maxRecDepth 100000
set_option maxHeartbeats 0
set_option linter.all false
namespace Go.Proofs.YtghdobdjfnimmaaGreatDoor
open Go.Proofs.Tryz
section
open Go.RowKit
theorem uA(k:Int)(w:Yu):
  Yt 207 #[.int .i64 k] w λe w'=>e=.returned (.bool (cB k))/\w=w':=by
 go_enter func207,ntmps207
 go_wp2
 all_goals go_ret
 all_goals (refine⟨?_,rfl⟩;simp[cB];omega)
theorem eT(k:Int)(b:Bool)(h:cB k=b)(w:Yu):
  Yt 207 #[.int .i64 k] w λe w'=>e=.returned (.bool b)/\w=w':=by
 subst h;exact uA k w
theorem pI(h:Nat)(A:Option Addr)(n cap:Nat)(C:Nat->Bool)(k:Int)(b:Bool)(a:decide (0<=k/\k<(n:Int))=b)(w:Yu)(f:ai w h 120 (dP (.slice A n cap) C)):
  Yt 203 #[Yr h,.int .i64 k] w λe w'=>e=.returned (.bool b)/\w=w':=by
 obtain⟨q,-⟩:=f.rules;have i:w.cell? ⟨h,0,none⟩=some (.slice A n cap):=by rw[q];rfl
 have j:=f.lt;clear q f;by_cases d:0<=k
 ·by_cases c:k<(n:Int)
  ·obtain rfl:true=b:=by rw[<-a];simp[d,c]
   clear a;go_enter func203,ntmps203;go_wp2_with fail;go_ret;exact⟨rfl,rfl⟩
  ·obtain rfl:false=b:=by rw[<-a];simp[c]
   have g:decide (k<(n:Int))=false:=Vj c;clear a;go_enter func203,ntmps203;go_wp2_with fail;go_ret;exact⟨rfl,rfl⟩
 ·obtain rfl:false=b:=by rw[<-a];simp[d]
  have g:decide (0<=k)=false:=Vj d;clear a;go_enter func203,ntmps203;go_wp2_with fail;go_ret;exact⟨rfl,rfl⟩
theorem Rw(w:Yu):Yt 21 #[] w λe w'=>e=.returned (Yr w.heap.size)/\w'=w.alloc (.cells (dP (.slice none 0 0) λ_=>false) 120):=by
 go_enter func21,ntmps21;go_wp2_with fail;go_ret;exact⟨rfl,rfl⟩
theorem n8(A:Option Addr)(l c:Nat)(w:Yu):(binOp .eql 132 (.slice A l c) (.slice none 0 0)).run prog w=.ok (.bool A.isNone) w:=by
 simp only[binOp];simp[run_equal_slice_nil w 132 53 A l c underlying132]
theorem EK(A:Option Addr)(c:Nat)(L:List Ev)(w:Yu)(g:fC w w.heap.size A L)(m:L.length<=100000):
  Yt 225 #[.slice A L.length c] w λe w'=>∃u,e=.returned u/\w'.ownsRow w.heap.size 53 14 u L.length (dH L)/\Ys w w':=by
 cases A with
 |none=>
  have i:L=[]:=by
   cases L with
   |nil=>rfl
   |cons e L=>obtain⟨b,o,h,_⟩:=g.2 (by simp);cases h
  subst i;clear g;have d:=n8 none 0 c;simp only[Option.isNone_none]at d;go_enter func225,ntmps225;go_wp2_with fail;go_ret;exact⟨_,rfl,WT _ _ _ _,Vd _ _⟩
 |some a=>
  have j:=U9 g;clear g;have d:=n8 (some a) L.length c;simp only[Option.isNone_some]at d;go_enter func225,ntmps225;go_wp2_with (at_builtin;refine xT _ rfl (.tmp 5) (.tmp 6) rfl w.heap.size _ [] L rfl ?h1 (some a) c w.heap.size rfl ?h2 ?h3 ?h4 ?_;(case h1=>exact WY w #[] 0 (Vc _) (by decide) rfl);(case h2=>exact j.o.below ((Vd _ _).alloc (Vc _) _));(case h3=>simp;omega);(case h4=>simp);intro l w' f k);go_ret;rw[V8]at f;exact⟨_,rfl,f,((Vd _ _).alloc (Vc _) _).trans k⟩
theorem uh{fn:Func}{s:Nat}(h:fn.results=#[.cell s 297])(tmps:Array Yv)(g:Nat)(x:Mc)(w:Yu)(b:tmps.getD s undef=.pointer (some ⟨g,0,none⟩))(c:ai w g 297 (aR x)):(results fn tmps).run prog w=.ok (.agg (aR x)) w:=by
 obtain⟨q,-⟩:=c.rules;have a:tmps[s]?.getD undef=.pointer (some ⟨g,0,none⟩):=by rw[<-b];simp
 simp[results,h,a,go_sem,q]
theorem Ox(m:Ms)(A:Option Addr)(c:Nat)(w:Yu)(F:fC w w.heap.size A m.l)(K:m.l.length<=100000):
  Yt 202 #[.agg (aR ⟨m.k,m.f,m.t,m.d,.slice A m.l.length c,m.n,m.a⟩)] w λe w'=>∃u,e=.returned (.agg (aR ⟨m.k,m.f,m.t,m.d,u,m.n,m.a⟩))/\w'.ownsRow w.heap.size 53 14 u m.l.length (dH m.l)/\Ys w w':=by
 have J:=U9 λ(W:Yu) (C:Ys w W)=>EK A c m.l W ((F.below C).mono C.size) K
 clear F;go_enter func202,ntmps202;go_wp2_with fail;have x:bF w _ [(w.heap.size+1,297,aR Mc.zero),(w.heap.size,297,aR ⟨m.k,m.f,m.t,m.d,.slice A m.l.length c,m.n,m.a⟩)]:=((bF.nil w).push (t:=297) (cs:=aR ⟨m.k,m.f,m.t,m.d,.slice A m.l.length c,m.n,m.a⟩) rfl).push (t:=297) (cs:=aR Mc.zero) (g:=w.heap.size+1) (by simp);have G:w.heap.size+2<=((w.alloc (.cells (aR ⟨m.k,m.f,m.t,m.d,.slice A m.l.length c,m.n,m.a⟩) 297)).alloc (.cells (aR Mc.zero) 297)).heap.size:=by simp
 refine(J.o _ x.below).mono ?_;rintro r L ⟨u,rfl,i,z⟩;obtain⟨q,j,rfl,-,-,-⟩:=aF i;have b:=db i G;have h:=x.call z;clear x z i G;obtain⟨E,D,y,B,-⟩:=h.rules;obtain⟨I,H,-⟩:=h.lts;go_upto_region 2 with fail;replace h:=(h.perm (cs:=[(w.heap.size,297,aR ⟨m.k,m.f,m.t,m.d,.slice A m.l.length c,m.n,m.a⟩),(w.heap.size+1,297,aR Mc.zero)]) (by simp)).set_ (Nat.le_refl _) ⟨by omega,trivial⟩ 9 (.slice q m.l.length j);rw[uI]at h;dsimp only at h;replace b:=me (p:=⟨w.heap.size,9,none⟩) b (show w.heap.size<w.heap.size+2 by omega) (.slice q m.l.length j);generalize (World.setCell _ _ _)=w3 at h b⊢;clear y E B D H I;obtain⟨y,B,E,D,-⟩:=h.rules;obtain⟨H,I,-⟩:=h.lts;go_wp2_with fail;replace h:=(h.perm (cs:=[(w.heap.size+1,297,aR Mc.zero),(w.heap.size,297,aR ⟨m.k,m.f,m.t,m.d,.slice q m.l.length j,m.n,m.a⟩)]) (by simp)).setMc (Nat.le_succ _) ⟨by omega,trivial⟩ ⟨m.k,m.f,m.t,m.d,.slice q m.l.length j,m.n,m.a⟩;refine bodyPost_ret (v:=.agg (aR ⟨m.k,m.f,m.t,m.d,.slice q m.l.length j,m.n,m.a⟩)) (uh (s:=2) (by kernel_rfl) _ (w.heap.size+1) _ _ rfl (h.blk _ _ _ List.mem_cons_self)) rfl ⟨_,rfl,?_,h.below⟩;refine db ?_ (show w.heap.size<=w.heap.size+2 by omega)
 repeat refine me ?_ (show w.heap.size+1<w.heap.size+2 by omega) _
 exact b
end
