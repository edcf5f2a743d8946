import Derived.Test.YtghdobdjfnimmaaGreatDoorZ20
set_option maxRecDepth 100000
set_option maxHeartbeats 0
set_option linter.all false
namespace Go.Proofs.YtghdobdjfnimmaaGreatDoor
open Go.Proofs.Tryz
variable{r:Nat}
section
open Go.RowKit Go
section
variable{w w':Yu}{L:LB}{m:az}
structure Fi(w:Yu)(m:az)(vN vG:Yv)(N:List Nd)(G:List gF)(W:Yu):Prop where
 st:ai W w.heap.size 38 (cy m.inn m.kn vN vG)
 rn:eM W w.heap.size vN N
 rg:iH W w.heap.size vG G
 below:Ys w W
theorem Fi.call{vN vG:Yv}{N:List Nd}{G:List gF}{W b:Yu}(h:Fi w m vN vG N G W)(a:Ys W b):Fi w m vN vG N G b:=⟨h.st.call a,Row.call h.rn a,Row.call h.rg a,h.below.trans (a.mono h.below.size)⟩
structure Td(w:Yu)(L:LB)(m:az)(r:Nat)(vN vG:Yv)(left kept:List ((Int×Int)×gF))(W:Yu):Prop where
 rg:cq Gq W L.gm r left kept
 pm:m.gr.Perm (kept.reverse++left)
 si:Fi w m vN vG (aW m) (kept.reverse.map (·.2)) W
theorem cq.notCells{α β:Type}{m:MT α β}{b:Nat}{left a:List (α×β)}(h:cq m w b r left a){g:Nat}{t:Yw}{cs:Array Yv}(i:ai w g t cs):g≠r:=λe=>by
 obtain⟨j,d,c,seen,k,-,-,f,-⟩:=h.ex;subst e;rw[show w.heap[g]? =_ from i]at f;cases f
theorem cq.notOwn{α β:Type}{m:MT α β}{b:Nat}{left a:List (α×β)}(h:cq m w b r left a){base:Nat}{e:Yw}{sz n:Nat}{v:Yv}{xs:List Yv}(f:w.ownsRow base e sz v n xs):v.ownBlock≠some r:=λg=>by
 obtain⟨j,d,c,seen,k,-,-,i,-⟩:=h.ex;have:=eC f r _ g i;cases this
theorem Fi.fr{vN vG:Yv}{N:List Nd}{G:List gF}{W a:Yu}(h:Fi w m vN vG N G W)(f:Fr W a r none)(d:w.heap.size≠r)(b:vN.ownBlock≠some r)(e:vG.ownBlock≠some r)(c:w.heap.size<=r):Fi w m vN vG N G a:=
 ⟨f.blk h.st d (by simp),f.own h.rn b (by cases vN.ownBlock<;>simp),f.own h.rg e (by cases vG.ownBlock<;>simp),f.below h.below c (λ_ h=>by cases h)⟩
theorem Row.ne_box{α:Type}{c:α->Array Yv}{sz base:Nat}{e:Yw}{v:Yv}{l:List α}(h:Row w base e sz c v l){g:Nat}{t:Yw}{cs:Array Yv}(i:ai w g t cs)(f:t≠e):v.ownBlock≠some g:=λa=>by
 rcases h.2 with⟨rfl,_⟩|⟨j,d,cur,rfl,_,b,_⟩
 ·cases a
 ·simp only[Value.ownBlock,Xf]at a
  subst a;exact f (i.type_eq b).1
theorem xD(h:dD w L m)(hm:m.ok)(hN:fD m.kn<=900000):Yt 35 #[Yr L.b] w λr w'=>∃vN vG,r=.returned (.agg (cy m.inn m.kn vN vG))/\eM w' w.heap.size vN (aW m)/\iH w' w.heap.size vG (bh m)/\Ys w w':=by
 have D0:Ys w (w.alloc (.cells (cy (λ_=>false) av.zero (.slice none 0 0) (.slice none 0 0)) 38)):=(Vd w.heap.size w).alloc (by simp<;>omega) _;have B0:ai (w.alloc (.cells (cy (λ_=>false) av.zero (.slice none 0 0) (.slice none 0 0)) 38)) w.heap.size 38 (cy (λ_=>false) av.zero (.slice none 0 0) (.slice none 0 0)):=ai.new _ _ _;obtain⟨W0,ε⟩:∃W0,W0=w.alloc (.cells (cy (λ_=>false) av.zero (.slice none 0 0) (.slice none 0 0)) 38):=⟨_,rfl⟩;have hsz:W0.heap.size=w.heap.size+1:=by rw[ε];simp
 rw[<-ε]at D0 B0;have z:=U9 (Vb h (Vb hm (Vb hN (Vb D0 B0))));have HF:=U9 (λ(X:Yu) (F:Ys W0 X)=>Vb (B0.call F).rules.1 (Vb (B0.call F).lt (Vb ((h.call D0).call F).blk.rules.1 ((h.call D0).call F).blk.lt)));have HW:=U9 ε;clear h hm hN D0 B0 ε;go_enter func35,ntmps35;go_wp2_with fail;generalize hg:w.alloc _=X0;obtain rfl:W0=X0:=HW.o.trans hg;clear HW hg;refine aP 13 (by kernel_rfl) (by simp) (by kernel_rfl) (by kernel_rfl) (by kernel_rfl) (by kernel_rfl) ?_;simp only[U4,U5,U6,U7]
 iterate 13
  first
  |refine dq HF.o rfl ?_
  |refine aw (λ_=>rfl) ?_
  simp only[UW,UX,UY,UZ]
 refine aH ?_;intro _ W1 I _;have B1:=z.o.2.2.2.2.call I;have T:(eR 38 (Yr w.heap.size) (.agg #[.bool (m.inn 0),.bool (m.inn 1),.bool (m.inn 2),.bool (m.inn 3),.bool (m.inn 4),.bool (m.inn 5),.bool (m.inn 6),.bool (m.inn 7),.bool (m.inn 8),.bool (m.inn 9),.bool (m.inn 10),.bool (m.inn 11),.int .u64 m.kn.v0,.int .u64 m.kn.v1,.int .u64 m.kn.v2,.int .u64 m.kn.v3,.int .u64 m.kn.v4,.int .u64 m.kn.v5,.slice none 0 0,.slice none 0 0])).run prog W1=.ok .skip (W1.setRow w.heap.size (cy m.inn m.kn (.slice none 0 0) (.slice none 0 0))):=
  bX (cs:=cy m.inn m.kn (.slice none 0 0) (.slice none 0 0)) B1 (dn _ _ _ _) rfl (by simp[cy,Value.oneCell'])
 have B2:=ax B1 (cy m.inn m.kn (.slice none 0 0) (.slice none 0 0));have D2:Ys w (W1.setRow w.heap.size (cy m.inn m.kn (.slice none 0 0) (.slice none 0 0))):=(aM W1 w.heap.size (cy m.inn m.kn (.slice none 0 0) (.slice none 0 0))).below (z.o.2.2.2.1.trans (I.mono z.o.2.2.2.1.size)) (Vc _) (λ_ h=>by cases h);obtain⟨W2,μ⟩:∃W2,W2=W1.setRow w.heap.size (cy m.inn m.kn (.slice none 0 0) (.slice none 0 0)):=⟨_,rfl⟩;rw[<-μ]at T B2 D2;have H2:=U9 (show Fi w m (.slice none 0 0) (.slice none 0 0) [] [] W2 from⟨B2,Row.nil,Row.nil,D2⟩);obtain⟨q,-⟩:=(z.o.1.call D2).blk.rules;have l:=(z.o.1.call D2).blk.lt;have CL:=U9 (Io (z.o.1.call D2).tre (Vi z.o.2.1.tr.le (by omega)));clear HF I B1 B2 D2 μ;go_wp2_with fail;refine CL.o.mono ?_;rintro r W3 ⟨u,rfl,d,C⟩;obtain⟨A,c,rfl,hc,Δ⟩:=d.sl;have H3:=U9 (Vb d (H2.o.call C));have μ:=H2.o.st.lt;have hlen:=jm m.tr;have hle:=z.o.2.1.tr.le;clear T q l CL C d;go_wp2_with fail
 go_loopw [29] (λi wr=>∃(k:Nat) (vN:Yv),k<=m.tr.length/\i=.int .i64 k/\ij wr W2.heap.size (.slice A (cS m.tr).length c) (cS m.tr)/\Fi w m vN (.slice none 0 0) ((aW m).take k) [] wr) (λi _=>m.tr.length-(intOf i).toNat)
 case atStart=>exact⟨0,_,by omega,rfl,H3.o⟩
 case round=>
  obtain⟨k,vN,hk,rfl,d,M⟩:=hrel;clear H3;by_cases hlt:k<m.tr.length
  ·obtain⟨y,hy⟩:∃y,(cS m.tr)[k]? =some y:=⟨(cS m.tr)[k],Ve (by omega)⟩
   have β:aT y:=by
    obtain⟨v,hv⟩:=V6.1 (rM.1 (Vn hy));exact(z.o.2.1.tr.rg _ (bK hv)).1
   obtain⟨g,cap,hs,τ,Δ,hgb,α⟩:=d.sl_pos (by omega);have G:=d;rw[hs]at G;have Ξ:=G.rng cY hy;obtain⟨rfl,hcc⟩:A=some ⟨g,0,none⟩/\c=cap:=by injection hs with a b c;exact⟨a,c⟩
   have hce:wr.cell? ⟨g,k,none⟩=some (.int .u64 y):=by have this:=Ξ 0 (.int .u64 y) rfl;rw[V3]at this;exact this
   have hd:decide ((k:Int)<m.tr.length)=true:=Vg (by omega);have k0:(0:Int)<=(k:Int):=by omega
   have kl:(k:Int)<m.tr.length:=by omega
   have S:=U9 (Vb d (Vb M (Vb β hy)));have LX:=z.o.1.call M.below;have nF:¬(vN.ownBlock=some w.heap.size):=λe=>by
    rcases M.rn.2 with⟨rfl,_⟩|⟨g',χ,cur,rfl,_,ι,_⟩
    ·cases e
    ·simp only[Value.ownBlock,Xf]at e
     subst e;exact absurd (M.st.type_eq ι).1 (by decide)
   have κ:=M.rn.ge;have Φ:=U9 κ;have Θ:∀b,vN.ownBlock=some b->b<wr.heap.size:=λb F=>(κ b F).2
   have HF:=U9 (λ(X:Yu) (F:ah (λb=>vN.ownBlock=some b) wr X)=>by
    have hL:=LX.mod F λb hb' he=>by have:=(Φ.o b he).1;have:=z.o.1.lt b hb';omega
    exact Vb (F.blk M.st nF).rules.1 (Vb (F.blk M.st nF).lt (Vb hL.blk.rules.1 (Vb hL.blk.lt (Vb (yN hL.pa β) (Df hL.ri β))))))
   clear d M G Ξ hs τ Δ hcc hy β LX κ nF;go_wp2_with fail;refine eO 19 [] (λb=>vN.ownBlock=some b) 17 Θ (by kernel_rfl) (by simp) (by kernel_rfl) (by kernel_rfl) (by kernel_rfl) (by kernel_rfl) ?_;simp only[U4,U5,U6,U7]
   iterate 16
    first
    |refine eV HF.o rfl ?_
    |refine al (λ_=>rfl) ?_
    |refine bH rfl ?_
    simp only[UW,UX,UY,UZ]
   refine nh (λ_=>rfl) (Vm rfl) (λp:Nat=>.slice (some ⟨p,0,none⟩) 1 1) 0 (sg 82 (jG ⟨y,(lk m.pa y).getD 0,(lk m.ri y).getD z0⟩)) (λu X _=>⟨X.heap.size,X.alloc (.cells (jG ⟨y,(lk m.pa y).getD 0,(lk m.ri y).getD z0⟩) 82),by simp[execOp,go_sem],⟨_,rfl,Vc _,ai.new _ _ _⟩,(Vd _ _).alloc (Vc _) _⟩) ?_;simp only[UW,UX,UY,UZ];refine ku (λ_=>rfl) rfl 16 (by decide) (VZ rfl) (λv:Yv=>v) (.slice none 0 0) (λX r X'=>eM X' w.heap.size r ((aW m).take k++([⟨y,(lk m.pa y).getD 0,(lk m.ri y).getD z0⟩]:List Nd))/\Kt w.heap.size [82] X X') (λu=>.slice (some ⟨u.2,0,none⟩) 1 1) _ (λ_=>by repeat (first|exact Vs ⟨rfl,rfl,rfl⟩|apply Vr)) (λu X hX hR=>?app) ?_
   case app=>
    simp only[U0,U1,U2,U3,Nat.reduceAdd,Vk]at hR;obtain⟨w1,n,-,g2,⟨b,J,hbs,υ⟩,g4⟩:∃w1 n,(16=17->Ys wr w1)/\ah (λb=>vN.ownBlock=some b) wr w1/\sg 82 (jG ⟨y,(lk m.pa y).getD 0,(lk m.ri y).getD z0⟩) w1 (.slice (some ⟨u.2,0,none⟩) 1 1) n/\cR [] (λk=>16≠17/\vN.ownBlock=some k) wr.heap.size n X:=hR;injection J with J _ _;injection J with J;injection J with J _ _;subst J;have hbX:ai X u.2 82 (jG ⟨y,(lk m.pa y).getD 0,(lk m.ri y).getD z0⟩):=by
     rcases g4.block u.2 υ.lt with e|⟨-,⟨cs,t,hz,-⟩,-⟩|⟨-,e⟩
     ·exact e.trans υ
     ·cases hz
     ·have:=(Φ.o _ e).2;have:=g2.size;omega
    obtain⟨H,w',k1,Z,R,k4,-⟩:=eM.app 35 (Row.call S.o.2.1.rn hX) (A:=some ⟨u.2,0,none⟩) (cap:=1) (dU eJ hbX) (by rw[VI];unfold aW;simp;omega) (by have:=S.o.2.1.below.size;have:=hX.size;omega);exact⟨H,w',by simp[execOp,go_sem];exact k1,⟨Z,R⟩,ah.of_grown k4 λ_ h=>h⟩
   simp only[UW,UX,UY,UZ]
   iterate 1
    first
    |refine eV HF.o rfl ?_
    |refine al (λ_=>rfl) ?_
    |refine bH rfl ?_
    simp only[UW,UX,UY,UZ]
   refine aK (by kernel_rfl) ?_;rintro⟨⟨_,p⟩,H⟩ W4 hC hR;dsimp only;simp only[U0,U1,U2,U3,Nat.reduceAdd,Nat.zero_add]at hR;obtain⟨w1,n,g1,g2,⟨Z,R⟩,g4⟩:=bJ (hR 17 _ _ (by repeat (first|exact Or.inl ⟨rfl,rfl,rfl⟩|apply Or.inr))) rfl;have I:=g1 rfl;have C:=g4.below λ_ h=>h.1 rfl
   have S1:=S.o.2.1.call I;have U:ai W4 w.heap.size 38 (cy m.inn m.kn vN (.slice none 0 0)):=(R.blk _ _ _ S1.st (by decide)).call C;have ξ:Ys w W4:=(S1.below.trans R.below).trans (C.mono (by have:=S1.below.size;have:=R.size;omega));have N4:eM W4 w.heap.size H ((aW m).take k++([⟨y,(lk m.pa y).getD 0,(lk m.ri y).getD z0⟩]:List Nd)):=Row.call Z C;have R4:ij W4 W2.heap.size (.slice (some ⟨g,0,none⟩) (cS m.tr).length c) (cS m.tr):=Row.call (R.row (Row.call S.o.1 I) (by decide)) C;have K:=U.set_ 18 H;rw[zF]at K;have F5:Fr W4 (W4.setCell ⟨w.heap.size,18,none⟩ H) w.heap.size none:=Fr.of_set _ rfl _;have nb:∀(v:Yv) (L:List Nd),eM W4 w.heap.size v L->v.ownBlock≠some w.heap.size:=λv L hr e=>by
    rcases hr.2 with⟨rfl,_⟩|⟨g',χ,cur,rfl,_,ι,_⟩
    ·cases e
    ·simp only[Value.ownBlock,Xf]at e
     subst e;exact absurd (U.type_eq ι).1 (by decide)
   have Ψ:(aW m).take k++([⟨y,(lk m.pa y).getD 0,(lk m.ri y).getD z0⟩]:List Nd)=(aW m).take (k+1):=by
    rw[VN];unfold aW;rw[Wm,S.o.2.2.2]
    rfl
   rw[Ψ]at N4;have HX:=U9 (Vb (F5.own R4 (λe=>by have:=(R4.ge _ e).1;omega) (by simp[Value.ownBlock])) (show Fi w m H (.slice none 0 0) ((aW m).take (k+1)) [] (W4.setCell ⟨w.heap.size,18,none⟩ H)from
    ⟨K,F5.own N4 (nb _ _ N4) (by cases H.ownBlock<;>simp),Row.nil,F5.below ξ (Vc _) (λ_ h=>by cases h)⟩))
   obtain⟨A',c',Y,-,-⟩:=N4.sl;generalize ((aW m).take (k+1)).length=n' at Y;subst Y;obtain⟨q,fz⟩:=U.rules;have l:=U.lt;clear hC hR g1 g2 Z R g4 I C S1 U ξ N4 R4 K F5 nb Ψ HF Θ;go_wp2_with fail;go_roundw
   case rel=>exact⟨k+1,_,by omega,by go_num,HX.o⟩
   case measure=>simp[intOf];omega
  ·obtain rfl:k=m.tr.length:=by omega
   obtain⟨V,hV⟩:∃V,V=wr:=⟨_,rfl⟩;subst hV;have hd:decide ((m.tr.length:Int)<m.tr.length)=false:=Vj (by omega);have M:Fi w m vN (.slice none 0 0) (aW m) [] V:=by
    rw[V4 (by unfold aW;simp;omega)]at M;exact M
   have LX:=z.o.1.call M.below;have HX:=U9 (Vb M LX);have σ:=U9 LX.gr;obtain⟨q,-⟩:=LX.blk.rules;have lb:=LX.blk.lt;clear M d LX;go_wp2_with (first|(at_range;refine dL sT rfl _ rfl rfl σ.o ?_;intro w0 η ψ hs0))
   go_frame
   have A0:Td w L m V.heap.size vN (.slice none 0 0) m.gr [] w0:=⟨η,by simp,HX.o.1.call ψ⟩;have hwr:=HX.o.1.below.size;have hwr2:=HX.o.1.st.lt;clear η ψ hs0 q lb σ
   go_loopg [58] m.gr.length (λg v W=>∃left f vG,left.length=g/\Td w L m V.heap.size vN vG left f W)
   case atStart=>exact⟨m.gr,[],_,rfl,A0⟩
   case round=>
    obtain⟨left,f,vG,hg,B⟩:=hrel;clear A0;go_wp2_with (first|(at_next;refine d8 rfl _ rfl rfl B.rg ?_ ?_))
    ·intro Ω
     obtain rfl:=Ω;have θ:(m.gr.map (·.2)).Perm (f.reverse.map (·.2)):=by
      have h:=B.pm;rw[Xa]at h;exact h.map _
     have α:=z.o.2.1.gl;have hN:=z.o.2.2.1;have CS:=U9 (Lz B.si.rg (by rw[<-θ.length_eq,Wd];omega));have Q:=U9 (Vb θ B.si);obtain⟨q,-⟩:=B.si.st.rules;have l:=B.si.st.lt;clear B θ α hN;go_wp2_with fail;refine CS.o.mono ?_;rintro r w3 ⟨rfl,G',hG,hp,hs,E⟩;have S3:ai w3 w.heap.size 38 (cy m.inn m.kn vN vG):=(E.block _ Q.o.2.st.lt (λe=>(Q.o.2.rg.ne_box Q.o.2.st (by decide)) e.symm)).trans Q.o.2.st;have hld:=dG (P:=prog) S3 underlying38 rfl (dn _ _ _ _);have T:=bX (P:=prog) (ty:=38) S3 (dn m.inn m.kn vN vG) rfl (by
      obtain⟨A1,c1,rfl,-⟩:=Q.o.2.rn.sl;obtain⟨A2,c2,rfl,-⟩:=Q.o.2.rg.sl;simp[cy,Value.oneCell'])
     have S4:=ax S3 (cy m.inn m.kn vN vG);have F4:=aM w3 w.heap.size (cy m.inn m.kn vN vG);have N3:eM w3 w.heap.size vN (aW m):=by
      refine Row.blocks Q.o.2.rn λg cs F=>?_
      refine(E.block _ (ai.lt F) λe=>?_).trans F;exact(Q.o.2.rg.ne_box F (by decide)) e.symm
     have b3:Ys w w3:=Q.o.2.below.trans ⟨E.os,E.tape,E.output,E.size,λk hk=>E.block k (Vq hk Q.o.2.below.size) λe=>by have:=(Q.o.2.rg.ge k e.symm).1;omega⟩;have N4:eM (w3.setRow w.heap.size (cy m.inn m.kn vN vG)) w.heap.size vN (aW m):=F4.own N3 (N3.ne_box S3 (by decide)) (by cases vN.ownBlock<;>simp);have G4:iH (w3.setRow w.heap.size (cy m.inn m.kn vN vG)) w.heap.size vG G':=F4.own hG (Row.ne_box hG S3 (by decide)) (by cases vG.ownBlock<;>simp);have hge:=AJ (λx hx=>(z.o.2.1.gk x hx).1) z.o.1.gr.ndk (Q.o.1.trans hp) hs;subst hge;have HX:=U9 (Vb S4 (Vb N4 (Vb G4 (F4.below b3 (Vc _) (λ_ h=>by cases h)))));clear Q hG hp hs E S3 S4 F4 N3 b3 N4 G4 CS q l;go_wp2_with fail;exact aE (s:=2) results35 rfl HX.o.1 underlying38 rfl (dn _ _ _ _) rfl ⟨vN,vG,rfl,HX.o.2⟩
    ·intro γ δ D j n hp ζ ω hen
     have ν:j.length+1=left.length:=by have:=hp.length_eq;simpa using this.symm
     have hN:=z.o.2.2.1;have α:=z.o.2.1.gl;have hpl:m.gr.length=f.length+left.length:=by have:=B.pm.length_eq;simpa using this
     have S2:=B.si.fr ω (B.rg.notCells B.si.st) (B.rg.notOwn B.si.rn) (B.rg.notOwn B.si.rg) hwr;have B3:ai (n.alloc (.cells #[.int .i64 0,.int .u64 0,.int .u64 0,.int .i64 0,.int .u64 0] 85)) n.heap.size 85 #[.int .i64 0,.int .u64 0,.int .u64 0,.int .i64 0,.int .u64 0]:=ai.new _ _ _;have T:(eR 85 (Yr n.heap.size) (.agg (eu D))).run prog (n.alloc (.cells #[.int .i64 0,.int .u64 0,.int .u64 0,.int .i64 0,.int .u64 0] 85))=.ok .skip ((n.alloc (.cells #[.int .i64 0,.int .u64 0,.int .u64 0,.int .i64 0,.int .u64 0] 85)).setRow n.heap.size (eu D)):=bX B3 (fQ D) rfl (s9 D);have D4:Ys n ((n.alloc (.cells #[.int .i64 0,.int .u64 0,.int .u64 0,.int .i64 0,.int .u64 0] 85)).setRow n.heap.size (eu D)):=(aM _ _ _).below ((Vd _ _).alloc (Vc _) _) (Vc _) (λ_ h=>by cases h);have B4:=ax B3 (eu D);have z4:((n.alloc (.cells #[.int .i64 0,.int .u64 0,.int .u64 0,.int .i64 0,.int .u64 0] 85)).setRow n.heap.size (eu D)).heap.size=n.heap.size+1:=by simp[World.setRow]
     generalize π:(n.alloc (.cells #[.int .i64 0,.int .u64 0,.int .u64 0,.int .i64 0,.int .u64 0] 85)).setRow n.heap.size (eu D)=w4 at T D4 B4 z4;have HW:=U9 π;have S4:=S2.call D4;have Γ:=ζ.call D4;have hld:=dG (P:=prog) B4 underlying85 rfl (fQ D);have D5:Ys w4 (w4.alloc (.cells (eu D) 85)):=(Vd _ _).alloc (Vc _) _;have B5:ai (w4.alloc (.cells (eu D) 85)) w4.heap.size 85 (eu D):=ai.new _ _ _;have K:=S4.call D5;have N:=Γ.call D5;obtain⟨H,w6,k1,Z,R,k4,-⟩:=iH.app 36 K.rg (A:=some ⟨w4.heap.size,0,none⟩) (cap:=1) (dU eL B5) (by rw[Wd,List.length_reverse];simp;omega) (by have:=K.below.size;omega);have f6:=k4;rw[z4]at k1;simp only[VB,VR,Vk]at k1;have S6:ai w6 w.heap.size 38 (cy m.inn m.kn vN vG):=R.blk _ _ _ K.st (by decide);have N6:eM w6 w.heap.size vN (aW m):=R.row K.rn (by decide);have b6:Ys w w6:=K.below.trans R.below;have O:cq Gq w6 L.gm V.heap.size j (((γ,δ),D)::f):=N.same (k4.block _ N.map.lt λe=>by
      have hm:=N.map;obtain⟨es,clock,F,-⟩:=hm.ex;have:=eC K.rg _ _ e.symm F;cases this) (k4.block _ N.lt λe=>N.notOwn K.rg e.symm)
     have S7:=S6.set_ 19 H;rw[zE]at S7;have F7:Fr w6 (w6.setCell ⟨w.heap.size,19,none⟩ H) w.heap.size none:=Fr.of_set _ rfl _;have φ:=O.same (w':=w6.setCell ⟨w.heap.size,19,none⟩ H) (F7.block _ O.map.lt (O.map.ne_blk S6) (by simp)) (F7.block _ O.lt (V1 (O.notCells S6)) (by simp));have hk:List.map (·.2) f.reverse++[D]=List.map (·.2) (((γ,δ),D)::f).reverse:=by simp
     rw[hk]at Z;have HA:=U9 (show Td w L m V.heap.size vN H j (((γ,δ),D)::f) (w6.setCell ⟨w.heap.size,19,none⟩ H)from
      ⟨φ,by
       refine B.pm.trans ?_;rw[List.reverse_cons,Wn];exact List.Perm.append_left _ hp,⟨S7,F7.own N6 (N6.ne_box S6 (by decide)) (by cases vN.ownBlock<;>simp),F7.own Z (Row.ne_box Z S6 (by decide)) (by cases H.ownBlock<;>simp),F7.below b6 (Vc _) (λ_ h=>by cases h)⟩⟩)
     obtain⟨A',c',Y,-,-⟩:=Z.sl;generalize ((((γ,δ),D)::f).reverse.map (·.2)).length=n' at Y;subst Y;obtain⟨q2,-⟩:=S4.st.rules;have l2:=S4.st.lt;obtain⟨q5,-⟩:=K.st.rules;have l5:=K.st.lt;obtain⟨q,fz⟩:=S6.rules;have l:=S6.lt;have HG:=U9 (Vb hg ν);clear B hp ζ ω S2 B3 D4 B4 z4 S4 Γ D5 B5 K N Z R k4 f6 S6 N6 b6 O S7 F7 φ hk hg ν hN α hpl;subst π;go_wp2_with fail;have hg:=HG.o.1;have ν:=HG.o.2
     go_roundg j.length
     case measure=>omega
     case rel=>exact⟨j,_,_,rfl,HA.o⟩
end
end
