import Derived.Test.YtemcfhlbmhbjeaaGreatDoorZ12
set_option maxRecDepth 100000
set_option maxHeartbeats 0
set_option linter.all false
namespace Go.Proofs.YtemcfhlbmhbjeaaGreatDoor
open Go.Proofs.Tryz
variable{r:Nat}
open Go Go.RowKit
section
variable{w w':D}{L:eY}{m:aG}
structure nQ(w:D)(m:aG)(vN vG:H)(aeM:List eB)(G:List cI)(W:D):Prop where
 st:M W w.heap.size 37 (aT m.inn m.kn vN vG)
 rn:eV W w.heap.size vN aeM
 rg:iK W w.heap.size vG G
 below:S w W
def nQ.call{vN vG:H}{a:List eB}{G:List cI}{W c:D}(h:nQ w m vN vG a G W)(b:S W c):nQ w m vN vG a G c:=⟨h.st.call b,Row.call h.rn b,Row.call h.rg b,h.below.trans (b.mono h.below.size)⟩
structure Cf(w:D)(L:eY)(m:aG)(r:Nat)(vN vG:H)(left kept:List ((Int×Int)×cI))(W:D):Prop where
 rg:fP pM W L.gm r left kept
 pm:m.gr.Perm (kept.reverse++left)
 si:nQ w m vN vG (cq m) (kept.reverse.map (·.2)) W
def fP.notCells{α β:Type}{m:eR α β}{b:Nat}{left a:List (α×β)}(h:fP m w b r left a){g:Nat}{t:ay}{cs:Array H}(i:M w g t cs):g≠r:=λe=>by obtain⟨j,d,c,seen,k,-,-,f,-⟩:=h.ex;subst e;rw[show w.heap[g]? =_ from i]at f;cases f
def fP.notOwn{α β:Type}{m:eR α β}{b:Nat}{left a:List (α×β)}(h:fP m w b r left a){base:Nat}{e:ay}{sz n:Nat}{v:H}{xs:List H}(f:w.ownsRow base e sz v n xs):v.ownBlock≠some r:=λg=>by obtain⟨j,d,c,seen,k,-,-,i,-⟩:=h.ex;have:=oe f r _ g i;cases this
def nQ.fr{vN vG:H}{a:List eB}{G:List cI}{W b:D}(h:nQ w m vN vG a G W)(f:aH W b r none)(e:w.heap.size≠r)(c:vN.ownBlock≠some r)(g:vG.ownBlock≠some r)(d:w.heap.size<=r):nQ w m vN vG a G b:=
 ⟨f.blk h.st e ah,f.own h.rn c (by cases vN.ownBlock<;>simp),f.own h.rg g (by cases vG.ownBlock<;>simp),f.below h.below d (λ_ h=>aK h)⟩
def Row.ne_box{α:Type}{c:α->Array H}{sz base:Nat}{e:ay}{v:H}{l:List α}(h:Row w base e sz c v l){g:Nat}{t:ay}{cs:Array H}(j:M w g t cs)(i:t≠e):v.ownBlock≠some g:=λa=>by
 rcases h.2 with⟨rfl,_⟩|⟨k,d,f,rfl,_,b,_⟩
 ·cases a
 simp only[Value.ownBlock,ud]at a;subst a;exact i (j.type_eq b).1
def Ae(h:bI w L m)(hm:m.ok)(hN:gG m.kn<=900000):Calls prog 51 #[N L.b] w λr w'=>∃d K,r=.returned (.agg (aT m.inn m.kn d K))/\eV w' w.heap.size d (cq m)/\iK w' w.heap.size K (ec m)/\S w w':=by
 have D0:S w (w.alloc (.cells (aT (λ_=>false) an.zero (.slice none 0 0) (.slice none 0 0)) 37)):=(aq w.heap.size w).alloc aQ _;have B0:M (w.alloc (.cells (aT (λ_=>false) an.zero (.slice none 0 0) (.slice none 0 0)) 37)) w.heap.size 37 (aT (λ_=>false) an.zero (.slice none 0 0) (.slice none 0 0)):=M.new _ _ _;obtain⟨W0,ω⟩:=cJ (w.alloc (.cells (aT (λ_=>false) an.zero (.slice none 0 0) (.slice none 0 0)) 37));rw[<-ω]at D0 B0;have G:=iA h hm hN D0 B0;have HF:=U (λ(X:D) (J:S W0 X)=>ar (B0.call J).rules.1 (ar (B0.call J).lt (ar ((h.call D0).call J).blk.rules.1 ((h.call D0).call J).blk.lt)));have HW:=U ω;clear h hm hN D0 B0 ω;go_in;go_wp2_with fail;refine dI HW.o ?_;clear HW;refine eS 13 Y ah Y Y Y Y ?_;simp only[cR]
 iterate 13 refine fX HF.o ?_
 refine dg ?_;intro _ W1 β _;have B1:=G.o.2.2.2.2.call β;have η:(eQ 37 (N w.heap.size) (.agg #[.bool (m.inn 0),.bool (m.inn 1),.bool (m.inn 2),.bool (m.inn 3),.bool (m.inn 4),.bool (m.inn 5),.bool (m.inn 6),.bool (m.inn 7),.bool (m.inn 8),.bool (m.inn 9),.bool (m.inn 10),.bool (m.inn 11),q m.kn.v0,q m.kn.v1,q m.kn.v2,q m.kn.v3,q m.kn.v4,q m.kn.v5,.slice none 0 0,.slice none 0 0])).run prog W1=.ok .skip (W1.setRow w.heap.size (aT m.inn m.kn (.slice none 0 0) (.slice none 0 0))):=
  ft (cs:=aT m.inn m.kn (.slice none 0 0) (.slice none 0 0)) B1 (im _ _ _ _) O (by simp[aT,Value.oneCell'])
 have B2:=dt B1 (aT m.inn m.kn (.slice none 0 0) (.slice none 0 0));have D2:S w (W1.setRow w.heap.size (aT m.inn m.kn (.slice none 0 0) (.slice none 0 0))):=(fl W1 w.heap.size (aT m.inn m.kn (.slice none 0 0) (.slice none 0 0))).below (G.o.2.2.2.1.trans (β.mono G.o.2.2.2.1.size)) (ao _) (λ_ h=>aK h);obtain⟨W2,χ⟩:=cJ (W1.setRow w.heap.size (aT m.inn m.kn (.slice none 0 0) (.slice none 0 0)));rw[<-χ]at η B2 D2;have H2:=U (show nQ w m (.slice none 0 0) (.slice none 0 0) [] [] W2 from⟨B2,Row.nil,Row.nil,D2⟩);obtain⟨α,-⟩:=(G.o.1.call D2).blk.rules;have CL:=U (GW (G.o.1.call D2).tre (aZ G.o.2.1.tr.le V));clear HF β B1 B2 D2 χ;go_wp2_with fail;apply CL.o.mono;rintro r W3 ⟨u,rfl,f,C⟩;obtain⟨A,c,rfl,hc,hmx⟩:=f.sl;have H3:=aB f (H2.o.call C);have χ:=H2.o.st.lt;have hlen:=CV m.tr;have hle:=G.o.2.1.tr.le;clear η α CL C f;go_wp2;go_loopw [29] (λi wr=>∃(k:Nat) (d:H),k<=m.tr.length/\i=Z k/\gI wr W2.heap.size (.slice A (eG m.tr).length c) (eG m.tr)/\nQ w m d (.slice none 0 0) ((cq m).take k) [] wr) (λi _=>m.tr.length-(intOf i).toNat);exact⟨0,_,V,O,H3.o⟩;obtain⟨k,d,hk,rfl,f,hS⟩:=hrel;clear H3;by_cases hlt:k<m.tr.length
 ·obtain⟨y,hy⟩:∃y,(eG m.tr)[k]? =some y:=⟨(eG m.tr)[k],bY V⟩;have κ:bo y:=by obtain⟨v,hv⟩:=n8.1 (zd.1 (cX hy));exact(G.o.2.1.tr.rg _ (dX hv)).1
  obtain⟨g,cap,hs,Ξ,hmx,hgb,ι⟩:=f.sl_pos V;have Q:=f;rw[hs]at Q;have hrd:=Q.rng kV hy;obtain⟨rfl,hcc⟩:A=some (I g 0)/\c=cap:=by injection hs with a b c;exact⟨a,c⟩
  have hce:wr.cell? (I g k)=some (q y):=by have this:=hrd 0 (q y) O;rw[iP]at this;exact this
  have k0:(0:Int)<=(k:Int):=V;have kl:(k:Int)<m.tr.length:=V;have ζ:=cQ f hS κ hy;have LX:=G.o.1.call hS.below;have nF:¬(d.ownBlock=some w.heap.size):=λe=>by
   rcases hS.rn.2 with⟨rfl,_⟩|⟨g',Ω,cur,rfl,_,υ,_⟩
   ·cases e
   simp only[Value.ownBlock,ud]at e;subst e;exact absurd (hS.st.type_eq υ).1 ai
  have φ:=hS.rn.ge;have HFA:=U φ;have hFl:∀b,d.ownBlock=some b->b<wr.heap.size:=λb J=>(φ b J).2;have HF:=U (λ(X:D) (J:aa (λb=>d.ownBlock=some b) wr X)=>by have hL:=LX.mod J λb hb' he=>cF ((HFA.o b he).1) (G.o.1.lt b hb');exact ar (J.blk hS.st nF).rules.1 (ar (J.blk hS.st nF).lt (ar hL.blk.rules.1 (ar hL.blk.lt (ar (xE hL.pa κ) (AO hL.ri κ))))));clear f hS Q hrd hs Ξ hmx hcc hy κ LX φ nF;go_wp2_with fail;refine mX 19 [] (λb=>d.ownBlock=some b) 17 hFl Y ah Y Y Y Y ?_;simp only[cR]
  iterate 16 refine gx HF.o ?_
  refine uP (λ_=>rfl) (eJ O) (λp:Nat=>bh p 1 1) 0 (ve 52 (eW ⟨y,(lk m.pa y).getD 0,(lk m.ri y).getD aC⟩)) (λu X _=>⟨X.heap.size,X.alloc (.cells (eW ⟨y,(lk m.pa y).getD 0,(lk m.ri y).getD aC⟩) 52),by simp[execOp,go_sem],⟨_,O,ao _,M.new _ _ _⟩,(aq _ _).alloc (ao _) _⟩) ?_;simp only[aD];refine uA (λ_=>rfl) O 16 ai (o3 O) (λv:H=>v) (.slice none 0 0) (λX r X'=>eV X' w.heap.size r ((cq m).take k++([⟨y,(lk m.pa y).getD 0,(lk m.ri y).getD aC⟩]:List eB))/\iO w.heap.size [52] X X') (λu=>bh u.2 1 1) _ cD (λu X hX hR=>?app) ?_
  case app=>
   simp only[d8,Nat.reduceAdd,cA]at hR;obtain⟨w1,n,-,g2,⟨b,γ,hbs,Φ⟩,g4⟩:∃w1 n,(16=17->S wr w1)/\aa (λb=>d.ownBlock=some b) wr w1/\ve 52 (eW ⟨y,(lk m.pa y).getD 0,(lk m.ri y).getD aC⟩) w1 (bh u.2 1 1) n/\fB [] (λk=>16≠17/\d.ownBlock=some k) wr.heap.size n X:=hR;injection γ with γ _ _;injection γ with γ;injection γ with γ _ _;subst γ;have hbX:M X u.2 52 (eW ⟨y,(lk m.pa y).getD 0,(lk m.ri y).getD aC⟩):=by
    rcases g4.block u.2 Φ.lt with e|⟨-,⟨cs,t,hz,-⟩,-⟩|⟨-,e⟩;exact e.trans Φ
    ·cases hz
    have:=(HFA.o _ e).2;have:=g2.size;omega
   obtain⟨T,w',k1,k2,k3,k4,-⟩:=eV.app 34 (Row.call ζ.o.2.1.rn hX) (A:=some (I u.2 0)) (cap:=1) (jn mT hbX) (by rw[il];unfold cq;simp;omega) (cF ζ.o.2.1.below.size hX.size);exact⟨T,w',by simp[execOp,go_sem];exact k1,⟨k2,k3⟩,aa.of_grown k4 λ_ h=>h⟩
  simp only[aD];refine gx HF.o ?_;refine cT Y ?_;rintro⟨⟨_,p⟩,T⟩ W4 hC hR;dsimp only;simp only[d8,Nat.reduceAdd,Nat.zero_add]at hR;obtain⟨w1,n,g1,g2,⟨k2,k3⟩,g4⟩:=fK (hR 17 _ _ cD) O;have β:=g1 O;have C:=g4.below λ_ h=>h.1 O;have S1:=ζ.o.2.1.call β;have ξ:M W4 w.heap.size 37 (aT m.inn m.kn d (.slice none 0 0)):=(k3.blk _ _ _ S1.st ai).call C;have Γ:S w W4:=(S1.below.trans k3.below).trans (C.mono (cF S1.below.size k3.size));have N4:eV W4 w.heap.size T ((cq m).take k++([⟨y,(lk m.pa y).getD 0,(lk m.ri y).getD aC⟩]:List eB)):=Row.call k2 C;have R4:gI W4 W2.heap.size (bh g (eG m.tr).length c) (eG m.tr):=Row.call (k3.row (Row.call ζ.o.1 β) ai) C;have S5:=ξ.set_ 18 T;rw[MN]at S5;have F5:aH W4 (W4.setCell (I w.heap.size 18) T) w.heap.size none:=aH.of_set _ O _;have nb:∀(v:H) (L:List eB),eV W4 w.heap.size v L->v.ownBlock≠some w.heap.size:=λv L hr e=>by
   rcases hr.2 with⟨rfl,_⟩|⟨g',Ω,cur,rfl,_,υ,_⟩
   ·cases e
   simp only[Value.ownBlock,ud]at e;subst e;exact absurd (ξ.type_eq υ).1 ai
  have hnd:(cq m).take k++([⟨y,(lk m.pa y).getD 0,(lk m.ri y).getD aC⟩]:List eB)=(cq m).take (k+1):=by rw[gP];unfold cq;rw[nX,ζ.o.2.2.2];rfl
  rw[hnd]at N4;have HX:=U (ar (F5.own R4 (λe=>aA ((R4.ge _ e).1)) (by simp[Value.ownBlock])) (show nQ w m T (.slice none 0 0) ((cq m).take (k+1)) [] (W4.setCell (I w.heap.size 18) T)from
   ⟨S5,F5.own N4 (nb _ _ N4) (by cases T.ownBlock<;>simp),Row.nil,F5.below Γ (ao _) (λ_ h=>aK h)⟩))
  obtain⟨A',c',θ,-,-⟩:=N4.sl;generalize ((cq m).take (k+1)).length=n' at θ;subst θ;obtain⟨α,fz⟩:=ξ.rules;clear hC hR g1 g2 k2 k3 g4 β C S1 ξ Γ N4 R4 S5 F5 nb hnd HF hFl;go_wp2;go_roundw
  ·exact⟨k+1,_,V,by go_num,HX.o⟩
  simp[intOf];omega
 obtain rfl:k=m.tr.length:=V;obtain⟨R,hV⟩:=cJ (wr);subst hV;have hS:nQ w m d (.slice none 0 0) (cq m) [] R:=by rw[kR (by unfold cq;simp;omega)]at hS;exact hS
 have LX:=G.o.1.call hS.below;have HX:=aB hS LX;have Θ:=U LX.gr;obtain⟨α,-⟩:=LX.blk.rules;clear hS f LX;go_wp2_with (first|(at_range;refine sP zY rfl _ rfl rfl Θ.o ?_;intro w0 σ hb0 hs0));go_frame;have A0:Cf w L m R.heap.size d (.slice none 0 0) m.gr [] w0:=⟨σ,ah,HX.o.1.call hb0⟩;have hwr:=HX.o.1.below.size;clear σ hb0 hs0 α Θ;go_loopg [58] m.gr.length (λg v W=>∃left j K,left.length=g/\Cf w L m R.heap.size d K left j W);exact⟨m.gr,[],_,O,A0⟩;obtain⟨left,j,K,hg,B⟩:=hrel;clear A0;go_wp2_with (first|(at_next;refine sQ rfl _ rfl rfl B.rg ?_ ?_))
 ·intro hl0;obtain rfl:=hl0;have τ:(m.gr.map (·.2)).Perm (j.reverse.map (·.2)):=by have h:=B.pm;rw[eF]at h;exact h.map _
  have ι:=G.o.2.1.gl;have hN:=G.o.2.2.1;have CS:=U (Vj B.si.rg (by rw[<-τ.length_eq,j3];omega));have HP:=aB τ B.si;obtain⟨α,-⟩:=B.si.st.rules;clear B τ ι hN;go_wp2_with fail;apply CS.o.mono;rintro r w3 ⟨rfl,G',hG,hp,hs,F⟩;have S3:M w3 w.heap.size 37 (aT m.inn m.kn d K):=(F.block _ HP.o.2.st.lt (λe=>(HP.o.2.rg.ne_box HP.o.2.st ai) e.symm)).trans HP.o.2.st;have hld:=f8 (P:=prog) S3 underlying37 O (im _ _ _ _);have η:=ft (P:=prog) (ty:=37) S3 (im m.inn m.kn d K) O (by obtain⟨A1,c1,rfl,-⟩:=HP.o.2.rn.sl;obtain⟨A2,c2,rfl,-⟩:=HP.o.2.rg.sl;simp[aT,Value.oneCell']);have S4:=dt S3 (aT m.inn m.kn d K);have F4:=fl w3 w.heap.size (aT m.inn m.kn d K);have N3:eV w3 w.heap.size d (cq m):=by refine Row.blocks HP.o.2.rn λg cs J=>?_;refine(F.block _ (M.lt J) λe=>?_).trans J;exact(HP.o.2.rg.ne_box J ai) e.symm
  have b3:S w w3:=HP.o.2.below.trans ⟨F.os,F.tape,F.output,F.size,λk hk=>F.block k (ee hk HP.o.2.below.size) λe=>aA ((HP.o.2.rg.ge k e.symm).1)⟩;have N4:eV (w3.setRow w.heap.size (aT m.inn m.kn d K)) w.heap.size d (cq m):=F4.own N3 (N3.ne_box S3 ai) (by cases d.ownBlock<;>simp);have G4:iK (w3.setRow w.heap.size (aT m.inn m.kn d K)) w.heap.size K G':=F4.own hG (Row.ne_box hG S3 ai) (by cases K.ownBlock<;>simp);have hge:=Ke (λx hx=>(G.o.2.1.gk x hx).1) G.o.1.gr.ndk (HP.o.1.trans hp) hs;subst hge;have HX:=cQ S4 N4 G4 (F4.below b3 (ao _) (λ_ h=>aK h));clear HP hG hp hs F S3 S4 F4 N3 b3 N4 G4 CS α;go_wp2_with fail;exact eI (s:=2) results51 O HX.o.1 underlying37 O (im _ _ _ _) O ⟨d,K,O,HX.o.2⟩
 intro μ ν E l n hp π hf2 hen;have ψ:l.length+1=left.length:=by have:=hp.length_eq;simpa using this.symm
 have hN:=G.o.2.2.1;have ι:=G.o.2.1.gl;have hpl:m.gr.length=j.length+left.length:=az B.pm.length_eq;have S2:=B.si.fr hf2 (B.rg.notCells B.si.st) (B.rg.notOwn B.si.rn) (B.rg.notOwn B.si.rg) hwr;have B3:M (n.alloc (.cells #[Z 0,q 0,q 0,Z 0,q 0] 119)) n.heap.size 119 #[Z 0,q 0,q 0,Z 0,q 0]:=M.new _ _ _;have η:(eQ 119 (N n.heap.size) (.agg (bR E))).run prog (n.alloc (.cells #[Z 0,q 0,q 0,Z 0,q 0] 119))=.ok .skip ((n.alloc (.cells #[Z 0,q 0,q 0,Z 0,q 0] 119)).setRow n.heap.size (bR E)):=ft B3 (pq E) O (EL E);have D4:S n ((n.alloc (.cells #[Z 0,q 0,q 0,Z 0,q 0] 119)).setRow n.heap.size (bR E)):=(fl _ _ _).below ((aq _ _).alloc (ao _) _) (ao _) (λ_ h=>aK h);have B4:=dt B3 (bR E);have z4:((n.alloc (.cells #[Z 0,q 0,q 0,Z 0,q 0] 119)).setRow n.heap.size (bR E)).heap.size=n.heap.size+1:=by simp[World.setRow]
 generalize Δ:(n.alloc (.cells #[Z 0,q 0,q 0,Z 0,q 0] 119)).setRow n.heap.size (bR E)=w4 at η D4 B4 z4;have HW:=U Δ;have S4:=S2.call D4;have rg4:=π.call D4;have hld:=f8 (P:=prog) B4 underlying119 O (pq E);have D5:S w4 (w4.alloc (.cells (bR E) 119)):=(aq _ _).alloc (ao _) _;have B5:M (w4.alloc (.cells (bR E) 119)) w4.heap.size 119 (bR E):=M.new _ _ _;have S5:=S4.call D5;have δ:=rg4.call D5;obtain⟨T,w6,k1,k2,k3,k4,-⟩:=iK.app 35 S5.rg (A:=some (I w4.heap.size 0)) (cap:=1) (jn po B5) (by rw[j3,List.length_reverse];simp;omega) (aA S5.below.size);rw[z4]at k1;simp only[dN,g8,cA]at k1;have S6:M w6 w.heap.size 37 (aT m.inn m.kn d K):=k3.blk _ _ _ S5.st ai;have N6:eV w6 w.heap.size d (cq m):=k3.row S5.rn ai;have b6:S w w6:=S5.below.trans k3.below;have ε:fP pM w6 L.gm R.heap.size l (((μ,ν),E)::j):=δ.same (k4.block _ δ.map.lt λe=>by have hm:=δ.map;obtain⟨es,clock,J,-⟩:=hm.ex;have:=oe S5.rg _ _ e.symm J;cases this) (k4.block _ δ.lt λe=>δ.notOwn S5.rg e.symm);have S7:=S6.set_ 19 T;rw[MM]at S7;have F7:aH w6 (w6.setCell (I w.heap.size 19) T) w.heap.size none:=aH.of_set _ O _;have Ψ:=ε.same (w':=w6.setCell (I w.heap.size 19) T) (F7.block _ ε.map.lt (ε.map.ne_blk S6) ah) (F7.block _ ε.lt (eC (ε.notCells S6)) ah);have hk:List.map (·.2) j.reverse++[E]=List.map (·.2) (((μ,ν),E)::j).reverse:=ah;rw[hk]at k2;have HA:=U (show Cf w L m R.heap.size d T l (((μ,ν),E)::j) (w6.setCell (I w.heap.size 19) T)from
  ⟨Ψ,by refine B.pm.trans ?_;rw[yA,i6];exact List.Perm.append_left _ hp,⟨S7,F7.own N6 (N6.ne_box S6 ai) (by cases d.ownBlock<;>simp),F7.own k2 (Row.ne_box k2 S6 ai) (by cases T.ownBlock<;>simp),F7.below b6 (ao _) (λ_ h=>aK h)⟩⟩)
 obtain⟨A',c',θ,-,-⟩:=k2.sl;generalize ((((μ,ν),E)::j).reverse.map (·.2)).length=n' at θ;subst θ;obtain⟨q2,-⟩:=S4.st.rules;have l2:=S4.st.lt;obtain⟨q5,-⟩:=S5.st.rules;have l5:=S5.st.lt;obtain⟨α,fz⟩:=S6.rules;have HG:=aB hg ψ;clear B hp π hf2 S2 B3 D4 B4 z4 S4 rg4 D5 B5 S5 δ k2 k3 k4 S6 N6 b6 ε S7 F7 Ψ hk hg ψ hN ι hpl;subst Δ;go_wp2_with fail;have hg:=HG.o.1;have ψ:=HG.o.2;go_roundg l.length
 case measure=>omega
 exact⟨l,_,_,O,HA.o⟩
end
