import Derived.Test.YtghdobdjfnimmaaGreatDoorZ17
set_option maxRecDepth 100000
set_option maxHeartbeats 0
set_option linter.all false
namespace Go.Proofs.YtghdobdjfnimmaaGreatDoor
open Go.Proofs.Tryz
variable{w w' w1 W:Yu}{A:Option Addr}{l m:List Int}{c base d g p k o B a:Nat}{F:Nat->Prop}{v:Yv}{t T:Yw}{cs:Array Yv}
section
open Go.RowKit Go
section
variable(ρ:Yx->Yv)(dst:Option Tmp)(x y:Yx)(ty:Yw)(pos:String)(after:Array Edge)(guard:Option (Nat×Bool))
@[go_sem ↓] theorem Fw:execOp ρ {dst,op:=.buildSlice 121 0 #[],type:=ty,pos,after,guard}=Fz 121:=jq ..
end
@[go_sem] theorem J9(w:Yu):(Fz 121).run prog w=.ok (.value (.slice (some ⟨w.heap.size,0,none⟩) 0 0)) (w.alloc (.cells #[] 5)):=by kernel_rfl
structure bA(w:Yu)(A:Option Addr)(l:List Int)(c:Nat):Prop where
 blk:l≠[]->∃b o cs,A=some ⟨b,o,none⟩/\ai w b 5 cs/\∀i x,l[i]? =some x->cs[o+i]? =some (.int .u8 x)
 le:l.length<=c
 max:c<=maxLen
 by_:∀x∈l,0<=x/\x<=255
section
variable{w w':Yu}{A:Option Addr}{l:List Int}{c:Nat}
theorem bA.rows(h:bA w A l c):gM w w.heap.size A l:=λj=>by
 obtain⟨b,o,cs,e,f,r⟩:=h.blk j;exact⟨b,o,e,f.lt,λi x q=>by rw[f.cell];exact r i x q⟩
theorem bA.blks(h:bA w A l c)(i:∀b o cs,A=some ⟨b,o,none⟩->l≠[]->ai w b 5 cs->ai w' b 5 cs):bA w' A l c:=⟨λf=>by
 obtain⟨b,o,cs,e,q,j⟩:=h.blk f;exact⟨b,o,cs,e,i b o cs e f q,j⟩,h.le,h.max,h.by_⟩
theorem bA.call(h:bA w A l c)(e:Ys w w'):bA w' A l c:=h.blks λ_ _ _ _ _ h=>h.call e
theorem bA.own(h:w.ownsRow base 5 1 v l.length (aU l))(e:∀x∈l,0<=x/\x<=255):∃A c,v=.slice A l.length c/\bA w A l c:=by
 have H:=h;rcases h.2 with⟨rfl,D⟩|⟨g,cap,cur,rfl,I,u,C,q,L,r⟩
 ·obtain rfl:l=[]:=VM D
  exact⟨none,0,rfl,λh=>absurd rfl h,Vc _,by decide,e⟩
 ·refine⟨_,cap,rfl,λ_=>⟨g,0,cur,rfl,u,λi x j=>?_⟩,C,q,e⟩
  have J:=(Vx.1 j).1;have f:(aU l)[i]? =some (.int .u8 x):=by unfold aU;rw[Wm,j];rfl
  rw[<-r,VU,Vh (by omega),VK]at f;rw[Vk];exact f
theorem bA.nil(w:Yu):bA w none [] 0:=⟨λh=>absurd rfl h,Vc _,by decide,by simp⟩
theorem bA.kt{e:List Yw}(h:bA w A l c)(k:Kt base e w w')(f:5∉e):bA w' A l c:=h.blks λ_ _ _ _ _ h=>k.blk _ _ _ h f
theorem bA.mod(h:bA w A l c)(m:ah F w w')(hF:∀b o,A=some ⟨b,o,none⟩->l≠[]->¬F b):bA w' A l c:=h.blks λb o _ e f i=>m.blk i (hF b o e f)
theorem bA.off(h:bA w A l c)(D:ai w g t cs)(C:t≠5):∀b o,A=some ⟨b,o,none⟩->l≠[]->¬cj g b:=λb o e r i=>by
 have i:b=g:=i;subst i;obtain⟨H,o',u,f,j,I⟩:=h.blk r;rw[e]at f;injection f with f;injection f with q J;subst q;exact C (D.type_eq j).1
theorem bA.set(h:bA w A l c)(i:Nat)(u:Yv)(e:∀b o,A=some ⟨b,o,none⟩->l≠[]->¬cj p b):bA (w.setCell ⟨p,i,none⟩ u) A l c:=h.mod (ah.set (F:=cj p) ⟨p,i,none⟩ rfl u) e
end
theorem lL(h:bA w A l c)(I:l.length<=100000000):Yt 62 #[.slice A l.length c] w (lS l w):=by
 have r:=U9 h;have J:=h.le;have C:c<=9223372036854775807:=h.max;have D:∀(w:Yu) (a:Option Addr) (n c n' j:Nat),(binOp .eql 121 (.slice a n c) (.slice none n' j)).run prog w=.ok (.bool a.isNone) w:=λw a n c n' j=>Lib.run_eql_slice_nil w _ 5 a n c n' j underlying121
 clear h;go_enter func62,ntmps62;cases A with
 |none=>
  have u:l=[]:=Ya λi=>by
   obtain⟨b,o,e,-⟩:=r.o.rows i;cases e
  subst u;go_wp2_with fail;go_ret;exact⟨_,rfl,WT _ _ _ _,Vd _ _⟩
 |some a=>
  go_wp2_with (at_builtin;go_loud (refine dW _ rfl (.tmp 5) (.tmp 6) rfl w.heap.size _ [] l rfl ?h1 (some a) c w.heap.size rfl ?h2 ?h3 ?h4 ?_;(case h1=>exact WY w _ 0 (Vc _) (by decide) rfl);(case h2=>exact r.o.rows.below ((Vd _ _).alloc (Vc _) _));(case h3=>simp;omega);(case h4=>simp);intro H w1 f q));rw[V8]at f;go_ret;exact⟨_,rfl,f,((Vd _ _).alloc (Vc _) _).trans q⟩
theorem oP(n:Int)(D:0<=n)(r:n<=4294967295)(w:Yu):Yt 107 #[.int .u32 n] w (lS (dc n 4) w):=by
 have C:Yt 122 #[.slice none 0 0,.int .u64 n,.int .i64 4] w (kG ([]++dc n 4) 0 w):=Ot none 0 [] w.heap.size n w (λh=>absurd rfl h) (Vc _) (by simp) (by decide) (by simp) D r;rw[V8]at C;have j:=U9 C;clear C;go_enter func107,ntmps107;go_wp2_with fail;refine j.o.mono ?_;rintro e w1 ⟨u,rfl,f,i⟩;obtain⟨A,c,rfl,-⟩:=aF f;have q:=U9 (Vb f i);clear f i j;go_wp2_with fail;go_ret;exact⟨_,rfl,q.o.1,q.o.2⟩
theorem fK(n:Int)(k:Nat):∀x∈dc n k,0<=x/\x<=255:=λx e=>fj n x (Wr e)
structure cE where
 A:Option Addr
 l:List Int
 c:Nat
def oz(x:cE):Array Yv:=#[.slice x.A x.l.length x.c]
theorem kj(x:cE):(oz x).size=1:=rfl
theorem zO(x:cE):∀u∈(oz x).toList,u.oneCell'=true:=by intro u e;simp[oz]at e;subst e;rfl
abbrev jE(w:Yu)(base:Nat)(v:Yv)(R:List cE):Prop:=Row w base 121 1 oz v R
theorem Lt:(prog.info? 121).map (λi=>(i.zero,i.size,i.bytes))=some (some (.slice none 0 0),1,24):=by kernel_rfl
theorem jE.app{cap:Nat}(ty:Yw){L M:List cE}(h:jE w base v L)(r:Rd w B 1 A M.length (cC oz M))(D:L.length+M.length<=1000000)(e:base<=w.heap.size):
  ∃f w',(iy 129 ty v (.slice A M.length cap)).run prog w=.ok (.value f) w'/\jE w' base f (L++M)/\Kt base [121] w w'/\w.grownBy w' v.ownBlock/\(f.ownBlock=v.ownBlock\/∀b,f.ownBlock=some b->w.heap.size<=b):=by
 obtain⟨i,C,j,q,u⟩:=V7 Lt;exact Row.app w 129 ty i _ 24 underlying129 C j q u rfl (by decide) kj zO h (cap:=cap) r D (by decide) e
section
variable(ρ:Yx->Yv)(dst:Option Tmp)(x y:Yx)(ty:Yw)(pos:String)(after:Array Edge)(guard:Option (Nat×Bool))
@[go_sem ↓ high] theorem LY:execOp ρ {dst,op:=.call {callee:=.builtin .append,args:=#[x,y],argTypes:=#[129,129]},type:=ty,pos,after,guard}=iy 129 ty (ρ x) (ρ y):=by simp[execOp,iy,resolve,invoke,builtin]
@[go_sem ↓ high] theorem Jc:execOp ρ {dst,op:=.buildSlice 129 1 #[(0,x)],type:=ty,pos,after,guard}=iJ 129 (ρ x):=by simp[execOp,iJ]
end
@[go_sem] theorem ue(x:cE)(w:Yu):(iJ 129 (.slice x.A x.l.length x.c)).run prog w=.ok (.value (.slice (some ⟨w.heap.size,0,none⟩) 1 1)) (w.alloc (.cells (oz x) 121)):=by kernel_rfl
def il(w:Yu)(R:List cE):Prop:=∀x∈R,bA w x.A x.l x.c
theorem il.call{R:List cE}(h:il w R)(f:Ys w w'):il w' R:=λx e=>(h x e).call f
theorem jE.at_{n:Nat}{R:List cE}(h:jE w base (.slice A n c) R){y:cE}(i:R[k]? =some y):∃g,A=some ⟨g,0,none⟩/\g<w.heap.size/\w.cell? ⟨g,k,none⟩=some (.slice y.A y.l.length y.c):=by
 have u:=(Vx.1 i).1;obtain⟨g,cap,q,j,C,r,e⟩:=h.sl_pos (by omega);rw[q]at h;have f:=h.rng kj i;obtain⟨rfl,-⟩:A=some ⟨g,0,none⟩/\c=cap:=by injection q with a b c;exact⟨a,c⟩
 have:=f 0 _ rfl;rw[V3]at this;exact⟨g,rfl,e,this⟩
def dS(R:List cE):Nat:=(R.map λx=>8+x.l.length).sum
theorem xE{R:List cE}{y:cE}(e:R[k]? =some y):dS (R.take (k+1))=dS (R.take k)+(8+y.l.length):=by
 unfold dS;rw[VN,e];simp
theorem vp{R:List cE}(h:∀x∈R,x.l.length<=4096):dS R<=R.length*4104:=by
 induction R with
 |nil=>simp[dS]
 |cons x R ih=>
  have e:=ih λy f=>h y (VA _ f)
  have i:=h x Vp;simp only[dS,VG,XU,VB]at e⊢;omega
theorem SA{R:List cE}(h:jE w base v R)(hr:il w R)(h4:∀x∈R,x.l.length<=4096)(hn:R.length<=1000):
  Yt 258 #[.slice none 0 0,v] w λr w'=>∃l,kG l 0 w r w'/\l.length=dS R/\∀x∈l,0<=x/\x<=255:=by
 obtain⟨A,c,rfl,hc,hm⟩:=h.sl;have CC:=U9 (lL (bA.nil w) (by simp));have H:=U9 (Vb h (Vb hr h4));have η:c<=9223372036854775807:=hm;clear h hr h4;go_enter func258,ntmps258;go_wp2_with fail;refine CC.o.mono ?_;rintro r w1 ⟨u,rfl,hu,α⟩;have HU:=U9 (Vb hu α);clear hu α CC;obtain⟨A1,c1,rfl,-⟩:=aF HU.o.1;go_wp2_with fail
 go_loopw [6,15] (λo i wr=>∃(k:Nat) (l:List Int),k<=R.length/\i=.int .i64 k/\wr.ownsRow w.heap.size 5 1 o l.length (aU l)/\l.length=dS (R.take k)/\(∀x∈l,0<=x/\x<=255)/\Ys w wr) (λ_ i _=>R.length-(intOf i).toNat)
 case atStart=>exact⟨0,[],by omega,rfl,HU.o.1,by simp[dS],by simp,HU.o.2⟩
 case round=>
  obtain⟨k,l,hk,rfl,e,J,β,hb⟩:=hrel;obtain⟨Ao,co,rfl,-⟩:=aF e;have HO:=U9 (Vb e (Vb J (Vb β hb)));have N:=vp (R:=R.take k) λx hx=>H.o.2.2 x (Ws hx)
  rw[VI]at N;have θ:l.length<=5000000:=by omega
  clear e J β hb N;by_cases γ:k<R.length
  ·obtain⟨y,X⟩:∃y,R[k]? =some y:=⟨R[k],Ve γ⟩
   have q:=Row.call H.o.1 HO.o.2.2.2;obtain⟨g,rfl,hg,V⟩:=jE.at_ q X;have hB:=(H.o.2.1 y (Vn X)).call HO.o.2.2.2;have ζ:=H.o.2.2 y (Vn X);have HY:=U9 (Vb X hB);have C1:=U9 (oP y.l.length (by omega) (by omega) wr);have hd:decide ((k:Int)<R.length)=true:=Vg (by omega);clear q X hB;go_wp2_with fail;refine C1.o.mono ?_;rintro r w2 ⟨u2,rfl,C,f⟩;obtain⟨A2,c2,rfl,-⟩:=aF C;have D2:=HO.o.2.2.2.trans (f.mono HO.o.2.2.2.size);have R2:=dE HO.o.1 f;obtain⟨As,cs,Y,S⟩:=bA.own C (fK _ _);obtain⟨rfl,rfl⟩:A2=As/\c2=cs:=by injection Y with a b c;exact⟨a,c⟩
   have Y2:=HY.o.2.call f;have C2:=U9 (MC A2 c2 (dc y.l.length 4) w2 S.rows S.le S.max);have j:=U9 (Vb D2 (Vb R2 (Vb S Y2)));have e4:(dc (y.l.length:Int) 4).length=4:=rfl;rw[e4]at C2;have O:w2.cell? ⟨g,k,none⟩=some (.slice y.A y.l.length y.c):=(f.cell (p:=⟨g,k,none⟩) hg).trans V;clear D2 R2 S Y2 C f Y C1 V;go_wp2_with fail;refine C2.o.mono ?_;rintro r w3 ⟨m,rfl,m0,m1,rfl⟩;have C3:=U9 (yZ y.A y.c y.l m w2 j.o.2.2.2.rows j.o.2.2.2.le j.o.2.2.2.max m0 m1);clear C2 m0 m1;go_wp2_with fail;refine C3.o.mono ?_;rintro r w3 ⟨m',rfl,ε,δ,rfl⟩;have C4:=U9 (oP m' ε δ);clear C3;go_wp2_with (at_builtin;go_loud (refine dW _ rfl (.tmp 30) (.tmp 31) rfl w.heap.size _ l (dc y.l.length 4) rfl j.o.2.1 A2 c2 w2.heap.size rfl j.o.2.2.1.rows ?h3 ?h4 ?_;(case h3=>rw[e4];omega);(case h4=>exact j.o.1.size);intro v3 w3 R3 b3));refine(C4.o _).mono ?_;rintro r w4 ⟨u4,rfl,L,I⟩;have R4:=dE R3 I;obtain⟨A4,c4,rfl,S4⟩:=bA.own L (fK _ _);have D4:=(j.o.1.trans b3).trans (I.mono (Vi j.o.1.size b3.size));have f4:(dc m' 4).length=4:=rfl;have YB:=(H.o.2.1 y (Vn HY.o.1)).rows;have D:=U9 (Vb D4 (Vb R4 (Vb S4 YB)));rw[f4];clear R4 S4 D4 YB L I R3 b3 C4 O;go_wp2_with (first|(at_builtin;go_loud (refine dW _ rfl (.tmp 32) (.tmp 34) rfl w.heap.size _ (l++dc y.l.length 4) (dc m' 4) rfl D.o.2.1 A4 c4 w4.heap.size rfl D.o.2.2.1.rows ?h3 ?h4 ?_;(case h3=>rw[f4,Vl,e4];omega);(case h4=>exact D.o.1.size);intro v5 w5 R5 b5))|(at_builtin;go_loud (refine dW _ rfl (.tmp 35) (.tmp 36) rfl w.heap.size _ ((l++dc y.l.length 4)++dc m' 4) y.l rfl R5 y.A y.c w.heap.size rfl (D.o.2.2.2.below (D.o.1.trans b5)) ?h3 ?h4 ?_;(case h3=>rw[Vl,Vl,e4,f4];omega);(case h4=>exact(D.o.1.trans b5).size);intro v6 w6 R6 b6)));go_roundw
   case rel=>
    refine⟨k+1,_,by omega,by go_num,R6,?_,λx hx=>?_,(D.o.1.trans b5).trans b6⟩
    ·rw[xE HY.o.1,<-HO.o.2.1,Vl,Vl,Vl,e4,f4]
     omega
    ·rcases Vw.1 hx with hx|hx
     ·rcases Vw.1 hx with hx|hx
      ·rcases Vw.1 hx with hx|hx
       ·exact HO.o.2.2.1 x hx
       ·exact fK _ _ x hx
      ·exact fK _ _ x hx
     ·exact HY.o.2.by_ x hx
   case measure=>simp[intOf];omega
  ·obtain rfl:k=R.length:=by omega
   have hd:decide ((R.length:Int)<R.length)=false:=Vj (by omega);go_wp2_with fail;go_ret2;exact⟨l,⟨_,rfl,HO.o.1,HO.o.2.2.2⟩,by rw[HO.o.2.1,WN],HO.o.2.2.1⟩
def Ic(w:Yu)(p:Nat)(t:Yw)(v:Yv)(n e:Nat)(r:Ending)(w':Yu):Prop:=
 (r=.returned (.tuple #[.int .u32 0,.bool false])/\n<e+4/\Ys w w')\/
 (∃x,r=.returned (.tuple #[.int .u32 x,.bool true])/\0<=x/\x<=4294967295/\e+4<=n/\ai w' p t #[v,.int .i64 ((e+4:Nat):Int)]/\ah (cj p) w w')
theorem Pz{f:Nat}(r:ai w p t #[.slice A l.length c,.int .i64 (f:Int)])(J:bA w A l c)(ha:f<=l.length)(hl:l.length<=5000000):
  Yt 104 #[Yr p] w (Ic w p t (.slice A l.length c) l.length f):=by
 have V:=J.le;have X:c<=9223372036854775807:=J.max;have D:=U9 (Vb r J);have u:=U9 (λ(W:Yu) (h:Ys w W)=>Vb (r.call h).rules (r.call h).lt);clear r J;go_enter func104,ntmps104;by_cases I:f+4<=l.length
 ·obtain⟨b,o,rfl,L,q⟩:=D.o.2.rows (λh=>by rw[h]at I;simp at I)
  have C:=U9 (λ(W:Yu) (h:Ys w W)=>Kn b o c l f W (λi x Y=>(h.cell (p:=⟨b,o+i,none⟩) L).trans (q i x Y)) V D.o.2.max D.o.2.by_ I);obtain⟨n,S⟩:∃n,bW ((l.drop f).take 4)=n:=⟨_,rfl⟩;rw[S]at C;clear S q;go_wp2_with fail;refine bS (by kernel_rfl) (by kernel_rfl) ?_
  iterate 8
   first
   |refine dq u.o rfl ?_
   |refine aw (λ_=>rfl) ?_
   simp only[UW,UX,UY,UZ]
  refine fA (λ_=>rfl) 70 #[.slice (some ⟨b,o,none⟩) l.length c,.int .i64 f,.int .i64 4] _ (λ_ w=>by simp[execOp,go_sem]<;>rfl) (λw r=>(C.o w r).mono (by rintro e w2 ⟨rfl,rfl⟩;exact⟨rfl,Vd _ _⟩)) ?_;simp only[UW,UX,UY,UZ]
  iterate 7
   first
   |refine dq u.o rfl ?_
   |refine aw (λ_=>rfl) ?_
   simp only[UW,UX,UY,UZ]
  refine aH ?_;intro _ O j;have H:=U9 (Vb ((D.o.1.call j).set_ 1 (.int .i64 ((f+4:Nat):Int))) ((ah.of_below (F:=cj p) j).setOld ⟨p,1,none⟩ (.inl rfl) (.int .i64 ((f+4:Nat):Int))));obtain⟨⟨q0,f0⟩,l0⟩:=u.o O j;have N:=iO n;rw[IntKind.wrap_u32]at N;have R:=U9 N;clear C u j N;go_wp2_with fail;go_ret2;exact .inr ⟨_,rfl,R.o.1,R.o.2,I,by simpa using H.o.1,H.o.2⟩
 ·have C:=U9 (λ(W:Yu)=>sP A l.length c f W V D.o.2.max (by omega) ha)
  go_wp2_with fail;refine bS (by kernel_rfl) (by kernel_rfl) ?_
  iterate 8
   first
   |refine dq u.o rfl ?_
   |refine aw (λ_=>rfl) ?_
   simp only[UW,UX,UY,UZ]
  refine fA (λ_=>rfl) 70 #[.slice A l.length c,.int .i64 f,.int .i64 4] _ (λ_ w=>by simp[execOp,go_sem]<;>rfl) (λw r=>(C.o w).mono (by rintro e w2 ⟨rfl,rfl⟩;exact⟨rfl,Vd _ _⟩)) ?_;simp only[UW,UX,UY,UZ]
  iterate 7
   first
   |refine dq u.o rfl ?_
   |refine aw (λ_=>rfl) ?_
   simp only[UW,UX,UY,UZ]
  refine aH ?_;intro _ O j;have H:=U9 j;clear C u j;go_wp2_with fail;go_ret2;exact .inl ⟨rfl,by omega,H.o⟩
theorem DS{e:Nat}(q:ai w p t #[.slice A l.length c,.int .i64 (e:Int)])(J:bA w A l c)(j:e<=l.length)(C:l.length<=5000000):
  Yt 104 #[Yr p] w λr w'=>∃(b:Bool) (n a:Nat),r=.returned (.tuple #[.int .u32 (n:Int),.bool b])/\n<=4294967295/\a<=l.length/\(b=true->a=e+4)/\ai w' p t #[.slice A l.length c,.int .i64 (a:Int)]/\ah (cj p) w w':=
 (Pz q J j C).mono λr w' h=>by
  rcases h with⟨f,D,i⟩|⟨x,f,D,i,H,I,u⟩
  ·exact⟨false,0,e,f,by omega,j,by simp,q.call i,ah.of_below i⟩
  ·obtain⟨n,rfl⟩:∃n:Nat,x=n:=⟨x.toNat,by omega⟩
   exact⟨true,n,e+4,f,by omega,H,λ_=>rfl,I,u⟩
theorem KN{a x:Int}(h:(#[v,.int .i64 a]:Array Yv)[o]? =some (.int .u8 x))(e:∀x,v≠ .int .u8 x:=by intro x h;cases h):False:=by
 match o,h with
 |0,h=>exact e x (VT h)
 |1,h=>cases h
 |n+2,h=>simp at h
def zh(w:Yu)(p:Nat)(t:Yw)(v:Yv)(n e:Nat)(r:Ending)(w':Yu):Prop:=
 (r=.returned (.tuple #[.slice none 0 0,.bool false])/\Ys w w')\/
 (∃u l,r=.returned (.tuple #[u,.bool true])/\w'.ownsRow w.heap.size 5 1 u l.length (aU l)/\l.length<=4096/\(∀x∈l,0<=x/\x<=255)/\e+8+l.length<=n/\ai w' p t #[v,.int .i64 ((e+8+l.length:Nat):Int)]/\ah (cj p) w w')
theorem GP{I:Nat}(hb:ai w p t #[.slice A l.length c,.int .i64 (I:Int)])(hs:bA w A l c)(ha:I<=l.length)(hl:l.length<=5000000):
  Yt 81 #[Yr p] w (zh w p t (.slice A l.length c) l.length I):=by
 have hc:=hs.le;have τ:c<=9223372036854775807:=hs.max;obtain⟨q0,f0⟩:=hb.rules;have l0:=hb.lt;have HH:=U9 (Vb hb hs);clear hb hs;go_enter func81,ntmps81;go_wp2_with fail;have D0:Ys w (w.alloc (.cells #[.slice A l.length c,.int .i64 (I:Int)] 219)):=(Vd _ _).alloc (Vc _) _;refine(DS (ai.new _ _ _) (HH.o.2.call D0) ha hl).mono ?_;rintro r w1 ⟨b1,j,a1,rfl,ν,ι,ε,β,M1⟩;have M1:=(ah.of_below (F:=cj w.heap.size) D0).trans M1;have σ:=β.lt;go_wp2_with fail;refine(DS β (HH.o.2.call (M1.below λk hk e=>by rw[show k=w.heap.size from e]at hk;omega)) ι hl).mono ?_;rintro r w2 ⟨b2,n2,q,rfl,υ,θ,ζ,S,M2⟩;have M2:=M1.trans M2;have D2:=M2.below λk hk e=>by rw[show k=w.heap.size from e]at hk;omega
 have π:=S.lt;obtain⟨q1,f1⟩:=S.rules;have H:=U9 (Vb D2 (Vb S (Vb ε ζ)));clear M1 M2 β D0 D2 S ε ζ q0 f0;cases b1 with
 |false=>
  go_wp2_with fail;go_ret2;exact .inl ⟨rfl,H.o.1⟩
 |true=>
  cases b2 with
  |false=>
   go_wp2_with fail;go_ret2;exact .inl ⟨rfl,H.o.1⟩
  |true=>
   have HE:=U9 (show q=I+8 by have:=H.o.2.2.1 rfl;have:=H.o.2.2.2 rfl;omega);have h8:8<=q:=by have:=HE.o;omega
   obtain⟨b,o,cs,rfl,N,γ⟩:=HH.o.2.blk (λh=>by rw[h]at θ;simp at θ;omega);have HP:=U9 (show b≠p from λhp=>by
    subst hp;obtain⟨-,rfl⟩:=HH.o.1.type_eq N;exact KN (γ 0 (l[0]'(by omega)) (Ve (by omega))))
   have HC:=U9 (Vb N γ);clear N γ;by_cases h4:j<=4096
   ·by_cases h5:j<=l.length-q
    ·have μ:¬4096<j:=by omega
     have κ:¬((l.length:Int)-q<j):=by omega
     by_cases δ:c=q
     ·obtain rfl:j=0:=by omega
      have ξ:=U9 δ;subst δ;have u:=U9 (show bA w2 (some ⟨b,o,none⟩) [] 0/\([]:List Int).length=0 from⟨⟨λh=>absurd rfl h,Vc _,by decide,by simp⟩,rfl⟩);have C1:=U9 (oP (0:Int) (by omega) (by omega) w2);go_wp2_with fail;refine C1.o.mono ?_;rintro r w3 ⟨u3,rfl,O,f⟩;obtain⟨A3,c3,rfl,X⟩:=bA.own O (fK _ _);have C2:=U9 (MC A3 c3 (dc 0 4) w3 X.rows X.le X.max);have e4:(dc (0:Int) 4).length=4:=rfl;rw[e4]at C2⊢;have S4:=u.o.1.call f;have B3:=H.o.2.1.call f;have P3:=(HH.o.1.call H.o.1).call f;have D3:=H.o.1.trans (f.mono H.o.1.size);obtain⟨q3,f3⟩:=B3.rules;have l3:=B3.lt;have C:=U9 (Vb S4 (Vb P3 D3));clear O f X C1 S4 B3 P3 D3 q1 f1;go_wp2_with fail;refine C2.o.mono ?_;rintro r w4 ⟨m,rfl,V,Y,rfl⟩;have C3:=U9 (yZ (some ⟨b,o,none⟩) 0 [] m w3 C.o.1.rows C.o.1.le C.o.1.max V Y);rw[u.o.2]at C3;clear C2 V Y;go_wp2_with fail;refine C3.o.mono ?_;rintro r w4 ⟨m',rfl,V,Y,rfl⟩;clear C3;by_cases J:m'=(n2:Int)
      ·subst J
       clear V Y;obtain⟨q4,f4⟩:=C.o.2.1.rules;have l4:=C.o.2.1.lt;have P5:=C.o.2.1.set_ 1 (.int .i64 ((c:Nat):Int));have L:=(ah.of_below (F:=cj p) C.o.2.2).setOld ⟨p,1,none⟩ (.inl rfl) (.int .i64 ((c:Nat):Int));have S5:bA (w3.setCell ⟨p,1,none⟩ (.int .i64 ((c:Nat):Int))) (some ⟨b,o,none⟩) [] 0:=C.o.1.set _ _ (λb' o' e _ h=>by injection e with e;injection e with e1 e2;exact HP.o (e1.trans h));have HZ:=U9 (Vb S5 (Vb P5 L));have C5:=U9 (lL S5 (by rw[u.o.2];omega));rw[u.o.2]at C5;clear P5 L S5;go_wp2_with fail;refine C5.o.mono ?_;rintro r w6 ⟨u6,rfl,D,R⟩;obtain⟨A6,c6,rfl,-⟩:=aF D;rw[u.o.2]at D;have HU:=U9 (Vb D R);clear D R C5;go_wp2_with fail;go_ret2;refine .inr ⟨_,[],rfl,?_,?_,u.o.1.by_,?_,?_,HZ.o.2.2.call HU.o.2⟩
       ·rw[u.o.2];exact db HU.o.1 HZ.o.2.2.size
       ·rw[u.o.2];exact h4
       ·rw[u.o.2,<-HE.o];omega
       ·have:=HZ.o.2.1.call HU.o.2
        rw[u.o.2,<-HE.o];simpa using this
      ·have η:¬(n2:Int)=m':=λh=>J h.symm
       go_wp2_with fail;go_ret2;exact .inl ⟨rfl,C.o.2.2⟩
     ·have u:=U9 (show bA w2 (some ⟨b,o+q,none⟩) ((l.drop q).take j) (c-q)/\((l.drop q).take j).length=j from by
       have α:((l.drop q).take j).length=j:=by rw[VI,VS];omega
       refine⟨⟨λ_=>⟨b,o+q,cs,rfl,HC.o.1.call H.o.1,λi x hx=>?_⟩,by rw[α];omega,by have:=HH.o.2.max;omega,λx hx=>HH.o.2.by_ x (Wr (Ws hx))⟩,α⟩;have hi:i<j:=by have:=(Vx.1 hx).1;omega
       rw[VU,Vh hi,Wb]at hx;rw[VO];exact HC.o.2 _ x hx)
      have C1:=U9 (oP (j:Int) (by omega) (by omega) w2);go_wp2_with fail;refine C1.o.mono ?_;rintro r w3 ⟨u3,rfl,O,f⟩;obtain⟨A3,c3,rfl,X⟩:=bA.own O (fK _ _);have C2:=U9 (MC A3 c3 (dc j 4) w3 X.rows X.le X.max);have e4:(dc (j:Int) 4).length=4:=rfl;rw[e4]at C2⊢;have S4:=u.o.1.call f;have B3:=H.o.2.1.call f;have P3:=(HH.o.1.call H.o.1).call f;have D3:=H.o.1.trans (f.mono H.o.1.size);obtain⟨q3,f3⟩:=B3.rules;have l3:=B3.lt;have C:=U9 (Vb S4 (Vb P3 D3));clear O f X C1 S4 B3 P3 D3 q1 f1;go_wp2_with fail;refine C2.o.mono ?_;rintro r w4 ⟨m,rfl,V,Y,rfl⟩;have C3:=U9 (yZ (some ⟨b,o+q,none⟩) (c-q) ((l.drop q).take j) m w3 C.o.1.rows C.o.1.le C.o.1.max V Y);rw[u.o.2]at C3;clear C2 V Y;go_wp2_with fail;refine C3.o.mono ?_;rintro r w4 ⟨m',rfl,V,Y,rfl⟩;clear C3;by_cases J:m'=(n2:Int)
      ·subst J
       clear V Y;obtain⟨q4,f4⟩:=C.o.2.1.rules;have l4:=C.o.2.1.lt;have P5:=C.o.2.1.set_ 1 (.int .i64 ((q+j:Nat):Int));have L:=(ah.of_below (F:=cj p) C.o.2.2).setOld ⟨p,1,none⟩ (.inl rfl) (.int .i64 ((q+j:Nat):Int));have S5:bA (w3.setCell ⟨p,1,none⟩ (.int .i64 ((q+j:Nat):Int))) (some ⟨b,o+q,none⟩) ((l.drop q).take j) (c-q):=C.o.1.set _ _ (λb' o' e _ h=>by injection e with e;injection e with e1 e2;exact HP.o (e1.trans h));have HZ:=U9 (Vb S5 (Vb P5 L));have C5:=U9 (lL S5 (by rw[u.o.2];omega));rw[u.o.2]at C5;clear P5 L S5;go_wp2_with fail;refine C5.o.mono ?_;rintro r w6 ⟨u6,rfl,D,R⟩;obtain⟨A6,c6,rfl,-⟩:=aF D;rw[u.o.2]at D;have HU:=U9 (Vb D R);clear D R C5;go_wp2_with fail;go_ret2;refine .inr ⟨_,((l.drop q).take j),rfl,?_,?_,u.o.1.by_,?_,?_,HZ.o.2.2.call HU.o.2⟩
       ·rw[u.o.2];exact db HU.o.1 HZ.o.2.2.size
       ·rw[u.o.2];exact h4
       ·rw[u.o.2,<-HE.o];omega
       ·have:=HZ.o.2.1.call HU.o.2
        rw[u.o.2,<-HE.o];simpa using this
      ·have η:¬(n2:Int)=m':=λh=>J h.symm
       go_wp2_with fail;go_ret2;exact .inl ⟨rfl,C.o.2.2⟩
    ·have κ:(l.length:Int)-q<j:=by omega
     go_wp2_with fail;go_ret2;exact .inl ⟨rfl,H.o.1⟩
   ·have μ:4096<j:=by omega
    go_wp2_with fail;go_ret2;exact .inl ⟨rfl,H.o.1⟩
theorem ah.belowC(a:ah F w w')(f:B<=w.heap.size)(h:∀k,k<B->¬F k):Below B w w':=⟨a.os,a.tape,a.output,a.size,λk e=>a.block k (Vq e f) (h k e)⟩
abbrev Ba(w:Yu)(g:Nat)(v:Yv)(a:Nat):Prop:=ai w g 221 #[v,.int .i64 (a:Int)]
theorem Pv(f:bA w A l c)(J:l.length<=5000000):
  Yt 63 #[.slice A l.length c] w λr w'=>∃g D i,r=.returned (Yr g)/\w.heap.size<=g/\Ba w' g (.slice D l.length i) 0/\bA w' D l i/\Ys w w':=by
 have C:=U9 (lL f (by omega));have H:=U9 f;clear f;go_enter func63,ntmps63;go_wp2_with fail;refine C.o.mono ?_;rintro r w1 ⟨u,rfl,j,q⟩;obtain⟨I,c1,rfl,h⟩:=bA.own j H.o.by_;have e:=U9 (Vb h q);clear j h q C;go_wp2_with fail;go_ret;refine⟨_,_,_,rfl,e.o.2.size,ai.new _ _ _,e.o.1.call ((Vd _ _).alloc (Vc _) _),e.o.2.alloc e.o.2.size _⟩
theorem LM(e:Ba w g (.slice A l.length c) a)(j:bA w A l c)(C:a<=l.length)(q:l.length<=5000000):
  Yt 64 #[Yr g] w (zh w g 221 (.slice A l.length c) l.length a):=by
 have i:=U9 (GP e j C q);have I:=e.lt;clear e j;go_enter func64,ntmps64;go_wp2_with fail;refine i.o.mono ?_;rintro r w1 (⟨rfl,e⟩|⟨u,D,rfl,h,rest⟩)
 ·have f:=U9 e
  clear e i;go_wp2_with fail;go_ret2;exact .inl ⟨rfl,f.o⟩
 ·obtain⟨H,c1,rfl,-⟩:=aF h
  have f:=U9 (Vb h rest);clear h rest i;go_wp2_with fail;go_ret2;exact .inr ⟨_,D,rfl,f.o.1,f.o.2⟩
theorem Px(e:Ba w g v a):Yt 65 #[Yr g] w λr w'=>r=.returned (.int .i64 (a:Int))/\w=w':=by
 obtain⟨i,f⟩:=e.rules;have h:=e.lt;clear e;go_enter func65,ntmps65;go_wp2_with fail;go_ret;exact⟨rfl,rfl⟩
def M0(w:Yu)(g:Nat):Nat:=match w.cell? ⟨g,1,none⟩with|some (.int _ n)=>n.toNat|_=>0
theorem zc(e:Ba w g v a):M0 w g=a:=by
 unfold M0;rw[e.cell]
 rfl
theorem AL(R:List cE)(x:cE):dS (R++[x])=dS R+(8+x.l.length):=by simp[dS]
def xX(B:Nat)(R:List cE):Prop:=∀x∈R,∀b o,x.A=some ⟨b,o,none⟩->x.l≠[]->B<=b
def Ik(w:Yu)(n:Nat)(r:Ending)(w':Yu):Prop:=∃v R,∃a:Nat,r=.returned (.tuple #[v,.int .i64 (a:Int)])/\jE w' w.heap.size v R/\il w' R/\(∀x∈R,x.l.length<=4096)/\dS R=a/\a<=n/\Ys w w'/\xX w.heap.size R
theorem DL(R:List cE):8*R.length<=dS R:=by
 induction R with
 |nil=>simp
 |cons x R ih=>simp only[dS,VG,XU,VB]at ih⊢;omega
theorem Py(hs:bA w A l c)(X:l.length<=5000000):Yt 42 #[.slice A l.length c] w (Ik w l.length):=by
 have CC:=U9 (Pv hs X);clear hs;go_enter func42,ntmps42;go_wp2_with fail;refine CC.o.mono ?_;rintro r w1 ⟨g,A1,c1,rfl,hg,L,Y,S⟩;have J:=U9 (Vb L (Vb Y (Vb S hg)));clear L Y S hg CC;go_wp2_with fail
 go_loopw [2] (λv wr=>∃(R:List cE) (a:Nat),Ba wr g (.slice A1 l.length c1) a/\bA wr A1 l c1/\jE wr w1.heap.size v R/\il wr R/\(∀x∈R,x.l.length<=4096)/\dS R=a/\a<=l.length/\Ys w wr/\w1.heap.size<=wr.heap.size/\xX w1.heap.size R) (λ_ wr=>l.length-M0 wr g)
 case atStart=>exact⟨[],0,J.o.1,J.o.2.1,Row.nil,(λx hx=>by cases hx),(λx hx=>by cases hx),rfl,by omega,J.o.2.2.1,Vc _,λx hx=>by cases hx⟩
 case round=>
  obtain⟨R,a,L,Y,q,γ,h4,α,ha,hM,ι,iY⟩:=hrel;obtain⟨Av,cv,rfl,-⟩:=q.sl;have CN:=U9 (LM L Y ha X);have CA:=U9 (Px L);have ε:=zc L;have f:=U9 (Vb L (Vb Y (Vb q (Vb γ (Vb h4 (Vb α (Vb ha (Vb hM (Vb ι iY)))))))));clear L Y q γ h4 α hM;go_wp2_with fail;refine CN.o.mono ?_;rintro r O (⟨rfl,S⟩|⟨u,h,rfl,hu,rest⟩)
  ·have CA:=U9 (Px (f.o.1.call S))
   have HB:=U9 S;clear S CN;go_wp2_with fail;refine CA.o.mono ?_;rintro r w3 ⟨rfl,rfl⟩;clear CA;go_wp2_with fail;go_ret2;have i:=f.o.2.2.2.2.2.2.2.1.trans (HB.o.mono f.o.2.2.2.2.2.2.2.1.size);refine⟨_,R,a,rfl,?_,λx hx=>(f.o.2.2.2.1 x hx).call HB.o,f.o.2.2.2.2.1,f.o.2.2.2.2.2.1,f.o.2.2.2.2.2.2.1,i,λx hx b o e X=>Vi J.o.2.2.1.size (f.o.2.2.2.2.2.2.2.2.2 x hx b o e X)⟩;exact(Row.call f.o.2.2.1 HB.o).mono J.o.2.2.1.size
  ·have hg:g<w1.heap.size:=J.o.1.lt
   have j:=rest.2.2.2.2.row f.o.2.2.1 (λg' η e=>by
    have e:g'=g:=e;have:=(f.o.2.2.1.ge g' η).1;omega)
   have I:il O R:=λx hx=>(f.o.2.2.2.1 x hx).mod rest.2.2.2.2 ((f.o.2.2.2.1 x hx).off f.o.1 (by decide))
   have β:=f.o.2.1.mod rest.2.2.2.2 (f.o.2.1.off f.o.1 (by decide));obtain⟨C,D,rfl,S2⟩:=bA.own hu rest.2.1;have i:Ys O (O.alloc (.cells (oz ⟨C,h,D⟩) 121)):=(Vd _ _).alloc (Vc _) _;have B4:ai (O.alloc (.cells (oz ⟨C,h,D⟩) 121)) O.heap.size 121 (oz ⟨C,h,D⟩):=ai.new _ _ _;have h8:=DL R;rw[f.o.2.2.2.2.2.1]at h8;have κ:=f.o.2.2.2.2.2.2.2.2.1;have ν:=rest.2.2.2.2.size;obtain⟨v',V,k1,k2,k3,k4,-⟩:=jE.app 129 (Row.call j i) (A:=some ⟨O.heap.size,0,none⟩) (cap:=1) (dU kj B4) (by simp;omega) (by have:=i.size;omega);simp only[VB,VR,Vk]at k1;have ξ:=ue ⟨C,h,D⟩ O;have H:=k3.below;have θ:=J.o.2.2.2;have μ:=J.o.2.2.1.size;have E2:=f.o.2.2.2.2.2.2.2.1.trans (rest.2.2.2.2.belowC (B:=w.heap.size) (by omega) λk hk e=>by
    have e:k=g:=e;omega)
   have E6:=(E2.trans (i.mono (by omega))).trans (H.mono (by omega));have ζ:=H.size;have δ:=(rest.2.2.2.1.call i).below H (Vq hg (by have:=i.size;omega));have N:=U9 (show jE V w1.heap.size v' (R++[⟨C,h,D⟩])/\bA V A1 l c1/\il V (R++[⟨C,h,D⟩])/\(∀x∈R++[⟨C,h,D⟩],x.l.length<=4096)/\(Ys w V/\w1.heap.size<=V.heap.size/\xX w1.heap.size (R++[⟨C,h,D⟩]))/\Ba V g (.slice A1 l.length c1) (a+8+h.length)/\a+8+h.length<=l.length from by
    refine⟨k2,(β.call i).kt k3 (by decide),λx hx=>?_,λx hx=>?_,⟨E6,by have:=i.size;omega,λx hx b o e X=>(Vw.1 hx).elim (λhx=>f.o.2.2.2.2.2.2.2.2.2 x hx b o e X) λhx=>by
     rw[VH.1 hx]at e;have e:C=some ⟨b,o,none⟩:=e;have:=(XP hu b (by rw[e];rfl)).1;omega⟩,δ,rest.2.2.1⟩
    ·rcases Vw.1 hx with hx|hx
     ·exact((I x hx).call i).kt k3 (by decide)
     ·rw[VH.1 hx];exact(S2.call i).kt k3 (by decide)
    ·rcases Vw.1 hx with hx|hx
     ·exact f.o.2.2.2.2.1 x hx
     ·rw[VH.1 hx];exact rest.1)
   have HF:=U9 (show dS (R++[⟨C,h,D⟩])=a+8+h.length from by rw[AL,f.o.2.2.2.2.2.1];show a+(8+h.length)=_;omega);have π:=rest.2.2.1;clear j I β S2 hu i B4 κ ν k2 k3 k4 H δ θ μ E2 E6 ζ rest CN CA h8;go_wp2_with fail;go_roundw
   case rel=>exact⟨_,_,N.o.2.2.2.2.2.1,N.o.2.1,N.o.1,N.o.2.2.1,N.o.2.2.2.1,HF.o,N.o.2.2.2.2.2.2,N.o.2.2.2.2.1⟩
   case measure=>
    rw[zc N.o.2.2.2.2.2.1,ε];omega
def vZ(F:Nat->Prop)(A:Option Addr)(l:List Int):Prop:=∀b o,A=some ⟨b,o,none⟩->l≠[]->F b
theorem xG(ρ:Yx->Yv)(dst:Option Tmp)(x y:Yx)(ty:Yw)(pos:String)(after:Array Edge)(guard:Option (Nat×Bool)):execOp ρ {dst,op:=.call {callee:=.builtin .append,args:=#[x,y],argTypes:=#[121,121]},type:=ty,pos,after,guard}=iy 121 ty (ρ x) (ρ y):=by simp[execOp,iy,resolve,invoke,builtin]
theorem bA.cap(h:bA w A l c):bA w A l l.length:=⟨h.blk,Vc _,Vi h.le h.max,h.by_⟩
theorem bA.take(h:bA w A l c)(n d:Nat)(C:(l.take n).length<=d)(j:d<=maxLen):bA w A (l.take n) d:=
 ⟨λq=>by
  obtain⟨b,o,cs,e,r,u⟩:=h.blk (λe=>q (by rw[e];simp));exact⟨b,o,cs,e,r,λi x f=>u i x (by
   rw[VU]at f;split at f
   ·exact f
   ·cases f)⟩,C,j,λx f=>h.by_ x (Ws f)⟩
theorem Fa{B:Option Addr}(ty:Yw)(h:bA w A l c)(hm:bA w B m d)(hn:l.length+m.length<=100000000):
  ∃N V w',(iy 121 ty (.slice A l.length l.length) (.slice B m.length d)).run prog w=.ok (.value (.slice N (l++m).length V)) w'/\bA w' N (l++m) V/\Ys w w'/\∀F,vZ F A l->vZ (io F w w') N (l++m):=by
 obtain⟨i0,q,J,r,O⟩:=V7 xy;have γ:∀x∈l++m,0<=x/\x<=255:=λx f=>(Vw.1 f).elim (h.by_ x) (hm.by_ x)
 by_cases hA:A=none
 ·subst hA
  have H:l=[]:=Ya λH=>by
   obtain⟨b,o,cs,e,-⟩:=h.blk H;cases e
  subst H;obtain⟨v',w',X,ho,hb⟩:=kQ (P:=prog) w w.heap.size 121 ty 5 i0 (.int .u8 0) 1 1 underlying121 q J r O rfl (by decide) (.slice none 0 0) 0 [] (WT _ _ _ _) w.heap.size B m.length d (aU m) (vU hm.rows) (λu Y=>by
   unfold aU at Y;obtain⟨v,_,rfl⟩:=VJ.1 Y
   rfl) (by unfold maxLen;simp at hn;omega) (by simp at hn;omega) (Vc _)
  rw[Vk,V8]at ho;obtain⟨N,V,rfl,S⟩:=bA.own ho hm.by_;refine⟨N,V,w',oK X,S,hb,λF _ b o e H=>?_⟩;subst e;have h1:=XP ho b rfl;exact .inr h1
 ·obtain⟨a,rfl⟩:=Option.ne_none_iff_exists'.1 hA
  by_cases C:m=[]
  ·subst C
   refine⟨some a,l.length,w,oK ?_,by rw[Xa];exact h.cap,Vd _ _,λF hF b o e H=>.inl (hF b o e (by simpa using H))⟩;rcases B with _|B
   ·simp[Builtin.append_,VD underlying121,sizeOf,typeInfo,q,Builtin.lenOf,Builtin.firstCells,storeCells]
   ·have hf:=run_firstCells_some (P:=prog) w i0.size 0 B 0 d [] (by simp) (λj u Y=>by simp at Y)
    simp[Builtin.append_,VD underlying121,sizeOf,typeInfo,q,Builtin.lenOf,hf,storeCells]
  ·obtain⟨b,o,cs,rfl,hB,β⟩:=hm.blk C
   have δ:0<m.length:=List.length_pos_iff.2 C;have L:∀j v,(aU l)[j]? =some v->w.cell? (a.add j)=some v:=λj v I=>by
    unfold aU at I;rw[Wm]at I;obtain⟨x,f,rfl⟩:=Option.map_eq_some_iff.1 I;obtain⟨b',o',ε,e,α,R⟩:=h.blk (λe=>by rw[e]at f;simp at f);obtain rfl:=VT e;rw[d6,α.cell];exact R j x f
   have iY:∀j v,(aU m)[j]? =some v->w.cell? ((⟨b,o,none⟩:Addr).add j)=some v:=λj v I=>by
    unfold aU at I;rw[Wm]at I;obtain⟨x,f,rfl⟩:=Option.map_eq_some_iff.1 I;rw[d6,hB.cell];exact β j x f
   have X:=run_append_grow (P:=prog) w 121 ty 5 i0 (.int .u8 0) underlying121 q J a l.length l.length (aU l) (by rw[iG,r,V3]) L ⟨b,o,none⟩ m.length d (aU m) (by rw[iG,r,V3]) iY (by omega) (by omega) (growslice_fits (by omega) (by rw[O];omega));rw[<-Vl]at X;have D:Ys w (w.drew.alloc (.cells ((aU l).toArray++(aU m).toArray++Builtin.zeroCells (Value.int .u8 0).cells (grownCap w (l++m).length l.length 5-(l++m).length)) 5)):=(Vd _ _).drew.alloc (Vc _) _;refine⟨_,_,_,oK X,⟨λ_=>⟨_,0,_,rfl,ai.new_at rfl rfl,λi x f=>?_⟩,?_,grownCap_le_maxLen _ _ _ _ (by unfold maxLen;rw[Vl];omega),γ⟩,D,λF _ b o e H=>?_⟩
   ·have h2:(aU (l++m))[i]? =some (.int .u8 x):=by unfold aU;rw[Wm,f];rfl
    rw[kW]at h2;rw[Vk,Array.getElem?_append_left (by have:=(Vx.1 h2).1;simpa using this),<-VK];simpa using h2
   ·exact grownCap_ge _ _ _ _
   ·injection e with e
    injection e with e1 e2;subst e1;exact .inr ⟨Vc _,by simp⟩
section
variable{P:Program}{ops:Array Oper}{Z:List Yw}{F:Nat->Prop}{W:Yu}{c:Nat}{E:List Eg}{Q:List Eg->Act->iI->Prop}{o:Oper}{rest:List Oper}{U:Type}{a:U->Act}{K:U->iI}
theorem Pc(f:∀u,Region.wanted o (yielded ops (a u).tmps)=true)(x1 x2 x3:Yx)(v1:U->Yv)(r:∀u,cT (a u) x1=some (v1 u))(v2:U->Yv)(q:∀u,cT (a u) x2=some (v2 u))(v3:U->Yv)(C:∀u,cT (a u) x3=some (v3 u))
  (h:∃v,(∀u,∀ρ:Yx->Yv,ρ x1=v1 u->ρ x2=v2 u->ρ x3=v3 u->∀w,ah F W w->(execOp ρ o).run P w=.ok (.value v) w)/\gY P ops Z F W c (E++[.is v]) Q rest U (λu=>(a u).put o.dst v) K) (j:QM Q:=by exact λ_ _ _ _ H h w' I e=>h w' I λk xs u i=>e k xs u (H k xs u i)):gY P ops Z F W c E Q (o::rest) U a K:=by
 obtain⟨v,e,h⟩:=h;exact xA f ⟨v,λu w D=>e u (a u).eval (aQ (r u)) (aQ (q u)) (aQ (C u)) w D,h⟩ j
end
def nK(w:Yu)(b o:Nat)(t:Yw)(cs:Array Yv)(A:Option Addr)(l m:List Int)(r:Ending)(w':Yu):Prop:=
 r=.returned (.tuple #[])/\∃e f,ai w' b t (cs.setIfInBounds o (.slice e m.length f))/\bA w' e m f/\ah (cj b) w w'/\∀F,vZ F A l->vZ (io F w w') e m
def Tu(l m:List Int)(A:Option Addr)(W w:Yu)(u:Yv)(w':Yu):Prop:=∃e f,u=.slice e (l++m).length f/\bA w' e (l++m) f/\∀F,vZ F A l->vZ (io F W w') e (l++m)
theorem Jv{b bx:Nat}{B:Option Addr}(r:ai w b t cs)(ho:cs[o]? =some (.slice A l.length c))(ht:t≠5)(I:bA w A l c)(f:ai w bx 3 #[.int .i64 0])(L:bA w B m d)(hn:l.length+m.length<=100000000):
  Yt 259 #[.pointer (some ⟨b,o,none⟩),.slice B m.length d,Yr bx] w (nK w b o t cs A l (l++m)):=by
 have N:=U9 (Vb r (Vb I (Vb f L)));have D:=U9 (λ(W:Yu) (h:ah cM w W)=>Vb (show W.cell? ⟨b,o,none⟩=some (.slice A l.length c)from by rw[(r.call h.no).cell,ho]) (Vb (r.call h.no).lt (Vb (f.call h.no).rules (f.call h.no).lt)));have hc:=I.le;have hd:=L.le;have α:c<=9223372036854775807:=I.max;have β:d<=9223372036854775807:=L.max;clear r I f L;go_enter func259,ntmps259;refine eO 24 [] cM 25 (λ_ h=>h.elim) (by kernel_rfl) (by simp) (by decide+kernel) (by decide+kernel) (by decide+kernel) (by decide+kernel) ?_;simp only[U4,U5,U6,U7]
 iterate 19
  first
  |refine eV D.o rfl ?_
  |refine al (λ_=>rfl) ?_
  |refine bH rfl ?_
  simp only[UW,UX,UY,UZ]
 refine Pc (λ_=>rfl) (.tmp 11) (.tmp 17) (.tmp 23) _ (λ_=>rfl) _ (λ_=>rfl) _ (λ_=>rfl) ?_;apply Exists.intro;apply Vb
 ·intro _ ρ Y S R W r
  simp[execOp,go_sem,Y,S,R,hc]<;>exact rfl
 simp only[UW,UX,UY,UZ]
 iterate 1
  first
  |refine eV D.o rfl ?_
  |refine al (λ_=>rfl) ?_
  |refine bH rfl ?_
  simp only[UW,UX,UY,UZ]
 refine nh (λ_=>rfl) (Vm (by kernel_rfl)) (λp:Option Addr×Nat×Nat=>.slice p.1 p.2.1 p.2.2) (none,0,0) (λ_ u w'=>Tu l m A w w u w') (λu X V=>?ap) ?_
 case ap=>
  obtain⟨H,C,w',h1,h2,h3,h4⟩:=Fa 121 (N.o.2.1.call V.no) (N.o.2.2.2.call V.no) hn;refine⟨(H,(l++m).length,C),w',?_,⟨H,C,rfl,h2,λF hF b o e hl=>?_⟩,h3⟩
  ·rw[xG]
   exact h1
  ·rcases h4 F hF b o e hl with h|h
   ·exact .inl h
   ·exact .inr ⟨Vi V.size h.1,h.2⟩
 simp only[UW,UX,UY,UZ]
 iterate 2
  first
  |refine eV D.o rfl ?_
  |refine al (λ_=>rfl) ?_
  |refine bH rfl ?_
  simp only[UW,UX,UY,UZ]
 refine aK (by kernel_rfl) ?_;rintro⟨_,p1,p2,O⟩ J j hR;have j:Ys w J:=j;simp only[U0,U1,U2,U3,Nat.reduceAdd,Vk]at hR;obtain⟨w1,w2,-,g2,⟨H,C,hp,S',q⟩,g4⟩:=bJ (hR 21 _ _ (by repeat (first|exact Vs ⟨rfl,rfl,rfl⟩|apply Vr))) rfl;obtain⟨rfl,rfl,rfl⟩:p1=H/\p2=(l++m).length/\O=C:=by injection hp with a b c;exact⟨a,b,c⟩
 have g5:=g4.below λ_ h=>h.2
 have S2:=S'.call g5;have i:=N.o.1.call j;have l2:=i.lt;have q2:J.cell? ⟨b,o,none⟩=some (.slice A l.length c):=by rw[i.cell,ho]
 have f2:J.frozen? ⟨b,o,none⟩=false:=i.frozen o;have HX:=U9 (show nK w b o t cs A l (l++m) (.returned (.tuple #[])) (J.setCell ⟨b,o,none⟩ (.slice p1 (l++m).length O))from⟨rfl,p1,O,i.set_ o _,S2.set o _ (S2.off i ht),(ah.of_below j).trans (ah.set (F:=cj b) ⟨b,o,none⟩ rfl _),λF hF b' o' e hl=>by
  rcases q F hF b' o' e hl with h|h
  ·exact .inl h
  ·exact .inr ⟨h.1,by simpa using Vq h.2 g5.size⟩⟩)
 clear j hR hp S' q g4 g5 S2 i D N;go_wp2_with fail
 go_end0
 have f:=HX.o;rw[Vl]at f;exact f
theorem PV{b N L:Nat}{n:Nat}(i:ai w b t cs)(O:cs[o]? =some (.slice A l.length c))(V:t≠5)(r:bA w A l c)(I:aD w [(N,3,#[.int .i64 0]),(L,3,#[.int .i64 (n:Int)])])(hn:n<=l.length)(v:Yv):
  Yt 67 #[.pointer (some ⟨b,o,none⟩),v,Yr N,Yr L] w (nK w b o t cs A l (l.take n)):=by
 have j:=U9 (Vb i r);have u:=U9 (λ(W:Yu) (h:Ys w W)=>Vb (show W.cell? ⟨b,o,none⟩=some (.slice A l.length c)from by rw[(i.call h).cell,O]) (Vb (i.call h).lt (Vb (I.call h).rules (I.call h).lts)));have hc:=r.le;have H:n<=c:=Vi hn hc;have X:c<=9223372036854775807:=r.max;have D:(l.take n).length=n:=by rw[VI];omega
 clear i r I;go_enter func67,ntmps67;refine aP 12 (by kernel_rfl) (by simp) (by decide+kernel) (by decide+kernel) (by decide+kernel) (by decide+kernel) ?_;simp only[U4,U5,U6,U7]
 iterate 9
  first
  |refine dq u.o rfl ?_
  |refine aw (λ_=>rfl) ?_
  simp only[UW,UX,UY,UZ]
 refine iv (λ_=>rfl) ?_;apply Exists.intro;apply Vb
 ·intro _ W i
  simp[execOp,go_sem,Act.eval,H]<;>exact rfl
 simp only[UW,UX,UY,UZ]
 iterate 2
  first
  |refine dq u.o rfl ?_
  |refine aw (λ_=>rfl) ?_
  simp only[UW,UX,UY,UZ]
 refine aH ?_;intro _ J q _;have f:=j.o.1.call q;have C:=j.o.2.call q;have l2:=f.lt;have q2:J.cell? ⟨b,o,none⟩=some (.slice A l.length c):=by rw[f.cell,O]
 have f2:J.frozen? ⟨b,o,none⟩=false:=f.frozen o;have R:=U9 (show nK w b o t cs A l (l.take n) (.returned (.tuple #[])) (J.setCell ⟨b,o,none⟩ (.slice A (l.take n).length n))from⟨rfl,A,n,f.set_ o _,(C.take n n (by omega) (by have:=j.o.2.max;omega)).set o _ ((C.take n n (by omega) (by have:=j.o.2.max;omega)).off f V),(ah.of_below q).trans (ah.set (F:=cj b) ⟨b,o,none⟩ rfl _),λF hF S o' e Y=>.inl (hF S o' e λe=>Y (by rw[e];simp))⟩);rw[D]at R;clear q C f u j;go_wp2_with fail
 go_end0
 exact R.o
inductive dQ
 |app (bx:Nat) (A:Option Addr) (l:List Int) (c:Nat)
 |cut (bf bn n:Nat)
def dQ.f:dQ->Yv
 |.app bx _ _ _=>.func (.func 259) #[] #[Yr bx]
 |.cut bf bn _=>.func (.func 67) #[] #[Yr bf,Yr bn]
def dQ.b:dQ->Yv
 |.app _ A l c=>.slice A l.length c
 |.cut _ _ _=>.slice none 0 0
def dQ.torn:dQ->Bool
 |.app _ _ _ _=>true
 |.cut _ _ _=>false
@[go_sem] theorem dQ.f_app(e:Nat)(A:Option Addr)(l:List Int)(c:Nat):(dQ.app e A l c).f=.func (.func 259) #[] #[Yr e]:=rfl
@[go_sem] theorem dQ.f_cut(e h n:Nat):(dQ.cut e h n).f=.func (.func 67) #[] #[Yr e,Yr h]:=rfl
@[go_sem] theorem dQ.b_app(e:Nat)(A:Option Addr)(l:List Int)(c:Nat):(dQ.app e A l c).b=.slice A l.length c:=rfl
@[go_sem] theorem dQ.b_cut(e f n:Nat):(dQ.cut e f n).b=.slice none 0 0:=rfl
def nz(x:dQ):Array Yv:=#[x.f,x.b,.bool x.torn]
@[go_sem] theorem dQ.torn_app(e:Nat)(A:Option Addr)(l:List Int)(c:Nat):(dQ.app e A l c).torn=true:=rfl
@[go_sem] theorem dQ.torn_cut(e f n:Nat):(dQ.cut e f n).torn=false:=rfl
@[go_sem] theorem Uj(x:dQ):(nz x)[0]? =some x.f:=rfl
@[go_sem] theorem Ui(x:dQ):(nz x)[1]? =some x.b:=rfl
@[go_sem] theorem Uh(x:dQ):(nz x)[2]? =some (.bool x.torn):=rfl
theorem ka(x:dQ):(nz x).size=3:=rfl
theorem vP(x:dQ):∀u∈(nz x).toList,u.oneCell'=true:=by
 intro u e;simp[nz]at e;cases x<;>rcases e with rfl|rfl|rfl<;>rfl
theorem Hs(x:dQ):(nz x).all (·.oneCell')=true:=VL.2 λu e=>vP x u (by simpa using e)
theorem oF(x:dQ):(prog.info? 205).map (·.size)=some (nz x).size:=by rw[ka];kernel_rfl
theorem Lr:(prog.info? 205).map (λi=>(i.zero,i.size,i.bytes))=some (some (.agg #[.nilFunc,.slice none 0 0,.bool false]),3,40):=by kernel_rfl
abbrev tE(w:Yu)(base:Nat)(v:Yv)(L:List dQ):Prop:=Row w base 205 3 nz v L
theorem tE.app{cap:Nat}(ty:Yw){L M:List dQ}(h:tE w base v L)(r:Rd w B 3 A M.length (cC nz M))(D:L.length+M.length<=1000000)(e:base<=w.heap.size):
  ∃f w',(iy 124 ty v (.slice A M.length cap)).run prog w=.ok (.value f) w'/\tE w' base f (L++M)/\Kt base [205] w w'/\w.grownBy w' v.ownBlock/\(f.ownBlock=v.ownBlock\/∀b,f.ownBlock=some b->w.heap.size<=b):=by
 obtain⟨i,C,j,q,u⟩:=V7 Lr;exact Row.app w 124 ty i _ 40 underlying124 C j q u rfl (by decide) ka vP h (cap:=cap) r D (by decide) e
section
variable(ρ:Yx->Yv)(dst:Option Tmp)(x y:Yx)(ty:Yw)(pos:String)(after:Array Edge)(guard:Option (Nat×Bool))
@[go_sem ↓ high] theorem Mb:execOp ρ {dst,op:=.call {callee:=.builtin .append,args:=#[x,y],argTypes:=#[124,124]},type:=ty,pos,after,guard}=iy 124 ty (ρ x) (ρ y):=by simp[execOp,iy,resolve,invoke,builtin]
@[go_sem ↓ high] theorem Jf:execOp ρ {dst,op:=.buildSlice 124 1 #[(0,x)],type:=ty,pos,after,guard}=iJ 124 (ρ x):=by simp[execOp,iJ]
@[go_sem ↓ high] theorem I4:execOp ρ {dst,op:=.load 205 x,type:=ty,pos,after,guard}=dR 205 (ρ x):=by simp[execOp,dR]
@[go_sem ↓ high] theorem IK:execOp ρ {dst,op:=.store 205 x y,type:=ty,pos,after,guard}=eR 205 (ρ x) (ρ y):=by simp[execOp,eR]
end
@[go_sem] theorem N7(x:dQ)(w:Yu):(iJ 124 (.agg (nz x))).run prog w=.ok (.value (.slice (some ⟨w.heap.size,0,none⟩) 1 1)) (w.alloc (.cells (nz x) 205)):=by cases x<;>kernel_rfl
def dQ.go:dQ->List Int->List Int
 |.app _ _ b _,l=>l++b
 |.cut _ _ n,l=>l.take n
def dQ.At(w:Yu)(F:Nat->Prop):dQ->Prop
 |.app bx A l c=>ai w bx 3 #[.int .i64 0]/\bA w A l c/\F bx/\vZ F A l
 |.cut bf bn n=>aD w [(bf,3,#[.int .i64 0]),(bn,3,#[.int .i64 (n:Int)])]/\F bf/\F bn
def dQ.may:dQ->List Int->Prop
 |.app _ _ b _,l=>l.length+b.length<=4194304
 |.cut _ _ n,l=>n<=l.length
theorem dQ.may_len{x:dQ}(h:x.may l)(e:l.length<=4194304):(x.go l).length<=4194304:=by
 cases x with
 |app _ _ b _=>simpa[dQ.go,dQ.may]using h
 |cut _ _ n=>simp[dQ.go];omega
def rf(w:Yu)(F:Nat->Prop)(lo:Yv):Option dQ->Prop
 |none=>lo=.slice none 0 0
 |some x=>tE w 0 lo [x]/\(∀g,lo.ownBlock=some g->F g)/\x.At w F
def kV(s n lo:Yv)(dark burning:Bool)(fuse:Int):Array Yv:=#[s,.slice none 0 0,n,.slice none 0 0,lo,.bool dark,.bool burning,.int .i64 fuse]
section
variable(s n lo v:Yv)(dark burning b:Bool)(fuse x:Int)
theorem EE:(kV s n lo dark burning fuse).size=8:=rfl
@[go_sem] theorem Ue:(kV s n lo dark burning fuse)[0]? =some s:=rfl
@[go_sem] theorem Ud:(kV s n lo dark burning fuse)[1]? =some (.slice none 0 0):=rfl
@[go_sem] theorem Uc:(kV s n lo dark burning fuse)[2]? =some n:=rfl
@[go_sem] theorem Ub:(kV s n lo dark burning fuse)[3]? =some (.slice none 0 0):=rfl
@[go_sem] theorem Ua:(kV s n lo dark burning fuse)[4]? =some lo:=rfl
@[go_sem] theorem T9:(kV s n lo dark burning fuse)[5]? =some (.bool dark):=rfl
@[go_sem] theorem T8:(kV s n lo dark burning fuse)[6]? =some (.bool burning):=rfl
@[go_sem] theorem T7:(kV s n lo dark burning fuse)[7]? =some (.int .i64 fuse):=rfl
theorem EG:(kV s n lo dark burning fuse).setIfInBounds 0 v=kV v n lo dark burning fuse:=rfl
theorem EF:(kV s n lo dark burning fuse).setIfInBounds 1 (.slice none 0 0)=kV s n lo dark burning fuse:=rfl
theorem vK:(kV s n lo dark burning fuse).setIfInBounds 2 v=kV s v lo dark burning fuse:=rfl
theorem vJ:(kV s n lo dark burning fuse).setIfInBounds 4 v=kV s n v dark burning fuse:=rfl
end
structure Pw where
 dark:Bool
 burning:Bool
 fuse:Int
def Pw.ok(p:Pw):Prop:=(-9223372036854775808<=p.fuse/\p.fuse<=9223372036854775807)/\(p.burning=true->0<=p.fuse)
abbrev Fo(w:Yu)(d:Nat)(s n lo:Yv)(p:Pw):Prop:=ai w d 126 (kV s n lo p.dark p.burning p.fuse)
theorem SH(w:Yu):Yt 22 #[] w λr w'=>r=.returned (Yr w.heap.size)/\Fo w' w.heap.size (.slice none 0 0) (.slice none 0 0) (.slice none 0 0) ⟨false,false,0⟩/\Ys w w':=by
 go_enter func22,ntmps22;go_wp2_with fail;go_ret;exact⟨rfl,ai.new _ _ _,(Vd _ _).alloc (Vc _) _⟩
section
variable{w:Yu}{d:Nat}{s n lo:Yv}{p:Pw}
theorem qo(h:Fo w d s n lo p):Yt 60 #[Yr d] w λr w'=>r=.returned (.int .i64 (if p.dark then 8 else 0))/\w=w':=by
 obtain⟨i,e⟩:=h.rules;have f:=h.lt;obtain⟨dark,burning,fuse⟩:=p;clear h;go_enter func60,ntmps60;cases dark
 ·go_wp2_with fail
  go_ret;exact⟨rfl,rfl⟩
 ·go_wp2_with fail
  go_ret;exact⟨rfl,rfl⟩
theorem tq(k:Int)(b:Bool)(h:(k==0||k==1)=b)(w:Yu):Yt 61 #[.int .i64 k] w λr w'=>r=.returned (.bool b)/\w=w':=by
 subst h;go_enter func61,ntmps61;obtain⟨b1,e⟩:∃b,(k==0)=b:=⟨_,rfl⟩;obtain⟨b2,f⟩:∃b,(k==1)=b:=⟨_,rfl⟩;rw[e,f];cases b1
 ·go_wp2_with fail
  go_ret;exact⟨rfl,rfl⟩
 ·go_wp2_with fail
  go_ret;exact⟨rfl,rfl⟩
theorem PY(h:Fo w d s n lo p):Yt 82 #[Yr d] w λr w'=>r=.returned (.tuple #[])/\Fo w' d s n lo ⟨true,false,p.fuse⟩/\ah (cj d) w w':=by
 obtain⟨j,f⟩:=h.rules;have i:=h.lt;obtain⟨dark,burning,fuse⟩:=p;have e:=U9 (Vb ((h.set_ 5 (.bool true)).set_ 6 (.bool false)) ((ah.set (F:=cj d) (w:=w) ⟨d,5,none⟩ rfl (.bool true)).setOld ⟨d,6,none⟩ (.inl rfl) (.bool false)));clear h;go_enter func82,ntmps82;go_wp2_with fail
 go_end0
 exact⟨rfl,e.o⟩
def Ns(w:Yu)(d:Nat)(s n lo:Yv)(p:Pw)(r:Ending)(w':Yu):Prop:=
 ∃(b:Bool) (p':Pw),r=.returned (.bool b)/\Fo w' d s n lo p'/\p'.ok/\ah (cj d) w w'/\(b=true->p'.dark=true/\p'.burning=false)/\(b=false->p'.dark=p.dark/\p'.burning=p.burning)/\(p.burning=false->b=false)
theorem xL(h:Fo w d s n lo p)(i:p.ok):Yt 68 #[Yr d] w (Ns w d s n lo p):=by
 obtain⟨N,O⟩:=h.rules;have L:=h.lt;obtain⟨dark,burning,fuse⟩:=p;have f:=U9 (Vb h i);have q:=U9 (λx=>Vb (h.set_ 7 (.int .i64 x)) (ah.set (F:=cj d) (w:=w) ⟨d,7,none⟩ rfl (.int .i64 x)));have D:=U9 (PY h);obtain⟨⟨I,H⟩,e⟩:=i;clear h;go_enter func68,ntmps68;cases burning
 ·clear e
  go_wp2_with fail;go_ret;exact⟨false,_,rfl,f.o.1,f.o.2,ah.refl,by simp,by simp,by simp⟩
 ·have e:=e rfl
  simp only at I H e;by_cases J:fuse=0
  ·subst J
   go_wp2_with fail;refine D.o.mono ?_;rintro r w1 ⟨rfl,C,j⟩;have u:=U9 (Vb C j);clear C j D;go_wp2_with fail;go_ret;exact⟨true,_,rfl,u.o.1,⟨f.o.2.1,by simp⟩,u.o.2,by simp,by simp,by simp⟩
  ·go_wp2_with fail
   go_ret;exact⟨false,⟨dark,true,fuse-1⟩,rfl,(q.o _).1,⟨⟨by show -9223372036854775808<=fuse-1;omega,by show fuse-1<=9223372036854775807;omega⟩,λ_=>by show 0<=fuse-1;omega⟩,(q.o _).2,by simp,by simp,by simp⟩
end
structure bI(w:Yu)(F:Nat->Prop)(d:Nat)(s n:cE)(M:Option dQ)(p:Pw):Prop where
 blk:∃lo,Fo w d (.slice s.A s.l.length s.c) (.slice n.A n.l.length n.c) lo p/\rf w F lo M
 hs:bA w s.A s.l s.c
 hn:bA w n.A n.l n.c
 sf:vZ F s.A s.l
 nf:vZ F n.A n.l
 fd:F d
 ok:p.ok
 sl:s.l.length<=4194304
 nl:n.l.length<=4194304
 inh:tP F w
section
variable{w w':Yu}{F G:Nat->Prop}{d:Nat}{s n:cE}{M:Option dQ}{p:Pw}{x:dQ}{lo:Yv}
theorem vZ.mono(h:vZ F A l)(i:∀k,F k->G k):vZ G A l:=λb o e f=>i b (h b o e f)
theorem dQ.At.keep(h:x.At w F)(f:∀k,F k->k<w.heap.size->w'.heap[k]? =w.heap[k]?):x.At w' F:=by
 cases x with
 |app bx A l c=>exact⟨(f _ h.2.2.1 h.1.lt).trans h.1,h.2.1.blks λb o cs e r q=>(f b (h.2.2.2 b o e r) q.lt).trans q,h.2.2⟩
 |cut bf bn n=>
  have j:ai w bf 3 #[.int .i64 0]:=h.1.head;have i:ai w bn 3 #[.int .i64 (n:Int)]:=h.1.drop.head;exact⟨aD.cons ((f _ h.2.1 j.lt).trans j) (aD.cons ((f _ h.2.2 i.lt).trans i) aD.nil),h.2⟩
theorem dQ.At.mono(h:x.At w F)(e:∀k,F k->G k):x.At w G:=by
 cases x with
 |app bx A l c=>exact⟨h.1,h.2.1,e _ h.2.2.1,h.2.2.2.mono e⟩
 |cut bf bn n=>exact⟨h.1,e _ h.2.1,e _ h.2.2⟩
theorem rf.keep(h:rf w F lo M)(f:∀k,F k->k<w.heap.size->w'.heap[k]? =w.heap[k]?):rf w' F lo M:=by
 cases M with
 |none=>exact h
 |some x=>
  refine⟨?_,h.2.1,h.2.2.keep f⟩;refine⟨h.1.1,?_⟩;rcases h.1.2 with i|⟨g,cap,cur,rfl,j,e,rest⟩
  ·exact .inl i
  ·exact .inr ⟨g,cap,cur,rfl,j,(f g (h.2.1 g rfl) (ai.lt e)).trans e,rest⟩
theorem rf.mono(h:rf w F lo M)(e:∀k,F k->G k):rf w G lo M:=by
 cases M with
 |none=>exact h
 |some x=>exact⟨h.1,λg f=>e g (h.2.1 g f),h.2.2.mono e⟩
theorem bI.keep(h:bI w F d s n M p)(q:w.heap.size<=w'.heap.size)(j:∀k,F k->k<w.heap.size->w'.heap[k]? =w.heap[k]?):bI w' F d s n M p:=by
 obtain⟨lo,f,i⟩:=h.blk;exact⟨⟨lo,(j d h.fd (ai.lt f)).trans f,i.keep j⟩,h.hs.blks λb o cs e i f=>(j b (h.sf b o e i) f.lt).trans f,h.hn.blks λb o cs e i f=>(j b (h.nf b o e i) f.lt).trans f,h.sf,h.nf,h.fd,h.ok,h.sl,h.nl,h.inh.mono q⟩
theorem bI.mod(h:bI w F d s n M p)(m:ah G w w')(e:iB F G):bI w' F d s n M p:=h.keep m.size λk j i=>m.block k i λf=>e k j f
theorem bI.call(h:bI w F d s n M p)(e:Ys w w'):bI w' F d s n M p:=h.keep e.size λk _ f=>e.block k f
theorem bI.mono(h:bI w F d s n M p)(e:∀k,F k->G k)(i:tP G w):bI w G d s n M p:=by
 obtain⟨lo,j,f⟩:=h.blk;exact⟨⟨lo,j,f.mono e⟩,h.hs,h.hn,h.sf.mono e,h.nf.mono e,e _ h.fd,h.ok,h.sl,h.nl,i⟩
end
def KT(T:Yw)(w w':Yu):Prop:=∀g t cs,ai w g t cs->t≠T->ai w' g t cs
theorem KT.of_mod(m:ah (cj d) w w')(j:ai w d T cs):KT T w w':=λg t f h i=>m.blk h λe=>by
 have e:g=d:=e;subst e;exact i (h.type_eq j).1
theorem KT.bysl(k:KT T w w')(e:T≠5)(h:bA w A l c):bA w' A l c:=h.blks λb o cs _ _ f=>k b _ cs f (V1 e)
theorem KT.at_(k:KT T w w')(f:T≠5)(e:T≠3){x:dQ}(h:x.At w F):x.At w' F:=by
 cases x with
 |app bx A l c=>exact⟨k _ _ _ h.1 (V1 e),k.bysl f h.2.1,h.2.2⟩
 |cut bf bn n=>exact⟨aD.cons (k _ _ _ h.1.head (V1 e)) (aD.cons (k _ _ _ h.1.drop.head (V1 e)) aD.nil),h.2⟩
theorem KT.rowC(k:KT T w w')(e:T≠205){L:List dQ}(h:tE w base v L):tE w' base v L:=Row.blocks h λg cs f=>k g _ cs f (V1 e)
def dQ.Runs(x:dQ)(a:Addr)(w:Yu)(Q:Ending->Yu->Prop):Prop:=
 match x with
 |.app bx A l c=>Yt 259 #[.pointer (some a),.slice A l.length c,Yr bx] w Q
 |.cut bf bn _=>Yt 67 #[.pointer (some a),.slice none 0 0,Yr bf,Yr bn] w Q
theorem dQ.runs{b:Nat}{x:dQ}(q:ai w b t cs)(i:cs[o]? =some (.slice A l.length c))(j:t≠5)(r:bA w A l c)(e:x.At w F)(f:x.may l):x.Runs ⟨b,o,none⟩ w (nK w b o t cs A l (x.go l)):=by
 cases x with
 |app bx B m d=>exact Jv q i j r e.1 e.2.1 (by have h:l.length+m.length<=4194304:=f;omega)
 |cut bf bn k=>exact PV q i j r e.1 f _
def xZ(w:Yu)(F:Nat->Prop)(d:Nat)(s n:cE)(x:dQ)(p:Pw)(r:Ending)(w':Yu):Prop:=
 ∃(e:Int) (n':cE) (p':Pw),r=.returned (.int .i64 e)/\n'.l=x.go n.l/\bI w' (io F w w') d s n' (some x) p'/\ah F w w'/\((e=0/\p'.dark=false/\p'.burning=p.burning)\/(e=8/\p'.dark=true/\p'.burning=false))/\(p.burning=false->e=0)
theorem io.wider{e f:Yu}(h:io F w1 e k)(i:w.heap.size<=f.heap.size)(j:f.heap.size<=w1.heap.size):(F k\/(w.heap.size<=k/\k<e.heap.size)):=by
 rcases h with h|h
 ·exact .inl h
 ·exact .inr ⟨by omega,h.2⟩
theorem uK{q r j:Yu}{s n:cE}{p p':Pw}{x:dQ}{N u:Option Addr}{D C:Nat}{b:Bool}(h:bI w F d s n none p)(hp:p.dark=false)(hm:x.may n.l)(L:Ys w q)(R:tE q w1.heap.size (.slice N [x].length D) [x])(α:w.heap.size<=w1.heap.size)(B2:ai q d 126 (kV (.slice s.A s.l.length s.c) (.slice n.A n.l.length n.c) (.slice none 0 0) p.dark p.burning p.fuse))
  (hx:x.At q F) (Y:ah (cj d) q r) (B5:Fo r d (.slice s.A s.l.length s.c) (.slice u (x.go n.l).length C) (.slice N 1 D) p) (S5:bA r u (x.go n.l) C) (I5:∀b o,u=some ⟨b,o,none⟩->x.go n.l≠[]->F b\/(w.heap.size<=b/\b<r.heap.size))
  (B6:Fo j d (.slice s.A s.l.length s.c) (.slice u (x.go n.l).length C) (.slice N 1 D) p') (H:p'.ok) (O:ah (cj d) r j) (V:b=true->p'.dark=true/\p'.burning=false) (S:b=false->p'.dark=p.dark/\p'.burning=p.burning) (hz:p.burning=false->b=false):
  xZ w F d s n x p (.returned (.int .i64 (if b then 8 else 0))) j:=by
 have f:=Y.trans O;have i:KT 126 q j:=KT.of_mod f B2;have J:KT 126 r j:=KT.of_mod O B5;have MF:ah F w j:=(ah.of_below L).trans (f.mono λk e=>by have e:k=d:=e;subst e;exact h.fd);have hs:=L.size;have γ:=f.size;have β:=O.size;refine⟨_,⟨u,x.go n.l,C⟩,p',rfl,rfl,⟨⟨_,B6,?_⟩,i.bysl (by decide) (h.hs.call L),J.bysl (by decide) S5,h.sf.mono λk I=>.inl I,λb o e hl=>?_,.inl h.fd,H,h.sl,dQ.may_len hm h.nl,io.inH h.inh (by omega)⟩,MF,?_,λX=>by rw[hz X];rfl⟩
 ·refine⟨i.rowC (by decide) (Row.mono R (VX _)),λg hg=>?_,(i.at_ (by decide) (by decide) hx).mono λk I=>.inl I⟩
  have:=R.ge g hg;exact .inr ⟨by omega,by omega⟩
 ·rcases I5 b o e hl with h1|h1
  ·exact .inl h1
  ·exact .inr ⟨h1.1,by omega⟩
 ·cases b with
  |true=>exact .inr ⟨rfl,V rfl⟩
  |false=>exact .inl ⟨rfl,(S rfl).1.trans hp,(S rfl).2⟩
theorem Jy{s n:cE}{p:Pw}{x:dQ}(h:bI w F d s n none p)(hp:p.dark=false)(hx:x.At w F)(hm:x.may n.l):
  Yt 66 #[Yr d,.agg (nz x)] w (xZ w F d s n x p):=by
 obtain⟨lo,hb,rfl⟩:=h.blk;have D0:Ys w (w.alloc (.cells (nz x) 205)):=(Vd _ _).alloc (Vc _) _;have B0:aD (w.alloc (.cells (nz x) 205)) [(w.heap.size,205,nz x),(d,126,kV (.slice s.A s.l.length s.c) (.slice n.A n.l.length n.c) (.slice none 0 0) p.dark p.burning p.fuse)]:=(aD.cons hb aD.nil).push rfl;generalize hW:w.alloc (.cells (nz x) 205)=W0 at D0 B0;have i:=U9 (Vb h (Vb hx (Vb hm (Vb B0 D0))));have HF:=U9 (λ(W:Yu) (h:ah cM W0 W)=>Vb (B0.call h.no).rules (Vb (B0.call h.no).lts (dG (P:=prog) (B0.call h.no).head underlying205 rfl (oF x))));clear h hx hm hb D0 B0;go_enter func66,ntmps66;go_wp2_with fail;refine eO 10 [] cM 7 (λ_ h=>h.elim) (by kernel_rfl) (by simp) (by decide+kernel) (by decide+kernel) (by decide+kernel) (by decide+kernel) ?_;simp only[U4,U5,U6,U7]
 iterate 6
  first
  |refine eV HF.o rfl ?_
  |refine al (λ_=>rfl) ?_
  |refine bH rfl ?_
  simp only[UW,UX,UY,UZ]
 refine nh (λ_=>rfl) (Vm rfl) (λp:Nat=>.slice (some ⟨p,0,none⟩) 1 1) 0 (sg 205 (nz x)) (λu X _=>⟨X.heap.size,X.alloc (.cells (nz x) 205),by simp[execOp,go_sem],⟨_,rfl,Vc _,ai.new _ _ _⟩,(Vd _ _).alloc (Vc _) _⟩) ?_;simp only[UW,UX,UY,UZ];refine ku (λ_=>rfl) rfl 6 (by decide) (VZ rfl) (λx:Yv=>x) (.slice none 0 0) (λX r X'=>tE X' X.heap.size r [x]) (λu=>.slice (some ⟨u.2,0,none⟩) 1 1) _ (λ_=>by repeat (first|exact Vs ⟨rfl,rfl,rfl⟩|apply Vr)) (λu X hX hR=>?app) ?_
 case app=>
  simp only[U0,U1,U2,U3,Nat.reduceAdd,Vk]at hR;obtain⟨w1,w2,-,g2,⟨g,j,τ,μ⟩,g4⟩:∃w1 w2,(6=7->Ys W0 w1)/\ah cM W0 w1/\sg 205 (nz x) w1 (.slice (some ⟨u.2,0,none⟩) 1 1) w2/\cR [] (λg=>6≠7/\cM g) W0.heap.size w2 X:=hR;injection j with j _ _;injection j with j;injection j with j _ _;subst j;have π:=μ.call (g4.below λ_ h=>h.2);obtain⟨v',w',k1,k2,k3,k4,k5⟩:=tE.app 124 (Row.nil (w:=X) (base:=X.heap.size)) (A:=some ⟨u.2,0,none⟩) (cap:=1) (dU ka π) (by simp) (Vc _);exact⟨v',w',by simp[execOp,go_sem];exact k1,k2,ah.of_grown k4 λ_ h=>by cases h⟩
 simp only[UW,UX,UY,UZ]
 iterate 2
  first
  |refine eV HF.o rfl ?_
  |refine al (λ_=>rfl) ?_
  |refine bH rfl ?_
  simp only[UW,UX,UY,UZ]
 refine aK (by kernel_rfl) ?_;rintro⟨_,v⟩ W2 hC hR;have hC:ah cM W0 W2:=hC;simp only[U0,U1,U2,U3,Nat.reduceAdd,Vk]at hR;obtain⟨w1,w2,g1,g2,g3,g4⟩:=bJ (hR 7 _ _ (by repeat (first|exact Vs ⟨rfl,rfl,rfl⟩|apply Vr))) rfl;have R2:=Row.call g3 (g4.below λ_ h=>h.2);obtain⟨A',c',rfl,-,-⟩:=R2.sl;have β:=hC.no;have B2:=i.o.2.2.2.1.call β;have D2:=i.o.2.2.2.2.trans (β.mono i.o.2.2.2.2.size);have ε:=B2.drop.head;obtain⟨q0,f0,q1,f1,-⟩:=B2.rules;obtain⟨l0,l1,-⟩:=B2.lts;have R:=U9 (Vb D2 (Vb R2 ε));have δ:=U9 (show W0.heap.size<=w1.heap.size from(g1 rfl).size);have ξ:=U9 B2;clear hC hR g1 g2 g3 g4 R2 β B2 D2 ε HF;go_wp2_with fail;have B3:aD (W2.setCell ⟨d,4,none⟩ (.slice A' 1 c')) [(w.heap.size,205,nz x),(d,126,kV (.slice s.A s.l.length s.c) (.slice n.A n.l.length n.c) (.slice A' 1 c') p.dark p.burning p.fuse)]:=by
  have κ:d≠w.heap.size:=by have:=i.o.1.inh d i.o.1.fd;omega
  exact aD.cons (ξ.o.head.far (p:=⟨d,4,none⟩) (λe=>κ e.symm) _) (aD.cons (by have:=R.o.2.2.set_ 4 (.slice A' 1 c');rw[vJ]at this;exact this) aD.nil)
 have M3:ah (cj d) W2 (W2.setCell ⟨d,4,none⟩ (.slice A' 1 c')):=ah.set (F:=cj d) ⟨d,4,none⟩ rfl _;generalize υ:W2.setCell ⟨d,4,none⟩ (.slice A' 1 c')=W3 at B3 M3⊢;have H3:=U9 (Vb B3 M3);have θ:=U9 (λ(W:Yu) (h:Ys W3 W)=>Vb (B3.call h).rules (B3.call h).lts);clear B3 M3 q0 f0 q1 f1 l0 l1;refine aP 7 (by kernel_rfl) (by simp) (by decide+kernel) (by decide+kernel) (by decide+kernel) (by decide+kernel) ?_;simp only[U4,U5,U6,U7]
 iterate 7
  first
  |refine dx rfl ?_;apply aA
   ·intro _ ρ σ ι ν W hb;have hq:=θ.o W hb;simp[execOp,go_sem,σ,ι,ν,hq,nz]<;>exact rfl
  |refine aw (λ_=>rfl) ?_
  simp only[UW,UX,UY,UZ]
 refine aH ?_;intro _ W4 γ _;have B4:=H3.o.1.call γ;have M4:=H3.o.2.trans (ah.of_below (F:=cj d) γ);have ζ:=B4.drop.head;have K4:KT 126 W2 W4:=KT.of_mod M4 R.o.2.2;have hz:w.heap.size<=W2.heap.size:=R.o.1.size;have I:dQ.At W2 F x:=i.o.2.1.keep λk _ hk=>R.o.1.block k hk
 have α:dQ.At W4 F x:=K4.at_ (by decide) (by decide) I;have η:bA W4 n.A n.l n.c:=K4.bysl (by decide) (i.o.1.hn.call R.o.1);have Y:=i.o.2.2.1;have CF:=dQ.runs ζ (o:=2) rfl (by decide) η α Y;have HC:=U9 CF;have H4:=U9 (Vb M4 (Vb K4 I));have l4:=B4.lts.2.1;clear γ B4 M4 ζ K4 α η CF θ I Y;cases x with
 |app bx A l c=>
  go_wp2_with fail;refine Xi HC.o ?_;rintro r w5 ⟨rfl,An,cn,f,D,L,J⟩;rw[vK]at f;have HB:=U9 (xL (p:=p) f i.o.1.ok);have q:=U9 (Vb f (Vb D (Vb L (J F i.o.1.nf))));clear f D L J HC;go_wp2_with fail;refine HB.o.mono ?_;rintro r w6 ⟨b,p',rfl,N,O,V,C,S,H⟩;have HX:=U9 (uK i.o.1 hp i.o.2.2.1 R.o.1 R.o.2.1 (Vi i.o.2.2.2.2.size δ.o) R.o.2.2 H4.o.2.2 (H4.o.1.trans q.o.2.2.1) q.o.1 q.o.2.1 (q.o.2.2.2.mono λk h=>io.wider h hz H4.o.1.size) N O V C S H);clear N O V C S H HB q;cases b with
  |false=>
   go_wp2_with fail;go_ret;exact HX.o
  |true=>
   go_wp2_with fail;go_ret;exact HX.o
 |cut bf bn k=>
  go_wp2_with fail;refine Xi HC.o ?_;rintro r w5 ⟨rfl,An,cn,f,D,L,J⟩;rw[vK]at f;have HB:=U9 (xL (p:=p) f i.o.1.ok);have q:=U9 (Vb f (Vb D (Vb L (J F i.o.1.nf))));clear f D L J HC;go_wp2_with fail;refine HB.o.mono ?_;rintro r w6 ⟨b,p',rfl,N,O,V,C,S,H⟩;have HX:=U9 (uK i.o.1 hp i.o.2.2.1 R.o.1 R.o.2.1 (Vi i.o.2.2.2.2.size δ.o) R.o.2.2 H4.o.2.2 (H4.o.1.trans q.o.2.2.1) q.o.1 q.o.2.1 (q.o.2.2.2.mono λk h=>io.wider h hz H4.o.1.size) N O V C S H);clear N O V C S H HB q;cases b with
  |false=>
   go_wp2_with fail;go_ret;exact HX.o
  |true=>
   go_wp2_with fail;go_ret;exact HX.o
def MP(x y z:Yv):Sem Next:=do pure (.value (<-Instr.build 205 #[(1,x),(2,y),(0,z)]))
def MQ(x:Yv):Sem Next:=do pure (.value (<-Instr.build 205 #[(0,x)]))
section
variable(ρ:Yx->Yv)(dst:Option Tmp)(x y z:Yx)(ty:Yw)(pos:String)(after:Array Edge)(guard:Option (Nat×Bool))
@[go_sem ↓ high] theorem Jj:execOp ρ {dst,op:=.build 205 #[(1,x),(2,y),(0,z)],type:=ty,pos,after,guard}=MP (ρ x) (ρ y) (ρ z):=by simp[execOp,MP]
@[go_sem ↓ high] theorem Jk:execOp ρ {dst,op:=.build 205 #[(0,x)],type:=ty,pos,after,guard}=MQ (ρ x):=by simp[execOp,MQ]
end
@[go_sem] theorem Oc(e:Nat)(A:Option Addr)(l:List Int)(c:Nat)(w:Yu):(MP (.slice A l.length c) (.bool true) (.func (.func 259) #[] #[Yr e])).run prog w=.ok (.value (.agg (nz (.app e A l c)))) w:=by kernel_rfl
theorem Cc(e f n:Nat)(w:Yu):(MQ (.func (.func 67) #[] #[Yr e,Yr f])).run prog w=.ok (.value (.agg (nz (.cut e f n)))) w:=by kernel_rfl
section
variable{w:Yu}{F:Nat->Prop}{d:Nat}{s n:cE}{M:Option dQ}{p:Pw}
def og(w:Yu)(F:Nat->Prop)(d:Nat)(s n:cE)(p:Pw)(t:List Int)(r:Ending)(w':Yu):Prop:=
 ∃(e:Int) (n':cE) (f:Option dQ) (p':Pw),r=.returned (.int .i64 e)/\bI w' (io F w w') d s n' f p'/\ah F w w'/\
  ((e=0/\p'.dark=false/\p'.burning=p.burning/\n'.l=t/\f.isSome=true)\/(e=8/\p'.dark=true/\p'.burning=false)\/(e=7/\f=none/\n'=n/\p'=p))/\(p.burning=false->t.length<=4194304->e=0)/\∀x,f=some x->x.may n.l
theorem og.of_make{r:Ending}{x:dQ}(i:tP F w)(C:x.may n.l)(D:Ys w w1)(h:xZ w1 (io F w w1) d s n x p r w'):og w F d s n p (x.go n.l) r w':=by
 obtain⟨e,n',p',rfl,q,H,f,hc,I⟩:=h;have L:=D.size;have J:=f.size;refine⟨e,n',some x,p',rfl,H.mono (λk hk=>?_) (io.inH i (by omega)),(ah.of_below (F:=F) D).trans' f λk hk h=>?_,?_,λu _=>I u,λy j=>by cases j;exact C⟩
 ·rcases hk with(hk|hk)|hk
  ·exact .inl hk
  ·exact .inr ⟨hk.1,by omega⟩
  ·exact .inr ⟨by omega,hk.2⟩
 ·rcases h with h|h
  ·exact h
  ·omega
 ·rcases hc with hc|hc
  ·exact .inl ⟨hc.1,hc.2.1,hc.2.2,q,rfl⟩
  ·exact .inr (.inl hc)
theorem bI.ext(h:bI w F d s n M p)(D:Ys w w1):bI w1 (io F w w1) d s n M p:=(h.call D).mono (λk e=>.inl e) (io.inH h.inh D.size)
theorem Hn(h:bI w F d s n none p)(hp:p.dark=false){B:Option Addr}(O:bA w B m c)(hl:m.length<=5000000):
  Yt 239 #[Yr d,.int .i64 0,.slice B m.length c] w (og w F d s n p (n.l++m)):=by
 obtain⟨lo,H,rfl⟩:=h.blk;have D0:Ys w (w.alloc (.cells #[.int .i64 0] 3)):=(Vd _ _).alloc (Vc _) _;have i:aD (w.alloc (.cells #[.int .i64 0] 3)) [(w.heap.size,3,#[.int .i64 0]),(d,126,kV (.slice s.A s.l.length s.c) (.slice n.A n.l.length n.c) (.slice none 0 0) p.dark p.burning p.fuse)]:=(aD.cons H aD.nil).push rfl;have J:=qo i.drop.head;rw[Vf (by simp[hp])]at J;generalize hW:w.alloc (.cells #[.int .i64 0] 3)=W0 at D0 i J;have J:=U9 J;have CK:=U9 (tq 0 true rfl);have nl:=h.nl;have ε:=O.le;have γ:c<=9223372036854775807:=O.max;have β:=h.hn.le;have δ:n.c<=9223372036854775807:=h.hn.max;have j:=U9 (Vb h (Vb O (Vb i D0)));have X:=U9 (λ(W:Yu) (h:Ys W0 W)=>Vb (i.call h).rules (i.call h).lts);obtain⟨q0,f0,q1,f1,-⟩:=i.rules;obtain⟨l0,l1,-⟩:=i.lts;clear h O H D0 i;go_enter func239,ntmps239;go_wp2_with fail;refine J.o.mono ?_;rintro r W1 ⟨rfl,rfl⟩;go_wp2_with fail;refine(CK.o _).mono ?_;rintro r W1 ⟨rfl,rfl⟩;clear J CK q0 f0 q1 f1 hW;go_wp2_with fail;have e1:IntKind.i64.wrap (n.l.length:Int)=(n.l.length:Int):=VE _ (by omega);have e2:IntKind.i64.wrap ((n.l.length:Int)+(m.length:Int))=(n.l.length:Int)+(m.length:Int):=VE _ (by omega);refine bS (by kernel_rfl) (by kernel_rfl) ?_
 iterate 18
  first
  |refine dx rfl ?_;apply aA
   ·intro _ ρ α S R W H;have Y:=X.o W H;simp[execOp,go_sem,α,S,R,Y,e1,e2]<;>exact rfl
  |refine aw (λ_=>rfl) ?_
  |refine iv (λ_=>rfl) ?_;apply aA
   ·intro _ W H;have Y:=X.o W H;simp[execOp,go_sem,Y,e1,e2]<;>exact rfl
  simp only[UW,UX,UY,UZ]
 refine aH ?_;intro _ W1 D;have B1:=j.o.2.2.1.call D;have V:=j.o.2.2.2.trans (D.mono j.o.2.2.2.size);have CC:=U9 (lL (j.o.2.1.call V) (by omega));have I:=U9 (Vb B1 V);clear X D B1 V e1 e2;by_cases f:n.l.length+m.length<=4194304
 ·have hd:¬(4194304<(n.l.length:Int)+m.length):=by omega
  go_wp2_with fail;refine CC.o.mono ?_;rintro r W2 ⟨u,rfl,hu,C⟩;obtain⟨A2,c2,rfl,S2⟩:=bA.own hu j.o.2.1.by_;have D2:=I.o.2.trans (C.mono I.o.2.size);have q:=(I.o.1.call C).head;have L:=XP hu;have N:dQ.At W2 (io F w W2) (.app w.heap.size A2 m c2):=⟨q,S2,.inr ⟨Vc _,q.lt⟩,λb o e _=>by
   have h1:=L b (by rw[e];rfl);have h2:=I.o.2.size;exact .inr ⟨by omega,h1.2⟩⟩
  have CM:=U9 (Jy (j.o.1.ext D2) hp N f);have HD:=U9 D2;clear hu C S2 D2 q L N CC;go_wp2_with fail;refine CM.o.mono ?_;rintro r w' hM;have HM:=U9 (og.of_make j.o.1.inh (x:=.app w.heap.size A2 m c2) f HD.o hM);obtain⟨e,n',p',rfl,-⟩:=hM;clear CM;go_wp2_with fail;go_ret;exact HM.o
 ·have hd:(4194304:Int)<(n.l.length:Int)+m.length:=by omega
  go_wp2_with fail;go_ret;exact⟨7,n,none,p,rfl,j.o.1.ext I.o.2,ah.of_below I.o.2,.inr (.inr ⟨rfl,rfl,rfl,rfl⟩),λ_ h=>(by rw[Vl]at h;omega),λx hx=>by cases hx⟩
end
section
variable{w:Yu}{F:Nat->Prop}{d:Nat}{s n:cE}{M:Option dQ}{p:Pw}
theorem SI(h:bI w F d s n none p)(hp:p.dark=false)(hk:k<=n.l.length):
  Yt 45 #[Yr d,.int .i64 0,.int .i64 (k:Int)] w (og w F d s n p (n.l.take k)):=by
 obtain⟨lo,f,rfl⟩:=h.blk;have V:Ys w ((w.alloc (.cells #[.int .i64 0] 3)).alloc (.cells #[.int .i64 (k:Int)] 3)):=((Vd _ _).alloc (Vc _) _).alloc (by simp) _;have i:aD ((w.alloc (.cells #[.int .i64 0] 3)).alloc (.cells #[.int .i64 (k:Int)] 3)) [(w.heap.size+1,3,#[.int .i64 (k:Int)]),(w.heap.size,3,#[.int .i64 0]),(d,126,kV (.slice s.A s.l.length s.c) (.slice n.A n.l.length n.c) (.slice none 0 0) p.dark p.burning p.fuse)]:=((aD.cons f aD.nil).push (g:=w.heap.size) rfl).push (g:=w.heap.size+1) (by simp);have q:=qo i.drop.drop.head;rw[Vf (by simp[hp])]at q;generalize hW:(w.alloc (.cells #[.int .i64 0] 3)).alloc (.cells #[.int .i64 (k:Int)] 3)=W0 at V i q;have q:=U9 q;have CK:=U9 (tq 0 true rfl);have nl:=h.nl;have α:=h.hn.le;have γ:n.c<=9223372036854775807:=h.hn.max;have I:=U9 (Vb h (Vb i V));have C:=U9 (λ(W:Yu) (h:Ys W0 W)=>Vb (i.call h).rules (i.call h).lts);obtain⟨q2,f2,q0,f0,q1,f1,-⟩:=i.rules;obtain⟨l2,l0,l1,-⟩:=i.lts;clear h f V i;go_enter func45,ntmps45;go_wp2_with fail;refine q.o.mono ?_;rintro r S ⟨rfl,rfl⟩;clear q2 f2 q0 f0 q1 f1 hW;go_wp2_with fail;have X:¬((k:Int)<0):=by omega
 have O:¬((n.l.length:Int)<(k:Int)):=by omega
 refine bS (by kernel_rfl) (by kernel_rfl) ?_
 iterate 1
  first
  |refine dq C.o rfl ?_
  |refine aw (λ_=>rfl) ?_
  |refine iv (λ_=>rfl) ?_;apply aA
   ·intro _ W f;have D:=C.o W f;simp[execOp,go_sem,D]<;>exact rfl
  simp only[UW,UX,UY,UZ]
 refine fA (λ_=>rfl) 61 #[.int .i64 0] _ (λ_ w=>by simp[execOp,go_sem]<;>rfl) (λw f=>(CK.o w).mono (by rintro e w2 ⟨rfl,rfl⟩;exact⟨rfl,Vd _ _⟩)) ?_;simp only[UW,UX,UY,UZ]
 iterate 16
  first
  |refine dx rfl ?_;apply aA
   ·intro _ ρ R L J W f;have D:=C.o W f;simp[execOp,go_sem,R,L,J,D,X,O]<;>exact rfl
  |refine aw (λ_=>rfl) ?_
  |refine iv (λ_=>rfl) ?_;apply aA
   ·intro _ W f;have D:=C.o W f;simp[execOp,go_sem,D,X,O]<;>exact rfl
  simp only[UW,UX,UY,UZ]
 refine aH ?_;intro _ S j;have H:=I.o.2.1.call j;have N:=I.o.2.2.trans (j.mono I.o.2.2.size);have u:dQ.At S (io F w S) (.cut w.heap.size (w.heap.size+1) k):=⟨aD.cons H.drop.head (aD.cons H.head aD.nil),.inr ⟨Vc _,H.drop.head.lt⟩,.inr ⟨by omega,H.head.lt⟩⟩;have CM:=U9 (Jy (I.o.1.ext N) hp u hk);have HD:=U9 N;have β:=Cc w.heap.size (w.heap.size+1) k;clear C j H N X O u CK q;go_wp2_with fail;refine CM.o.mono ?_;rintro r w' Y;have HM:=U9 (og.of_make I.o.1.inh (x:=.cut w.heap.size (w.heap.size+1) k) hk HD.o Y);obtain⟨e,n',p',rfl,-⟩:=Y;clear CM;go_wp2_with fail;go_ret;exact HM.o
def Fe(w:Yu)(F:Nat->Prop)(d:Nat)(s n:cE)(M:Option dQ)(p:Pw)(r:Ending)(w':Yu):Prop:=
 ∃(e:Int) (p':Pw),r=.returned (.int .i64 e)/\ah F w w'/\((e=0/\p'.dark=false/\p'.burning=p.burning/\bI w' F d n n none p')\/(e=8/\p'.dark=true/\p'.burning=false/\bI w' F d s n M p'))/\(p.burning=false->e=0)
theorem rf.kt{lo:Yv}(h:rf w F lo M)(k:KT T w w')(e:T≠5)(f:T≠3)(i:T≠205):rf w' F lo M:=by
 cases M with
 |none=>exact h
 |some x=>exact⟨k.rowC i h.1,h.2.1,k.at_ e f h.2.2⟩
theorem bI.renew(h:bI w F d s n M p)(m:ah (cj d) w w'){p':Pw}(f:p'.ok)(j:∀lo,Fo w d (.slice s.A s.l.length s.c) (.slice n.A n.l.length n.c) lo p->Fo w' d (.slice s.A s.l.length s.c) (.slice n.A n.l.length n.c) lo p'):bI w' F d s n M p':=by
 obtain⟨lo,e,i⟩:=h.blk;have k:KT 126 w w':=KT.of_mod m e;exact⟨⟨lo,j lo e,i.kt k (by decide) (by decide) (by decide)⟩,k.bysl (by decide) h.hs,k.bysl (by decide) h.hn,h.sf,h.nf,h.fd,f,h.sl,h.nl,h.inh.mono m.size⟩
theorem Jw(h:bI w F d s n M p)(V:p.dark=false):Yt 50 #[Yr d] w (Fe w F d s n M p):=by
 obtain⟨lo,q,H⟩:=h.blk;have D:=qo q;rw[Vf (by simp[V])]at D;have D:=U9 D;have N:=U9 (xL q h.ok);have i:=U9 (Vb h (Vb q H));clear h q H;go_enter func50,ntmps50;go_wp2_with fail;refine D.o.mono ?_;rintro r W1 ⟨rfl,rfl⟩;clear D;go_wp2_with fail;refine N.o.mono ?_;rintro r w1 ⟨b,p',rfl,I,u,J,L,C,S⟩;clear N;have k:KT 126 w w1:=KT.of_mod J i.o.2.1;have R:bI w1 F d s n M p':=⟨⟨lo,I,i.o.2.2.kt k (by decide) (by decide) (by decide)⟩,k.bysl (by decide) i.o.1.hs,k.bysl (by decide) i.o.1.hn,i.o.1.sf,i.o.1.nf,i.o.1.fd,u,i.o.1.sl,i.o.1.nl,i.o.1.inh.mono J.size⟩;have Y:ah F w w1:=J.mono λk e=>by have e:k=d:=e;subst e;exact i.o.1.fd
 have f:=U9 (Vb R (Vb Y (Vb L (Vb C S))));obtain⟨q0,f0⟩:=I.rules;have l0:=I.lt;have O:=U9 I;clear I J k R Y L C S;cases b with
 |true=>
  go_wp2_with fail;go_ret;exact⟨8,p',rfl,f.o.2.1,.inr ⟨rfl,(f.o.2.2.1 (by simp)).1,(f.o.2.2.1 (by simp)).2,f.o.1⟩,λq=>by have:=f.o.2.2.2.2 q;simp at this⟩
 |false=>
  go_wp2_with fail;go_ret;have m:ah (cj d) w1 (((w1.setCell ⟨d,0,none⟩ (.slice n.A n.l.length n.c)).setCell ⟨d,1,none⟩ (.slice none 0 0)).setCell ⟨d,4,none⟩ (.slice none 0 0)):=((ah.set (F:=cj d) (w:=w1) ⟨d,0,none⟩ rfl _).setOld ⟨d,1,none⟩ (.inl rfl) _).setOld ⟨d,4,none⟩ (.inl rfl) _;have q:=((ai.set_ O.o 0 (.slice n.A n.l.length n.c)).set_ 1 (.slice none 0 0)).set_ 4 (.slice none 0 0);rw[EG,EF,vJ]at q;have k:KT 126 w1 _:=KT.of_mod m O.o;have C:=f.o.2.2.2.1 (by simp);have X:=k.bysl (by decide) f.o.1.hn;exact⟨0,p',rfl,f.o.2.1.trans (m.mono λj e=>by have e:j=d:=e;subst e;exact i.o.1.fd),.inl ⟨rfl,C.1.trans V,C.2,⟨_,q,rfl⟩,X,X,f.o.1.nf,f.o.1.nf,f.o.1.fd,u,f.o.1.nl,f.o.1.nl,f.o.1.inh.mono m.size⟩,λ_=>rfl⟩
theorem Mz(h:bI w F d s n M p)(D:p.dark=false):Yt 41 #[Yr d,.int .i64 0] w λr w'=>∃u,r=.returned (.tuple #[u,.int .i64 0])/\w'.ownsRow w.heap.size 5 1 u n.l.length (aU n.l)/\Ys w w':=by
 obtain⟨lo,e,i⟩:=h.blk;have f:=qo e;rw[Vf (by simp[D])]at f;have f:=U9 f;have q:=U9 (tq 0 true rfl);have C:=U9 (lL h.hn (by have:=h.nl;omega));obtain⟨L,N⟩:=e.rules;have J:=e.lt;clear h e i;go_enter func41,ntmps41;go_wp2_with fail;refine f.o.mono ?_;rintro r I ⟨rfl,rfl⟩;clear f;go_wp2_with fail;refine(q.o _).mono ?_;rintro r I ⟨rfl,rfl⟩;clear q;go_wp2_with fail;refine C.o.mono ?_;rintro r w1 ⟨u,rfl,j,e⟩;obtain⟨A,c,rfl,-⟩:=aF j;have H:=U9 (Vb j e);clear j e C;go_wp2_with fail;go_ret2;exact⟨_,rfl,H.o⟩
theorem My(h:bI w F d s n M p)(D:p.dark=false):Yt 41 #[Yr d,.int .i64 1] w λr w'=>∃A c,r=.returned (.tuple #[.slice A 0 c,.int .i64 0])/\Ys w w':=by
 obtain⟨lo,e,i⟩:=h.blk;have f:=qo e;rw[Vf (by simp[D])]at f;have f:=U9 f;have j:=U9 (tq 1 true rfl);have C:=U9 (lL (bA.nil w) (by simp));obtain⟨L,N⟩:=e.rules;have J:=e.lt;clear h e i;go_enter func41,ntmps41;go_wp2_with fail;refine f.o.mono ?_;rintro r I ⟨rfl,rfl⟩;clear f;go_wp2_with fail;refine(j.o _).mono ?_;rintro r I ⟨rfl,rfl⟩;clear j;go_wp2_with fail;refine C.o.mono ?_;rintro r w1 ⟨u,rfl,q,e⟩;obtain⟨A,c,rfl,-⟩:=aF q;have H:=U9 e;clear q e C;go_wp2_with fail;go_ret2;exact⟨A,c,rfl,H.o⟩
theorem Jz(h:bI w F d s n M p)(k:Int)(D:-9223372036854775808<=k)(C:k<=9223372036854775807):Yt 192 #[Yr d,.int .i64 k] w λr w'=>r=.returned (.tuple #[])/\bI w' F d s n M ⟨p.dark,decide (0<=k),k⟩/\ah F w w':=by
 obtain⟨lo,f,i⟩:=h.blk;obtain⟨J,L⟩:=f.rules;have I:=f.lt;have q:=U9 (Vb h f);clear h f i;have u:=U9 (show bI ((w.setCell ⟨d,6,none⟩ (.bool (decide (0<=k)))).setCell ⟨d,7,none⟩ (.int .i64 k)) F d s n M ⟨p.dark,decide (0<=k),k⟩/\ah F w ((w.setCell ⟨d,6,none⟩ (.bool (decide (0<=k)))).setCell ⟨d,7,none⟩ (.int .i64 k))from by
  have m:ah (cj d) w ((w.setCell ⟨d,6,none⟩ (.bool (decide (0<=k)))).setCell ⟨d,7,none⟩ (.int .i64 k)):=(ah.set (F:=cj d) (w:=w) ⟨d,6,none⟩ rfl _).setOld ⟨d,7,none⟩ (.inl rfl) _;exact⟨q.o.1.renew m ⟨⟨D,C⟩,λh=>Wo h⟩ λlo H=>(ai.set_ H 6 (.bool (decide (0<=k)))).set_ 7 (.int .i64 k),m.mono λj e=>by have e:j=d:=e;subst e;exact q.o.1.fd⟩)
 go_enter func192,ntmps192;go_wp2_with fail
 go_end0
 exact⟨rfl,u.o⟩
theorem EH(h:bI w F d s n M p):Yt 24 #[Yr d] w λr w'=>r=.returned (.bool (!p.dark))/\w=w':=by
 obtain⟨lo,f,e⟩:=h.blk;obtain⟨j,q⟩:=f.rules;have i:=f.lt;clear h f e;go_enter func24,ntmps24;go_wp2_with fail;go_ret;exact⟨rfl,rfl⟩
theorem MB(h:bI w F d s n M p):Yt 49 #[Yr d] w λr w'=>r=.returned (.int .i64 (if M.isSome then 1 else 0))/\w=w':=by
 obtain⟨lo,i,f⟩:=h.blk;obtain⟨q,u⟩:=i.rules;have j:=i.lt;clear h i;go_enter func49,ntmps49;cases M with
 |none=>
  have e:lo=.slice none 0 0:=f;subst e;go_wp2_with fail;go_ret;exact⟨rfl,rfl⟩
 |some x=>
  obtain⟨A,c,rfl,-,-⟩:=f.1.sl;clear f;go_wp2_with fail;go_ret;exact⟨rfl,rfl⟩
end
structure Nc(w:Yu)(A:Option Addr)(l:List Int)(c:Nat):Prop where
 rows:l≠[]->∃b o,A=some ⟨b,o,none⟩/\b<w.heap.size/\∀i x,l[i]? =some x->w.cell? ⟨b,o+i,none⟩=some (.int .i64 x)
 le:l.length<=c
 max:c<=maxLen
theorem Nc.call(h:Nc w A l c)(j:Ys w w'):Nc w' A l c:=⟨λq=>by
 obtain⟨b,o,e,f,r⟩:=h.rows q;exact⟨b,o,e,Vq f j.size,λi x u=>(j.cell (p:=⟨b,o+i,none⟩) f).trans (r i x u)⟩,h.le,h.max⟩
theorem EI(h:Nc w A l c)(i m:Nat)(hi:i<=100)(u:0<m)(V:m<=100000000):
  Yt 208 #[.slice A l.length c,.int .i64 (i:Int),.int .i64 (m:Int)] w λr w'=>∃k:Nat,r=.returned (.int .i64 (k:Int))/\k<m/\w=w':=by
 have Y:=h.le;have N:c<=9223372036854775807:=h.max;have R:=U9 h;clear h;go_enter func208,ntmps208;by_cases j:i<l.length
 ·obtain⟨b,o,rfl,X,f⟩:=R.o.rows (λe=>by rw[e]at j;simp at j)
  obtain⟨y,D⟩:∃y,l[i]? =some y:=⟨l[i],Ve j⟩;have L:=f i y D;clear f D;have J:¬((l.length:Int)<=(i:Int)):=by omega
  by_cases H:y<0
  ·go_wp2_with fail
   go_ret;exact⟨0,rfl,u,rfl⟩
  ·have I:¬((m:Int)=0):=by omega
   have O:∃k:Nat,y%(m:Int)=k/\k<m:=⟨(y%(m:Int)).toNat,by have:=Int.emod_nonneg y I;omega,by have:=Int.emod_lt_of_pos y (show(0:Int)<m by omega);have:=Int.emod_nonneg y I;omega⟩;obtain⟨k,C,q⟩:=O;have S:=U9 C;clear C;go_wp2_with fail;go_ret;exact⟨k,by show Ending.returned (.int .i64 (y%(m:Int)))=_;rw[S.o],q,rfl⟩
 ·have J:(l.length:Int)<=(i:Int):=by omega
  go_wp2_with fail;go_ret;exact⟨0,rfl,u,rfl⟩
def SW(x y:Yv):Sem Next:=do pure (.value (<-Instr.build 126 #[(0,x),(1,y)]))
section
variable(ρ:Yx->Yv)(dst:Option Tmp)(x y z:Yx)(ty:Yw)(pos:String)(after:Array Edge)(guard:Option (Nat×Bool))
@[go_sem ↓ high] theorem LU:execOp ρ {dst,op:=.build 126 #[(0,x),(1,y)],type:=ty,pos,after,guard}=SW (ρ x) (ρ y):=by simp[execOp,SW]
@[go_sem ↓ high] theorem II:execOp ρ {dst,op:=.store 126 x y,type:=ty,pos,after,guard}=eR 126 (ρ x) (ρ y):=by simp[execOp,eR]
end
@[go_sem] theorem QS(A:Option Addr)(n c:Nat)(w:Yu):(SW (.agg #[.slice A n c,.slice none 0 0]) (.agg #[.slice A n c,.slice none 0 0])).run prog w=.ok (.value (.agg (kV (.slice A n c) (.slice A n c) (.slice none 0 0) false false 0))) w:=by kernel_rfl
theorem oE(s n lo:Yv)(a b:Bool)(x:Int):(prog.info? 126).map (·.size)=some (kV s n lo a b x).size:=by rw[EE];kernel_rfl
theorem oQ(A:Option Addr)(n c:Nat):(kV (.slice A n c) (.slice A n c) (.slice none 0 0) false false 0).all (·.oneCell')=true:=VL.2 λu e=>by
 simp[kV]at e;rcases e with rfl|rfl|rfl|rfl|rfl|rfl<;>rfl
theorem vv(x:dQ)(W:Yu):∃e,(eR 205 (Yr W.heap.size) (.agg (nz x))).run prog (W.alloc (.cells #[.nilFunc,.slice none 0 0,.bool false] 205))=.ok .skip e/\ai e W.heap.size 205 (nz x)/\Ys W e:=by
 have f:ai (W.alloc (.cells #[.nilFunc,.slice none 0 0,.bool false] 205)) W.heap.size 205 #[.nilFunc,.slice none 0 0,.bool false]:=ai.new _ _ _;exact⟨_,bX f (oF x) rfl (Hs x),ax f (nz x),(aM _ _ _).below ((Vd _ _).alloc (Vc _) _) (Vc _) (λ_ h=>by cases h)⟩
def Qo(w:Yu)(F:Nat->Prop)(d:Nat)(r:Ending)(w':Yu):Prop:=∃s':cE,r=.returned (.int .i64 0)/\bI w' (io F w w') d s' s' none ⟨false,false,0⟩/\ah F w w'
theorem sQ{r:Array Yv}(u:F d)(I:tP F w)(D:Ys w W)(C:ai W d 126 r)(J:bA W A l c)(hF:∀b o,A=some ⟨b,o,none⟩->l≠[]->F b\/(w.heap.size<=b/\b<W.heap.size))(q:l.length<=4194304):
  Qo w F d (.returned (.int .i64 0)) (W.setRow d (kV (.slice A l.length c) (.slice A l.length c) (.slice none 0 0) false false 0)):=by
 have f:=aM W d (kV (.slice A l.length c) (.slice A l.length c) (.slice none 0 0) false false 0);have m:ah (cj d) W _:=ah.of_fr1 (F:=cj d) f rfl;have L:=ax C (kV (.slice A l.length c) (.slice A l.length c) (.slice none 0 0) false false 0);have k:KT 126 W _:=KT.of_mod m C;have H:=k.bysl (by decide) J;have i:vZ (io F w (W.setRow d (kV (.slice A l.length c) (.slice A l.length c) (.slice none 0 0) false false 0))) A l:=λb o e q=>by
  rcases hF b o e q with h|h
  ·exact .inl h
  ·exact .inr ⟨h.1,Vq h.2 m.size⟩
 exact⟨⟨A,l,c⟩,rfl,⟨⟨_,L,rfl⟩,H,H,i,i,.inl u,⟨⟨by decide,by decide⟩,λh=>by cases h⟩,q,q,io.inH I (Vi D.size m.size)⟩,(ah.of_below (F:=F) D).trans (m.mono λj e=>by have e:j=d:=e;subst e;exact u)⟩
structure Bi(w:Yu)(F:Nat->Prop)(W:Yu)(A:Option Addr)(l:List Int)(c:Nat):Prop where
 blk:ai W w.heap.size 123 #[.slice A l.length c,.slice none 0 0]
 bs:bA W A l c
 fx:∀b o,A=some ⟨b,o,none⟩->l≠[]->F b\/(w.heap.size<=b/\b<W.heap.size)
 below:Ys w W
 len:l.length<=4194304
theorem Bi.call{i:Yu}(h:Bi w F W A l c)(f:Ys W i):Bi w F i A l c:=
 ⟨h.blk.call f,h.bs.call f,λb o e j=>(h.fx b o e j).imp id λx=>⟨x.1,Vq x.2 f.size⟩,h.below.trans (f.mono h.below.size),h.len⟩
theorem Bi.file{u:Yu}{r:Ending}(h:Bi w F W A l c)(C:nK W w.heap.size 0 123 #[.slice A l.length c,.slice none 0 0] A l m r u)(D:m.length<=4194304):∃j i,Bi w F u j m i:=by
 obtain⟨-,j,i,H,I,q,hF⟩:=C;refine⟨j,i,by simpa using H,I,λb o e f=>?_,h.below.trans (q.belowC h.below.size λk J e=>by have e:k=w.heap.size:=e;omega),D⟩;rcases hF (λb=>F b\/(w.heap.size<=b/\b<W.heap.size)) h.fx b o e f with h1|h1
 ·rcases h1 with h1|h1
  ·exact .inl h1
  ·exact .inr ⟨h1.1,Vq h1.2 q.size⟩
 ·exact .inr ⟨Vi h.below.size h1.1,h1.2⟩
theorem UK{s n:cE}{M:Option dQ}{p:Pw}(h:bI w F d s n M p)(hM:∀x,M=some x->x.may s.l){Ap:Option Addr}{lp:List Int}{cp:Nat}(hz:Nc w Ap lp cp)(hp:p.dark=true):
  Yt 193 #[Yr d,.slice Ap lp.length cp] w (Qo w F d):=by
 obtain⟨lo,hb,L⟩:=h.blk;obtain⟨dk,bu,fu⟩:=p;have hp:dk=true:=hp;subst hp;obtain⟨q0,f0⟩:=hb.rules;have l0:=hb.lt;have q:=U9 (Vb h (Vb hb hz));have Γ:=h.hs.le;have φ:s.c<=9223372036854775807:=h.hs.max;clear h hb;go_enter func193,ntmps193;cases M with
 |none=>
  have e:lo=.slice none 0 0:=L;subst e;clear hM L;have CP:=U9 (EI q.o.2.2 0 1 (by omega) (by omega) (by omega));go_wp2_with fail;refine CP.o.mono ?_;rintro r W1 ⟨k,rfl,V,rfl⟩;obtain rfl:k=0:=by omega
  clear CP V;have H:=U9 (show Bi w F (w.alloc (.cells #[.slice s.A s.l.length s.c,.slice none 0 0] 123)) s.A s.l s.c from⟨ai.new _ _ _,q.o.1.hs.call ((Vd _ _).alloc (Vc _) _),λb o e hl=>.inl (q.o.1.sf b o e hl),(Vd _ _).alloc (Vc _) _,q.o.1.sl⟩);go_wp2_with fail
  go_loopw [38] (λi wr=>i=.int .i64 0/\Bi w F wr s.A s.l s.c) (λ_ _=>0)
  case atStart=>exact⟨rfl,H.o⟩
  case round=>
   obtain⟨rfl,D⟩:=hrel;have f:=U9 D;clear D H q0 f0 l0;have HE:=U9 (sQ (w:=w) (W:=wr) q.o.1.fd q.o.1.inh f.o.below (q.o.2.1.call f.o.below) f.o.bs f.o.fx f.o.len);obtain⟨q2,f2⟩:=f.o.blk.rules;have l2:=f.o.blk.lt;have ε:=bX (P:=prog) (ty:=126) (w:=wr) (q.o.2.1.call f.o.below) (oE (.slice s.A s.l.length s.c) (.slice s.A s.l.length s.c) (.slice none 0 0) false false 0) rfl (oQ _ _ _);obtain⟨q3,f3⟩:=(ai.call q.o.2.1 f.o.below).rules;have l3:=(ai.call q.o.2.1 f.o.below).lt;go_wp2_with fail;go_ret;exact HE.o
 |some x=>
  obtain⟨g,cl,rfl,υ,τ,-,θ⟩:=L.1.sl_pos (by simp);simp only[VB,VR,Vk]at L υ q0;have ψ:cl<=9223372036854775807:=τ;have HL:=U9 (Vb L (hM x rfl));clear hM L;have CP:=U9 (EI q.o.2.2 0 2 (by omega) (by omega) (by omega));have H:=U9 (show Bi w F (w.alloc (.cells #[.slice s.A s.l.length s.c,.slice none 0 0] 123)) s.A s.l s.c from⟨ai.new _ _ _,q.o.1.hs.call ((Vd _ _).alloc (Vc _) _),λb o e hl=>.inl (q.o.1.sf b o e hl),(Vd _ _).alloc (Vc _) _,q.o.1.sl⟩);go_wp2_with fail;refine CP.o.mono ?_;rintro r W1 ⟨k,rfl,V,rfl⟩;clear CP;have ξ:k=0\/k=1:=by omega
  clear V;rcases ξ with rfl|rfl
  ·go_wp2_with fail
   go_loopw [38] (λi wr=>i=.int .i64 0/\Bi w F wr s.A s.l s.c) (λ_ _=>0)
   case atStart=>exact⟨rfl,H.o⟩
   case round=>
    obtain⟨rfl,D⟩:=hrel;have R:=Row.call HL.o.1.1 D.below;have γ:=aY (P:=prog) (R.rng ka (i:=0) (x:=x) rfl) underlying205 rfl (oF x);obtain⟨W3,I,B3,D3⟩:=vv x wr;obtain⟨q4,f4⟩:=(ai.call q.o.2.1 D.below).rules;have l4:=(ai.call q.o.2.1 D.below).lt;obtain⟨q5,f5⟩:=B3.rules;have l5:=B3.lt;have π:g<wr.heap.size:=Vq θ D.below.size;have f:=U9 (D.call D3);have κ:=U9 B3;clear D H R B3 D3 q0 f0 l0;simp only[Xp]at γ;cases x with
    |cut bf bn n2=>
     have HE:=U9 (sQ (w:=w) (W:=W3) q.o.1.fd q.o.1.inh f.o.below (q.o.2.1.call f.o.below) f.o.bs f.o.fx f.o.len);obtain⟨q2,f2⟩:=f.o.blk.rules;have l2:=f.o.blk.lt;have ε:=bX (P:=prog) (ty:=126) (w:=W3) (q.o.2.1.call f.o.below) (oE (.slice s.A s.l.length s.c) (.slice s.A s.l.length s.c) (.slice none 0 0) false false 0) rfl (oQ _ _ _);obtain⟨q3,f3⟩:=(ai.call q.o.2.1 f.o.below).rules;have l3:=(ai.call q.o.2.1 f.o.below).lt;go_wp2_with fail;go_ret;exact HE.o
    |app bx B m c2=>
     have hB:=HL.o.1.2.2.2.1;have ω:=hB.le;have χ:c2<=9223372036854775807:=hB.max;have Δ:s.l.length+m.length<=4194304:=HL.o.2;have HF:=U9 (λ(W:Yu) (h:ah cM W3 W)=>Vb (κ.o.call h.no).rules (κ.o.call h.no).lt);clear hB;go_wp2_with fail;have e1:IntKind.i64.wrap ((m.length:Int)+1)=(m.length:Int)+1:=VE _ (by omega);refine eO 11 [] cM 10 (λ_ h=>h.elim) (by kernel_rfl) (by simp) (by decide+kernel) (by decide+kernel) (by decide+kernel) (by decide+kernel) ?_;simp only[U4,U5,U6,U7]
     iterate 9
      first
      |refine bT rfl ?_;apply aA
       ·intro _ ρ ζ β δ W hb;have hq:=HF.o W hb;simp[execOp,go_sem,ζ,β,δ,hq,e1]<;>exact rfl
      |refine al (λ_=>rfl) ?_
      |refine bM (by kernel_rfl) rfl ?_;apply aA
       ·intro u ρ ζ β δ w;simp[execOp,go_sem,ζ,β,δ,e1]<;>exact rfl
      simp only[UW,UX,UY,UZ]
     refine dM (λ_=>rfl) (Vm rfl) 208 (λ_=>#[.slice Ap lp.length cp,.int .i64 1,.int .i64 ((m.length:Int)+1)]) (λk:Nat=>.int .i64 (k:Int)) 0 (λ_ u _=>∃k:Nat,u=.int .i64 (k:Int)/\k<=m.length) (λ_ w=>by simp[execOp,go_sem]<;>rfl) (λ_ X hX=>?cp) ?_
     case cp=>
      refine(EI ((q.o.2.2.call f.o.below).call hX.no) 1 (m.length+1) (by omega) (by omega) (by omega)).mono ?_;rintro r w2 ⟨k,rfl,V,rfl⟩;exact⟨k,rfl,⟨k,rfl,by omega⟩,Vd _ _⟩
     simp only[UW,UX,UY,UZ];refine ku (λ_=>rfl) rfl 9 (by decide) (VZ rfl) (λk:Nat=>.slice B k c2) 0 (λ_ u _=>∃k:Nat,u=.slice B k c2/\k<=m.length) (λu=>.int .i64 (u.2:Int)) _ (λ_=>by repeat (first|exact Vs ⟨rfl,rfl,rfl⟩|apply Vr)) (λu X hX hR=>?sl) ?_
     case sl=>
      simp only[U0,U1,U2,U3,Nat.reduceAdd,Vk]at hR;obtain⟨w1,w2,-,g2,⟨k,V,ι⟩,g4⟩:∃w1 w2,(9=10->Ys W3 w1)/\ah cM W3 w1/\(∃k:Nat,(.int .i64 (u.2:Int):Yv)=.int .i64 (k:Int)/\k<=m.length)/\cR [] (λk=>9≠10/\cM k) W3.heap.size w2 X:=hR;obtain rfl:u.2=k:=by injection V with _ h;omega
      have σ:u.2<=c2:=by omega
      exact⟨u.2,X,by simp[execOp,go_sem,Act.eval,σ],⟨u.2,rfl,ι⟩,ah.refl⟩
     simp only[UW,UX,UY,UZ];refine aK (by kernel_rfl) ?_;rintro⟨⟨_,k1⟩,k2⟩ W4 hC hR;have hC:ah cM W3 W4:=hC;simp only[U0,U1,U2,U3,Nat.reduceAdd,Vk]at hR;obtain⟨w1,w2,-,g2,⟨k,V,ι⟩,g4⟩:=bJ (hR 10 _ _ (by repeat (first|exact Vs ⟨rfl,rfl,rfl⟩|apply Vr))) rfl;obtain rfl:k2=k:=by injection V
     have N:=f.o.call hC.no;have J:=HL.o.1.2.2.keep λj _ hj=>N.below.block j hj
     have S:(m.take k2).length=k2:=by rw[VI];omega
     have μ:=J.2.1.take k2 c2 (by omega) J.2.1.max;have CD:=Jv (o:=0) N.blk rfl (by decide) N.bs J.1 μ (by omega);rw[S]at CD;have HD:=U9 CD;have η:=U9 (Vb N S);clear hC hR g4 V g2 N J S μ CD HF e1;go_wp2_with fail;refine HD.o.mono ?_;intro r W5 h5;obtain⟨Y,c5,C⟩:=η.o.1.file h5 (by rw[Vl,η.o.2];omega);obtain⟨rfl,-⟩:=h5;generalize s.l++m.take k2=l5 at C;have f:=U9 C;have ν:=C.bs.le;clear C HD I;have HE:=U9 (sQ (w:=w) (W:=W5) q.o.1.fd q.o.1.inh f.o.below (q.o.2.1.call f.o.below) f.o.bs f.o.fx f.o.len);obtain⟨q2,f2⟩:=f.o.blk.rules;have l2:=f.o.blk.lt;have ε:=bX (P:=prog) (ty:=126) (w:=W5) (q.o.2.1.call f.o.below) (oE (.slice Y l5.length c5) (.slice Y l5.length c5) (.slice none 0 0) false false 0) rfl (oQ _ _ _);obtain⟨q3,f3⟩:=(ai.call q.o.2.1 f.o.below).rules;have l3:=(ai.call q.o.2.1 f.o.below).lt;go_wp2_with fail;go_ret;exact HE.o
  ·go_wp2_with fail
   go_loopw [38] (λi wr=>(i=.int .i64 0/\Bi w F wr s.A s.l s.c)\/(i=.int .i64 1/\∃A c,Bi w F wr A (x.go s.l) c)) (λi _=>1-(intOf i).toNat)
   case atStart=>exact .inl ⟨rfl,H.o⟩
   case round=>
    rcases hrel with⟨rfl,D⟩|⟨rfl,Y,c5,D⟩
    ·have R:=Row.call HL.o.1.1 D.below
     have γ:=aY (P:=prog) (R.rng ka (i:=0) (x:=x) rfl) underlying205 rfl (oF x);obtain⟨W3,I,B3,D3⟩:=vv x wr;obtain⟨q5,f5⟩:=B3.rules;have l5:=B3.lt;have π:g<wr.heap.size:=Vq θ D.below.size;have O:=D.call D3;have α:=HL.o.1.2.2.keep λj _ hj=>O.below.block j hj
     have HD:=U9 (dQ.runs (o:=0) O.blk rfl (by decide) O.bs α HL.o.2);have f:=U9 O;clear D H R B3 D3 q0 f0 l0 O α;simp only[Xp]at γ;cases x with
     |cut bf bn n2=>
      go_wp2_with fail;refine Xi HD.o ?_;intro r W5 h5;obtain⟨Y,c5,C⟩:=f.o.file h5 (dQ.may_len HL.o.2 q.o.1.sl);obtain⟨rfl,-⟩:=h5;have H5:=U9 C;clear C HD I;go_wp2_with fail;go_roundw
      case rel=>exact .inr ⟨rfl,Y,c5,H5.o⟩
      case measure=>simp[intOf]
     |app bx B m c2=>
      go_wp2_with fail;refine Xi HD.o ?_;intro r W5 h5;obtain⟨Y,c5,C⟩:=f.o.file h5 (dQ.may_len HL.o.2 q.o.1.sl);obtain⟨rfl,-⟩:=h5;have H5:=U9 C;clear C HD I;go_wp2_with fail;go_roundw
      case rel=>exact .inr ⟨rfl,Y,c5,H5.o⟩
      case measure=>simp[intOf]
    ·generalize x.go s.l=l5 at D
     have f:=U9 D;have ν:=D.bs.le;obtain⟨q4,f4⟩:=(ai.call q.o.2.1 D.below).rules;have l4:=(ai.call q.o.2.1 D.below).lt;clear D H q0 f0 l0;have HE:=U9 (sQ (w:=w) (W:=wr) q.o.1.fd q.o.1.inh f.o.below (q.o.2.1.call f.o.below) f.o.bs f.o.fx f.o.len);obtain⟨q2,f2⟩:=f.o.blk.rules;have l2:=f.o.blk.lt;have ε:=bX (P:=prog) (ty:=126) (w:=wr) (q.o.2.1.call f.o.below) (oE (.slice Y l5.length c5) (.slice Y l5.length c5) (.slice none 0 0) false false 0) rfl (oQ _ _ _);obtain⟨q3,f3⟩:=(ai.call q.o.2.1 f.o.below).rules;have l3:=(ai.call q.o.2.1 f.o.below).lt;go_wp2_with fail;go_ret;exact HE.o
end
