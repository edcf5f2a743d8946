import Derived.Test.YtemcfhlbmhbjeaaGreatDoorZ00
import Derived.Deep.QuietTactic
import Derived.Deep.RegionHeld3
import Derived.Deep.MidRow
set_option maxRecDepth 100000
set_option maxHeartbeats 0
set_option linter.all false
namespace Go.Proofs.YtemcfhlbmhbjeaaGreatDoor
open Go.Proofs.Tryz
variable{w:D}{o:Nat}{cs:Array H}
open Go Go.RowKit
def lw(k:Int):Bool:=decide (1<=k)&&decide (k<=6)
def KU(k:Nat)(h:k<6):lw ((k:Int)+1)=true:=by simp[lw];omega
def KV{o:Int}(h:lw o=true):∃k:Nat,k<6/\o=(k:Int)+1:=by simp[lw]at h;exact⟨(o-1).toNat,V,V⟩
def Ju(k:Int)(w:D):
  Calls prog 164 #[Z k] w λe a=>e=.returned (.bool (lw k))/\w=a:=by
 go_wp2
 all_goals go_ret
 all_goals (refine⟨?_,O⟩;simp[lw];omega)
def yH(k:Nat)(h:k<6)(w:D):
  Calls prog 164 #[Z (k+1)] w λe b=>e=.returned (.bool true)/\w=b:=
 (Ju (k+1) w).mono λ_ _ ⟨a,c⟩=>⟨by rw[a,KU k h],c⟩
def JF(o:Int)(h:lw o=false)(w:D):
  Calls prog 164 #[Z o] w λe b=>e=.returned (.bool false)/\w=b:=
 (Ju o w).mono λ_ _ ⟨a,c⟩=>⟨by rw[a,h],c⟩
def Kc(x y:Int)(w:D):
  Calls prog 166 #[q x,q y] w λe a=>e=.returned (q (max x y))/\w=a:=by
 go_wp2
 all_goals go_ret
 all_goals (refine⟨EB ?_,O⟩;first|rfl|omega)
def Pu(k:Int)(w:D):
  Calls prog 154 #[Z k] w λe a=>e=.returned (q 1099511627776)/\w=a:=by
 go_wp2;go_ret;exact⟨O,O⟩
def Hf(c:FuncId)(a:List H)(F:an)(w:D):Prop:=
 ∀k:Nat,k<6->∀b,S w b->Calls prog c (Z k::a).toArray b λe d=>e=.returned (q (F.get k))/\S b d
def Ej(f:FuncId)(b:List H)(F:an)(w:D)(hF:Hf f b F w)(j:f=167\/f=154\/f=137):
  Calls prog 136 #[.func (.func f) #[] b.toArray] w λe n=>e=.returned (.agg (aF F))/\S w n:=by
 rcases j with rfl|rfl|rfl
 all_goals
  go_wp2;go_loopw [4] (λi wr=>∃k:Nat,k<=6/\i=Z k/\M wr w.heap.size 33 (aF (F.upto k))/\S w wr) (λi _=>6-(intOf i).toNat);exact⟨0,V,O,M.new _ _ _,(aq _ _).alloc (ao _) _⟩;obtain⟨k,r,rfl,h,m⟩:=hrel;by_cases a:k<6
  ·go_wp2_with fail;apply(hF k a _ m).mono;rintro e p ⟨rfl,d⟩;have c:=h.below d h.lt;obtain⟨g,l⟩:=c.rules;have s:=rH (F.upto k) k a;go_wp2;go_roundw
   ·refine⟨k+1,V,by go_num,?_,(m.trans (d.mono m.size)).setCell (ao _) _⟩;rw[<-an.upto_succ F k a,<-OH _ k _ a];exact c.set_ k _
   simp[intOf];omega
  obtain rfl:k=6:=V;obtain⟨g,l⟩:=h.rules;go_wp2;refine eu (v:=.agg (aF F)) (by simp[results,results136,go_sem,g,an.upto_six]) O ⟨O,?_⟩;go_grown
def FL(a:FuncId)(c:Int->Int->Int):Prop:=
 (a=166/\c=max)\/(a=166/\c=max)
def NK(i:FuncId)(c:Int->Int->Int)(g:FL i c)(j m l:Nat)(a b:an)(k:Nat)(h:k<6)(w:D)
  (f:w.cell? (I j 0)=some (.func (.func i) #[] #[])) (d:M w m 33 (aF a)) (s:M w l 33 (aF b)):
  Calls prog 167 #[Z k,N j,N m,N l] w
   λe p=>e=.returned (q (c (a.get k) (b.get k)))/\S w p:=by
 have u:=rH a k h;have x:=rH b k h;obtain⟨t,_⟩:=d.rules;obtain⟨v,_⟩:=s.rules;have r:(0:Int)<=(k:Int):=V;have n:(k:Int)<6:=V;rcases g with⟨rfl,rfl⟩|⟨rfl,rfl⟩
 ·go_wp2;go_quiet ((go_at_call 166;exact eE ((Kc _ _ _).mono λ_ _ ⟨f,d⟩=>⟨f,d.symm⟩)));go_wp2;go_ret;exact⟨O,j7 (aq _ _) _⟩
 go_wp2;go_quiet ((go_at_call 166;exact eE ((Kc _ _ _).mono λ_ _ ⟨f,d⟩=>⟨f,d.symm⟩)));go_wp2;go_ret;exact⟨O,j7 (aq _ _) _⟩
def Qp(t:FuncId)(c:Int->Int->Int)(P:FL t c)(A:Option Addr)(cap:Nat)(L:List an)(B:Nat)(w:D)(hL:tx w B A L)(hB:B<=w.heap.size)(hn:L.length<=cap)(m:cap<=maxLen):
  Calls prog 165 #[.slice A L.length cap,.func (.func t) #[] #[]] w λe w'=>e=.returned (.agg (aF (an.foldV c L)))/\S w w':=by
 unfold maxLen at m;rcases L with _|⟨v,L⟩
 ·go_in;go_wp2_with fail;go_returns;refine⟨O,?_⟩;go_grown
 obtain⟨b,o,rfl,X,J⟩:=hL ah;have F:b<w.heap.size:=V;have hl:((L.length+1:Nat):Int)=(L.length:Int)+1:=V;have r:=KQ (J 0 v O);rw[nV,oU]at r;obtain⟨σ,ι,β,W,θ,ν⟩:=r;have HC:=U J;clear J;simp only[dN]at hn⊢;by_cases K:cap=1
 ·obtain rfl:cap=1:=K;obtain rfl:L=[]:=lR V;go_in;go_wp2_with fail;refine wp_loop_rounds 1 ?_;rw[rounds_succ];go_wp2_with fail;go_returns;refine⟨O,?_⟩;go_grown
 have η:((L.length:Int)+1==0)=false:=by rw[fH];omega
 go_wp2;go_loopw [18] (λi wr=>∃k:Nat,k<=L.length/\i=Z k/\M wr w.heap.size 315 #[.func (.func t) #[] #[]]/\M wr (w.heap.size+1) 33 (aF an.zero)/\
  M wr (w.heap.size+2) 33 (aF (an.foldV c ((v::L).take (k+1))))/\S w wr) (λi _=>L.length-(intOf i).toNat)
 ·exact⟨0,V,O,((M.new w _ _).alloc _).alloc _,(M.new_at ah O).alloc _,M.new_at ah O,by go_grown⟩
 obtain⟨k,hk,rfl,f,h,a,x⟩:=hrel;by_cases p:k<L.length
 ·obtain⟨u,Q⟩:∃u,L[k]? =some u:=⟨L[k],bY p⟩;have r:=KQ (HC.o (k+1) u (az Q));rw[bU (o+(k+1)*6=o+6+k*6)]at r;obtain⟨τ,γ,δ,ζ,ε,κ⟩:=r.below x F;have s:=U (an.foldV_take c (v::L) (k+1) u V (az Q));generalize y:an.foldV c ((v::L).take (k+1))=aeN at a s;clear y;obtain⟨n,l⟩:=a.rules;have μ:=a.lt;go_wp2_with fail;refine(Ej _ _ (an.map2 c aeN u) _ (λj R T g=>?_) (gO O)).mono ?_;rw[an.get_map2 c aeN u j R];have E:=(f.alloc (.cells (aF u) 33)).below g (f.alloc _).lt;have C:=(a.alloc (.cells (aF u) 33)).below g (a.alloc _).lt;have e3:=(M.new wr 33 (aF u)).below g (M.new _ _ _).lt;exact NK t c P _ _ _ aeN u j R T (E.cell 0) C e3;rintro e w2 ⟨rfl,d⟩;have E:=(f.alloc (.cells (aF u) 33)).below d (f.alloc _).lt;have e1:=(h.alloc (.cells (aF u) 33)).below d (h.alloc _).lt;have C:=(a.alloc (.cells (aF u) 33)).below d (a.alloc _).lt;obtain⟨ξ,π⟩:=C.rules;clear n l;go_wp2;go_roundw
  ·refine⟨k+1,V,by go_num,E.farVec V _,e1.farVec V _,?_,?_⟩;rw[s.o];exact C.setVec _;exact yC ((x.alloc x.size _).trans (d.mono aQ)) V _
  simp[intOf];omega
 obtain rfl:k=L.length:=V;rw[kR ah]at a;generalize y:an.foldV c (v::L)=aeN at a;have bl:=U y;clear y;obtain⟨n,l⟩:=a.rules;obtain⟨G,α⟩:=h.rules;go_wp2_with fail;refine eu (v:=.agg (aF aeN)) (by simp[results,results165,go_sem,G]) O ⟨by rw[bl.o],?_⟩;exact yC x V _
def K9:(prog.info? 31).map (λi=>i.size)=some 1:=Y
@[go_sem] theorem PY(w:D)(d:Nat)(a b:an):(Op.equalIn (d+2) 33 (.agg (aF a)) (.agg (aF b))).run prog w=.ok (decide (a=b)) w:=by
 cases c:prog.info? 31 with
 |none=>have h:=K9;rw[c]at h;cases h
 |some i=>have h:=K9;rw[c]at h;exact Zm w d _ 31 i a b underlying33 underlying31 c (az h)
section
variable(ρ:aO->H)(dst:Option Tmp)(x y:aO)(ty:ay)(pos:String)(after:Array Edge)(guard:Option (Nat×Bool))
@[go_sem ↓] def aaG:=@lz 313
@[go_sem ↓] theorem aaF:execOp ρ {dst,op:=.buildSlice 313 2 #[(0,x),(1,y)],type:=ty,pos,after,guard}=BZ 313 (ρ x) (ρ y):=by simp[execOp,BZ]
end
@[go_sem] theorem abe(a:an)(w:D):(ke 313 (.agg (aF a))).run prog w=.ok (.value (bh w.heap.size 1 1)) (w.alloc (.cells (aF a) 33)):=Y
@[go_sem] theorem abd(a b:an)(w:D):(BZ 313 (.agg (aF a)) (.agg (aF b))).run prog w=.ok (.value (bh w.heap.size 2 2))
  (w.alloc (.cells #[q a.v0,q a.v1,q a.v2,q a.v3,q a.v4,q a.v5,q b.v0,q b.v1,q b.v2,q b.v3,q b.v4,q b.v5] 33)):=Y
def Lx(A:Option Addr)(cap:Nat)(L:List an)(B:Nat)(w:D)(i:tx w B A L)(h:B<=w.heap.size)(j:L.length<=cap)(b:cap<=maxLen):
  Calls prog 163 #[.slice A L.length cap] w λe f=>e=.returned (.agg (aF (an.foldV max L)))/\S w f:=by
 go_in;go_wp2_with fail;apply(Qp _ max (gO ⟨O,O⟩) A cap L B _ (i.below ((aq _ _).alloc h _)) aQ j b).mono;rintro e k ⟨rfl,a⟩;have c:=(M.new w 33 (aF an.zero)).below a (M.new _ _ _).lt;obtain⟨d,g⟩:=c.rules;go_wp2;refine eu (v:=.agg (aF (an.foldV max L))) (by simp[results,results163,go_sem,d]) O ⟨O,?_⟩;exact yC (((aq _ _).alloc (ao _) _).trans (a.mono ah)) V _
def NJ(c:Int->Int->Int)(a b:an):an.foldV c [a,b]=an.map2 c a b:=rfl
def PE(g:Nat)(a b:an)(w:D)(h:w.heap[g]? =some (.cells #[q a.v0,q a.v1,q a.v2,q a.v3,q a.v4,q a.v5,q b.v0,q b.v1,q b.v2,q b.v3,q b.v4,q b.v5] 33 (0,0))):
  Calls prog 163 #[bh g 2 2] w λe c=>e=.returned (.agg (aF (an.map2 max a b)))/\S w c:=
 Lx _ 2 [a,b] (g+1) w (Ng h) (M.lt h) (ao _) ai
def Lw(a b:an)(w:D):
  Calls prog 153 #[.agg (aF a),.agg (aF b)] w λe c=>e=.returned (.bool (decide (an.map2 max a b=b)))/\S w c:=by
 go_in;go_wp2_with fail;go_region_held3 (λc=>((∀i,c.cell? (I w.heap.size i)=(aF a)[i]?)/\(∀i,c.cell? (I (w.heap.size+1) i)=(aF b)[i]?))/\gq w 33 (aF a) (aF b) c)
  (first|with_reducible exact gq.all gq.start.drew|with_reducible exact gq.all (gq.drew (gq.alloc (gq.undrew (And.right (by assumption))) _))|with_reducible exact gq.all (gq.alloc (And.right (by assumption)) _)|with_reducible exact gq.all (gq.below (And.right (by assumption)) (by assumption)))
  (first|(go_at_call 163;refine(PE _ a b _ ?h12).mono ?_;(case h12=>exact M.drew (M.new_at ah rfl));rintro e c ⟨rfl,d⟩))
 go_wp2;go_ret;exact⟨O,(And.right (by assumption:_/\gq w _ _ _ _)).2.2⟩
def OE(v:an)(w:D):
  Calls prog 138 #[.agg (aF v)] w λe a=>e=.returned (.bool (decide (an.map2 max v (an.ofFn λ_=>1099511627776)=an.ofFn λ_=>1099511627776)))/\S w a:=by
 go_in;go_wp2_with fail;go_region_held3 (λa=>(∀b o,b<(w.alloc (.cells (aF v) 33)).heap.size->a.cell? (I b o)=(w.alloc (.cells (aF v) 33)).cell? (I b o))/\jZ (w.alloc (.cells (aF v) 33)) a)
  (first|with_reducible exact jZ.all jZ.start.drew|with_reducible exact jZ.all (jZ.below (And.right (by assumption)) (by assumption)))
  (first|(go_at_call 136;refine(Ej 154 [] (an.ofFn λ_=>1099511627776) _ ?hG (jk (gO rfl))).mono ?_;(case hG=>exact λk d c _=>(Pu k c).mono λ_ _ ⟨g,f⟩=>⟨by rw[g,an.get_ofFn _ k d],by rw[f];exact aq _ _⟩);rintro e a ⟨rfl,h⟩)|(go_at_call 153;apply(Lw _ _ _).mono;rintro e a ⟨rfl,h⟩))
 go_wp2;go_ret;exact⟨O,((aq _ _).alloc (ao _) _).trans ((And.right (by assumption:_/\jZ _ _)).mono ah)⟩
def kd(v:an):Bool:=decide (v.v0<=1099511627776/\v.v1<=1099511627776/\v.v2<=1099511627776/\v.v3<=1099511627776/\v.v4<=1099511627776/\v.v5<=1099511627776)
def tu(a b:an):Bool:=decide (a.v0<=b.v0/\a.v1<=b.v1/\a.v2<=b.v2/\a.v3<=b.v3/\a.v4<=b.v4/\a.v5<=b.v5)
def JG{a b:an}:tu a b=true↔∀k,k<6->a.get k<=b.get k:=by
 unfold tu;rw[eN];exact⟨λ⟨g,e,c,i,d,f⟩=>an.six (P:=λk=>a.get k<=b.get k) g e c i d f,
  λh=>⟨h 0 V,h 1 V,h 2 V,h 3 V,h 4 V,h 5 V⟩⟩
def Jz(a b:an):decide (an.map2 max a b=b)=tu a b:=by rw[Bool.eq_iff_iff,JG,eN];constructor;intro h k c;have:=an.get_map2 max a b k c;rw[h]at this;omega;intro h;refine an.ext_get λk c=>?_;rw[an.get_map2 max a b k c];have:=h k c;omega
def OF(v:an):tu v (an.ofFn λ_=>1099511627776)=kd v:=rfl
def VN(a b:an)(w:D):
  Calls prog 153 #[.agg (aF a),.agg (aF b)] w λe c=>e=.returned (.bool (tu a b))/\S w c:=by
 rw[<-Jz];exact Lw a b w
def Hm(v:an)(w:D):
  Calls prog 138 #[.agg (aF v)] w λe a=>e=.returned (.bool (kd v))/\S w a:=by
 rw[<-OF,<-Jz];exact OE v w
def qH(v:an)(o s:Int):Bool:=lw o&&(decide (0<s)&&decide (s<=v.get (o-1).toNat))
def Yf(v:an)(o s:Int)(w:D):
  Calls prog 159 #[.agg (aF v),Z o,q s] w λe f=>e=.returned (.bool (qH v o s))/\S w f:=by
 by_cases c:lw o=true
 ·obtain⟨k,g,rfl⟩:=KV c;have h:((k:Int)+1-1).toNat=k:=V;have l:=rH v k g;by_cases i:0<s
  ·have a:qH v (k+1) s=decide (s<=v.get k):=by unfold qH;rw[c,h,fa i];rfl
   have d:=U a;clear a c h;go_in;go_wp2_with (go_at_call 164;apply(yH k g _).mono;rintro e f ⟨rfl,rfl⟩);go_ret;refine⟨by rw[d.o];rfl,?_⟩;go_grown
  have a:qH v (k+1) s=false:=by unfold qH;rw[c,fO i];rfl
  have d:=U a;clear a c h;go_in;go_wp2_with (go_at_call 164;apply(yH k g _).mono;rintro e f ⟨rfl,rfl⟩);go_ret;refine⟨by rw[d.o];rfl,?_⟩;go_grown
 have b:lw o=false:=az c;have a:qH v o s=false:=by unfold qH;rw[b];rfl
 have d:=U a;have j:=U b;clear a c b;go_in;go_wp2_with (go_at_call 164;apply(JF o j.o _).mono;rintro e f ⟨rfl,rfl⟩);go_ret;refine⟨by rw[d.o];rfl,?_⟩;go_grown
def oy(v:an)(o:Int):Int×Int:=
 if lw o=true then(if 1099511627776<=v.get (o-1).toNat then(0,6)else(v.get (o-1).toNat+1,0))else(0,10)
def Nh(v:an)(j:v.ok)(o:Int)(w:D):
  Calls prog 299 #[.agg (aF v),Z o] w λe h=>e=.returned (.tuple #[q (oy v o).1,Z (oy v o).2])/\S w h:=by
 by_cases b:lw o=true
 ·obtain⟨k,f,rfl⟩:=KV b;have g:((k:Int)+1-1).toNat=k:=V;have p:=rH v k f;obtain⟨n,m⟩:=j k f;by_cases i:1099511627776<=v.get k
  ·have a:oy v (k+1)=(0,6):=by unfold oy;rw[av b,g,av i]
   have d:=U a;clear a b g;go_in;go_wp2_with (go_at_call 164;apply(yH k f _).mono;rintro e h ⟨rfl,rfl⟩);go_ret2;refine⟨by rw[d.o];rfl,?_⟩;go_grown
  have a:oy v (k+1)=(v.get k+1,0):=by unfold oy;rw[av b,g,al i]
  have d:=U a;clear a b g;go_in;go_wp2_with (go_at_call 164;apply(yH k f _).mono;rintro e h ⟨rfl,rfl⟩);go_ret2;refine⟨by rw[d.o];simp,?_⟩;go_grown
 have c:lw o=false:=az b;have a:oy v o=(0,10):=by unfold oy;rw[al b]
 have d:=U a;have l:=U c;clear a b c;go_in;go_wp2_with (go_at_call 164;apply(JF o l.o _).mono;rintro e h ⟨rfl,rfl⟩);go_ret2;refine⟨by rw[d.o];rfl,?_⟩;go_grown
def Ja(a:an)(k:Nat)(h:k<6)(w:D):(Instr.index 33 (.agg (aF a)) (Z (k:Int))).run prog w=.ok (q (a.get k)) w:=
 an.six (P:=λk=>(Instr.index 33 (.agg (aF a)) (Z (k:Int))).run prog w=.ok (q (a.get k)) w) Y Y Y Y Y Y k h
def Fq(e:z)(w:D):
  (part 3 (aj e) 0).run prog w=.ok (Z e.o) w/\(part 31 (aj e) 1).run prog w=.ok (q e.s) w/\(part 33 (aj e) 2).run prog w=.ok (.agg (aF e.d)) w/\(part 5 (aj e) 8).run prog w=.ok (.int .u8 e.k) w/\
  (part 31 (aj e) 9).run prog w=.ok (q e.n) w/\(part 3 (aj e) 10).run prog w=.ok (Z e.t) w/\(part 2 (aj e) 11).run prog w=.ok (Z e.a) w/\(part 31 (aj e) 12).run prog w=.ok (q e.r) w/\(part 31 (aj e) 13).run prog w=.ok (q e.f) w:=
 ⟨Y,Y,Y,Y,Y,Y,Y,Y,Y⟩
def Oq:prog.stoodInHeld 64=false:=Y
@[go_sem ↓ high] theorem adC(w:D)(d:Nat)(x y:z):(Op.equalIn (d+3) 64 (.agg (aj x)) (.agg (aj y))).run prog w=.ok (decide (x=y)) w:=by
 obtain⟨a0,a1,a2,a3,a4,a5,a6,F,v⟩:=Fq x w;obtain⟨L,A,b2,K,b4,C,G,b7,b8⟩:=Fq y w;have u:decide (x=y)=(x.o==y.o&&(x.s==y.s&&(decide (x.d=y.d)&&(x.k==y.k&&(x.n==y.n&&(x.t==y.t&&(x.a==y.a&&(x.r==y.r&&x.f==y.f)))))))):=by rw[Bool.eq_iff_iff];simp only[eN,bZ,qd];exact⟨λh=>by subst h;simp,λ⟨J,T,E,h3,Q,X,h6,W,h8⟩=>z.ext J T E h3 Q X h6 W h8⟩
 have B:=λ(x y:Int)=>tX (P:=prog) w (d+1) 3 .i64 .i64 x y underlying3;have R:=λ(x y:Int)=>tX (P:=prog) w (d+1) 31 .u64 .u64 x y underlying31;have q2:=PY w d x.d y.d;have q3:=λ(x y:Int)=>tX (P:=prog) w (d+1) 5 .u8 .u8 x y underlying5;have q4:=λ(x y:Int)=>tX (P:=prog) w (d+1) 2 .i64 .i64 x y underlying2;rw[Op.equalIn,u];simp only[lS,eT underlying64,lX,Oq];simp[a0,a1,a2,a3,a4,a5,a6,F,v,L,A,b2,K,b4,C,G,b7,b8,B,R,q2,q3,q4];by_cases b:x.o=y.o
 ·by_cases c:x.s=y.s
  ·by_cases e:x.d=y.d
   ·by_cases g:x.k=y.k
    ·by_cases i:x.n=y.n
     ·by_cases j:x.t=y.t
      ·by_cases l:x.a=y.a
       ·by_cases m:x.r=y.r
        ·by_cases p:x.f=y.f;simp[b,c,e,g,i,j,l,m,p];simp[b,c,e,g,i,j,l,m,p]
        simp[b,c,e,g,i,j,l,m]
       simp[b,c,e,g,i,j,l]
      simp[b,c,e,g,i,j]
     simp[b,c,e,g,i]
    simp[b,c,e,g]
   simp[b,c,e]
  simp[b,c]
 simp[b]
@[go_sem] theorem ac2(a e:z):Array.foldl (λ(cs:Array H) (x:H×Nat)=>cs.setIfInBounds x.snd x.fst) (aj a) (aj e).zipIdx 0 14=aj e:=Y
def BV(x y a u:H):Sem Next:=do pure (.value (<-Instr.build 64 #[(0,x),(1,y),(2,a),(3,u)]))
section
variable(ρ:aO->H)(dst:Option Tmp)(x y aeU u:aO)(ty:ay)(pos:String)(after:Array Edge)(guard:Option (Nat×Bool))
@[go_sem ↓] theorem ach:execOp ρ {dst,op:=.build 64 #[(0,x),(1,y),(2,aeU),(3,u)],type:=ty,pos,after,guard}=BV (ρ x) (ρ y) (ρ aeU) (ρ u):=by simp[execOp,BV]
end
@[go_sem] theorem adc(o s k:Int)(d:an)(w:D):(BV (Z o) (q s) (.agg (aF d)) (.int .u8 k)).run prog w=.ok (.value (.agg (aj ⟨o,s,d,k,0,0,0,0,0⟩))) w:=Y
def aag(k:Int)(w:D):
  Calls prog 139 #[Z k] w λe a=>e=.returned (.bool (cY k))/\w=a:=by
 go_wp2
 all_goals go_ret
 all_goals (refine⟨?_,O⟩;simp[cY];omega)
def sX(k:Int)(b:Bool)(h:cY k=b)(w:D):
  Calls prog 139 #[Z k] w λe a=>e=.returned (.bool b)/\w=a:=by
 subst h;exact aag k w
section
variable{w0 w:D}{g:Nat}{e:z}{bs:List (Nat×ay×Array H)}
def yU(b:Int)(T:aI w0 w ((g,286,aj e)::bs))(c:w0.heap.size<=g)(d:gv g bs):
  Calls prog 155 #[N g,Z b] w λr f=>r=.returned (.bool (pt b e))/\aI w0 f ((g,286,aj {e with n:=0,a:=0})::bs):=by
 obtain⟨j,k,-⟩:=T.rules;by_cases i:b<=e.a<;>by_cases h:e.a<=1125899906842624
 all_goals
  go_wp2;go_ret;exact⟨by simp[pt,i,h],(T.set_ c d 9 _).set_ c d 11 _⟩
def Lo(T:aI w0 w ((g,286,aj e)::bs))(b:w0.heap.size<=g)(c:gv g bs):
  Calls prog 156 #[N g] w λr a=>r=.returned (.bool (decide (0<e.r)))/\aI w0 a ((g,286,aj {e with r:=0})::bs):=by
 obtain⟨d,f,-⟩:=T.rules;go_wp2;go_ret;exact⟨O,T.set_ b c 12 _⟩
def Fh(T:aI w0 w ((g,286,aj e)::bs))(j:w0.heap.size<=g)(l:gv g bs):
  Calls prog 158 #[N g] w λr f=>r=.returned (.bool (qV e))/\aI w0 f ((g,286,aj {e with t:=0})::bs):=by
 obtain⟨m,n,-⟩:=T.rules;obtain⟨b,c⟩:=aM (cY e.t);have d:=sX e.t b c;have a:qV e=(b&&decide (e.t≠e.o)):=by unfold qV;rw[c]
 have k:=U d;have a:=U a;clear c d;rcases(show b=false\/b=true from by cases b<;>simp)with rfl|rfl
 all_goals
  go_wp2;go_quiet ((go_at_call 139;exact eE ((k.o _).mono λ_ _ ⟨i,h⟩=>⟨i,h.symm⟩)));go_wp2;go_ret;refine⟨by rw[a.o];first|rfl|(simp[bne];rfl),?_⟩;exact(T.drewN _).set_ j l 10 _
def SO(T:aI w0 w ((g,286,aj e)::bs))(j:w0.heap.size<=g)(l:gv g bs):
  Calls prog 157 #[N g] w λr p=>r=.returned (.bool (decide (0<e.r)&&(decide (0<e.f)&&decide (e.f≠e.r))))/\aI w0 p ((g,286,aj {e with f:=0,r:=0})::bs):=by
 obtain⟨n,s,-⟩:=T.rules;obtain⟨d,c⟩:=aM (decide (0<e.f));obtain⟨h,a⟩:=aM (decide (0<e.r));rcases(show d=false\/d=true from by cases d<;>simp)with rfl|rfl<;>rcases(show h=false\/h=true from by cases h<;>simp)with rfl|rfl
 all_goals
  have i:(decide (0<e.r)&&(decide (0<e.f)&&decide (e.f≠e.r)))=(decide (0<e.r)&&(decide (0<e.f)&&(e.f !=e.r))):=by simp[bne];rfl
  rw[c,a]at i;clear i;go_wp2;go_quiet (fail);have k:=(T.drewN nq).set_ j l 13 (q 0);go_wp2_with fail;apply(Lo (e:={e with f:=0}) k j l).mono;rintro r t ⟨rfl,m⟩;clear n s k;go_wp2;go_ret;exact⟨by first|(simp[c,a,bne];done)|(simp[c,a,bne];rfl),m⟩
def QB(w0 w':D)(g:Nat)(e:z)(bs:List (Nat×ay×Array H)):Prop:=∃a:z,aI w0 w' ((g,286,aj a)::bs)/\(ib e=true->a=nx e)
def NO(T:aI w0 w ((g,286,aj e)::bs))(d:w0.heap.size<=g)(i:gv g bs):
  Calls prog 141 #[N g] w λr F=>r=.returned (.bool (ib e))/\QB w0 F g e bs:=by
 obtain⟨t,u,-⟩:=T.rules;by_cases A:e.k=1
 ·go_in;go_wp2_with fail;apply(yU 0 T d i).mono;rintro r v ⟨rfl,c⟩;go_wp2;go_ret;exact⟨by simp[ib,A],_,c,λ_=>by simp[nx,A]⟩
 by_cases x:e.k=2
 ·go_in;go_wp2_with fail;apply(yU 1 T d i).mono;rintro r v ⟨rfl,c⟩;go_wp2;go_ret;exact⟨by simp[ib,x],_,c,λ_=>by simp[nx,x]⟩
 by_cases s:e.k=3
 ·obtain⟨b,j⟩:=aM (pt 1 e);have p:=yU 1 T d i;rw[j]at p;have C:=U p;have l:=U j;clear p j;rcases(show b=false\/b=true from by cases b<;>simp)with rfl|rfl
  all_goals
   go_in;go_wp2_with fail;apply C.o.mono;rintro r v ⟨rfl,c⟩;clear t u;go_wp2_with (go_at_call 156;apply(Lo (e:={e with n:=0,a:=0}) c d i).mono;rintro r L ⟨rfl,E⟩);go_ret
  exact⟨by simp[ib,s,l.o],_,c,λh=>by simp[ib,s,l.o]at h⟩;exact⟨by simp[ib,s,l.o];omega,_,E,λ_=>by simp[nx,s]⟩
 by_cases y:e.k=4
 ·go_in;go_wp2_with fail;apply(SO T d i).mono;rintro r v ⟨rfl,c⟩;clear t u;go_wp2;go_ret;refine⟨?_,_,c,λ_=>by simp[nx,y]⟩;have J:decide (1<=e.r)=decide (0<e.r):=O;have G:decide (1<=e.f)=decide (0<e.f):=O;have K:decide (e.r≠e.f)=decide (e.f≠e.r):=by rw[decide_eq_decide];exact ne_comm
  simp only[ib,y,J,G,K];simp[Bool.and_assoc]
 by_cases m:e.k=5
 ·obtain⟨b,j⟩:=aM (pt 1 e);have p:=yU 1 T d i;rw[j]at p;have C:=U p;have l:=U j;clear p j;rcases(show b=false\/b=true from by cases b<;>simp)with rfl|rfl
  all_goals
   go_in;go_wp2_with fail;apply C.o.mono;rintro r v ⟨rfl,c⟩;clear t u;go_wp2_with (go_at_call 158;apply(Fh (e:={e with n:=0,a:=0}) c d i).mono;rintro r L ⟨rfl,E⟩);go_ret
  exact⟨by simp[ib,m,l.o],_,c,λh=>by simp[ib,m,l.o]at h⟩;exact⟨by simp[ib,m,l.o,qV],_,E,λ_=>by simp[nx,m]⟩
 by_cases B:e.k=6
 ·go_in;go_wp2_with fail;apply(Fh T d i).mono;rintro r v ⟨rfl,c⟩;go_wp2;go_ret;exact⟨by simp[ib,B],_,c,λ_=>by simp[nx,B]⟩
 have P:(e.k==1)=false:=by rw[fH];exact A
 have X:(e.k==2)=false:=by rw[fH];exact x
 have Q:(e.k==3)=false:=by rw[fH];exact s
 have k4:(e.k==4)=false:=by rw[fH];exact y
 have R:(e.k==5)=false:=by rw[fH];exact m
 have W:(e.k==6)=false:=by rw[fH];exact B
 go_wp2;go_ret;exact⟨by simp[ib,A,x,s,y,m,B];rfl,_,T,λ_=>by simp[nx,A,x,s,y,m,B]⟩
end
def i8(L:List z):List H:=L.flatMap λe=>(aj e).toList
def Mx(L:List z)(i:Nat)(e:z)(h:L[i]? =some e)(j:Nat)(c:j<14):(i8 L)[i*14+j]? =(aj e)[j]?:=by
 induction L generalizing i with
 |nil=>simp at h
 |cons u L ih=>
  have a:((aj u).toList).length=14:=O;cases i with
  |zero=>simp at h;subst h;simp only[i8,vB];rw[p9 (by rw[a];omega),nV,cA,i5]
  |succ i=>have b:L[i]? =some e:=az h;have:=ih i b;simp only[i8,vB]at this⊢;rw[pZ (by rw[a];omega),a,bU ((i+1)*14+j-14=i*14+j)];exact this
def ZF(L aeL:List z):i8 (L++aeL)=i8 L++i8 aeL:=by simp[i8]
abbrev jy(w:D)(B:Nat)(A:Option Addr)(L:List z):Prop:=dK w B 14 A L.length (i8 L)
@[reducible] def In(w:D)(b o:Nat)(e:z):Prop:=
 w.cell? (I b o)=some (Z e.o)/\w.cell? (I b (o+1))=some (q e.s)/\w.cell? (I b (o+2))=some (q e.d.v0)/\w.cell? (I b (o+3))=some (q e.d.v1)/\w.cell? (I b (o+4))=some (q e.d.v2)/\w.cell? (I b (o+5))=some (q e.d.v3)/\w.cell? (I b (o+6))=some (q e.d.v4)/\w.cell? (I b (o+7))=some (q e.d.v5)/\w.cell? (I b (o+8))=some (.int .u8 e.k)/\w.cell? (I b (o+9))=some (q e.n)/\w.cell? (I b (o+10))=some (Z e.t)/\w.cell? (I b (o+11))=some (Z e.a)/\w.cell? (I b (o+12))=some (q e.r)/\w.cell? (I b (o+13))=some (q e.f)
def SJ{b:Nat}{e:z}(h:∀j,j<14->w.cell? (I b (o+j))=(aj e)[j]?):In w b o e:=
 ⟨h 0 V,h 1 V,h 2 V,h 3 V,h 4 V,h 5 V,h 6 V,h 7 V,h 8 V,h 9 V,h 10 V,h 11 V,h 12 V,h 13 V⟩
def jy.at_{B:Nat}{A:Option Addr}{L:List z}(h:jy w B A L){i:Nat}{e:z}(d:L[i]? =some e):∃b o,A=some (I b o)/\b<B/\In w b (o+i*14) e:=by have f:i<L.length:=(fN.1 d).1;obtain⟨b,o,l,k,m⟩:=h.2 V;refine⟨b,o,l,k,SJ λj a=>?_⟩;have c:=Mx L i e d j a;obtain⟨v,g⟩:∃v,(aj e)[j]? =some v:=⟨(aj e)[j]'(by rw[l9];exact a),oZ _⟩;rw[g]at c⊢;rw[gQ];exact m _ _ c
def Gm:(prog.info? 64).map (λi=>(i.zero,i.size,i.bytes))=some (some (.agg #[Z 0,q 0,q 0,q 0,q 0,q 0,q 0,q 0,.int .u8 0,q 0,Z 0,Z 0,q 0,q 0]),14,112):=Y
def ME{g:Array Oper}{b:List Oper}{o:Oper}{a:Act}{Q:Exit->Act->D->Prop}(w:D)(k:o.guard=none)(s x:aO)
  (C:o.op=.call {callee:=.builtin .append,args:=#[s,x],argTypes:=#[175,175]})
  (base:Nat) (v:H) (L aeL:List z) (E:a.eval s=v) (f:w.ownsRow base 64 14 v L.length (i8 L)) (A:Option Addr) (c B:Nat) (F:a.eval x=.slice A aeL.length c) (r:jy w B A aeL)
  (G:L.length+aeL.length<=1000000) (d:base<=w.heap.size)
  (h:∀j w',w'.ownsRow base 64 14 j (L++aeL).length (i8 (L++aeL))->Below base w w'->wpList prog g Q b (a.put o.dst j) w'):wpList prog g Q (o::b) a w:=by
 obtain⟨u,p,l,m,n⟩:=i7 Gm;refine IT w k s x 175 C base 64 u (.agg #[Z 0,q 0,q 0,q 0,q 0,q 0,q 0,q 0,.int .u8 0,q 0,Z 0,Z 0,q 0,q 0]) 14 112 underlying175 p l m n O ai v L.length (i8 L) E f B A aeL.length c (i8 aeL) F r ?_ ?_ ?_ d ?_
 ·intro y i;unfold i8 at i;obtain⟨v,_,i⟩:=List.mem_flatMap.1 i;simp only[Dn,dh,sL,lE]at i;rcases i with rfl|rfl|rfl|rfl|rfl|rfl|rfl|rfl|rfl|rfl|rfl|rfl|rfl|rfl<;>rfl
 unfold maxLen;omega;omega;intro j w' e t;refine h j w' ?_ t;rw[ZF,bW];exact e
section
variable(ρ:aO->H)(dst:Option Tmp)(x y:aO)(ty:ay)(pos:String)(after:Array Edge)(guard:Option (Nat×Bool))
@[go_sem ↓] def aaH:=@lz 175
@[go_sem ↓] theorem aaJ:execOp ρ {dst,op:=.buildSlice 175 0 #[],type:=ty,pos,after,guard}=oJ 175:=yJ ..
end
@[go_sem] theorem ab8(e:z)(w:D):(ke 175 (.agg (aj e))).run prog w=.ok (.value (bh w.heap.size 1 1)) (w.alloc (.cells (aj e) 64)):=Y
@[go_sem] theorem aca(w:D):(oJ 175).run prog w=.ok (.value (bh w.heap.size 0 0)) (w.alloc (.cells #[] 64)):=Y
def lB(w:D)(b o:Nat)(cs:Array H):Prop:=∀j v,cs[j]? =some v->w.cell? (I b (o+j))=some v
def lB.at_{b:Nat}(h:lB w b o cs):w.rangeAt b o cs.toList:=λj v a=>h j v (az a)
def M.rng{g:Nat}{t:ay}(h:M w g t cs):lB w g 0 cs:=λj v a=>by rw[cA,h.cell];exact a
def M.rngAt{g n:Nat}{t:ay}(h:M w g t cs)(c:Array H)(a:∀j v,c[j]? =some v->cs[o+j]? =some v):lB w g o c:=λj v b=>by rw[h.cell];exact a j v b
section
variable{P:Program}{ops:Array Oper}{rest:List Oper}{op:Oper}{a:Act}{w:D}{Q:Exit->Act->D->Prop}
def ZI(w:D)(b o:Nat)(ty:ay)(cs:Array H)(d:TypeDesc)(g:lB w b o cs)(e:P.underlying ty=some d)(c:d.isRow=true)(f:(P.info? ty).map (·.size)=some cs.size):
  (Instr.loadAt ty (.pointer (some (I b o)))).run P w=.ok (.agg cs) w:=by
 have:=run_loadAt_mid (P:=P) w b o ty cs.toList d g.at_ e c (az f);simpa using this
end
def aw(f:Nat->Int):Array H:=((List.range 54).map λi=>Z (f i)).toArray
def mS(f:Nat->Int):(aw f).size=54:=by simp[aw]
def ia(f:Nat->Int)(k:Nat)(h:k<54):(aw f)[k]? =some (Z (f k)):=by simp[aw,h]
def gU(f:Nat->Int)(k:Nat)(x:Int):Nat->Int:=λi=>if i=k then x else f i
def EA(f:Nat->Int)(k:Nat)(h:k<54)(x:Int):(aw f).setIfInBounds k (Z x)=aw (gU f k x):=by apply Array.ext_getElem?;intro i;rw[Array.getElem?_setIfInBounds];by_cases a:k=i;subst a;rw[av rfl,av (by rw[mS];exact h),ia _ _ h];simp[gU];rw[al a];by_cases b:i<54;rw[ia _ _ b,ia _ _ b];simp[gU,eC a];rw[kQ (by rw[mS];omega),kQ (by rw[mS];omega)]
def Ek(f:Nat->Int):(aw f).all (·.oneCell')=true:=by rw[nU];intro v a;simp[aw]at a;obtain⟨i,_,rfl⟩:=a;rfl
def Ey(f:Nat->Int):(prog.info? 50).map (·.size)=some (aw f).size:=by rw[mS];kernel_rfl
def aC:Nat->Int:=λ_=>0
@[go_sem] theorem ac1:#[Z 0,Z 0,Z 0,Z 0,Z 0,Z 0,Z 0,Z 0,Z 0,Z 0,Z 0,Z 0,Z 0,Z 0,Z 0,Z 0,Z 0,Z 0,Z 0,Z 0,Z 0,Z 0,Z 0,Z 0,Z 0,Z 0,Z 0,Z 0,Z 0,Z 0,Z 0,Z 0,Z 0,Z 0,Z 0,Z 0,Z 0,Z 0,Z 0,Z 0,Z 0,Z 0,Z 0,Z 0,Z 0,Z 0,Z 0,Z 0,Z 0,Z 0,Z 0,Z 0,Z 0,Z 0]=aw aC:=Y
def Cc:Sem Next:=do pure (.value (<-Instr.build 50 #[]))
section
variable(ρ:aO->H)(dst:Option Tmp)(ty:ay)(pos:String)(after:Array Edge)(guard:Option (Nat×Bool))
@[go_sem ↓] theorem acd:execOp ρ {dst,op:=.build 50 #[],type:=ty,pos,after,guard}=Cc:=by simp[execOp,Cc]
end
@[go_sem] theorem ac8(w:D):Cc.run prog w=.ok (.value (.agg (aw aC))) w:=Y
section
variable{P:Program}{ops:Array Oper}{rest:List Oper}{op:Oper}{a:Act}{w:D}{Q:Exit->Act->D->Prop}
def IU(w:D)(g o:Nat)(t ty:ay)(b cells:Array H)(k:w.heap[g]? =some (.cells b t (0,0)))(e:(P.info? ty).map (·.size)=some cells.size)
  (f:o+cells.size<=b.size) (j:cells.all (·.oneCell')=true):
  (storeVar ty (I g o) (.agg cells)).run P w=.ok () (w.setRow g (b.toList.take o++cells.toList++b.toList.drop (o+cells.size)).toArray):=by
 have:=yw (P:=P) g o t cells.toList 0 b w k (az f) (λv h=>(nU.1 j) v (az h));cases c:P.info? ty with
 |none=>simp[c]at e
 |some i=>
  have d:cells.size=i.size:=by simp[c]at e;omega
  rw[oU,lW]at this;rw[d]at this;simp[storeVar,sizeOf,typeInfo,c,Value.cells,d,this]
def Zf(d:op.guard=none)(ty:ay)(x y:aO)(e:op.op=.store ty x y)
  (g off:Nat) (cells:Array H) (m:a.eval x=.pointer (some (I g off))) (f:a.eval y=.agg cells)
  (t:ay) (b:Array H) (k:w.heap[g]? =some (.cells b t (0,0))) (l:(P.info? ty).map (·.size)=some cells.size)
  (c:off+cells.size<=b.size) (j:cells.all (·.oneCell')=true)
  (h:wpList P ops Q rest (a.put op.dst undef) (w.setRow g (b.toList.take off++cells.toList++b.toList.drop (off+cells.size)).toArray)):wpList P ops Q (op::rest) a w:=by
 refine rk d λ_ i=>?_;unfold Oper.wp execOp;simp only[e,m,f,Instr.storeAt,Instr.sureAddr,lS,sF,lX,IU w g off t ty b cells k l c j];exact i _ _ h
end
