import Derived.Test.YtghdobdjfnimmaaGreatDoorZ00
import Derived.Deep.QuietTactic
import Derived.Deep.RegionHeld3
set_option maxRecDepth 100000
set_option maxHeartbeats 0
set_option linter.all false
namespace Go.Proofs.YtghdobdjfnimmaaGreatDoor
open Go.Proofs.Tryz
variable{w:Yu}{ops:Array Oper}{rest:List Oper}{o:Oper}{a:Act}{Q:Exit->Act->Yu->Prop}
section
open Go.RowKit
def lf(k:Int):Bool:=decide (1<=k)&&decide (k<=6)
theorem uk(k:Nat)(h:k<6):lf ((k:Int)+1)=true:=by simp[lf];omega
theorem ul{o:Int}(h:lf o=true):∃k:Nat,k<6/\o=(k:Int)+1:=by
 simp[lf]at h;exact⟨(o-1).toNat,by omega,by omega⟩
theorem nM(k:Int)(w:Yu):
  Yt 124 #[.int .i64 k] w λe w'=>e=.returned (.bool (lf k))/\w=w':=by
 go_enter func124,ntmps124
 go_wp2
 all_goals go_ret
 all_goals (refine⟨?_,rfl⟩;simp[lf];omega)
theorem ip(k:Nat)(h:k<6)(w:Yu):
  Yt 124 #[.int .i64 (k+1)] w λe w'=>e=.returned (.bool true)/\w=w':=
 (nM (k+1) w).mono λ_ _ ⟨b,c⟩=>⟨by rw[b,uk k h],c⟩
theorem oZ(o:Int)(h:lf o=false)(w:Yu):
  Yt 124 #[.int .i64 o] w λe w'=>e=.returned (.bool false)/\w=w':=
 (nM o w).mono λ_ _ ⟨b,c⟩=>⟨by rw[b,h],c⟩
theorem rN(x y:Int)(w:Yu):
  Yt 136 #[.int .u64 x,.int .u64 y] w λe w'=>e=.returned (.int .u64 (max x y))/\w=w':=by
 go_enter func136,ntmps136
 go_wp2
 all_goals go_ret
 all_goals (refine⟨sL ?_,rfl⟩;first|rfl|omega)
theorem Dd(k:Int)(w:Yu):
  Yt 109 #[.int .i64 k] w λe w'=>e=.returned (.int .u64 1099511627776)/\w=w':=by
 go_enter func109,ntmps109
 go_wp2
 go_ret;exact⟨rfl,rfl⟩
def JF(d:FuncId)(b:List Yv)(F:av)(w:Yu):Prop:=
 ∀k:Nat,k<6->∀c,Ys w c->Calls prog d (Value.int .i64 k::b).toArray c λe f=>e=.returned (.int .u64 (F.get k))/\Ys c f
theorem ql(h:FuncId)(c:List Yv)(F:av)(w:Yu)(hF:JF h c F w)(m:h=140\/h=109\/h=85):
  Yt 84 #[.func (.func h) #[] c.toArray] w λe w'=>e=.returned (.agg (aq F))/\Ys w w':=by
 rcases m with rfl|rfl|rfl
 all_goals
  go_enter func84,ntmps84;go_wp2_with fail
  go_loopw [4] (λi wr=>∃k:Nat,k<=6/\i=.int .i64 k/\ai wr w.heap.size 34 (aq (F.upto k))/\Ys w wr) (λi _=>6-(intOf i).toNat)
  case atStart=>exact⟨0,by omega,rfl,ai.new _ _ _,(Vd _ _).alloc (Vc _) _⟩
  case round=>
   obtain⟨k,r,rfl,l,p⟩:=hrel;by_cases b:k<6
   ·go_wp2_with fail
    refine(hF k b _ p).mono ?_;rintro e q ⟨rfl,f⟩;have d:=l.below f l.lt;obtain⟨j,n⟩:=d.rules;have s:=fW (F.upto k) k b
    go_wp2
    go_roundw
    case rel=>
     refine⟨k+1,by omega,by go_num,?_,(p.trans (f.mono p.size)).setCell (Vc _) _⟩;rw[<-av.upto_succ F k b,<-Bz _ k _ b];exact d.set_ k _
    case measure=>simp[intOf];omega
   ·obtain rfl:k=6:=by omega
    obtain⟨j,n⟩:=l.rules
    go_wp2
    refine VF (v:=.agg (aq F)) (by simp[results,results84,go_sem,j,av.upto_six]) rfl ⟨rfl,?_⟩
    go_grown
def zi(b:FuncId)(c:Int->Int->Int):Prop:=
 (b=136/\c=max)\/(b=136/\c=max)
theorem AO(i:FuncId)(c:Int->Int->Int)(f:zi i c)(j m l:Nat)(O V:av)(k:Nat)(h:k<6)(w:Yu)
  (d:w.cell? ⟨j,0,none⟩=some (.func (.func i) #[] #[])) (b:ai w m 34 (aq O)) (q:ai w l 34 (aq V)):
  Yt 140 #[.int .i64 k,Yr j,Yr m,Yr l] w
   λe w'=>e=.returned (.int .u64 (c (O.get k) (V.get k)))/\Ys w w':=by
 have s:=fW O k h;have v:=fW V k h;obtain⟨r,_⟩:=b.rules;obtain⟨t,_⟩:=q.rules;have p:(0:Int)<=(k:Int):=by omega
 have n:(k:Int)<6:=by omega
 rcases f with⟨rfl,rfl⟩|⟨rfl,rfl⟩
 ·go_enter func140,ntmps140
  go_wp2_with fail;go_quiet ((go_at_call 136;exact Vu ((rN _ _ _).mono λ_ _ ⟨d,b⟩=>⟨d,b.symm⟩)))
  go_wp2
  go_ret;exact⟨rfl,bC (Vd _ _) _⟩
 ·go_enter func140,ntmps140
  go_wp2_with fail;go_quiet ((go_at_call 136;exact Vu ((rN _ _ _).mono λ_ _ ⟨d,b⟩=>⟨d,b.symm⟩)))
  go_wp2
  go_ret;exact⟨rfl,bC (Vd _ _) _⟩
theorem DT(C:FuncId)(c:Int->Int->Int)(M:zi C c)(A:Option Addr)(cap:Nat)(L:List av)(B:Nat)(w:Yu)(hL:qC w B A L)(hB:B<=w.heap.size)(hn:L.length<=cap)(p:cap<=maxLen):
  Yt 135 #[.slice A L.length cap,.func (.func C) #[] #[]] w λe w'=>e=.returned (.agg (aq (av.foldV c L)))/\Ys w w':=by
 unfold maxLen at p;rcases L with _|⟨v,L⟩
 ·go_enter func135,ntmps135
  go_wp2_with fail
  go_returns
  refine⟨rfl,?_⟩
  go_grown
 ·obtain⟨b,o,rfl,T,J⟩:=hL (by simp)
  have H:b<w.heap.size:=by omega
  have hl:((L.length+1:Nat):Int)=(L.length:Int)+1:=by omega
  have s:=ud (J 0 v rfl);rw[Xp,Yc]at s;obtain⟨ι,γ,V,S,β,ζ⟩:=s;have HC:=U9 J;clear J;simp only[VB]at hn⊢;by_cases K:cap=1
  ·obtain rfl:cap=1:=K
   obtain rfl:L=[]:=VM (by omega);go_enter func135,ntmps135;go_wp2_with fail;refine wp_loop_rounds 1 ?_;rw[rounds_succ];go_wp2_with fail
   go_returns
   refine⟨rfl,?_⟩
   go_grown
  ·have α:((L.length:Int)+1==0)=false:=by rw[Vz];omega
   go_enter func135,ntmps135;go_wp2_with fail
   go_loopw [18] (λi wr=>∃k:Nat,k<=L.length/\i=.int .i64 k/\ai wr w.heap.size 278 #[.func (.func C) #[] #[]]/\ai wr (w.heap.size+1) 34 (aq av.zero)/\
    ai wr (w.heap.size+2) 34 (aq (av.foldV c ((v::L).take (k+1))))/\Ys w wr) (λi _=>L.length-(intOf i).toNat)
   case atStart=>exact⟨0,by omega,rfl,((ai.new w _ _).alloc _).alloc _,(ai.new_at (by simp) rfl).alloc _,ai.new_at (by simp) rfl,by go_grown⟩
   case round=>
    obtain⟨k,hk,rfl,h,m,d,D⟩:=hrel;by_cases r:k<L.length
    ·obtain⟨u,N⟩:∃u,L[k]? =some u:=⟨L[k],Ve r⟩
     have s:=ud (HC.o (k+1) u (by simpa using N));rw[show o+(k+1)*6=o+6+k*6 from by omega]at s;obtain⟨κ,W,X,Z,Y,δ⟩:=s.below D H;have t:=U9 (av.foldV_take c (v::L) (k+1) u (by omega) (by simpa using N));generalize E:av.foldV c ((v::L).take (k+1))=O at d t;clear E;obtain⟨q,n⟩:=d.rules;have ε:=d.lt;go_wp2_with fail;refine(ql _ _ (av.map2 c O u) _ (λj P R l=>?_) (Vs rfl)).mono ?_
     ·rw[av.get_map2 c O u j P]
      have G:=(h.alloc (.cells (aq u) 34)).below l (h.alloc _).lt;have F:=(d.alloc (.cells (aq u) 34)).below l (d.alloc _).lt;have e3:=(ai.new wr 34 (aq u)).below l (ai.new _ _ _).lt;exact AO C c M _ _ _ O u j P R (G.cell 0) F e3
     rintro e w2 ⟨rfl,f⟩;have G:=(h.alloc (.cells (aq u) 34)).below f (h.alloc _).lt;have e1:=(m.alloc (.cells (aq u) 34)).below f (m.alloc _).lt;have F:=(d.alloc (.cells (aq u) 34)).below f (d.alloc _).lt;obtain⟨η,θ⟩:=F.rules;clear q n
     go_wp2
     go_roundw
     case rel=>
      refine⟨k+1,by omega,by go_num,G.farVec (by omega) _,e1.farVec (by omega) _,?_,?_⟩
      ·rw[t.o]
       exact F.setVec _
      ·exact gU ((D.alloc D.size _).trans (f.mono (by simp;omega))) (by omega) _
     case measure=>simp[intOf];omega
    ·obtain rfl:k=L.length:=by omega
     rw[V4 (by simp)]at d;generalize E:av.foldV c (v::L)=O at d;have HO:=U9 E;clear E;obtain⟨q,n⟩:=d.rules;obtain⟨I,U⟩:=m.rules;go_wp2_with fail;refine VF (v:=.agg (aq O)) (by simp[results,results135,go_sem,I]) rfl ⟨by rw[HO.o],?_⟩;exact gU D (by omega) _
theorem vd:(prog.info? 32).map (λi=>i.size)=some 1:=by kernel_rfl
@[go_sem] theorem Eo(w:Yu)(d:Nat)(a b:av):(Op.equalIn (d+2) 34 (.agg (aq a)) (.agg (aq b))).run prog w=.ok (decide (a=b)) w:=by
 cases c:prog.info? 32 with
 |none=>have h:=vd;rw[c]at h;cases h
 |some i=>
  have h:=vd;rw[c]at h;exact ou w d _ 32 i a b underlying34 underlying32 c (by simpa using h)
section
variable(ρ:Yx->Yv)(dst:Option Tmp)(x y:Yx)(ty:Yw)(pos:String)(after:Array Edge)(guard:Option (Nat×Bool))
@[go_sem ↓] theorem DX:execOp ρ {dst,op:=.buildSlice 276 1 #[(0,x)],type:=ty,pos,after,guard}=iJ 276 (ρ x):=by simp[execOp,iJ]
@[go_sem ↓] theorem DV:execOp ρ {dst,op:=.buildSlice 276 2 #[(0,x),(1,y)],type:=ty,pos,after,guard}=SM 276 (ρ x) (ρ y):=by simp[execOp,SM]
end
@[go_sem] theorem Is(a:av)(w:Yu):(iJ 276 (.agg (aq a))).run prog w=.ok (.value (.slice (some ⟨w.heap.size,0,none⟩) 1 1)) (w.alloc (.cells (aq a) 34)):=by kernel_rfl
@[go_sem] theorem Ir(a b:av)(w:Yu):(SM 276 (.agg (aq a)) (.agg (aq b))).run prog w=.ok (.value (.slice (some ⟨w.heap.size,0,none⟩) 2 2))
  (w.alloc (.cells #[.int .u64 a.v0,.int .u64 a.v1,.int .u64 a.v2,.int .u64 a.v3,.int .u64 a.v4,.int .u64 a.v5,.int .u64 b.v0,.int .u64 b.v1,.int .u64 b.v2,.int .u64 b.v3,.int .u64 b.v4,.int .u64 b.v5] 34)):=by kernel_rfl
theorem uZ(A:Option Addr)(cap:Nat)(L:List av)(B:Nat)(w:Yu)(j:qC w B A L)(i:B<=w.heap.size)(k:L.length<=cap)(c:cap<=maxLen):
  Yt 123 #[.slice A L.length cap] w λe w'=>e=.returned (.agg (aq (av.foldV max L)))/\Ys w w':=by
 go_enter func123,ntmps123;go_wp2_with fail;refine(DT _ max (Vs ⟨rfl,rfl⟩) A cap L B _ (j.below ((Vd _ _).alloc i _)) (by simp;omega) k c).mono ?_;rintro e l ⟨rfl,b⟩;have d:=(ai.new w 34 (aq av.zero)).below b (ai.new _ _ _).lt;obtain⟨f,h⟩:=d.rules
 go_wp2
 refine VF (v:=.agg (aq (av.foldV max L))) (by simp[results,results123,go_sem,f]) rfl ⟨rfl,?_⟩;exact gU (((Vd _ _).alloc (Vc _) _).trans (b.mono (by simp))) (by omega) _
theorem AM(c:Int->Int->Int)(a b:av):av.foldV c [a,b]=av.map2 c a b:=rfl
theorem Dt(g:Nat)(a b:av)(w:Yu)(h:w.heap[g]? =some (.cells #[.int .u64 a.v0,.int .u64 a.v1,.int .u64 a.v2,.int .u64 a.v3,.int .u64 a.v4,.int .u64 a.v5,.int .u64 b.v0,.int .u64 b.v1,.int .u64 b.v2,.int .u64 b.v3,.int .u64 b.v4,.int .u64 b.v5] 34 (0,0))):
  Yt 123 #[.slice (some ⟨g,0,none⟩) 2 2] w λe w'=>e=.returned (.agg (aq (av.map2 max a b)))/\Ys w w':=
 uZ _ 2 [a,b] (g+1) w (zl h) (ai.lt h) (Vc _) (by decide)
theorem uS(a b:av)(w:Yu):
  Yt 108 #[.agg (aq a),.agg (aq b)] w λe w'=>e=.returned (.bool (decide (av.map2 max a b=b)))/\Ys w w':=by
 go_enter func108,ntmps108;go_wp2_with fail
 go_region_held3 (λw'=>((∀i,w'.cell? ⟨w.heap.size,i,none⟩=(aq a)[i]?)/\(∀i,w'.cell? ⟨w.heap.size+1,i,none⟩=(aq b)[i]?))/\mQ w 34 (aq a) (aq b) w')
  (first|with_reducible exact mQ.all mQ.start.drew|with_reducible exact mQ.all (mQ.drew (mQ.alloc (mQ.undrew (And.right (by assumption))) _))|with_reducible exact mQ.all (mQ.alloc (And.right (by assumption)) _)|with_reducible exact mQ.all (mQ.below (And.right (by assumption)) (by assumption)))
  (first|(go_at_call 123;refine(Dt _ a b _ ?h12).mono ?_;(case h12=>exact ai.drew (ai.new_at (by simp) rfl));rintro e w' ⟨rfl,c⟩))
 go_wp2
 go_ret;exact⟨rfl,(And.right (by assumption:_/\mQ w _ _ _ _)).2.2⟩
theorem Bw(v:av)(w:Yu):
  Yt 86 #[.agg (aq v)] w λe w'=>e=.returned (.bool (decide (av.map2 max v (av.ofFn λ_=>1099511627776)=av.ofFn λ_=>1099511627776)))/\Ys w w':=by
 go_enter func86,ntmps86;go_wp2_with fail
 go_region_held3 (λw'=>(∀b o,b<(w.alloc (.cells (aq v) 34)).heap.size->w'.cell? ⟨b,o,none⟩=(w.alloc (.cells (aq v) 34)).cell? ⟨b,o,none⟩)/\Sb (w.alloc (.cells (aq v) 34)) w')
  (first|with_reducible exact Sb.all Sb.start.drew|with_reducible exact Sb.all (Sb.below (And.right (by assumption)) (by assumption)))
  (first|(go_at_call 84;refine(ql 109 [] (av.ofFn λ_=>1099511627776) _ ?hG (Vr (Vs rfl))).mono ?_;(case hG=>exact λk d c _=>(Dd k c).mono λ_ _ ⟨h,f⟩=>⟨by rw[h,av.get_ofFn _ k d],by rw[f];exact Vd _ _⟩);rintro e w' ⟨rfl,i⟩)|(go_at_call 108;refine(uS _ _ _).mono ?_;rintro e w' ⟨rfl,i⟩))
 go_wp2
 go_ret;exact⟨rfl,((Vd _ _).alloc (Vc _) _).trans ((And.right (by assumption:_/\Sb _ _)).mono (by simp))⟩
def fV(v:av):Bool:=decide (v.v0<=1099511627776/\v.v1<=1099511627776/\v.v2<=1099511627776/\v.v3<=1099511627776/\v.v4<=1099511627776/\v.v5<=1099511627776)
def k7(a b:av):Bool:=decide (a.v0<=b.v0/\a.v1<=b.v1/\a.v2<=b.v2/\a.v3<=b.v3/\a.v4<=b.v4/\a.v5<=b.v5)
theorem wv{a b:av}:k7 a b=true↔∀k,k<6->a.get k<=b.get k:=by
 unfold k7;rw[VC];exact⟨λ⟨j,f,c,l,d,i⟩=>av.six (P:=λk=>a.get k<=b.get k) j f c l d i,
  λh=>⟨h 0 (by omega),h 1 (by omega),h 2 (by omega),h 3 (by omega),h 4 (by omega),h 5 (by omega)⟩⟩
theorem nT(a b:av):decide (av.map2 max a b=b)=k7 a b:=by
 rw[Bool.eq_iff_iff,wv,VC];constructor
 ·intro h k c
  have:=av.get_map2 max a b k c;rw[h]at this;omega
 ·intro h
  refine av.ext_get λk c=>?_
  rw[av.get_map2 max a b k c];have:=h k c;omega
theorem Bx(v:av):k7 v (av.ofFn λ_=>1099511627776)=fV v:=rfl
theorem NG(a b:av)(w:Yu):
  Yt 108 #[.agg (aq a),.agg (aq b)] w λe w'=>e=.returned (.bool (k7 a b))/\Ys w w':=by
 rw[<-nT];exact uS a b w
theorem NF(v:av)(w:Yu):
  Yt 86 #[.agg (aq v)] w λe w'=>e=.returned (.bool (fV v))/\Ys w w':=by
 rw[<-Bx,<-nT];exact Bw v w
def lU(v:av)(o s:Int):Bool:=lf o&&(decide (0<s)&&decide (s<=v.get (o-1).toNat))
theorem Rb(v:av)(o s:Int)(w:Yu):
  Yt 114 #[.agg (aq v),.int .i64 o,.int .u64 s] w λe w'=>e=.returned (.bool (lU v o s))/\Ys w w':=by
 by_cases d:lf o=true
 ·obtain⟨k,h,rfl⟩:=ul d
  have i:((k:Int)+1-1).toNat=k:=by omega
  have m:=fW v k h;by_cases j:0<s
  ·have b:lU v (k+1) s=decide (s<=v.get k):=by unfold lU;rw[d,i,Vg j];rfl
   have f:=U9 b;clear b d i;go_enter func114,ntmps114;go_wp2_with (go_at_call 124;refine(ip k h _).mono ?_;rintro e w' ⟨rfl,rfl⟩);go_ret;refine⟨by rw[f.o];rfl,?_⟩
   go_grown
  ·have b:lU v (k+1) s=false:=by unfold lU;rw[d,Vj j];rfl
   have f:=U9 b;clear b d i;go_enter func114,ntmps114;go_wp2_with (go_at_call 124;refine(ip k h _).mono ?_;rintro e w' ⟨rfl,rfl⟩);go_ret;refine⟨by rw[f.o];rfl,?_⟩
   go_grown
 ·have c:lf o=false:=by simpa using d
  have b:lU v o s=false:=by unfold lU;rw[c];rfl
  have f:=U9 b;have l:=U9 c;clear b d c;go_enter func114,ntmps114;go_wp2_with (go_at_call 124;refine(oZ o l.o _).mono ?_;rintro e w' ⟨rfl,rfl⟩);go_ret;refine⟨by rw[f.o];rfl,?_⟩
  go_grown
def jK(v:av)(o:Int):Int×Int:=
 if lf o=true then(if 1099511627776<=v.get (o-1).toNat then(0,6)else(v.get (o-1).toNat+1,0))else(0,10)
theorem zm(v:av)(l:v.ok)(o:Int)(w:Yu):
  Yt 268 #[.agg (aq v),.int .i64 o] w λe w'=>e=.returned (.tuple #[.int .u64 (jK v o).1,.int .i64 (jK v o).2])/\Ys w w':=by
 by_cases c:lf o=true
 ·obtain⟨k,h,rfl⟩:=ul c
  have i:((k:Int)+1-1).toNat=k:=by omega
  have p:=fW v k h;obtain⟨n,b1⟩:=l k h;by_cases j:1099511627776<=v.get k
  ·have b:jK v (k+1)=(0,6):=by unfold jK;rw[Vh c,i,Vh j]
   have f:=U9 b;clear b c i;go_enter func268,ntmps268;go_wp2_with (go_at_call 124;refine(ip k h _).mono ?_;rintro e w' ⟨rfl,rfl⟩);go_ret2;refine⟨by rw[f.o];rfl,?_⟩
   go_grown
  ·have b:jK v (k+1)=(v.get k+1,0):=by unfold jK;rw[Vh c,i,Vf j]
   have f:=U9 b;clear b c i;go_enter func268,ntmps268;go_wp2_with (go_at_call 124;refine(ip k h _).mono ?_;rintro e w' ⟨rfl,rfl⟩);go_ret2;refine⟨by rw[f.o];simp,?_⟩
   go_grown
 ·have d:lf o=false:=by simpa using c
  have b:jK v o=(0,10):=by unfold jK;rw[Vf c]
  have f:=U9 b;have m:=U9 d;clear b c d;go_enter func268,ntmps268;go_wp2_with (go_at_call 124;refine(oZ o m.o _).mono ?_;rintro e w' ⟨rfl,rfl⟩);go_ret2;refine⟨by rw[f.o];rfl,?_⟩
  go_grown
theorem kP(a:av)(k:Nat)(h:k<6)(w:Yu):(Instr.index 34 (.agg (aq a)) (.int .i64 (k:Int))).run prog w=.ok (.int .u64 (a.get k)) w:=
 av.six (P:=λk=>(Instr.index 34 (.agg (aq a)) (.int .i64 (k:Int))).run prog w=.ok (.int .u64 (a.get k)) w) (by kernel_rfl) (by kernel_rfl) (by kernel_rfl) (by kernel_rfl) (by kernel_rfl) (by kernel_rfl) k h
theorem yA(e:Ev)(w:Yu):
  (part 3 (ao e) 0).run prog w=.ok (.int .i64 e.o) w/\(part 32 (ao e) 1).run prog w=.ok (.int .u64 e.s) w/\(part 34 (ao e) 2).run prog w=.ok (.agg (aq e.d)) w/\(part 5 (ao e) 8).run prog w=.ok (.int .u8 e.k) w/\
  (part 32 (ao e) 9).run prog w=.ok (.int .u64 e.n) w/\(part 3 (ao e) 10).run prog w=.ok (.int .i64 e.t) w/\(part 2 (ao e) 11).run prog w=.ok (.int .i64 e.a) w/\(part 32 (ao e) 12).run prog w=.ok (.int .u64 e.r) w/\(part 32 (ao e) 13).run prog w=.ok (.int .u64 e.f) w:=
 ⟨by kernel_rfl,by kernel_rfl,by kernel_rfl,by kernel_rfl,by kernel_rfl,by kernel_rfl,by kernel_rfl,by kernel_rfl,by kernel_rfl⟩
theorem BL:prog.stoodInHeld 53=false:=by kernel_rfl
@[go_sem ↓ high] theorem Q0(w:Yu)(d:Nat)(x y:Ev):(Op.equalIn (d+3) 53 (.agg (ao x)) (.agg (ao y))).run prog w=.ok (decide (x=y)) w:=by
 obtain⟨a0,a1,a2,R,U,T,a6,F,B⟩:=yA x w;obtain⟨J,b1,b2,I,Y,D,G,V,b8⟩:=yA y w;have A:decide (x=y)=(x.o==y.o&&(x.s==y.s&&(decide (x.d=y.d)&&(x.k==y.k&&(x.n==y.n&&(x.t==y.t&&(x.a==y.a&&(x.r==y.r&&x.f==y.f)))))))):=by
  rw[Bool.eq_iff_iff];simp only[VC,Vo,Xg];exact⟨λh=>by subst h;simp,λ⟨H,M,E,Z,K,O,h6,N,X⟩=>Ev.ext H M E Z K O h6 N X⟩
 have C:=λ(x y:Int)=>Xy (P:=prog) w (d+1) 3 .i64 .i64 x y underlying3
 have L:=λ(x y:Int)=>Xy (P:=prog) w (d+1) 32 .u64 .u64 x y underlying32
 have q2:=Eo w d x.d y.d;have S:=λ(x y:Int)=>Xy (P:=prog) w (d+1) 5 .u8 .u8 x y underlying5
 have W:=λ(x y:Int)=>Xy (P:=prog) w (d+1) 2 .i64 .i64 x y underlying2
 rw[Op.equalIn,A];simp only[Wu,VD underlying53,V2,BL];simp[a0,a1,a2,R,U,T,a6,F,B,J,b1,b2,I,Y,D,G,V,b8,C,L,q2,S,W];by_cases b:x.o=y.o
 ·by_cases c:x.s=y.s
  ·by_cases i:x.d=y.d
   ·by_cases j:x.k=y.k
    ·by_cases l:x.n=y.n
     ·by_cases m:x.t=y.t
      ·by_cases p:x.a=y.a
       ·by_cases q:x.r=y.r
        ·by_cases v:x.f=y.f
         ·simp[b,c,i,j,l,m,p,q,v]
         ·simp[b,c,i,j,l,m,p,q,v]
        ·simp[b,c,i,j,l,m,p,q]
       ·simp[b,c,i,j,l,m,p]
      ·simp[b,c,i,j,l,m]
     ·simp[b,c,i,j,l]
    ·simp[b,c,i,j]
   ·simp[b,c,i]
  ·simp[b,c]
 ·simp[b]
@[go_sem] theorem PC(z e:Ev):Array.foldl (λ(cs:Array Yv) (x:Yv×Nat)=>cs.setIfInBounds x.snd x.fst) (ao z) (ao e).zipIdx 0 14=ao e:=by kernel_rfl
def SV(x y z u:Yv):Sem Next:=do pure (.value (<-Instr.build 53 #[(0,x),(1,y),(2,z),(3,u)]))
section
variable(ρ:Yx->Yv)(dst:Option Tmp)(x y z u:Yx)(ty:Yw)(pos:String)(after:Array Edge)(guard:Option (Nat×Bool))
@[go_sem ↓] theorem LT:execOp ρ {dst,op:=.build 53 #[(0,x),(1,y),(2,z),(3,u)],type:=ty,pos,after,guard}=SV (ρ x) (ρ y) (ρ z) (ρ u):=by simp[execOp,SV]
end
@[go_sem] theorem QR(o s k:Int)(d:av)(w:Yu):(SV (.int .i64 o) (.int .u64 s) (.agg (aq d)) (.int .u8 k)).run prog w=.ok (.value (.agg (ao ⟨o,s,d,k,0,0,0,0,0⟩))) w:=by kernel_rfl
theorem vF(k:Int)(w:Yu):
  Yt 87 #[.int .i64 k] w λe w'=>e=.returned (.bool (cB k))/\w=w':=by
 go_enter func87,ntmps87
 go_wp2
 all_goals go_ret
 all_goals (refine⟨?_,rfl⟩;simp[cB];omega)
theorem eY(k:Int)(b:Bool)(h:cB k=b)(w:Yu):
  Yt 87 #[.int .i64 k] w λe w'=>e=.returned (.bool b)/\w=w':=by
 subst h;exact vF k w
section
variable{w0 w:Yu}{g:Nat}{e:Ev}{bs:List (Nat×Yw×Array Yv)}
theorem kB(b:Int)(T:bF w0 w ((g,228,ao e)::bs))(c:w0.heap.size<=g)(d:mS g bs):
  Yt 110 #[Yr g,.int .i64 b] w λr w'=>r=.returned (.bool (fS b e))/\bF w0 w' ((g,228,ao {e with n:=0,a:=0})::bs):=by
 obtain⟨i,j,-⟩:=T.rules;by_cases h:b<=e.a<;>by_cases f:e.a<=1125899906842624
 all_goals
  go_enter func110,ntmps110;go_wp2_with fail;go_ret;exact⟨by simp[fS,h,f],(T.set_ c d 9 _).set_ c d 11 _⟩
theorem vE(T:bF w0 w ((g,228,ao e)::bs))(c:w0.heap.size<=g)(b:mS g bs):
  Yt 111 #[Yr g] w λr w'=>r=.returned (.bool (decide (0<e.r)))/\bF w0 w' ((g,228,ao {e with r:=0})::bs):=by
 obtain⟨f,d,-⟩:=T.rules;go_enter func111,ntmps111;go_wp2_with fail;go_ret;exact⟨rfl,T.set_ c b 12 _⟩
theorem yU(T:bF w0 w ((g,228,ao e)::bs))(i:w0.heap.size<=g)(k:mS g bs):
  Yt 113 #[Yr g] w λr w'=>r=.returned (.bool (In e))/\bF w0 w' ((g,228,ao {e with t:=0})::bs):=by
 obtain⟨l,m,-⟩:=T.rules;obtain⟨b,d⟩:∃b,cB e.t=b:=⟨_,rfl⟩;have c1:=eY e.t b d;have c:In e=(b&&decide (e.t≠e.o)):=by unfold In;rw[d]
 have j:=U9 c1;have c:=U9 c;clear d c1;rcases(show b=false\/b=true from by cases b<;>simp)with rfl|rfl
 all_goals
  go_enter func113,ntmps113;go_wp2_with fail;go_quiet ((go_at_call 87;exact Vu ((j.o _).mono λ_ _ ⟨h,f⟩=>⟨h,f.symm⟩)));go_wp2_with fail;go_ret;refine⟨by rw[c.o];first|rfl|(simp[bne];rfl),?_⟩;exact(T.drewN _).set_ i k 10 _
theorem Hh(T:bF w0 w ((g,228,ao e)::bs))(i:w0.heap.size<=g)(k:mS g bs):
  Yt 112 #[Yr g] w λr w'=>r=.returned (.bool (decide (0<e.r)&&(decide (0<e.f)&&decide (e.f≠e.r))))/\bF w0 w' ((g,228,ao {e with f:=0,r:=0})::bs):=by
 obtain⟨n,p,-⟩:=T.rules;obtain⟨x1,h⟩:∃b,decide (0<e.f)=b:=⟨_,rfl⟩;obtain⟨x2,c⟩:∃b,decide (0<e.r)=b:=⟨_,rfl⟩;rcases(show x1=false\/x1=true from by cases x1<;>simp)with rfl|rfl<;>rcases(show x2=false\/x2=true from by cases x2<;>simp)with rfl|rfl
 all_goals
  have d:(decide (0<e.r)&&(decide (0<e.f)&&decide (e.f≠e.r)))=(decide (0<e.r)&&(decide (0<e.f)&&(e.f !=e.r))):=by simp[bne];rfl
  rw[h,c]at d;have s:=U9 d;clear d;go_enter func112,ntmps112;go_wp2_with fail;go_quiet (fail);have j:=(T.drewN nq).set_ i k 13 (.int .u64 0);go_wp2_with fail;refine(vE (e:={e with f:=0}) j i k).mono ?_;rintro r q ⟨rfl,l⟩;have m:=c;clear n p j;go_wp2_with fail;go_ret;exact⟨by first|(simp[h,c,bne];done)|(simp[h,c,bne];rfl),l⟩
def Fl(w0 w':Yu)(g:Nat)(e:Ev)(bs:List (Nat×Yw×Array Yv)):Prop:=∃b:Ev,bF w0 w' ((g,228,ao b)::bs)/\(bU e=true->b=jB e)
theorem AS(T:bF w0 w ((g,228,ao e)::bs))(d:w0.heap.size<=g)(i:mS g bs):
  Yt 89 #[Yr g] w λr w'=>r=.returned (.bool (bU e))/\Fl w0 w' g e bs:=by
 obtain⟨q,s,-⟩:=T.rules;by_cases B:e.k=1
 ·go_enter func89,ntmps89
  go_wp2_with fail;refine(kB 0 T d i).mono ?_;rintro r t ⟨rfl,c⟩;clear q s;go_wp2_with fail;go_ret;exact⟨by simp[bU,B],_,c,λ_=>by simp[jB,B]⟩
 by_cases v:e.k=2
 ·go_enter func89,ntmps89
  go_wp2_with fail;refine(kB 1 T d i).mono ?_;rintro r t ⟨rfl,c⟩;clear q s;go_wp2_with fail;go_ret;exact⟨by simp[bU,v],_,c,λ_=>by simp[jB,v]⟩
 by_cases p:e.k=3
 ·obtain⟨b,j⟩:∃b,fS 1 e=b:=⟨_,rfl⟩
  have c1:=kB 1 T d i;rw[j]at c1;have D:=U9 c1;have l:=U9 j;clear c1 j;rcases(show b=false\/b=true from by cases b<;>simp)with rfl|rfl
  all_goals
   go_enter func89,ntmps89;go_wp2_with fail;refine D.o.mono ?_;rintro r t ⟨rfl,c⟩;clear q s;go_wp2_with (go_at_call 111;refine(vE (e:={e with n:=0,a:=0}) c d i).mono ?_;rintro r I ⟨rfl,E⟩);go_ret
  ·exact⟨by simp[bU,p,l.o],_,c,λh=>by simp[bU,p,l.o]at h⟩
  ·exact⟨by simp[bU,p,l.o];omega,_,E,λ_=>by simp[jB,p]⟩
 by_cases A:e.k=4
 ·go_enter func89,ntmps89
  go_wp2_with fail;refine(Hh T d i).mono ?_;rintro r t ⟨rfl,c⟩;clear q s;go_wp2_with fail;go_ret;refine⟨?_,_,c,λ_=>by simp[jB,A]⟩;have G:decide (1<=e.r)=decide (0<e.r):=rfl;have F:decide (1<=e.f)=decide (0<e.f):=rfl;have H:decide (e.r≠e.f)=decide (e.f≠e.r):=by rw[decide_eq_decide];exact ne_comm
  simp only[bU,A,G,F,H];simp[Bool.and_assoc]
 by_cases m:e.k=5
 ·obtain⟨b,j⟩:∃b,fS 1 e=b:=⟨_,rfl⟩
  have c1:=kB 1 T d i;rw[j]at c1;have D:=U9 c1;have l:=U9 j;clear c1 j;rcases(show b=false\/b=true from by cases b<;>simp)with rfl|rfl
  all_goals
   go_enter func89,ntmps89;go_wp2_with fail;refine D.o.mono ?_;rintro r t ⟨rfl,c⟩;clear q s;go_wp2_with (go_at_call 113;refine(yU (e:={e with n:=0,a:=0}) c d i).mono ?_;rintro r I ⟨rfl,E⟩);go_ret
  ·exact⟨by simp[bU,m,l.o],_,c,λh=>by simp[bU,m,l.o]at h⟩
  ·exact⟨by simp[bU,m,l.o,In],_,E,λ_=>by simp[jB,m]⟩
 by_cases C:e.k=6
 ·go_enter func89,ntmps89
  go_wp2_with fail;refine(yU T d i).mono ?_;rintro r t ⟨rfl,c⟩;clear q s;go_wp2_with fail;go_ret;exact⟨by simp[bU,C],_,c,λ_=>by simp[jB,C]⟩
 ·have J:(e.k==1)=false:=by rw[Vz];exact B
  have N:(e.k==2)=false:=by rw[Vz];exact v
  have K:(e.k==3)=false:=by rw[Vz];exact p
  have O:(e.k==4)=false:=by rw[Vz];exact A
  have L:(e.k==5)=false:=by rw[Vz];exact m
  have M:(e.k==6)=false:=by rw[Vz];exact C
  go_enter func89,ntmps89;go_wp2_with fail;go_ret;exact⟨by simp[bU,B,v,p,A,m,C];rfl,_,T,λ_=>by simp[jB,B,v,p,A,m,C]⟩
end
def dH(L:List Ev):List Yv:=L.flatMap λe=>(ao e).toList
theorem xK(L:List Ev)(i:Nat)(e:Ev)(h:L[i]? =some e)(j:Nat)(d:j<14):(dH L)[i*14+j]? =(ao e)[j]?:=by
 induction L generalizing i with
 |nil=>simp at h
 |cons u L ih=>
  have b:((ao u).toList).length=14:=rfl;cases i with
  |zero=>
   simp at h;subst h;simp only[dH,XH];rw[V0 (by rw[b];omega),Xp,Vk,VK]
  |succ i=>
   have c:L[i]? =some e:=by simpa using h
   have:=ih i c;simp only[dH,XH]at this⊢;rw[VY (by rw[b];omega),b,show(i+1)*14+j-14=i*14+j from by omega];exact this
theorem qX(L M:List Ev):dH (L++M)=dH L++dH M:=by simp[dH]
abbrev fC(w:Yu)(B:Nat)(A:Option Addr)(L:List Ev):Prop:=Rd w B 14 A L.length (dH L)
@[reducible] def Qv(w:Yu)(b o:Nat)(e:Ev):Prop:=
 w.cell? ⟨b,o,none⟩=some (.int .i64 e.o)/\w.cell? ⟨b,o+1,none⟩=some (.int .u64 e.s)/\w.cell? ⟨b,o+2,none⟩=some (.int .u64 e.d.v0)/\w.cell? ⟨b,o+3,none⟩=some (.int .u64 e.d.v1)/\w.cell? ⟨b,o+4,none⟩=some (.int .u64 e.d.v2)/\w.cell? ⟨b,o+5,none⟩=some (.int .u64 e.d.v3)/\w.cell? ⟨b,o+6,none⟩=some (.int .u64 e.d.v4)/\w.cell? ⟨b,o+7,none⟩=some (.int .u64 e.d.v5)/\w.cell? ⟨b,o+8,none⟩=some (.int .u8 e.k)/\w.cell? ⟨b,o+9,none⟩=some (.int .u64 e.n)/\w.cell? ⟨b,o+10,none⟩=some (.int .i64 e.t)/\w.cell? ⟨b,o+11,none⟩=some (.int .i64 e.a)/\w.cell? ⟨b,o+12,none⟩=some (.int .u64 e.r)/\w.cell? ⟨b,o+13,none⟩=some (.int .u64 e.f)
theorem Hd{b o:Nat}{e:Ev}(h:∀j,j<14->w.cell? ⟨b,o+j,none⟩=(ao e)[j]?):Qv w b o e:=
 ⟨h 0 (by omega),h 1 (by omega),h 2 (by omega),h 3 (by omega),h 4 (by omega),h 5 (by omega),h 6 (by omega),h 7 (by omega),h 8 (by omega),h 9 (by omega),h 10 (by omega),h 11 (by omega),h 12 (by omega),h 13 (by omega)⟩
theorem fC.at_{B:Nat}{A:Option Addr}{L:List Ev}(h:fC w B A L){i:Nat}{e:Ev}(f:L[i]? =some e):∃b o,A=some ⟨b,o,none⟩/\b<B/\Qv w b (o+i*14) e:=by
 have k:i<L.length:=(Vx.1 f).1;obtain⟨b,o,p,m,n⟩:=h.2 (by omega);refine⟨b,o,p,m,Hd λj c=>?_⟩;have d:=xK L i e f j c;obtain⟨v,l⟩:∃v,(ao e)[j]? =some v:=⟨(ao e)[j]'(by rw[dO];exact c),VV _⟩;rw[l]at d⊢;rw[VO];exact n _ _ d
theorem Dy:(prog.info? 53).map (λi=>(i.zero,i.size,i.bytes))=some (some (.agg #[.int .i64 0,.int .u64 0,.int .u64 0,.int .u64 0,.int .u64 0,.int .u64 0,.int .u64 0,.int .u64 0,.int .u8 0,.int .u64 0,.int .i64 0,.int .i64 0,.int .u64 0,.int .u64 0]),14,112):=by kernel_rfl
theorem xT(w:Yu)(l:o.guard=none)(s x:Yx)
  (r:o.op=.call {callee:=.builtin .append,args:=#[s,x],argTypes:=#[132,132]})
  (base:Nat) (v:Yv) (L M:List Ev) (D:a.eval s=v) (f:w.ownsRow base 53 14 v L.length (dH L)) (A:Option Addr) (c B:Nat) (E:a.eval x=.slice A M.length c) (t:fC w B A M)
  (F:L.length+M.length<=1000000) (b:base<=w.heap.size)
  (h:∀j w',w'.ownsRow base 53 14 j (L++M).length (dH (L++M))->Below base w w'->wpList prog ops Q rest (a.put o.dst j) w'):wpList prog ops Q (o::rest) a w:=by
 obtain⟨q,p,m,n,k⟩:=V7 Dy;refine iK w l s x 132 r base 53 q (.agg #[.int .i64 0,.int .u64 0,.int .u64 0,.int .u64 0,.int .u64 0,.int .u64 0,.int .u64 0,.int .u64 0,.int .u8 0,.int .u64 0,.int .i64 0,.int .i64 0,.int .u64 0,.int .u64 0]) 14 112 underlying132 p m n k rfl (by decide) v L.length (dH L) D f B A M.length c (dH M) E t ?_ ?_ ?_ b ?_
 ·intro y i
  unfold dH at i;obtain⟨v,_,i⟩:=List.mem_flatMap.1 i;simp only[lI,Vy,WM,WR]at i;rcases i with rfl|rfl|rfl|rfl|rfl|rfl|rfl|rfl|rfl|rfl|rfl|rfl|rfl|rfl<;>rfl
 ·unfold maxLen;omega
 ·omega
 ·intro j w' d C
  refine h j w' ?_ C;rw[qX,Vl];exact d
section
variable(ρ:Yx->Yv)(dst:Option Tmp)(x y:Yx)(ty:Yw)(pos:String)(after:Array Edge)(guard:Option (Nat×Bool))
@[go_sem ↓] theorem Fv:execOp ρ {dst,op:=.buildSlice 132 1 #[(0,x)],type:=ty,pos,after,guard}=iJ 132 (ρ x):=by simp[execOp,iJ]
@[go_sem ↓] theorem Fx:execOp ρ {dst,op:=.buildSlice 132 0 #[],type:=ty,pos,after,guard}=Fz 132:=jq ..
end
@[go_sem] theorem J8(e:Ev)(w:Yu):(iJ 132 (.agg (ao e))).run prog w=.ok (.value (.slice (some ⟨w.heap.size,0,none⟩) 1 1)) (w.alloc (.cells (ao e) 53)):=by kernel_rfl
@[go_sem] theorem Ka(w:Yu):(Fz 132).run prog w=.ok (.value (.slice (some ⟨w.heap.size,0,none⟩) 0 0)) (w.alloc (.cells #[] 53)):=by kernel_rfl
theorem xy:(prog.info? 5).map (λi=>(i.zero,i.size,i.bytes))=some (some (.int .u8 0),1,1):=by kernel_rfl
theorem dW(w:Yu)(k:o.guard=none)(s x:Yx)
  (r:o.op=.call {callee:=.builtin .append,args:=#[s,x],argTypes:=#[121,121]})
  (base:Nat) (v:Yv) (L M:List Int) (D:a.eval s=v) (f:w.ownsRow base 5 1 v L.length (aU L)) (A:Option Addr) (c B:Nat) (E:a.eval x=.slice A M.length c) (t:gM w B A M)
  (F:L.length+M.length<=1000000000) (b:base<=w.heap.size)
  (h:∀i w',w'.ownsRow base 5 1 i (L++M).length (aU (L++M))->Below base w w'->wpList prog ops Q rest (a.put o.dst i) w'):wpList prog ops Q (o::rest) a w:=by
 obtain⟨q,n,l,m,j⟩:=V7 xy;refine iK w k s x 121 r base 5 q (.int .u8 0) 1 1 underlying121 n l m j rfl (by decide) v L.length (aU L) D f B A M.length c (aU M) E (vU t) ?_ ?_ ?_ b ?_
 ·intro y p
  unfold aU at p;obtain⟨v,_,rfl⟩:=VJ.1 p
  rfl
 ·unfold maxLen;omega
 ·omega
 ·intro i w' d C
  refine h i w' ?_ C;rw[kW,Vl];exact d
theorem kE(w:Yu)(f:o.guard=none)(s x:Yx)
  (k:o.op=.call {callee:=.builtin .append,args:=#[s,x],argTypes:=#[121,121]})
  (base:Nat) (v:Yv) (L:List Int) (y:Int) (m:a.eval s=v) (c:w.ownsRow base 5 1 v L.length (aU L)) (g:Nat) (n:a.eval x=.slice (some ⟨g,0,none⟩) 1 1) (l:ai w g 5 #[.int .u8 y])
  (p:L.length+1<=1000000000) (b:base<=w.heap.size)
  (h:∀j w',w'.ownsRow base 5 1 j (L++[y]).length (aU (L++[y]))->Below base w w'->wpList prog ops Q rest (a.put o.dst j) w'):wpList prog ops Q (o::rest) a w:=
 dW w f s x k base v L [y] m c _ 1 (g+1) n (λ_=>⟨g,0,rfl,by omega,λi x d=>by
  rw[l.cell]
  match i,d with
  |0,d=>simp at d;subst d;rfl⟩) p b h
def lS(l:List Int)(w:Yu)(e:Ending)(w':Yu):Prop:=∃u,e=.returned u/\w'.ownsRow w.heap.size 5 1 u l.length (aU l)/\Ys w w'
theorem mf(x y:Int)(b:0<=y)(c:y<256):bits .or .u64 (x*256%18446744073709551616) y=x*256%18446744073709551616+y:=by
 rw[u64_or _ _ (by omega) (by omega) b (by omega),nat_join 8 _ _ (by omega) (by omega)];omega
theorem Kq(x:Int)(c:0<=x)(b:x<=18446744073709551615):bits .or .u64 (x*256%18446744073709551616) (x/72057594037927936)=zM x:=
 mf x _ (by omega) (by omega)
theorem Cg(x:Int)(c:0<=x)(b:x<=18446744073709551615)(w:Yu):
  Yt 257 #[.int .u64 x,.int .i64 8] w λe w'=>e=.returned (.int .u64 (zM x))/\w=w':=by
 have d:bits .and .u64 8 63=8:=by kernel_rfl
 go_enter func257,ntmps257
 go_wp2
 go_ret;refine⟨sL ?_,rfl⟩;exact Kq x c b
theorem JU(v:av)(S:v.ok)(w:Yu):Yt 236 #[.agg (aq v)] w (lS (g8 v) w):=by
 have P:∀W:Yu,(Instr.makeSlice 121 (.int .i64 0) (.int .i64 48)).run prog W=.ok (.slice (some ⟨W.heap.size,0,none⟩) 0 48) (W.alloc (.cells (Array.replicate 48 (.int .u8 0)) 5)):=λW=>by kernel_rfl
 go_enter func236,ntmps236;go_wp2_with fail
 go_loopw [3,8] (λo i wr=>∃k:Nat,k<=6/\i=.int .i64 k/\wr.ownsRow w.heap.size 5 1 o ((g8 v).take (8*k)).length (aU ((g8 v).take (8*k)))/\Ys w wr) (λ_ i _=>6-(intOf i).toNat)
 case atStart=>exact⟨0,by omega,rfl,by simpa[aU]using WY (base:=w.heap.size) (size:=1) (e:=5) (w.alloc (.cells (aq v) 34)) (Array.replicate 48 (.int .u8 0)) 48 (by simp) (by decide) (by simp),by go_grown⟩
 case round=>
  obtain⟨k,X,rfl,c,q⟩:=hrel;by_cases d:k<6
  ·obtain⟨A,F⟩:=S k d
   have I:=kP v k d;have N:decide ((k:Int)<6)=true:=by simp;omega
   have r:=U9 (zn v k d);have E:=U9 (zJ (v.get k) A F);generalize v.get k=n at I r E A F;go_wp2_with fail
   go_loopw [3,5,11] (λo x i H=>∃j:Nat,j<=8/\i=.int .i64 j/\x=.int .u64 (cF n j)/\H.ownsRow w.heap.size 5 1 o ((g8 v).take (8*k+j)).length (aU ((g8 v).take (8*k+j)))/\Ys w H) (λ_ _ i _=>8-(intOf i).toNat)
   case atStart=>exact⟨0,by omega,rfl,by rw[E.o],c,q⟩
   case round=>
    obtain⟨j,Y,rfl,rfl,b,h⟩:=hrel;clear c q;by_cases f:j<8
    ·obtain⟨L,J⟩:=pw n j
     have D:=U9 (zK n j f);have G:=U9 (zL n j f);have K:=U9 (ws n j f);have s:=h.size;have c1:=Cg (cF n j) L J;rw[D.o]at c1;obtain⟨M,s1⟩:=pw n (j+1);generalize C:cF n (j+1)=x at c1 G D M s1;have T:=U9 C;have O:=U9 c1;have p:((g8 v).take (8*k+j)).length<=48:=by rw[VI,nO];omega
     generalize B:(g8 v).take (8*k+j)=l at b p;have R:=U9 B;clear c1 B C;go_wp2_with (first|(go_at_call 257;(with_reducible refine(O.o _).mono ?_);rintro e V ⟨rfl,rfl⟩)|(at_builtin;refine kE _ rfl (.tmp 15) (.tmp 18) rfl w.heap.size _ l _ rfl (b.alloc _) wr.heap.size rfl (ai.new _ _ _) (by omega) (by simp;omega) ?_;intro U w' m t));go_roundw
     case rel=>
      have e:(g8 v).take (8*k+(j+1))=l++[x%256]:=by
       rw[r.o (j+1) (by omega),K.o,<-Wn,<-r.o j (by omega),R.o,G.o]
      refine⟨j+1,by omega,by go_num,by rw[T.o],?_,(h.alloc s _).trans t⟩;rw[e];exact m
     case measure=>simp[intOf];omega
    ·obtain rfl:j=8:=by omega
     go_wp2_with fail;go_roundw
     case rel=>exact⟨k+1,by omega,by go_num,by rw[Nat.mul_succ];exact b,h⟩
     case measure=>simp[intOf];omega
  ·obtain rfl:k=6:=by omega
   rw[V4 (by rw[nO];decide)]at c;go_wp2_with fail;go_ret;exact⟨_,rfl,c,q⟩
theorem Gk(bb b o cap:Nat)(l:List Int)(L:l.length=48)(J:48<=cap)(t:cap<=maxLen)(s:∀c∈l,0<=c/\c<=255)(k:Nat)(F:k<6)(w:Yu)
  (K:w.cell? ⟨bb,0,none⟩=some (.slice (some ⟨b,o,none⟩) 48 cap)) (B:∀i x,l[i]? =some x->w.cell? ⟨b,o+i,none⟩=some (.int .u8 x)):
  Yt 85 #[.int .i64 k,Yr bb] w λe w'=>e=.returned (.int .u64 ((wh l).get k))/\w=w':=by
 unfold maxLen at t;have r:(k:Int)*8=((8*k:Nat):Int):=by omega
 have q:¬cap=8*k:=by omega
 have h:(wh l).get k=bW ((l.drop (8*k)).take 8):=by rw[wh,av.get_ofFn _ k F]
 have HO:=U9 h;have H:=U9 B;clear h B;obtain⟨m,A⟩:∃m,m=8*k:=⟨_,rfl⟩;rw[<-A]at r q;have G:m<=40:=by omega
 have E:=U9 A;clear A;go_enter func85,ntmps85;go_wp2_with fail
 go_loop [3,12] (λn i=>∃j:Nat,j<=8/\i=.int .i64 j/\n=.int .u64 (bW ((l.drop m).take j))) (λ_ i=>8-(intOf i).toNat)
 case atStart=>exact⟨0,by omega,rfl,rfl⟩
 case round=>
  obtain⟨j,M,rfl,rfl⟩:=hrel;by_cases D:j<8
  ·obtain⟨x,p⟩:∃x,l[m+j]? =some x:=⟨l[m+j]'(by omega),Ve (by omega)⟩
   have f:=H.o _ x p;rw[<-VO]at f;obtain⟨C,x1⟩:=s x (Vn p);have d:=U9 (km (l.drop m) j x (by rw[Wb];exact p));have v:=mf (bW ((l.drop m).take j)) x C (by omega);generalize bW ((l.drop m).take j)=n at d v;have I:IntKind.u64.wrap (n*256)=n*256%18446744073709551616:=WW _;clear p
   go_wp2
   go_round
   case rel=>exact⟨j+1,by omega,by go_num,by rw[d.o]⟩
   case measure=>simp[intOf];omega
  ·obtain rfl:j=8:=by omega
   go_wp2
   go_ret;exact⟨sL (by rw[HO.o,E.o]),rfl⟩
theorem xS{B:Nat}{a:Yu}(h:Below B a w){d:Nat}(b:B<=d)(c x1 x2 x3 f i:Yv):
  Below B a ((((((w.setCell ⟨d,0,none⟩ c).setCell ⟨d,1,none⟩ x1).setCell ⟨d,2,none⟩ x2).setCell ⟨d,3,none⟩ x3).setCell ⟨d,4,none⟩ f).setCell ⟨d,5,none⟩ i):=
 (((((h.setCell (p:=⟨d,0,none⟩) b _).setCell (p:=⟨d,1,none⟩) b _).setCell (p:=⟨d,2,none⟩) b _).setCell (p:=⟨d,3,none⟩) b _).setCell (p:=⟨d,4,none⟩) b _).setCell (p:=⟨d,5,none⟩) b _
def qP(l:List Int):av×Int:=if l.length=48/\fV (wh l)=true then(wh l,0)else(av.zero,5)
theorem UE(A:Option Addr)(cap:Nat)(l:List Int)(B:Nat)(w:Yu)(O:gM w B A l)(hB:B<=w.heap.size)(hn:l.length<=cap)(j:cap<=maxLen)(r:∀c∈l,0<=c/\c<=255):
  Yt 71 #[.slice A l.length cap] w λe w'=>e=.returned (.tuple #[.agg (aq (qP l).1),.int .i64 (qP l).2])/\Ys w w':=by
 have α:cap<=9223372036854775807:=j;by_cases f:l.length=48
 ·obtain⟨b,o,rfl,T,S⟩:=O (by rintro rfl;simp at f)
  have hF:∀W g,Ys w W->W.cell? ⟨g,0,none⟩=some (.slice (some ⟨b,o,none⟩) 48 cap)->g<W.heap.size->
    JF 85 [Yr g] (wh l) W:=λW g N V M k X F h=>
   (Gk g b o cap l f (by omega) j r k X F ((h.cell (p:=⟨g,0,none⟩) M).trans V) λi x hx=>
    ((N.trans (h.mono N.size)).cell (p:=⟨b,_,none⟩) (by show b<_;omega)).trans (S i x hx)).mono λe w' ⟨Z,U⟩=>⟨Z,by subst U;exact Vd _ _⟩
  have c1:=NF (wh l);have C:qP l=if fV (wh l)=true then(wh l,0)else(av.zero,5):=by unfold qP;rw[f];simp
  have I:=U9 hF;have n:=U9 C;generalize fV (wh l)=mb at c1 n;generalize wh l=u at c1 n I;have P:=U9 c1;rw[f];clear hF C c1 S O f r;rcases(show mb=false\/mb=true from by cases mb<;>simp)with rfl|rfl
  all_goals
   go_enter func71,ntmps71;go_wp2_with fail;have s:bF w _ _:=((bF.nil w).push (t:=121) (cs:=#[.slice (some ⟨b,o,none⟩) 48 cap]) rfl).push (t:=34) (cs:=aq av.zero) (g:=w.heap.size+1) (by simp);obtain⟨J,-,E,-,-⟩:=s.rules;obtain⟨l1,l0,-⟩:=s.lts;refine(ql _ _ u _ (I.o _ _ s.below (E 0) l0) (Vr (Vr rfl))).mono ?_;rintro e F ⟨rfl,h⟩;have q:=s.call h;clear J E;obtain⟨J,Y,E,-,-⟩:=q.rules;go_wp2_with fail;have hs:=q.lt;have K:=(q.blk _ _ _ Vp).setVec u;have m:Ys w _:=gU (d:=w.heap.size+1) q.below (by omega) u;generalize H:(((((F.setCell _ _).setCell _ _).setCell _ _).setCell _ _).setCell _ _).setCell _ _=w2 at K m⊢;clear H
   (refine(P.o _).mono ?_)
   rintro e w3 ⟨rfl,D⟩;have B3:=K.below D K.lt;have L:=m.trans (D.mono m.size);obtain⟨s1,t1⟩:=B3.rules;clear E J Y;go_wp2_with fail;refine VF (v:=.tuple #[.agg (aq (qP l).1),.int .i64 (qP l).2]) (by rw[n.o];simp[results,results71,go_sem,s1]) rfl ⟨rfl,?_⟩;clear P I n s q;exact xS L (by omega) _ _ _ _ _ _
 ·have C:qP l=(av.zero,5):=by unfold qP;rw[Vf (by simp[f])]
  have n:=U9 C;have G:((l.length:Int)==48)=false:=by rw[Vz];omega
  have R:((l.length:Int) !=48)=true:=by rw[bne,G];rfl
  clear C f;go_enter func71,ntmps71;go_wp2_with fail
  go_returns
  refine⟨by rw[n.o],?_⟩
  go_grown
def dc(n:Int)(sz:Nat):List Int:=(cL n).drop (8-sz)
theorem KK(n:Int):dc n 8=cL n:=rfl
theorem KL(n:Int)(c:0<=n)(b:n<256):dc n 1=[n]:=by
 have:n%256=n:=by omega
 show[n%256]=[n];rw[this]
theorem yi(w:Yu):Yt 83 #[.int .i64 8] w λe w'=>e=.returned (.int .i64 64)/\w=w':=by
 go_enter func83,ntmps83
 go_wp2
 go_ret;exact⟨rfl,rfl⟩
theorem yj(w:Yu):Yt 83 #[.int .i64 1] w λe w'=>e=.returned (.int .i64 8)/\w=w':=by
 go_enter func83,ntmps83
 go_wp2
 go_ret;exact⟨rfl,rfl⟩
theorem pG(n:Int)(sz:Nat)(b:sz<=8)(j:Nat)(h:j<sz):(dc n sz)[j]? =some (aj n (8-sz+j)):=by
 unfold dc;rw[Wb];exact rh n _ (by omega)
theorem qw(n:Int)(sz:Nat)(b:sz<=8)(j:Nat)(h:j<sz)(c:Int)(d:c=8*(sz:Int)-8-8*j):aj n (8-sz+j)=n/2^c.toNat%256:=by
 rw[<-xR n _ (by omega)];congr 3;omega
def kG(l:List Int)(n:Int)(w:Yu)(e:Ending)(w':Yu):Prop:=∃u,e=.returned (.tuple #[u,.int .i64 n])/\w'.ownsRow w.heap.size 5 1 u l.length (aU l)/\Ys w w'
theorem wI(m:Nat)(j:m<=100000000)(k:Nat)(l:k<=100)(W:Yu):(Instr.makeSlice 121 (.int .i64 0) (.int .i64 ((m:Int)+(k:Int)))).run prog W=.ok (.slice (some ⟨W.heap.size,0,none⟩) 0 (m+k)) (W.alloc (.cells (madeCells #[.int .u8 0] (m+k)) 5)):=by
 obtain⟨i,f,c,d,b⟩:=V7 xy;have h:=run_make (P:=prog) W 121 5 i _ underlying121 f c .i64 .i64 0 ((m:Int)+k) (by omega) (by omega) (by rw[b];omega) (by omega);rw[d,show(((m:Int)+k).toNat*1)=m+k from by omega,show((m:Int)+k).toNat=m+k from by omega]at h;exact h
theorem Oq(A:Option Addr)(cap:Nat)(l:List Int)(B:Nat)(n:Int)(w:Yu)(F:gM w B A l)(N:B<=w.heap.size)(T:l.length<=cap)(r:cap<=maxLen)(K:l.length<=100000000)(R:0<=n)(h1:n<=18446744073709551615):
  Yt 122 #[.slice A l.length cap,.int .u64 n,.int .i64 8] w (kG (l++dc n 8) 0 w):=by
 have L:=U9 yi;have D:=wI l.length K 8 (by omega);rw[show((8:Nat):Int)=8 from rfl]at D;have I:cap<=9223372036854775807:=r;go_enter func122,ntmps122;go_wp2_with (first|(go_at_call 83;(with_reducible refine(L.o _).mono ?_);rintro e P ⟨rfl,rfl⟩)|(at_builtin;go_loud (refine dW _ rfl (.tmp 24) (.tmp 25) rfl w.heap.size _ [] l rfl ?h1 A cap B rfl ?h2 ?h3 ?h4 ?_;(case h1=>exact WY w _ (l.length+8) (Vc _) (by unfold maxLen;omega) (by rw[size_madeCells,V3]));(case h2=>exact F.below ((Vd _ _).alloc N _));(case h3=>simp;omega);(case h4=>simp);intro G O b h)));rw[V8]at b;have h:=((Vd w.heap.size w).alloc (Vc _) _).trans h;clear F
 go_loopw [8,9] (λi o wr=>∃(j:Nat) (c:Int),j<=8/\c=56-8*(j:Int)/\i=.int .i64 c/\wr.ownsRow w.heap.size 5 1 o (l++(dc n 8).take j).length (aU (l++(dc n 8).take j))/\Ys w wr) (λi _ _=>(intOf i+8).toNat)
 case atStart=>exact⟨0,56,by omega,rfl,rfl,by simpa using b,h⟩
 case round=>
  obtain⟨j,c,M,p,rfl,d,t⟩:=hrel;clear b h;have f:(dc n 8).length=8:=rfl;by_cases k:j<8
  ·have v:=U9 (show(dc n 8).take (j+1)=(dc n 8).take j++[n/2^c.toNat%256]from by rw[VN,pG n 8 (by omega) j k,qw n 8 (by omega) j k c (by omega)];rfl)
   have S:0<=c:=by omega
   have c1:c<=56:=by omega
   have s:(l++(dc n 8).take j).length<=100000008:=by rw[Vl,VI,f];omega
   generalize r:l++(dc n 8).take j=m at d s;have H:=U9 r;have J:=U9 p;have C:=t.size;clear r p f;go_wp2_with (at_builtin;refine kE _ rfl (.tmp 33) (.tmp 38) rfl w.heap.size _ m _ rfl (d.alloc _) wr.heap.size rfl (ai.new _ _ _) (by omega) (by simp;omega) ?_;intro G w' q E);go_roundw
   case rel=>
    have e:l++(dc n 8).take (j+1)=m++[n/2^c.toNat%256]:=by rw[v.o,<-Wn,H.o]
    refine⟨j+1,c-8,by omega,by rw[J.o];omega,rfl,?_,(t.alloc C _).trans E⟩;rw[e];exact q
   case measure=>simp[intOf];omega
  ·obtain rfl:j=8:=by omega
   obtain rfl:c=-8:=by omega
   rw[V4 (by rw[f];exact Vc _)]at d;clear f p k M;go_wp2_with fail;go_ret2;exact⟨_,rfl,d,t⟩
theorem Ou(A:Option Addr)(cap:Nat)(l:List Int)(B:Nat)(n:Int)(w:Yu)(F:gM w B A l)(N:B<=w.heap.size)(T:l.length<=cap)(r:cap<=maxLen)(K:l.length<=100000000)(R:0<=n)(h1:n<=255):
  Yt 122 #[.slice A l.length cap,.int .u64 n,.int .i64 1] w (kG (l++dc n 1) 0 w):=by
 have L:=U9 yj;have D:=wI l.length K 1 (by omega);rw[show((1:Nat):Int)=1 from rfl]at D;have I:cap<=9223372036854775807:=r;go_enter func122,ntmps122;go_wp2_with (first|(go_at_call 83;(with_reducible refine(L.o _).mono ?_);rintro e P ⟨rfl,rfl⟩)|(at_builtin;go_loud (refine dW _ rfl (.tmp 24) (.tmp 25) rfl w.heap.size _ [] l rfl ?h1 A cap B rfl ?h2 ?h3 ?h4 ?_;(case h1=>exact WY w _ (l.length+1) (Vc _) (by unfold maxLen;omega) (by rw[size_madeCells,V3]));(case h2=>exact F.below ((Vd _ _).alloc N _));(case h3=>simp;omega);(case h4=>simp);intro G O b h)));rw[V8]at b;have h:=((Vd w.heap.size w).alloc (Vc _) _).trans h;clear F
 go_loopw [8,9] (λi o wr=>∃(j:Nat) (c:Int),j<=1/\c=0-8*(j:Int)/\i=.int .i64 c/\wr.ownsRow w.heap.size 5 1 o (l++(dc n 1).take j).length (aU (l++(dc n 1).take j))/\Ys w wr) (λi _ _=>(intOf i+8).toNat)
 case atStart=>exact⟨0,0,by omega,rfl,rfl,by simpa using b,h⟩
 case round=>
  obtain⟨j,c,M,p,rfl,d,t⟩:=hrel;clear b h;have f:(dc n 1).length=1:=rfl;by_cases k:j<1
  ·have v:=U9 (show(dc n 1).take (j+1)=(dc n 1).take j++[n/2^c.toNat%256]from by rw[VN,pG n 1 (by omega) j k,qw n 1 (by omega) j k c (by omega)];rfl)
   have S:0<=c:=by omega
   have c1:c<=0:=by omega
   have s:(l++(dc n 1).take j).length<=100000008:=by rw[Vl,VI,f];omega
   generalize r:l++(dc n 1).take j=m at d s;have H:=U9 r;have J:=U9 p;have C:=t.size;clear r p f;go_wp2_with (at_builtin;refine kE _ rfl (.tmp 33) (.tmp 38) rfl w.heap.size _ m _ rfl (d.alloc _) wr.heap.size rfl (ai.new _ _ _) (by omega) (by simp;omega) ?_;intro G w' q E);go_roundw
   case rel=>
    have e:l++(dc n 1).take (j+1)=m++[n/2^c.toNat%256]:=by rw[v.o,<-Wn,H.o]
    refine⟨j+1,c-8,by omega,by rw[J.o];omega,rfl,?_,(t.alloc C _).trans E⟩;rw[e];exact q
   case measure=>simp[intOf];omega
  ·obtain rfl:j=1:=by omega
   obtain rfl:c=-8:=by omega
   rw[V4 (by rw[f];exact Vc _)]at d;clear f p k M;go_wp2_with fail;go_ret2;exact⟨_,rfl,d,t⟩
theorem Km(b o cap:Nat)(l:List Int)(d:Nat)(w:Yu)(t:∀i x,l[i]? =some x->w.cell? ⟨b,o+i,none⟩=some (.int .u8 x))(I:l.length<=cap)(E:cap<=maxLen)(q:∀c∈l,0<=c/\c<=255)(h:d+8<=l.length):
  Yt 70 #[.slice (some ⟨b,o,none⟩) l.length cap,.int .i64 d,.int .i64 8] w λe w'=>e=.returned (.tuple #[.int .u64 (bW ((l.drop d).take 8)),.int .i64 ((d:Int)+8),.int .i64 0])/\w=w':=by
 have D:=U9 yi;have B:cap<=9223372036854775807:=E;have A:¬cap=d:=by omega
 have C:=U9 t;clear t;go_enter func70,ntmps70;go_wp2_with (go_at_call 83;(with_reducible refine(D.o _).mono ?_);rintro e H ⟨rfl,rfl⟩);have s:((l.drop d).take 8).length=8:=by rw[VI,VS];omega
 go_loop [6,36] (λn i=>∃j:Nat,j<=8/\i=.int .i64 j/\n=.int .u64 (bW ((l.drop d).take j))) (λ_ i=>8-(intOf i).toNat)
 case atStart=>exact⟨0,by omega,rfl,rfl⟩
 case round=>
  obtain⟨j,F,rfl,rfl⟩:=hrel;clear s;by_cases p:j<8
  ·obtain⟨x,m⟩:∃x,l[d+j]? =some x:=⟨l[d+j]'(by omega),Ve (by omega)⟩
   have k:=C.o _ x m;rw[<-VO]at k;obtain⟨v,x1⟩:=q x (Vn m);have f:=U9 (km (l.drop d) j x (by rw[Wb];exact m));have r:=mf (bW ((l.drop d).take j)) x v (by omega);generalize bW ((l.drop d).take j)=n at f r;have G:IntKind.u64.wrap (n*256)=n*256%18446744073709551616:=WW _;clear m;go_wp2_with fail
   go_round
   case rel=>exact⟨j+1,by omega,by go_num,by rw[f.o]⟩
   case measure=>simp[intOf];omega
  ·obtain rfl:j=8:=by omega
   clear F p;go_wp2_with fail
   go_ret3
   exact⟨rfl,rfl⟩
theorem Ko(b o cap:Nat)(l:List Int)(d:Nat)(w:Yu)(t:∀i x,l[i]? =some x->w.cell? ⟨b,o+i,none⟩=some (.int .u8 x))(I:l.length<=cap)(E:cap<=maxLen)(q:∀c∈l,0<=c/\c<=255)(h:d+1<=l.length):
  Yt 70 #[.slice (some ⟨b,o,none⟩) l.length cap,.int .i64 d,.int .i64 1] w λe w'=>e=.returned (.tuple #[.int .u64 (bW ((l.drop d).take 1)),.int .i64 ((d:Int)+1),.int .i64 0])/\w=w':=by
 have D:=U9 yj;have B:cap<=9223372036854775807:=E;have A:¬cap=d:=by omega
 have C:=U9 t;clear t;go_enter func70,ntmps70;go_wp2_with (go_at_call 83;(with_reducible refine(D.o _).mono ?_);rintro e H ⟨rfl,rfl⟩);have s:((l.drop d).take 1).length=1:=by rw[VI,VS];omega
 go_loop [6,36] (λn i=>∃j:Nat,j<=1/\i=.int .i64 j/\n=.int .u64 (bW ((l.drop d).take j))) (λ_ i=>1-(intOf i).toNat)
 case atStart=>exact⟨0,by omega,rfl,rfl⟩
 case round=>
  obtain⟨j,F,rfl,rfl⟩:=hrel;clear s;by_cases p:j<1
  ·obtain⟨x,m⟩:∃x,l[d+j]? =some x:=⟨l[d+j]'(by omega),Ve (by omega)⟩
   have k:=C.o _ x m;rw[<-VO]at k;obtain⟨v,x1⟩:=q x (Vn m);have f:=U9 (km (l.drop d) j x (by rw[Wb];exact m));have r:=mf (bW ((l.drop d).take j)) x v (by omega);generalize bW ((l.drop d).take j)=n at f r;have G:IntKind.u64.wrap (n*256)=n*256%18446744073709551616:=WW _;clear m;go_wp2_with fail
   go_round
   case rel=>exact⟨j+1,by omega,by go_num,by rw[f.o]⟩
   case measure=>simp[intOf];omega
  ·obtain rfl:j=1:=by omega
   clear F p;go_wp2_with fail
   go_ret3
   exact⟨rfl,rfl⟩
theorem ss(w:Yu):Yt 83 #[.int .i64 4] w λe w'=>e=.returned (.int .i64 32)/\w=w':=by
 go_enter func83,ntmps83
 go_wp2
 go_ret;exact⟨rfl,rfl⟩
theorem Ot(A:Option Addr)(cap:Nat)(l:List Int)(B:Nat)(n:Int)(w:Yu)(F:gM w B A l)(N:B<=w.heap.size)(T:l.length<=cap)(r:cap<=maxLen)(K:l.length<=100000000)(R:0<=n)(h1:n<=4294967295):
  Yt 122 #[.slice A l.length cap,.int .u64 n,.int .i64 4] w (kG (l++dc n 4) 0 w):=by
 have L:=U9 ss;have D:=wI l.length K 4 (by omega);rw[show((4:Nat):Int)=4 from rfl]at D;have I:cap<=9223372036854775807:=r;go_enter func122,ntmps122;go_wp2_with (first|(go_at_call 83;(with_reducible refine(L.o _).mono ?_);rintro e P ⟨rfl,rfl⟩)|(at_builtin;go_loud (refine dW _ rfl (.tmp 24) (.tmp 25) rfl w.heap.size _ [] l rfl ?h1 A cap B rfl ?h2 ?h3 ?h4 ?_;(case h1=>exact WY w _ (l.length+4) (Vc _) (by unfold maxLen;omega) (by rw[size_madeCells,V3]));(case h2=>exact F.below ((Vd _ _).alloc N _));(case h3=>simp;omega);(case h4=>simp);intro G O b h)));rw[V8]at b;have h:=((Vd w.heap.size w).alloc (Vc _) _).trans h;clear F
 go_loopw [8,9] (λi o wr=>∃(j:Nat) (c:Int),j<=4/\c=24-8*(j:Int)/\i=.int .i64 c/\wr.ownsRow w.heap.size 5 1 o (l++(dc n 4).take j).length (aU (l++(dc n 4).take j))/\Ys w wr) (λi _ _=>(intOf i+8).toNat)
 case atStart=>exact⟨0,24,by omega,rfl,rfl,by simpa using b,h⟩
 case round=>
  obtain⟨j,c,M,p,rfl,d,t⟩:=hrel;clear b h;have f:(dc n 4).length=4:=rfl;by_cases k:j<4
  ·have v:=U9 (show(dc n 4).take (j+1)=(dc n 4).take j++[n/2^c.toNat%256]from by rw[VN,pG n 4 (by omega) j k,qw n 4 (by omega) j k c (by omega)];rfl)
   have S:0<=c:=by omega
   have c1:c<=24:=by omega
   have s:(l++(dc n 4).take j).length<=100000008:=by rw[Vl,VI,f];omega
   generalize r:l++(dc n 4).take j=m at d s;have H:=U9 r;have J:=U9 p;have C:=t.size;clear r p f;go_wp2_with (at_builtin;refine kE _ rfl (.tmp 33) (.tmp 38) rfl w.heap.size _ m _ rfl (d.alloc _) wr.heap.size rfl (ai.new _ _ _) (by omega) (by simp;omega) ?_;intro G w' q E);go_roundw
   case rel=>
    have e:l++(dc n 4).take (j+1)=m++[n/2^c.toNat%256]:=by rw[v.o,<-Wn,H.o]
    refine⟨j+1,c-8,by omega,by rw[J.o];omega,rfl,?_,(t.alloc C _).trans E⟩;rw[e];exact q
   case measure=>simp[intOf];omega
  ·obtain rfl:j=4:=by omega
   obtain rfl:c=-8:=by omega
   rw[V4 (by rw[f];exact Vc _)]at d;clear f p k M;go_wp2_with fail;go_ret2;exact⟨_,rfl,d,t⟩
theorem Kn(b o cap:Nat)(l:List Int)(d:Nat)(w:Yu)(t:∀i x,l[i]? =some x->w.cell? ⟨b,o+i,none⟩=some (.int .u8 x))(I:l.length<=cap)(E:cap<=maxLen)(q:∀c∈l,0<=c/\c<=255)(h:d+4<=l.length):
  Yt 70 #[.slice (some ⟨b,o,none⟩) l.length cap,.int .i64 d,.int .i64 4] w λe w'=>e=.returned (.tuple #[.int .u64 (bW ((l.drop d).take 4)),.int .i64 ((d:Int)+4),.int .i64 0])/\w=w':=by
 have D:=U9 ss;have B:cap<=9223372036854775807:=E;have A:¬cap=d:=by omega
 have C:=U9 t;clear t;go_enter func70,ntmps70;go_wp2_with (go_at_call 83;(with_reducible refine(D.o _).mono ?_);rintro e H ⟨rfl,rfl⟩);have s:((l.drop d).take 4).length=4:=by rw[VI,VS];omega
 go_loop [6,36] (λn i=>∃j:Nat,j<=4/\i=.int .i64 j/\n=.int .u64 (bW ((l.drop d).take j))) (λ_ i=>4-(intOf i).toNat)
 case atStart=>exact⟨0,by omega,rfl,rfl⟩
 case round=>
  obtain⟨j,F,rfl,rfl⟩:=hrel;clear s;by_cases p:j<4
  ·obtain⟨x,m⟩:∃x,l[d+j]? =some x:=⟨l[d+j]'(by omega),Ve (by omega)⟩
   have k:=C.o _ x m;rw[<-VO]at k;obtain⟨v,x1⟩:=q x (Vn m);have f:=U9 (km (l.drop d) j x (by rw[Wb];exact m));have r:=mf (bW ((l.drop d).take j)) x v (by omega);generalize bW ((l.drop d).take j)=n at f r;have G:IntKind.u64.wrap (n*256)=n*256%18446744073709551616:=WW _;clear m;go_wp2_with fail
   go_round
   case rel=>exact⟨j+1,by omega,by go_num,by rw[f.o]⟩
   case measure=>simp[intOf];omega
  ·obtain rfl:j=4:=by omega
   clear F p;go_wp2_with fail
   go_ret3
   exact⟨rfl,rfl⟩
theorem sP(A:Option Addr)(n cap b:Nat)(w:Yu)(k:n<=cap)(c:cap<=maxLen)(h:n<b+4)(i:b<=n):
  Yt 70 #[.slice A n cap,.int .i64 b,.int .i64 4] w λe w'=>e=.returned (.tuple #[.int .u64 0,.int .i64 0,.int .i64 5])/\w=w':=by
 have d:=U9 ss;have f:cap<=9223372036854775807:=c;go_enter func70,ntmps70;go_wp2_with (go_at_call 83;(with_reducible refine(d.o _).mono ?_);rintro e j ⟨rfl,rfl⟩)
 go_ret3
 exact⟨rfl,rfl⟩
def tH(w:Yu)(e:Ending)(w':Yu):Prop:=∃n,e=.returned (.int .u32 n)/\0<=n/\n<=4294967295/\w=w'
theorem iO(n:Int):0<=IntKind.u32.wrap n/\IntKind.u32.wrap n<=4294967295:=by
 rw[IntKind.wrap_u32];omega
theorem lV(op:BinOp)(x y:Int):0<=bits op .u32 x y/\bits op .u32 x y<=4294967295:=iO _
theorem PZ(s:Int)(f:0<=s)(d:s<=4294967295)(w:Yu):Yt 121 #[.int .u32 s] w (tH w):=by
 go_enter func121,ntmps121;go_wp2_with fail
 go_loop [0,3] (λx i=>∃(j:Nat) (n:Int),j<=8/\i=.int .i64 j/\x=.int .u32 n/\0<=n/\n<=4294967295) (λ_ i=>8-(intOf i).toNat)
 case atStart=>exact⟨0,s,by omega,rfl,rfl,f,d⟩
 case round=>
  obtain⟨j,n,k,rfl,rfl,h,c⟩:=hrel;by_cases b:j<8
  ·go_wp2_with fail
   go_round
   case rel=>exact⟨j+1,_,by omega,by go_num,rfl,(lV _ _ _).1,(lV _ _ _).2⟩
   case measure=>simp[intOf];omega
  ·obtain rfl:j=8:=by omega
   go_wp2_with fail;go_ret;exact⟨n,rfl,h,c,rfl⟩
theorem yZ(A:Option Addr)(c:Nat)(l:List Int)(s:Int)(w:Yu)(k:gM w w.heap.size A l)(L:l.length<=c)(B:c<=maxLen)(F:0<=s)(H:s<=4294967295):
  Yt 105 #[.int .u32 s,.slice A l.length c] w (tH w):=by
 have t:=U9 k;have q:c<=9223372036854775807:=B;clear k;go_enter func105,ntmps105;go_wp2_with fail
 go_loop [5,12] (λx i=>∃(j:Nat) (n:Int),j<=l.length/\i=.int .i64 j/\x=.int .u32 n/\0<=n/\n<=4294967295) (λ_ i=>l.length-(intOf i).toNat)
 case atStart=>exact⟨0,_,by omega,rfl,rfl,(iO _).1,(iO _).2⟩
 case round=>
  obtain⟨j,n,J,rfl,rfl,I,K⟩:=hrel;by_cases f:j<l.length
  ·obtain⟨b,o,rfl,G,d⟩:=t.o (λh=>by rw[h]at f;simp at f)
   obtain⟨y,p⟩:∃y,l[j]? =some y:=⟨l[j],Ve f⟩;have D:=d j y p;clear d p;have C:=U9 (λx=>PZ (bits .xor .u32 n x) (lV _ _ _).1 (lV _ _ _).2 w);go_wp2_with fail;refine(C.o _).mono ?_;rintro e E ⟨m,rfl,r,v,rfl⟩;go_wp2_with fail
   go_round
   case rel=>exact⟨j+1,m,by omega,by go_num,rfl,r,v⟩
   case measure=>simp[intOf];omega
  ·obtain rfl:j=l.length:=by omega
   go_wp2_with fail;go_ret;exact⟨_,rfl,(iO _).1,(iO _).2,rfl⟩
theorem MC(A:Option Addr)(c:Nat)(l:List Int)(w:Yu)(d:gM w w.heap.size A l)(i:l.length<=c)(b:c<=maxLen):
  Yt 106 #[.slice A l.length c] w (tH w):=by
 have C:=U9 (yZ A c l 0 w d i b (by omega) (by omega));have j:c<=9223372036854775807:=b;clear d;go_enter func106,ntmps106;go_wp2_with fail;refine C.o.mono ?_;rintro e k ⟨m,rfl,f,h,rfl⟩;go_wp2_with fail;go_ret;exact⟨_,rfl,f,h,rfl⟩
end
