import Derived.Test.YtghdobdjfnimmaaGreatDoorZ21
import Derived.Test.YtghdobdjfnimmaaGreatDoorZ22
set_option maxRecDepth 100000
set_option maxHeartbeats 0
set_option linter.all false
namespace Go.Proofs.YtghdobdjfnimmaaGreatDoor
open Go.Proofs.Tryz
variable{w:Yu}{base k b c B cap g:Nat}{kn:av}{f:Nat->Int}{v vN vG:Yv}{t:Yw}{A:Option Addr}{inn:Nat->Bool}{i node:Int}{N:List Nd}
section
open Go.RowKit Go
def wg(f:Nat->Int):Array Yv:=((List.range 36).map λi=>Value.int .u64 (f i)).toArray
theorem eI(f:Nat->Int):(wg f).size=36:=by simp[wg]
theorem eN(f:Nat->Int)(k:Nat)(h:k<36):(wg f)[k]? =some (.int .u64 (f k)):=by
 simp[wg,h]
def pv(f:Nat->Int)(k:Nat):av:=⟨f (k*6),f (k*6+1),f (k*6+2),f (k*6+3),f (k*6+4),f (k*6+5)⟩
def uu(f:Nat->Int)(k:Nat)(v:av):Nat->Int:=λi=>if k*6<=i/\i<k*6+6 then v.get (i-k*6)else f i
def xY(f:Nat->Int):Prop:=∀i,i<36->aT (f i)
theorem Ci(f:Nat->Int)(k j:Nat)(h:j<6):(pv f k).get j=f (k*6+j):=av.six (P:=λj=>(pv f k).get j=f (k*6+j)) rfl rfl rfl rfl rfl rfl j h
theorem Om(h:xY f)(d:k<6):(pv f k).ok:=λj a=>by
 rw[Ci f k j a];exact h _ (by omega)
theorem rk(v:av)(j:Nat)(h:j<6):(aq v)[j]? =some (.int .u64 (v.get j)):=av.six (P:=λj=>(aq v)[j]? =some (.int .u64 (v.get j))) rfl rfl rfl rfl rfl rfl j h
theorem Ge(h:xY f){v:av}(a:v.ok):xY (uu f k v):=λi d=>by
 unfold uu;split
 ·exact a _ (by omega)
 ·exact h i d
theorem Gc(h:ai w b t (wg f))(e:k<6):zg w b (k*6) (aq (pv f k)):=λj u a=>by
 have d:j<6:=by have:=(Vv.1 a).1;simpa[aq]using this
 rw[rk _ j d,Ci f k j d]at a;rw[h.cell,eN _ _ (by omega)];exact a
theorem Gd(f:Nat->Int)(j:k<6)(v:av):((wg f).toList.take (k*6)++(aq v).toList++(wg f).toList.drop (k*6+(aq v).size)).toArray=wg (uu f k v):=by
 have a:(aq v).size=6:=rfl;apply Array.ext_getElem?;intro i;rw[List.getElem?_toArray];by_cases h:i<k*6
 ·rw[V0 (by simp[eI,a];omega),V0 (by simp[eI];omega),VU,Vh h,VK,eN _ _ (by omega),eN _ _ (by omega)]
  unfold uu;rw[Vf (by omega)]
 ·by_cases m:i<k*6+6
  ·rw[V0 (by simp[eI,a];omega),VY (by simp[eI];omega),VK]
   have e:(List.take (k*6) (wg f).toList).length=k*6:=by simp[eI];omega
   rw[e,rk _ _ (by omega),eN _ _ (by omega)];unfold uu;rw[Vh (by omega)]
  ·rw[VY (by simp[eI,a];omega)]
   have e:(List.take (k*6) (wg f).toList++(aq v).toList).length=k*6+6:=by simp[eI,a];omega
   rw[e,Wb,VK,a,show k*6+6+(i-(k*6+6))=i from by omega];by_cases d:i<36
   ·rw[eN _ _ d,eN _ _ d]
    unfold uu;rw[Vf (by omega)]
   ·rw[VP (by rw[eI];omega),VP (by rw[eI];omega)]
theorem kh(v:av):(prog.info? 34).map (·.size)=some (aq v).size:=by rw[show(aq v).size=6 from rfl];kernel_rfl
theorem BB(v:av):(aq v).all (·.oneCell')=true:=by simp[aq,Value.oneCell']
abbrev Ni(w:Yu)(b:Nat)(f:Nat->Int):Prop:=ai w b 191 (wg f)
section
variable(ρ:Yx->Yv)(dst:Option Tmp)(x y z u:Yx)(ty:Yw)(pos:String)(after:Array Edge)(guard:Option (Nat×Bool))
theorem cI:execOp ρ {dst,op:=.load 34 x,type:=ty,pos,after,guard}=dR 34 (ρ x):=by simp[execOp,dR]
end
theorem O2(h:ai w b t (wg f))(a:k<6):(dR 34 (.pointer (some ⟨b,k*6,none⟩))).run prog w=.ok (.value (.agg (aq (pv f k)))) w:=aY (Gc h a) underlying34 rfl (kh _)
theorem O0{v:av}(h:ai w b t (aq v)):(dR 34 (Yr b)).run prog w=.ok (.value (.agg (aq v))) w:=dG h underlying34 rfl (kh _)
theorem vn(j:Int)(b:Bool)(a:cB j=b)(w:Yu):Yt 244 #[.int .i64 j] w λr w'=>r=.returned (.bool b)/\Ys w w':=by
 unfold cB at a;obtain⟨b1,d⟩:∃x,decide (1<=j)=x:=⟨_,rfl⟩;obtain⟨b2,e⟩:∃x,decide (j<=6)=x:=⟨_,rfl⟩;rw[d,e]at a;subst a;go_enter func244,ntmps244;cases b1
 ·go_wp2_with fail
  go_ret;exact⟨rfl,Vd _ _⟩
 ·cases b2
  ·go_wp2_with fail
   go_ret;exact⟨rfl,Vd _ _⟩
  ·go_wp2_with fail
   go_ret;exact⟨rfl,Vd _ _⟩
theorem Pj(w:Yu):Yt 39 #[] w λr w'=>r=.returned (Yr w.heap.size)/\Ni w' w.heap.size (λ_=>0)/\Ys w w':=by
 go_enter func39,ntmps39;go_wp2_with fail;go_ret;exact⟨rfl,ai.new _ _ _,(Vd _ _).alloc (Vc _) _⟩
def JB(a b:av)(w:Yu)(u:Yv)(w':Yu):Prop:=∃g,u=.slice (some ⟨g,0,none⟩) 2 2/\w.heap.size<=g/\ai w' g 34 #[.int .u64 a.v0,.int .u64 a.v1,.int .u64 a.v2,.int .u64 a.v3,.int .u64 a.v4,.int .u64 a.v5,.int .u64 b.v0,.int .u64 b.v1,.int .u64 b.v2,.int .u64 b.v3,.int .u64 b.v4,.int .u64 b.v5]
theorem BD{a b:av}(h:ai w g t #[.int .u64 a.v0,.int .u64 a.v1,.int .u64 a.v2,.int .u64 a.v3,.int .u64 a.v4,.int .u64 a.v5,.int .u64 b.v0,.int .u64 b.v1,.int .u64 b.v2,.int .u64 b.v3,.int .u64 b.v4,.int .u64 b.v5]):qC w w.heap.size (some ⟨g,0,none⟩) [a,b]:=λ_=>
 ⟨g,0,rfl,h.lt,λi v d j e=>by
  rw[h.cell]
  match i,d with
  |0,d=>
   obtain rfl:a=v:=by simpa using d
   exact av.six (P:=λj=>(#[Value.int .u64 a.v0,.int .u64 a.v1,.int .u64 a.v2,.int .u64 a.v3,.int .u64 a.v4,.int .u64 a.v5,.int .u64 b.v0,.int .u64 b.v1,.int .u64 b.v2,.int .u64 b.v3,.int .u64 b.v4,.int .u64 b.v5]:Array Yv)[0+0*6+j]? =some (.int .u64 (a.get j))) rfl rfl rfl rfl rfl rfl j e
  |1,d=>
   obtain rfl:b=v:=by simpa using d
   exact av.six (P:=λj=>(#[Value.int .u64 a.v0,.int .u64 a.v1,.int .u64 a.v2,.int .u64 a.v3,.int .u64 a.v4,.int .u64 a.v5,.int .u64 b.v0,.int .u64 b.v1,.int .u64 b.v2,.int .u64 b.v3,.int .u64 b.v4,.int .u64 b.v5]:Array Yv)[0+1*6+j]? =some (.int .u64 (b.get j))) rfl rfl rfl rfl rfl rfl j e
  |n+2,d=>simp at d⟩
theorem Du{a b:av}(h:a.ok)(j:b.ok):(av.foldV max [a,b]).ok:=by
 rw[AM];refine λk d=>?_
 have n:=h k d;have m:=j k d;have e:(av.map2 max a b).get k=max (a.get k) (b.get k):=av.six (P:=λk=>(av.map2 max a b).get k=max (a.get k) (b.get k)) rfl rfl rfl rfl rfl rfl k d;rw[e];omega
theorem Pg(h:Ni w b f)(Y:xY f)(L:k<6){v:av}(hv:v.ok):Yt 226 #[Yr b,.int .i64 ((k:Int)+1),.agg (aq v)] w λr w'=>(∃n,r=.returned (.int .i64 n))/\(∃Z,Ni w' b Z/\xY Z)/\ah (cj b) w w':=by
 have D0:Ys w (w.alloc (.cells (aq v) 34)):=(Vd _ _).alloc (Vc _) _;have V:aD (w.alloc (.cells (aq v) 34)) [(w.heap.size,34,aq v),(b,191,wg f)]:=(aD.cons h aD.nil).push rfl;have CR:=U9 (λX=>vn ((k:Int)+1) true (by unfold cB;simp;omega) X);have C:=U9 (Vb V (Vb D0 (Vb Y hv)));have J:IntKind.i64.wrap (k:Int)=(k:Int):=VE _ (by omega);have H:(0:Int)<=(k:Int):=by omega
 have I:(k:Int)<6:=by omega
 clear h D0 V Y hv;go_enter func226,ntmps226;go_wp2_with fail;refine(CR.o _).mono ?_;rintro r E ⟨rfl,s⟩;have q:=C.o.1.call s;have T:=C.o.2.1.trans (s.mono C.o.2.1.size);have P:=U9 (Vb q T);have K:=U9 (λ(X:Yu) (j:ah cM E X)=>Vb (q.call j.no).rules.1 (Vb (q.call j.no).rules.2.2.1 (Vb (q.call j.no).lts (Vb (O0 (q.call j.no).head) (O2 (q.call j.no).drop.head L)))));clear s q T CR;go_wp2_with fail;refine eO 16 [] cM 17 (λ_ h=>h.elim) (by kernel_rfl) (by simp) (by decide+kernel) (by kernel_rfl) (by decide+kernel) (by kernel_rfl) ?_;simp only[U4,U5,U6,U7]
 iterate 11
  first
  |refine bT rfl ?_;apply aA
   ·intro _ ρ e d a W j;have M:=K.o W j;simp[execOp,go_sem,e,d,a,M,↓cI,J,H,I]<;>exact rfl
  |refine al (λ_=>rfl) ?_
  |refine bM (by kernel_rfl) rfl ?_;apply aA
   ·intro u ρ e d a w;simp[execOp,go_sem,e,d,a,↓cI,J,H,I]<;>exact rfl
  simp only[UW,UX,UY,UZ]
 refine nh (λ_=>rfl) (Vm rfl) (λp:Nat=>.slice (some ⟨p,0,none⟩) 2 2) 0 (JB (pv f k) v) (λu X _=>⟨X.heap.size,_,by simp[execOp,go_sem]<;>rfl,⟨_,rfl,Vc _,ai.new _ _ _⟩,(Vd _ _).alloc (Vc _) _⟩) ?_;simp only[UW,UX,UY,UZ];refine vh (λ_=>rfl) (Vm rfl) 11 (by decide) (VZ rfl) 123 (λu=>#[.slice (some ⟨u.2,0,none⟩) 2 2]) (.agg (aq (av.foldV max [pv f k,v]))) (λ_ w=>by simp[execOp,go_sem]<;>rfl) (λu=>.slice (some ⟨u.2,0,none⟩) 2 2) _ (λ_=>by repeat (first|exact Vs ⟨rfl,rfl,rfl⟩|apply Vr)) (λu X j hR=>?ca) ?_
 case ca=>
  simp only[U0,U1,U2,U3,Nat.reduceAdd,Vk]at hR;obtain⟨G,Q,-,g2,⟨g,m,-,O⟩,g4⟩:∃G Q,(11=17->Ys E G)/\ah cM E G/\JB (pv f k) v G (.slice (some ⟨u.2,0,none⟩) 2 2) Q/\cR [] (λk=>11≠17/\cM k) E.heap.size Q X:=hR;injection m with m _ _;injection m with m;injection m with m _ _;subst m;exact uZ _ _ [pv f k,v] _ X (BD (O.call (g4.below λ_ h=>h.2))) (Vc _) (by simp) (by unfold maxLen;omega)
 simp only[UW,UX,UY,UZ]
 iterate 3
  first
  |refine bT rfl ?_;apply aA
   ·intro _ ρ e d a W j;have M:=K.o W j;simp[execOp,go_sem,e,d,a,M,↓cI,J,H,I]<;>exact rfl
  |refine al (λ_=>rfl) ?_
  |refine bM (by kernel_rfl) rfl ?_;apply aA
   ·intro u ρ e d a w;simp[execOp,go_sem,e,d,a,↓cI,J,H,I]<;>exact rfl
  simp only[UW,UX,UY,UZ]
 refine aK (by kernel_rfl) ?_;rintro⟨_,p⟩ W2 D-;have D:Ys E W2:=D;have R:=P.o.1.call D;have U:=P.o.2.trans (D.mono P.o.2.size);have hj:=Du (Om C.o.2.2.1 L) C.o.2.2.2;refine mU rfl _ _ _ rfl b (k*6) (aq (av.foldV max [pv f k,v])) rfl rfl _ _ R.drop.head (kh _) (by rw[eI];show k*6+6<=36;omega) (BB _) ?_;rw[Gd f L];have S:=U9 (Vb (ax R.drop.head (wg (uu f k (av.foldV max [pv f k,v])))) (Vb (Ge (k:=k) C.o.2.2.1 hj) ((ah.of_below U).trans (ah.of_fr1 (F:=cj b) (aM W2 b (wg (uu f k (av.foldV max [pv f k,v])))) rfl))));clear D R U hj K;go_wp2_with fail;go_ret;exact⟨⟨_,rfl⟩,⟨_,S.o.1,S.o.2.1⟩,S.o.2.2⟩
theorem UJ(h:Ni w b f)(H:k<6):Yt 167 #[Yr b,.int .i64 ((k:Int)+1)] w λr w'=>r=.returned (.agg (aq (pv f k)))/\Ys w w':=by
 have p:Ys w (w.alloc (.cells (aq av.zero) 34)):=(Vd _ _).alloc (Vc _) _;have n:aD (w.alloc (.cells (aq av.zero) 34)) [(w.heap.size,34,aq av.zero),(b,191,wg f)]:=(aD.cons h aD.nil).push rfl;have q:=U9 (λX=>vn ((k:Int)+1) true (by unfold cB;simp;omega) X);have e:=U9 (Vb n p);have R:IntKind.i64.wrap (k:Int)=(k:Int):=VE _ (by omega);have I:(0:Int)<=(k:Int):=by omega
 have P:(k:Int)<6:=by omega
 clear h p n;go_enter func167,ntmps167;go_wp2_with fail;refine(q.o _).mono ?_;rintro r j ⟨rfl,a⟩;have d:=e.o.1.call a;have m:=e.o.2.trans (a.mono e.o.2.size);obtain⟨E,G,J,-,-⟩:=d.rules;obtain⟨O,U,-⟩:=d.lts;have Q:=eN f (k*6) (by omega);have S:=eN f (k*6+1) (by omega);have T:=eN f (k*6+2) (by omega);have K:=eN f (k*6+3) (by omega);have M:=eN f (k*6+4) (by omega);have L:=eN f (k*6+5) (by omega);have C:=U9 (Vb d m);clear q a d m;go_wp2_with fail;have D:ai ((((((j.setCell ⟨w.heap.size,0,none⟩ (.int .u64 (f (k*6)))).setCell ⟨w.heap.size,1,none⟩ (.int .u64 (f (k*6+1)))).setCell ⟨w.heap.size,2,none⟩ (.int .u64 (f (k*6+2)))).setCell ⟨w.heap.size,3,none⟩ (.int .u64 (f (k*6+3)))).setCell ⟨w.heap.size,4,none⟩ (.int .u64 (f (k*6+4)))).setCell ⟨w.heap.size,5,none⟩ (.int .u64 (f (k*6+5)))) w.heap.size 34 (aq (pv f k)):=by
  have h:=(((((C.o.1.head.set_ 0 (.int .u64 (f (k*6)))).set_ 1 (.int .u64 (f (k*6+1)))).set_ 2 (.int .u64 (f (k*6+2)))).set_ 3 (.int .u64 (f (k*6+3)))).set_ 4 (.int .u64 (f (k*6+4)))).set_ 5 (.int .u64 (f (k*6+5)));simpa[aq,pv,av.zero]using h
 have hF:Fr j _ w.heap.size none:=(((((Fr.of_set (w:=j) ⟨w.heap.size,0,none⟩ rfl (.int .u64 (f (k*6)))).set ⟨w.heap.size,1,none⟩ rfl (.int .u64 (f (k*6+1)))).set ⟨w.heap.size,2,none⟩ rfl (.int .u64 (f (k*6+2)))).set ⟨w.heap.size,3,none⟩ rfl (.int .u64 (f (k*6+3)))).set ⟨w.heap.size,4,none⟩ rfl (.int .u64 (f (k*6+4)))).set ⟨w.heap.size,5,none⟩ rfl (.int .u64 (f (k*6+5)));exact aE (s:=4) results167 rfl D underlying34 rfl (kh _) rfl ⟨rfl,hF.below C.o.2 (Vc _) (λ_ h=>by cases h)⟩
structure It where
 e:Ev
 at_:Int
def mw(x:It):Array Yv:=#[.int .i64 x.e.o,.int .u64 x.e.s,.int .u64 x.e.d.v0,.int .u64 x.e.d.v1,.int .u64 x.e.d.v2,.int .u64 x.e.d.v3,.int .u64 x.e.d.v4,.int .u64 x.e.d.v5,.int .u8 x.e.k,.int .u64 x.e.n,.int .i64 x.e.t,.int .i64 x.e.a,.int .u64 x.e.r,.int .u64 x.e.f,.int .u64 x.at_]
theorem eK(x:It):(mw x).size=15:=rfl
@[go_sem] theorem TZ(x:It):(mw x)[1]? =some (.int .u64 x.e.s):=rfl
@[go_sem] theorem Sh(x:It):(mw x)[14]? =some (.int .u64 x.at_):=rfl
theorem pS(x:It):∀u∈(mw x).toList,u.oneCell'=true:=by
 intro u a;simp[mw]at a;rcases a with rfl|rfl|rfl|rfl|rfl|rfl|rfl|rfl|rfl|rfl|rfl|rfl|rfl|rfl|rfl<;>rfl
theorem GF(x:It):(mw x).all (·.oneCell')=true:=VL.2 λu a=>pS x u (by simpa using a)
theorem oD(x:It):(prog.info? 234).map (·.size)=some (mw x).size:=by rw[eK];kernel_rfl
theorem Lp:(prog.info? 234).map (λi=>(i.zero,i.size,i.bytes))=some (some (.agg #[.int .i64 0,.int .u64 0,.int .u64 0,.int .u64 0,.int .u64 0,.int .u64 0,.int .u64 0,.int .u64 0,.int .u8 0,.int .u64 0,.int .i64 0,.int .i64 0,.int .u64 0,.int .u64 0,.int .u64 0]),15,120):=by kernel_rfl
abbrev kI(w:Yu)(base:Nat)(v:Yv)(L:List It):Prop:=Row w base 234 15 mw v L
theorem kI.app(ty:Yw){L M:List It}(h:kI w base v L)(n:Rd w B 15 A M.length (cC mw M))(q:L.length+M.length<=1000000)(a:base<=w.heap.size):
  ∃d w',(iy 182 ty v (.slice A M.length cap)).run prog w=.ok (.value d) w'/\kI w' base d (L++M)/\Kt base [234] w w'/\w.grownBy w' v.ownBlock/\(d.ownBlock=v.ownBlock\/∀b,d.ownBlock=some b->w.heap.size<=b):=by
 obtain⟨e,p,j,m,o⟩:=V7 Lp;exact Row.app w 182 ty e _ 120 underlying182 p j m o rfl (by decide) eK pS h (cap:=cap) n q (by decide) a
section
variable(ρ:Yx->Yv)(dst:Option Tmp)(x y z u:Yx)(ty:Yw)(pos:String)(after:Array Edge)(guard:Option (Nat×Bool))
@[go_sem ↓ high] theorem IX:execOp ρ {dst,op:=.load 234 x,type:=ty,pos,after,guard}=dR 234 (ρ x):=by simp[execOp,dR]
@[go_sem ↓ high] theorem IF:execOp ρ {dst,op:=.store 234 x y,type:=ty,pos,after,guard}=eR 234 (ρ x) (ρ y):=by simp[execOp,eR]
@[go_sem ↓ high] theorem L9:execOp ρ {dst,op:=.call {callee:=.builtin .append,args:=#[x,y],argTypes:=#[182,182]},type:=ty,pos,after,guard}=iy 182 ty (ρ x) (ρ y):=by simp[execOp,iy,resolve,invoke,builtin]
@[go_sem ↓ high] theorem Je:execOp ρ {dst,op:=.buildSlice 182 1 #[(0,x)],type:=ty,pos,after,guard}=iJ 182 (ρ x):=by simp[execOp,iJ]
end
def SS(x y:Yv):Sem Next:=do pure (.value (<-Instr.build 234 #[(0,x),(1,y)]))
section
variable(ρ:Yx->Yv)(dst:Option Tmp)(x y z u:Yx)(ty:Yw)(pos:String)(after:Array Edge)(guard:Option (Nat×Bool))
@[go_sem ↓ high] theorem LQ:execOp ρ {dst,op:=.build 234 #[(0,x),(1,y)],type:=ty,pos,after,guard}=SS (ρ x) (ρ y):=by simp[execOp,SS]
end
@[go_sem] theorem QP(e:Ev)(x:Int)(w:Yu):(SS (.agg (ao e)) (.int .u64 x)).run prog w=.ok (.value (.agg (mw ⟨e,x⟩))) w:=by kernel_rfl
@[go_sem] theorem NZ(x:It)(w:Yu):(iJ 182 (.agg (mw x))).run prog w=.ok (.value (.slice (some ⟨w.heap.size,0,none⟩) 1 1)) (w.alloc (.cells (mw x) 234)):=by kernel_rfl
def pP(v:Nat->Yv)(kn:av)(c:Int):Array Yv:=#[v 0,v 1,v 2,v 3,v 4,v 5,.int .u64 kn.v0,.int .u64 kn.v1,.int .u64 kn.v2,.int .u64 kn.v3,.int .u64 kn.v4,.int .u64 kn.v5,.int .u64 c]
def sx(v:Nat->Yv)(k:Nat)(x:Yv):Nat->Yv:=λi=>if i=k then x else v i
def De{α:Type}(v:Nat->List α)(k:Nat)(x:List α):Nat->List α:=λi=>if i=k then x else v i
section
variable(v:Nat->Yv)(kn:av)(c:Int)
theorem Di(k:Nat)(h:k<6):(pP v kn c)[k]? =some (v k):=av.six (P:=λk=>(pP v kn c)[k]? =some (v k)) rfl rfl rfl rfl rfl rfl k h
theorem K6(k:Nat)(h:k<6):(pP v kn c)[6+k]? =some (.int .u64 (kn.get k)):=av.six (P:=λk=>(pP v kn c)[6+k]? =some (.int .u64 (kn.get k))) rfl rfl rfl rfl rfl rfl k h
@[go_sem] theorem TY:(pP v kn c)[6]? =some (.int .u64 kn.v0):=rfl
@[go_sem] theorem TX:(pP v kn c)[7]? =some (.int .u64 kn.v1):=rfl
@[go_sem] theorem TW:(pP v kn c)[8]? =some (.int .u64 kn.v2):=rfl
@[go_sem] theorem TV:(pP v kn c)[9]? =some (.int .u64 kn.v3):=rfl
@[go_sem] theorem Sf:(pP v kn c)[10]? =some (.int .u64 kn.v4):=rfl
@[go_sem] theorem Se:(pP v kn c)[11]? =some (.int .u64 kn.v5):=rfl
@[go_sem] theorem Sd:(pP v kn c)[12]? =some (.int .u64 c):=rfl
theorem Aq(k:Nat)(h:k<6)(x:Yv):(pP v kn c).setIfInBounds k x=pP (sx v k x) kn c:=av.six (P:=λk=>(pP v kn c).setIfInBounds k x=pP (sx v k x) kn c) rfl rfl rfl rfl rfl rfl k h
theorem xp(k:Nat)(h:k<6)(x:Int):(pP v kn c).setIfInBounds (6+k) (.int .u64 x)=pP v (kn.set k x) c:=av.six (P:=λk=>(pP v kn c).setIfInBounds (6+k) (.int .u64 x)=pP v (kn.set k x) c) rfl rfl rfl rfl rfl rfl k h
theorem Ay(x:Int):(pP v kn c).setIfInBounds 12 (.int .u64 x)=pP v kn x:=rfl
end
def tY(f:Nat->Nat):Nat:=f 0+f 1+f 2+f 3+f 4+f 5
structure gv(w:Yu)(base b:Nat)(v:Nat->Yv)(Ls:Nat->List It)(kn:av)(c:Nat):Prop where
 blk:ai w b 185 (pP v kn c)
 row:∀k,k<6->kI w base (v k) (Ls k)
 sep:∀j k,j<6->k<6->j≠k->∀g,(v j).ownBlock=some g->(v k).ownBlock≠some g
 ok:∀k,k<6->∀x∈Ls k,x.e.ok/\aT x.at_
 kn:kn.ok
 cnt:tY (λk=>(Ls k).length)=c
def nI(b:Nat)(v:Nat->Yv):Nat->Prop:=λg=>g=b\/∃k,k<6/\(v k).ownBlock=some g
section
variable{w w':Yu}{base b c:Nat}{v:Nat->Yv}{Ls:Nat->List It}{kn:av}{F:Nat->Prop}
theorem gv.call(h:gv w base b v Ls kn c)(a:Ys w w'):gv w' base b v Ls kn c:=⟨h.blk.call a,λk d=>Row.call (h.row k d) a,h.sep,h.ok,h.kn,h.cnt⟩
theorem gv.mod(h:gv w base b v Ls kn c)(a:ah F w w')(e:∀g,nI b v g->¬F g):gv w' base b v Ls kn c:=
 ⟨a.blk h.blk (e _ (.inl rfl)),λk d=>a.row (h.row k d) λg j=>e g (.inr ⟨k,d,j⟩),h.sep,h.ok,h.kn,h.cnt⟩
theorem gv.lt(h:gv w base b v Ls kn c):∀g,nI b v g->g<w.heap.size:=by
 rintro g (rfl|⟨k,d,a⟩)
 ·exact h.blk.lt
 ·exact((h.row k d).ge g a).2
end
theorem Pk(w:Yu):Yt 37 #[] w λr w'=>r=.returned (Yr w.heap.size)/\gv w' w.heap.size w.heap.size (λ_=>.slice none 0 0) (λ_=>[]) av.zero 0/\Ys w w':=by
 go_enter func37,ntmps37;go_wp2_with fail;go_ret;refine⟨rfl,⟨ai.new _ _ _,λ_ _=>Row.nil,λ_ _ _ _ _ g a=>(by cases a),λ_ _ x e=>(by cases e),λk d=>av.six (P:=λk=>0<=av.zero.get k/\av.zero.get k<=18446744073709551615) (by decide) (by decide) (by decide) (by decide) (by decide) (by decide) k d,rfl⟩,(Vd _ _).alloc (Vc _) _⟩
theorem yS(x:It)(s:Int)(w:Yu):Yt 275 #[.agg (mw x),.int .u64 s] w λr w'=>(∃b:Bool,r=.returned (.int .i64 (if b then -1 else 1)))/\Ys w w':=by
 have d:Ys w (w.alloc (.cells (mw x) 234)):=(Vd _ _).alloc (Vc _) _;have a:=U9 d;obtain⟨b,h⟩:∃b,decide (x.e.s<=s)=b:=⟨_,rfl⟩;clear d;go_enter func275,ntmps275;cases b
 ·go_wp2_with fail
  go_ret;exact⟨⟨false,rfl⟩,a.o⟩
 ·go_wp2_with fail
  go_ret;exact⟨⟨true,rfl⟩,a.o⟩
theorem GI{L:List It}(h:kI w base v L)(Y:L.length<=1000000)(s:Int):Yt 274 #[v,.int .u64 s,.func (.func 275) #[] #[]] w λr w'=>(∃(i:Nat) (b:Bool),r=.returned (.tuple #[.int .i64 i,.bool b])/\i<=L.length)/\Ys w w':=by
 obtain⟨A,c,rfl,hc,Z⟩:=h.sl;have H:=U9 h;clear h;go_enter func274,ntmps274;go_wp2_with fail
 go_loopw [9,10] (λx y wr=>∃i j:Nat,i<=j/\j<=L.length/\x=.int .i64 i/\y=.int .i64 j/\Ys w wr) (λx y _=>(intOf y).toNat-(intOf x).toNat)
 case atStart=>exact⟨0,L.length,by omega,by omega,rfl,rfl,Vd _ _⟩
 case round=>
  obtain⟨i,j,V,S,rfl,rfl,e⟩:=hrel;have I:=U9 e;by_cases U:i<j
  ·have T:decide ((i:Int)<j)=true:=Vg (by omega)
   obtain⟨y,M⟩:∃y,L[(i+j)/2]? =some y:=⟨L[(i+j)/2]'(by omega),Ve (by omega)⟩;have d:=Row.call H.o e;obtain⟨g,cap,D,m,C,O,Q⟩:=d.sl_pos (by omega);rw[D]at d;have n:=d.rng eK M;obtain⟨rfl,q⟩:A=some ⟨g,0,none⟩/\c=cap:=by injection D with a b c;exact⟨a,c⟩
   have E:=aY (P:=prog) n underlying234 rfl (oD y);have G:=U9 (yS y s wr);clear d n D m C q e;go_wp2_with fail;refine G.o.mono ?_;rintro r W ⟨⟨b,rfl⟩,p⟩;have J:=U9 (I.o.trans (p.mono I.o.size));clear G p E;cases b with
   |true=>
    go_wp2_with fail;go_roundw
    case rel=>exact⟨(i+j)/2+1,j,by omega,by omega,by go_num,rfl,J.o⟩
    case measure=>simp[intOf];omega
   |false=>
    go_wp2_with fail;go_roundw
    case rel=>exact⟨i,(i+j)/2,by omega,by omega,rfl,by go_num,J.o⟩
    case measure=>simp[intOf];omega
  ·obtain rfl:i=j:=by omega
   have T:decide ((i:Int)<i)=false:=Vj (by omega);by_cases R:i<L.length
   ·have K:decide ((i:Int)<L.length)=true:=Vg (by omega)
    obtain⟨y,M⟩:∃y,L[i]? =some y:=⟨L[i],Ve (by omega)⟩;have d:=Row.call H.o e;obtain⟨g,cap,D,m,C,O,Q⟩:=d.sl_pos (by omega);rw[D]at d;have n:=d.rng eK M;obtain⟨rfl,q⟩:A=some ⟨g,0,none⟩/\c=cap:=by injection D with a b c;exact⟨a,c⟩
    have E:=aY (P:=prog) n underlying234 rfl (oD y);have G:=U9 (yS y s wr);have X:(0:Int)<=(i:Int):=by omega
    have kl:(i:Int)<L.length:=by omega
    clear d n D m C q e;go_wp2_with fail;refine G.o.mono ?_;rintro r W ⟨⟨b,rfl⟩,p⟩;have J:=U9 (I.o.trans (p.mono I.o.size));clear G p E;cases b<;>
    ·go_wp2_with fail
     go_ret2;exact⟨⟨i,_,rfl,S⟩,J.o⟩
   ·have K:decide ((i:Int)<L.length)=false:=Vj (by omega)
    clear e;go_wp2_with fail;go_ret2;exact⟨⟨i,_,rfl,S⟩,I.o⟩
theorem LD{L:List It}(h:kI w base v L)(m:L.length<=1000000)(s:Int):Yt 262 #[v,.int .u64 s] w λr w'=>(∃i:Nat,r=.returned (.int .i64 i)/\i<=L.length)/\Ys w w':=by
 obtain⟨A,c,rfl,q,n⟩:=h.sl;have d:=U9 (GI h m s);clear h;go_enter func262,ntmps262;go_wp2_with fail;refine d.o.mono ?_;rintro r p ⟨⟨i,b,rfl,j⟩,a⟩;have e:=U9 a;clear d a;go_wp2_with fail;go_ret;exact⟨⟨i,rfl,j⟩,e.o⟩
def oc(w w':Yu)(base b:Nat)(v:Nat->Yv)(c:Nat):Prop:=∃e a d h,gv w' base b e a d h/\h<=c+1/\ah (nI b v) w w'/\∀g,nI b e g->nI b v g\/w.heap.size<=g
theorem BJ{f:Nat->Nat}{x:Nat}(a:k<6):tY (λi=>if i=k then f k+x else f i)=tY f+x:=by
 unfold tY;have:k=0\/k=1\/k=2\/k=3\/k=4\/k=5:=by omega
 rcases this with rfl|rfl|rfl|rfl|rfl|rfl<;>simp<;>omega
theorem oc.same{w':Yu}{v:Nat->Yv}{Ls:Nat->List It}(h:gv w base b v Ls kn c)(a:Ys w w'):oc w w' base b v c:=⟨v,Ls,kn,c,h.call a,by omega,ah.of_below a,λg d=>.inl d⟩
theorem yp{f:Nat->Nat}(a:k<6):f k<=tY f:=by
 unfold tY;have:k=0\/k=1\/k=2\/k=3\/k=4\/k=5:=by omega
 rcases this with rfl|rfl|rfl|rfl|rfl|rfl<;>omega
structure rc(w:Yu)(base b:Nat)(v:Nat->Yv)(Ls:Nat->List It):Prop where
 row:∀k,k<6->kI w base (v k) (Ls k)
 sep:∀j k,j<6->k<6->j≠k->∀g,(v j).ownBlock=some g->(v k).ownBlock≠some g
 ok:∀k,k<6->∀x∈Ls k,x.e.ok/\aT x.at_
 nb:∀k,k<6->(v k).ownBlock≠some b
section
variable{w w':Yu}{base b c:Nat}{v:Nat->Yv}{Ls:Nat->List It}{kn:av}
theorem rc.call(h:rc w base b v Ls)(d:Ys w w'):rc w' base b v Ls:=⟨λk a=>Row.call (h.row k a) d,h.sep,h.ok,h.nb⟩
theorem rc.fr(h:rc w base b v Ls)(f:Fr w w' b none):rc w' base b v Ls:=⟨λk a=>f.own (h.row k a) (h.nb k a) (by cases(v k).ownBlock<;>simp),h.sep,h.ok,h.nb⟩
theorem gv.rows(h:gv w base b v Ls kn c):rc w base b v Ls:=⟨h.row,h.sep,h.ok,λk a=>Row.ne_box (h.row k a) h.blk (by decide)⟩
theorem rc.put(h:rc w base b v Ls)(n:k<6)(s:ah (λg=>(v k).ownBlock=some g) w w'){o:Yv}{x:It}(C:kI w' base o (Ls k++[x]))(ho:o.ownBlock=(v k).ownBlock\/∀g,o.ownBlock=some g->w.heap.size<=g)(D:x.e.ok/\aT x.at_)(E:b<w.heap.size):
  rc w' base b (sx v k o) (De Ls k (Ls k++[x])):=by
 have lt:∀j,j<6->∀g,(v j).ownBlock=some g->g<w.heap.size:=λj m g d=>((h.row j m).ge g d).2
 refine⟨λj m=>?_,λi j p m q g d a=>?_,λj m y hy=>?_,λj m=>?_⟩
 ·unfold sx De
  by_cases e:j=k
  ·rw[Vh e,Vh e];exact C
  ·rw[Vf e,Vf e]
   exact s.row (h.row j m) λg d a=>h.sep j k m n e g d a
 ·unfold sx at d a
  by_cases e:i=k
  ·rw[Vh e]at d
   rw[Vf (by omega)]at a;rcases ho with ho|ho
   ·rw[ho]at d
    exact h.sep k j n m (by omega) g d a
   ·have:=ho g d
    have:=lt j m g a;omega
  ·rw[Vf e]at d
   by_cases r:j=k
   ·rw[Vh r]at a
    rcases ho with ho|ho
    ·rw[ho]at a
     exact h.sep i k p n (by omega) g d a
    ·have:=ho g a
     have:=lt i p g d;omega
   ·rw[Vf r]at a
    exact h.sep i j p m q g d a
 ·unfold De at hy
  by_cases e:j=k
  ·rw[Vh e]at hy
   rcases Vw.1 hy with hy|hy
   ·exact h.ok k n y hy
   ·obtain rfl:y=x:=by simpa using hy
    exact D
  ·rw[Vf e]at hy
   exact h.ok j m y hy
 ·unfold sx
  by_cases e:j=k
  ·rw[Vh e]
   intro d;rcases ho with ho|ho
   ·rw[ho]at d;exact h.nb k n d
   ·have:=ho b d;omega
  ·rw[Vf e];exact h.nb j m
end
theorem Ps{v:Nat->Yv}{Ls:Nat->List It}(h:gv w base b v Ls kn c)(hc:c+1<=900000)(ν:base<=w.heap.size){e:Ev}(he:e.ok):
  Yt 74 #[Yr b,.agg (ao e)] w λr w'=>(∃n,r=.returned (.int .i64 n))/\oc w w' base b v c:=by
 have B0:aD (w.alloc (.cells (ao e) 53)) [(w.heap.size,53,ao e)]:=aD.nil.push (g:=w.heap.size) rfl;have D0:Ys w (w.alloc (.cells (ao e) 53)):=(Vd w.heap.size w).alloc (by simp<;>omega) _;have O:=U9 (Vb h (Vb he (Vb B0 D0)));obtain⟨b1,Y⟩:∃b,aX e=b:=⟨_,rfl⟩;obtain⟨b2,δ⟩:∃b,dJ kn e=b:=⟨_,rfl⟩;obtain⟨b3,ε⟩:∃b,eS kn e=b:=⟨_,rfl⟩;have CM:=U9 λX=>ii e he b1 Y X
 have CL:=U9 λX=>ly kn e he b2 δ X
 have CR:=U9 λX=>yC kn e he b3 ε X
 have HB:=U9 Y;have π:=dz B0.head;clear h he B0 D0 Y δ ε;go_enter func74,ntmps74;go_wp2_with fail;refine(CM.o _).mono ?_;rintro r W1 ⟨rfl,Q⟩;have D1:=O.o.2.2.2.trans (Q.mono (by simp));have B1:=O.o.2.2.1.call Q;have L1:=O.o.1.call D1;have Z:=U9 (Vb D1 (Vb B1 L1));have R:=U9 (λ(X:Yu) (a:ah cM W1 X)=>Vb (B1.call a.no).rules (Vb (B1.call a.no).lts (Vb (L1.call a.no).blk.rules.1 (Vb (L1.call a.no).blk.lt (dz (B1.call a.no).head)))));clear Q D1 B1 L1 π;cases b1 with
 |false=>
  go_wp2_with fail;go_ret;exact⟨⟨_,rfl⟩,oc.same O.o.1 Z.o.1⟩
 |true=>
 go_wp2_with fail;refine ay [] cM 7 (λ_ h=>h.elim) (by kernel_rfl) (by kernel_rfl) ?_
 iterate 5
  first
  |refine eV R.o rfl ?_
  |refine al (λ_=>rfl) ?_
  |refine bH rfl ?_
  simp only[UW,UX,UY,UZ]
 refine cU (λ_=>rfl) (Vm rfl) 91 (λ_=>#[.agg (aq kn),.agg (ao e)]) _ (λ_ w=>by simp[execOp,go_sem]<;>rfl) (λ_ X _=>CL.o X) ?_;simp only[UW,UX,UY,UZ]
 iterate 1
  first
  |refine eV R.o rfl ?_
  |refine al (λ_=>rfl) ?_
  |refine bH rfl ?_
  simp only[UW,UX,UY,UZ]
 refine aK (by kernel_rfl) ?_;rintro _ W2 E-;have E:Ys W1 W2:=E;have D2:=Z.o.1.trans (E.mono Z.o.1.size);have B2:=Z.o.2.1.call E;have L2:=Z.o.2.2.call E;have H2:=U9 (Vb D2 (Vb B2 L2));have U:=U9 (λ(X:Yu) (a:ah cM W2 X)=>Vb (B2.call a.no).rules (Vb (B2.call a.no).lts (Vb (L2.call a.no).blk.rules.1 (Vb (L2.call a.no).blk.lt (dz (B2.call a.no).head)))));clear E D2 B2 L2 R Z CM CL;cases b2 with
 |true=>
  go_wp2_with fail;go_ret;exact⟨⟨_,rfl⟩,oc.same O.o.1 H2.o.1⟩
 |false=>
 go_wp2_with fail;refine ay [] cM 8 (λ_ h=>h.elim) (by kernel_rfl) (by kernel_rfl) ?_
 iterate 5
  first
  |refine eV U.o rfl ?_
  |refine al (λ_=>rfl) ?_
  |refine bH rfl ?_
  simp only[UW,UX,UY,UZ]
 refine cU (λ_=>rfl) (Vm rfl) 92 (λ_=>#[.agg (aq kn),.agg (ao e)]) _ (λ_ w=>by simp[execOp,go_sem]<;>rfl) (λ_ X _=>CR.o X) ?_;simp only[UW,UX,UY,UZ]
 iterate 2
  first
  |refine eV U.o rfl ?_
  |refine al (λ_=>rfl) ?_
  |refine bH rfl ?_
  simp only[UW,UX,UY,UZ]
 refine aK (by kernel_rfl) ?_;rintro _ P G-;have G:Ys W2 P:=G;have D3:=H2.o.1.trans (G.mono H2.o.1.size);have L:=H2.o.2.1.call G;have J:=H2.o.2.2.call G;have I:=U9 (Vb D3 (Vb L J));clear G U H2 CR;cases b3 with
 |false=>
  clear D3 L J;go_wp2_with fail;go_ret;exact⟨⟨_,rfl⟩,oc.same O.o.1 I.o.1⟩
 |true=>
 have hM:=ji HB.o;obtain⟨k,C,γ,υ⟩:=hM.place;have k0:(0:Int)<=(k:Int):=by omega
 have k6:(k:Int)<6:=by omega
 have e1:IntKind.i64.wrap (e.o-1)=(k:Int):=by rw[γ];rw[show((k:Int)+1-1)=(k:Int)from by omega];exact VE _ (by omega)
 obtain⟨q0,-,-⟩:=L.rules;obtain⟨l0,-⟩:=L.lts;have hv:=Di v kn c k C;have S:=(J.row k C).ge;have ξ:=U9 S;have τ:∀g,(v k).ownBlock=some g->g<P.heap.size:=λg H=>(S g H).2
 have nF:¬((v k).ownBlock=some b):=Row.ne_box (J.row k C) J.blk (by decide);have nE:¬((v k).ownBlock=some w.heap.size):=Row.ne_box (J.row k C) L.head (by decide);have ζ:=U9 (Vb nF nE);have V:=U9 (λ(X:Yu) (a:ah (λg=>(v k).ownBlock=some g) P X)=>Vb (L.mod a ⟨nE,trivial⟩).rules (Vb (L.mod a ⟨nE,trivial⟩).lts (Vb (a.blk J.blk nF).rules.1 (Vb (a.blk J.blk nF).lt (dz (L.mod a ⟨nE,trivial⟩).head)))));clear D3 L J S nF nE hM γ υ;go_wp2_with fail;refine eO 19 [] (λg=>(v k).ownBlock=some g) 15 τ (by kernel_rfl) (by simp) (by decide+kernel) (by kernel_rfl) (by decide+kernel) (by kernel_rfl) ?_;simp only[U4,U5,U6,U7]
 iterate 14
  first
  |refine bT rfl ?_;apply aA
   ·intro _ ρ q d m W a;have hq:=V.o W a;simp[execOp,go_sem,q,d,m,hq,e1,k0,k6,hv]<;>exact rfl
  |refine al (λ_=>rfl) ?_
  |refine bM (by kernel_rfl) rfl ?_;apply aA
   ·intro u ρ q d m w;simp[execOp,go_sem,q,d,m,e1,k0,k6,hv]<;>exact rfl
  simp only[UW,UX,UY,UZ]
 refine nh (λ_=>rfl) (Vm rfl) (λp:Nat=>.slice (some ⟨p,0,none⟩) 1 1) 0 (sg 234 (mw ⟨e,c⟩)) (λu X _=>⟨X.heap.size,X.alloc (.cells (mw ⟨e,c⟩) 234),by simp[execOp,go_sem],⟨_,rfl,Vc _,ai.new _ _ _⟩,(Vd _ _).alloc (Vc _) _⟩) ?_;simp only[UW,UX,UY,UZ];refine ku (λ_=>rfl) rfl 14 (by decide) (VZ rfl) (λx:Yv=>x) (.slice none 0 0) (λX r X'=>kI X' base r (Ls k++[⟨e,c⟩])/\Kt base [234] X X'/\(r.ownBlock=(v k).ownBlock\/∀g,r.ownBlock=some g->X.heap.size<=g)) (λu=>.slice (some ⟨u.2,0,none⟩) 1 1) _ (λ_=>by repeat (first|exact Vs ⟨rfl,rfl,rfl⟩|apply Vr)) (λu X hX hR=>?app) ?_
 case app=>
  simp only[U0,U1,U2,U3,Nat.reduceAdd,Vk]at hR;obtain⟨w1,w2,-,g2,⟨g,D,Γ,β⟩,g4⟩:∃w1 w2,(14=15->Ys P w1)/\ah (λg=>(v k).ownBlock=some g) P w1/\sg 234 (mw ⟨e,c⟩) w1 (.slice (some ⟨u.2,0,none⟩) 1 1) w2/\cR [] (λg=>14≠15/\(v k).ownBlock=some g) P.heap.size w2 X:=hR;injection D with D _ _;injection D with D;injection D with D _ _;subst D;have σ:ai X u.2 234 (mw ⟨e,c⟩):=by
   rcases g4.block u.2 β.lt with e|⟨-,⟨cs,t,hz,-⟩,-⟩|⟨-,e⟩
   ·exact e.trans β
   ·cases hz
   ·have:=(ξ.o _ e).2;have:=g2.size;omega
  have ψ:(Ls k).length<=c:=by have:=yp (f:=λk=>(Ls k).length) C;rw[I.o.2.2.cnt]at this;exact this
  obtain⟨v',w',k1,k2,k3,k4,k5⟩:=kI.app 182 (Row.call (I.o.2.2.row k C) hX) (A:=some ⟨u.2,0,none⟩) (cap:=1) (dU eK σ) (by simp;omega) (by have:=I.o.1.size;have:=hX.size;omega);exact⟨v',w',by simp[execOp,go_sem];exact k1,⟨k2,k3,k5⟩,ah.of_grown k4 λ_ h=>h⟩
 simp only[UW,UX,UY,UZ]
 iterate 3
  first
  |refine bT rfl ?_;apply aA
   ·intro _ ρ q d m W a;have hq:=V.o W a;simp[execOp,go_sem,q,d,m,hq,e1,k0,k6,hv]<;>exact rfl
  |refine al (λ_=>rfl) ?_
  |refine bM (by kernel_rfl) rfl ?_;apply aA
   ·intro u ρ q d m w;simp[execOp,go_sem,q,d,m,e1,k0,k6,hv]<;>exact rfl
  simp only[UW,UX,UY,UZ]
 refine aK (by kernel_rfl) ?_;rintro⟨⟨_,p⟩,v'⟩ W4 T hR;dsimp only;simp only[U0,U1,U2,U3,Nat.reduceAdd,Nat.zero_add]at hR;have T:ah (λg=>(v k).ownBlock=some g) P W4:=T;obtain⟨w1,w2,g1,g2,⟨k2,k3,k5⟩,g4⟩:=bJ (hR 15 _ _ (by repeat (first|exact Or.inl ⟨rfl,rfl,rfl⟩|apply Or.inr))) rfl;have κ:=(g1 rfl).size;have N4:kI W4 base v' (Ls k++([⟨e,c⟩]:List It)):=Row.call k2 (g4.below λ_ h=>h.1 rfl);have R4:=(I.o.2.2.rows).put C T N4 (k5.imp id λh g H=>Nat.le_trans κ (h g H)) ⟨O.o.2.1,by show(0:Int)<=(c:Int)/\(c:Int)<=18446744073709551615;omega⟩ I.o.2.2.blk.lt;have b4:=T.blk I.o.2.2.blk ζ.o.1;have e4:=T.blk I.o.2.1.head ζ.o.2;have M4:ah (nI b v) w W4:=((ah.of_below I.o.1).trans (T.mono λg H=>.inr ⟨k,C,H⟩));have HO:=U9 (show∀g,nI b (sx v k v') g->nI b v g\/w.heap.size<=g from by
  rintro g (rfl|⟨j,hj,H⟩)
  ·exact .inl (.inl rfl)
  ·unfold sx at H
   by_cases ej:j=k
   ·rw[Vh ej]at H
    rcases k5 with k5|k5
    ·exact .inl (.inr ⟨k,C,by rw[<-k5];exact H⟩)
    ·have:=k5 g H
     have:=I.o.1.size;exact .inr (by omega)
   ·rw[Vf ej]at H
    exact .inl (.inr ⟨j,hj,H⟩))
 have b5:=b4.set_ k v';rw[Aq _ _ _ k C]at b5;have F5:Fr W4 (W4.setCell ⟨b,k,none⟩ v') b none:=Fr.of_set _ rfl _;have μ:b≠w.heap.size:=λh=>absurd (b4.type_eq (h▸e4)).1 (by decide)
 have e5:=F5.blk e4 (V1 μ) (by simp);have M:=U9 (Vb b5 (Vb (R4.fr F5) (Vb e5 (M4.trans (ah.of_fr1 F5 (.inl rfl))))));obtain⟨A',c',ι,-,-⟩:=N4.sl;have χ:=Di v kn c k C;clear T hR g1 g2 k2 k3 k5 g4 N4 R4 M4 V κ;generalize (Ls k++([⟨e,c⟩]:List It)).length=n' at ι;subst ι;obtain⟨q4,f4⟩:=b4.rules;have l4:=b4.lt;clear b4 e4 b5 F5 e5 q0 l0;go_wp2_with fail;generalize φ:W4.setCell ⟨b,k,none⟩ _=W5 at M;have η:=U9 (λ(X:Yu) (a:Ys W5 X)=>Vb (M.o.1.call a).rules.1 (Vb (M.o.1.call a).lt (Vb (M.o.2.2.1.call a).rules.1 (M.o.2.2.1.call a).lt)));clear q4 f4 l4 φ χ;refine aP 7 (by kernel_rfl) (by simp) (by kernel_rfl) (by kernel_rfl) (by kernel_rfl) (by kernel_rfl) ?_;simp only[U4,U5,U6,U7]
 iterate 7
  first
  |refine dx rfl ?_;apply aA
   ·intro _ ρ q d m W a;have hq:=η.o W a;simp[execOp,go_sem,q,d,m,hq,k0,k6]<;>exact rfl
  |refine aw (λ_=>rfl) ?_
  simp only[UW,UX,UY,UZ]
 refine aH ?_;intro _ W6 K _;have b6:=M.o.1.call K;have R6:=M.o.2.1.call K;have M6:=M.o.2.2.2.call K;have ω:=K6 (sx v k (.slice A' n' c')) kn c k C;have b7:=b6.set_ (6+k) (.int .u64 e.s);rw[xp _ _ _ k C]at b7;have F7:Fr W6 (W6.setCell ⟨b,6+k,none⟩ (.int .u64 e.s)) b none:=Fr.of_set _ rfl _;have b8:=b7.set_ 12 (.int .u64 ((c:Int)+1));rw[Ay]at b8;have F8:Fr (W6.setCell ⟨b,6+k,none⟩ (.int .u64 e.s)) ((W6.setCell ⟨b,6+k,none⟩ (.int .u64 e.s)).setCell ⟨b,12,none⟩ (.int .u64 ((c:Int)+1))) b none:=Fr.of_set _ rfl _;have R8:=(R6.fr F7).fr F8;have M8:=(M6.trans (ah.of_fr1 F7 (.inl rfl))).trans (ah.of_fr1 F8 (.inl rfl));have θ:=O.o.2.1.s;have HX:=U9 (show oc w ((W6.setCell ⟨b,6+k,none⟩ (.int .u64 e.s)).setCell ⟨b,12,none⟩ (.int .u64 ((c:Int)+1))) base b v c from
  ⟨_,_,kn.set k e.s,c+1,⟨by rw[show(((c+1:Nat):Int))=(c:Int)+1 from by omega];exact b8,R8.row,R8.sep,R8.ok,λj hj=>by
   rw[o3 _ _ _ C hj];split
   ·exact θ
   ·exact I.o.2.2.kn j hj,by
   have hs:=BJ (f:=λk=>(Ls k).length) (k:=k) (x:=1) C;have α:=I.o.2.2.cnt;have e:(λj=>(De Ls k (Ls k++[⟨e,c⟩]) j).length)=λi=>if i=k then(λk=>(Ls k).length) k+1 else(λk=>(Ls k).length) i:=by
    funext j;unfold De;by_cases h:j=k
    ·rw[Vh h,Vh h];simp
    ·rw[Vf h,Vf h]
   rw[e,hs,α]⟩,by omega,M8,HO.o⟩)
 obtain⟨q6,f6⟩:=b6.rules;have l6:=b6.lt;obtain⟨q7,f7⟩:=b7.rules;have l7:=b7.lt;have e2:IntKind.u64.wrap ((c:Int)+1)=(c:Int)+1:=XN _ (by omega);clear b6 R6 M6 b7 F7 b8 F8 R8 M8 η K θ;go_wp2_with fail;go_ret;exact⟨⟨_,rfl⟩,HX.o⟩
abbrev dr(w:Yu)(base:Nat)(v:Yv)(L:List Ev):Prop:=Row w base 53 14 ao v L
theorem AQ(x:Ev):∀u∈(ao x).toList,u.oneCell'=true:=by
 intro u a;simp only[lI,Vy,WM,WR]at a;rcases a with rfl|rfl|rfl|rfl|rfl|rfl|rfl|rfl|rfl|rfl|rfl|rfl|rfl|rfl<;>rfl
theorem dr.app(ty:Yw){L M:List Ev}(h:dr w base v L)(n:Rd w B 14 A M.length (cC ao M))(q:L.length+M.length<=1000000)(a:base<=w.heap.size):
  ∃d w',(iy 132 ty v (.slice A M.length cap)).run prog w=.ok (.value d) w'/\dr w' base d (L++M)/\Kt base [53] w w'/\w.grownBy w' v.ownBlock/\(d.ownBlock=v.ownBlock\/∀b,d.ownBlock=some b->w.heap.size<=b):=by
 obtain⟨e,p,j,m,o⟩:=V7 Dy;exact Row.app w 132 ty e _ 112 underlying132 p j m o rfl (by decide) dO AQ h (cap:=cap) n q (by decide) a
section
variable(ρ:Yx->Yv)(dst:Option Tmp)(x y:Yx)(ty:Yw)(pos:String)(after:Array Edge)(guard:Option (Nat×Bool))
@[go_sem ↓ high] theorem Jr:execOp ρ {dst,op:=.call {callee:=.builtin .append,args:=#[x,y],argTypes:=#[132,132]},type:=ty,pos,after,guard}=iy 132 ty (ρ x) (ρ y):=by simp[execOp,iy,resolve,invoke,builtin]
end
def MG(x y:It):Int:=Lib.compareInt x.at_ y.at_
theorem xN(x y:It):Go.Proofs.ltOf MG x y=decide (x.at_<y.at_):=by
 unfold Go.Proofs.ltOf MG Lib.compareInt;by_cases a:x.at_<y.at_
 ·simp[a]
 ·by_cases d:y.at_<x.at_<;>simp[a,d]
theorem Ht:Go.Sort.SWO (Go.Proofs.ltOf MG) where
 irrefl x:=by rw[xN];simp
 trans x y z h1 h2:=by rw[xN]at*;simp at*;omega
 ntrans x y z h1 h2:=by rw[xN]at*;simp at*;omega
instance:Inhabited It:=⟨⟨⟨0,0,av.zero,0,0,0,0,0,0⟩,0⟩⟩
theorem Si(x y:It)(w:Yu):Yt 264 #[.agg (mw x),.agg (mw y)] w λe w'=>e=.returned (.int .i64 (MG x y))/\∃q d,w'=Go.Sort.grow (w.drewN q) d:=by
 have m:=U9 λW=>ET x.at_ y.at_ W
 have j:MG x y=Lib.compareInt x.at_ y.at_:=rfl;rw[j];clear j;generalize Lib.compareInt x.at_ y.at_=b at m⊢;go_enter func264,ntmps264;go_upto_region 1 with fail;have a:bF w _ _:=((bF.nil w).push (t:=234) (cs:=mw x) rfl).push (t:=234) (cs:=mw y) (g:=w.heap.size+1) (by simp);have n:=a.rules;have p:=a.lts;generalize h:(w.alloc _).alloc _=W0 at a n p⊢;have s:=U9 (show w.drawn<=W0.drawn by rw[<-h];exact Vc _);have r:=U9 a;obtain⟨H,E,D,I,-⟩:=n;obtain⟨G,C,-⟩:=p;clear h a;go_wp2_with (go_at_call 58;refine(m.o _).mono ?_;rintro e w' ⟨rfl,rfl⟩);go_ret;exact⟨rfl,yy r.o.below s.o⟩
theorem Ly{G:List It}(h:kI w base v G)(O:G.length<=1000000):Yt 263 #[v,.func (.func 264) #[] #[]] w λr w'=>r=.returned (.tuple #[])/\∃p,kI w' base v p/\G.Perm p/\w.grownBy w' v.ownBlock:=by
 have C:∀args w,(callFunc 264 args).run prog w=.ok (.enter 264 args) w:=enters_of func264 (by kernel_rfl) rfl;have e:∀j off size W,Go.Proofs.CmpLays prog 264 #[] (λx=>(mw x).toList) 15 MG j off size W:=λ_ _ _ _ _ _ _ _ x y=>Si x y _
 rcases Ye G.length with h0|h0
 ·have:G=[]:=Wg.1 h0
  subst this;obtain⟨A,cap,rfl,-,-⟩:=h.sl;refine(Yb BV A cap _ w).mono ?_;rintro r w' ⟨rfl,rfl⟩;exact⟨rfl,[],h,List.Perm.nil,⟨rfl,rfl,rfl,Vc _,λ_ _ _=>rfl⟩⟩
 obtain⟨g,cap,rfl,Q,P,L,m⟩:=h.sl_pos h0;have a:=AnyQ.slices_SortFunc BV 15 isAgg234 sizeOf234 (λx=>(mw x).toList) (λ_=>rfl) (λx v K=>pS x v K) MG Ht 264 #[] g 0 cap G.toArray w C (e g 0 G.toArray.size w) (rC eK (by decide) h) m (by simp;omega);change Yt 263 _ _ _ at a;refine Xi a ?_;rintro r w' ⟨rfl,o,n,os,D,M,E⟩;obtain⟨H,q⟩:=lu (d:=G.toArray) (by simpa using D);have I:o.toList.length=G.length:=by simpa using q
 obtain⟨s,J⟩:=pt (L':=o.toList) eK (by decide) h I (by simpa using E);exact⟨rfl,o.toList,s,H,J⟩
theorem sH(v:Nat->Yv)(k:Nat)(h:k<6)(w:Yu):(Instr.index 183 (.agg #[v 0,v 1,v 2,v 3,v 4,v 5]) (.int .i64 (k:Int))).run prog w=.ok (v k) w:=
 av.six (P:=λk=>(Instr.index 183 (.agg #[v 0,v 1,v 2,v 3,v 4,v 5]) (.int .i64 (k:Int))).run prog w=.ok (v k) w) (by kernel_rfl) (by kernel_rfl) (by kernel_rfl) (by kernel_rfl) (by kernel_rfl) (by kernel_rfl) k h
@[go_sem ↓ high] theorem IW(ρ:Yx->Yv)(dst:Option Tmp)(x:Yx)(ty:Yw)(pos:String)(after:Array Edge)(guard:Option (Nat×Bool)):execOp ρ {dst,op:=.load 183 x,type:=ty,pos,after,guard}=dR 183 (ρ x):=by simp[execOp,dR]
theorem O4{v:Nat->Yv}(h:ai w b 185 (pP v kn c)):(dR 183 (Yr b)).run prog w=.ok (.value (.agg #[v 0,v 1,v 2,v 3,v 4,v 5])) w:=by
 refine aY (λi u a=>?_) underlying183 rfl (by show _=some 6;kernel_rfl);rw[Vk,h.cell];have d:i<6:=(Vv.1 a).1;rw[Di _ _ _ i d];have:i=0\/i=1\/i=2\/i=3\/i=4\/i=5:=by omega
 rcases this with rfl|rfl|rfl|rfl|rfl|rfl<;>exact a
def sO(f:Nat->Nat):Nat->Nat
 |0=>0
 |k+1=>sO f k+f k
theorem zP(f:Nat->Nat){j:Nat}(h:j<=k):sO f j<=sO f k:=by
 induction h with
 |refl=>exact Vc _
 |step _ ih=>exact Vi ih (Wa _ _)
theorem ut(f:Nat->Nat):sO f 6=tY f:=by simp[sO,tY]
theorem Gb{α:Type}{c:α->Array Yv}{sz:Nat}(d:∀x,(c x).size=sz){e:Yw}{n i:Nat}{L:List α}(h:Row w base e sz c (.slice A n cap) L)(r:i<=L.length):Rd w w.heap.size sz (A.map λx=>x.add (i*sz)) (L.drop i).length (cC c (L.drop i)):=by
 have q:=h.rd rfl;refine⟨bN d _,λm=>?_⟩;rw[VS]at m;obtain⟨b,o,rfl,C,a⟩:=q.2 (by omega);refine⟨b,o+i*sz,by rw[WE,d6],C,λj u s=>?_⟩;have p:cC c L=cC c (L.take i)++cC c (L.drop i):=by rw[<-nX,Wf]
 have D:(cC c (L.take i)).length=i*sz:=by rw[bN d,VI,Nat.min_eq_left r]
 have:=a (i*sz+j) u (by rw[p,VY (by omega),D,Nat.add_sub_cancel_left];exact s);rwa[<-VO]at this
theorem Kk{α:Type}{c:α->Array Yv}{sz:Nat}(d:∀x,(c x).size=sz){i:Nat}{L:List α}(e:L.length<=i):Rd w B sz A (L.drop i).length (cC c (L.drop i)):=
 ⟨bN d _,λa=>by rw[VS]at a;omega⟩
theorem DQ(y:It)(W:Yu):∃a,(eR 234 (Yr W.heap.size) (.agg (mw y))).run prog (W.alloc (.cells #[.int .i64 0,.int .u64 0,.int .u64 0,.int .u64 0,.int .u64 0,.int .u64 0,.int .u64 0,.int .u64 0,.int .u8 0,.int .u64 0,.int .i64 0,.int .i64 0,.int .u64 0,.int .u64 0,.int .u64 0] 234))=.ok .skip a/\ai a W.heap.size 234 (mw y)/\Ys W a/\a.heap.size=W.heap.size+1:=by
 have d:ai (W.alloc (.cells #[.int .i64 0,.int .u64 0,.int .u64 0,.int .u64 0,.int .u64 0,.int .u64 0,.int .u64 0,.int .u64 0,.int .u8 0,.int .u64 0,.int .i64 0,.int .i64 0,.int .u64 0,.int .u64 0,.int .u64 0] 234)) W.heap.size 234 #[.int .i64 0,.int .u64 0,.int .u64 0,.int .u64 0,.int .u64 0,.int .u64 0,.int .u64 0,.int .u64 0,.int .u8 0,.int .u64 0,.int .i64 0,.int .i64 0,.int .u64 0,.int .u64 0,.int .u64 0]:=ai.new _ _ _;exact⟨_,bX d (oD y) rfl (GF y),ax d (mw y),(aM _ _ _).below ((Vd _ _).alloc (Vc _) _) (Vc _) (λ_ h=>by cases h),by simp[World.setRow]⟩
theorem Lh{y:It}(h:ai w g t (mw y)):zg w g 0 (ao y.e):=λj u a=>by
 rw[Vk,h.cell];have d:j<14:=(Vv.1 a).1;have:j=0\/j=1\/j=2\/j=3\/j=4\/j=5\/j=6\/j=7\/j=8\/j=9\/j=10\/j=11\/j=12\/j=13:=by omega
 rcases this with rfl|rfl|rfl|rfl|rfl|rfl|rfl|rfl|rfl|rfl|rfl|rfl|rfl|rfl<;>exact a
theorem LC{v:Nat->Yv}{Ls:Nat->List It}(h:gv w base b v Ls kn c)(hc:c<=900000)(v1:av)(n:Int):Yt 243 #[Yr b,.agg (aq v1),.int .i64 n] w λr w'=>∃u L,r=.returned u/\dr w' w.heap.size u L/\L.length<=c/\(∀e∈L,e.ok)/\Ys w w':=by
 have HH:=U9 h;have hb:=h.blk.lt;have D0:Ys w (w.alloc (.cells (aq v1) 34)):=(Vd _ _).alloc (Vc _) _;have γ:=O4 (h.call D0).blk;have K:=U9 D0;have Y:=ai.new w 34 (aq v1);generalize hW:w.alloc (.cells (aq v1) 34)=W0 at γ K Y;clear h D0;go_enter func243,ntmps243;go_upto_region 4 with fail;have HV:=U9 Y;clear hW Y;go_wp2_with fail;clear γ
 go_loopw [7,18] (λv7 i wr=>∃(k:Nat) (L:List It),k<=6/\i=.int .i64 k/\kI wr W0.heap.size v7 L/\L.length<=sO (λj=>(Ls j).length) k/\(∀x∈L,x.e.ok)/\Ys W0 wr) (λ_ i _=>6-(intOf i).toNat)
 case atStart=>exact⟨0,[],by omega,rfl,Row.nil,Vc _,by simp,Vd _ _⟩
 case round=>
  obtain⟨k,L,hk,rfl,d,q,I,p⟩:=hrel;by_cases s:k<6
  ·have hd:decide ((k:Int)<6)=true:=Vg (by omega)
   have DW:=K.o.trans (p.mono K.o.size);have hr:=Row.call (HH.o.row k s) DW;obtain⟨Ak,ck,O,τ,χ⟩:=hr.sl;rw[O]at hr;have U:=sH v k s wr;rw[O]at U;have V:wr.cell? ⟨w.heap.size,k,none⟩=some (.int .u64 (v1.get k)):=by
    rw[(HV.o.call p).cell];exact fW v1 k s
   have ζ:=(HV.o.call p).frozen;have hl:=(HV.o.call p).lt;have η:(Ls k).length<=c:=by rw[<-HH.o.cnt];exact yp (f:=λk=>(Ls k).length) s
   have CP:=U9 (LD hr (by omega) (v1.get k));have D:=U9 (Vb d (Vb q (Vb I p)));have κ:=U9 hr;clear d q I p DW hr O;have k0:(0:Int)<=(k:Int):=by omega
   have k6:(k:Int)<6:=by omega
   go_wp2_with fail;refine CP.o.mono ?_;rintro r R ⟨⟨i,rfl,hi⟩,C⟩;have HI:=U9 hi;have Z:L.length+(Ls k).length<=c:=by
    have T:=D.o.2.1;have S:=HH.o.cnt;have h3:=zP (λj=>(Ls j).length) (show k+1<=6 by omega);rw[ut,S]at h3;simp only[sO]at h3;omega
   have HC:=U9 V;clear U V ζ hl CP;replace C:=U9 C;have J:∀(A2:Option Addr) (c2:Nat),Rd R R.heap.size 15 A2 ((Ls k).drop i).length (cC mw ((Ls k).drop i))->∃Q w',(iy 182 182 u7 (.slice A2 ((Ls k).length-i) c2)).run prog R=.ok (.value Q) w'/\kI w' W0.heap.size Q (L++(Ls k).drop i)/\Ys W0 w':=λA2 c2 E=>by
    obtain⟨Q,w',T,S,h3,h4,-⟩:=kI.app 182 (Row.call D.o.1 C.o) (cap:=c2) E (by rw[VS];omega) (by have:=D.o.2.2.2.size;have:=C.o.size;omega);rw[VS]at T;exact⟨Q,w',T,S,(D.o.2.2.2.trans (C.o.mono D.o.2.2.2.size)).trans h3.below⟩
   have HL:=U9 Z;have HN:L.length+((Ls k).length-i)<=sO (λj=>(Ls j).length) (k+1):=by
    have T:=D.o.2.1;simp only[sO];omega
   have HO:∀x∈L++(Ls k).drop i,x.e.ok:=λx hx=>by
    rcases Vw.1 hx with hx|hx
    ·exact D.o.2.2.1 x hx
    ·exact(HH.o.ok k s x (Wr hx)).1
   have HX:=U9 (Vb HN HO);clear HN HO Z η;by_cases ψ:ck=i
   ·obtain⟨Q,w3,δ,m,H⟩:=J Ak 0 (Kk eK (by omega))
    have H3:=U9 (Vb m H);clear J m H hi;go_wp2_with fail;go_roundw
    case rel=>exact⟨k+1,L++(Ls k).drop i,by omega,by go_num,H3.o.1,by rw[Vl,VS];exact HX.o.1,HX.o.2,H3.o.2⟩
    case measure=>simp[intOf];omega
   ·obtain⟨Q,w3,δ,m,H⟩:=J (Ak.map λx=>x.add (i*15)) (ck-i) (Gb eK (Row.call κ.o C.o) HI.o)
    have H3:=U9 (Vb m H);clear J m H hi;go_wp2_with fail;go_roundw
    case rel=>exact⟨k+1,L++(Ls k).drop i,by omega,by go_num,H3.o.1,by rw[Vl,VS];exact HX.o.1,HX.o.2,H3.o.2⟩
    case measure=>simp[intOf];omega
  ·obtain rfl:k=6:=by omega
   have ω:L.length<=c:=by rw[ut,HH.o.cnt]at q;exact q
   obtain⟨A7,c7,rfl,π,ξ⟩:=d.sl;have CS:=U9 (Ly d (by omega));have D:=U9 (Vb d (Vb I p));clear d I p q;go_wp2_with fail;refine CS.o.mono ?_;rintro r R ⟨rfl,G,hG,hp,hg⟩;have HG:=U9 (Vb hG (Vb hp ((Vd _ _).grown hg D.o.2.2.size λk hk=>(hG.ge k hk).1)));have hl:=hp.length_eq;clear hG hp hg CS;obtain⟨M,hM⟩:∃M:Nat,max (min n (G.length:Int)) 0=(M:Int):=⟨(max (min n (G.length:Int)) 0).toNat,by omega⟩;have Γ:M<=G.length:=by omega
   have HM:=U9 hM;clear hM;go_wp2_with fail;rw[HM.o,Yn]
   go_loopw [6,11,42,43,44,45,46,47,48,49,50,51] (λv6 _ i _ _ _ _ _ _ _ _ _ X=>∃k:Nat,k<=M/\i=.int .i64 k/\dr X R.heap.size v6 ((G.take k).map (·.e))/\Ys R X) (λ_ _ i _ _ _ _ _ _ _ _ _ _=>M-(intOf i).toNat)
   case atStart=>exact⟨0,by omega,rfl,Row.nil,Vd _ _⟩
   case round=>
    obtain⟨k,hk,rfl,d,p⟩:=hrel;by_cases s:k<M
    ·have hd:decide ((k:Int)<(M:Int))=true:=Vg (by omega)
     obtain⟨y,hy⟩:∃y,G[k]? =some y:=⟨G[k],Ve (by omega)⟩;obtain⟨g,cap,hs,W,θ,μ,υ⟩:=HG.o.1.sl_pos (by omega);obtain⟨rfl,ι⟩:A7=some ⟨g,0,none⟩/\c7=cap:=by injection hs with a b c;exact⟨a,c⟩
     have E:=(Row.call HG.o.1 p);rw[hl]at E;have ε:=E.rng eK hy;have σ:=aY (P:=prog) ε underlying234 rfl (oD y);obtain⟨W1,φ,Y,D1,z1⟩:=DQ y wr;have ν:=aY (P:=prog) (Lh Y) underlying53 rfl (bY y.e);have D2:Ys W1 (W1.alloc (.cells (ao y.e) 53)):=(Vd _ _).alloc (Vc _) _;have B2:ai (W1.alloc (.cells (ao y.e) 53)) W1.heap.size 53 (ao y.e):=ai.new _ _ _;obtain⟨Q,w6,k1,k2,k3,-,-⟩:=dr.app 132 (Row.call (Row.call d D1) D2) (A:=some ⟨W1.heap.size,0,none⟩) (cap:=1) (dU dO B2) (by rw[Wd,VI];simp;omega) (by have:=p.size;have:=D1.size;have:=D2.size;omega);simp only[VB,VR,Vk,z1]at k1;have β:Ys R w6:=((p.trans (D1.mono p.size)).trans (D2.mono (by have:=p.size;have:=D1.size;omega))).trans k3.below;have H6:=U9 (Vb k2 β);have k0:(0:Int)<=(k:Int):=by omega
     have kM:(k:Int)<(M:Int):=by omega
     have HY:=U9 hy;clear k2 k3 β D1 D2 B2 d p hs W θ μ ι E ε hy;go_wp2_with fail;go_roundw
     case rel=>
      refine⟨k+1,by omega,by go_num,?_,H6.o.2⟩;rw[VN,HY.o];simpa using H6.o.1
     case measure=>simp[intOf];omega
    ·obtain rfl:k=M:=by omega
     have α:=U9 (Vb d p);clear d p;go_wp2_with fail;go_ret;refine⟨_,_,rfl,α.o.1.mono ?_,?_,λe he=>?_,?_⟩
     ·have:=K.o.size;have:=D.o.2.2.size;have:=HG.o.2.2.size;omega
     ·rw[Wd,VI];omega
     ·obtain⟨x,hx,rfl⟩:=VJ.1 he
      exact D.o.2.1 x (HG.o.2.1.symm.subset (Ws hx))
     ·have T:=K.o.trans (D.o.2.2.mono K.o.size)
      have S:=T.trans (HG.o.2.2.mono K.o.size);exact S.trans (α.o.2.mono S.size)
theorem LI{q:Nat}{v:Nat->Yv}{Ls:Nat->List It}(m:Ni w q f)(h:gv w base b v Ls kn c)(J:c<=900000)(H:k<6)(n:Int):Yt 219 #[Yr q,.int .i64 ((k:Int)+1),Yr b,.int .i64 n] w λr w'=>∃u L,r=.returned u/\dr w' w.heap.size u L/\L.length<=c/\(∀e∈L,e.ok)/\Ys w w':=by
 have G:=U9 (UJ m H);have I:=U9 h;clear m h;go_enter func219,ntmps219;go_wp2_with fail;refine G.o.mono ?_;rintro r M ⟨rfl,j⟩;have d:=U9 j;have E:=U9 (LC (I.o.call j) J (pv f k) n);clear j G;go_wp2_with fail;refine E.o.mono ?_;rintro r K ⟨u,L,rfl,C,p,D,s⟩;have a:=U9 (Vb C (Vb p (Vb D s)));clear C p D s E;go_wp2_with fail;go_ret;exact⟨u,L,rfl,a.o.1.mono d.o.size,a.o.2.1,a.o.2.2.1,d.o.trans (a.o.2.2.2.mono d.o.size)⟩
theorem Hl(x:Int)(b:Bool)(a:decide (1<=x/\x<=1125899906842624)=b)(w:Yu):Yt 265 #[.int .i64 x] w λr w'=>r=.returned (.bool b)/\w'=w:=by
 by_cases e:1<=x
 ·by_cases d:x<=1125899906842624
  ·go_enter func265,ntmps265
   go_wp2_with fail;go_ret;exact⟨by rw[<-a];simp[e,d],rfl⟩
  ·go_enter func265,ntmps265
   go_wp2_with fail;go_ret;exact⟨by rw[<-a];simp[d],rfl⟩
 ·go_enter func265,ntmps265
  go_wp2_with fail;go_ret;exact⟨by rw[<-a];simp;omega,rfl⟩
def iE(x y:Int):Int:=if 1<=x/\x<=1125899906842624/\1<=y/\y<=1125899906842624 then min y ((x+1)/2)else 0
theorem Mw(x y:Int)(w:Yu):Yt 252 #[.int .i64 x,.int .i64 y] w λr w'=>r=.returned (.int .i64 (iE x y))/\w'=w:=by
 by_cases h:1<=x/\x<=1125899906842624
 ·have m:=U9 λW=>Hl x true (by simp[h]) W
  by_cases j:1<=y/\y<=1125899906842624
  ·have n:=U9 λW=>Hl y true (by simp[j]) W
   have a:iE x y=min y ((x+1)/2):=by unfold iE;rw[Vh ⟨h.1,h.2,j.1,j.2⟩]
   have C:IntKind.i64.wrap (x+1)=x+1:=VE _ (by omega);have q:(x+1).tdiv 2=(x+1)/2:=WJ (by omega);have s:IntKind.i64.wrap ((x+1)/2)=(x+1)/2:=VE _ (by omega);obtain⟨d,p⟩:∃d,(x+1)/2=d:=⟨_,rfl⟩;rw[p]at s q a;rw[a];clear a h j p;go_enter func252,ntmps252;go_wp2_with (first|(go_at_call 265;refine(m.o _).mono ?_;rintro e w' ⟨rfl,rfl⟩)|(go_at_call 265;refine(n.o _).mono ?_;rintro e w' ⟨rfl,rfl⟩));go_ret;exact⟨rfl,rfl⟩
  ·have n:=U9 λW=>Hl y false (by simp;omega) W
   have a:iE x y=0:=by unfold iE;rw[Vf (by omega)]
   rw[a];clear a h j;go_enter func252,ntmps252;go_wp2_with (first|(go_at_call 265;refine(m.o _).mono ?_;rintro e w' ⟨rfl,rfl⟩)|(go_at_call 265;refine(n.o _).mono ?_;rintro e w' ⟨rfl,rfl⟩));go_ret;exact⟨rfl,rfl⟩
 ·have m:=U9 λW=>Hl x false (by simp;omega) W
  have a:iE x y=0:=by unfold iE;rw[Vf (by omega)]
  rw[a];clear a h;go_enter func252,ntmps252;go_wp2_with (go_at_call 265;refine(m.o _).mono ?_;rintro e w' ⟨rfl,rfl⟩);go_ret;exact⟨rfl,rfl⟩
theorem vt(x:Nd)(W:Yu):∃a,(eR 82 (Yr W.heap.size) (.agg (jG x))).run prog (W.alloc (.cells (jG Nd.zero) 82))=.ok .skip a/\ai a W.heap.size 82 (jG x)/\Ys W a/\a.heap.size=W.heap.size+1:=by
 have d:ai (W.alloc (.cells (jG Nd.zero) 82)) W.heap.size 82 (jG Nd.zero):=ai.new _ _ _;exact⟨_,bX d (ki x) (by rw[eJ,eJ]) (Gp x),ax d (jG x),(aM _ _ _).below ((Vd _ _).alloc (Vc _) _) (Vc _) (λ_ h=>by cases h),by simp[World.setRow]⟩
theorem Mv{bi bs bn:Nat}(E:aD w [(bi,3,#[.int .i64 i]),(bs,38,cy inn kn vN vG),(bn,32,#[.int .u64 node])])(Y:eM w base vN N)(hn:N.length<=1000000)(M:k<6):
  Yt 247 #[.int .i64 ((k:Int)+1),Yr bi,Yr bs,Yr bn] w λr w'=>(∃n:Int,r=.returned (.int .i64 n))/\Ys w w':=by
 obtain⟨A,c,rfl,hc,hm⟩:=Y.sl;have HN:=U9 Y;have HB:=U9 E;obtain⟨G,J,Q,O,Z,T,-⟩:=E.rules;obtain⟨l0,l1,l2,-⟩:=E.lts;have D:=BO inn kn (.slice A N.length c) vG k M;have X:=tZ inn kn (.slice A N.length c) vG k M;have e1:IntKind.i64.wrap (k:Int)=(k:Int):=VE _ (by omega);have k0:(0:Int)<=(k:Int):=by omega
 have k6:(k:Int)<6:=by omega
 clear E Y;by_cases s:(k:Int)+1=i
 ·have d1:((k:Int)+1==i)=true:=by simp[s]
  clear s;go_enter func247,ntmps247;go_wp2_with fail;go_ret;exact⟨⟨_,rfl⟩,Vd _ _⟩
 have d1:((k:Int)+1==i)=false:=by simpa using s
 clear s;rcases H:inn k with _|_
 ·rw[H]at D
  go_enter func247,ntmps247;go_wp2_with fail;go_ret;exact⟨⟨_,rfl⟩,Vd _ _⟩
 rcases h3:inn (6+k)with _|_;rotate_left
 ·rw[H]at D
  rw[h3]at X;go_enter func247,ntmps247;go_wp2_with fail;go_ret;exact⟨⟨_,rfl⟩,Vd _ _⟩
 rw[H]at D;rw[h3]at X;go_enter func247,ntmps247;go_wp2_with fail;clear D X G J Q O Z T l0 l1 l2 d1
 go_loopw [5,29] (λv5 v wr=>∃(d:Nat) (n:Int),d<=N.length/\v=.int .i64 d/\v5=.int .i64 n/\Ys w wr) (λ_ v _=>N.length-(intOf v).toNat)
 case atStart=>exact⟨0,_,by omega,rfl,rfl,Vd _ _⟩
 case round=>
  obtain⟨d,n,β,rfl,rfl,e⟩:=hrel;by_cases α:d<N.length
  ·have hd:decide ((d:Int)<N.length)=true:=Vg (by omega)
   obtain⟨y,hy⟩:∃y,N[d]? =some y:=⟨N[d],Ve (by omega)⟩;obtain⟨g,cap,hs,m,R,U,γ⟩:=HN.o.sl_pos (by omega);obtain⟨rfl,L⟩:A=some ⟨g,0,none⟩/\c=cap:=by injection hs with a b c;exact⟨a,c⟩
   have p:=(Row.call HN.o e).rng eJ hy;have S:=aY (P:=prog) p underlying82 rfl (ki y);obtain⟨W1,K,C,I,z1⟩:=vt y wr;have V:=fG (w:=W1) (g:=wr.heap.size) (o:=2) (f:=y.r) (λj u hu=>by rw[C.cell,Iw];exact hu);have R1:=(HB.o.call (e.trans (I.mono e.size))).rules;obtain⟨G,J,Q,O,Z,T,-⟩:=R1;have q3:=C.cell;have f3:=C.frozen;have y0:=Cv y;have l3:=C.lt;have C1:=U9 (mE y.r k M W1);have W:=U9 (e.trans (I.mono e.size));have i0:(0:Int)<=(d:Int):=by omega
   have iN:(d:Int)<(N.length:Int):=by omega
   clear e I p hs m R U L hy;by_cases hid:y.id=node
   ·have h:(y.id==node)=true:=by simp[hid]
    clear hid;go_wp2_with fail;refine C1.o.mono ?_;rintro r w2 ⟨rfl,q⟩;have H2:=U9 (W.o.trans (q.mono W.o.size));clear C1 q G J Q O Z T q3 f3 V K S y0 l3;go_wp2_with fail;go_roundw
    case rel=>exact⟨d+1,_,by omega,by go_num,rfl,H2.o⟩
    case measure=>simp[intOf];omega
   ·have h:(y.id==node)=false:=by simpa using hid
    clear hid;go_wp2_with fail;go_roundw
    case rel=>exact⟨d+1,_,by omega,by go_num,rfl,W.o⟩
    case measure=>simp[intOf];omega
  ·obtain rfl:d=N.length:=by omega
   go_wp2_with fail;go_ret;exact⟨⟨_,rfl⟩,e⟩
theorem PW{D bs C:Nat}(H:aD w [(D,3,#[.int .i64 i]),(bs,38,cy inn kn vN vG),(C,32,#[.int .u64 node])])(I:eM w base vN N)(O:N.length<=1000000):
  Yt 246 #[.func (.func 247) #[] #[Yr D,Yr bs,Yr C]] w λr w'=>(∃n:Int,0<=n/\n<=6/\r=.returned (.int .i64 n))/\Ys w w':=by
 have K:=U9 H;have L:=U9 I;clear H I;go_enter func246,ntmps246;go_wp2_with fail
 go_loopw [2,3,4] (λv2 v3 M wr=>∃(k:Nat) (n m:Int),k<=6/\M=.int .i64 ((k:Int)+1)/\v3=.int .i64 m/\v2=.int .i64 n/\0<=n/\n<=6/\Ys w wr) (λ_ _ v _=>7-(intOf v).toNat)
 case atStart=>exact⟨0,0,0,by omega,rfl,rfl,rfl,by omega,by omega,Vd _ _⟩
 case round=>
  obtain⟨k,n,m,Q,rfl,rfl,rfl,q,p,d⟩:=hrel;by_cases e:k<6
  ·have P:decide ((k:Int)+1<=6)=true:=Vg (by omega)
   have R:IntKind.i64.wrap ((k:Int)+1+1)=(k:Int)+1+1:=VE _ (by omega);have E:=U9 (Mv (K.o.call d) (Row.call L.o d) O e);have J:=U9 d;clear d;go_wp2_with fail;refine E.o.mono ?_;rintro r S ⟨⟨x,rfl⟩,s⟩;have G:=U9 (J.o.trans (s.mono J.o.size));clear s E;by_cases a:x>m
   ·have h:decide (x>m)=true:=Vg a
    have j:decide (m<x)=true:=Vg a;clear a;go_wp2_with fail;go_roundw
    case rel=>exact⟨k+1,(k:Int)+1,x,by omega,by go_num,rfl,rfl,by omega,by omega,G.o⟩
    case measure=>simp[intOf];omega
   ·have h:decide (x>m)=false:=Vj a
    have j:decide (m<x)=false:=Vj a;clear a;go_wp2_with fail;go_roundw
    case rel=>exact⟨k+1,n,m,by omega,by go_num,rfl,rfl,by omega,by omega,G.o⟩
    case measure=>simp[intOf];omega
  ·obtain rfl:k=6:=by omega
   go_wp2_with fail;go_ret;exact⟨⟨n,q,p,rfl⟩,d⟩
theorem PX(D:eM w base vN N)(I:N.length<=1000000):
  Yt 221 #[.agg (cy inn kn vN vG),.int .i64 i,.int .u64 node] w λr w'=>(∃n:Int,0<=n/\n<=6/\r=.returned (.int .i64 n))/\Ys w w':=by
 have C:Ys w (w.alloc (.cells (cy inn kn vN vG) 38)):=(Vd _ _).alloc (Vc _) _;have d:aD (w.alloc (.cells (cy inn kn vN vG) 38)) [(w.heap.size,38,cy inn kn vN vG)]:=aD.nil.push rfl;have j:=d.push (t:=3) (cs:=#[.int .i64 i]) (g:=w.heap.size+1) (by simp);have s:=j.push (t:=32) (cs:=#[.int .u64 node]) (g:=w.heap.size+2) (by simp);have q:=(C.alloc (by simp) (.cells #[.int .i64 i] 3)).alloc (by simp;omega) (.cells #[.int .u64 node] 32);have a:=U9 (Vb s q);generalize K:((w.alloc (.cells (cy inn kn vN vG) 38)).alloc (.cells #[.int .i64 i] 3)).alloc (.cells #[.int .u64 node] 32)=W at a;have e:aD W [(w.heap.size+1,3,#[.int .i64 i]),(w.heap.size,38,cy inn kn vN vG),(w.heap.size+2,32,#[.int .u64 node])]:=a.o.1.perm (by
  intro x E;simp only[Vy,WM,WR]at E⊢;rcases E with h|h|h<;>simp[h])
 have m:=U9 (PW e (Row.call D a.o.2) I);clear e;clear C d j s q D;go_enter func221,ntmps221;go_wp2_with fail;refine m.o.mono ?_;rintro r L ⟨⟨n,J,H,rfl⟩,p⟩;have G:=U9 (a.o.2.trans (p.mono a.o.2.size));clear p m a;go_wp2_with fail;go_ret;exact⟨⟨n,J,H,rfl⟩,G.o⟩
theorem AF(x:Int):∀u∈(oB x).toList,u.oneCell'=true:=by intro u a;simp[oB]at a;subst a;rfl
abbrev tC(w:Yu)(base:Nat)(v:Yv)(L:List Int):Prop:=Row w base 3 1 oB v L
theorem GH:(prog.info? 3).map (λi=>(i.zero,i.size,i.bytes))=some (some (.int .i64 0),1,8):=by kernel_rfl
theorem tC.app(ty:Yw){L M:List Int}(h:tC w base v L)(n:Rd w B 1 A M.length (cC oB M))(q:L.length+M.length<=1000000)(a:base<=w.heap.size):
  ∃d w',(iy 43 ty v (.slice A M.length cap)).run prog w=.ok (.value d) w'/\tC w' base d (L++M)/\Kt base [3] w w'/\w.grownBy w' v.ownBlock/\(d.ownBlock=v.ownBlock\/∀b,d.ownBlock=some b->w.heap.size<=b):=by
 obtain⟨e,p,j,m,o⟩:=V7 GH;exact Row.app w 43 ty e _ 8 underlying43 p j m o rfl (by decide) iW AF h (cap:=cap) n q (by decide) a
section
variable(ρ:Yx->Yv)(dst:Option Tmp)(x y:Yx)(ty:Yw)(pos:String)(after:Array Edge)(guard:Option (Nat×Bool))
@[go_sem ↓ high] theorem LV:execOp ρ {dst,op:=.call {callee:=.builtin .append,args:=#[x,y],argTypes:=#[43,43]},type:=ty,pos,after,guard}=iy 43 ty (ρ x) (ρ y):=by simp[execOp,iy,resolve,invoke,builtin]
@[go_sem ↓ high] theorem Jb:execOp ρ {dst,op:=.buildSlice 43 1 #[(0,x)],type:=ty,pos,after,guard}=iJ 43 (ρ x):=by simp[execOp,iJ]
@[go_sem ↓ high] theorem I6:execOp ρ {dst,op:=.load 31 x,type:=ty,pos,after,guard}=dR 31 (ρ x):=by simp[execOp,dR]
end
@[go_sem] theorem NX(x:Int)(w:Yu):(iJ 43 (.int .i64 x)).run prog w=.ok (.value (.slice (some ⟨w.heap.size,0,none⟩) 1 1)) (w.alloc (.cells (oB x) 3)):=by kernel_rfl
theorem sI(f:Nat->Bool)(k:Nat)(h:k<6)(w:Yu):(Instr.index 31 (.agg #[.bool (f 0),.bool (f 1),.bool (f 2),.bool (f 3),.bool (f 4),.bool (f 5)]) (.int .i64 (k:Int))).run prog w=.ok (.bool (f k)) w:=
 av.six (P:=λk=>(Instr.index 31 (.agg #[.bool (f 0),.bool (f 1),.bool (f 2),.bool (f 3),.bool (f 4),.bool (f 5)]) (.int .i64 (k:Int))).run prog w=.ok (.bool (f k)) w) (by kernel_rfl) (by kernel_rfl) (by kernel_rfl) (by kernel_rfl) (by kernel_rfl) (by kernel_rfl) k h
theorem Dm{x y:Yv}(h:ai w g 38 (cy inn kn x y)):(dR 31 (Yr g)).run prog w=.ok (.value (.agg #[.bool (inn 0),.bool (inn 1),.bool (inn 2),.bool (inn 3),.bool (inn 4),.bool (inn 5)])) w:=by
 refine aY (λi u a=>?_) underlying31 rfl (by show _=some 6;kernel_rfl);rw[Vk,h.cell];have d:i<6:=(Vv.1 a).1;rw[BO _ _ _ _ i d];have:i=0\/i=1\/i=2\/i=3\/i=4\/i=5:=by omega
 rcases this with rfl|rfl|rfl|rfl|rfl|rfl<;>exact a
theorem Ix:Yt 209 #[.agg (cy inn kn vN vG)] w λr w'=>∃u L,r=.returned u/\tC w' w.heap.size u L/\L.length<=6/\(∀x∈L,1<=x/\x<=6)/\Ys w w':=by
 have E:Ys w (w.alloc (.cells (cy inn kn vN vG) 38)):=(Vd _ _).alloc (Vc _) _;have s:=ai.new w 38 (cy inn kn vN vG);have n:=Dm s;generalize Q:w.alloc (.cells (cy inn kn vN vG) 38)=W0 at n E s;have G:=U9 E;have R:=U9 s;clear E s;go_enter func209,ntmps209;go_wp2_with fail;clear n Q
 go_loopw [2,7] (λv2 i wr=>∃(k:Nat) (L:List Int),k<=6/\i=.int .i64 k/\tC wr W0.heap.size v2 L/\L.length<=k/\(∀x∈L,1<=x/\x<=6)/\Ys W0 wr) (λ_ i _=>6-(intOf i).toNat)
 case atStart=>exact⟨0,[],by omega,rfl,Row.nil,by simp,by simp,Vd _ _⟩
 case round=>
  obtain⟨k,L,X,rfl,a,m,q,e⟩:=hrel;by_cases j:k<6
  ·have S:decide ((k:Int)<6)=true:=Vg (by omega)
   have h:=sI inn k j wr;have C:=R.o.call e;have T:=C.cell;have W:=C.frozen;have Z:=C.lt;have M:=tZ inn kn vN vG k j;have e1:IntKind.i64.wrap ((k:Int)+1)=(k:Int)+1:=VE _ (by omega);have Y:(0:Int)<=(k:Int):=by omega
   have k6:(k:Int)<6:=by omega
   have p:Ys wr (wr.alloc (.cells (oB ((k:Int)+1)) 3)):=(Vd _ _).alloc (Vc _) _;have O:ai (wr.alloc (.cells (oB ((k:Int)+1)) 3)) wr.heap.size 3 (oB ((k:Int)+1)):=ai.new _ _ _;obtain⟨U,V,P,K,I,-,-⟩:=tC.app 43 (Row.call a p) (A:=some ⟨wr.heap.size,0,none⟩) (cap:=1) (dU iW O) (by simp;omega) (by have:=e.size;have:=p.size;omega);simp only[VB,VR,Vk]at P;have H:=U9 (Vb K ((e.trans (p.mono e.size)).trans I.below));have d:=U9 (Vb a (Vb q e));clear K I p O C a q e;rcases D:inn k with _|_
   ·rw[D]at h
    go_wp2_with fail;go_roundw
    case rel=>exact⟨k+1,L,by omega,by go_num,d.o.1,by omega,d.o.2.1,d.o.2.2⟩
    case measure=>simp[intOf];omega
   rcases J:inn (6+k)with _|_
   ·rw[D]at h
    rw[J]at M;go_wp2_with fail;go_roundw
    case rel=>
     refine⟨k+1,L++[(k:Int)+1],by omega,by go_num,H.o.1,by simp;omega,λx hx=>?_,H.o.2⟩;rcases Vw.1 hx with hx|hx
     ·exact d.o.2.1 x hx
     ·rw[VH.1 hx];omega
    case measure=>simp[intOf];omega
   ·rw[D]at h
    rw[J]at M;go_wp2_with fail;go_roundw
    case rel=>exact⟨k+1,L,by omega,by go_num,d.o.1,by omega,d.o.2.1,d.o.2.2⟩
    case measure=>simp[intOf];omega
  ·obtain rfl:k=6:=by omega
   have d:=U9 (Vb a (Vb q e));clear a q e;go_wp2_with fail;go_ret;exact⟨_,L,rfl,d.o.1.mono G.o.size,m,d.o.2.1,G.o.trans (d.o.2.2.mono G.o.size)⟩
section
variable{w:Yu}{base:Nat}{v:Yv}{l:List Int}
theorem JJ(h:tC w base v l)(Q:l.length<=1000000)(x:Int):Yt 229 #[v,.int .i64 x] w λr w'=>∃n:Int,r=.returned (.int .i64 n)/\(0<=n↔x∈l)/\w=w':=by
 obtain⟨A,c,rfl,R,hm⟩:=h.sl;have H:=U9 h;clear h;go_enter func229,ntmps229;go_wp2_with fail
 go_loop [8] (λi=>∃k:Nat,k<=l.length/\i=.int .i64 k/\x∉l.take k) (λi=>l.length-(intOf i).toNat)
 case atStart=>exact⟨0,by omega,rfl,by simp⟩
 case round=>
  obtain⟨k,P,rfl,s⟩:=hrel;by_cases C:k<l.length
  ·obtain⟨y,I⟩:∃y,l[k]? =some y:=⟨l[k],Ve C⟩
   obtain⟨g,cap,J,m,G,M,L⟩:=H.o.sl_pos (by omega);have e:=H.o;rw[J]at e;have p:=e.rng iW I;obtain⟨rfl,E⟩:A=some ⟨g,0,none⟩/\c=cap:=by injection J with a b c;exact⟨a,c⟩
   have K:w.cell? ⟨g,k,none⟩=some (.int .i64 y):=by have this:=p 0 (.int .i64 y) rfl;rw[V3]at this;exact this
   have O:decide ((k:Int)<l.length)=true:=Vg (by omega);have q:=U9 (Vb s I);clear e p J m G E s I;by_cases d:x=y
   ·have D:(x==y)=true:=by simp[d]
    have j:=U9 d;clear d;go_wp2_with fail;go_ret;exact⟨_,rfl,⟨λ_=>j.o▸Vn q.o.2,λ_=>by omega⟩,rfl⟩
   ·have D:(x==y)=false:=by simpa using d
    have j:=U9 d;clear d;go_wp2_with fail
    go_round
    case rel=>
     refine⟨k+1,by omega,by simp,λhm=>?_⟩;rw[VN,q.o.2]at hm;rcases Vw.1 hm with hm|hm
     ·exact q.o.1 hm
     ·exact j.o (by simpa using hm)
    case measure=>simp[intOf];omega
  ·obtain rfl:k=l.length:=by omega
   have q:=U9 s;clear s;go_wp2_with fail;go_ret;refine⟨_,rfl,⟨λh=>by omega,λh=>?_⟩,rfl⟩;have:=q.o;rw[WN]at this;exact absurd h this
theorem mT(h:tC w base v l)(d:l.length<=1000000)(x:Int)(b:Bool)(a:decide (x∈l)=b):Yt 210 #[v,.int .i64 x] w λr w'=>r=.returned (.bool b)/\w=w':=by
 have j:=U9 (JJ h d x);have e:=U9 a;obtain⟨A,c,rfl,s,p⟩:=h.sl;clear h a;go_enter func210,ntmps210;go_wp2_with fail;refine j.o.mono ?_;rintro r q ⟨n,rfl,m,rfl⟩;go_wp2_with fail;go_ret;refine⟨?_,rfl⟩;rw[<-e.o];simp[m]
end
end
