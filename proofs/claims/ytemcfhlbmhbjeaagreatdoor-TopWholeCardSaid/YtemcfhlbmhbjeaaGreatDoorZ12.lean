import Derived.Test.YtemcfhlbmhbjeaaGreatDoorZ11
set_option maxRecDepth 100000
set_option maxHeartbeats 0
set_option linter.all false
namespace Go.Proofs.YtemcfhlbmhbjeaaGreatDoor
open Go.Proofs.Tryz
variable{w:D}{g:Nat}{t:ay}{old:Array H}
open Go Go.RowKit
section
variable(inn:Nat->Bool)(kn:an)(t pm rm:Nat)(ow:an)(gm qm:Nat)
@[go_sem] theorem ad0:(di inn kn t pm rm ow gm qm)[0]? =some (.bool (inn 0)):=rfl
@[go_sem] theorem adZ:(di inn kn t pm rm ow gm qm)[1]? =some (.bool (inn 1)):=rfl
@[go_sem] theorem adY:(di inn kn t pm rm ow gm qm)[2]? =some (.bool (inn 2)):=rfl
@[go_sem] theorem adX:(di inn kn t pm rm ow gm qm)[3]? =some (.bool (inn 3)):=rfl
@[go_sem] theorem adW:(di inn kn t pm rm ow gm qm)[4]? =some (.bool (inn 4)):=rfl
@[go_sem] theorem adV:(di inn kn t pm rm ow gm qm)[5]? =some (.bool (inn 5)):=rfl
@[go_sem] theorem adU:(di inn kn t pm rm ow gm qm)[6]? =some (.bool (inn 6)):=rfl
@[go_sem] theorem adT:(di inn kn t pm rm ow gm qm)[7]? =some (.bool (inn 7)):=rfl
@[go_sem] theorem adS:(di inn kn t pm rm ow gm qm)[8]? =some (.bool (inn 8)):=rfl
@[go_sem] theorem adR:(di inn kn t pm rm ow gm qm)[9]? =some (.bool (inn 9)):=rfl
@[go_sem] theorem adz:(di inn kn t pm rm ow gm qm)[10]? =some (.bool (inn 10)):=rfl
@[go_sem] theorem ady:(di inn kn t pm rm ow gm qm)[11]? =some (.bool (inn 11)):=rfl
end
def aT(inn:Nat->Bool)(kn:an)(x y:H):Array H:=
 #[.bool (inn 0),.bool (inn 1),.bool (inn 2),.bool (inn 3),.bool (inn 4),.bool (inn 5),.bool (inn 6),.bool (inn 7),.bool (inn 8),.bool (inn 9),.bool (inn 10),.bool (inn 11),
  q kn.v0,q kn.v1,q kn.v2,q kn.v3,q kn.v4,q kn.v5,x,y]
section
variable(inn:Nat->Bool)(kn:an)(x y aeU:H)
def Ow:(aT inn kn x y).size=20:=rfl
def FO(k:Nat)(h:k<6):(aT inn kn x y)[k]? =some (.bool (inn k)):=an.six (P:=λk=>(aT inn kn x y)[k]? =some (.bool (inn k))) O O O O O O k h
def KN(k:Nat)(h:k<6):(aT inn kn x y)[6+k]? =some (.bool (inn (6+k))):=an.six (P:=λk=>(aT inn kn x y)[6+k]? =some (.bool (inn (6+k)))) O O O O O O k h
@[go_sem] theorem adL:(aT inn kn x y)[12]? =some (q kn.v0):=rfl
@[go_sem] theorem adK:(aT inn kn x y)[13]? =some (q kn.v1):=rfl
@[go_sem] theorem adJ:(aT inn kn x y)[14]? =some (q kn.v2):=rfl
@[go_sem] theorem adI:(aT inn kn x y)[15]? =some (q kn.v3):=rfl
@[go_sem] theorem adH:(aT inn kn x y)[16]? =some (q kn.v4):=rfl
@[go_sem] theorem adG:(aT inn kn x y)[17]? =some (q kn.v5):=rfl
@[go_sem] theorem FQ:(aT inn kn x y)[18]? =some x:=rfl
@[go_sem] theorem FP:(aT inn kn x y)[19]? =some y:=rfl
@[go_sem] theorem MN:(aT inn kn x y).setIfInBounds 18 aeU=aT inn kn aeU y:=rfl
@[go_sem] theorem MM:(aT inn kn x y).setIfInBounds 19 aeU=aT inn kn x aeU:=rfl
end
def im(inn:Nat->Bool)(kn:an)(x y:H):(prog.info? 37).map (·.size)=some (aT inn kn x y).size:=by rw[Ow];kernel_rfl
@[go_sem ↓ high] def abO:=@iY 37
@[go_sem ↓ high] def abf:=@jC 37
def ft{P:Program}{ty:ay}{cs:Array H}(d:M w g t old)(f:(P.info? ty).map (·.size)=some cs.size)(a:cs.size=old.size)(c:cs.all (·.oneCell')=true):
  (eQ ty (N g) (.agg cs)).run P w=.ok .skip (w.setRow g cs):=by
 have b:=zI (P:=P) (ty:=ty) (o:=0) d f V c;rw[b];have e:(old.toList.take 0++cs.toList++old.toList.drop (0+cs.size)).toArray=cs:=by rw[yk (by simp[a])];simp
 rw[e]
def f8{P:Program}{ty:ay}{cs:Array H}{d:TypeDesc}(e:M w g t cs)(c:P.underlying ty=some d)(a:d.isRow=true)(b:(P.info? ty).map (·.size)=some cs.size):
  (dQ ty (N g)).run P w=.ok (.value (.agg cs)) w:=eO e.rng c a b
def fl(w:D)(g:Nat)(cs:Array H):aH w (w.setRow g cs) g none:=⟨O,O,O,by simp[World.setRow],λj _ a _=>lT w g j _ a⟩
def dt(a:M w g t old)(cs:Array H):M (w.setRow g cs) g t cs:=lU w g _ _ t _ a
def By(x y a:H):Sem Next:=do pure (.value (<-Instr.build 52 #[(0,x),(1,y),(2,a)]))
section
variable(ρ:aO->H)(dst:Option Tmp)(x y aeU u:aO)(ty:ay)(pos:String)(after:Array Edge)(guard:Option (Nat×Bool))
@[go_sem ↓ high] theorem aby:execOp ρ {dst,op:=.build 52 #[(0,x),(1,y),(2,aeU)],type:=ty,pos,after,guard}=By (ρ x) (ρ y) (ρ aeU):=by simp[execOp,By]
end
@[go_sem] theorem acS(a b:Int)(f:Nat->Int)(w:D):(By (q a) (q b) (.agg (aw f))).run prog w=.ok (.value (.agg (eW ⟨a,b,f⟩))) w:=Y
def Ca(x y a:H):Sem Next:=do pure (.value (<-Instr.build 37 #[(0,x),(1,y),(2,a)]))
section
variable(ρ:aO->H)(dst:Option Tmp)(x y aeU u:aO)(ty:ay)(pos:String)(after:Array Edge)(guard:Option (Nat×Bool))
@[go_sem ↓ high] theorem acb:execOp ρ {dst,op:=.build 37 #[(0,x),(1,y),(2,aeU)],type:=ty,pos,after,guard}=Ca (ρ x) (ρ y) (ρ aeU):=by simp[execOp,Ca]
end
@[go_sem] theorem ac6(e b1 b2 j h d f c i k b a:Bool)(v:an)(w:D):(Ca (.agg #[.bool e,.bool b1,.bool b2,.bool j,.bool h,.bool d]) (.agg #[.bool f,.bool c,.bool i,.bool k,.bool b,.bool a]) (.agg (aF v))).run prog w=.ok (.value (.agg #[.bool e,.bool b1,.bool b2,.bool j,.bool h,.bool d,.bool f,.bool c,.bool i,.bool k,.bool b,.bool a,q v.v0,q v.v1,q v.v2,q v.v3,q v.v4,q v.v5,.slice none 0 0,.slice none 0 0])) w:=Y
section
variable{P:Program}{Q:Exit->Act->D->Prop}
def IS{id:Nat}{a:Act}{l:List Oper}(n:Nat)(u:P.follows .mixedOrders=true)(F:n<=l.length)(y:nv .any l.toArray n=true)
  (f:Region.lexB .any (l.take n).toArray=true) (hF:mY .any l.toArray (l.drop n).length n (dM n 0 (Array.replicate l.length false))=true)
  (r:(Region.ready .any l.toArray (dM (l.drop n).length n (dM n 0 (Array.replicate l.length false)))).isEmpty=true)
  (h:wpQuiet P (l.take n).toArray (λw'=>∃m,w'=w.drewN m) (λc=>∀w',(∃m,w'=w.drewN m)->wpList P l.toArray Q (l.drop n) c w') (l.take n) a):(Code.region id l.toArray true).wp P Q a w:=by
 refine qf u ?_;simp only[Region.lexB,bZ]at f;have A:∀a w,wpList P l.toArray Q (l.drop n) a w->wpAny P .any l.toArray Q (l.drop n).length (dM n 0 (Array.replicate l.length false)) a w:=λa w d=>by
  have x:=rB (P:=P) (md:=.any) (Q:=Q) (K:=λa w=>Q .normal a w) (l.drop n).length n (dM n 0 (Array.replicate l.length false)) (l.drop n) a w 0
   (λa w v=>⟨az r,v⟩) O (λj _=>ah) hF (by rw[vV];exact d)
  exact x
 have E:=wpAnyQ_lex (P:=P) (C:=λw'=>∃m,w'=w.drewN m) (md:=.any) f.1 (l.take n) 0 (Array.replicate (l.take n).length false) a ah (az f.2) h;have B:wpAny P .any (l.take n).toArray (nB Q (λa w=>wpList P l.toArray Q (l.drop n) a w)) (l.take n).length (Array.replicate (l.take n).length false) a w.drew:=
  wpAny_of_quiet (Q:=λc=>∀w',(∃m,w'=w.drewN m)->wpList P l.toArray Q (l.drop n) c w') (λ_ w' b d=>d w' b) _ _ _ _ ⟨1,O⟩ E
 have s:(l.take n).length=n:=by simp;omega
 have p:=ug (n:=n) (m:=(l.drop n).length) F y A (l.take n).length (Array.replicate (l.take n).length false) (Array.replicate l.length false) a w.drew aQ ah
  (λi G=>by rw[hU,hU]) (λi _=>hU _ _) (λj o _ k=>by rw[hU]at k;cases k) ah B
 have e:(l.take n).length+(l.drop n).length=l.length:=by rw[<-bW,lV]
 rw[e]at p;simpa using p
end
section
open Go.BigFrame
section
variable{ops:Array Oper}{W w0:D}{bs:List (Nat×ay×Array H)}{E:List iB}{Q:Act->bN->Prop}{i:Nat}{o:Oper}{rest:List Oper}{a:Act}{F:bN}
def NE{f:FuncId}{args:Array H}{l:List Int}(h:Calls prog f args w (te l w)):Calls prog f args w λe c=>∃u,e=.returned u/\pv l u c/\S w c:=
 h.mono λ_ _ ⟨u,d,b,j⟩=>⟨u,d,pv.of_own b,j⟩
end
end
section
open Go.Shelf Go.Lib Go.Sort
section
variable{α:Type}[Inhabited α]{c:α->Array H}{sz base:Nat}{e:ay}{w w':D}{g n cap:Nat}{L L':List α}
def Kf(d:∀x,(c x).size=sz)(k:0<sz){t:Nat}(i:t<L.length*sz):(cZ c L)[t]? =some ((flatK (λx=>(c x).toList) sz L.toArray)[t]!):=by
 rw[get_flatK _ _ _ _ (az i)];have f:t/sz<L.length:=Nat.div_lt_of_lt_mul (by rw[ro];exact i);have a:t%sz<sz:=Nat.mod_lt _ k;have m:L[t/sz]? =some L[t/sz]:=bY f;have h:=uy d m a;rw[ro,vK]at h;rw[h];have j:L.toArray[t/sz]! =L[t/sz]:=by simp[f]
 have b:t%sz<(c L[t/sz]).toList.length:=by rw[lW,d];exact a
 have l:(c L[t/sz]).toList[t%sz]! =(c L[t/sz]).toList[t%sz]:=getElem!_pos (c L[t/sz]).toList (t%sz) b;rw[j,l,oZ (by rw[d];exact a)];simp
def KB(i:∀x,(c x).size=sz)(f:0<sz)(h:Row w base e sz c (bh g n cap) L):HoldsK (λx=>(c x).toList) sz w g 0 L.toArray:=by intro j b;have a:j<L.length*sz:=az b;refine⟨?_,h.frozen _⟩;have d:=h.cells (g:=g) O j _ (Kf i f a);simpa[mU]using d
def JO(F:∀x,(c x).size=sz)(T:0<sz)(h:Row w base e sz c (bh g n cap) L)(u:L'.length=L.length){m:Nat}{os:Array Obj}
  (f:w'=sortWorldK (λx=>(c x).toList) sz w g 0 m L'.toArray os):Row w' base e sz c (bh g n cap) L'/\w.grownBy w' (some g):=by
 obtain⟨b,J,i,R,B,-⟩:=h.blk;have W:g<w.heap.size:=M.lt J;have P:L.length*sz<=b.size:=by rw[i];exact vy _ B
 have a:∀k,k<w.heap.size->k≠g->w'.heap[k]? =w.heap[k]?:=λk s d=>by rw[f];unfold sortWorldK;rw[vI _ _ (by simpa[putRowK]using s)];show((Sort.ahead w m).heap.modify g _)[k]? =_;rw[tP,al (eC d)];rfl
 have l:M w' g e (putCells id 0 (flatK (λx=>(c x).toList) sz L'.toArray) b):=by show w'.heap[g]? =_;rw[f];unfold sortWorldK;rw[vI _ _ (by simpa[putRowK]using W)];show((Sort.ahead w m).heap.modify g _)[g]? =_;rw[tP,av rfl,show(Sort.ahead w m).heap[g]? =some (.cells b e (0,0))from J];rfl
 have v:w.grownBy w' (some g):=by refine⟨by rw[f];rfl,by rw[f];rfl,by rw[f];rfl,?_,λk s d=>a k s λe=>d (by rw[e])⟩;rw[f];show w.heap.size<=((Sort.ahead w m).heap.modify g _++os).size;rw[Array.size_append,Array.size_modify];exact mO _ _
 refine⟨?_,v⟩;have cH:(putCells id 0 (flatK (λx=>(c x).toList) sz L'.toArray) b).toList.take (L'.length*sz)=cZ c L':=by apply yz;intro t;by_cases o:t<L'.length*sz;rw[kw,av o,i5];unfold putCells;rw[vH,oZ (by rw[u]at o;omega),pX,av aQ,Kf F T o];simp;rw[kw,al o,tQ (by rw[lF F];omega)]
 obtain⟨h1,p⟩:=h;rcases p with⟨p,-⟩|⟨g',G,Q,hs,C,β,r,A,K,X⟩
 ·cases p
 injection hs with j E y;injection j with j;injection j with j _ _;subst j y;refine⟨lF F L',.inr ⟨g,cap,_,by rw[u,E],C,l,by rw[u];exact r,A,?_,cH⟩⟩;show(putCells _ _ _ _).size=_;unfold putCells;rw[Array.size_mapIdx,i]
end
end
section
open Go.Lib
def WC(x:Int)(w:D):Calls prog 91 #[Z x] w λe a=>e=.returned (.bool false)/\a=w:=by go_wp2;go_ret;exact⟨ah,O⟩
def WB(x:Int)(w:D):Calls prog 92 #[q x] w λe a=>e=.returned (.bool false)/\a=w:=by go_wp2;go_ret;exact⟨ah,O⟩
def XM(x y:Int)(w:D):Calls prog 66 #[Z x,Z y] w λe a=>e=.returned (Z (Lib.compareInt x y))/\a=w:=by
 go_in;go_wp2_with (go_at_call 91;apply(WC _ _).mono;rintro e a ⟨rfl,b⟩;rw[b])
 all_goals (go_ret;refine⟨?_,O⟩;unfold Lib.compareInt;(repeat' split)<;>first|rfl|(exfalso;omega))
def AW(x y:Int)(w:D):Calls prog 67 #[q x,q y] w λe a=>e=.returned (Z (Lib.compareInt x y))/\a=w:=by
 go_in;go_wp2_with (go_at_call 92;apply(WB _ _).mono;rintro e a ⟨rfl,b⟩;rw[b])
 all_goals (go_ret;refine⟨?_,O⟩;unfold Lib.compareInt;(repeat' split)<;>first|rfl|(exfalso;omega))
def Yy(a b:Int)(g:Nat)(w:D)(r:w.cell? (I g 0)=some (Z a))(p:w.cell? (I g 1)=some (Z b))(v:w.frozen? (I g 0)=false)(n:w.frozen? (I g 1)=false):
  Calls prog 65 #[bh g 2 2] w λe j=>e=.returned (Z (if a=0 then b else a))/\j=w:=by
 go_wp2;go_loop [8] (λi=>∃k:Nat,k<=2/\i=Z k/\(k=0\/a=0)/\(k<=1\/b=0)) (λi=>2-(intOf i).toNat);exact⟨0,V,O,V,V⟩;obtain⟨k,m,rfl,u,o⟩:=hrel;by_cases l:k=0
 ·subst l;by_cases c:a=0
  ·subst c;go_wp2;go_round;exact⟨1,V,O,ah,ah⟩;simp[intOf]
  have f:(a==0)=false:=az c;replace c:=U c;go_wp2;go_ret;exact⟨ah,O⟩
 by_cases h:k=1
 ·subst h;obtain rfl:a=0:=V;by_cases d:b=0
  ·subst d;go_wp2;go_round;exact⟨2,V,O,ah,ah⟩;simp[intOf]
  have f:(b==0)=false:=az d;clear d;go_wp2;go_ret;exact⟨ah,O⟩
 obtain rfl:k=2:=V;obtain rfl:a=0:=V;obtain rfl:b=0:=V;go_wp2;go_ret;exact⟨ah,O⟩
def sm(x y:cI):Int:=if Lib.compareInt x.o y.o=0 then Lib.compareInt x.r y.r else Lib.compareInt x.o y.o
def zV(x y:cI):Go.Proofs.ltOf sm x y= !kj y x:=by unfold Go.Proofs.ltOf sm Lib.compareInt kj;by_cases b:x.o<y.o;simp[b];omega;by_cases d:y.o<x.o;simp[b,d];have c:x.o=y.o:=V;by_cases a:x.r<y.r;simp[c,a];by_cases e:y.r<x.r<;>simp[c,a,e]<;>omega
def Sh:Go.Sort.SWO (Go.Proofs.ltOf sm) where
 irrefl x:=by rw[zV];simp[kj]
 trans x y aeU h1 h2:=by rw[zV]at*;simp[kj]at*;omega
 ntrans x y aeU h1 h2:=by rw[zV]at*;simp[kj]at*;omega
def Fp{w':D}(f:S w w')(c:w.drawn<=w'.drawn):∃a b,w'=Go.Sort.grow (w.drewN a) b:=by
 obtain⟨p,e⟩:=Go.regrown_of_below f;refine⟨w'.drawn-w.drawn,p.os,?_⟩;rw[e];rw[e]at c;have:p.d=w.drawn+(p.d-w.drawn):=by have:w.drawn<=p.d:=c;omega
 show Go.Sort.grow {w with drawn:=p.d} p.os=Go.Sort.grow {w with drawn:=w.drawn+(p.d-w.drawn)} p.os;rw[<-this]
def Ym(x y:cI)(w:D):Calls prog 64 #[.agg (bR x),.agg (bR y)] w λe E=>e=.returned (Z (sm x y))/\∃l k,E=Go.Sort.grow (w.drewN l) k:=by
 have s:=U λW=>XM x.o y.o W;have m:=U λW=>AW x.r y.r W;have p:sm x y=if Lib.compareInt x.o y.o=0 then Lib.compareInt x.r y.r else Lib.compareInt x.o y.o:=O;rw[p];clear p;generalize Lib.compareInt x.o y.o=a at s⊢;generalize Lib.compareInt x.r y.r=b at m⊢;have j:=λ(g:Nat) (W:D) G P F R=>Yy a b g W G P F R;generalize (if a=0 then b else a)=c at j⊢;replace j:=U j;go_in;go_upto_region 1 with fail;have i:aI w _ _:=((aI.nil w).push (t:=119) (cs:=bR x) O).push (t:=119) (cs:=bR y) (g:=w.heap.size+1) ah;have u:=i.rules;have v:=i.lts;generalize n:(w.alloc _).alloc _=W0 at i u v⊢;have A:=U (show w.drawn<=W0.drawn by rw[<-n];exact ao _);have B:=U i;obtain⟨L,K,C,J,-⟩:=u;obtain⟨T,Q,-⟩:=v;clear n i;refine IS 10 Y ah Y Y Y Y ?_;simp only[cR]
 iterate 10 (go_big_quiet_step (first|(go_at_call 66;with_reducible exact(s.o _).mono λ_ _ h=>⟨h.1,_,h.2⟩)|(go_at_call 67;with_reducible exact(m.o _).mono λ_ _ h=>⟨h.1,_,h.2⟩)))
 refine qa ?_;rintro _ ⟨nq,rfl⟩;have d:=U (B.o.drewN nq);have f:=U (show w.drawn<=(W0.drewN nq).drawn from aZ A.o (mO _ _));generalize W0.drewN nq=W2 at d f⊢;clear B A L K C J T Q;go_wp2_with fail;refine(j.o _ _ ?_ ?_ ?_ ?_).mono ?_;rw[(M.new _ _ _).cell];rfl;rw[(M.new _ _ _).cell];rfl;exact(M.new _ _ _).frozen _;exact(M.new _ _ _).frozen _;rintro r X ⟨rfl,rfl⟩;go_wp2;go_ret;exact⟨O,Fp ((aq _ _).trans d.o.below|>.alloc d.o.below.size _) f.o⟩
def Z0{α:Type}[Inhabited α]{lt:α->α->Bool}{d:Array α}(h:Go.Sort.SortedIn lt 0 d.size d):d.toList.Pairwise λa b=>lt b a=false:=by rw[List.pairwise_iff_getElem];intro i j f c e;have:=h i j (gM _) e (az c);simp only[lW]at f c;rw[getElem!_pos d i f,getElem!_pos d j c]at this;simpa using this
def Df{α:Type}[Inhabited α]{d a:Array α}(h:Go.Sort.PermIn 0 d.size d a):d.toList.Perm a.toList/\a.size=d.size:=by
 obtain⟨c,-,b⟩:=h;refine⟨?_,c⟩;have e:d.extract 0 d.size=d:=ah;have f:a.extract 0 d.size=a:=by rw[<-c];simp
 rw[e,f]at b;exact b.symm
end
def CY{α:Type}{le:α->α->Bool}:∀{L aeL:List α},L.Perm aeL->L.Pairwise (λa b=>le a b=true)->aeL.Pairwise (λa b=>le a b=true)->(∀a∈L,∀b∈L,le a b=true->le b a=true->a=b)->L=aeL
 |[],aeL,hp,_,_,_=>hp.nil_eq.symm▸rfl
 |a::L,aeL,hp,hl,hm,ha=>by
  cases aeL with
  |nil=>exact absurd hp.length_eq ah
  |cons b aeL=>
   have e:a=b:=by have h1:a∈b::aeL:=hp.subset cz;have h2:b∈a::L:=hp.symm.subset cz;rcases dh.1 h1 with h1|h1;exact h1;rcases dh.1 h2 with h2|h2;exact h2.symm;exact ha a cz b (dC _ h2) ((n9.1 hl).1 b h2) ((n9.1 hm).1 a h1)
   subst e;rw[CY (List.Perm.cons_inv hp) (n9.1 hl).2 (n9.1 hm).2 λx d y c=>ha x (dC _ d) y (dC _ c)]
def Ka(a b c:cI):kj a b=true->kj b c=true->kj a c=true:=by unfold kj;simp only[pY,bZ,eN];omega
def Kb(a b:cI):(kj a b||kj b a)=true:=by unfold kj;simp only[pY,bZ,eN];omega
def Ke{m:aG}(f:∀x∈m.gr,x.1=(x.2.o,x.2.r))(A:dR m.gr){G:List cI}(l:(m.gr.map (·.2)).Perm G)(u:G.Pairwise λa b=>kj a b=true):G=ec m:=by refine(CY (le:=kj) ((pU _ _).trans l) (vF Ka Kb _) u λa p b s j h=>?_).symm;have d:=(pU _ _).subset p;have c:=(pU _ _).subset s;obtain⟨x,k,rfl⟩:=dY.1 d;obtain⟨y,i,rfl⟩:=dY.1 c;have e:x=y:=A.eq k i (by rw[f x k,f y i];unfold kj at j h;simp only[pY,bZ,eN]at j h;have n:x.2.o=y.2.o:=V;have v:x.2.r=y.2.r:=V;rw[n,v]);rw[e]
instance:Inhabited cI:=⟨⟨0,0,0,0,0⟩⟩
def Vj{base:Nat}{v:H}{G:List cI}(h:iK w base v G)(R:G.length<=1000000):Calls prog 63 #[v,.func (.func 64) #[] #[]] w λr l=>r=.returned (.tuple #[])/\∃m,iK l base v m/\G.Perm m/\m.Pairwise (λa b=>kj a b=true)/\w.grownBy l v.ownBlock:=by have B:∀c w,(callFunc 64 c).run prog w=.ok (.enter 64 c) w:=kT func64 Y O;have k:∀o off size W,Go.Proofs.CmpLays prog 64 #[] (λx=>(bR x).toList) 5 sm o off size W:=λ_ _ _ _ _ _ _ _ x y=>Ym x y _;rcases yu G.length with h0|h0;have:G=[]:=tS.1 h0;subst this;obtain⟨A,i,rfl,-,-⟩:=h.sl;apply(Cw wU A i _ w).mono;rintro r l ⟨rfl,rfl⟩;exact⟨O,[],h,List.Perm.nil,vx,⟨O,O,O,ao _,λ_ _ _=>rfl⟩⟩;obtain⟨g,i,rfl,X,T,Q,p⟩:=h.sl_pos h0;have f:=AnyQ.slices_SortFunc wU 5 isAgg119 sizeOf119 (λx=>(bR x).toList) (λ_=>rfl) (λx v P=>DY x v P) sm Sh 64 #[] g 0 i G.toArray w B (k g 0 G.toArray.size w) (KB po ai h) p aQ;change Calls prog 63 _ _ _ at f;refine o4 f ?_;rintro r l ⟨rfl,j,n,os,C,K,E⟩;obtain⟨F,s⟩:=Df (d:=G.toArray) (az C);have J:j.toList.length=G.length:=az s;obtain⟨u,L⟩:=JO (L':=j.toList) po ai h J (az E);refine⟨O,j.toList,u,F,?_,L⟩;have e:j.size=G.toArray.size:=s;have:=Z0 (d:=j) (by rw[e];exact K);refine this.imp λ{a b} hab=>?_;rw[zV]at hab;simpa using hab
section
open Go.Sort
def RI{base:Nat}{v:H}{L:List Int}(h:gI w base v L)(W:L.length<=50):Calls prog 57 #[v] w λr x=>∃d,r=.returned (.tuple #[])/\gI x base v d/\d.Perm L/\w.grownBy x v.ownBlock:=by
 by_cases l:L.length<=49;exact(GV h l).mono λr x ⟨J,s,T⟩=>⟨nu L,J,s,pU L _,T⟩;have b:L.length=50:=V;obtain⟨g,A,rfl,hc,X,G,B⟩:=h.sl_pos V;obtain⟨cur,F,i,a⟩:=Gd h;have c:L.toArray.size=50:=az b;have C:=aP i a b;have P:=U λk w (h:dG w g cur L.toArray) (u:k<=62)=>GI (g:=g) (n:=50) (cur:=cur) V V A 51 0 50 k L.toArray w V (.inr ⟨O,O,O⟩) h c (gM _) (ao _) V (.inl O);have K:=U λw=>A8 (n:=50) V w;have Q:=U F;rw[b];have p:=aB c b;clear h W hc X G B F i a c l b;go_in;go_wp2_with fail;apply(K.o _).mono;rintro e w2 ⟨k,rfl,u,rfl⟩;go_wp2_with fail;apply(P.o k _ Q.o u).mono;rintro e w2 ⟨rfl,R,s,f,-⟩;have j:=aB s f;clear s f;go_wp2;go_end0;have E:=C.o.2.1 _ R j.o.1.1 (by rw[j.o.2.1,p.o.1,p.o.2]);rw[p.o.2]at E;refine⟨R.toList,O,E,?_,?_⟩
 ·have f:=j.o.2.2.2;rw[show R.extract 0 50=R from by rw[<-p.o.1,<-j.o.2.1];simp,show L.toArray.extract 0 50=L.toArray from by rw[<-p.o.1];simp]at f;exact f
 have m:=j.o.1.2;exact⟨m.os,m.tape,m.output,m.size,λk u y=>m.block k u λe=>y (by rw[show k=g from e];rfl)⟩
end
def bE(a:dT):Array H:=#[.int .u8 a.k,q a.n,Z a.t,Z a.a,q a.r,q a.f]
section
variable(a:dT)
def Qy:(bE a).size=6:=rfl
@[go_sem] theorem aeE:(bE a)[0]? =some (.int .u8 a.k):=rfl
@[go_sem] theorem aeD:(bE a)[1]? =some (q a.n):=rfl
@[go_sem] theorem aeC:(bE a)[2]? =some (Z a.t):=rfl
@[go_sem] theorem aeB:(bE a)[3]? =some (Z a.a):=rfl
@[go_sem] theorem aeA:(bE a)[4]? =some (q a.r):=rfl
@[go_sem] theorem aez:(bE a)[5]? =some (q a.f):=rfl
def Fl:(prog.info? 55).map (·.size)=some (bE a).size:=by rw[Qy];kernel_rfl
end
def wN(e:z):(aj e).all (·.oneCell')=true:=by simp[aj,Value.oneCell']
def iQ(e:z):(prog.info? 64).map (·.size)=some (aj e).size:=by rw[l9];kernel_rfl
def bF(e:z)(x:Int):Array H:=#[Z e.o,q e.s,q e.d.v0,q e.d.v1,q e.d.v2,q e.d.v3,q e.d.v4,q e.d.v5,.int .u8 e.k,q e.n,Z e.t,Z e.a,q e.r,q e.f,Z x]
section
variable(e:z)(x:Int)
def LJ:(bF e x).size=15:=rfl
@[go_sem] theorem aey:(bF e x)[0]? =some (Z e.o):=rfl
@[go_sem] theorem aex:(bF e x)[1]? =some (q e.s):=rfl
@[go_sem] theorem adN:(bF e x)[14]? =some (Z x):=rfl
def FJ:(bF e x).all (·.oneCell')=true:=by simp[bF,Value.oneCell']
def fJ:(prog.info? 66).map (·.size)=some (bF e x).size:=by rw[LJ];kernel_rfl
end
@[go_sem ↓ high] def aaZ:=@iY 64
@[go_sem ↓ high] def aaS:=@jC 64
@[go_sem ↓ high] def aa2:=@iY 55
@[go_sem ↓ high] def aaV:=@jC 55
@[go_sem ↓ high] def aa1:=@iY 66
@[go_sem ↓ high] def aaU:=@jC 66
def gj{e:z}(a:M w g t (aj e)):(dQ 64 (N g)).run prog w=.ok (.value (.agg (aj e))) w:=f8 a underlying64 O (iQ e)
def uW{a:dT}(b:M w g t (bE a)):(dQ 55 (N g)).run prog w=.ok (.value (.agg (bE a))) w:=f8 b underlying55 O (Fl a)
def xF{e:z}{x:Int}(a:M w g t (bF e x)):(dQ 66 (N g)).run prog w=.ok (.value (.agg (bF e x))) w:=f8 a underlying66 O (fJ e x)
def jG(b:M w g t old)(a:old.size=14)(e:z):(eQ 64 (N g) (.agg (aj e))).run prog w=.ok .skip (w.setRow g (aj e)):=ft b (iQ e) (by rw[l9,a]) (wN e)
def gh(b:M w g t old)(a:old.size=15)(e:z)(x:Int):(eQ 66 (N g) (.agg (bF e x))).run prog w=.ok .skip (w.setRow g (bF e x)):=ft b (fJ e x) (by rw[LJ,a]) (FJ e x)
def BC(x3 a e c d b:H):Sem Next:=do pure (.value (<-Instr.build 64 #[(3,x3),(4,a),(5,e),(6,c),(7,d),(8,b)]))
def BG(x y:H):Sem Next:=do pure (.value (<-Instr.build 66 #[(0,x),(1,y)]))
def BH(y:H):Sem Next:=do pure (.value (<-Instr.build 66 #[(1,y)]))
def BD:Sem Next:=do pure (.value (<-Instr.build 64 #[]))
section
variable(ρ:aO->H)(dst:Option Tmp)(x y aeU u x3 x4 x5 x6 x7 x8:aO)(ty:ay)(pos:String)(after:Array Edge)(guard:Option (Nat×Bool))
@[go_sem ↓ high] theorem abz:execOp ρ {dst,op:=.build 64 #[(3,x3),(4,x4),(5,x5),(6,x6),(7,x7),(8,x8)],type:=ty,pos,after,guard}=BC (ρ x3) (ρ x4) (ρ x5) (ρ x6) (ρ x7) (ρ x8):=by simp[execOp,BC]
@[go_sem ↓ high] theorem abA:execOp ρ {dst,op:=.build 64 #[],type:=ty,pos,after,guard}=BD:=by simp[execOp,BD]
@[go_sem ↓ high] theorem abD:execOp ρ {dst,op:=.build 66 #[(0,x),(1,y)],type:=ty,pos,after,guard}=BG (ρ x) (ρ y):=by simp[execOp,BG]
@[go_sem ↓ high] theorem abE:execOp ρ {dst,op:=.build 66 #[(1,y)],type:=ty,pos,after,guard}=BH (ρ y):=by simp[execOp,BH]
end
@[go_sem] theorem acT(k n t a r f:Int)(w:D):(BC (.int .u8 k) (q n) (Z t) (Z a) (q r) (q f)).run prog w=.ok (.value (.agg (aj ⟨0,0,an.zero,k,n,t,a,r,f⟩))) w:=Y
@[go_sem] theorem acU(w:D):BD.run prog w=.ok (.value (.agg (aj z.zero))) w:=Y
@[go_sem] theorem acW(e:z)(x:Int)(w:D):(BG (.agg (aj e)) (Z x)).run prog w=.ok (.value (.agg (bF e x))) w:=Y
@[go_sem] theorem acX(x:Int)(w:D):(BH (Z x)).run prog w=.ok (.value (.agg (bF z.zero x))) w:=Y
