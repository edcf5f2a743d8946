import GoSem.Claim
import GoSem.ClaimJoined
import Derived.Deep.Slices
import Derived.Test.YtghdobdjfnimmaaGreatDoorZ03
import Derived.Test.YtghdobdjfnimmaaGreatDoorRows
set_option maxRecDepth 100000
set_option maxHeartbeats 0
set_option linter.all false
namespace Go.Proofs.YtghdobdjfnimmaaGreatDoor
open Go.Proofs.Tryz
variable{w:Yu}{fuel b0:Nat}{cs:List Yv}{t e:Yw}{P:Program}{v:Yv}{n:Int}{r:Reach}{p:List MemPlace}{x:Bool}
section
open Go.ChangeShapes Go.WideShapes Go.ChangeAt Go.RowKit
theorem Cm:ownKnob prog.godebug=none:=by kernel_rfl
theorem gP:laidOutB prog=true:=by kernel_rfl
theorem nA:prog.cellsOf 32=1:=by kernel_rfl
section
variable{H:Type}{enc:Yw×Yv->H}
theorem kJ(s:laidOutB P=true){W y:Yu}{o:Nat->Bool}(u:Ys W y):∀(i:List Yw) (g:List Yv) (j:List (DataW H)) (f:List MemPlace),
  i.all (λt=>P.readableRec t&&decide (t<P.types.size))=true->DataW.TrodAll enc P W 0 (λ_=>true) true i g j f->(∀p∈f,p.block<W.heap.size)->(∀p∈f,o p.block=true)->
  DataW.TrodAll enc P y 0 o true i g j f
 |[],g,j,f,_,h,_,_=>by
  cases g<;>cases j<;>simp_all [DataW.TrodAll]
 |t::i,g,j,f,hts,h,hlt,hsp=>by
  obtain⟨v,l,d,k,p,q,rfl,rfl,rfl,A,z⟩:=trodAll_cons h;simp only[List.all_cons,Vo,VC]at hts;exact⟨p,q,WideElems.Trod_stays s hts.1.1 hts.1.2 A (λx a=>u.same (hlt x (Wj _ a))) (λx a=>hsp x (Wj _ a)),
   kJ s u i l k q hts.2 z (λx a=>hlt x (List.mem_append_right _ a)) (λx a=>hsp x (List.mem_append_right _ a)),rfl⟩
theorem Dn{f:Func}{s:ChangeSpec}{W B:Yu}{args:Array Yv}{d j:List (DataW H)}{a:List MemPlace}
  (l:DataW.Whole enc prog f.params.toList s.vars false W args.toList d j a) (y:Ys W B) (z:s.vars=[])
  (o:f.params.toList.all (λt=>prog.readableRec t&&decide (t<prog.types.size))=true) (u:f.resultTypes=#[4])
  (E:(s.fn H (d++j)).results=[.lit (.bool true)]) (C:(s.fn H (d++j)).args=d) (I:(s.fn H (d++j)).vars=[]):
  s.post enc prog f false true false false W args (.bool true) B:=by
 have i:∀p∈a,p.block<W.heap.size:=λp G=>l.lt p G
 have k:=l;obtain⟨p,q,F,A,rfl,_,_⟩:=k;rw[z]at A;obtain⟨J,D⟩:=trodVars_none A;refine⟨d,j,p++q,[],p,q,l,?_,?_,?_,World.keptBut_mono (λx g=>⟨g,?_⟩) (y.frame (·∈p++q)),λh=>by cases h⟩
 ·rw[E,u]
  exact trodAll_mk1 (shut_bool underlying4 true)
 ·rw[C]
  exact kJ gP y _ _ _ _ o F (λx g=>i x (Wj _ g)) (λx g=>by simpa using i x (Wj _ g))
 ·rw[I,z,D]
  rfl
 ·exact Vr (by simpa using g)
theorem wu(h:(Lit.int .u64 n).wf=true):0<=n/\n<=18446744073709551615:=by
 simpa[Lit.wf,IntKind.min,IntKind.max,IntKind.signed,IntKind.bits]using h
theorem kZ(h:(Lit.int .i64 n).wf=true):-9223372036854775808<=n/\n<=9223372036854775807:=by
 simpa[Lit.wf,IntKind.min,IntKind.max,IntKind.signed,IntKind.bits]using h
theorem yk(h:(Lit.int .u8 n).wf=true):0<=n/\n<=255:=by
 simpa[Lit.wf,IntKind.min,IntKind.max,IntKind.signed,IntKind.bits]using h
theorem mu{α:Type}{P:Nat->α->Prop}:∀n:Nat,(∀i,i<n->∃u,P i u)->∃L:List α,L.length=n/\∀i u,L[i]? =some u->P i u
 |0,_=>⟨[],rfl,λi u h=>by simp at h⟩
 |n+1,h=>by
  obtain⟨L,d,g⟩:=mu n λi j=>h i (by omega)
  obtain⟨u,f⟩:=h n (by omega);refine⟨L++[u],by simp[d],λi x a=>?_⟩;by_cases j:i<n
  ·rw[V0 (by omega)]at a
   exact g i x a
  ·by_cases k:i=n
   ·subst k
    rw[VY (by omega),d,Nat.sub_self]at a;simp at a;subst a;exact f
   ·rw[XM (by simp;omega)]at a;cases a
theorem mO(a:Addr)(n:Nat)(d:a.spot=none):a.add n=⟨a.block,a.off+n,none⟩:=by
 unfold Addr.add;split
 ·rename_i h;subst h;cases a;simp_all
 ·cases a;simp_all
theorem zS{s:Nat}{d:DataW H}(R:P.underlying t=some (.slice e))(Y:P.cellsOf e=s)(B:0<s)
  (C:Value.okWide P w r b0 t v) (h:DataW.Trod enc P w 0 (λ_=>true) true t v d p):
  ∃(A:Option Addr) (f cap:Nat) (F:Nat->List Yv),v=.slice A f cap/\f<=cap/\cap<=maxLen/\
   (0<f->∃b o,A=some ⟨b,o,none⟩/\b<w.heap.size/\∀i,i<f->∀j,j<s->w.cell? ⟨b,o+i*s+j,none⟩=(F i)[j]?)/\
   ∀i,i<f->(F i).length=s/\∃n x,DataW.trod enc P w 0 (λ_=>true) true n e (F i)=some x:=by
 obtain⟨A,f,cap,rfl⟩:=okWide_slice R C;obtain⟨fuel,V⟩:=h;rcases Deep.open_slice R V with⟨l,_⟩|⟨a,S,Q,m,n,D,Pl,l,_,X,Z,z,_,I⟩
 ·simp[Value.cells]at l
  obtain⟨rfl,rfl,rfl⟩:=l;exact⟨_,_,_,λ_=>[],rfl,Vc _,by decide,λh=>absurd h (by omega),λi I=>absurd I (by omega)⟩
 ·simp[Value.cells]at l
  obtain⟨rfl,rfl,rfl⟩:=l;simp only[We]at z;subst z;rw[Y]at I;have K:∀i,i<f->∃k:List Yv,(k.length=s/\∀j,j<s->w.cell? ((a.add (i*s)).add j)=k[j]?)/\∃n x,DataW.trod enc P w 0 (λ_=>true) true n e k=some x:=λi g=>by
   obtain⟨k,hc,M⟩:=I i (by omega);obtain⟨_,O,J⟩:=World.cells?_some hc;exact⟨k,⟨O,J⟩,_,_,M⟩
  obtain⟨G,T,L⟩:=mu f K;have hF:∀i,i<f->((G.getD i []).length=s/\∀j,j<s->w.cell? ((a.add (i*s)).add j)=(G.getD i [])[j]?)/\∃n x,DataW.trod enc P w 0 (λ_=>true) true n e (G.getD i [])=some x:=λi g=>by
   have:=L i (G[i]'(by omega)) (Ve (by omega));rw[Wh,Ve (by omega)];exact this
  refine⟨some a,f,_,λi=>G.getD i [],rfl,X,Z,λy=>?_,λi g=>⟨(hF i g).1.1,(hF i g).2⟩⟩;have u:=(hF 0 y).1.2 0 B;rw[Xp]at u;have U:(a.add 0).add 0=a:=by simp[Addr.add]
  rw[U,Ve (by rw[(hF 0 y).1.1];exact B)]at u;have N:a.spot=none:=by
   unfold World.cell? at u;split at u
   ·split at u
    ·cases u
    ·rename_i h;simpa using h
   ·cases u
  have E:a.block<w.heap.size:=Xw w a u;refine⟨a.block,a.off,by cases a;simp_all,E,λi g j hj=>?_⟩;have:=(hF i g).1.2 j hj;rw[mO a _ N,mO _ _ rfl]at this;exact this
theorem qq:prog.cellsOf 5=1:=by kernel_rfl
end
theorem gX:prog.cellsOf 3=1:=by kernel_rfl
theorem xQ:prog.cellsOf 2=1:=by kernel_rfl
section
variable{H:Type}{enc:Yw×Yv->H}
theorem zT{α:Type}{c:α->Array Yv}{sz:Nat}{ok:α->Prop}(g:prog.underlying t=some (.slice e))(E:prog.cellsOf e=sz)(K:0<sz)(I:∀x,(c x).size=sz)
      {d:DataW H}  (C:∀(n:Nat) (cs:List Yv) (x:DataW H×List MemPlace),DataW.trod enc prog w 0 (λ_=>true) true n e cs=some x->∃z:α,cs=(c z).toList/\ok z)
  (k:Value.okWide prog w r b0 t v) (h:DataW.Trod enc prog w 0 (λ_=>true) true t v d p):
  ∃(A:Option Addr) (cap:Nat) (L:List α),v=.slice A L.length cap/\RowsIn w sz c A L cap/\∀u∈L,ok u:=by
 obtain⟨A,G,cap,F,rfl,R,T,B,hF⟩:=zS g E K k h;obtain⟨L,rfl,N⟩:=mu (P:=λi (u:α)=>F i=(c u).toList/\ok u) G λi D=>by
  obtain⟨_,n,x,S⟩:=hF i D;exact C n _ x S
 refine⟨A,cap,L,rfl,⟨⟨bN I L,λy=>?_⟩,R,T⟩,λu g=>?_⟩
 ·obtain⟨b,o,Q,s,f⟩:=B y
  refine⟨b,o,Q,s,λj u g=>?_⟩;have U:j<L.length*sz:=by have:=(Vx.1 g).1;rwa[bN I]at this
  have a:j/sz<L.length:=Nat.div_lt_of_lt_mul (by rw[Xs];exact U);have l:j%sz<sz:=Nat.mod_lt _ K;obtain⟨e,O⟩:∃e,L[j/sz]? =some e:=⟨L[j/sz]'a,Ve a⟩;have M:=f (j/sz) a (j%sz) l;have J:=i6 I O l;rw[show j/sz*sz+j%sz=j from by rw[Xs];exact XZ j sz,g]at J;rw[show o+j/sz*sz+j%sz=o+j from by rw[VO,Xs (j/sz),XZ j sz],(N _ e O).1,VK,<-J]at M;exact M
 ·obtain⟨i,D⟩:=List.getElem?_of_mem g
  exact(N i u D).2
theorem wU{s:Nat}{x:DataW H×List MemPlace}(R:P.underlying t=some (.slice e))(V:P.cellsOf e=s)(B:0<s)
  (T:DataW.trod enc P w 0 (λ_=>true) true fuel t cs=some x):
  ∃(A:Option Addr) (k cap:Nat) (F:Nat->List Yv),cs=[.slice A k cap]/\k<=cap/\cap<=maxLen/\
   (0<k->∃b o,A=some ⟨b,o,none⟩/\b<w.heap.size/\∀i,i<k->∀j,j<s->w.cell? ⟨b,o+i*s+j,none⟩=(F i)[j]?)/\
   ∀i,i<k->(F i).length=s/\∃n x,DataW.trod enc P w 0 (λ_=>true) true n e (F i)=some x:=by
 rcases Deep.open_slice R T with⟨y,_⟩|⟨a,d,O,m,n,D,Pl,y,_,U,X,z,_,G⟩
 ·exact⟨_,_,_,λ_=>[],y,Vc _,by decide,λh=>absurd h (by omega),λi G=>absurd G (by omega)⟩
 ·simp only[We]at z
  subst z;rw[V]at G;have J:∀i,i<d->∃g:List Yv,(g.length=s/\∀j,j<s->w.cell? ((a.add (i*s)).add j)=g[j]?)/\∃n x,DataW.trod enc P w 0 (λ_=>true) true n e g=some x:=λi f=>by
   obtain⟨g,Z,L⟩:=G i (by omega);obtain⟨_,N,I⟩:=World.cells?_some Z;exact⟨g,⟨N,I⟩,_,_,L⟩
  obtain⟨E,Q,K⟩:=mu d J;have hF:∀i,i<d->((E.getD i []).length=s/\∀j,j<s->w.cell? ((a.add (i*s)).add j)=(E.getD i [])[j]?)/\∃n x,DataW.trod enc P w 0 (λ_=>true) true n e (E.getD i [])=some x:=λi f=>by
   have:=K i (E[i]'(by omega)) (Ve (by omega));rw[Wh,Ve (by omega)];exact this
  refine⟨some a,d,_,λi=>E.getD i [],y,U,X,λu=>?_,λi f=>⟨(hF i f).1.1,(hF i f).2⟩⟩;have l:=(hF 0 u).1.2 0 B;rw[Xp]at l;have S:(a.add 0).add 0=a:=by simp[Addr.add]
  rw[S,Ve (by rw[(hF 0 u).1.1];exact B)]at l;have M:a.spot=none:=by
   unfold World.cell? at l;split at l
   ·split at l
    ·cases l
    ·rename_i h;simpa using h
   ·cases l
  have C:a.block<w.heap.size:=Xw w a l;refine⟨a.block,a.off,by cases a;simp_all,C,λi f j Y=>?_⟩;have:=(hF i f).1.2 j Y;rw[mO a _ M,mO _ _ rfl]at this;exact this
theorem wW{α:Type}{c:α->Array Yv}{sz:Nat}{ok:α->Prop}(f:prog.underlying t=some (.slice e))(D:prog.cellsOf e=sz)(J:0<sz)(G:∀x,(c x).size=sz)
     {y:DataW H×List MemPlace} (B:∀(n:Nat) (cs:List Yv) (x:DataW H×List MemPlace),DataW.trod enc prog w 0 (λ_=>true) true n e cs=some x->∃z:α,cs=(c z).toList/\ok z)
  (h:DataW.trod enc prog w 0 (λ_=>true) true fuel t cs=some y):
  ∃(A:Option Addr) (cap:Nat) (L:List α),cs=[.slice A L.length cap]/\RowsIn w sz c A L cap/\∀u∈L,ok u:=by
 obtain⟨A,E,cap,F,rfl,Q,S,s,hF⟩:=wU f D J h;obtain⟨L,rfl,M⟩:=mu (P:=λi (u:α)=>F i=(c u).toList/\ok u) E λi C=>by
  obtain⟨_,n,x,R⟩:=hF i C;exact B n _ x R
 refine⟨A,cap,L,rfl,⟨⟨bN G L,λl=>?_⟩,Q,S⟩,λu f=>?_⟩
 ·obtain⟨b,o,O,k,d⟩:=s l
  refine⟨b,o,O,k,λj u f=>?_⟩;have T:j<L.length*sz:=by have:=(Vx.1 f).1;rwa[bN G]at this
  have a:j/sz<L.length:=Nat.div_lt_of_lt_mul (by rw[Xs];exact T);have g:j%sz<sz:=Nat.mod_lt _ J;obtain⟨e,N⟩:∃e,L[j/sz]? =some e:=⟨L[j/sz]'a,Ve a⟩;have K:=d (j/sz) a (j%sz) g;have I:=i6 G N g;rw[show j/sz*sz+j%sz=j from by rw[Xs];exact XZ j sz,f]at I;rw[show o+j/sz*sz+j%sz=o+j from by rw[VO,Xs (j/sz),XZ j sz],(M _ e N).1,VK,<-I]at K;exact K
 ·obtain⟨i,C⟩:=List.getElem?_of_mem f
  exact(M i u C).2
end
end
section
open Go.RowKit Go
def oB(x:Int):Array Yv:=#[.int .i64 x]
theorem iW(x:Int):(oB x).size=1:=rfl
structure QD where
 k:Int
 n:Int
 t:Int
 a:Int
 r:Int
 f:Int
def Qh(x:QD):Array Yv:=#[.int .u8 x.k,.int .u64 x.n,.int .i64 x.t,.int .i64 x.a,.int .u64 x.r,.int .u64 x.f]
@[reducible] def od(x:Int):Prop:=-9223372036854775808<=x/\x<=9223372036854775807
@[reducible] def xU(x:Int):Prop:=0<=x/\x<=18446744073709551615
@[reducible] def U8(x:Int):Prop:=0<=x/\x<=255
structure QD.ok(x:QD):Prop where
 k:U8 x.k
 n:xU x.n
 t:od x.t
 a:od x.a
 r:xU x.r
 f:xU x.f
structure eE where
 d:Int
 w:Int
 a:QD
 k:Int
 j:Int
 n:Int
 pa:Option Addr
 pc:Nat
 pk:List Int
def bD(x:eE):Array Yv:=#[.int .u8 x.d,.int .i64 x.w,.int .u8 x.a.k,.int .u64 x.a.n,.int .i64 x.a.t,.int .i64 x.a.a,.int .u64 x.a.r,.int .u64 x.a.f,.int .i64 x.k,.int .i64 x.j,.int .i64 x.n,.slice x.pa x.pk.length x.pc]
theorem zD(x:eE):(bD x).size=12:=rfl
structure eE.ok(x:eE):Prop where
 d:U8 x.d
 w:od x.w
 a:x.a.ok
 k:od x.k
 j:od x.j
 n:od x.n
 pk:∀u∈x.pk,od u
def eE.At(x:eE)(w:Yu):Prop:=RowsIn w 1 oB x.pa x.pk x.pc
theorem eE.At.call{x:eE}{w':Yu}(h:x.At w)(a:Ys w w'):x.At w':=RowsIn.call h a
structure Sq where
 s:eE
 near:Bool
 nd:Int
 calm:Bool
 cn:Int
def Nv(x:Sq):Array Yv:=#[.int .u8 x.s.d,.int .i64 x.s.w,.int .u8 x.s.a.k,.int .u64 x.s.a.n,.int .i64 x.s.a.t,.int .i64 x.s.a.a,.int .u64 x.s.a.r,.int .u64 x.s.a.f,.int .i64 x.s.k,.int .i64 x.s.j,.int .i64 x.s.n,.slice x.s.pa x.s.pk.length x.s.pc,
 .bool x.near,.int .u8 x.nd,.bool x.calm,.int .i8 x.cn]
theorem pg(x:Sq):(Nv x).size=16:=rfl
structure Sq.ok(x:Sq):Prop where
 s:x.s.ok
 nd:U8 x.nd
structure tA(w:Yu)(A:Option Addr)(L:List Sq)(cap:Nat):Prop where
 rows:RowsIn w 16 Nv A L cap
 ok:∀x∈L,x.ok
 at_:∀x∈L,x.s.At w
def Dp:List Yv:=[.nilFunc,.func (.func 302) #[] #[],.func (.func 303) #[] #[],.func (.func 304) #[] #[],.func (.func 305) #[] #[],
 .func (.func 306) #[] #[],.func (.func 307) #[] #[],.func (.func 308) #[] #[]]
def Fy:List Yv:=[.nilFunc,.bool false,.func (.func 171) #[] #[],.bool false,.func (.func 172) #[] #[],.bool false,.func (.func 173) #[] #[],.bool true,
 .func (.func 174) #[] #[],.bool true,.func (.func 175) #[] #[],.bool true,.func (.func 176) #[] #[],.bool true,.func (.func 177) #[] #[],.bool false,
 .func (.func 178) #[] #[],.bool true,.func (.func 179) #[] #[],.bool false,.func (.func 180) #[] #[],.bool false,.func (.func 181) #[] #[],.bool false,
 .func (.func 182) #[] #[],.bool false]
structure dh(w:Yu):Prop where
 k:∀i u,Dp[i]? =some u->w.cell? ⟨1,i,none⟩=some u
 d:∀i u,Fy[i]? =some u->w.cell? ⟨0,i,none⟩=some u
theorem dh.lt(h:dh w):1<w.heap.size/\0<w.heap.size:=
 ⟨Xw w _ (h.k 0 _ rfl),Xw w _ (h.d 0 _ rfl)⟩
theorem dh.call{w':Yu}(h:dh w){B:Nat}(f:Below B w w')(g:1<B)(j:0<B):dh w':=
 ⟨λi u a=>(f.cell (p:=⟨_,i,none⟩) g).trans (h.k i u a),λi u a=>(f.cell (p:=⟨_,i,none⟩) j).trans (h.d i u a)⟩
end
section
open Go.ChangeShapes Go.WideShapes Go.ChangeAt Go.RowKit
theorem jt:prog.cellsOf 4=1:=by kernel_rfl
theorem EQ:prog.cellsOf 48=1:=by kernel_rfl
theorem xP:prog.cellsOf 43=1:=by kernel_rfl
theorem rZ:prog.cellsOf 42=6:=by kernel_rfl
theorem kD:prog.cellsOf 45=12:=by kernel_rfl
theorem xO:prog.cellsOf 47=14:=by kernel_rfl
theorem qu:prog.cellsOf 50=16:=by kernel_rfl
theorem ER:prog.cellsOf 255=1:=by kernel_rfl
theorem vS:prog.cellsOf 102=1:=by kernel_rfl
theorem EO:prog.cellsOf 256=8:=by kernel_rfl
theorem EP:prog.cellsOf 105=26:=by kernel_rfl
theorem ES:prog.cellsOf 104=2:=by kernel_rfl
section
variable{H:Type}{enc:Yw×Yv->H}
theorem BF{x:DataW H×List MemPlace}
  (h:DataW.trod enc prog w 0 (λ_=>true) true fuel 42 cs=some x):∃z:QD,cs=(Qh z).toList/\z.ok:=by
 obtain⟨xs,m,_,_,j,d,a⟩:=XI underlying42 h;rw[rZ]at j
 match xs,d,cs,j with
 |[y0,y1,y2,y3,y4,y5],_,[c0,c1,c2,c3,c4,c5],_=>
  have J:DataW.trod enc prog w 0 (λ_=>true) true m 5 [c0]=some y0:=by have:=a 0 _ rfl;simpa[qq]using this
  obtain⟨I,f,_,L⟩:=Wc underlying5 J;have K:DataW.trod enc prog w 0 (λ_=>true) true m 32 [c1]=some y1:=by have:=a 1 _ rfl;simpa[nA]using this
  obtain⟨M,k,_,A⟩:=Wc underlying32 K;have u:DataW.trod enc prog w 0 (λ_=>true) true m 3 [c2]=some y2:=by have:=a 2 _ rfl;simpa[gX]using this
  obtain⟨O,i,_,N⟩:=Wc underlying3 u;have y:DataW.trod enc prog w 0 (λ_=>true) true m 2 [c3]=some y3:=by have:=a 3 _ rfl;simpa[xQ]using this
  obtain⟨E,l,_,C⟩:=Wc underlying2 y;have D:DataW.trod enc prog w 0 (λ_=>true) true m 32 [c4]=some y4:=by have:=a 4 _ rfl;simpa[nA]using this
  obtain⟨F,o,_,s⟩:=Wc underlying32 D;have Q:DataW.trod enc prog w 0 (λ_=>true) true m 32 [c5]=some y5:=by have:=a 5 _ rfl;simpa[nA]using this
  obtain⟨B,g,_,G⟩:=Wc underlying32 Q;simp only[List.cons.injEq,and_true]at f k i l o g;subst f k i l o g;exact⟨⟨I,M,O,E,F,B⟩,rfl,⟨yk L,wu A,kZ N,kZ C,wu s,wu G⟩⟩
theorem wV{x:DataW H×List MemPlace}(h:DataW.trod enc prog w 0 (λ_=>true) true fuel 43 cs=some x):
  ∃(A:Option Addr) (cap:Nat) (L:List Int),cs=[.slice A L.length cap]/\RowsIn w 1 oB A L cap/\∀u∈L,od u:=
 wW underlying43 gX (by omega) iW (λn cs x f=>by
  obtain⟨k,a,_,d⟩:=Wc underlying3 f;exact⟨k,a,kZ d⟩) h
theorem BE{x:DataW H×List MemPlace}
  (h:DataW.trod enc prog w 0 (λ_=>true) true fuel 45 cs=some x):∃z:eE,cs=(bD z).toList/\z.ok/\z.At w:=by
 obtain⟨xs,m,_,_,o,f,d⟩:=XI underlying45 h;rw[kD]at o
 match xs,f,cs,o with
 |[y0,y1,y2,y3,y4,y5,y6],_,[c0,c1,c2,c3,c4,c5,c6,c7,c8,c9,c10,c11],_=>
  have T:DataW.trod enc prog w 0 (λ_=>true) true m 5 [c0]=some y0:=by have:=d 0 _ rfl;simpa[qq]using this
  obtain⟨R,i,_,X⟩:=Wc underlying5 T;have V:DataW.trod enc prog w 0 (λ_=>true) true m 3 [c1]=some y1:=by have:=d 1 _ rfl;simpa[gX]using this
  obtain⟨Z,s,_,E⟩:=Wc underlying3 V;have C:DataW.trod enc prog w 0 (λ_=>true) true m 42 [c2,c3,c4,c5,c6,c7]=some y2:=by have:=d 2 _ rfl;simpa[rZ]using this
  obtain⟨a,l,w2⟩:=BF C;have D:DataW.trod enc prog w 0 (λ_=>true) true m 3 [c8]=some y3:=by have:=d 3 _ rfl;simpa[gX]using this
  obtain⟨M,u,_,I⟩:=Wc underlying3 D;have J:DataW.trod enc prog w 0 (λ_=>true) true m 3 [c9]=some y4:=by have:=d 4 _ rfl;simpa[gX]using this
  obtain⟨O,y,_,B⟩:=Wc underlying3 J;have t5:DataW.trod enc prog w 0 (λ_=>true) true m 3 [c10]=some y5:=by have:=d 5 _ rfl;simpa[gX]using this
  obtain⟨G,j,_,w5⟩:=Wc underlying3 t5;have N:DataW.trod enc prog w 0 (λ_=>true) true m 43 [c11]=some y6:=by have:=d 6 _ rfl;simpa[xP]using this
  obtain⟨A,cap,L,k,g,K⟩:=wV N;simp only[Qh,List.cons.injEq,and_true]at i s l u y j k;obtain⟨Q,g3,U,Y,F,S⟩:=l;subst i s u y j k Q g3 U Y F S;exact⟨⟨R,Z,a,M,O,G,A,cap,L⟩,rfl,⟨yk X,kZ E,w2,kZ I,kZ B,kZ w5,K⟩,g⟩
theorem FSq{x:DataW H×List MemPlace}
  (h:DataW.trod enc prog w 0 (λ_=>true) true fuel 50 cs=some x):∃z:Sq,cs=(Nv z).toList/\z.ok/\z.s.At w:=by
 obtain⟨xs,m,_,_,y,f,i⟩:=XI underlying50 h;rw[qu]at y
 match xs,f,cs,y with
 |[y0,y1,y2],_,[c0,c1,c2,c3,c4,c5,c6,c7,c8,c9,c10,c11,c12,c13,c14,c15],_=>
  have K:DataW.trod enc prog w 0 (λ_=>true) true m 47 [c0,c1,c2,c3,c4,c5,c6,c7,c8,c9,c10,c11,c12,c13]=some y0:=by have:=i 0 _ rfl;simpa[xO]using this
  have L:DataW.trod enc prog w 0 (λ_=>true) true m 4 [c14]=some y1:=by have:=i 1 _ rfl;simpa[jt]using this
  obtain⟨b1,A,_⟩:=DataW.trod_bool underlying4 L;have B:DataW.trod enc prog w 0 (λ_=>true) true m 48 [c15]=some y2:=by have:=i 2 _ rfl;simpa[EQ]using this
  obtain⟨U,o,_,X⟩:=Wc underlying48 B;obtain⟨Q,m',_,_,_,d,a⟩:=XI underlying47 K
  match Q,d with
  |[z0,z1,z2],_=>
   have J:DataW.trod enc prog w 0 (λ_=>true) true m' 45 [c0,c1,c2,c3,c4,c5,c6,c7,c8,c9,c10,c11]=some z0:=by have:=a 0 _ rfl;simpa[kD]using this
   obtain⟨s,l,wo,V⟩:=BE J;have s1:DataW.trod enc prog w 0 (λ_=>true) true m' 4 [c12]=some z1:=by have:=a 1 _ rfl;simpa[jt,kD]using this
   obtain⟨b2,u,_⟩:=DataW.trod_bool underlying4 s1;have s2:DataW.trod enc prog w 0 (λ_=>true) true m' 5 [c13]=some z2:=by have:=a 2 _ rfl;simpa[qq,jt,kD]using this
   obtain⟨E,k,_,D⟩:=Wc underlying5 s2;simp only[bD,List.cons.injEq,and_true]at A o l u k;obtain⟨F,I,O,S,R,M,N,G,C,T,g,j⟩:=l;subst A o u k F I O S R M N G C T g j;exact⟨⟨s,b2,E,b1,U⟩,rfl,⟨wo,yk D⟩,V⟩
theorem wT{d:DataW H}(a:Value.okWide prog w r b0 22 v)(h:DataW.Trod enc prog w 0 (λ_=>true) true 22 v d p):
  ∃(A:Option Addr) (cap:Nat) (L:List Sq),v=.slice A L.length cap/\tA w A L cap:=by
 obtain⟨A,cap,L,j,i,g⟩:=zT (ok:=λz:Sq=>z.ok/\z.s.At w) underlying22 qu (by omega) pg (λ_ _ _ f=>FSq f) a h;exact⟨A,cap,L,j,i,λx f=>(g x f).1,λx f=>(g x f).2⟩
end
theorem gK:prog.globalNamed ((Rows.topTwiceRow.laid.map Prod.fst)[0]!)=some 1:=by kernel_rfl
theorem gD:prog.globalNamed ((Rows.topTwiceRow.laid.map Prod.fst)[1]!)=some 0:=by kernel_rfl
theorem tK:(prog.globals[1]?).map (·.type)=some 256:=by kernel_rfl
theorem tD:(prog.globals[0]?).map (·.type)=some 105:=by kernel_rfl
theorem nQ{base:Nat}{f:Nat->Bool}{d a:Array Yw}{g:Bool}{q:List MemPlace}
  (i:P.underlying t=some (.func d a g)) (h:DataW.trod (funcToken P) P w base f true fuel t [v]=some (.nil,q)):v=.nilFunc:=by
 cases fuel with
 |zero=>simp[DataW.trod]at h
 |succ n=>cases v<;>simp[DataW.trod,i]at h<;>rfl
noncomputable abbrev k8(W:Yu)(m:Nat)(t:Yw)(cs:List Yv):=DataW.trod (funcToken prog) prog W 0 (λ_=>true) true m t cs
def TE:List UInt8:=[40,42,108,101,97,116,47,108,101,100,103,101,114,46,76,101,100,103,101,114,41,46,109,97,107,101,115]
def TD:List UInt8:=[40,42,108,101,97,116,47,108,101,100,103,101,114,46,76,101,100,103,101,114,41,46,114,97,105,115,101,115]
def TC:List UInt8:=[40,42,108,101,97,116,47,108,101,100,103,101,114,46,76,101,100,103,101,114,41,46,116,97,107,101,115]
def TB:List UInt8:=[40,42,108,101,97,116,47,108,101,100,103,101,114,46,76,101,100,103,101,114,41,46,102,114,101,101,115]
def TA:List UInt8:=[40,42,108,101,97,116,47,108,101,100,103,101,114,46,76,101,100,103,101,114,41,46,109,111,118,101,115]
def Tz:List UInt8:=[40,42,108,101,97,116,47,108,101,100,103,101,114,46,76,101,100,103,101,114,41,46,106,111,105,110,115]
def Ty:List UInt8:=[40,42,108,101,97,116,47,108,101,100,103,101,114,46,76,101,100,103,101,114,41,46,108,101,97,118,101,115]
def TN:List UInt8:=[40,42,108,101,97,116,47,99,108,117,115,116,101,114,46,67,108,117,115,116,101,114,41,46,97,115,107]
def TM:List UInt8:=[40,42,108,101,97,116,47,99,108,117,115,116,101,114,46,67,108,117,115,116,101,114,41,46,116,105,99,107]
def TL:List UInt8:=[40,42,108,101,97,116,47,99,108,117,115,116,101,114,46,67,108,117,115,116,101,114,41,46,116,105,109,101]
def TK:List UInt8:=[40,42,108,101,97,116,47,99,108,117,115,116,101,114,46,67,108,117,115,116,101,114,41,46,100,101,108,105,118,101,114]
def TJ:List UInt8:=[40,42,108,101,97,116,47,99,108,117,115,116,101,114,46,67,108,117,115,116,101,114,41,46,100,114,111,112]
def TI:List UInt8:=[40,42,108,101,97,116,47,99,108,117,115,116,101,114,46,67,108,117,115,116,101,114,41,46,116,119,105,99,101]
def TH:List UInt8:=[40,42,108,101,97,116,47,99,108,117,115,116,101,114,46,67,108,117,115,116,101,114,41,46,99,117,116]
def TG:List UInt8:=[40,42,108,101,97,116,47,99,108,117,115,116,101,114,46,67,108,117,115,116,101,114,41,46,104,101,97,108]
def TF:List UInt8:=[40,42,108,101,97,116,47,99,108,117,115,116,101,114,46,67,108,117,115,116,101,114,41,46,102,117,115,101]
def OC:List UInt8:=[40,42,108,101,97,116,47,99,108,117,115,116,101,114,46,67,108,117,115,116,101,114,41,46,111,102,102]
def OB:List UInt8:=[40,42,108,101,97,116,47,99,108,117,115,116,101,114,46,67,108,117,115,116,101,114,41,46,111,110]
def OA:List UInt8:=[40,42,108,101,97,116,47,99,108,117,115,116,101,114,46,67,108,117,115,116,101,114,41,46,108,101,97,118,101]
theorem Kz:((List.range prog.funcs.size).filter λf=>(prog.funcs[f]?).any (·.name.toUTF8.data.toList==TE))=[302]:=by kernel_rfl
theorem Ky:((List.range prog.funcs.size).filter λf=>(prog.funcs[f]?).any (·.name.toUTF8.data.toList==TD))=[303]:=by kernel_rfl
theorem Kx:((List.range prog.funcs.size).filter λf=>(prog.funcs[f]?).any (·.name.toUTF8.data.toList==TC))=[304]:=by kernel_rfl
theorem Kw:((List.range prog.funcs.size).filter λf=>(prog.funcs[f]?).any (·.name.toUTF8.data.toList==TB))=[305]:=by kernel_rfl
theorem Kv:((List.range prog.funcs.size).filter λf=>(prog.funcs[f]?).any (·.name.toUTF8.data.toList==TA))=[306]:=by kernel_rfl
theorem Ku:((List.range prog.funcs.size).filter λf=>(prog.funcs[f]?).any (·.name.toUTF8.data.toList==Tz))=[307]:=by kernel_rfl
theorem Ks:((List.range prog.funcs.size).filter λf=>(prog.funcs[f]?).any (·.name.toUTF8.data.toList==Ty))=[308]:=by kernel_rfl
theorem KI:((List.range prog.funcs.size).filter λf=>(prog.funcs[f]?).any (·.name.toUTF8.data.toList==TN))=[171]:=by kernel_rfl
theorem KH:((List.range prog.funcs.size).filter λf=>(prog.funcs[f]?).any (·.name.toUTF8.data.toList==TM))=[172]:=by kernel_rfl
theorem KG:((List.range prog.funcs.size).filter λf=>(prog.funcs[f]?).any (·.name.toUTF8.data.toList==TL))=[173]:=by kernel_rfl
theorem KF:((List.range prog.funcs.size).filter λf=>(prog.funcs[f]?).any (·.name.toUTF8.data.toList==TK))=[174]:=by kernel_rfl
theorem KE:((List.range prog.funcs.size).filter λf=>(prog.funcs[f]?).any (·.name.toUTF8.data.toList==TJ))=[175]:=by kernel_rfl
theorem KD:((List.range prog.funcs.size).filter λf=>(prog.funcs[f]?).any (·.name.toUTF8.data.toList==TI))=[176]:=by kernel_rfl
theorem KC:((List.range prog.funcs.size).filter λf=>(prog.funcs[f]?).any (·.name.toUTF8.data.toList==TH))=[177]:=by kernel_rfl
theorem KB:((List.range prog.funcs.size).filter λf=>(prog.funcs[f]?).any (·.name.toUTF8.data.toList==TG))=[178]:=by kernel_rfl
theorem KA:((List.range prog.funcs.size).filter λf=>(prog.funcs[f]?).any (·.name.toUTF8.data.toList==TF))=[179]:=by kernel_rfl
theorem Gj:((List.range prog.funcs.size).filter λf=>(prog.funcs[f]?).any (·.name.toUTF8.data.toList==OC))=[180]:=by kernel_rfl
theorem Gi:((List.range prog.funcs.size).filter λf=>(prog.funcs[f]?).any (·.name.toUTF8.data.toList==OB))=[181]:=by kernel_rfl
theorem Gh:((List.range prog.funcs.size).filter λf=>(prog.funcs[f]?).any (·.name.toUTF8.data.toList==OA))=[182]:=by kernel_rfl
section
variable{W:Yu}{m:Nat}{c b:Yv}{q:List MemPlace}
theorem vI{d e:DataW (List UInt8)}(h:k8 W m 104 [c,b]=some (.agg [d,e],q)):
  ∃n l s,k8 W n 102 [c]=some (d,l)/\k8 W n 4 [b]=some (e,s):=by
 obtain⟨xs,n,_,o,_,a,f⟩:=XI underlying104 h
 match xs,a with
 |[y0,y1],_=>
  obtain⟨⟨j,k⟩,_⟩:((_/\_)/\_):=by simpa using o
  have i:k8 W n 102 [c]=some (y0.1,y0.2):=by have:=f 0 _ rfl;simpa[vS]using this
  have g:k8 W n 4 [b]=some (y1.1,y1.2):=by have:=f 1 _ rfl;simpa[vS,jt]using this
  rw[<-j]at i;rw[<-k]at g;exact⟨n,_,_,i,g⟩
theorem yX{n:Nat}(h:k8 W n 4 [b]=some (.lit (.bool x),q)):b=.bool x:=by
 obtain⟨y,a,f⟩:=DataW.trod_bool underlying4 h;have d:=(Prod.mk.inj f).1;simp at a d;rw[a,d]
theorem Mo(h:k8 W m 104 [c,b]=some (.agg [.nil,.lit (.bool x)],q)):c=.nilFunc/\b=.bool x:=by
 obtain⟨n,g,f,a,d⟩:=vI h;exact⟨nQ underlying102 a,yX d⟩
theorem gE{y:UInt8}{r:List UInt8}{d:FuncId}(a:((List.range prog.funcs.size).filter λf=>(prog.funcs[f]?).any (·.name.toUTF8.data.toList==y::r))=[d])
  (h:k8 W m 104 [c,b]=some (.agg [.held (y::r),.lit (.bool x)],q)):c=.func (.func d) #[] #[]/\b=.bool x:=by
 obtain⟨n,j,k,i,g⟩:=vI h;exact⟨Xt underlying102 a i,yX g⟩
end
section
variable{W:Yu}
theorem uY(h:laidMetH prog Rows.topTwiceRow.laid W)(i:Nat)(u:Yv)(L:Dp[i]? =some u):W.cell? ⟨1,i,none⟩=some u:=by
 obtain⟨g,t,cs,fuel,p,s,I,Q,D⟩:=h.funcs Vp;obtain rfl:=VT (gK.symm.trans s);obtain rfl:=VT (tK.symm.trans I);have f:k8 W fuel 256 cs.toList=some (.agg [DataW.nil,DataW.held TE,DataW.held TD,DataW.held TC,DataW.held TB,DataW.held TA,DataW.held Tz,DataW.held Ty],p):=D;obtain⟨xs,m,rfl,M,B,d,a⟩:=DataW.trod_array underlying256 f;rw[EO]at B;simp only[ER,V3]at a
 match xs,d,cs,B with
 |[y0,y1,y2,y3,y4,y5,y6,y7],_,⟨[c0,c1,c2,c3,c4,c5,c6,c7]⟩,_=>
  obtain⟨⟨E,N,K,O,R,F,J,G⟩,_⟩:((_/\_/\_/\_/\_/\_/\_/\_)/\_):=by simpa using M
  have z:k8 W m 255 [c0]=some (y0.1,y0.2):=by have:=a 0 (by omega);simpa using this
  rw[<-E]at z;obtain rfl:=nQ underlying255 z;have A:k8 W m 255 [c1]=some (y1.1,y1.2):=by have:=a 1 (by omega);simpa using this
  rw[<-N]at A;obtain rfl:=Xt underlying255 Kz A;have j:k8 W m 255 [c2]=some (y2.1,y2.2):=by have:=a 2 (by omega);simpa using this
  rw[<-K]at j;obtain rfl:=Xt underlying255 Ky j;have k:k8 W m 255 [c3]=some (y3.1,y3.2):=by have:=a 3 (by omega);simpa using this
  rw[<-O]at k;obtain rfl:=Xt underlying255 Kx k;have l:k8 W m 255 [c4]=some (y4.1,y4.2):=by have:=a 4 (by omega);simpa using this
  rw[<-R]at l;obtain rfl:=Xt underlying255 Kw l;have C:k8 W m 255 [c5]=some (y5.1,y5.2):=by have:=a 5 (by omega);simpa using this
  rw[<-F]at C;obtain rfl:=Xt underlying255 Kv C;have y:k8 W m 255 [c6]=some (y6.1,y6.2):=by have:=a 6 (by omega);simpa using this
  rw[<-J]at y;obtain rfl:=Xt underlying255 Ku y;have o:k8 W m 255 [c7]=some (y7.1,y7.2):=by have:=a 7 (by omega);simpa using this
  rw[<-G]at o;obtain rfl:=Xt underlying255 Ks o;rw[World.var?_cell s Q i,List.getElem?_toArray];exact L
theorem tp(h:laidMetH prog Rows.topTwiceRow.laid W)(i:Nat)(u:Yv)(X:Fy[i]? =some u):W.cell? ⟨0,i,none⟩=some u:=by
 obtain⟨g,t,cs,fuel,p,D,R,hv,M⟩:=h.funcs (VA _ Vp);obtain rfl:=VT (gD.symm.trans D);obtain rfl:=VT (tD.symm.trans R);have s:k8 W fuel 105 cs.toList=some (.agg [DataW.agg [DataW.nil,.lit (.bool false)],DataW.agg [DataW.held TN,.lit (.bool false)],DataW.agg [DataW.held TM,.lit (.bool false)],DataW.agg [DataW.held TL,.lit (.bool true)],DataW.agg [DataW.held TK,.lit (.bool true)],DataW.agg [DataW.held TJ,.lit (.bool true)],DataW.agg [DataW.held TI,.lit (.bool true)],DataW.agg [DataW.held TH,.lit (.bool false)],DataW.agg [DataW.held TG,.lit (.bool true)],DataW.agg [DataW.held TF,.lit (.bool false)],DataW.agg [DataW.held OC,.lit (.bool false)],DataW.agg [DataW.held OB,.lit (.bool false)],DataW.agg [DataW.held OA,.lit (.bool false)]],p):=M;obtain⟨xs,m,rfl,Y,J,k,a⟩:=DataW.trod_array underlying105 s;rw[EP]at J;simp only[ES]at a
 match xs,k,cs,J with
 |[y0,y1,y2,y3,y4,y5,y6,y7,y8,y9,y10,y11,y12],_,⟨[c0,b0,c1,b1,c2,b2,c3,b3,c4,b4,c5,b5,c6,b6,c7,b7,c8,b8,c9,b9,c10,b10,c11,b11,c12,b12]⟩,_=>
  obtain⟨⟨N,Z,U,e3,e4,O,T,Q,V,S,o,l,y⟩,_⟩:((_/\_/\_/\_/\_/\_/\_/\_/\_/\_/\_/\_/\_)/\_):=by simpa using Y
  have G:k8 W m 104 [c0,b0]=some (y0.1,y0.2):=by have:=a 0 (by omega);simpa using this
  rw[<-N]at G;obtain⟨rfl,rfl⟩:=Mo G;have I:k8 W m 104 [c1,b1]=some (y1.1,y1.2):=by have:=a 1 (by omega);simpa using this
  rw[<-Z]at I;obtain⟨rfl,rfl⟩:=gE KI I;have z:k8 W m 104 [c2,b2]=some (y2.1,y2.2):=by have:=a 2 (by omega);simpa using this
  rw[<-U]at z;obtain⟨rfl,rfl⟩:=gE KH z;have A:k8 W m 104 [c3,b3]=some (y3.1,y3.2):=by have:=a 3 (by omega);simpa using this
  rw[<-e3]at A;obtain⟨rfl,rfl⟩:=gE KG A;have B:k8 W m 104 [c4,b4]=some (y4.1,y4.2):=by have:=a 4 (by omega);simpa using this
  rw[<-e4]at B;obtain⟨rfl,rfl⟩:=gE KF B;have L:k8 W m 104 [c5,b5]=some (y5.1,y5.2):=by have:=a 5 (by omega);simpa using this
  rw[<-O]at L;obtain⟨rfl,rfl⟩:=gE KE L;have E:k8 W m 104 [c6,b6]=some (y6.1,y6.2):=by have:=a 6 (by omega);simpa using this
  rw[<-T]at E;obtain⟨rfl,rfl⟩:=gE KD E;have C:k8 W m 104 [c7,b7]=some (y7.1,y7.2):=by have:=a 7 (by omega);simpa using this
  rw[<-Q]at C;obtain⟨rfl,rfl⟩:=gE KC C;have K:k8 W m 104 [c8,b8]=some (y8.1,y8.2):=by have:=a 8 (by omega);simpa using this
  rw[<-V]at K;obtain⟨rfl,rfl⟩:=gE KB K;have F:k8 W m 104 [c9,b9]=some (y9.1,y9.2):=by have:=a 9 (by omega);simpa using this
  rw[<-S]at F;obtain⟨rfl,rfl⟩:=gE KA F;have d:k8 W m 104 [c10,b10]=some (y10.1,y10.2):=by have:=a 10 (by omega);simpa using this
  rw[<-o]at d;obtain⟨rfl,rfl⟩:=gE Gj d;have j:k8 W m 104 [c11,b11]=some (y11.1,y11.2):=by have:=a 11 (by omega);simpa using this
  rw[<-l]at j;obtain⟨rfl,rfl⟩:=gE Gi j;have f:k8 W m 104 [c12,b12]=some (y12.1,y12.2):=by have:=a 12 (by omega);simpa using this
  rw[<-y]at f;obtain⟨rfl,rfl⟩:=gE Gh f;rw[World.var?_cell D hv i,List.getElem?_toArray];exact X
theorem FU(h:laidMetH prog Rows.topTwiceRow.laid W):dh W:=⟨uY h,tp h⟩
end
end
