import Derived.Test.YtghdobdjfnimmaaGreatDoorZ04
set_option maxRecDepth 100000
set_option maxHeartbeats 0
set_option linter.all false
namespace Go.Proofs.YtghdobdjfnimmaaGreatDoor
open Go.Proofs.Tryz
variable{o s:Int}{e:Ev}{L:List Ev}{es:Array MapEntry}
section
open Go.RowKit Go
open Go.ChangeMaps (setBlock heap_setBlock_same heap_setBlock_other)
open Go.MapKept (Stamped stamped_iff stamped_push stamped_erase stamped_empty)
open Go.Maps (Keyed)
def fy(o s:Int):Array Yv:=#[.int .i64 o,.int .u64 s]
theorem mh{o' s':Int}(h:(Value.agg (fy o s))=.agg (fy o' s')):o=o'/\s=s':=by
 simp[fy]at h;exact h
theorem Cf:(301:Yw)<prog.types.size:=Wo (by kernel_rfl)
theorem FJ:(match prog.underlying 301 with|some (.array _ _)|some (.struct _)=>true|_=>false)=true:=by kernel_rfl
theorem jh:Keyed prog 301:=Keyed.of_law (deep_law_laid gP (m:=2) (by omega) Cf (by kernel_rfl) FJ)
theorem jc:prog.underlying 186=some (.map 301 53):=by kernel_rfl
theorem vR:prog.cellsOf 301=2:=by kernel_rfl
theorem nC:prog.cellsOf 3=1:=by kernel_rfl
theorem nB:prog.cellsOf 32=1:=by kernel_rfl
theorem xu:prog.keyType 301=true:=by kernel_rfl
theorem k9:∃m,prog.types.size=m+2:=⟨prog.types.size-2,(Nat.sub_add_cancel (Vi (show 2<=(301:Nat)by decide) (Nat.le_of_lt Cf))).symm⟩
def fa(o s:Int):Prop:=(-9223372036854775808<=o/\o<=9223372036854775807)/\0<=s/\s<=18446744073709551615
theorem Bp(h:fa o s):(Lit.int .i64 o).wf=true/\(Lit.int .u64 s).wf=true:=by
 obtain⟨⟨a,c⟩,f,d⟩:=h;exact⟨by simp[Lit.wf,IntKind.min,IntKind.max,IntKind.signed,IntKind.bits];omega,by simp[Lit.wf,IntKind.min,IntKind.max,IntKind.signed,IntKind.bits];omega⟩
theorem jZ(h:fa o s):∃l,keyOf prog 301 (.agg (fy o s))=some l:=by
 obtain⟨c,d⟩:=Bp h;obtain⟨m,a⟩:=k9;refine⟨.string (keyBytes [.int .i64 o,.int .u64 s]),?_⟩;unfold keyOf;simp only[underlying301];rw[Vh (by simp[xu,Value.formed,underlying301,vR,fy]),a];unfold Program.keyLits;simp only[underlying301,Value.cells,fy];rw[Vh (by rw[vR];exact⟨rfl,by simp⟩)];simp[List.mapM_cons,List.mapM_nil,nC,nB,Program.keyLits,underlying3,underlying32,c,d]
def pU(e:Ev):Yv×Yv:=(.agg (fy e.o e.s),.agg (ao e))
def ja(x:MapEntry):Yv×Yv:=(x.key,x.val)
theorem He{x y:Ev}(h:Value.agg (ao x)=.agg (ao y)):x=y:=by
 obtain⟨o,s,⟨p,A,m,q,u,C⟩,k,n,t,a,r,f⟩:=x;obtain⟨o',s',⟨c,d,l,g,i,j⟩,k',n',t',z,v,B⟩:=y;simp[ao]at h⊢;simp[h]
def Li(o s:Int)(e:Ev):Bool:=e.o==o&&e.s==s
theorem mA:Li o s e=true↔e.o=o/\e.s=s:=by simp[Li]
structure eF(w:Yu)(b:Nat)(L:List Ev):Prop where
 ex:∃es clock,w.heap[b]? =some (.map es clock)/\Stamped es clock/\(es.toList.map ja).Perm (L.map pU)
 ok:∀e∈L,fa e.o e.s
def FB(L:List Ev):Prop:=L.Pairwise λx y=>¬(x.o=y.o/\x.s=y.s)
def ez(L:List Ev)(o s:Int):Option Ev:=L.find? (Li o s)
theorem lD(h:ez L o s=some e):e∈L/\e.o=o/\e.s=s:=
 ⟨List.mem_of_find?_eq_some h,mA.1 (List.find?_some h)⟩
theorem lE(h:ez L o s=none):∀e∈L,¬(e.o=o/\e.s=s):=λe a c=>by
 have:=XB.1 h e a;exact this (mA.2 c)
theorem FB.eq(h:FB L){x y:Ev}(g:x∈L)(i:y∈L)(d:x.o=y.o)(c:x.s=y.s):x=y:=by
 induction L with
 |nil=>cases g
 |cons a r ih=>
  obtain⟨f,j⟩:=Wk.1 h;rcases Vy.1 g with rfl|hx'<;>rcases Vy.1 i with rfl|hy'
  ·rfl
  ·exact absurd ⟨d,c⟩ (f y hy')
  ·exact absurd ⟨d.symm,c.symm⟩ (f x hx')
  ·exact ih j hx' hy'
theorem FB.perm{M:List Ev}(h:FB L)(p:L.Perm M):FB M:=(p.pairwise_iff (λ{_ _} hn he=>hn ⟨he.1.symm,he.2.symm⟩)).1 h
theorem FB.look(h:FB L)(c:e∈L):ez L e.o e.s=some e:=by
 cases a:ez L e.o e.s with
 |none=>exact absurd ⟨rfl,rfl⟩ (lE a e c)
 |some x=>
  obtain⟨f,d,g⟩:=lD a;rw[h.eq f c d g]
theorem xj{M:List Ev}(h:FB L)(p:L.Perm M)(o s:Int):ez M o s=ez L o s:=by
 cases a:ez L o s with
 |none=>
  refine XB.2 λe d f=>?_
  exact lE a e (p.mem_iff.2 d) (mA.1 f)
 |some x=>
  obtain⟨c,rfl,rfl⟩:=lD a;exact(h.perm p).look (p.mem_iff.1 c)
section
variable{w w':Yu}{b:Nat}{L M:List Ev}
theorem eF.lt(h:eF w b L):b<w.heap.size:=by
 obtain⟨es,a,c,_⟩:=h.ex;exact(Vv.1 c).1
theorem eF.same(h:eF w b L)(e:w'.heap[b]? =w.heap[b]?):eF w' b L:=by
 obtain⟨es,a,c,r⟩:=h.ex;exact⟨⟨es,a,e.trans c,r⟩,h.ok⟩
theorem eF.fr{g:Nat}{r:Option Nat}(h:eF w b L)(f:Fr w w' g r)(a:b≠g)(c:some b≠r):eF w' b L:=h.same (f.block b h.lt a c)
theorem eF.call(h:eF w b L)(a:Ys w w'):eF w' b L:=h.same (a.block b h.lt)
theorem eF.ndn(h:eF w b L):FB L:=by
 obtain⟨es,a,l,k,f⟩:=h.ex;have i:=((Xk _ _).1 k).2.2;have g:(es.toList.map ja).Pairwise (λx y=>x.1≠y.1):=Yl.2 i;have j:=(f.pairwise_iff (λ{_ _} c=>V1 c)).1 g;refine(Yl.1 j).imp λc d=>c ?_
 simp[pU,d.1,d.2]
theorem jn(c:(es.toList.map ja).Perm (L.map pU)){x:MapEntry}(f:x∈es.toList):∃e∈L,x.key=.agg (fy e.o e.s)/\x.val=.agg (ao e):=by
 have:=c.mem_iff.1 (VJ.2 ⟨x,f,rfl⟩);obtain⟨e,d,a⟩:=VJ.1 this;simp only[pU,ja,Xd]at a;exact⟨e,d,a.1.symm,a.2.symm⟩
theorem kr(c:(es.toList.map ja).Perm (L.map pU))(a:∀e∈L,fa e.o e.s):∀x∈es.toList,∃l,keyOf prog 301 x.key=some l:=λx g=>by
 obtain⟨e,f,d,_⟩:=jn c g;rw[d];exact jZ (a e f)
theorem eF.made(w:Yu):eF (w.alloc (.map #[] 0)) w.heap.size []:=⟨⟨#[],0,Yh w _,stamped_empty 0,WP _⟩,λ_ h=>by cases h⟩
theorem Ei:ao Ev.zero=#[.int .i64 0,.int .u64 0,.int .u64 0,.int .u64 0,.int .u64 0,.int .u64 0,.int .u64 0,.int .u64 0,.int .u8 0,.int .u64 0,.int .i64 0,.int .i64 0,.int .u64 0,.int .u64 0]:=rfl
theorem FF(w:Yu):(zeroValue 53).run prog w=.ok (.agg (ao Ev.zero)) w:=by kernel_rfl
def kU(r:Option Ev):Yv:=.tuple #[.agg (ao (r.getD Ev.zero)),.bool r.isSome]
theorem eF.look(h:eF w b L)(q:fa o s):(Instr.lookup 186 (.map (some b)) (.agg (fy o s)) true).run prog w=.ok (kU (ez L o s)) w:=by
 have y:=h.ndn;obtain⟨es,m,p,A,l⟩:=h.ex;obtain⟨B,a⟩:=jZ q;rcases jh.find w a es.toList (kr l h.ok)with⟨k,f⟩|⟨j,z,k,f,u⟩
 ·have t:ez L o s=none:=XB.2 λe n d=>by
   have:=l.mem_iff.2 (VJ.2 ⟨e,n,rfl⟩);obtain⟨x,v,c⟩:=VJ.1 this;simp only[pU,ja,Xd]at c;obtain⟨rfl,rfl⟩:=mA.1 d;exact f x v c.1
  rw[t];simp[Instr.lookup,VD jc,VQ p,jh.check w _ a,k,FF,Result.andThen,kU,Ei]
 ·obtain⟨e,n,i,g⟩:=jn l (Vn f)
  obtain⟨rfl,rfl⟩:=mh (i.symm.trans u);rw[y.look n];simp[Instr.lookup,VD jc,VQ p,jh.check w _ a,k,Result.andThen,kU,g]
theorem j5(c:b<w.heap.size)(o:Obj):Fr w (setBlock w b o) b none:=
 ⟨rfl,rfl,rfl,by simp[setBlock],λk _ a _=>by simp[setBlock,V1 a]⟩
theorem eF.put(h:eF w b L)(l:fa e.o e.s)(v:ez L e.o e.s=none):
  ∃w',(Instr.mapUpdate 186 (.map (some b)) (.agg (fy e.o e.s)) (.agg (ao e))).run prog w=.ok () w'/\eF w' b (L++[e])/\Fr w w' b none:=by
 obtain⟨es,a,k,t,d⟩:=h.ex;obtain⟨z,c⟩:=jZ l;rcases jh.find w c es.toList (kr d h.ok)with⟨m,g⟩|⟨j,y,m,g,q⟩
 ·refine⟨setBlock w b (.map (es.push ⟨.agg (fy e.o e.s),.agg (ao e),a⟩) (a+1)),?_,⟨⟨_,_,Wq k _,stamped_push t g,?_⟩,?_⟩,j5 h.lt _⟩
  ·simp[Instr.mapUpdate,VD jc,VQ k,jh.check w false c,m,Ww _ k,Result.andThen,setBlock]
  ·rw[Array.toList_push,WS,WS]
   exact d.append (WP _)
  ·intro x hx
   rcases Vw.1 hx with hx|hx
   ·exact h.ok x hx
   ·obtain rfl:=VH.1 hx;exact l
 ·exfalso
  obtain⟨u,i,f,_⟩:=jn d (Vn g);obtain⟨n,p⟩:=mh (f.symm.trans q);exact lE v u i ⟨n,p⟩
theorem eF.len(h:eF w b L)(ty:Yw):(Builtin.len_ #[186] ty #[.map (some b)]).run prog w=.ok (.int .i64 L.length) w:=by
 obtain⟨es,a,f,g,c⟩:=h.ex;have d:es.size=L.length:=by simpa using c.length_eq
 simp[Builtin.len_,VD jc,VQ f,goInt,Result.andThen,d]
theorem kS{α:Type}:∀(l:List α) (j:Nat) (x:α),l[j]? =some x->l.Perm (x::l.eraseIdx j)
 |a::l,0,x,h=>by simp at h;subst h;exact WP _
 |a::l,j+1,x,h=>by
  have:=kS l j x (by simpa using h);exact(this.cons a).trans (List.Perm.swap x a _)
 |[],_,_,h=>by simp at h
theorem qg{j:Nat}{d:MapEntry}(c:es.toList[j]? =some d):(es.eraseIdxIfInBounds j).toList=es.toList.eraseIdx j/\es.toList.Perm (d::es.toList.eraseIdx j):=by
 have a:j<es.toList.length:=(Vx.1 c).1;constructor
 ·unfold Array.eraseIdxIfInBounds
  rw[dif_pos (by simpa using a)];simp
 ·exact kS _ _ _ c
theorem eF.drop(h:eF w b L)(l:e∈L)(ty:Yw):
  ∃w' L',(Builtin.delete_ #[186,301] ty #[.map (some b),.agg (fy e.o e.s)]).run prog w=.ok (.tuple #[]) w'/\L.Perm (e::L')/\eF w' b L'/\Fr w w' b none:=by
 have F:=h.ndn;have m:=h.lt;obtain⟨es,a,n,E,k⟩:=h.ex;obtain⟨H,d⟩:=jZ (h.ok e l);have f:L.Perm (e::L.erase e):=List.perm_cons_erase l;rcases jh.find w d es.toList (kr k h.ok)with⟨v,i⟩|⟨j,A,v,i,D⟩
 ·exfalso
  obtain⟨x,u,c⟩:=VJ.1 (k.mem_iff.2 (VJ.2 ⟨e,l,rfl⟩));simp only[pU,ja,Xd]at c;exact i x u c.1
 ·obtain⟨y,q,g,p⟩:=jn k (Vn i)
  obtain⟨B,C⟩:=mh (g.symm.trans D);obtain rfl:=F.eq q l B C;obtain⟨z,G⟩:=qg i;refine⟨setBlock w b (.map (es.eraseIdxIfInBounds j) a),L.erase y,?_,f,⟨⟨_,_,Wq n _,Yo E j,?_⟩,λx u=>h.ok x (List.mem_of_mem_erase u)⟩,j5 m _⟩
  ·simp[Builtin.delete_,VD jc,VQ n,jh.check w _ d,v,Ww _ n,Result.andThen,setBlock]
  ·rw[z]
   have t:=(G.map ja).symm.trans (k.trans (f.map pU));simp only[VG]at t;rw[show ja A=pU y by simp[ja,pU,g,p]]at t;exact t.cons_inv
theorem gj:∀(l:List MapEntry) (p q:MapEntry->Bool) (c:MapEntry),(l.map (·.born)).Nodup->c∈l->p c=false->(∀x∈l,q x=(p x||x.born==c.born))->(l.filter q).Perm (c::l.filter p)
 |[],_,_,_,_,g,_,_=>by cases g
 |a::l,p,q,c,hn,g,hp,hq=>by
  simp only[VG,List.nodup_cons]at hn;have d:=hq a (by simp);rcases Vy.1 g with rfl|he'
  ·have j:l.filter q=l.filter p:=List.filter_congr λx f=>by
    rw[hq x (by simp[f])];have:(x.born==c.born)=false:=by
     rw[Vz];exact λe=>hn.1 (e▸VJ.2 ⟨x,f,rfl⟩)
    rw[this,Bool.or_false]
   rw[V9,V9,d,hp,j];simp
  ·have i:=gj l p q c hn.2 he' hp (λx f=>hq x (by simp[f]))
   have h:(a.born==c.born)=false:=by
    rw[Vz];exact λe=>hn.1 (e▸VJ.2 ⟨c,he',rfl⟩)
   rw[h,Bool.or_false]at d;rw[V9,V9,d];split
   ·exact(i.cons a).trans (List.Perm.swap c a _)
   ·exact i
theorem nV(es:Array MapEntry)(seen:Array Nat):(leftOf es seen).toList=es.toList.filter λx=> !seen.contains x.born:=by
 unfold leftOf;rw[<-Array.toList_filter]
theorem lH{α:Type}(p:α->Bool):∀l:List α,l.Perm (l.filter (λx=> !p x)++l.filter p)
 |[]=>WP _
 |a::l=>by
  have c:=lH p l;cases h:p a
  ·simp only[V9,h,Bool.not_false,We,V5,Xq,XQ]
   exact c.cons a
  ·simp only[V9,h,Bool.not_true,We,V5,Xq]
   exact(c.cons a).trans List.perm_middle.symm
structure cW(w:Yu)(b r:Nat)(left kept:List Ev):Prop where
 ex:∃es clock since seen c0,w.heap[b]? =some (.map es clock)/\Stamped es clock/\w.heap[r]? =some (.mapIter (some b) since seen c0)/\(∀x∈es.toList,x.born<since)/\since<=c0/\since<=clock/\
  ((es.toList.filter λx=> !seen.contains x.born).map ja).Perm (left.map pU)/\((es.toList.filter λx=>seen.contains x.born).map ja).Perm (kept.map pU)
 ok:∀e∈left++kept,fa e.o e.s
variable{r:Nat}{left kept:List Ev}
theorem cW.map(h:cW w b r left kept):eF w b (left++kept):=by
 obtain⟨es,a,c,seen,n,g,i,k,l,j,m,d,f⟩:=h.ex;refine⟨⟨es,a,g,i,?_⟩,h.ok⟩;have:=(lH (λx:MapEntry=>seen.contains x.born) es.toList).map ja;rw[WS]at this⊢;exact this.trans (d.append f)
theorem cW.lt(h:cW w b r left kept):r<w.heap.size:=by
 obtain⟨es,c,a,seen,i,f,g,d,_⟩:=h.ex;exact(Vv.1 d).1
theorem cW.ne(h:cW w b r left kept):r≠b:=λe=>by
 obtain⟨es,c,a,seen,i,d,g,f,_⟩:=h.ex;subst e;rw[f]at d;cases d
theorem cW.same(h:cW w b r left kept)(d:w'.heap[b]? =w.heap[b]?)(l:w'.heap[r]? =w.heap[r]?):cW w' b r left kept:=by
 obtain⟨es,c,a,seen,k,i,j,f,g⟩:=h.ex;exact⟨⟨es,c,a,seen,k,d.trans i,j,l.trans f,g⟩,h.ok⟩
theorem cW.call(h:cW w b r left kept)(a:Ys w w'):cW w' b r left kept:=h.same (a.block b h.map.lt) (a.block r h.lt)
theorem eF.range(h:eF w b L):∃w',(Instr.range 186 (.map (some b))).run prog w=.ok (Yr w.heap.size) w'/\cW w' b w.heap.size L []/\Ys w w'/\w'.heap.size=w.heap.size+1:=by
 have c:=h.lt;obtain⟨es,a,d,f,g⟩:=h.ex;refine⟨_,run_range_map w _ _ _ b es a jc d,⟨⟨es,a,a,#[],a,?_,f,Yh w _,((Xk _ _).1 f).1,Vc _,Vc _,?_,?_⟩,?_⟩,(Vd _ _).alloc (Vc _) _,by simp⟩
 ·rw[(MapKept.heap_alloc w _).2 b c];exact d
 ·rw[XW.2 (λx _=>by simp)];exact g
 ·simp
 ·simpa using h.ok
theorem cW.next(h:cW w b r left kept)(ty:Yw):
  (left=[]/\(Instr.next (Yr r) false ty).run prog w=.ok (.tuple #[.bool false]) w)\/
  ∃e i w',left.Perm (e::i)/\(Instr.next (Yr r) false ty).run prog w=.ok (.tuple #[.bool true,.agg (fy e.o e.s),.agg (ao e)]) w'/\
   cW w' b r i (e::kept)/\Fr w w' r none/\(Instr.entry (Yr r)).run prog w'=.ok (.tuple #[.agg (fy e.o e.s),.agg (ao e)]) w':=by
 have F:=h.ne;have U:=h.lt;obtain⟨es,a,c,seen,T,O,R,Q,m,K,y,I,H⟩:=h.ex;have p:=(Xk es a).1 R;rcases run_next_at (P:=prog) w ty r b c T seen es a Q O m K with⟨V,f⟩|⟨d,G,E,u,f⟩
 ·refine .inl ⟨?_,f⟩
  have:(leftOf es seen).toList.length=0:=by simpa using V
  rw[nV]at this;have W:=I.length_eq;simp only[Wd]at W;exact VM (by omega)
 ·obtain⟨l,t⟩:=mem_left G
  have D:ja d∈left.map pU:=I.mem_iff.1 (VJ.2 ⟨d,Xb.2 ⟨l,by rw[t];rfl⟩,rfl⟩);obtain⟨e,S,j⟩:=VJ.1 D;have z:left.Perm (e::left.erase e):=List.perm_cons_erase S;have A:d.key=.agg (fy e.o e.s):=(Vt Prod.fst j).symm;have B:d.val=.agg (ao e):=(Vt Prod.snd j).symm;have J:E.heap[r]? =some (.mapIter (some b) c seen T):=by rcases u with rfl|rfl<;>exact Q
  have N:E.heap[b]? =some (.map es a):=by rcases u with rfl|rfl<;>exact O
  have g:=MapKept.heap_set (o':=.mapIter (some b) c (seen.push d.born) a) J;have C:(setBlock E r (.mapIter (some b) c (seen.push d.born) a)).heap[b]? =some (.map es a):=(g.2 b (λX=>F X.symm)).trans N;have q:=gj es.toList (λx=>seen.contains x.born) (λx=>(seen.push d.born).contains x.born) d p.2.1 l t (λx _=>contains_push ..);have n:=gj es.toList (λx=> !(seen.push d.born).contains x.born) (λx=> !seen.contains x.born) d p.2.1 l (by simp) (λx _=>by
   rw[contains_push];by_cases hx:x.born=d.born
   ·rw[hx,t];simp
   ·rw[show(x.born==d.born)=false from Vz.2 hx];simp)
  rw[A,B]at f;refine .inr ⟨e,left.erase e,_,z,f,⟨⟨es,a,c,seen.push d.born,a,C,R,g.1,m,y,y,?_,?_⟩,?_⟩,?_,?_⟩
  ·have v:=(n.map ja).symm.trans (I.trans (z.map pU))
   simp only[VG]at v;rw[<-j]at v;exact v.cons_inv
  ·have v:=(q.map ja)
   simp only[VG]at v⊢;rw[j];exact v.trans (H.cons _)
  ·intro x hx
   refine h.ok x ?_;simp only[Vw,Vy]at hx⊢;rcases hx with hx|rfl|hx
   ·exact .inl (List.mem_of_mem_erase hx)
   ·exact .inl S
   ·exact .inr hx
  ·rcases u with rfl|rfl<;>exact⟨rfl,rfl,rfl,by simp[setBlock],λk _ H _=>g.2 k H⟩
  ·rw[<-A,<-B]
   exact run_entry_at _ r b c seen es a d g.1 C l p.2.1
theorem cW.drop(h:cW w b r left (e::kept))(ty:Yw):
  ∃w',(Builtin.delete_ #[186,301] ty #[.map (some b),.agg (fy e.o e.s)]).run prog w=.ok (.tuple #[]) w'/\cW w' b r left kept/\Fr w w' b none:=by
 have z:=h.ne;have B:=h.map;obtain⟨es,a,d,seen,V,k,I,P,l,F,v,O,G⟩:=h.ex;have C:=(Xk es a).1 I;have E:fa e.o e.s:=h.ok e (by simp);obtain⟨W,i⟩:=jZ E;obtain⟨x,S,g⟩:=VJ.1 (G.mem_iff.2 (VJ.2 ⟨e,by simp,rfl⟩));obtain⟨m,f⟩:=Xb.1 S;have p:x.key=.agg (fy e.o e.s):=Vt Prod.fst g;obtain⟨U,t,c,Q,D⟩:=B.ex;rw[k]at c;injection c with c;injection c with T N;subst T;subst N;rcases jh.find w i es.toList (kr D B.ok)with⟨H,q⟩|⟨j,K,H,q,R⟩
 ·exact absurd p (q x m)
 ·obtain rfl:K=x:=entry_eq_of_key C.2.2 (Vn q) m (R.trans p.symm)
  obtain⟨u,J⟩:=qg q;refine⟨setBlock w b (.map (es.eraseIdxIfInBounds j) a),?_,⟨⟨_,_,d,seen,V,Wq k _,Yo I j,(heap_setBlock_other k _ z).trans P,λy hy=>l y ?_,F,v,?_,?_⟩,λy hy=>h.ok y ?_⟩,j5 B.lt _⟩
  ·simp[Builtin.delete_,VD jc,VQ k,jh.check w _ i,H,Ww _ k,Result.andThen,setBlock]
  ·rw[u]at hy
   exact(List.eraseIdx_sublist _ _).subset hy
  ·rw[u]
   have n:=J.filter (λx=> !seen.contains x.born);rw[V9,Vf (by rw[f];simp)]at n;exact(n.symm.map ja).trans O
  ·rw[u]
   have n:=J.filter (λx=>seen.contains x.born);rw[V9,Vh f]at n;have A:=(n.symm.map ja).trans G;simp only[VG]at A;rw[g]at A;exact A.cons_inv
  ·simp only[Vw,Vy]at hy⊢
   rcases hy with hy|hy
   ·exact .inl hy
   ·exact .inr (.inr hy)
end
end
