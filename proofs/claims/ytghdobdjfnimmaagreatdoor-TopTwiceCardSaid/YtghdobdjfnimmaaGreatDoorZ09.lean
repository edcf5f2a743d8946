import Derived.Test.YtghdobdjfnimmaaGreatDoorZ08
import Derived.Deep.DeepCutAuto
import Derived.Deep.CutBlock
set_option maxRecDepth 100000
set_option maxHeartbeats 0
set_option linter.all false
namespace Go.Proofs.YtghdobdjfnimmaaGreatDoor
open Go.Proofs.Tryz
section
open Go.RowKit
theorem Hf(O R:Ev):(((((((((((((((ao O).setIfInBounds 0 (.int .i64 R.o)).setIfInBounds 1 (.int .u64 R.s)).setIfInBounds 2 (.int .u64 R.d.v0)).setIfInBounds 3 (.int .u64 R.d.v1)).setIfInBounds 4 (.int .u64 R.d.v2)).setIfInBounds 5 (.int .u64 R.d.v3)).setIfInBounds 6 (.int .u64 R.d.v4)).setIfInBounds 7 (.int .u64 R.d.v5)).setIfInBounds 8 (.int .u8 R.k)).setIfInBounds 9 (.int .u64 R.n)).setIfInBounds 10 (.int .i64 R.t)).setIfInBounds 11 (.int .i64 R.a)).setIfInBounds 12 (.int .u64 R.r)).setIfInBounds 13 (.int .u64 R.f))=ao R:=by kernel_rfl
theorem bF.setEv{e w:Yu}{g:Nat}{t:Yw}{O:Ev}{bs:List (Nat×Yw×Array Yv)}(h:bF e w ((g,t,ao O)::bs))(c:e.heap.size<=g)(b:mS g bs)(R:Ev):
  bF e ((((((((((((((w.setCell ⟨g,0,none⟩ (.int .i64 R.o)).setCell ⟨g,1,none⟩ (.int .u64 R.s)).setCell ⟨g,2,none⟩ (.int .u64 R.d.v0)).setCell ⟨g,3,none⟩ (.int .u64 R.d.v1)).setCell ⟨g,4,none⟩ (.int .u64 R.d.v2)).setCell ⟨g,5,none⟩ (.int .u64 R.d.v3)).setCell ⟨g,6,none⟩ (.int .u64 R.d.v4)).setCell ⟨g,7,none⟩ (.int .u64 R.d.v5)).setCell ⟨g,8,none⟩ (.int .u8 R.k)).setCell ⟨g,9,none⟩ (.int .u64 R.n)).setCell ⟨g,10,none⟩ (.int .i64 R.t)).setCell ⟨g,11,none⟩ (.int .i64 R.a)).setCell ⟨g,12,none⟩ (.int .u64 R.r)).setCell ⟨g,13,none⟩ (.int .u64 R.f)) ((g,t,ao R)::bs):=by
 rw[<-Hf O R];exact((((((((((((((h.set_ c b 0 (.int .i64 R.o)).set_ c b 1 (.int .u64 R.s)).set_ c b 2 (.int .u64 R.d.v0)).set_ c b 3 (.int .u64 R.d.v1)).set_ c b 4 (.int .u64 R.d.v2)).set_ c b 5 (.int .u64 R.d.v3)).set_ c b 6 (.int .u64 R.d.v4)).set_ c b 7 (.int .u64 R.d.v5)).set_ c b 8 (.int .u8 R.k)).set_ c b 9 (.int .u64 R.n)).set_ c b 10 (.int .i64 R.t)).set_ c b 11 (.int .i64 R.a)).set_ c b 12 (.int .u64 R.r)).set_ c b 13 (.int .u64 R.f))
def eS(v:av)(e:Ev):Bool:=aX e&&(decide (v.get (e.o-1).toNat=e.s-1)&&k7 e.d v)
def dJ(v:av)(e:Ev):Bool:=aX e&&decide (e.s<=v.get (e.o-1).toNat)
theorem qk{e:Ev}(h:aX e=true):ib e=true:=by
 unfold aX at h;rw[Vo]at h;exact h.1
theorem Cn(v:av)(e:Ev)(u:e.ok)(w:Yu):Yt 92 #[.agg (aq v),.agg (ao e)] w λr w'=>r=.returned (.bool (eS v e))/\Ys w w':=by
 cases a:aX e with
 |false=>
  have n:=U9 (ii e u false a);have l:=U9 (show eS v e=false by unfold eS;rw[a];rfl);clear a;go_enter func92,ntmps92;go_wp2_with fail;have T:bF w _ _:=((bF.nil w).push (t:=34) (cs:=aq v) rfl).push (t:=53) (cs:=ao e) (g:=w.heap.size+1) (by simp);generalize (w.alloc _).alloc _=W at T⊢;obtain⟨B,-,y,-,-⟩:=T.rules;obtain⟨G,C,-⟩:=T.lts;refine dY (by kernel_rfl) (by kernel_rfl) ?_
  repeat (go_big_quiet_step (first|(go_at_call 72;with_reducible exact Calls.later (n.o _))))
  refine Xm ?_;rintro i ⟨x,rfl⟩;have f:=T.call x.below;generalize x.w=i at f;go_wp2_with fail;go_ret;exact⟨by rw[l.o];rfl,f.below⟩
 |true=>
  obtain⟨k,z,p,J,H,E,A⟩:=na e (qk a);obtain⟨lb,m⟩:∃b,k7 e.d v=b:=⟨_,rfl⟩;have q:(e.o-1).toNat=k:=by omega
  have l:=U9 (show eS v e=(decide (v.get k=e.s-1)&&lb)by unfold eS;rw[a,q,m];rfl);have n:=U9 (ii e u true a);have j:=U9 λW=>NG e.d v W
  have j:Va (∀W,Yt 108 #[.agg (aq e.d),.agg (aq v)] W λe w'=>e=.returned (.bool lb)/\Ys W w'):=by
   have c:=j.o;rw[m]at c;exact U9 c
  have s1:IntKind.u64.wrap (e.s-1)=e.s-1:=XN _ (by omega);have K:IntKind.i64.wrap (e.o-1)=(k:Int):=by rw[p];simp;exact VE _ (by omega)
  have M:(0:Int)<=(k:Int):=by omega
  have I:(k:Int)<6:=by omega
  have L:=fW v k z;obtain⟨h,F⟩:∃b,(v.get k==e.s-1)=b:=⟨_,rfl⟩;have D:=U9 (show decide (v.get k=e.s-1)=h by rw[<-F];rfl);clear a p E A m q;rcases(show h=false\/h=true from by cases h<;>simp)with rfl|rfl
  all_goals
   go_enter func92,ntmps92;go_wp2_with fail;have T:bF w _ _:=((bF.nil w).push (t:=34) (cs:=aq v) rfl).push (t:=53) (cs:=ao e) (g:=w.heap.size+1) (by simp);generalize (w.alloc _).alloc _=W at T⊢;obtain⟨B,-,y,-,-⟩:=T.rules;obtain⟨G,C,-⟩:=T.lts;refine dY (by kernel_rfl) (by kernel_rfl) ?_
   repeat (go_big_quiet_step (first|(go_at_call 72;with_reducible exact Calls.later (n.o _))|(go_at_call 108;with_reducible exact Calls.later (j.o _))))
   refine Xm ?_;rintro i ⟨x,rfl⟩;have f:=T.call x.below;generalize x.w=i at f;go_wp2_with fail;go_ret;exact⟨by rw[l.o,D.o];rfl,f.below⟩
theorem Ov(v:av)(e:Ev)(h:e.ok)(w:Yu):Yt 91 #[.agg (aq v),.agg (ao e)] w λr w'=>r=.returned (.bool (dJ v e))/\Ys w w':=by
 cases a:aX e with
 |false=>
  have b:=U9 (ii e h false a);have d:=U9 (show dJ v e=false by unfold dJ;rw[a];rfl);clear a;go_enter func91,ntmps91;go_wp2_with fail;have T:bF w _ _:=((bF.nil w).push (t:=34) (cs:=aq v) rfl).push (t:=53) (cs:=ao e) (g:=w.heap.size+1) (by simp);refine(Calls.trk (b.o _) T).mono ?_;rintro r i ⟨rfl,c,-⟩;go_wp2_with fail;go_ret;exact⟨by rw[d.o];rfl,c.below⟩
 |true=>
  obtain⟨k,j,f,z,x,p,m⟩:=na e (qk a);have l:(e.o-1).toNat=k:=by omega
  have d:=U9 (show dJ v e=lU v e.o e.s by
   unfold dJ lU;rw[a,show lf e.o=true from by rw[f];exact uk k j,show decide (0<e.s)=true from by simp;omega]
   rfl)
  have b:=U9 (ii e h true a);have n:=U9 λW=>Rb v e.o e.s W
  clear a f p m l;go_enter func91,ntmps91;go_wp2_with fail;have T:bF w _ _:=((bF.nil w).push (t:=34) (cs:=aq v) rfl).push (t:=53) (cs:=ao e) (g:=w.heap.size+1) (by simp);refine(Calls.trk (b.o _) T).mono ?_;rintro r i ⟨rfl,c,y,-,u,-,-⟩;go_wp2_with (go_at_call 114;(with_reducible refine(Calls.trk (n.o _) c).mono ?_);rintro r A ⟨rfl,q,-⟩);go_ret;exact⟨by rw[d.o];rfl,q.below⟩
end
