import Derived.Test.YtghdobdjfnimmaaGreatDoorZ01
import Derived.Deep.MidRow
set_option maxRecDepth 100000
set_option maxHeartbeats 0
set_option linter.all false
namespace Go.Proofs.YtghdobdjfnimmaaGreatDoor
open Go.Proofs.Tryz
variable{w:Yu}{cs:Array Yv}
section
open Go.RowKit Go
def zg(w:Yu)(b o:Nat)(cs:Array Yv):Prop:=∀j v,cs[j]? =some v->w.cell? ⟨b,o+j,none⟩=some v
theorem zg.at_{b o:Nat}(h:zg w b o cs):w.rangeAt b o cs.toList:=λj v c=>h j v (by simpa using c)
theorem ai.rng{g:Nat}{t:Yw}(h:ai w g t cs):zg w g 0 cs:=λj v b=>by rw[Vk,h.cell];exact b
theorem ai.rngAt{g o n:Nat}{t:Yw}(h:ai w g t cs)(c:Array Yv)(d:∀j v,c[j]? =some v->cs[o+j]? =some v):zg w g o c:=λj v b=>by rw[h.cell];exact d j v b
section
variable{P:Program}{ops:Array Oper}{rest:List Oper}{op:Oper}{a:Act}{w:Yu}{Q:Exit->Act->Yu->Prop}
theorem sG(w:Yu)(b o:Nat)(ty:Yw)(cs:Array Yv)(d:TypeDesc)(g:zg w b o cs)(e:P.underlying ty=some d)(c:d.isRow=true)(f:(P.info? ty).map (·.size)=some cs.size):
  (Instr.loadAt ty (.pointer (some ⟨b,o,none⟩))).run P w=.ok (.agg cs) w:=by
 have:=run_loadAt_mid (P:=P) w b o ty cs.toList d g.at_ e c (by simpa using f);simpa using this
end
def aG(f:Nat->Int):Array Yv:=((List.range 54).map λi=>Value.int .i64 (f i)).toArray
theorem dZ(f:Nat->Int):(aG f).size=54:=by simp[aG]
theorem bZ(f:Nat->Int)(k:Nat)(h:k<54):(aG f)[k]? =some (.int .i64 (f k)):=by
 simp[aG,h]
def jD(f:Nat->Int)(k:Nat)(x:Int):Nat->Int:=λi=>if i=k then x else f i
theorem sJ(f:Nat->Int)(k:Nat)(h:k<54)(x:Int):(aG f).setIfInBounds k (.int .i64 x)=aG (jD f k x):=by
 apply Array.ext_getElem?;intro i;rw[Array.getElem?_setIfInBounds];by_cases b:k=i
 ·subst b
  rw[Vh rfl,Vh (by rw[dZ];exact h),bZ _ _ h];simp[jD]
 ·rw[Vf b]
  by_cases c:i<54
  ·rw[bZ _ _ c,bZ _ _ c]
   simp[jD,V1 b]
  ·rw[VP (by rw[dZ];omega),VP (by rw[dZ];omega)]
theorem pq(f:Nat->Int):(aG f).all (·.oneCell')=true:=by
 rw[VL];intro v b;simp[aG]at b;obtain⟨i,_,rfl⟩:=b
 rfl
theorem sC(f:Nat->Int):(prog.info? 80).map (·.size)=some (aG f).size:=by rw[dZ];kernel_rfl
def z0:Nat->Int:=λ_=>0
@[go_sem] theorem Oi:#[.int .i64 0,.int .i64 0,.int .i64 0,.int .i64 0,.int .i64 0,.int .i64 0,.int .i64 0,.int .i64 0,.int .i64 0,.int .i64 0,.int .i64 0,.int .i64 0,.int .i64 0,.int .i64 0,.int .i64 0,.int .i64 0,.int .i64 0,.int .i64 0,.int .i64 0,.int .i64 0,.int .i64 0,.int .i64 0,.int .i64 0,.int .i64 0,.int .i64 0,.int .i64 0,.int .i64 0,.int .i64 0,.int .i64 0,.int .i64 0,.int .i64 0,.int .i64 0,.int .i64 0,.int .i64 0,.int .i64 0,.int .i64 0,.int .i64 0,.int .i64 0,.int .i64 0,.int .i64 0,.int .i64 0,.int .i64 0,.int .i64 0,.int .i64 0,.int .i64 0,.int .i64 0,.int .i64 0,.int .i64 0,.int .i64 0,.int .i64 0,.int .i64 0,.int .i64 0,.int .i64 0,.int .i64 0]=aG z0:=by kernel_rfl
def SQ:Sem Next:=do pure (.value (<-Instr.build 80 #[]))
section
variable(ρ:Yx->Yv)(dst:Option Tmp)(ty:Yw)(pos:String)(after:Array Edge)(guard:Option (Nat×Bool))
@[go_sem ↓] theorem LO:execOp ρ {dst,op:=.build 80 #[],type:=ty,pos,after,guard}=SQ:=by simp[execOp,SQ]
end
@[go_sem] theorem QN(w:Yu):SQ.run prog w=.ok (.value (.agg (aG z0))) w:=by kernel_rfl
section
variable{P:Program}{ops:Array Oper}{rest:List Oper}{op:Oper}{a:Act}{w:Yu}{Q:Exit->Act->Yu->Prop}
theorem iS(w:Yu)(g o:Nat)(t ty:Yw)(b cells:Array Yv)(k:w.heap[g]? =some (.cells b t (0,0)))(e:(P.info? ty).map (·.size)=some cells.size)
  (f:o+cells.size<=b.size) (j:cells.all (·.oneCell')=true):
  (storeVar ty ⟨g,o,none⟩ (.agg cells)).run P w=.ok () (w.setRow g (b.toList.take o++cells.toList++b.toList.drop (o+cells.size)).toArray):=by
 have:=Yj (P:=P) g o t cells.toList 0 b w k (by simpa using f) (λv h=>(VL.1 j) v (by simpa using h));cases c:P.info? ty with
 |none=>simp[c]at e
 |some i=>
  have d:cells.size=i.size:=by simp[c]at e;omega
  rw[Yc,VW]at this;rw[d]at this;simp[storeVar,sizeOf,typeInfo,c,Value.cells,d,this]
theorem mU(d:op.guard=none)(ty:Yw)(x y:Yx)(e:op.op=.store ty x y)
  (g off:Nat) (cells:Array Yv) (m:a.eval x=.pointer (some ⟨g,off,none⟩)) (f:a.eval y=.agg cells)
  (t:Yw) (b:Array Yv) (k:w.heap[g]? =some (.cells b t (0,0))) (l:(P.info? ty).map (·.size)=some cells.size)
  (c:off+cells.size<=b.size) (j:cells.all (·.oneCell')=true)
  (h:wpList P ops Q rest (a.put op.dst undef) (w.setRow g (b.toList.take off++cells.toList++b.toList.drop (off+cells.size)).toArray)):wpList P ops Q (op::rest) a w:=by
 refine Xo d λ_ i=>?_
 unfold Oper.wp execOp;simp only[e,m,f,Instr.storeAt,Instr.sureAddr,Wu,XK,V2,iS w g off t ty b cells k l c j];exact i _ _ h
end
end
