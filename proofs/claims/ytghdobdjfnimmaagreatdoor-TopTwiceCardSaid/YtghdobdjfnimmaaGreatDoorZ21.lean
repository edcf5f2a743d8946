import Derived.Test.YtghdobdjfnimmaaGreatDoorZ20
set_option maxRecDepth 100000
set_option maxHeartbeats 0
set_option linter.all false
namespace Go.Proofs.YtghdobdjfnimmaaGreatDoor
open Go.Proofs.Tryz
variable{w:Yu}{g:Nat}{t:Yw}
section
open Go.RowKit Go
def cQ(a:cJ):Array Yv:=#[.int .u8 a.k,.int .u64 a.n,.int .i64 a.t,.int .i64 a.a,.int .u64 a.r,.int .u64 a.f]
section
variable(a:cJ)
theorem mN:(cQ a).size=6:=rfl
@[go_sem] theorem Ur:(cQ a)[0]? =some (.int .u8 a.k):=rfl
@[go_sem] theorem Uq:(cQ a)[1]? =some (.int .u64 a.n):=rfl
@[go_sem] theorem Up:(cQ a)[2]? =some (.int .i64 a.t):=rfl
@[go_sem] theorem Uo:(cQ a)[3]? =some (.int .i64 a.a):=rfl
@[go_sem] theorem Un:(cQ a)[4]? =some (.int .u64 a.r):=rfl
@[go_sem] theorem Um:(cQ a)[5]? =some (.int .u64 a.f):=rfl
theorem oG:(prog.info? 42).map (·.size)=some (cQ a).size:=by rw[mN];kernel_rfl
end
theorem kz(e:Ev):(ao e).all (·.oneCell')=true:=by simp[ao,Value.oneCell']
theorem bY(e:Ev):(prog.info? 53).map (·.size)=some (ao e).size:=by rw[dO];kernel_rfl
def dC(e:Ev)(x:Int):Array Yv:=#[.int .i64 e.o,.int .u64 e.s,.int .u64 e.d.v0,.int .u64 e.d.v1,.int .u64 e.d.v2,.int .u64 e.d.v3,.int .u64 e.d.v4,.int .u64 e.d.v5,.int .u8 e.k,.int .u64 e.n,.int .i64 e.t,.int .i64 e.a,.int .u64 e.r,.int .u64 e.f,.int .i64 x]
section
variable(e:Ev)(x:Int)
theorem vV:(dC e x).size=15:=rfl
@[go_sem] theorem Ul:(dC e x)[0]? =some (.int .i64 e.o):=rfl
@[go_sem] theorem Uk:(dC e x)[1]? =some (.int .u64 e.s):=rfl
@[go_sem] theorem SX:(dC e x)[14]? =some (.int .i64 x):=rfl
theorem zd:(dC e x).all (·.oneCell')=true:=by simp[dC,Value.oneCell']
theorem aV:(prog.info? 55).map (·.size)=some (dC e x).size:=by rw[vV];kernel_rfl
end
section
variable(ρ:Yx->Yv)(dst:Option Tmp)(x y z u:Yx)(ty:Yw)(pos:String)(after:Array Edge)(guard:Option (Nat×Bool))
@[go_sem ↓ high] theorem GY:execOp ρ {dst,op:=.load 53 x,type:=ty,pos,after,guard}=dR 53 (ρ x):=by simp[execOp,dR]
@[go_sem ↓ high] theorem GS:execOp ρ {dst,op:=.store 53 x y,type:=ty,pos,after,guard}=eR 53 (ρ x) (ρ y):=by simp[execOp,eR]
@[go_sem ↓ high] theorem G3:execOp ρ {dst,op:=.load 42 x,type:=ty,pos,after,guard}=dR 42 (ρ x):=by simp[execOp,dR]
@[go_sem ↓ high] theorem GU:execOp ρ {dst,op:=.store 42 x y,type:=ty,pos,after,guard}=eR 42 (ρ x) (ρ y):=by simp[execOp,eR]
@[go_sem ↓ high] theorem GZ:execOp ρ {dst,op:=.load 55 x,type:=ty,pos,after,guard}=dR 55 (ρ x):=by simp[execOp,dR]
@[go_sem ↓ high] theorem GT:execOp ρ {dst,op:=.store 55 x y,type:=ty,pos,after,guard}=eR 55 (ρ x) (ρ y):=by simp[execOp,eR]
end
theorem dz{e:Ev}(b:ai w g t (ao e)):(dR 53 (Yr g)).run prog w=.ok (.value (.agg (ao e))) w:=dG b underlying53 rfl (bY e)
theorem pQ{a:cJ}(b:ai w g t (cQ a)):(dR 42 (Yr g)).run prog w=.ok (.value (.agg (cQ a))) w:=dG b underlying42 rfl (oG a)
theorem uW{e:Ev}{x:Int}(b:ai w g t (dC e x)):(dR 55 (Yr g)).run prog w=.ok (.value (.agg (dC e x))) w:=dG b underlying55 rfl (aV e x)
theorem fE{b:Array Yv}(c:ai w g t b)(d:b.size=14)(e:Ev):(eR 53 (Yr g) (.agg (ao e))).run prog w=.ok .skip (w.setRow g (ao e)):=bX c (bY e) (by rw[dO,d]) (kz e)
theorem cO{b:Array Yv}(c:ai w g t b)(d:b.size=15)(e:Ev)(x:Int):(eR 55 (Yr g) (.agg (dC e x))).run prog w=.ok .skip (w.setRow g (dC e x)):=bX c (aV e x) (by rw[vV,d]) (zd e x)
def MN(x3 x4 x5 x6 x7 x8:Yv):Sem Next:=do pure (.value (<-Instr.build 53 #[(3,x3),(4,x4),(5,x5),(6,x6),(7,x7),(8,x8)]))
def MR(x y:Yv):Sem Next:=do pure (.value (<-Instr.build 55 #[(0,x),(1,y)]))
def MS(y:Yv):Sem Next:=do pure (.value (<-Instr.build 55 #[(1,y)]))
def MO:Sem Next:=do pure (.value (<-Instr.build 53 #[]))
section
variable(ρ:Yx->Yv)(dst:Option Tmp)(x y z u x3 x4 x5 x6 x7 x8:Yx)(ty:Yw)(pos:String)(after:Array Edge)(guard:Option (Nat×Bool))
@[go_sem ↓ high] theorem Jh:execOp ρ {dst,op:=.build 53 #[(3,x3),(4,x4),(5,x5),(6,x6),(7,x7),(8,x8)],type:=ty,pos,after,guard}=MN (ρ x3) (ρ x4) (ρ x5) (ρ x6) (ρ x7) (ρ x8):=by simp[execOp,MN]
@[go_sem ↓ high] theorem Ji:execOp ρ {dst,op:=.build 53 #[],type:=ty,pos,after,guard}=MO:=by simp[execOp,MO]
@[go_sem ↓ high] theorem Jl:execOp ρ {dst,op:=.build 55 #[(0,x),(1,y)],type:=ty,pos,after,guard}=MR (ρ x) (ρ y):=by simp[execOp,MR]
@[go_sem ↓ high] theorem Jm:execOp ρ {dst,op:=.build 55 #[(1,y)],type:=ty,pos,after,guard}=MS (ρ y):=by simp[execOp,MS]
end
@[go_sem] theorem N9(k n t a r f:Int)(w:Yu):(MN (.int .u8 k) (.int .u64 n) (.int .i64 t) (.int .i64 a) (.int .u64 r) (.int .u64 f)).run prog w=.ok (.value (.agg (ao ⟨0,0,av.zero,k,n,t,a,r,f⟩))) w:=by kernel_rfl
@[go_sem] theorem Oa(w:Yu):MO.run prog w=.ok (.value (.agg (ao Ev.zero))) w:=by kernel_rfl
@[go_sem] theorem Od(e:Ev)(x:Int)(w:Yu):(MR (.agg (ao e)) (.int .i64 x)).run prog w=.ok (.value (.agg (dC e x))) w:=by kernel_rfl
@[go_sem] theorem Oe(x:Int)(w:Yu):(MS (.int .i64 x)).run prog w=.ok (.value (.agg (dC Ev.zero x))) w:=by kernel_rfl
end
