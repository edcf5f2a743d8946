import Derived.Test.YtghdobdjfnimmaaGreatDoorZ16
set_option maxRecDepth 100000
set_option maxHeartbeats 0
set_option linter.all false
namespace Go.Proofs.YtghdobdjfnimmaaGreatDoor
open Go.Proofs.Tryz
variable{w:Yu}{g:Nat}{t:Yw}
section
open Go.RowKit Go
section
variable(inn:Nat->Bool)(kn:av)(t pm rm:Nat)(ow:av)(gm qm:Nat)
@[go_sem] theorem RZ:(gz inn kn t pm rm ow gm qm)[0]? =some (.bool (inn 0)):=rfl
@[go_sem] theorem RY:(gz inn kn t pm rm ow gm qm)[1]? =some (.bool (inn 1)):=rfl
@[go_sem] theorem RX:(gz inn kn t pm rm ow gm qm)[2]? =some (.bool (inn 2)):=rfl
@[go_sem] theorem RW:(gz inn kn t pm rm ow gm qm)[3]? =some (.bool (inn 3)):=rfl
@[go_sem] theorem RV:(gz inn kn t pm rm ow gm qm)[4]? =some (.bool (inn 4)):=rfl
@[go_sem] theorem RU:(gz inn kn t pm rm ow gm qm)[5]? =some (.bool (inn 5)):=rfl
@[go_sem] theorem RT:(gz inn kn t pm rm ow gm qm)[6]? =some (.bool (inn 6)):=rfl
@[go_sem] theorem RS:(gz inn kn t pm rm ow gm qm)[7]? =some (.bool (inn 7)):=rfl
@[go_sem] theorem RR:(gz inn kn t pm rm ow gm qm)[8]? =some (.bool (inn 8)):=rfl
@[go_sem] theorem RQ:(gz inn kn t pm rm ow gm qm)[9]? =some (.bool (inn 9)):=rfl
@[go_sem] theorem QX:(gz inn kn t pm rm ow gm qm)[10]? =some (.bool (inn 10)):=rfl
@[go_sem] theorem QW:(gz inn kn t pm rm ow gm qm)[11]? =some (.bool (inn 11)):=rfl
end
def cy(inn:Nat->Bool)(kn:av)(x y:Yv):Array Yv:=
 #[.bool (inn 0),.bool (inn 1),.bool (inn 2),.bool (inn 3),.bool (inn 4),.bool (inn 5),.bool (inn 6),.bool (inn 7),.bool (inn 8),.bool (inn 9),.bool (inn 10),.bool (inn 11),
  .int .u64 kn.v0,.int .u64 kn.v1,.int .u64 kn.v2,.int .u64 kn.v3,.int .u64 kn.v4,.int .u64 kn.v5,x,y]
section
variable(inn:Nat->Bool)(kn:av)(x y z:Yv)
theorem BN:(cy inn kn x y).size=20:=rfl
theorem BO(k:Nat)(h:k<6):(cy inn kn x y)[k]? =some (.bool (inn k)):=av.six (P:=λk=>(cy inn kn x y)[k]? =some (.bool (inn k))) rfl rfl rfl rfl rfl rfl k h
theorem tZ(k:Nat)(h:k<6):(cy inn kn x y)[6+k]? =some (.bool (inn (6+k))):=av.six (P:=λk=>(cy inn kn x y)[6+k]? =some (.bool (inn (6+k)))) rfl rfl rfl rfl rfl rfl k h
@[go_sem] theorem Rl:(cy inn kn x y)[12]? =some (.int .u64 kn.v0):=rfl
@[go_sem] theorem Rk:(cy inn kn x y)[13]? =some (.int .u64 kn.v1):=rfl
@[go_sem] theorem Rj:(cy inn kn x y)[14]? =some (.int .u64 kn.v2):=rfl
@[go_sem] theorem Ri:(cy inn kn x y)[15]? =some (.int .u64 kn.v3):=rfl
@[go_sem] theorem Rh:(cy inn kn x y)[16]? =some (.int .u64 kn.v4):=rfl
@[go_sem] theorem Rg:(cy inn kn x y)[17]? =some (.int .u64 kn.v5):=rfl
@[go_sem] theorem BQ:(cy inn kn x y)[18]? =some x:=rfl
@[go_sem] theorem BP:(cy inn kn x y)[19]? =some y:=rfl
@[go_sem] theorem zF:(cy inn kn x y).setIfInBounds 18 z=cy inn kn z y:=rfl
@[go_sem] theorem zE:(cy inn kn x y).setIfInBounds 19 z=cy inn kn x z:=rfl
end
theorem dn(inn:Nat->Bool)(kn:av)(x y:Yv):(prog.info? 38).map (·.size)=some (cy inn kn x y).size:=by rw[BN];kernel_rfl
section
variable(ρ:Yx->Yv)(dst:Option Tmp)(x y z u:Yx)(ty:Yw)(pos:String)(after:Array Edge)(guard:Option (Nat×Bool))
@[go_sem ↓ high] theorem IU:execOp ρ {dst,op:=.load 38 x,type:=ty,pos,after,guard}=dR 38 (ρ x):=by simp[execOp,dR]
@[go_sem ↓ high] theorem IC:execOp ρ {dst,op:=.store 38 x y,type:=ty,pos,after,guard}=eR 38 (ρ x) (ρ y):=by simp[execOp,eR]
end
theorem bX{P:Program}{ty:Yw}{b cs:Array Yv}(h:ai w g t b)(j:(P.info? ty).map (·.size)=some cs.size)(c:cs.size=b.size)(f:cs.all (·.oneCell')=true):
  (eR ty (Yr g) (.agg cs)).run P w=.ok .skip (w.setRow g cs):=by
 have d:=oJ (P:=P) (ty:=ty) (o:=0) h j (by omega) f;rw[d];have e:(b.toList.take 0++cs.toList++b.toList.drop (0+cs.size)).toArray=cs:=by
  rw[XD (by simp[c])];simp
 rw[e]
theorem dG{P:Program}{ty:Yw}{cs:Array Yv}{d:TypeDesc}(f:ai w g t cs)(e:P.underlying ty=some d)(b:d.isRow=true)(c:(P.info? ty).map (·.size)=some cs.size):
  (dR ty (Yr g)).run P w=.ok (.value (.agg cs)) w:=aY f.rng e b c
theorem aM(w:Yu)(g:Nat)(cs:Array Yv):Fr w (w.setRow g cs) g none:=⟨rfl,rfl,rfl,by simp[World.setRow],λj _ b _=>Wv w g j _ b⟩
theorem ax{b:Array Yv}(c:ai w g t b)(cs:Array Yv):ai (w.setRow g cs) g t cs:=WB w g _ _ t _ c
def MJ(x y z:Yv):Sem Next:=do pure (.value (<-Instr.build 82 #[(0,x),(1,y),(2,z)]))
section
variable(ρ:Yx->Yv)(dst:Option Tmp)(x y z u:Yx)(ty:Yw)(pos:String)(after:Array Edge)(guard:Option (Nat×Bool))
@[go_sem ↓ high] theorem Jg:execOp ρ {dst,op:=.build 82 #[(0,x),(1,y),(2,z)],type:=ty,pos,after,guard}=MJ (ρ x) (ρ y) (ρ z):=by simp[execOp,MJ]
end
@[go_sem] theorem N8(a b:Int)(f:Nat->Int)(w:Yu):(MJ (.int .u64 a) (.int .u64 b) (.agg (aG f))).run prog w=.ok (.value (.agg (jG ⟨a,b,f⟩))) w:=by kernel_rfl
def SO(x y z:Yv):Sem Next:=do pure (.value (<-Instr.build 38 #[(0,x),(1,y),(2,z)]))
section
variable(ρ:Yx->Yv)(dst:Option Tmp)(x y z u:Yx)(ty:Yw)(pos:String)(after:Array Edge)(guard:Option (Nat×Bool))
@[go_sem ↓ high] theorem LN:execOp ρ {dst,op:=.build 38 #[(0,x),(1,y),(2,z)],type:=ty,pos,after,guard}=SO (ρ x) (ρ y) (ρ z):=by simp[execOp,SO]
end
@[go_sem] theorem QL(f b1 b2 l j e h d k m c b:Bool)(v:av)(w:Yu):(SO (.agg #[.bool f,.bool b1,.bool b2,.bool l,.bool j,.bool e]) (.agg #[.bool h,.bool d,.bool k,.bool m,.bool c,.bool b]) (.agg (aq v))).run prog w=.ok (.value (.agg #[.bool f,.bool b1,.bool b2,.bool l,.bool j,.bool e,.bool h,.bool d,.bool k,.bool m,.bool c,.bool b,.int .u64 v.v0,.int .u64 v.v1,.int .u64 v.v2,.int .u64 v.v3,.int .u64 v.v4,.int .u64 v.v5,.slice none 0 0,.slice none 0 0])) w:=by kernel_rfl
section
variable{P:Program}{Q:Exit->Act->Yu->Prop}
theorem gG{id:Nat}{a:Act}{l:List Oper}(n:Nat)(s:P.follows .mixedOrders=true)(I:n<=l.length)(B:jz .any l.toArray n=true)
  (f:Region.lexB .any (l.take n).toArray=true) (hF:eP .any l.toArray (l.drop n).length n (aO n 0 (Array.replicate l.length false))=true)
  (q:(Region.ready .any l.toArray (aO (l.drop n).length n (aO n 0 (Array.replicate l.length false)))).isEmpty=true)
  (h:wpQuiet P (l.take n).toArray (λw'=>∃m,w'=w.drewN m) (λc=>∀w',(∃m,w'=w.drewN m)->wpList P l.toArray Q (l.drop n) c w') (l.take n) a):(Code.region id l.toArray true).wp P Q a w:=by
 refine WV s ?_;simp only[Region.lexB,Vo]at f;have D:∀a w,wpList P l.toArray Q (l.drop n) a w->wpAny P .any l.toArray Q (l.drop n).length (aO n 0 (Array.replicate l.length false)) a w:=λa w d=>by
  have A:=fh (P:=P) (md:=.any) (Q:=Q) (K:=λa w=>Q .normal a w) (l.drop n).length n (aO n 0 (Array.replicate l.length false)) (l.drop n) a w 0
   (λa w v=>⟨by simpa using q,v⟩) rfl (λj _=>by simp) hF (by rw[iT];exact d)
  exact A
 have H:=wpAnyQ_lex (P:=P) (C:=λw'=>∃m,w'=w.drewN m) (md:=.any) f.1 (l.take n) 0 (Array.replicate (l.take n).length false) a (by simp) (by simpa using f.2) h;have G:wpAny P .any (l.take n).toArray (oA Q (λa w=>wpList P l.toArray Q (l.drop n) a w)) (l.take n).length (Array.replicate (l.take n).length false) a w.drew:=
  wpAny_of_quiet (Q:=λc=>∀w',(∃m,w'=w.drewN m)->wpList P l.toArray Q (l.drop n) c w') (λ_ w' b d=>d w' b) _ _ _ _ ⟨1,rfl⟩ H
 have r:(l.take n).length=n:=by simp;omega
 have p:=ff (n:=n) (m:=(l.drop n).length) I B D (l.take n).length (Array.replicate (l.take n).length false) (Array.replicate l.length false) a w.drew (by simp;omega) (by simp)
  (λi J=>by
   rw[bB,bB]) (λi _=>bB _ _) (λj o _ k=>by rw[bB]at k;cases k) (by simp) G
 have e:(l.take n).length+(l.drop n).length=l.length:=by rw[<-Vl,Wf]
 rw[e]at p;simpa using p
end
end
section
open Go.RowKit Go.BigFrame
section
variable{ops:Array Oper}{W w0:Yu}{bs:List (Nat×Yw×Array Yv)}{E:List En}{Q:Act->aI->Prop}{i:Nat}{o:Oper}{rest:List Oper}{a:Act}{F:aI}
theorem AK{f:FuncId}{args:Array Yv}{l:List Int}(h:Calls prog f args w (lS l w)):Calls prog f args w λe w'=>∃u,e=.returned u/\fU l u w'/\Ys w w':=
 h.mono λ_ _ ⟨u,c,b,d⟩=>⟨u,c,fU.of_own b,d⟩
end
end
