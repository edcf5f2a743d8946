import Derived.Test.YtghdobdjfnimmaaGreatDoorZ10
set_option maxRecDepth 100000
set_option maxHeartbeats 0
set_option linter.all false
namespace Go.Proofs.YtghdobdjfnimmaaGreatDoor
open Go.Proofs.Tryz
section
open Go.RowKit Go Go.Shelf
attribute [local go_sem] Oper.semAt_some
def ix(l:List Int):Nat->List (Int×Int)
 |0=>[]
 |k+1=>((k:Int),l.getD k 0)::ix l k
section
variable{base c1:Nat}{v:Yv}{l:List Int}
def JH(base c1:Nat)(v:Yv)(l:List Int)(w:Yu):Prop:=ai w c1 172 #[v]/\ij w base v l
theorem EU(n:Nat)(hl:l.length<=1000000)(w0:Yu):xW Fence.wide n prog 335 #[Yr c1] (λx:Int×Int=>#[.int .i64 x.1,.int .u64 x.2]) (λA B=>A=B) (JH base c1 v l) (λ_ _=>True) l.length (λx=>x.2∈l) (ix l l.length) w0:=by
 intro lp J W P p U O K;have HY:=U9 U;have HI:=U9 p;obtain⟨s,C⟩:=p _ _ K;obtain⟨A,c,hv,hc,hm⟩:=C.sl;subst hv;obtain⟨q0,-⟩:=s.rules;have e0:IntKind.i64.wrap ((l.length:Int)-1)=(l.length:Int)-1:=VE _ (by omega);have X:=U9 K;clear U P p O K s C;refine callsIn_of_wp func335 rfl trivial ?_ rfl;simp only[ntmps335,WU,VB,VR,Nat.reduceAdd,Nat.reduceSub,XR,XS,Ym,XX,V8,XQ];gi_wp2_with fail
 gi_loopw [3] (λi wr=>∃(d:List (Int×Int)) (k:Nat),k<=l.length/\i=.int .i64 ((k:Int)-1)/\ix l l.length=d++ix l k/\J d wr) (λi _=>(intOf i+1).toNat)
 case atStart=>exact⟨[],l.length,by omega,rfl,rfl,X.o⟩
 case round=>
  obtain⟨d,k,hk,rfl,z,E⟩:=hrel;obtain⟨m,e⟩:=HI.o _ _ E;obtain⟨q,-⟩:=m.rules;cases k with
  |zero=>
   have G:=U9 (Vb z E);clear m e z E;gi_wp2_with fail
   try (refine⟨λ_ h=>(by cases h),?_⟩;gi_wp2_with fail)
   go_end0
   exact⟨⟨_,rfl⟩,by rw[G.o.1];simpa[ix]using G.o.2⟩
  |succ k=>
   have I:k<l.length:=by omega
   obtain⟨y,F⟩:∃y,l[k]? =some y:=⟨l[k],Ve I⟩;have f:d.length<l.length:=by
    have S:∀j,(ix l j).length=j:=λj=>by induction j with
     |zero=>rfl
     |succ j ih=>simp[ix,ih]
    have Y:=Vt List.length z;rw[Vl,S,S]at Y;omega
   obtain⟨fn,tmps,assign,body,L,V⟩:=HY.o d ((k:Int),y) wr E f (Vn F);obtain⟨g,cap,Q,t,M,α,β⟩:=e.sl_pos (by omega);rw[Q]at e;have D:=e.rng cY F;obtain⟨rfl,u⟩:A=some ⟨g,0,none⟩/\c=cap:=by injection Q with a b c;exact⟨a,c⟩
   have N:wr.cell? ⟨g,k,none⟩=some (.int .u64 y):=by have this:=D 0 (.int .u64 y) rfl;rw[V3]at this;exact this
   have w:ix l l.length=(d++[((k:Int),y)])++ix l k:=by
    rw[z];have H:l.getD k 0=y:=by rw[Wh,F];rfl
    show d++(((k:Int),l.getD k 0)::ix l k)=_;rw[H];simp
   have Z:((k+1:Nat):Int)-1=(k:Int):=by omega
   have e1:IntKind.i64.wrap ((k:Int)-1)=(k:Int)-1:=VE _ (by omega);have hd:decide ((0:Int)<=(k:Int))=true:=Vg (by omega);rw[Z];have T:=U9 V;have G:=U9 w;clear m e z E V f D Q t M u F w;gi_wp2_with fail;refine⟨λh=>(by cases h),T.o.mono ?_⟩;rintro r W3 ⟨rfl,R,-⟩;clear N q L T;gi_wp2_with fail;go_roundw
   case rel=>exact⟨d++[((k:Int),y)],k,by omega,rfl,G.o,R⟩
   case measure=>simp[intOf]
end
end
