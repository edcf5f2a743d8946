import Derived.Test.YtghdobdjfnimmaaGreatDoorZ12
set_option maxRecDepth 100000
set_option maxHeartbeats 0
set_option linter.all false
namespace Go.Proofs.YtghdobdjfnimmaaGreatDoor
open Go.Proofs.Tryz
section
open Go.RowKit Go
section
variable{w:Yu}{base:Nat}{v:Yv}{l:List Int}
theorem JW(h:ij w base v l)(J:l.length<=1000000)(x:Int):Yt 336 #[v,.int .u64 x] w λr w'=>∃n:Int,r=.returned (.int .i64 n)/\(0<=n↔x∈l)/\w=w':=by
 obtain⟨A,c,rfl,K,hm⟩:=h.sl;have H:=U9 h;clear h;go_enter func336,ntmps336;go_wp2_with fail
 go_loop [8] (λi=>∃k:Nat,k<=l.length/\i=.int .i64 k/\x∉l.take k) (λi=>l.length-(intOf i).toNat)
 case atStart=>exact⟨0,by omega,rfl,by simp⟩
 case round=>
  obtain⟨k,I,rfl,q⟩:=hrel;by_cases s:k<l.length
  ·obtain⟨y,B⟩:∃y,l[k]? =some y:=⟨l[k],Ve s⟩
   obtain⟨g,cap,C,j,z,F,E⟩:=H.o.sl_pos (by omega);have e:=H.o;rw[C]at e;have m:=e.rng cY B;obtain⟨rfl,u⟩:A=some ⟨g,0,none⟩/\c=cap:=by injection C with a b c;exact⟨a,c⟩
   have D:w.cell? ⟨g,k,none⟩=some (.int .u64 y):=by have this:=m 0 (.int .u64 y) rfl;rw[V3]at this;exact this
   have G:decide ((k:Int)<l.length)=true:=Vg (by omega);have p:=U9 (Vb q B);clear e m C j z u q B;by_cases d:x=y
   ·have t:(x==y)=true:=by simp[d]
    have f:=U9 d;clear d;go_wp2_with fail;go_ret;exact⟨_,rfl,⟨λ_=>f.o▸Vn p.o.2,λ_=>by omega⟩,rfl⟩
   ·have t:(x==y)=false:=by simpa using d
    have f:=U9 d;clear d;go_wp2_with fail
    go_round
    case rel=>
     refine⟨k+1,by omega,by simp,λhm=>?_⟩;rw[VN,p.o.2]at hm;rcases Vw.1 hm with hm|hm
     ·exact p.o.1 hm
     ·exact f.o (by simpa using hm)
    case measure=>simp[intOf];omega
  ·obtain rfl:k=l.length:=by omega
   have p:=U9 q;clear q;go_wp2_with fail;go_ret;refine⟨_,rfl,⟨λh=>by omega,λh=>?_⟩,rfl⟩;have:=p.o;rw[WN]at this;exact absurd h this
theorem zw(h:ij w base v l)(d:l.length<=1000000)(x:Int)(b:Bool)(a:decide (x∈l)=b):Yt 325 #[v,.int .u64 x] w λr w'=>r=.returned (.bool b)/\w=w':=by
 have f:=U9 (JW h d x);have e:=U9 a;obtain⟨A,c,rfl,k,i⟩:=h.sl;clear h a;go_enter func325,ntmps325;go_wp2_with fail;refine f.o.mono ?_;rintro r j ⟨n,rfl,g,rfl⟩;go_wp2_with fail;go_ret;refine⟨?_,rfl⟩;rw[<-e.o];simp[g]
end
end
