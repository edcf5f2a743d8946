import Derived.Test.YtghdobdjfnimmaaGreatDoorZ03
set_option maxRecDepth 100000
set_option maxHeartbeats 0
set_option linter.all false
namespace Go.Proofs.YtghdobdjfnimmaaGreatDoor
open Go.Proofs.Tryz
section
open Go.RowKit
def Bv(d:av):Nat->Int
 |0=>d.get 0
 |k+1=>max (Bv d k) (d.get (k+1))
theorem yl(d:av)(m:Int)(k:Nat):Bv d k<m↔∀j,j<=k->d.get j<m:=by
 induction k with
 |zero=>
  constructor
  ·intro h j a
   obtain rfl:j=0:=by omega
   exact h
  ·intro h
   exact h 0 (Vc _)
 |succ k ih=>
  simp only[Bv];constructor
  ·intro h j a
   by_cases e:j=k+1
   ·subst e;omega
   ·exact ih.1 (by omega) j (by omega)
  ·intro h
   have b:=ih.2 λj a=>h j (by omega)
   have c:=h (k+1) (Vc _);omega
theorem rj(d:av):decide (1099511627776<=Bv d 5)= !gq d:=by
 cases a:gq d with
 |true=>
  have:=(yl d 1099511627776 5).2 λj b=>mL.1 a j (by omega)
  simp;omega
 |false=>
  have:¬Bv d 5<1099511627776:=λh=>by
   rw[mL.2 λj b=>(yl d 1099511627776 5).1 h j (by omega)]at a;cases a
  simp;omega
theorem uc(g:Nat)(d:av)(w:Yu)(a:∀i,i<6->w.cell? ⟨g,2+i,none⟩=some (.int .u64 (d.get i))):
  Yt 88 #[.slice (some ⟨g,2,none⟩) 6 6] w λe w'=>e=.returned (.int .u64 (Bv d 5))/\w=w':=by
 have q:=a 0 (by omega);have f:=U9 a;clear a;go_enter func88,ntmps88;go_wp2_with fail
 go_loop [3,4] (λm i=>∃k:Nat,k<6/\i=.int .i64 ((k:Int)+1)/\m=.int .u64 (Bv d k)) (λ_ i=>6-(intOf i).toNat)
 case atStart=>exact⟨0,by omega,rfl,rfl⟩
 case round=>
  obtain⟨k,j,rfl,rfl⟩:=hrel;by_cases c:k<5
  ·have n:=f.o (k+1) (by omega)
   have b:=U9 (show max (Bv d k) (d.get (k+1))=Bv d (k+1)from rfl);have h:(0:Int)<=(k:Int)+1:=by omega
   have p:(k:Int)+1<6:=by omega
   have l:((k:Int)+1).toNat=k+1:=by omega
   go_wp2_with fail
   all_goals
    go_round
    case rel=>exact⟨k+1,by omega,by go_num,by rw[<-b.o]<;>congr 1<;>first|omega|rfl⟩
    case measure=>simp[intOf];omega
  ·obtain rfl:k=5:=by omega
   go_wp2_with fail;go_ret;exact⟨rfl,rfl⟩
theorem Cl(e:Ev)(h:ib e=false)(l:e.ok):cB e.o=false\/(∃k:Nat,k<6/\e.o=(k:Int)+1/\(e.s<1\/(1<=e.s/\1099511627776<=e.s)\/(1<=e.s/\e.s<1099511627776/\e.d.get k≠e.s-1)\/(1<=e.s/\e.s<1099511627776/\e.d.get k=e.s-1/\gq e.d=false))):=by
 cases c:cB e.o with
 |false=>exact .inl rfl
 |true=>
  obtain⟨k,f,g⟩:=gd c;refine .inr ⟨k,f,g,?_⟩;have i:(e.o-1).toNat=k:=by omega
  unfold ib at h;rw[c,i]at h;simp only[Bool.true_and]at h;by_cases j:e.s<1
  ·exact .inl j
  ·by_cases a:e.s<1099511627776
   ·by_cases b:e.d.get k=e.s-1
    ·refine .inr (.inr (.inr ⟨by omega,a,b,?_⟩))
     simpa[a,b,show(1<=e.s)from by omega]using h
    ·exact .inr (.inr (.inl ⟨by omega,a,b⟩))
   ·exact .inr (.inl ⟨by omega,by omega⟩)
theorem na(e:Ev)(h:ib e=true):∃k:Nat,k<6/\e.o=(k:Int)+1/\1<=e.s/\e.s<1099511627776/\e.d.get k=e.s-1/\gq e.d=true:=by
 unfold ib at h;simp only[Vo,VC]at h;obtain⟨⟨⟨⟨i,g⟩,l⟩,a⟩,j⟩:=h;obtain⟨k,b,c⟩:=gd i;have f:(e.o-1).toNat=k:=by omega
 rw[f]at a;exact⟨k,b,c,g,l,a,j⟩
theorem kA(e:Ev)(k:Nat)(h:k<6):(ao e)[2+k]? =some (.int .u64 (e.d.get k)):=
 av.six (P:=λk=>(ao e)[2+k]? =some (.int .u64 (e.d.get k))) rfl rfl rfl rfl rfl rfl k h
theorem Hi(e:Ev)(A:e.ok)(h:ib e=false)(w:Yu):Yt 72 #[.agg (ao e)] w λr w'=>r=.returned (.bool false)/\Ys w w':=by
 rcases Cl e h A with p|⟨k,g,c,a|⟨a,b⟩|⟨a,b,j⟩|⟨a,b,j,n⟩⟩
 ·have f:=U9 (eY e.o false p)
  clear p h;go_enter func72,ntmps72;go_wp2_with fail;go_quiet ((go_at_call 87;exact Vu ((f.o _).mono λ_ _ ⟨a,b⟩=>⟨a,b.symm⟩)));go_wp2_with fail;go_ret;exact⟨rfl,bC ((Vd _ _).alloc (Vc _) _) _⟩
 ·have f:=U9 (eY e.o true (by rw[c];exact ia k g))
  have l:decide (e.s<1)=true:=by simpa using a
  clear c h;go_enter func72,ntmps72;go_wp2_with fail;go_quiet ((go_at_call 87;exact Vu ((f.o _).mono λ_ _ ⟨a,b⟩=>⟨a,b.symm⟩)));go_wp2_with fail;go_ret;exact⟨rfl,bC ((Vd _ _).alloc (Vc _) _) _⟩
 ·have f:=U9 (eY e.o true (by rw[c];exact ia k g))
  have l:decide (e.s<1)=false:=by simpa using a
  have m:decide (1099511627776<=e.s)=true:=by simpa using b
  clear c h;go_enter func72,ntmps72;go_wp2_with fail;go_quiet ((go_at_call 87;exact Vu ((f.o _).mono λ_ _ ⟨a,b⟩=>⟨a,b.symm⟩)));go_wp2_with fail;go_ret;exact⟨rfl,bC ((Vd _ _).alloc (Vc _) _) _⟩
 ·have f:=U9 (eY e.o true (by rw[c];exact ia k g))
  have l:decide (e.s<1)=false:=by simpa using a
  have m:decide (1099511627776<=e.s)=false:=by simpa using b
  have s1:IntKind.u64.wrap (e.s-1)=e.s-1:=XN _ (by omega);have v:IntKind.i64.wrap (e.o-1)=(k:Int):=by rw[c];simp;exact VE _ (by omega)
  have z:(0:Int)<=(k:Int):=by omega
  have q:(k:Int)<6:=by omega
  have x:=kA e k g;have B:(e.d.get k !=e.s-1)=true:=by simpa[bne]using j
  clear c h j;go_enter func72,ntmps72;go_wp2_with fail;go_quiet ((go_at_call 87;exact Vu ((f.o _).mono λ_ _ ⟨a,b⟩=>⟨a,b.symm⟩)));go_wp2_with fail;go_ret;exact⟨rfl,bC ((Vd _ _).alloc (Vc _) _) _⟩
 ·have f:=U9 (eY e.o true (by rw[c];exact ia k g))
  have l:decide (e.s<1)=false:=by simpa using a
  have m:decide (1099511627776<=e.s)=false:=by simpa using b
  have s1:IntKind.u64.wrap (e.s-1)=e.s-1:=XN _ (by omega);have v:IntKind.i64.wrap (e.o-1)=(k:Int):=by rw[c];simp;exact VE _ (by omega)
  have z:(0:Int)<=(k:Int):=by omega
  have q:(k:Int)<6:=by omega
  have x:=kA e k g;have B:(e.d.get k !=e.s-1)=false:=by simpa[bne]using j
  have D:decide (1099511627776<=Bv e.d 5)=true:=by rw[rj,n];rfl
  have u:=U9 λW hc=>uc w.heap.size e.d W hc
  clear c h j n;go_enter func72,ntmps72;go_wp2_with fail;go_quiet ((go_at_call 87;exact Vu ((f.o _).mono λ_ _ ⟨a,b⟩=>⟨a,b.symm⟩)));go_wp2_with fail;refine(u.o _ ?hc).mono ?_
  (case hc=>exact λi y=>(((((bF.nil w).push (t:=53) (cs:=ao e) rfl).drewN nq).blk _ _ _ Vp).cell (2+i)).trans (kA e i y))
  rintro r C ⟨rfl,rfl⟩;go_wp2_with fail;go_ret;exact⟨rfl,bC ((Vd _ _).alloc (Vc _) _) _⟩
theorem JN(v:av)(a:v.ok)(o x y:Int)(h:jK v o=(x,y))(w:Yu):
  Yt 268 #[.agg (aq v),.int .i64 o] w λe w'=>e=.returned (.tuple #[.int .u64 x,.int .i64 y])/\Ys w w':=by
 have c:=zm v a o w;rw[h]at c;exact c
theorem jw(a:av)(x:Bool)(h:fV a=x)(w:Yu):
  Yt 86 #[.agg (aq a)] w λe w'=>e=.returned (.bool x)/\Ys w w':=by
 subst h;exact NF a w
end
