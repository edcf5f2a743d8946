import Derived.Test.YtghdobdjfnimmaaGreatDoorZ37
import Derived.Test.YtghdobdjfnimmaaGreatDoorCards
import Derived.Test.YtghdobdjfnimmaaGreatDoorTie
import Derived.Deep.DeepHandedRow
import Derived.Deep.DeepWitnessRowRef
import Derived.Stop.Joined
set_option maxRecDepth 100000
set_option maxHeartbeats 0
set_option linter.all false
namespace Go.Proofs.YtghdobdjfnimmaaGreatDoor.topTwice
open Go.Proofs.Tryz
open Go.ChangeShapes Go.WideShapes Go.ChangeAt Go.RowKit
theorem EA(os:Os)(args:Array Yv):laidMetH prog Rows.topTwiceRow.laid ((World.doorLaid prog 31 os).forCall (λ_ _=>0) ⟨#[],args,[]⟩).memory:=
 laidMetH_of_parts3 (fuel:=8) (laidMet_of_run' 8 (by kernel_rfl) (by kernel_rfl)) (by kernel_rfl) (by kernel_rfl)
theorem law(n:Nat)(a:n<=255)(A:Option Addr)(c:Nat)(l:List Sq)(w:Yu)(b:tA w A l c)(d:dh w):
  Yt 3 #[.int .u8 n,.slice A l.length c] w λr w'=>r=.returned (.bool true)/\Ys w w':=J0 n a A c l w b d
theorem tabs{W:Yu}(h:laidMetH prog Rows.topTwiceRow.laid W):dh W:=FU h
theorem K5(os:Os)(a:os.Started)(H:Type)(enc:Yw×Yv->H)(F:Stop.Interp):
  ReturnsInHanded {} Tryz.checked os 3 .any ((OpenSpec.ofChange Rows.topTwiceSpec).preRow enc prog Tryz.f3 Rows.topTwiceRow.domain false Rows.topTwiceRow.laid) (((OpenSpec.ofChange Rows.topTwiceSpec).at F).post enc prog Tryz.f3 false true false false):=by
 refine returnsInHanded_of_row (C:=Tryz.checked) (s:=OpenSpec.ofChange Rows.topTwiceSpec) Cm a (by as_aux_lemma=>kernel_rfl) func3
  (witness_row_at (enc:=enc) (C:=Tryz.checked) false (World.doorLaid prog 31 os) #[.int .u8 0,.slice none 0 0] rfl (by as_aux_lemma=>kernel_rfl) (by as_aux_lemma=>kernel_rfl) (by as_aux_lemma=>kernel_rfl)
   (OpenSpec.preRow_of_B rfl 8 (by as_aux_lemma=>kernel_rfl) (by as_aux_lemma=>kernel_rfl) (EA os _))) ?_
 intro W base args D Q d c k _ _ _ E _ _;have b:∀(j:Nat) t v,Tryz.f3.params[j]? =some t->args[j]? =some v->Value.okWide prog W .any base t v:=c;have i:=k;obtain⟨p,q,f,M,rfl,_,_⟩:=k;have m:DataW.TrodAll enc prog W 0 (λ_=>true) true Tryz.f3.params.toList args.toList D p:=f;rw[Tryz.params3]at m b;obtain⟨o,K,T,y,V,O,g,rfl,rfl,w,A⟩:=trodAll_cons m;obtain⟨v1,u,R,G,U,S,rfl,rfl,rfl,B,r⟩:=trodAll_cons A;obtain⟨rfl,rfl,rfl⟩:=trodAll_nil r;obtain rfl:args=#[o,v1]:=by cases args;simp_all
 obtain⟨rfl,rfl⟩:=trodVars_none M;obtain⟨z0,rfl,rfl,rfl,J⟩:=open_int underlying5 (b 0 5 o rfl rfl) w;obtain⟨h,N⟩:=yk J;obtain⟨n,rfl⟩:∃n:Nat,z0=(n:Int):=⟨z0.toNat,(Int.toNat_of_nonneg h).symm⟩;obtain⟨z,c1,l,rfl,I⟩:=wT (b 1 22 v1 rfl rfl) B;refine(law n (by omega) z c1 l W I (tabs E)).mono λe P ⟨L,x⟩=>?_
 subst L;exact⟨_,rfl,Dn i x rfl (by as_aux_lemma=>kernel_rfl) rfl rfl rfl rfl⟩
theorem PB:joinedFacts prog 3 Tryz.f3 (OpenSpec.ofChange Rows.topTwiceSpec).bare Rows.topTwiceRow=true:=by
 unfold joinedFacts
 repeat' with_reducible refine Bool.and_eq_true_iff.mpr ⟨?_,?_⟩
 all_goals as_aux_lemma=>kernel_rfl
theorem Rs:Rows.TopTwiceSaid:=
 OpenClaim.holds_of_cond 3 Tryz.f3 rfl rfl rfl rfl rfl rfl rfl ⟨rfl,rfl,rfl,rfl,rfl⟩ rfl rfl rfl rfl rfl (by as_aux_lemma=>kernel_rfl) func3 PB
  (Wo (by as_aux_lemma=>kernel_rfl)) (by unfold Func.isWrapper;rw[Vf (by decide+kernel)];exact⟨rfl,rfl⟩)
  (λos a H enc _ F=>by rw[OpenClaim.pre_eq_preRow];exact K5 os a H enc F)
theorem Oo(f:FuncId)(fn:Func)(c:Tryz.pinned.checked.prog.funcNamed Rows.topTwiceRow.func=some f)(a:Tryz.pinned.checked.prog.funcs[f]? =some fn):
  false=Tryz.pinned.checked.prog.looks []/\∀(j:Nat) t,fn.params[j]? =some t->Tryz.pinned.checked.prog.wantsStandIn t=false:=by
 obtain rfl:f=3:=VT ((show prog.funcNamed Rows.topTwiceRow.func=some 3 by kernel_rfl).symm.trans c)|>.symm;obtain rfl:fn=Tryz.f3:=(VT (func3.symm.trans a)).symm;refine⟨by kernel_rfl,λj t b=>?_⟩;rw[Tryz.params3]at b;have:t=5\/t=22:=by simpa using Array.mem_of_getElem? b
 rcases this with rfl|rfl
 ·exact(show prog.wantsStandIn 5=false by kernel_rfl)
 ·exact(show prog.wantsStandIn 22=false by kernel_rfl)
theorem proved:Rows.TopTwiceCardSaid:=
 Claim7.holds_tied_plain_at .later [] _ _ _ _ Rs (λ_ h=>by cases h) (by as_aux_lemma=>kernel_rfl) (λ_ h=>by cases h) topTwice_row_tie rfl ⟨rfl,rfl⟩ (by as_aux_lemma=>kernel_rfl) rfl Oo (by as_aux_lemma=>kernel_rfl)
end Go.Proofs.YtghdobdjfnimmaaGreatDoor.topTwice
#print axioms Go.Proofs.YtghdobdjfnimmaaGreatDoor.topTwice.proved
