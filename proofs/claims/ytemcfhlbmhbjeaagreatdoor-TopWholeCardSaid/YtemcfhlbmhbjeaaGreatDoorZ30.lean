/- The given statement of the law TopWhole is proved (topWhole.proved): on every input of its row the law answers true, with no panic. Conditions: those of the given statement, no other. -/
import Derived.Test.YtemcfhlbmhbjeaaGreatDoorZ29
import Derived.Test.YtemcfhlbmhbjeaaGreatDoorCards
import Derived.Test.YtemcfhlbmhbjeaaGreatDoorTie
import Derived.Deep.DeepHandedRow
import Derived.Deep.DeepWitnessRowRef
import Derived.Stop.Joined
set_option maxRecDepth 100000
set_option maxHeartbeats 0
set_option linter.all false
namespace Go.Proofs.YtemcfhlbmhbjeaaGreatDoor.topWhole
open Go.Proofs.Tryz
open Go.ChangeShapes Go.WideShapes Go.ChangeAt Go.RowKit
def Qb(os:Os)(args:Array H):laidMetH prog Rows.topWholeRow.laid ((World.doorLaid prog 31 os).forCall (λ_ _=>0) ⟨#[],args,[]⟩).memory:=
 laidMetH_of_parts3 (fuel:=8) (laidMet_of_run' 8 Y Y) Y Y
def law(n:Nat)(a:n<=255)(A:Option Addr)(c:Nat)(l:List j1)(b:Option Addr)(d:Nat)(P:List oO)(w:D)(g:zW w A l c)(e:Am w b P d)(h:dr w)(i:qO w):
  Calls prog 3 #[.int .u8 n,.slice A l.length c,.slice b P.length d] w λr f=>r=.returned (.bool true)/\S w f:=OB n a A c l b d P w g e h i
def Uu(os:Os)(c:os.Started)(o:Type)(enc:ay×H->o)(F:Stop.Interp):
  ReturnsInHanded {} Tryz.checked os 3 .any ((OpenSpec.ofChange Rows.topWholeSpec).preRow enc prog Tryz.f3 Rows.topWholeRow.domain false Rows.topWholeRow.laid) (((OpenSpec.ofChange Rows.topWholeSpec).at F).post enc prog Tryz.f3 false true false false):=by
 refine returnsInHanded_of_row (C:=Tryz.checked) (s:=OpenSpec.ofChange Rows.topWholeSpec) OW c (by as_aux_lemma=>kernel_rfl) func3
  (witness_row_at (enc:=enc) (C:=Tryz.checked) false (World.doorLaid prog 31 os) #[.int .u8 0,.slice none 0 0,.slice none 0 0] O (by as_aux_lemma=>kernel_rfl) (by as_aux_lemma=>kernel_rfl) (by as_aux_lemma=>kernel_rfl)
   (OpenSpec.preRow_of_B O 8 (by as_aux_lemma=>kernel_rfl) (by as_aux_lemma=>kernel_rfl) (Qb os _))) ?_
 intro W f a ds gs g d r _ _ _ w _ _;have b:∀(j:Nat) t v,Tryz.f3.params[j]? =some t->a[j]? =some v->Value.okWide prog W .any f t v:=d;have m:=r;obtain⟨p,R,h,hV,rfl,_,_⟩:=r;have x:DataW.TrodAll enc prog W 0 (λ_=>true) true Tryz.f3.params.toList a.toList ds p:=h;rw[Tryz.params3]at x b;obtain⟨A,β,d0,K,p0,q0,i,rfl,rfl,J,X⟩:=trodAll_cons x;obtain⟨u,G,d1,α,p1,q1,rfl,rfl,rfl,h1,E⟩:=trodAll_cons X;obtain⟨y,Q,d2,γ,p2,q2,rfl,rfl,rfl,B,r2⟩:=trodAll_cons E;obtain⟨rfl,rfl,rfl⟩:=trodAll_nil r2;obtain rfl:a=#[A,u,y]:=by cases a;simp_all
 obtain⟨rfl,rfl⟩:=trodVars_none hV;obtain⟨aC,rfl,rfl,rfl,w0⟩:=open_int underlying5 (b 0 5 A O O) J;obtain⟨k,T⟩:=uU w0;obtain⟨n,rfl⟩:∃n:Nat,aC=(n:Int):=⟨aC.toNat,(Int.toNat_of_nonneg k).symm⟩;obtain⟨P,c1,l,rfl,hl⟩:=OY (b 1 22 u O O) h1;obtain⟨A2,c2,l2,rfl,hp⟩:=NS (b 2 23 y O O) B;refine(law n V P c1 l A2 c2 l2 W hl hp (RJ w) (RK w)).mono λe W' ⟨he,L⟩=>?_;subst he;exact⟨_,O,Pw m L O (by as_aux_lemma=>kernel_rfl) O O O O⟩
def WJ:joinedFacts prog 3 Tryz.f3 (OpenSpec.ofChange Rows.topWholeSpec).bare Rows.topWholeRow=true:=by
 unfold joinedFacts
 repeat' with_reducible refine Bool.and_eq_true_iff.mpr ⟨?_,?_⟩
 all_goals as_aux_lemma=>kernel_rfl
def XX:Rows.TopWholeSaid:=
 OpenClaim.holds_of_cond 3 Tryz.f3 O O O O O O O ⟨O,O,O,O,O⟩ O O O O O (by as_aux_lemma=>kernel_rfl) func3 WJ
  (nY (by as_aux_lemma=>kernel_rfl)) (by unfold Func.isWrapper;rw[al aS];exact⟨O,O⟩)
  (λos a b c _ F=>by rw[OpenClaim.pre_eq_preRow];exact Uu os a b c F)
def Ww(f:FuncId)(fn:Func)(c:Tryz.pinned.checked.prog.funcNamed Rows.topWholeRow.func=some f)(a:Tryz.pinned.checked.prog.funcs[f]? =some fn):
  false=Tryz.pinned.checked.prog.looks []/\∀(j:Nat) t,fn.params[j]? =some t->Tryz.pinned.checked.prog.wantsStandIn t=false:=by
 obtain rfl:f=3:=eZ ((show prog.funcNamed Rows.topWholeRow.func=some 3 by kernel_rfl).symm.trans c)|>.symm;obtain rfl:fn=Tryz.f3:=(eZ (func3.symm.trans a)).symm;refine⟨Y,λj t b=>?_⟩;rw[Tryz.params3]at b;have:t=5\/t=22\/t=23:=az (Array.mem_of_getElem? b);rcases this with rfl|rfl|rfl;exact(show prog.wantsStandIn 5=false by kernel_rfl);exact(show prog.wantsStandIn 22=false by kernel_rfl);exact(show prog.wantsStandIn 23=false by kernel_rfl)
theorem proved:Rows.TopWholeCardSaid:=
 Claim7.holds_tied_plain_at .later [] _ _ _ _ XX (λ_ h=>aK h) (by as_aux_lemma=>kernel_rfl) (λ_ h=>aK h) topWhole_row_tie O ⟨O,O⟩ (by as_aux_lemma=>kernel_rfl) O Ww (by as_aux_lemma=>kernel_rfl)
end Go.Proofs.YtemcfhlbmhbjeaaGreatDoor.topWhole
#print axioms Go.Proofs.YtemcfhlbmhbjeaaGreatDoor.topWhole.proved
