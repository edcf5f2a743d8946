import Derived.BigCall
import Derived.BigGuard
import Derived.BigQuiet
import Derived.BigRegion
import Derived.CellFam
import Derived.DeepKeys
import Derived.DeepKeys4
import Derived.Great.BuildSlice
import Derived.Handy
import Derived.JoinedTies
import Derived.KernelRfl
import Derived.LaidMore
import Derived.Laws.AppendOwn
import Derived.Laws.BitsAllLaws
import Derived.Laws.BytesArg
import Derived.Laws.Cover3
import Derived.Laws.EntriesVeiled
import Derived.Laws.ResultCell
import Derived.Lib.Hide
import Derived.Lib.QuietBelow
import Derived.Lib.SliceRun
import Derived.Lib.Small
import Derived.LoopIn
import Derived.LoopNIn
import Derived.Maps.AppendAt
import Derived.Maps.RangeWalk
import Derived.OpenShut
import Derived.OrdersIn
import Derived.Outline
import Derived.OwnWalk
import Derived.OwnWalkIn
import Derived.ProofKit
import Derived.RangeFuncBound
import Derived.RangeFuncCalls
import Derived.RangeFuncLeaves
import Derived.RangeFuncNested
import Derived.RangeFuncWrites
import Derived.RegionTactic
import Derived.RowKit
import Derived.Shelf.Abstract
import Derived.Shelf.RegionOpen
import Derived.Shelf.SlSortCmp.NoneTotal
import Derived.Sort.AssemblyPlain
import Derived.Sort.Row
import Derived.StillTailTactics
import Derived.TacticsIn
import Derived.TacticsInMore
import Derived.WalkKit
import Derived.WalkLawsBesides
import Derived.WalkSpells
import Derived.Test.YtemcfhlbmhbjeaaGreatDoorProg
set_option linter.all false
namespace Go.Proofs.YtemcfhlbmhbjeaaGreatDoor
open Go Go.BigFrame Go.ChangeAt Go.ChangeMaps Go.ChangeShapes Go.Lib Go.MapKept Go.Maps Go.RowKit Go.Shelf Go.Sort Go.WideShapes
theorem YQ{α:Type _}(x y:α)(l:List α)(i:Nat):(x::l).set (i+1) y=x::l.set i y:=rfl
theorem YR{α:Type _}(x y:α)(l:List α):(x::l).set 0 y=y::l:=rfl
theorem YO(l:List Value)(d)(i:Nat)(v:Value):Act.put ⟨l.toArray,d⟩ (some i) v=⟨(l.set i v).toArray,d⟩:=by simp[Act.put]
theorem YP(a:Act)(v:Value):Act.put a none v=a:=rfl
theorem YS{α:Type _}(l:List α):[]++l=l:=rfl
theorem YT{α:Type _}(x:α)(l m:List α):(x::l)++m=x::(l++m):=rfl
theorem YU{α:Type _}(x:α)(l:List α):(x::l).length=l.length+1:=rfl
theorem YV{α:Type _}:([]:List α).length=0:=rfl
theorem YW{α:Type _}(x:α)(l:List α)(n:Nat):(x::l).take (n+1)=x::l.take n:=rfl
theorem YX{α:Type _}(l:List α):l.take 0=[]:=List.take_zero
theorem YY{α:Type _}(x:α)(l:List α)(n:Nat):(x::l).drop (n+1)=l.drop n:=rfl
theorem YZ{α:Type _}(l:List α):l.drop 0=l:=rfl
def mG(p:Prop):Prop:=p
theorem mG.o{p:Prop}(h:mG p):p:=h
theorem U{p:Prop}(h:p):mG p:=h
abbrev ar:=@And.intro
abbrev ao:=@Nat.le_refl
abbrev aq:=@Go.RowKit.Below.refl
abbrev al:=@if_neg
abbrev av:=@if_pos
abbrev bY:=@List.getElem?_eq_getElem
abbrev fO:=@decide_eq_false
abbrev fa:=@decide_eq_true
abbrev aZ:=@Nat.le_trans
abbrev bW:=@List.length_append
abbrev cz:=@List.mem_cons_self
abbrev cX:=@List.mem_of_getElem?
abbrev bP:=@List.mem_append
abbrev bZ:=@Bool.and_eq_true
abbrev bS:=@Go.IntWalk.i64_in
abbrev dC:=@List.mem_cons_of_mem
abbrev dd:=@List.mem_singleton
abbrev cA:=@Nat.zero_add
abbrev fI:=@Array.getElem?_eq_some_iff
abbrev eJ:=@Nat.ne_of_beq_eq_false
abbrev fN:=@List.getElem?_eq_some_iff
abbrev eE:=@Go.Calls.quiet_of_same
abbrev ee:=@Nat.lt_of_lt_of_le
abbrev cW:=@List.map_cons
abbrev bH:=@congrArg
abbrev dN:=@List.length_cons
abbrev dh:=@List.mem_cons
abbrev jk:=@Or.inr
abbrev gO:=@Or.inl
abbrev eN:=@decide_eq_true_eq
abbrev fH:=@beq_eq_false_iff_ne
abbrev eF:=@List.append_nil
abbrev eZ:=@Option.some.inj
abbrev eu:=@Go.bodyPost_ret
abbrev ik:=@List.mem_append_left
abbrev dY:=@List.mem_map
abbrev eT:=@Go.run_underlying
abbrev gP:=@List.take_add_one
abbrev i5:=@Array.getElem?_toList
abbrev il:=@List.length_take
abbrev g8:=@List.length_nil
abbrev lR:=@List.eq_nil_of_length_eq_zero
abbrev gy:=@List.sum_cons
abbrev i6:=@List.append_assoc
abbrev nU:=@Array.all_eq_true_iff_forall_mem
abbrev gQ:=@Nat.add_assoc
abbrev kQ:=@Array.getElem?_eq_none
abbrev kR:=@List.take_of_length_le
abbrev kS:=@Go.MapKept.run_getObj_map
abbrev jt:=@List.take_length
abbrev jh:=@List.map_append
abbrev ji:=@List.prefix_rfl
abbrev gM:=@Nat.zero_le
abbrev kw:=@List.getElem?_take
abbrev ju:=@List.nil_append
abbrev eC:=@Ne.symm
abbrev lV:=@List.take_append_drop
abbrev n8:=@Option.isSome_iff_exists
abbrev kx:=@List.length_drop
abbrev j3:=@List.length_map
abbrev mL:=@List.mem_append_right
abbrev oZ:=@Array.getElem?_eq_getElem
abbrev lW:=@Array.length_toList
abbrev iP:=@Nat.mul_one
abbrev mM:=@List.mem_of_mem_take
abbrev pZ:=@List.getElem?_append_right
abbrev p9:=@List.getElem?_append_left
abbrev ky:=@Go.DataW.trod_int
abbrev lC:=@List.filter_cons
abbrev lX:=@Go.Result.andThen_ok
abbrev lY:=@List.Sublist.refl
abbrev mN:=@Bool.false_eq_true
abbrev j4:=@Go.callsIn_wide
abbrev i7:=@Go.info_parts
abbrev lD:=@List.mem_filter
abbrev o3:=@Nat.le_of_ble_eq_true
abbrev lZ:=@List.all_eq_true
abbrev j5:=@Go.func_of_trod
abbrev n9:=@List.pairwise_cons
abbrev ob:=@List.getElem?_drop
abbrev mO:=@Nat.le_add_right
abbrev gR:=@if_true
abbrev nX:=@List.getElem?_map
abbrev nY:=@of_decide_eq_true
abbrev rh:=@Go.World.putObj_heap_other
abbrev sB:=@List.getD_eq_getElem?_getD
abbrev jD:=@Go.wanted_put
abbrev oV:=@List.prefix_append
abbrev pU:=@List.mergeSort_perm
abbrev sC:=@Go.ChangeMaps.heap_setBlock_same
abbrev oW:=@Go.RowKit.Below.heap_alloc
abbrev rj:=@List.mem_of_mem_drop
abbrev oX:=@Go.World.size_alloc
abbrev oY:=@Nat.lt_succ_self
abbrev mI:=@Nat.lt_or_ge
abbrev lS:=@Go.Sem.run_bind
abbrev lT:=@Go.setRow_other
abbrev nZ:=@List.Perm.refl
abbrev sD:=@Go.MapKept.run_setObj_map
abbrev sE:=@List.Perm.append_right
abbrev pV:=@List.size_toArray
abbrev pW:=@List.map_toArray
abbrev mJ:=@List.map_nil
abbrev mK:=@Go.Act.put_comm
abbrev lU:=@Go.setRow_heap
abbrev tS:=@List.length_eq_zero_iff
abbrev pX:=@Option.map_some
abbrev pY:=@Bool.or_eq_true
abbrev kT:=@Go.Proofs.enters_of
abbrev nV:=@Nat.zero_mul
abbrev mH:=@Go.getD_set_ne
abbrev nW:=@Go.Lib.hid
abbrev vw:=@Int.tdiv_eq_ediv_of_nonneg
abbrev tP:=@Array.getElem?_modify
abbrev tQ:=@List.getElem?_eq_none
abbrev oU:=@Nat.add_zero
abbrev rf:=@List.nodup_cons
abbrev tR:=@Array.replicate_succ
abbrev tY:=@Array.replicate_zero
abbrev sK:=@Go.World.ownsRow_nil
abbrev qf:=@Go.wp_region_any
abbrev vD:=@Go.World.block_lt_of_cell?
abbrev vE:=@decide_eq_false_iff_not
abbrev vF:=@List.pairwise_mergeSort
abbrev tZ:=@List.append_toArray
abbrev sL:=@List.mem_nil_iff
abbrev lE:=@or_false
abbrev rq:=@List.mem_range
abbrev sM:=@List.cons_append
abbrev sN:=@Go.IntKind.wrap_u64
abbrev sO:=@List.not_mem_nil
abbrev qi:=@Nat.le_succ
abbrev o5:=@Int.le_refl
abbrev mQ:=@Go.mem_ready
abbrev t6:=@Go.World.ownsRow_made
abbrev vH:=@Array.getElem?_mapIdx
abbrev ru:=@Prod.mk.injEq
abbrev yp:=@List.setIfInBounds_toArray
abbrev ua:=@Bool.not_eq_true'
abbrev uc:=@List.foldl_append
abbrev ud:=@Option.some.injEq
abbrev ue:=@List.push_toArray
abbrev uf:=@Decidable.not_not
abbrev vy:=@Nat.mul_le_mul_right
abbrev o4:=@Go.Calls.mono
abbrev yh:=@Decidable.byContradiction
abbrev sI:=@Go.MapKept.stamped_iff
abbrev Ct:=@List.findIdx?_eq_some_iff_getElem
abbrev qa:=@Go.wpQuiet_nil
abbrev qc:=@Go.RowKit.run_makeMap
abbrev rk:=@Go.wpList_plain
abbrev mP:=@if_false
abbrev tV:=@Option.getD_some
abbrev ro:=@Nat.mul_comm
abbrev rp:=@Go.Sort.permIn_trans
abbrev tW:=@Go.IntKind.wrap_i64
abbrev yi:=@List.getElem?_cons_succ
abbrev sJ:=@Nat.lt_irrefl
abbrev tX:=@Go.run_equalIn_int
abbrev qd:=@beq_iff_eq
abbrev qe:=@Go.ready_mono
abbrev vz:=@List.set_cons_succ
abbrev vA:=@List.find?_eq_none
abbrev yj:=@Option.map_eq_some_iff
abbrev yk:=@List.drop_of_length_le
abbrev yl:=@List.getElem_cons_succ
abbrev ym:=@List.getElem_cons_zero
abbrev vB:=@List.flatMap_cons
abbrev vC:=@Go.DataW.trod_struct
abbrev vx:=@List.Pairwise.nil
abbrev tT:=@Go.run_append_own
abbrev sF:=@Go.Sem.run_pure
abbrev tU:=@Go.IntWalk.u64_in
abbrev sG:=@Go.results_none
abbrev yd:=@List.length_singleton
abbrev ye:=@List.getElem?_toArray
abbrev yf:=@Go.World.alloc_heap_new
abbrev yg:=@List.getElem_toArray
abbrev sH:=@Go.RowKit.Below.trans
abbrev yq:=@List.filter_eq_self
abbrev vJ:=@Go.run_append_room
abbrev vK:=@Nat.div_add_mod
abbrev vM:=@List.cons.injEq
abbrev Cu:=@List.mem_of_find?_eq_some
abbrev Cv:=@List.findIdx?_eq_none_iff
abbrev aeG:=@Go.Oper.semAt_some
abbrev vO:=@Go.grownBy_putObj'
abbrev Cw:=@Go.Proofs.AnyF.slices_SortFunc_none
abbrev Cx:=@Classical.byContradiction
abbrev yr:=@Go.RowKit.Below.heap_setCell
abbrev qj:=@and_true
abbrev yt:=@Go.heap_setCell_other
abbrev Cy:=@Array.setIfInBounds_comm
abbrev yu:=@Nat.eq_zero_or_pos
abbrev yv:=@List.set_cons_zero
abbrev IR:=@List.mem_of_mem_eraseIdx
abbrev vP:=@Go.heap_alloc_new
abbrev vQ:=@List.take_zero
abbrev o6:=@Eq.symm
abbrev yw:=@Go.run_storeCells_at
abbrev yx:=@List.pairwise_map
abbrev yy:=@Int.toNat_natCast
abbrev yz:=@List.ext_getElem?
abbrev yA:=@List.reverse_cons
abbrev Cz:=@Go.MapKept.stamped_erase
abbrev vI:=@Go.Sort.heap_grow_old
abbrev N(b:Nat):Value:=.pointer (some ⟨b,0,none⟩)
abbrev S(w w':World):Prop:=Below w.heap.size w w'
abbrev aeF(f:FuncId)(x:Array Value)(w:World)(Q:Ending->World->Prop):Prop:=Calls Tryz.prog f x w Q
abbrev D:=Go.World
abbrev H:=Go.Value
abbrev ay:=Go.TypeId
abbrev aO:=Go.Operand
theorem aD:(∀(l:List Value)(d)(i:Nat)(v:Value),Act.put ⟨l.toArray,d⟩ (some i) v=⟨(l.set i v).toArray,d⟩)/\(∀(a:Act)(v:Value),Act.put a none v=a)/\(∀{α:Type}(x y:α)(l:List α)(i:Nat),(x::l).set (i+1) y=x::l.set i y)/\(∀{α:Type}(x y:α)(l:List α),(x::l).set 0 y=y::l):=⟨YO,YP,YQ,YR⟩
theorem cR:(∀{α:Type}(x:α)(l:List α)(n:Nat),(x::l).take (n+1)=x::l.take n)/\(∀{α:Type}(l:List α),l.take 0=[])/\(∀{α:Type}(x:α)(l:List α)(n:Nat),(x::l).drop (n+1)=l.drop n)/\(∀{α:Type}(l:List α),l.drop 0=l):=⟨YW,YX,YY,YZ⟩
theorem d8:(∀{α:Type}(l:List α),[]++l=l)/\(∀{α:Type}(x:α)(l m:List α),(x::l)++m=x::(l++m))/\(∀{α:Type}(x:α)(l:List α),(x::l).length=l.length+1)/\(∀{α:Type},([]:List α).length=0):=⟨YS,YT,YU,YV⟩
structure kN(p:Prop):Prop where
 o:p
theorem V{p:Prop}(h:p:=by omega):p:=h
theorem Y{p:Prop}(h:p:=by kernel_rfl):p:=h
theorem ai{p:Prop}(h:p:=by decide):p:=h
theorem ah{p:Prop}(h:p:=by simp):p:=h
theorem aS{p:Prop}(h:p:=by decide+kernel):p:=h
theorem aQ{p:Prop}(h:p:=by simp<;>omega):p:=h
theorem bU(p:Prop)(h:p:=by omega):p:=h
theorem cO(p:Prop)[Decidable p](h:p:=by omega):decide p=true:=decide_eq_true h
theorem cP(p:Prop)[Decidable p](h:¬p:=by omega):decide p=false:=decide_eq_false h
theorem aM{α:Sort _}(a:α):∃b,a=b:=⟨a,rfl⟩
theorem cJ{α:Sort _}(a:α):∃b,b=a:=⟨a,rfl⟩
theorem O{α:Sort _}{a:α}:a=a:=rfl
abbrev Z(n:Int):H:=.int .i64 n
abbrev q(n:Int):H:=.int .u64 n
abbrev I(g i:Nat):Addr:=⟨g,i,none⟩
abbrev bh(g:Nat)(a b:Nat):H:=.slice (some ⟨g,0,none⟩) a b
noncomputable abbrev gL(l:List UInt8):List Nat:=(List.range Tryz.prog.funcs.size).filter λf=>(Tryz.prog.funcs[f]?).any (·.name.toUTF8.data.toList==l)
theorem cD{p:Prop}(h:p:=by intros;repeat (first|exact Or.inl ⟨rfl,rfl,rfl⟩|apply Or.inr)):p:=h
theorem lM{p:Prop}(h:p:=by repeat (first|exact Or.inl ⟨rfl,rfl⟩|exact ⟨rfl,rfl⟩|exact Or.inr ⟨rfl,rfl⟩|apply Or.inr)):p:=h
theorem az{p e:Prop}(F:e)(h:e->p:=by intro F;simpa using F):p:=h F
theorem aA{p e:Prop}(F:e)(h:e->p:=by intro F;omega):p:=h F
theorem cF{p e f:Prop}(F:e)(G:f)(h:e->f->p:=by intro F G;omega):p:=h F G
theorem aK{p e:Prop}(F:e)(h:e->p:=by intro F;cases F):p:=h F
theorem dI{p e f:Prop}(F:f)(k:e)(h:f->kN e->p:=by intro F k;generalize j:World.alloc _ _=X;have l:=F.trans j;subst l;exact k.o):p:=h F ⟨k⟩
theorem cK{p:Prop}(h:p:=by intros;simp[execOp,go_sem]<;>rfl):p:=h
theorem nK{p:Prop}(h:p:=by intros;simp[execOp,go_sem]<;>exact rfl):p:=h
theorem aB{p x:Prop}(a:p)(b:x):mG (p/\x):=⟨a,b⟩
theorem aP{p x r:Prop}(a:p)(b:x)(c:r):mG (p/\x/\r):=⟨a,b,c⟩
theorem cQ{p x r s:Prop}(a:p)(b:x)(c:r)(d:s):mG (p/\x/\r/\s):=⟨a,b,c,d⟩
theorem iA{p x r s t:Prop}(a:p)(b:x)(c:r)(d:s)(e:t):mG (p/\x/\r/\s/\t):=⟨a,b,c,d,e⟩
theorem js{p x r s t u:Prop}(a:p)(b:x)(c:r)(d:s)(e:t)(f:u):mG (p/\x/\r/\s/\t/\u):=⟨a,b,c,d,e,f⟩
theorem vg{p r:Prop}(a:p)(b:r):p/\r:=⟨a,b⟩
theorem aaE{p r s:Prop}(a:p)(b:r)(c:s):p/\r/\s:=⟨a,b,c⟩
theorem qT{p r s t:Prop}(a:p)(b:r)(c:s)(d:t):p/\r/\s/\t:=⟨a,b,c,d⟩
theorem xA{p r s t u:Prop}(a:p)(b:r)(c:s)(d:t)(e:u):p/\r/\s/\t/\u:=⟨a,b,c,d,e⟩
end Go.Proofs.YtemcfhlbmhbjeaaGreatDoor
