import Derived.Test.YtghdobdjfnimmaaGreatDoorZ33
set_option maxRecDepth 100000
set_option maxHeartbeats 0
set_option linter.all false
namespace Go.Proofs.YtghdobdjfnimmaaGreatDoor
open Go.Proofs.Tryz
variable{w w':Yu}{E:Ev}{who n t a r f e id:Int}
section
open Go.RowKit Go
open Go.Maps (Keyed)
def FA(p:Int×Int):Array Yv:=#[.int .u64 p.1,.int .i64 p.2]
def Gs:MT Int (Int×Int):=rL 108 90 (λp=>.agg (FA p)) (0,0)
theorem ko:Gs.Ok:=jS underlying90 (λw=>by kernel_rfl)
def Gr:MT Int Int:=rL 2 91 (λx=>.int .i64 x) 0
theorem mo:Gr.Ok:=jS underlying91 (λw=>by kernel_rfl)
theorem Kh:(112:Yw)<prog.types.size:=Wo (by kernel_rfl)
theorem FK:(match prog.underlying 112 with|some (.array _ _)|some (.struct _)=>true|_=>false)=true:=by kernel_rfl
theorem Na:Keyed prog 112:=Keyed.of_law (deep_law_laid gP (m:=2) (by omega) Kh (by kernel_rfl) FK)
theorem vT:prog.cellsOf 112=2:=by kernel_rfl
theorem xv:prog.keyType 112=true:=by kernel_rfl
theorem Ds{o s:Int}(h:fa o s):∃l,keyOf prog 112 (.agg (fy o s))=some l:=by
 obtain⟨c,d⟩:=Bp h;obtain⟨m,b⟩:=k9;refine⟨.string (keyBytes [.int .i64 o,.int .u64 s]),?_⟩;unfold keyOf;simp only[underlying112];rw[Vh (by simp[xv,Value.formed,underlying112,vT,fy]),b];unfold Program.keyLits;simp only[underlying112,Value.cells,fy];rw[Vh (by rw[vT];exact⟨rfl,by simp⟩)];simp[List.mapM_cons,List.mapM_nil,nC,nB,Program.keyLits,underlying3,underlying32,c,d]
def KV{β:Type}(E T:Yw)(b:β->Yv)(z:β):MT (Int×Int) β:=⟨112,E,T,λx=>.agg (fy x.1 x.2),b,z,λx=>fa x.1 x.2⟩
theorem yI{β:Type}{E T:Yw}{c:β->Yv}{z:β}(j:prog.underlying T=some (.map 112 E))(k:∀w,(zeroValue E).run prog w=.ok (c z) w):(KV E T c z).Ok:=
 ⟨Na,j,λa d=>Ds d,λa b h=>by obtain⟨i,g⟩:=mh h;exact Prod.ext i g,k⟩
def wZ:MT (Int×Int) (Int×Int):=KV 114 92 (λp=>.agg (FA p)) (0,0)
theorem mj:wZ.Ok:=yI underlying92 (λw=>by kernel_rfl)
def Gt:MT (Int×Int) Bool:=KV 4 93 (λb=>.bool b) false
theorem sU:Gt.Ok:=yI underlying93 (λw=>by kernel_rfl)
structure cA where
 nd:List (Int×(Int×Int))
 ra:List (Int×Int)
 ta:List ((Int×Int)×(Int×Int))
 ba:List ((Int×Int)×Bool)
def cA.zero:cA:=⟨[],[],[],[]⟩
def bL(x:Int):Int:=max 0 (min x 1125899906842624)
def d9(m:cA)(who:Int)(a:cJ)(E:Ev)(e:Int):cA:=
 if e≠0/\e≠8 then m
 else if a.k=1 then(if gH E.o E.s≠0/\(lk m.nd (gH E.o E.s)).isSome=false then{m with nd:=putL m.nd (gH E.o E.s) (a.n,bL a.a)}else m)
 else if a.k=2 then{m with ra:=putL m.ra a.n (IntKind.i64.wrap ((lk m.ra a.n).getD 0+bL a.a))}
 else if a.k=3 then(if(lk m.ta (who,a.r)).isSome=true\/e≠0 then m else{m with ta:=putL m.ta (who,a.r) (a.n,if a.a=bL a.a then a.a else 0)})
 else if a.k=4 then{m with ba:=putL m.ba (who,a.f) true}else m
def kN(T:List (Int×(Int×Int)))(of:Int):Nat->Int->Int
 |0,id=>id
 |n+1,id=>if id=of\/(lk T id).isSome=false then id else kN T of n ((lk T id).getD (0,0)).1
def lK(T:List (Int×(Int×Int)))(id of:Int):Bool:=decide (kN T of 32 id=of)
def Rc(m:cA)(id:Int)(x:(Int×Int)×(Int×Int)):Int:=if(lk m.ba x.1).getD false=false/\lK m.nd x.2.1 id=true then x.2.2 else 0
def jd(m:cA)(id:Int)(L:List ((Int×Int)×(Int×Int))):Int:=(L.map (Rc m id)).foldr (·+·) 0
def iq(m:cA)(id:Int):Int×Int×Int:=if(lk m.nd id).isSome then(IntKind.i64.wrap (((lk m.nd id).getD (0,0)).2+(lk m.ra id).getD 0),IntKind.i64.wrap (jd m id m.ta),0)else(0,0,9)
theorem zy{m:cA}{L M:List ((Int×Int)×(Int×Int))}(p:L.Perm M):jd m id L=jd m id M:=by
 unfold jd
 induction p with
 |nil=>rfl
 |cons x _ ih=>simp only[VG,List.foldr_cons,ih]
 |swap x y l=>simp only[VG,List.foldr_cons];omega
 |trans _ _ ih1 ih2=>exact ih1.trans ih2
structure jI where
 b:Nat
 nm:Nat
 rm:Nat
 tm:Nat
 bm:Nat
def jI.F(B:jI):Nat->Prop:=λq=>q=B.b\/q=B.nm\/q=B.rm\/q=B.tm\/q=B.bm
def UL(B:jI):Array Yv:=#[.map (some B.nm),.map (some B.rm),.map (some B.tm),.map (some B.bm)]
structure el(w:Yu)(B:jI)(m:cA):Prop where
 blk:ai w B.b 95 (UL B)
 n:aZ Gs w B.nm m.nd
 r:aZ Gr w B.rm m.ra
 t:aZ wZ w B.tm m.ta
 b:aZ Gt w B.bm m.ba
 nr:B.nm≠B.rm
 nt:B.nm≠B.tm
 nb:B.nm≠B.bm
 rt:B.rm≠B.tm
 rb:B.rm≠B.bm
 tb:B.tm≠B.bm
section
variable{w w':Yu}{B:jI}{m:cA}
theorem el.inh(h:el w B m):tP B.F w:=λq c=>by
 rcases c with rfl|rfl|rfl|rfl|rfl
 ·exact h.blk.lt
 ·exact h.n.lt
 ·exact h.r.lt
 ·exact h.t.lt
 ·exact h.b.lt
theorem el.mod{G:Nat->Prop}(h:el w B m)(k:ah G w w')(c:iB B.F G):el w' B m:=
 ⟨k.blk h.blk λg=>c _ (.inl rfl) g,k.gmap h.n λg=>c _ (.inr (.inl rfl)) g,k.gmap h.r λg=>c _ (.inr (.inr (.inl rfl))) g,k.gmap h.t λg=>c _ (.inr (.inr (.inr (.inl rfl)))) g,k.gmap h.b λg=>c _ (.inr (.inr (.inr (.inr rfl)))) g,h.nr,h.nt,h.nb,h.rt,h.rb,h.tb⟩
theorem el.call(h:el w B m)(b:Ys w w'):el w' B m:=h.mod (ah.of_below (F:=cM) b) λ_ _ h=>h
end
theorem Qg(w:Yu):Yt 14 #[] w λr w'=>∃B,r=.returned (Yr B.b)/\el w' B cA.zero/\(∀q,B.F q->w.heap.size<=q)/\Ys w w':=by
 have d:= @XE prog;go_enter func14,ntmps14;go_wp2_with fail;go_ret;have z:∀(W:Yu) (o:Obj),(W.alloc o).heap.size=W.heap.size+1:=λW o=>by simp
 have c:∀(W:Yu) (o:Obj),Ys W (W.alloc o):=λW o=>(Vd _ _).alloc (Vc _) _
 refine⟨⟨w.heap.size+4,w.heap.size,w.heap.size+1,w.heap.size+2,w.heap.size+3⟩,by simp,⟨ai.new_at (by simp) rfl,((((aZ.made Gs w).call (c _ _)).call (c _ _)).call (c _ _)).call (c _ _),(((aZ.made_at Gr (by simp)).call (c _ _)).call (c _ _)).call (c _ _),((aZ.made_at wZ (by simp)).call (c _ _)).call (c _ _),(aZ.made_at Gt (by simp)).call (c _ _),by simp,by simp,by simp,by simp,by simp,by simp⟩,λq hq=>?_,?_⟩
 ·rcases hq with hq|hq|hq|hq|hq<;>·simp only at hq;omega
 ·exact(((((Vd _ _).alloc (Vc _) _).alloc (by simp) _).alloc (by simp;omega) _).alloc (by simp;omega) _).alloc (by simp;omega) _
theorem kb(x:Int)(w:Yu):Yt 29 #[.int .i64 x] w λr w'=>r=.returned (.int .i64 (bL x))/\w=w':=by
 go_enter func29,ntmps29;go_wp2_with fail;go_ret;exact⟨rfl,rfl⟩
end
section
open Go.RowKit Go
section
variable(ρ:Yx->Yv)(dst:Option Tmp)(x y:Yx)(ty:Yw)(pos:String)(after:Array Edge)(guard:Option (Nat×Bool))
@[go_sem ↓ high] theorem IM:execOp ρ {dst,op:=.store 108 x y,type:=ty,pos,after,guard}=eR 108 (ρ x) (ρ y):=by simp[execOp,eR]
@[go_sem ↓ high] theorem IL:execOp ρ {dst,op:=.store 114 x y,type:=ty,pos,after,guard}=eR 114 (ρ x) (ρ y):=by simp[execOp,eR]
@[go_sem ↓ high] theorem IN:execOp ρ {dst,op:=.store 112 x y,type:=ty,pos,after,guard}=eR 112 (ρ x) (ρ y):=by simp[execOp,eR]
@[go_sem ↓ high] theorem I7:execOp ρ {dst,op:=.load 114 x,type:=ty,pos,after,guard}=dR 114 (ρ x):=by simp[execOp,dR]
@[go_sem ↓ high] theorem I8:execOp ρ {dst,op:=.load 112 x,type:=ty,pos,after,guard}=dR 112 (ρ x):=by simp[execOp,dR]
end
theorem lX(x y:Yv):(prog.info? 108).map (·.size)=some (#[x,y]:Array Yv).size:=by rw[show(#[x,y]:Array Yv).size=2 from rfl];kernel_rfl
theorem iQ(x y:Yv):(prog.info? 114).map (·.size)=some (#[x,y]:Array Yv).size:=by rw[show(#[x,y]:Array Yv).size=2 from rfl];kernel_rfl
theorem fY(x y:Yv):(prog.info? 112).map (·.size)=some (#[x,y]:Array Yv).size:=by rw[show(#[x,y]:Array Yv).size=2 from rfl];kernel_rfl
theorem fM{ty:Yw}{x y a b:Yv}(h:(prog.info? ty).map (·.size)=some (#[x,y]:Array Yv).size)(g:x.oneCell'=true)(d:y.oneCell'=true)(w:Yu):∃c,(eR ty (Yr w.heap.size) (.agg #[x,y])).run prog (w.alloc (.cells #[a,b] ty))=.ok .skip c/\ai c w.heap.size ty #[x,y]/\Ys w c:=by
 have B:ai (w.alloc (.cells #[a,b] ty)) w.heap.size ty #[a,b]:=ai.new _ _ _;exact⟨_,bX B h rfl (by simp[g,d]),ax B _,Below.rowN ((Vd _ _).alloc (Vc _) _) (Vc _) _⟩
structure cA.ok(m:cA):Prop where
 np:∀x∈m.nd,aT x.2.1
 tn:∀x∈m.ta,aT x.2.1
theorem Hu{B:jI}{m:cA}(h:el w B m)(ok:m.ok){of:Int}(hid:aT id):Yt 30 #[Yr B.b,.int .u64 id,.int .u64 of] w λr w'=>r=.returned (.bool (lK m.nd id of))/\Ys w w':=by
 have I:=U9 (Vb h ok);clear h ok;go_enter func30,ntmps30;go_wp2_with fail
 go_loopw [1,9] (λa i wr=>∃(j:Nat) (x:Int),j<=32/\i=.int .i64 j/\a=.int .u64 x/\aT x/\Ys w wr/\kN m.nd of (32-j) x=kN m.nd of 32 id) (λ_ i _=>32-(intOf i).toNat)
 case atStart=>exact⟨0,id,by omega,rfl,rfl,hid,Vd _ _,rfl⟩
 case round=>
  obtain⟨j,x,U,rfl,rfl,P,k,F⟩:=hrel;have q:=I.o.1.call k;obtain⟨A,R⟩:=q.blk.rules;have W:wr.cell? ⟨B.b,0,none⟩=some (.map (some B.nm)):=A 0;have T:=q.blk.lt;have v:=U9 F;have K:=U9 k;by_cases J:j<32
  ·have Q:(j:Int)<32:=by omega
   have D:(Instr.lookup 90 (.map (some B.nm)) (.int .u64 x) true).run prog wr=.ok (.tuple #[.agg (FA ((lk m.nd x).getD (0,0))),.bool (lk m.nd x).isSome]) wr:=q.n.look2 ko P;obtain⟨L,u,z,H⟩:=fM (a:=.int .u64 0) (b:=.int .i64 0) (lX (.int .u64 ((lk m.nd x).getD (0,0)).1) (.int .i64 ((lk m.nd x).getD (0,0)).2)) rfl rfl wr;have N:L.cell? ⟨wr.heap.size,0,none⟩=some (.int .u64 ((lk m.nd x).getD (0,0)).1):=z.cell 0;have V:=z.frozen;have S:=z.lt;have C:=U9 (k.trans (H.mono k.size));have l:(lk m.nd x).isSome=true->aT ((lk m.nd x).getD (0,0)).1:=λO=>by
    obtain⟨p,l⟩:=V6.1 O;rw[l];exact I.o.2.np _ (bK l)
   have G:=U9 l;have s:=U9 (show∀n,kN m.nd of (n+1) x=if x=of\/(lk m.nd x).isSome=false then x else kN m.nd of n ((lk m.nd x).getD (0,0)).1 from λ_=>rfl);unfold FA at D;clear q A F k z H l;generalize (lk m.nd x).getD (0,0)=p at D u N G s;generalize (lk m.nd x).isSome=b at D G s;by_cases c:x=of
   ·have d:x=kN m.nd of 32 id:=by rw[<-v.o,show 32-j=(31-j)+1 by omega,s.o,Vh (.inl c)]
    subst c;have g:=U9 d;have M:(x==x)=true:=by simp
    clear d;cases b<;>
    ·go_wp2_with fail
     go_ret;refine⟨?_,C.o⟩;unfold lK;rw[<-g.o,Vg rfl]
     rfl
   ·have M:(x==of)=false:=by simpa using c
    cases b with
    |false=>
     have d:x=kN m.nd of 32 id:=by rw[<-v.o,show 32-j=(31-j)+1 by omega,s.o,Vh (.inr rfl)]
     have g:=U9 d;clear d;go_wp2_with fail;go_ret;refine⟨?_,C.o⟩;unfold lK;rw[<-g.o,Vj c]
     rfl
    |true=>
     go_wp2_with fail;go_roundw
     case rel=>exact⟨j+1,p.1,by omega,by go_num,rfl,G.o rfl,C.o,by rw[<-v.o,show 32-j=(32-(j+1))+1 by omega,s.o,Vf (by simp[c])]⟩
     case measure=>simp[intOf];omega
  ·obtain rfl:j=32:=by omega
   clear q A F k;go_wp2_with fail;go_ret;refine⟨?_,K.o⟩;unfold lK;rw[<-v.o];by_cases c:x=of
   ·simp[kN,c]
   ·simp[kN,c]
@[go_sem] theorem QV(x:Int×Int):wZ.kc x=.agg #[.int .i64 x.1,.int .u64 x.2]:=rfl
@[go_sem] theorem QU(x:Int×Int):wZ.vc x=.agg #[.int .u64 x.1,.int .i64 x.2]:=rfl
theorem zj(a b:Int):IntKind.i64.wrap (IntKind.i64.wrap a+b)=IntKind.i64.wrap (a+b):=by
 rw[Xu,Xu,Xu];omega
theorem xF{x y x' y':Yv}(s:x.oneCell'=true)(k:y.oneCell'=true)(c:x'.oneCell'=true)(h:y'.oneCell'=true)(w:Yu):
  ∃i b,(eR 112 (Yr w.heap.size) (.agg #[x,y])).run prog ((w.alloc (.cells #[.int .i64 0,.int .u64 0] 112)).alloc (.cells #[.int .u64 0,.int .i64 0] 114))=.ok .skip i/\
   (eR 114 (Yr (w.heap.size+1)) (.agg #[x',y'])).run prog i=.ok .skip b/\aD b [(w.heap.size+1,114,#[x',y']),(w.heap.size,112,#[x,y])]/\Ys w b:=by
 have d:=((aD.nil (w:=w)).push (t:=112) (cs:=#[.int .i64 0,.int .u64 0]) (g:=w.heap.size) rfl).push (t:=114) (cs:=#[.int .u64 0,.int .i64 0]) (g:=w.heap.size+1) (by simp);have q:Ys w ((w.alloc (.cells #[.int .i64 0,.int .u64 0] 112)).alloc (.cells #[.int .u64 0,.int .i64 0] 114)):=((Vd _ _).alloc (Vc _) _).alloc (by simp) _;have p:=ax d.drop.head #[x,y];have j:ai _ (w.heap.size+1) 114 #[.int .u64 0,.int .i64 0]:=(ah.of_fr1 (F:=cj w.heap.size) (aM _ w.heap.size #[x,y]) rfl).blk d.head (λe=>by have e:w.heap.size+1=w.heap.size:=e;omega);have l:=ax j #[x',y'];have o:=(ah.of_fr1 (F:=cj (w.heap.size+1)) (aM _ (w.heap.size+1) #[x',y']) rfl).blk p (λe=>by have e:w.heap.size=w.heap.size+1:=e;omega);exact⟨_,_,bX d.drop.head (fY x y) rfl (by simp[s,k]),bX j (iQ x' y') rfl (by simp[c,h]),aD.cons l (aD.cons o aD.nil),Below.rowN (Below.rowN q (Vc _) _) (by omega) _⟩
structure US(w:Yu)(B:jI)(m:cA)(g:Nat)(e:(Int×Int)×(Int×Int)):Prop where
 cb:w.cell? ⟨B.b,3,none⟩=some (.map (some B.bm))
 fr:∀i,w.frozen? ⟨B.b,i,none⟩=false
 lt:B.b<w.heap.size
 ln:(dR 112 (Yr g)).run prog w=.ok (.value (.agg #[.int .i64 e.1.1,.int .u64 e.1.2])) w
 lk:(Instr.lookup 93 (.map (some B.bm)) (.agg #[.int .i64 e.1.1,.int .u64 e.1.2]) false).run prog w=.ok (.bool ((lk m.ba e.1).getD false)) w
 ct:w.cell? ⟨g+1,0,none⟩=some (.int .u64 e.2.1)
 fg:∀i,w.frozen? ⟨g+1,i,none⟩=false
 lg:g+1<w.heap.size
structure UR(w:Yu)(B:jI)(m:cA)(g:Nat)(id l:Int):Prop where
 cr:w.cell? ⟨B.b,1,none⟩=some (.map (some B.rm))
 fr:∀i,w.frozen? ⟨B.b,i,none⟩=false
 lt:B.b<w.heap.size
 lk:(Instr.lookup 91 (.map (some B.rm)) (.int .u64 id) false).run prog w=.ok (.int .i64 ((lk m.ra id).getD 0)) w
 cg:w.cell? ⟨g,1,none⟩=some (.int .i64 l)
 fg:∀i,w.frozen? ⟨g,i,none⟩=false
 lg:g<w.heap.size
structure Uv(w:Yu)(B:jI)(m:cA)(id:Int)(r:Nat)(left kept:List ((Int×Int)×(Int×Int)))(v:Yv)(W:Yu):Prop where
 rg:cq wZ W B.tm r left kept
 pm:m.ta.Perm (left++kept)
 v:v=.int .i64 (IntKind.i64.wrap (jd m id kept))
 below:Ys w W
 rl:w.heap.size<=r
theorem MZ{B:jI}{m:cA}(h:el w B m)(ok:m.ok)(hid:aT id):Yt 20 #[Yr B.b,.int .u64 id] w λr w'=>r=.returned (.tuple #[.int .i64 (iq m id).1,.int .i64 (iq m id).2.1,.int .i64 (iq m id).2.2])/\Ys w w':=by
 obtain⟨q0,f0⟩:=h.blk.rules;have c0:w.cell? ⟨B.b,0,none⟩=some (.map (some B.nm)):=q0 0;have l0:=h.blk.lt;have hl:(Instr.lookup 90 (.map (some B.nm)) (.int .u64 id) true).run prog w=.ok (.tuple #[.agg (FA ((lk m.nd id).getD (0,0))),.bool (lk m.nd id).isSome]) w:=h.n.look2 ko hid;obtain⟨M,N,B3,D3⟩:=fM (a:=.int .u64 0) (b:=.int .i64 0) (lX (.int .u64 ((lk m.nd id).getD (0,0)).1) (.int .i64 ((lk m.nd id).getD (0,0)).2)) rfl rfl w;have R:=U9 (show iq m id=if(lk m.nd id).isSome then(IntKind.i64.wrap (((lk m.nd id).getD (0,0)).2+(lk m.ra id).getD 0),IntKind.i64.wrap (jd m id m.ta),0)else(0,0,9)from rfl);generalize iq m id=S at R⊢;have h3:=h.call D3;obtain⟨q3,f3⟩:=h3.blk.rules;have c3:M.cell? ⟨B.b,2,none⟩=some (.map (some B.tm)):=q3 2;have l3:=h3.blk.lt;have HM:=U9 h3.t;have D:=U9 (Vb h3 (Vb ok (Vb B3 D3)));unfold FA at hl;clear h h3 ok q0 q3 B3 D3;generalize (lk m.nd id).getD (0,0)=p at hl N R D;generalize (lk m.nd id).isSome=b at hl R;cases b with
 |false=>
  have hS:S=(0,0,9):=R.o;subst hS;clear R;go_enter func20,ntmps20;go_wp2_with fail;refine VF (v:=.tuple #[.int .i64 0,.int .i64 0,.int .i64 9]) (by simp[results,results20]) rfl ⟨rfl,D.o.2.2.2⟩
 |true=>
  have hS:S=(IntKind.i64.wrap (p.2+(lk m.ra id).getD 0),IntKind.i64.wrap (jd m id m.ta),0):=R.o;subst hS;clear R;go_enter func20,ntmps20;go_wp2_with (first|(at_range;refine dL mj rfl _ rfl rfl HM.o ?_;intro w0 P Q ζ))
  go_frame
  have A0:Uv w B m id M.heap.size m.ta [] (.int .i64 0) w0:=⟨P,by simp,by simp[jd,Xu],D.o.2.2.2.trans (Q.mono D.o.2.2.2.size),D.o.2.2.2.size⟩;have ι:=U9 Q;clear P Q ζ c0 f0 l0 hl N c3 f3 l3 HM
  go_loopg [5] m.ta.length (λg v wr=>∃left c,left.length=g/\Uv w B m id M.heap.size left c v wr/\Ys M wr)
  case atStart=>exact⟨m.ta,[],rfl,A0,ι.o⟩
  case round=>
   obtain⟨left,c,hg,A,α⟩:=hrel;clear A0;have hr:=A.rg;have F:=U9 (Vb A α);have HG:=U9 hg;obtain rfl:=A.v;clear A α hg;go_wp2_with (first|(at_next;refine d8 rfl _ rfl rfl hr ?_ ?_))
   ·intro ε
    obtain rfl:=ε;clear hr;have h4:=D.o.1.call F.o.2;have B4:=D.o.2.2.1.call F.o.2;have O:=U9 (λ(Y:Yu) (l:Ys wr Y)=>(show UR Y B m w.heap.size id p.2 from
     ⟨(h4.call l).blk.cell 1,(h4.call l).blk.frozen,(h4.call l).blk.lt,(h4.call l).r.look mo hid,(B4.call l).cell 1,(B4.call l).frozen,(B4.call l).lt⟩))
    clear h4 B4;go_upto_region 11 with fail;refine bS (by kernel_rfl) (by kernel_rfl) ?_
    iterate 13
     first
     |refine dx rfl ?_;apply aA
      ·intro _ ρ K H I W l;have i:=O.o W l;simp[execOp,go_sem,K,H,I,i,i.cr,i.fr,i.lt,i.lk,i.cg,i.fg,i.lg]<;>exact rfl
     |refine aw (λ_=>rfl) ?_
     simp only[UW,UX,UY,UZ]
    refine aH ?_;intro _ W9 η;have hD:=F.o.1.below.trans (η.mono F.o.1.below.size);have hE:jd m id c=jd m id m.ta:=(zy (by simpa using F.o.1.pm)).symm;clear O;go_wp2_with fail;refine VF (v:=.tuple #[.int .i64 (IntKind.i64.wrap (p.2+(lk m.ra id).getD 0)),.int .i64 (IntKind.i64.wrap (jd m id c)),.int .i64 0]) (by simp[results,results20]) rfl ⟨by rw[hE],hD⟩
   ·intro s u G C d w2 hp L β ν
    have J:((s,u),(G,C))∈m.ta:=F.o.1.pm.mem_iff.2 (Wj _ (hp.mem_iff.2 Vp));obtain⟨S1,X,κ,μ,V,D2⟩:=xF (x:=.int .i64 s) (y:=.int .u64 u) (x':=.int .u64 G) (y':=.int .i64 C) rfl rfl rfl rfl w2;have θ:=F.o.1.rg.lt;have m2:ah (cj M.heap.size) wr w2:=ah.of_fr1 β rfl;have δ:=D.o.1.inh;have Z:=((D.o.1.call F.o.2).mod m2 λq i e=>by have e:q=M.heap.size:=e;have:=δ q i;omega).call D2;have b2:Ys M X:=(F.o.2.trans (m2.belowC F.o.2.size λk hk e=>by have e:k=M.heap.size:=e;omega)).trans (D2.mono (Vi F.o.2.size m2.size));have O:=U9 (λ(Y:Yu) (hn:ah cM X Y)=>have l:=hn.no;(show US Y B m w2.heap.size ((s,u),(G,C))from
     ⟨(Z.call l).blk.cell 3,(Z.call l).blk.frozen,(Z.call l).blk.lt,dG (V.call l).drop.head underlying112 rfl (fY _ _),(Z.call l).b.look sU (D.o.1.t.ok _ J),(V.call l).head.cell 0,(V.call l).head.frozen,(V.call l).head.lt⟩))
    have CA:=U9 (λ(Y:Yu) (l:Ys X Y)=>Hu (Z.call l) D.o.2.1 (D.o.2.1.tn _ J) (of:=id));have z:=U9 (Vb (L.call D2) (Vb (F.o.1.pm.trans ((WI _ hp).trans List.perm_middle.symm)) (Vb (D.o.2.2.2.trans (b2.mono D.o.2.2.2.size)) (Vb F.o.1.rl b2))));have HL:=U9 (show d.length+1=left.length by have:=hp.length_eq;simpa using this.symm);have c2:X.cell? ⟨w2.heap.size+1,1,none⟩=some (.int .i64 C):=V.head.cell 1;have T:=U9 V;have HU:=U9 (show jd m id (((s,u),(G,C))::c)=(if(lk m.ba (s,u)).getD false=false/\lK m.nd G id=true then C else 0)+jd m id c from rfl);clear hr L β J hp Z b2 m2 δ θ D2 V c2;obtain⟨bv,U⟩:∃bv,(lk m.ba (s,u)).getD false=bv:=⟨_,rfl⟩;obtain⟨bw,γ⟩:∃bw,lK m.nd G id=bw:=⟨_,rfl⟩;rw[U,γ]at HU;rw[γ]at CA;go_upto_region 9 with fail;cases bv with
    |true=>
     refine ay [] cM 14 (λ_ h=>h.elim) (by kernel_rfl) (by kernel_rfl) ?_
     iterate 14
      first
      |refine bT rfl ?_;apply aA
       ·intro _ ρ K H I W l;have i:=O.o W l;simp[execOp,go_sem,K,H,I,i,i.cb,i.fr,i.lt,i.ln,i.lk,i.ct,i.fg,i.lg,U]<;>exact rfl
      |refine al (λ_=>rfl) ?_
      simp only[UW,UX,UY,UZ]
     refine aK (by kernel_rfl) ?_;rintro _ W5 hC-;have j:Ys X W5:=hC;have HV:=U9 (show IntKind.i64.wrap (jd m id c)=IntKind.i64.wrap (jd m id (((s,u),(G,C))::c))from by rw[HU.o,Vf (by simp),Int.zero_add]);clear O CA hC
     try dsimp only
     go_wp2_with fail
     go_roundg d.length
     case rel=>exact⟨d,((s,u),(G,C))::c,rfl,⟨z.o.1.call j,z.o.2.1,Vt (Value.int .i64) HV.o,z.o.2.2.1.trans (j.mono z.o.2.2.1.size),z.o.2.2.2.1⟩,z.o.2.2.2.2.trans (j.mono z.o.2.2.2.2.size)⟩
     case measure=>have:=HL.o;have:=HG.o;omega
    |false=>
     refine ay [] cM 14 (λ_ h=>h.elim) (by kernel_rfl) (by kernel_rfl) ?_
     iterate 12
      first
      |refine bT rfl ?_;apply aA
       ·intro _ ρ K H I W l;have i:=O.o W l;simp[execOp,go_sem,K,H,I,i,i.cb,i.fr,i.lt,i.ln,i.lk,i.ct,i.fg,i.lg,U]<;>exact rfl
      |refine al (λ_=>rfl) ?_
      simp only[UW,UX,UY,UZ]
     refine cU (λ_=>rfl) (Vm (by kernel_rfl)) 30 (λ_=>#[Yr B.b,.int .u64 G,.int .u64 id]) (.bool bw) (λ_ w=>by simp[execOp,go_sem]<;>rfl) (λ_ Y l=>CA.o Y l.no) ?_;simp only[UW,UX,UY,UZ]
     iterate 1
      first
      |refine eV O.o rfl ?_
      |refine al (λ_=>rfl) ?_
      |refine bH rfl ?_
      simp only[UW,UX,UY,UZ]
     refine aK (by kernel_rfl) ?_;rintro _ W5 hC-;have j:Ys X W5:=hC;have c5:W5.cell? ⟨w2.heap.size+1,1,none⟩=some (.int .i64 C):=(T.o.call j).head.cell 1;have f5:=(T.o.call j).head.frozen;have l5:=(T.o.call j).head.lt;clear O CA hC
     try dsimp only
     cases bw with
     |false=>
      have HV:=U9 (show IntKind.i64.wrap (jd m id c)=IntKind.i64.wrap (jd m id (((s,u),(G,C))::c))from by rw[HU.o,Vf (by simp),Int.zero_add]);go_wp2_with fail
      go_roundg d.length
      case rel=>exact⟨d,((s,u),(G,C))::c,rfl,⟨z.o.1.call j,z.o.2.1,Vt (Value.int .i64) HV.o,z.o.2.2.1.trans (j.mono z.o.2.2.1.size),z.o.2.2.2.1⟩,z.o.2.2.2.2.trans (j.mono z.o.2.2.2.2.size)⟩
      case measure=>have:=HL.o;have:=HG.o;omega
     |true=>
      have HV:=U9 (show IntKind.i64.wrap (IntKind.i64.wrap (jd m id c)+C)=IntKind.i64.wrap (jd m id (((s,u),(G,C))::c))from by rw[HU.o,Vh ⟨rfl,rfl⟩,zj,Int.add_comm]);go_wp2_with fail
      go_roundg d.length
      case rel=>exact⟨d,((s,u),(G,C))::c,rfl,⟨z.o.1.call j,z.o.2.1,Vt (Value.int .i64) (by have:=HV.o;simp only[Xu]at this⊢;simpa[wrap64]using this),z.o.2.2.1.trans (j.mono z.o.2.2.1.size),z.o.2.2.2.1⟩,z.o.2.2.2.2.trans (j.mono z.o.2.2.2.2.size)⟩
      case measure=>have:=HL.o;have:=HG.o;omega
def jC(w:Yu)(B:jI)(m':cA)(r:Ending)(w':Yu):Prop:=r=.returned (.tuple #[])/\el w' B m'/\ah B.F w w'
theorem el.putN{B:jI}{m:cA}{L:List (Int×(Int×Int))}(h:el w B m)(g:aZ Gs w' B.nm L)(f:Fr w w' B.nm none):el w' B {m with nd:=L}/\ah B.F w w':=by
 have k:ah (cj B.nm) w w':=ah.of_fr1 f rfl;exact⟨⟨k.blk h.blk λe=>h.n.ne_blk h.blk (Yi e),g,k.gmap h.r λe=>h.nr (Yi e),k.gmap h.t λe=>h.nt (Yi e),k.gmap h.b λe=>h.nb (Yi e),h.nr,h.nt,h.nb,h.rt,h.rb,h.tb⟩,k.mono λq e=>.inr (.inl e)⟩
theorem el.putR{B:jI}{m:cA}{L:List (Int×Int)}(h:el w B m)(g:aZ Gr w' B.rm L)(f:Fr w w' B.rm none):el w' B {m with ra:=L}/\ah B.F w w':=by
 have k:ah (cj B.rm) w w':=ah.of_fr1 f rfl;exact⟨⟨k.blk h.blk λe=>h.r.ne_blk h.blk (Yi e),k.gmap h.n λe=>h.nr e,g,k.gmap h.t λe=>h.rt (Yi e),k.gmap h.b λe=>h.rb (Yi e),h.nr,h.nt,h.nb,h.rt,h.rb,h.tb⟩,k.mono λq e=>.inr (.inr (.inl e))⟩
theorem el.putT{B:jI}{m:cA}{L:List ((Int×Int)×(Int×Int))}(h:el w B m)(g:aZ wZ w' B.tm L)(f:Fr w w' B.tm none):el w' B {m with ta:=L}/\ah B.F w w':=by
 have k:ah (cj B.tm) w w':=ah.of_fr1 f rfl;exact⟨⟨k.blk h.blk λe=>h.t.ne_blk h.blk (Yi e),k.gmap h.n λe=>h.nt e,k.gmap h.r λe=>h.rt e,g,k.gmap h.b λe=>h.tb (Yi e),h.nr,h.nt,h.nb,h.rt,h.rb,h.tb⟩,k.mono λq e=>.inr (.inr (.inr (.inl e)))⟩
theorem el.putB{B:jI}{m:cA}{L:List ((Int×Int)×Bool)}(h:el w B m)(g:aZ Gt w' B.bm L)(f:Fr w w' B.bm none):el w' B {m with ba:=L}/\ah B.F w w':=by
 have k:ah (cj B.bm) w w':=ah.of_fr1 f rfl;exact⟨⟨k.blk h.blk λe=>h.b.ne_blk h.blk (Yi e),k.gmap h.n λe=>h.nb e,k.gmap h.r λe=>h.rb e,k.gmap h.t λe=>h.tb e,g,h.nr,h.nt,h.nb,h.rt,h.rb,h.tb⟩,k.mono λq e=>.inr (.inr (.inr (.inr e)))⟩
structure FE(w:Yu)(B:jI)(g:Nat)(n t a r f:Int)(E:Ev)(e:Int):Prop where
 c0:w.cell? ⟨B.b,0,none⟩=some (.map (some B.nm))
 c1:w.cell? ⟨B.b,1,none⟩=some (.map (some B.rm))
 c2:w.cell? ⟨B.b,2,none⟩=some (.map (some B.tm))
 c3:w.cell? ⟨B.b,3,none⟩=some (.map (some B.bm))
 fr:∀i,w.frozen? ⟨B.b,i,none⟩=false
 lt:B.b<w.heap.size
 k1:w.cell? ⟨g,1,none⟩=some (.int .u64 n)
 k3:w.cell? ⟨g,3,none⟩=some (.int .i64 a)
 k4:w.cell? ⟨g,4,none⟩=some (.int .u64 r)
 k5:w.cell? ⟨g,5,none⟩=some (.int .u64 f)
 fk:∀i,w.frozen? ⟨g,i,none⟩=false
 lk:g<w.heap.size
 e0:w.cell? ⟨g+1,0,none⟩=some (.int .i64 E.o)
 e1:w.cell? ⟨g+1,1,none⟩=some (.int .u64 E.s)
 e14:w.cell? ⟨g+1,14,none⟩=some (.int .i64 e)
 fe:∀i,w.frozen? ⟨g+1,i,none⟩=false
 le:g+1<w.heap.size
theorem FE.of{w W:Yu}{B:jI}{m:cA}{k:Int}{g:Nat}(h:el W B m)(b:aD W [(g+1,55,dC E e),(g,42,cQ ⟨k,n,t,a,r,f⟩)]):FE W B g n t a r f E e:=
 ⟨h.blk.cell 0,h.blk.cell 1,h.blk.cell 2,h.blk.cell 3,h.blk.frozen,h.blk.lt,b.drop.head.cell 1,b.drop.head.cell 3,b.drop.head.cell 4,b.drop.head.cell 5,b.drop.head.frozen,b.drop.head.lt,b.head.cell 0,b.head.cell 1,b.head.cell 14,b.head.frozen,b.head.lt⟩
theorem EX{B:jI}{m:cA}(h:el w B m)(J:fa who f):
  Yt 19 #[Yr B.b,.int .i64 who,.agg (cQ ⟨4,n,t,a,r,f⟩),.agg (dC E 0)] w (jC w B {m with ba:=putL m.ba (who,f) true}):=by
 obtain⟨k,j,v,z⟩:=qy w 42 (cQ ⟨4,n,t,a,r,f⟩) 55 (dC E 0);have s:=h.call z;have R:k.cell? ⟨w.heap.size,0,none⟩=some (.int .u8 4):=v.drop.head.cell 0;have d:=U9 (λ(Y:Yu) (l:Ys k Y)=>FE.of (w:=w) (s.call l) (v.call l));obtain⟨c0,c1,V,X,U,lt,N,Q,k4,T,O,I,P,Z,H,S,le⟩:=d.o k (Vd _ _);have D:=U9 j;have A:=U9 (Vb s z);clear h v z s j;go_enter func19,ntmps19;go_upto_region 1 with fail;generalize i:(w.alloc _).alloc _=X0;obtain rfl:k=X0:=D.o.trans i;clear D i;go_upto_region 19 with fail;refine aP 8 (by kernel_rfl) (by simp) (by decide+kernel) (by decide+kernel) (by decide+kernel) (by decide+kernel) ?_;simp only[U4,U5,U6,U7]
 iterate 8
  first
  |refine dx rfl ?_;apply aA
   ·intro _ ρ u q p W l;have c:=d.o W l;simp[execOp,go_sem,u,q,p,c,c.c0,c.c1,c.c2,c.c3,c.fr,c.lt,c.k1,c.k3,c.k4,c.k5,c.fk,c.lk,c.e0,c.e1,c.e14,c.fe,c.le]<;>exact rfl
  |refine aw (λ_=>rfl) ?_
  simp only[UW,UX,UY,UZ]
 refine aH ?_;intro _ L g _;obtain⟨K,bQ,i,C⟩:=(A.o.1.call g).b.put sU (a:=(who,f)) J true;have bQ:(Instr.mapUpdate 93 (.map (some B.bm)) (.agg #[.int .i64 who,.int .u64 f]) (.bool true)).run prog L=.ok () K:=bQ;obtain⟨F,G⟩:=(A.o.1.call g).putB i C;have M:=U9 (Vb F (((ah.of_below A.o.2).trans (ah.of_below g)).trans G));clear i C F G d;go_wp2_with fail
 go_end0
 exact⟨rfl,M.o⟩
theorem EW{B:jI}{m:cA}(h:el w B m)(J:fa who f):
  Yt 19 #[Yr B.b,.int .i64 who,.agg (cQ ⟨4,n,t,a,r,f⟩),.agg (dC E 8)] w (jC w B {m with ba:=putL m.ba (who,f) true}):=by
 obtain⟨k,j,v,z⟩:=qy w 42 (cQ ⟨4,n,t,a,r,f⟩) 55 (dC E 8);have s:=h.call z;have R:k.cell? ⟨w.heap.size,0,none⟩=some (.int .u8 4):=v.drop.head.cell 0;have d:=U9 (λ(Y:Yu) (l:Ys k Y)=>FE.of (w:=w) (s.call l) (v.call l));obtain⟨c0,c1,V,X,U,lt,N,Q,k4,T,O,I,P,Z,H,S,le⟩:=d.o k (Vd _ _);have D:=U9 j;have A:=U9 (Vb s z);clear h v z s j;go_enter func19,ntmps19;go_upto_region 1 with fail;generalize i:(w.alloc _).alloc _=X0;obtain rfl:k=X0:=D.o.trans i;clear D i;go_upto_region 19 with fail;refine aP 8 (by kernel_rfl) (by simp) (by decide+kernel) (by decide+kernel) (by decide+kernel) (by decide+kernel) ?_;simp only[U4,U5,U6,U7]
 iterate 8
  first
  |refine dx rfl ?_;apply aA
   ·intro _ ρ u q p W l;have c:=d.o W l;simp[execOp,go_sem,u,q,p,c,c.c0,c.c1,c.c2,c.c3,c.fr,c.lt,c.k1,c.k3,c.k4,c.k5,c.fk,c.lk,c.e0,c.e1,c.e14,c.fe,c.le]<;>exact rfl
  |refine aw (λ_=>rfl) ?_
  simp only[UW,UX,UY,UZ]
 refine aH ?_;intro _ L g _;obtain⟨K,bQ,i,C⟩:=(A.o.1.call g).b.put sU (a:=(who,f)) J true;have bQ:(Instr.mapUpdate 93 (.map (some B.bm)) (.agg #[.int .i64 who,.int .u64 f]) (.bool true)).run prog L=.ok () K:=bQ;obtain⟨F,G⟩:=(A.o.1.call g).putB i C;have M:=U9 (Vb F (((ah.of_below A.o.2).trans (ah.of_below g)).trans G));clear i C F G d;go_wp2_with fail
 go_end0
 exact⟨rfl,M.o⟩
theorem E5{B:jI}{m:cA}(h:el w B m)(H:aT n):
  Yt 19 #[Yr B.b,.int .i64 who,.agg (cQ ⟨2,n,t,a,r,f⟩),.agg (dC E 0)] w (jC w B {m with ra:=putL m.ra n (IntKind.i64.wrap ((lk m.ra n).getD 0+bL a))}):=by
 obtain⟨k,p,C,D⟩:=qy w 42 (cQ ⟨2,n,t,a,r,f⟩) 55 (dC E 0);have z:=h.call D;have T:k.cell? ⟨w.heap.size,0,none⟩=some (.int .u8 2):=C.drop.head.cell 0;have g:=U9 (λ(Y:Yu) (d:Ys k Y)=>FE.of (w:=w) (z.call d) (C.call d));obtain⟨c0,c1,Z,c3,X,lt,P,S,k4,V,Q,L,R,e1,K,U,le⟩:=g.o k (Vd _ _);have G:=U9 p;have s:=U9 (Vb z D);clear h C D z p;go_enter func19,ntmps19;go_upto_region 1 with fail;generalize l:(w.alloc _).alloc _=X0;obtain rfl:k=X0:=G.o.trans l;clear G l;have j:=U9 (λ(Y:Yu) (d:Ys k Y)=>Vb (g.o Y d) (show(Instr.lookup 91 (.map (some B.rm)) (.int .u64 n) false).run prog Y=.ok (.int .i64 ((lk m.ra n).getD 0)) Y from(s.o.1.call d).r.look mo H));go_upto_region 9 with fail;refine aP 11 (by kernel_rfl) (by simp) (by decide+kernel) (by decide+kernel) (by decide+kernel) (by decide+kernel) ?_;simp only[U4,U5,U6,U7]
 iterate 9
  first
  |refine dx rfl ?_;apply aA
   ·intro _ ρ A v u W d;have c:=j.o W d;simp[execOp,go_sem,A,v,u,c,c.1.c0,c.1.c1,c.1.c2,c.1.c3,c.1.fr,c.1.lt,c.1.k1,c.1.k3,c.1.k4,c.1.k5,c.1.fk,c.1.lk,c.1.e0,c.1.e1,c.1.e14,c.1.fe,c.1.le,c.2]<;>exact rfl
  |refine aw (λ_=>rfl) ?_
  simp only[UW,UX,UY,UZ]
 refine fA (λ_=>rfl) 29 #[.int .i64 a] _ (λ_ w=>by simp[execOp,go_sem]<;>rfl) (λw d=>(kb a w).mono λr w' q=>⟨q.1,by rw[<-q.2];exact Vd _ _⟩) ?_;simp only[UW,UX,UY,UZ]
 iterate 1
  first
  |refine dq j.o rfl ?_
  |refine aw (λ_=>rfl) ?_
  simp only[UW,UX,UY,UZ]
 refine aH ?_;intro _ N i _;obtain⟨M,bQ,l,F⟩:=(s.o.1.call i).r.put mo (a:=n) H (IntKind.i64.wrap ((lk m.ra n).getD 0+bL a));have bQ:(Instr.mapUpdate 91 (.map (some B.rm)) (.int .u64 n) (.int .i64 (IntKind.i64.wrap ((lk m.ra n).getD 0+bL a)))).run prog N=.ok () M:=bQ;obtain⟨I,J⟩:=(s.o.1.call i).putR l F;have O:=U9 (Vb I (((ah.of_below s.o.2).trans (ah.of_below i)).trans J));clear l F I J g j;go_wp2_with fail
 go_end0
 exact⟨rfl,O.o⟩
theorem E0{B:jI}{m:cA}(h:el w B m)(H:aT n):
  Yt 19 #[Yr B.b,.int .i64 who,.agg (cQ ⟨2,n,t,a,r,f⟩),.agg (dC E 8)] w (jC w B {m with ra:=putL m.ra n (IntKind.i64.wrap ((lk m.ra n).getD 0+bL a))}):=by
 obtain⟨k,p,C,D⟩:=qy w 42 (cQ ⟨2,n,t,a,r,f⟩) 55 (dC E 8);have z:=h.call D;have T:k.cell? ⟨w.heap.size,0,none⟩=some (.int .u8 2):=C.drop.head.cell 0;have g:=U9 (λ(Y:Yu) (d:Ys k Y)=>FE.of (w:=w) (z.call d) (C.call d));obtain⟨c0,c1,Z,c3,X,lt,P,S,k4,V,Q,L,R,e1,K,U,le⟩:=g.o k (Vd _ _);have G:=U9 p;have s:=U9 (Vb z D);clear h C D z p;go_enter func19,ntmps19;go_upto_region 1 with fail;generalize l:(w.alloc _).alloc _=X0;obtain rfl:k=X0:=G.o.trans l;clear G l;have j:=U9 (λ(Y:Yu) (d:Ys k Y)=>Vb (g.o Y d) (show(Instr.lookup 91 (.map (some B.rm)) (.int .u64 n) false).run prog Y=.ok (.int .i64 ((lk m.ra n).getD 0)) Y from(s.o.1.call d).r.look mo H));go_upto_region 9 with fail;refine aP 11 (by kernel_rfl) (by simp) (by decide+kernel) (by decide+kernel) (by decide+kernel) (by decide+kernel) ?_;simp only[U4,U5,U6,U7]
 iterate 9
  first
  |refine dx rfl ?_;apply aA
   ·intro _ ρ A v u W d;have c:=j.o W d;simp[execOp,go_sem,A,v,u,c,c.1.c0,c.1.c1,c.1.c2,c.1.c3,c.1.fr,c.1.lt,c.1.k1,c.1.k3,c.1.k4,c.1.k5,c.1.fk,c.1.lk,c.1.e0,c.1.e1,c.1.e14,c.1.fe,c.1.le,c.2]<;>exact rfl
  |refine aw (λ_=>rfl) ?_
  simp only[UW,UX,UY,UZ]
 refine fA (λ_=>rfl) 29 #[.int .i64 a] _ (λ_ w=>by simp[execOp,go_sem]<;>rfl) (λw d=>(kb a w).mono λr w' q=>⟨q.1,by rw[<-q.2];exact Vd _ _⟩) ?_;simp only[UW,UX,UY,UZ]
 iterate 1
  first
  |refine dq j.o rfl ?_
  |refine aw (λ_=>rfl) ?_
  simp only[UW,UX,UY,UZ]
 refine aH ?_;intro _ N i _;obtain⟨M,bQ,l,F⟩:=(s.o.1.call i).r.put mo (a:=n) H (IntKind.i64.wrap ((lk m.ra n).getD 0+bL a));have bQ:(Instr.mapUpdate 91 (.map (some B.rm)) (.int .u64 n) (.int .i64 (IntKind.i64.wrap ((lk m.ra n).getD 0+bL a)))).run prog N=.ok () M:=bQ;obtain⟨I,J⟩:=(s.o.1.call i).putR l F;have O:=U9 (Vb I (((ah.of_below s.o.2).trans (ah.of_below i)).trans J));clear l F I J g j;go_wp2_with fail
 go_end0
 exact⟨rfl,O.o⟩
theorem E8{B:jI}{m:cA}(h:el w B m){m':cA}(T:(if gH E.o E.s≠0/\(lk m.nd (gH E.o E.s)).isSome=false then{m with nd:=putL m.nd (gH E.o E.s) (n,bL a)}else m)=m')(hs:aT E.s)(O:aT (gH E.o E.s)):
  Yt 19 #[Yr B.b,.int .i64 who,.agg (cQ ⟨1,n,t,a,r,f⟩),.agg (dC E 0)] w (jC w B m'):=by
 obtain⟨g,z,N,P⟩:=qy w 42 (cQ ⟨1,n,t,a,r,f⟩) 55 (dC E 0);have K:=h.call P;have k0:g.cell? ⟨w.heap.size,0,none⟩=some (.int .u8 1):=N.drop.head.cell 0;have j:=U9 (λ(Y:Yu) (i:Ys g Y)=>FE.of (w:=w) (K.call i) (N.call i));obtain⟨c0,c1,c2,c3,fr,lt,k1,k3,k4,k5,fk,α,e0,e1,Z,fe,le⟩:=j.o g (Vd _ _);have S:=U9 z;have k:=U9 (Vb K P);have d:=U9 T;clear h N P K z T;go_enter func19,ntmps19;go_upto_region 1 with fail;generalize v:(w.alloc _).alloc _=X0;obtain rfl:g=X0:=S.o.trans v;clear S v;have G:=U9 (λW=>Rf E.o E.s hs W);have F:(Instr.lookup 90 (.map (some B.nm)) (.int .u64 (gH E.o E.s)) true).run prog g=.ok (.tuple #[.agg (FA ((lk m.nd (gH E.o E.s)).getD (0,0))),.bool (lk m.nd (gH E.o E.s)).isSome]) g:=k.o.1.n.look2 ko O;obtain⟨W3,C,B3,D⟩:=fM (a:=.int .u64 0) (b:=.int .i64 0) (lX (.int .u64 ((lk m.nd (gH E.o E.s)).getD (0,0)).1) (.int .i64 ((lk m.nd (gH E.o E.s)).getD (0,0)).2)) rfl rfl g;have u:=U9 D;have l:=U9 (λ(Y:Yu) (i:Ys W3 Y)=>j.o Y (D.trans (i.mono D.size)));unfold FA at F;generalize (lk m.nd (gH E.o E.s)).getD (0,0)=p at F C;generalize (lk m.nd (gH E.o E.s)).isSome=b at F d;have Q:=U9 O;generalize gH E.o E.s=id at G F Q d;clear B3 D O;by_cases M:id=0
 ·subst M
  obtain rfl:m=m':=by rw[<-d.o,Vf (by simp)]
  clear d;go_wp2_with (go_at_call 28;refine(G.o _).mono ?_;rintro r X ⟨rfl,rfl⟩)
  go_end0
  exact⟨rfl,k.o.1.call u.o,(ah.of_below k.o.2).trans (ah.of_below u.o)⟩
 ·have β:(id==0)=false:=by simpa using M
  cases b with
  |true=>
   obtain rfl:m=m':=by rw[<-d.o,Vf (by simp)]
   clear d;go_wp2_with (go_at_call 28;refine(G.o _).mono ?_;rintro r X ⟨rfl,rfl⟩)
   go_end0
   exact⟨rfl,k.o.1.call u.o,(ah.of_below k.o.2).trans (ah.of_below u.o)⟩
  |false=>
   obtain rfl:{m with nd:=putL m.nd id (n,bL a)}=m':=by rw[<-d.o,Vh ⟨M,rfl⟩]
   clear d;go_upto_region 7 with(go_at_call 28;refine(G.o _).mono ?_;rintro r X ⟨rfl,rfl⟩);refine aP 11 (by kernel_rfl) (by simp) (by decide+kernel) (by decide+kernel) (by decide+kernel) (by decide+kernel) ?_;simp only[U4,U5,U6,U7]
   iterate 9
    first
    |refine dx rfl ?_;apply aA
     ·intro _ ρ L I H W i;have c:=l.o W i;simp[execOp,go_sem,L,I,H,c,c.c0,c.c1,c.c2,c.c3,c.fr,c.lt,c.k1,c.k3,c.k4,c.k5,c.fk,c.lk,c.e0,c.e1,c.e14,c.fe,c.le]<;>exact rfl
    |refine aw (λ_=>rfl) ?_
    simp only[UW,UX,UY,UZ]
   refine fA (λ_=>rfl) 29 #[.int .i64 a] _ (λ_ w=>by simp[execOp,go_sem]<;>rfl) (λw i=>(kb a w).mono λr w' q=>⟨q.1,by rw[<-q.2];exact Vd _ _⟩) ?_;simp only[UW,UX,UY,UZ]
   iterate 1
    first
    |refine dq l.o rfl ?_
    |refine aw (λ_=>rfl) ?_
    simp only[UW,UX,UY,UZ]
   refine aH ?_;intro _ W2 A _;have J:=(k.o.1.call u.o).call A;obtain⟨W4,bQ,v,R⟩:=J.n.put ko (a:=id) Q.o (n,bL a);have bQ:(Instr.mapUpdate 90 (.map (some B.nm)) (.int .u64 id) (.agg #[.int .u64 n,.int .i64 (bL a)])).run prog W2=.ok () W4:=bQ;obtain⟨V,U⟩:=J.putN v R;have HX:=U9 (Vb V ((((ah.of_below k.o.2).trans (ah.of_below u.o)).trans (ah.of_below A)).trans U));clear v R V U J j l;go_wp2_with fail
   go_end0
   exact⟨rfl,HX.o⟩
theorem E7{B:jI}{m:cA}(h:el w B m){m':cA}(T:(if gH E.o E.s≠0/\(lk m.nd (gH E.o E.s)).isSome=false then{m with nd:=putL m.nd (gH E.o E.s) (n,bL a)}else m)=m')(hs:aT E.s)(O:aT (gH E.o E.s)):
  Yt 19 #[Yr B.b,.int .i64 who,.agg (cQ ⟨1,n,t,a,r,f⟩),.agg (dC E 8)] w (jC w B m'):=by
 obtain⟨g,z,N,P⟩:=qy w 42 (cQ ⟨1,n,t,a,r,f⟩) 55 (dC E 8);have K:=h.call P;have k0:g.cell? ⟨w.heap.size,0,none⟩=some (.int .u8 1):=N.drop.head.cell 0;have j:=U9 (λ(Y:Yu) (i:Ys g Y)=>FE.of (w:=w) (K.call i) (N.call i));obtain⟨c0,c1,c2,c3,fr,lt,k1,k3,k4,k5,fk,α,e0,e1,Z,fe,le⟩:=j.o g (Vd _ _);have S:=U9 z;have k:=U9 (Vb K P);have d:=U9 T;clear h N P K z T;go_enter func19,ntmps19;go_upto_region 1 with fail;generalize v:(w.alloc _).alloc _=X0;obtain rfl:g=X0:=S.o.trans v;clear S v;have G:=U9 (λW=>Rf E.o E.s hs W);have F:(Instr.lookup 90 (.map (some B.nm)) (.int .u64 (gH E.o E.s)) true).run prog g=.ok (.tuple #[.agg (FA ((lk m.nd (gH E.o E.s)).getD (0,0))),.bool (lk m.nd (gH E.o E.s)).isSome]) g:=k.o.1.n.look2 ko O;obtain⟨W3,C,B3,D⟩:=fM (a:=.int .u64 0) (b:=.int .i64 0) (lX (.int .u64 ((lk m.nd (gH E.o E.s)).getD (0,0)).1) (.int .i64 ((lk m.nd (gH E.o E.s)).getD (0,0)).2)) rfl rfl g;have u:=U9 D;have l:=U9 (λ(Y:Yu) (i:Ys W3 Y)=>j.o Y (D.trans (i.mono D.size)));unfold FA at F;generalize (lk m.nd (gH E.o E.s)).getD (0,0)=p at F C;generalize (lk m.nd (gH E.o E.s)).isSome=b at F d;have Q:=U9 O;generalize gH E.o E.s=id at G F Q d;clear B3 D O;by_cases M:id=0
 ·subst M
  obtain rfl:m=m':=by rw[<-d.o,Vf (by simp)]
  clear d;go_wp2_with (go_at_call 28;refine(G.o _).mono ?_;rintro r X ⟨rfl,rfl⟩)
  go_end0
  exact⟨rfl,k.o.1.call u.o,(ah.of_below k.o.2).trans (ah.of_below u.o)⟩
 ·have β:(id==0)=false:=by simpa using M
  cases b with
  |true=>
   obtain rfl:m=m':=by rw[<-d.o,Vf (by simp)]
   clear d;go_wp2_with (go_at_call 28;refine(G.o _).mono ?_;rintro r X ⟨rfl,rfl⟩)
   go_end0
   exact⟨rfl,k.o.1.call u.o,(ah.of_below k.o.2).trans (ah.of_below u.o)⟩
  |false=>
   obtain rfl:{m with nd:=putL m.nd id (n,bL a)}=m':=by rw[<-d.o,Vh ⟨M,rfl⟩]
   clear d;go_upto_region 7 with(go_at_call 28;refine(G.o _).mono ?_;rintro r X ⟨rfl,rfl⟩);refine aP 11 (by kernel_rfl) (by simp) (by decide+kernel) (by decide+kernel) (by decide+kernel) (by decide+kernel) ?_;simp only[U4,U5,U6,U7]
   iterate 9
    first
    |refine dx rfl ?_;apply aA
     ·intro _ ρ L I H W i;have c:=l.o W i;simp[execOp,go_sem,L,I,H,c,c.c0,c.c1,c.c2,c.c3,c.fr,c.lt,c.k1,c.k3,c.k4,c.k5,c.fk,c.lk,c.e0,c.e1,c.e14,c.fe,c.le]<;>exact rfl
    |refine aw (λ_=>rfl) ?_
    simp only[UW,UX,UY,UZ]
   refine fA (λ_=>rfl) 29 #[.int .i64 a] _ (λ_ w=>by simp[execOp,go_sem]<;>rfl) (λw i=>(kb a w).mono λr w' q=>⟨q.1,by rw[<-q.2];exact Vd _ _⟩) ?_;simp only[UW,UX,UY,UZ]
   iterate 1
    first
    |refine dq l.o rfl ?_
    |refine aw (λ_=>rfl) ?_
    simp only[UW,UX,UY,UZ]
   refine aH ?_;intro _ W2 A _;have J:=(k.o.1.call u.o).call A;obtain⟨W4,bQ,v,R⟩:=J.n.put ko (a:=id) Q.o (n,bL a);have bQ:(Instr.mapUpdate 90 (.map (some B.nm)) (.int .u64 id) (.agg #[.int .u64 n,.int .i64 (bL a)])).run prog W2=.ok () W4:=bQ;obtain⟨V,U⟩:=J.putN v R;have HX:=U9 (Vb V ((((ah.of_below k.o.2).trans (ah.of_below u.o)).trans (ah.of_below A)).trans U));clear v R V U J j l;go_wp2_with fail
   go_end0
   exact⟨rfl,HX.o⟩
theorem EZ{B:jI}{m:cA}(h:el w B m){m':cA}(hm:(if(lk m.ta (who,r)).isSome=true\/False then m else{m with ta:=putL m.ta (who,r) (n,if a=bL a then a else 0)})=m')(hk:fa who r):
  Yt 19 #[Yr B.b,.int .i64 who,.agg (cQ ⟨3,n,t,a,r,f⟩),.agg (dC E 0)] w (jC w B m'):=by
 obtain⟨L,α,B0,D0⟩:=qy w 42 (cQ ⟨3,n,t,a,r,f⟩) 55 (dC E 0);have h0:=h.call D0;have k0:L.cell? ⟨w.heap.size,0,none⟩=some (.int .u8 3):=B0.drop.head.cell 0;have z:=U9 (λ(Y:Yu) (g:Ys L Y)=>FE.of (w:=w) (h0.call g) (B0.call g));obtain⟨c0,c1,c2,c3,fr,lt,k1,k3,k4,k5,fk,J,e0,e1,M,fe,le⟩:=z.o L (Vd _ _);have HW:=U9 α;have HH:=U9 (Vb h0 D0);have s:=U9 hm;clear h B0 D0 h0 α hm;go_enter func19,ntmps19;go_upto_region 1 with fail;generalize I:(w.alloc _).alloc _=X0;obtain rfl:L=X0:=HW.o.trans I;clear HW I;obtain⟨W1,ζ,B1,Q⟩:=fM (a:=.int .i64 0) (b:=.int .u64 0) (fY (.int .i64 who) (.int .u64 r)) rfl rfl L;have l:=U9 (λ(Y:Yu) (hn:ah cM W1 Y)=>Vb (z.o Y (Q.trans (hn.no.mono Q.size))) (Vb (show(Instr.lookup 92 (.map (some B.tm)) (.agg #[.int .i64 who,.int .u64 r]) true).run prog Y=.ok (.tuple #[.agg #[.int .u64 ((lk m.ta (who,r)).getD (0,0)).1,.int .i64 ((lk m.ta (who,r)).getD (0,0)).2],.bool (lk m.ta (who,r)).isSome]) Y from((HH.o.1.call Q).call hn.no).t.look2 mj (a:=(who,r)) hk) (dG (B1.call hn.no) underlying112 rfl (fY (.int .i64 who) (.int .u64 r)))));have k:=U9 (Vb B1 Q);generalize (lk m.ta (who,r)).getD (0,0)=p at l;generalize (lk m.ta (who,r)).isSome=b at l s;clear B1 Q;go_upto_region 12 with fail;refine ay [114] cM 12 (λ_ h=>h.elim) (by kernel_rfl) (by kernel_rfl) ?_
 iterate 9
  first
  |refine bT rfl ?_;apply aA
   ·intro _ ρ δ β γ W g;have c:=l.o W g;simp[execOp,go_sem,δ,β,γ,c,c.1.c0,c.1.c1,c.1.c2,c.1.c3,c.1.fr,c.1.lt,c.1.k1,c.1.k3,c.1.k4,c.1.k5,c.1.fk,c.1.lk,c.1.e0,c.1.e1,c.1.e14,c.1.fe,c.1.le,c.2.1,c.2.2]<;>exact rfl
  |refine al (λ_=>rfl) ?_
  simp only[UW,UX,UY,UZ]
 refine eW (λ_=>rfl) 114 #[.int .u64 0,.int .i64 0] (λ_ _=>by simp[execOp,go_sem]<;>exact rfl) ?_;simp only[UW,UX,UY,UZ];refine cZ (λ_=>rfl) 9 114 114 2 _ _ rfl (by decide) rfl (by simp) (λ_ h=>h.elim) _ (λ_=>#[.int .u64 p.1,.int .i64 p.2]) _ (λ_=>rfl) (λ_=>rfl) (λ_=>by repeat (first|exact Vs ⟨rfl,rfl,rfl⟩|apply Vr)) (iQ (.int .u64 0) (.int .i64 0)) (λ_=>rfl) (λ_=>by simp[Value.oneCell']) ?_;simp only[UW,UX,UY,UZ]
 iterate 1
  first
  |refine eV l.o rfl ?_
  |refine al (λ_=>rfl) ?_
  |refine bH rfl ?_
  simp only[UW,UX,UY,UZ]
 refine aK (by kernel_rfl) ?_;rintro⟨_,v⟩ j hC-;have u:Ys W1 j:=hC
 try dsimp only
 have T:=U9 u;obtain⟨c0,c1,c2,c3,fr,lt,k1,k3,k4,k5,fk,J,e0,e1,M,fe,le⟩:=z.o j (k.o.2.trans (u.mono k.o.2.size));have V:=U9 (Vb ((HH.o.1.call k.o.2).call u) ((ah.of_below HH.o.2:ah B.F w L).trans ((ah.of_below k.o.2).trans (ah.of_below u))));clear hC u l;cases b with
 |true=>
  obtain rfl:m=m':=by rw[<-s.o,Vh (by simp)]
  clear s;go_wp2_with fail
  go_end0
  exact⟨rfl,V.o⟩
 |false=>
  obtain⟨X,hv⟩:∃X,(if a=bL a then a else 0)=X:=⟨_,rfl⟩;obtain rfl:{m with ta:=putL m.ta (who,r) (n,X)}=m':=by
   have h:=s.o;rw[Vf (show ¬(false=true\/False)by simp),hv]at h;exact h
  clear s;have N:=U9 (λW=>kb a W);generalize bL a=wl at N hv;have HV:=U9 hv;clear hv;obtain⟨W3,ε,B3,D3⟩:=fM (a:=.int .u64 0) (b:=.int .i64 0) (iQ (.int .u64 n) (.int .i64 a)) rfl rfl j;have C:=U9 (Vb B3 D3);have D:=U9 (λ(Y:Yu) (g:Ys W3 Y)=>Vb (show Y.cell? ⟨j.heap.size,1,none⟩=some (.int .i64 a)from(B3.call g).cell 1) (Vb (B3.call g).frozen (B3.call g).lt));clear B3 D3;go_upto_region 15 with fail;refine bS (by kernel_rfl) (by kernel_rfl) ?_
  iterate 4
   first
   |refine dq D.o rfl ?_
   |refine aw (λ_=>rfl) ?_
   simp only[UW,UX,UY,UZ]
  refine fA (λ_=>rfl) 29 #[.int .i64 a] _ (λ_ w=>by simp[execOp,go_sem]<;>rfl) (λw g=>(N.o w).mono λr w' q=>⟨q.1,by rw[<-q.2];exact Vd _ _⟩) ?_;simp only[UW,UX,UY,UZ]
  iterate 1
   first
   |refine dq D.o rfl ?_
   |refine aw (λ_=>rfl) ?_
   simp only[UW,UX,UY,UZ]
  refine aH ?_;intro _ S G;have O:=(V.o.1.call C.o.2).call G;have Z:=U9 ((V.o.2.trans (ah.of_below C.o.2)).trans (ah.of_below G));have K:=C.o.1.call G;have N4:=(k.o.1.call T.o).call C.o.2|>.call G;clear N;by_cases hw:a=wl
  ·subst hw
   obtain rfl:a=X:=by rw[<-HV.o,Vh rfl]
   clear HV;have A:=U9 (λ(Y:Yu) (g:Ys S Y)=>Vb (show Y.cell? ⟨B.b,2,none⟩=some (.map (some B.tm))from(O.call g).blk.cell 2) (Vb (O.call g).blk.frozen (Vb (O.call g).blk.lt (Vb (dG (N4.call g) underlying112 rfl (fY (.int .i64 who) (.int .u64 r))) (dG (K.call g) underlying114 rfl (iQ (.int .u64 n) (.int .i64 a)))))));have H4:=U9 O;clear O K N4 D;go_upto_region 17 with fail;refine aP 6 (by kernel_rfl) (by simp) (by decide+kernel) (by decide+kernel) (by decide+kernel) (by decide+kernel) ?_;simp only[U4,U5,U6,U7]
   iterate 6
    first
    |refine dq A.o rfl ?_
    |refine aw (λ_=>rfl) ?_
    simp only[UW,UX,UY,UZ]
   refine aH ?_;intro _ W6 i _;obtain⟨W7,d,I,R⟩:=(H4.o.call i).t.put mj (a:=(who,r)) hk (n,a);have bQ:(Instr.mapUpdate 92 (.map (some B.tm)) (.agg #[.int .i64 who,.int .u64 r]) (.agg #[.int .u64 n,.int .i64 a])).run prog W6=.ok () W7:=d;clear d;obtain⟨U,a2⟩:=(H4.o.call i).putT I R;have HX:=U9 (Vb U ((Z.o.trans (ah.of_below i)).trans a2));clear I R U a2 z A c0 c1 c2 c3 fr lt k1 k3 k4 k5 fk J e0 e1 M fe le;go_wp2_with fail
   go_end0
   exact⟨rfl,HX.o⟩
  ·have η:(a==wl)=false:=by simpa using hw
   obtain rfl:0=X:=by rw[<-HV.o,Vf hw]
   clear HV;have c5:S.cell? ⟨j.heap.size,1,none⟩=some (.int .i64 a):=K.cell 1;have f5:=K.frozen;have l5:=K.lt;have m5:ah (cj j.heap.size) S (S.setCell ⟨j.heap.size,1,none⟩ (.int .i64 0)):=ah.set ⟨j.heap.size,1,none⟩ (show cj j.heap.size j.heap.size from rfl) _;have B5:=K.set_ 1 (.int .i64 0);have N5:=m5.blk N4 λe=>by
    have e:L.heap.size=j.heap.size:=e;have:=T.o.size;have:=k.o.1.lt;omega
   have h5:=O.mod m5 λq c e=>by
    have e:q=j.heap.size:=e;have:=V.o.1.inh q c;omega
   have P:=U9 (Z.o.trans' m5 λq c e=>by
    have e:q=j.heap.size:=e;have:=V.o.2.size;omega)
   have H:=U9 (Vb h5 (Vb B5 N5));clear O K N4 D m5 B5 N5 h5;go_upto_region 17 with fail;generalize World.setCell S _ _=W5 at H P⊢;have A:=U9 (λ(Y:Yu) (g:Ys W5 Y)=>Vb (show Y.cell? ⟨B.b,2,none⟩=some (.map (some B.tm))from(H.o.1.call g).blk.cell 2) (Vb (H.o.1.call g).blk.frozen (Vb (H.o.1.call g).blk.lt (Vb (dG (H.o.2.2.call g) underlying112 rfl (fY (.int .i64 who) (.int .u64 r))) (show(dR 114 (Yr j.heap.size)).run prog Y=.ok (.value (.agg #[.int .u64 n,.int .i64 0])) Y from dG (cs:=#[.int .u64 n,.int .i64 0]) (H.o.2.1.call g) underlying114 rfl (iQ (.int .u64 n) (.int .i64 0)))))));refine aP 6 (by kernel_rfl) (by simp) (by decide+kernel) (by decide+kernel) (by decide+kernel) (by decide+kernel) ?_;simp only[U4,U5,U6,U7]
   iterate 6
    first
    |refine dq A.o rfl ?_
    |refine aw (λ_=>rfl) ?_
    simp only[UW,UX,UY,UZ]
   refine aH ?_;intro _ W6 i _;obtain⟨W7,d,I,R⟩:=(H.o.1.call i).t.put mj (a:=(who,r)) hk (n,0);have bQ:(Instr.mapUpdate 92 (.map (some B.tm)) (.agg #[.int .i64 who,.int .u64 r]) (.agg #[.int .u64 n,.int .i64 0])).run prog W6=.ok () W7:=d;clear d;obtain⟨U,a2⟩:=(H.o.1.call i).putT I R;have HX:=U9 (Vb U ((P.o.trans (ah.of_below i)).trans a2));clear I R U a2 z A c0 c1 c2 c3 fr lt k1 k3 k4 k5 fk J e0 e1 M fe le;go_wp2_with fail
   go_end0
   exact⟨rfl,HX.o⟩
theorem EY{B:jI}{m:cA}(h:el w B m){m':cA}(T:(if(lk m.ta (who,r)).isSome=true\/True then m else{m with ta:=putL m.ta (who,r) (n,if a=bL a then a else 0)})=m')(hk:fa who r):
  Yt 19 #[Yr B.b,.int .i64 who,.agg (cQ ⟨3,n,t,a,r,f⟩),.agg (dC E 8)] w (jC w B m'):=by
 obtain⟨l,s,I,K⟩:=qy w 42 (cQ ⟨3,n,t,a,r,f⟩) 55 (dC E 8);have D:=h.call K;have k0:l.cell? ⟨w.heap.size,0,none⟩=some (.int .u8 3):=I.drop.head.cell 0;have j:=U9 (λ(Y:Yu) (u:Ys l Y)=>FE.of (w:=w) (D.call u) (I.call u));obtain⟨c0,c1,c2,c3,fr,lt,U,k3,k4,k5,V,G,X,e1,C,fe,le⟩:=j.o l (Vd _ _);have R:=U9 s;have M:=U9 (Vb D K);have k:=U9 T;clear h I K D s T;go_enter func19,ntmps19;go_upto_region 1 with fail;generalize O:(w.alloc _).alloc _=X0;obtain rfl:l=X0:=R.o.trans O;clear R O;obtain⟨P,Q,J,q⟩:=fM (a:=.int .i64 0) (b:=.int .u64 0) (fY (.int .i64 who) (.int .u64 r)) rfl rfl l;have g:=U9 (λ(Y:Yu) (L:ah cM P Y)=>Vb (j.o Y (q.trans (L.no.mono q.size))) (Vb (show(Instr.lookup 92 (.map (some B.tm)) (.agg #[.int .i64 who,.int .u64 r]) true).run prog Y=.ok (.tuple #[.agg #[.int .u64 ((lk m.ta (who,r)).getD (0,0)).1,.int .i64 ((lk m.ta (who,r)).getD (0,0)).2],.bool (lk m.ta (who,r)).isSome]) Y from((M.o.1.call q).call L.no).t.look2 mj (a:=(who,r)) hk) (dG (J.call L.no) underlying112 rfl (fY (.int .i64 who) (.int .u64 r)))));have i:=U9 (Vb J q);generalize (lk m.ta (who,r)).getD (0,0)=p at g;generalize (lk m.ta (who,r)).isSome=b at g k;clear J q;go_upto_region 12 with fail;refine ay [114] cM 12 (λ_ h=>h.elim) (by kernel_rfl) (by kernel_rfl) ?_
 iterate 9
  first
  |refine bT rfl ?_;apply aA
   ·intro _ ρ H A z W u;have c:=g.o W u;simp[execOp,go_sem,H,A,z,c,c.1.c0,c.1.c1,c.1.c2,c.1.c3,c.1.fr,c.1.lt,c.1.k1,c.1.k3,c.1.k4,c.1.k5,c.1.fk,c.1.lk,c.1.e0,c.1.e1,c.1.e14,c.1.fe,c.1.le,c.2.1,c.2.2]<;>exact rfl
  |refine al (λ_=>rfl) ?_
  simp only[UW,UX,UY,UZ]
 refine eW (λ_=>rfl) 114 #[.int .u64 0,.int .i64 0] (λ_ _=>by simp[execOp,go_sem]<;>exact rfl) ?_;simp only[UW,UX,UY,UZ];refine cZ (λ_=>rfl) 9 114 114 2 _ _ rfl (by decide) rfl (by simp) (λ_ h=>h.elim) _ (λ_=>#[.int .u64 p.1,.int .i64 p.2]) _ (λ_=>rfl) (λ_=>rfl) (λ_=>by repeat (first|exact Vs ⟨rfl,rfl,rfl⟩|apply Vr)) (iQ (.int .u64 0) (.int .i64 0)) (λ_=>rfl) (λ_=>by simp[Value.oneCell']) ?_;simp only[UW,UX,UY,UZ]
 iterate 1
  first
  |refine eV g.o rfl ?_
  |refine al (λ_=>rfl) ?_
  |refine bH rfl ?_
  simp only[UW,UX,UY,UZ]
 refine aK (by kernel_rfl) ?_;rintro⟨_,v⟩ S N-;have d:Ys P S:=N
 try dsimp only
 have α:=U9 d;obtain⟨c0,c1,c2,c3,fr,lt,U,k3,k4,k5,V,G,X,e1,C,fe,le⟩:=j.o S (i.o.2.trans (d.mono i.o.2.size));have Z:=U9 (Vb ((M.o.1.call i.o.2).call d) ((ah.of_below M.o.2:ah B.F w l).trans ((ah.of_below i.o.2).trans (ah.of_below d))));clear N d g;obtain rfl:m=m':=by rw[<-k.o,Vh (by simp)]
 clear k;cases b<;>
 ·go_wp2_with fail
  go_end0
  exact⟨rfl,Z.o⟩
theorem EV{B:jI}{m:cA}(h:el w B m){a:cJ}(q:(¬e=0/\¬e=8)\/(¬a.k=1/\¬a.k=2/\¬a.k=3/\¬a.k=4)):
  Yt 19 #[Yr B.b,.int .i64 who,.agg (cQ a),.agg (dC E e)] w (jC w B m):=by
 obtain⟨d,i,c,p⟩:=qy w 42 (cQ a) 55 (dC E e);have K:d.cell? ⟨w.heap.size,0,none⟩=some (.int .u8 a.k):=c.drop.head.cell 0;have v:d.cell? ⟨w.heap.size+1,14,none⟩=some (.int .i64 e):=c.head.cell 14;have G:=c.drop.head.frozen;have z:=c.drop.head.lt;have L:=c.head.frozen;have le:=c.head.lt;have l:=U9 i;have s:=U9 (show jC w B m (.returned (.tuple #[])) d from⟨rfl,h.call p,ah.of_below p⟩);clear h c p i;by_cases j:¬e=0/\¬e=8
 ·have z0:(e !=0)=true:=by simpa using j.1
  have N:(e !=8)=true:=by simpa using j.2
  clear q;go_enter func19,ntmps19;go_upto_region 1 with fail;generalize g:(w.alloc _).alloc _=X0;obtain rfl:d=X0:=l.o.trans g;clear l g;go_wp2_with fail
  go_end0
  exact s.o
 ·obtain⟨u,D,A,C⟩:=q.resolve_left j
  have J:(a.k==1)=false:=by simpa using u
  have H:(a.k==2)=false:=by simpa using D
  have M:(a.k==3)=false:=by simpa using A
  have I:(a.k==4)=false:=by simpa using C
  have F:e=0\/e=8:=by omega
  clear q j;rcases F with rfl|rfl<;>
  ·go_enter func19,ntmps19
   go_upto_region 1 with fail;generalize g:(w.alloc _).alloc _=X0;obtain rfl:d=X0:=l.o.trans g;clear l g;go_wp2_with fail
   go_end0
   exact s.o
theorem FZ{m:cA}(h:m.ok){a:cJ}(c:a.ok):(d9 m who a E e).ok:=by
 unfold d9;split
 ·exact h
 ·split
  ·split
   ·refine⟨λx b=>?_,h.tn⟩
    rcases ew.1 b with rfl|⟨b,-⟩
    ·exact c.n
    ·exact h.np x b
   ·exact h
  ·split
   ·exact⟨h.np,h.tn⟩
   ·split
    ·split
     ·exact h
     ·refine⟨h.np,λx b=>?_⟩
      rcases ew.1 b with rfl|⟨b,-⟩
      ·exact c.n
      ·exact h.tn x b
    ·split
     ·exact⟨h.np,h.tn⟩
     ·exact h
theorem Qf{B:jI}{m:cA}(h:el w B m)(j:od who){a:cJ}(c:a.ok)(v:aT E.s):
  Yt 19 #[Yr B.b,.int .i64 who,.agg (cQ a),.agg (dC E e)] w (jC w B (d9 m who a E e)):=by
 by_cases i:¬e=0/\¬e=8
 ·rw[show d9 m who a E e=m from Vh i]
  exact EV h (.inl i)
 ·have d:e=0\/e=8:=by omega
  obtain⟨k,n,t,x,r,f⟩:=a;by_cases q:k=1
  ·subst q
   have g:d9 m who ⟨1,n,t,x,r,f⟩ E e=if gH E.o E.s≠0/\(lk m.nd (gH E.o E.s)).isSome=false then{m with nd:=putL m.nd (gH E.o E.s) (n,bL x)}else m:=by
    unfold d9;rw[Vf i,Vh rfl]
   rw[g];rcases d with rfl|rfl
   ·exact E8 h rfl v (mB _ _)
   ·exact E7 h rfl v (mB _ _)
  ·by_cases l:k=2
   ·subst l
    have g:d9 m who ⟨2,n,t,x,r,f⟩ E e={m with ra:=putL m.ra n (IntKind.i64.wrap ((lk m.ra n).getD 0+bL x))}:=by
     unfold d9;rw[Vf i,Vf (show ¬(2:Int)=1 by decide),Vh rfl]
    rw[g];rcases d with rfl|rfl
    ·exact E5 h c.n
    ·exact E0 h c.n
   ·by_cases u:k=3
    ·subst u
     have g:d9 m who ⟨3,n,t,x,r,f⟩ E e=if(lk m.ta (who,r)).isSome=true\/e≠0 then m else{m with ta:=putL m.ta (who,r) (n,if x=bL x then x else 0)}:=by
      unfold d9;rw[Vf i,Vf (show ¬(3:Int)=1 by decide),Vf (show ¬(3:Int)=2 by decide),Vh rfl]
     rw[g];rcases d with rfl|rfl
     ·exact EZ h (by simp) ⟨j,c.r.1,c.r.2⟩
     ·exact EY h (by simp) ⟨j,c.r.1,c.r.2⟩
    ·by_cases p:k=4
     ·subst p
      have g:d9 m who ⟨4,n,t,x,r,f⟩ E e={m with ba:=putL m.ba (who,f) true}:=by
       unfold d9;rw[Vf i,Vf (show ¬(4:Int)=1 by decide),Vf (show ¬(4:Int)=2 by decide),Vf (show ¬(4:Int)=3 by decide),Vh rfl]
      rw[g];rcases d with rfl|rfl
      ·exact EX h ⟨j,c.f.1,c.f.2⟩
      ·exact EW h ⟨j,c.f.1,c.f.2⟩
     ·rw[show d9 m who ⟨k,n,t,x,r,f⟩ E e=m by unfold d9;rw[Vf i,Vf q,Vf l,Vf u,Vf p]]
      exact EV h (.inr ⟨q,l,u,p⟩)
end
