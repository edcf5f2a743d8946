import Derived.Test.YtghdobdjfnimmaaGreatDoorZ13
import Derived.Test.YtghdobdjfnimmaaGreatDoorZ14
import Derived.Test.YtghdobdjfnimmaaGreatDoorZ15
set_option maxRecDepth 100000
set_option maxHeartbeats 0
set_option linter.all false
namespace Go.Proofs.YtghdobdjfnimmaaGreatDoor
open Go.Proofs.Tryz
variable{W w0:Yu}{e:Ev}{g c0 c1 c2 b0 c3:Nat}{x o s:Int}{m':az}{r:Ending}{p:Int×az}{R:List (Int×(Nat->Int))}
section
open Go.RowKit Go
open Go.Maps (Keyed)
def gz(inn:Nat->Bool)(kn:av)(t pm rm:Nat)(ow:av)(gm qm:Nat):Array Yv:=
 #[.bool (inn 0),.bool (inn 1),.bool (inn 2),.bool (inn 3),.bool (inn 4),.bool (inn 5),.bool (inn 6),.bool (inn 7),.bool (inn 8),.bool (inn 9),.bool (inn 10),.bool (inn 11),
  .int .u64 kn.v0,.int .u64 kn.v1,.int .u64 kn.v2,.int .u64 kn.v3,.int .u64 kn.v4,.int .u64 kn.v5,Yr t,.map (some pm),.map (some rm),
  .int .i64 ow.v0,.int .i64 ow.v1,.int .i64 ow.v2,.int .i64 ow.v3,.int .i64 ow.v4,.int .i64 ow.v5,.map (some gm),.map (some qm)]
section
variable(inn:Nat->Bool)(kn:av)(t pm rm:Nat)(ow:av)(gm qm:Nat)
theorem sY(k:Nat)(h:k<6):(gz inn kn t pm rm ow gm qm)[k]? =some (.bool (inn k)):=av.six (P:=λk=>(gz inn kn t pm rm ow gm qm)[k]? =some (.bool (inn k))) rfl rfl rfl rfl rfl rfl k h
theorem uP(k:Nat)(h:k<6):(gz inn kn t pm rm ow gm qm)[6+k]? =some (.bool (inn (6+k))):=av.six (P:=λk=>(gz inn kn t pm rm ow gm qm)[6+k]? =some (.bool (inn (6+k)))) rfl rfl rfl rfl rfl rfl k h
theorem K3(k:Nat)(h:k<6):(gz inn kn t pm rm ow gm qm)[12+k]? =some (.int .u64 (kn.get k)):=av.six (P:=λk=>(gz inn kn t pm rm ow gm qm)[12+k]? =some (.int .u64 (kn.get k))) rfl rfl rfl rfl rfl rfl k h
theorem Dh(k:Nat)(h:k<6):(gz inn kn t pm rm ow gm qm)[21+k]? =some (.int .i64 (ow.get k)):=av.six (P:=λk=>(gz inn kn t pm rm ow gm qm)[21+k]? =some (.int .i64 (ow.get k))) rfl rfl rfl rfl rfl rfl k h
@[go_sem] theorem RP:(gz inn kn t pm rm ow gm qm)[12]? =some (.int .u64 kn.v0):=rfl
@[go_sem] theorem RO:(gz inn kn t pm rm ow gm qm)[13]? =some (.int .u64 kn.v1):=rfl
@[go_sem] theorem RN:(gz inn kn t pm rm ow gm qm)[14]? =some (.int .u64 kn.v2):=rfl
@[go_sem] theorem RM:(gz inn kn t pm rm ow gm qm)[15]? =some (.int .u64 kn.v3):=rfl
@[go_sem] theorem RL:(gz inn kn t pm rm ow gm qm)[16]? =some (.int .u64 kn.v4):=rfl
@[go_sem] theorem RK:(gz inn kn t pm rm ow gm qm)[17]? =some (.int .u64 kn.v5):=rfl
@[go_sem] theorem TP:(gz inn kn t pm rm ow gm qm)[18]? =some (Yr t):=rfl
@[go_sem] theorem TS:(gz inn kn t pm rm ow gm qm)[19]? =some (.map (some pm)):=rfl
@[go_sem] theorem TQ:(gz inn kn t pm rm ow gm qm)[20]? =some (.map (some rm)):=rfl
@[go_sem] theorem TU:(gz inn kn t pm rm ow gm qm)[27]? =some (.map (some gm)):=rfl
@[go_sem] theorem TR:(gz inn kn t pm rm ow gm qm)[28]? =some (.map (some qm)):=rfl
theorem pM(k:Nat)(h:k<6)(b:Bool):(gz inn kn t pm rm ow gm qm).setIfInBounds k (.bool b)=gz (mK inn k b) kn t pm rm ow gm qm:=av.six (P:=λk=>(gz inn kn t pm rm ow gm qm).setIfInBounds k (.bool b)=gz (mK inn k b) kn t pm rm ow gm qm) rfl rfl rfl rfl rfl rfl k h
theorem sX(k:Nat)(h:k<6)(b:Bool):(gz inn kn t pm rm ow gm qm).setIfInBounds (6+k) (.bool b)=gz (mK inn (6+k) b) kn t pm rm ow gm qm:=av.six (P:=λk=>(gz inn kn t pm rm ow gm qm).setIfInBounds (6+k) (.bool b)=gz (mK inn (6+k) b) kn t pm rm ow gm qm) rfl rfl rfl rfl rfl rfl k h
theorem xm(k:Nat)(h:k<6)(x:Int):(gz inn kn t pm rm ow gm qm).setIfInBounds (12+k) (.int .u64 x)=gz inn (kn.set k x) t pm rm ow gm qm:=av.six (P:=λk=>(gz inn kn t pm rm ow gm qm).setIfInBounds (12+k) (.int .u64 x)=gz inn (kn.set k x) t pm rm ow gm qm) rfl rfl rfl rfl rfl rfl k h
theorem xl(k:Nat)(h:k<6)(x:Int):(gz inn kn t pm rm ow gm qm).setIfInBounds (21+k) (.int .i64 x)=gz inn kn t pm rm (ow.set k x) gm qm:=av.six (P:=λk=>(gz inn kn t pm rm ow gm qm).setIfInBounds (21+k) (.int .i64 x)=gz inn kn t pm rm (ow.set k x) gm qm) rfl rfl rfl rfl rfl rfl k h
end
def Ac:MT Int (Nat->Int):=rL 80 166 (λf=>.agg (aG f)) z0
theorem jT:Ac.Ok:=jS underlying166 (λw=>by kernel_rfl)
theorem Kg:(175:Yw)<prog.types.size:=Wo (by kernel_rfl)
theorem FI:(match prog.underlying 175 with|some (.array _ _)|some (.struct _)=>true|_=>false)=true:=by kernel_rfl
theorem Kb:Keyed prog 175:=Keyed.of_law (deep_law_laid gP (m:=2) (by omega) Kg (by kernel_rfl) FI)
theorem vQ:prog.cellsOf 175=2:=by kernel_rfl
theorem xq:prog.keyType 175=true:=by kernel_rfl
theorem Dr(h:fa o s):∃l,keyOf prog 175 (.agg (fy o s))=some l:=by
 obtain⟨b,c⟩:=Bp h;obtain⟨m,a⟩:=k9;refine⟨.string (keyBytes [.int .i64 o,.int .u64 s]),?_⟩;unfold keyOf;simp only[underlying175];rw[Vh (by simp[xq,Value.formed,underlying175,vQ,fy]),a];unfold Program.keyLits;simp only[underlying175,Value.cells,fy];rw[Vh (by rw[vQ];exact⟨rfl,by simp⟩)];simp[List.mapM_cons,List.mapM_nil,nC,nB,Program.keyLits,underlying3,underlying32,b,c]
def KS{β:Type}(E T:Yw)(a:β->Yv)(z:β):MT (Int×Int) β:=⟨175,E,T,λx=>.agg (fy x.1 x.2),a,z,λx=>fa x.1 x.2⟩
theorem yH{β:Type}{E T:Yw}{c:β->Yv}{z:β}(j:prog.underlying T=some (.map 175 E))(k:∀w,(zeroValue E).run prog w=.ok (c z) w):(KS E T c z).Ok:=
 ⟨Kb,j,λa d=>Dr d,λa b h=>by obtain⟨i,f⟩:=mh h;exact Prod.ext i f,k⟩
def Gq:MT (Int×Int) gF:=KS 85 168 (λg=>.agg (eu g)) ⟨0,0,0,0,0⟩
theorem sT:Gq.Ok:=yH underlying168 (λw=>by kernel_rfl)
def KU:MT (Int×Int) Bool:=KS 4 169 (λb=>.bool b) false
theorem wY:KU.Ok:=yH underlying169 (λw=>by kernel_rfl)
@[go_sem] theorem RB(x:Int):Ac.kc x=.int .u64 x:=rfl
@[go_sem] theorem RA(f:Nat->Int):Ac.vc f=.agg (aG f):=rfl
@[go_sem] theorem RH(x:Int×Int):Gq.kc x=.agg (fy x.1 x.2):=rfl
@[go_sem] theorem RG(g:gF):Gq.vc g=.agg (eu g):=rfl
@[go_sem] theorem RD(x:Int×Int):KU.kc x=.agg (fy x.1 x.2):=rfl
@[go_sem] theorem RC(b:Bool):KU.vc b=.bool b:=rfl
structure LB where
 b:Nat
 t:Nat
 tm:Nat
 pm:Nat
 rm:Nat
 gm:Nat
 qm:Nat
def LB.mem(L:LB):Nat->Prop:=λk=>k=L.b\/k=L.t\/k=L.tm\/k=L.pm\/k=L.rm\/k=L.gm\/k=L.qm
structure LB.ok(L:LB):Prop where
 a1:L.tm≠L.pm
 a2:L.tm≠L.rm
 a3:L.tm≠L.gm
 a4:L.tm≠L.qm
 a5:L.pm≠L.rm
 a6:L.pm≠L.gm
 a7:L.pm≠L.qm
 a8:L.rm≠L.gm
 a9:L.rm≠L.qm
 a10:L.gm≠L.qm
structure dD(w:Yu)(L:LB)(m:az):Prop where
 blk:ai w L.b 171 (gz m.inn m.kn L.t L.pm L.rm m.ow L.gm L.qm)
 tre:cV w L.t L.tm m.tr
 pa:aZ Be w L.pm m.pa
 ri:aZ Ac w L.rm m.ri
 gr:aZ Gq w L.gm m.gr
 qs:aZ KU w L.qm m.qs
 nd:L.ok
section
variable{w w':Yu}{L:LB}{m:az}{F:Nat->Prop}
theorem dD.call(h:dD w L m)(a:Ys w w'):dD w' L m:=⟨h.blk.call a,h.tre.call a,h.pa.call a,h.ri.call a,h.gr.call a,h.qs.call a,h.nd⟩
theorem dD.drew(h:dD w L m):dD w.drew L m:=h.call (Vd _ _).drew
theorem dD.mod(h:dD w L m)(a:ah F w w')(b:∀k,L.mem k->¬F k):dD w' L m:=
 ⟨a.blk h.blk (b _ (.inl rfl)),h.tre.mod a (b _ (.inr (.inl rfl))) (b _ (.inr (.inr (.inl rfl)))),a.gmap h.pa (b _ (.inr (.inr (.inr (.inl rfl))))),a.gmap h.ri (b _ (.inr (.inr (.inr (.inr (.inl rfl)))))),
  a.gmap h.gr (b _ (.inr (.inr (.inr (.inr (.inr (.inl rfl))))))),a.gmap h.qs (b _ (.inr (.inr (.inr (.inr (.inr (.inr rfl))))))),h.nd⟩
theorem dD.lt(h:dD w L m):∀k,L.mem k->k<w.heap.size:=by
 rintro k (rfl|rfl|rfl|rfl|rfl|rfl|rfl)
 ·exact h.blk.lt
 ·exact h.tre.blk.lt
 ·exact h.tre.map.lt
 ·exact h.pa.lt
 ·exact h.ri.lt
 ·exact h.gr.lt
 ·exact h.qs.lt
theorem dD.fr(h:dD w L m)(f:Fr w w' g none)(a:¬L.mem g):dD w' L m:=
 h.mod (ah.of_fr1 (F:=cj g) f rfl) λk b e=>a (by have e:k=g:=e;exact e▸b)
theorem dD.fr_b(h:dD w L m)(f:Fr w w' L.b none){inn:Nat->Bool}{kn ow:av}(d:ai w' L.b 171 (gz inn kn L.t L.pm L.rm ow L.gm L.qm)):dD w' L {m with inn:=inn,kn:=kn,ow:=ow}:=by
 have c:L.t≠L.b:=λe=>by
  have a:=h.tre.blk;rw[e]at a;exact absurd (a.type_eq h.blk).1 (by decide)
 exact⟨d,h.tre.fr f c (h.tre.map.ne_blk h.blk),h.pa.fr f (h.pa.ne_blk h.blk) (by simp),h.ri.fr f (h.ri.ne_blk h.blk) (by simp),h.gr.fr f (h.gr.ne_blk h.blk) (by simp),h.qs.fr f (h.qs.ne_blk h.blk) (by simp),h.nd⟩
theorem dD.fr_tm(h:dD w L m)(f:Fr w w' L.tm none){T:List (Int×Int)}(a:cV w' L.t L.tm T):dD w' L {m with tr:=T}:=
 ⟨f.blk h.blk (h.tre.map.ne_blk h.blk).symm (by simp),a,h.pa.fr f h.nd.a1.symm (by simp),h.ri.fr f h.nd.a2.symm (by simp),h.gr.fr f h.nd.a3.symm (by simp),h.qs.fr f h.nd.a4.symm (by simp),h.nd⟩
theorem dD.fr_pm(h:dD w L m)(f:Fr w w' L.pm none){X:List (Int×Int)}(a:aZ Be w' L.pm X):dD w' L {m with pa:=X}:=
 ⟨f.blk h.blk (h.pa.ne_blk h.blk).symm (by simp),h.tre.fr f (h.pa.ne_blk h.tre.blk).symm h.nd.a1,a,h.ri.fr f h.nd.a5.symm (by simp),h.gr.fr f h.nd.a6.symm (by simp),h.qs.fr f h.nd.a7.symm (by simp),h.nd⟩
theorem dD.fr_rm(h:dD w L m)(f:Fr w w' L.rm none){X:List (Int×(Nat->Int))}(a:aZ Ac w' L.rm X):dD w' L {m with ri:=X}:=
 ⟨f.blk h.blk (h.ri.ne_blk h.blk).symm (by simp),h.tre.fr f (h.ri.ne_blk h.tre.blk).symm h.nd.a2,h.pa.fr f h.nd.a5 (by simp),a,h.gr.fr f h.nd.a8.symm (by simp),h.qs.fr f h.nd.a9.symm (by simp),h.nd⟩
theorem dD.fr_gm(h:dD w L m)(f:Fr w w' L.gm none){X:List ((Int×Int)×gF)}(a:aZ Gq w' L.gm X):dD w' L {m with gr:=X}:=
 ⟨f.blk h.blk (h.gr.ne_blk h.blk).symm (by simp),h.tre.fr f (h.gr.ne_blk h.tre.blk).symm h.nd.a3,h.pa.fr f h.nd.a6 (by simp),h.ri.fr f h.nd.a8 (by simp),a,h.qs.fr f h.nd.a10.symm (by simp),h.nd⟩
theorem dD.fr_qm(h:dD w L m)(f:Fr w w' L.qm none){X:List ((Int×Int)×Bool)}(a:aZ KU w' L.qm X):dD w' L {m with qs:=X}:=
 ⟨f.blk h.blk (h.qs.ne_blk h.blk).symm (by simp),h.tre.fr f (h.qs.ne_blk h.tre.blk).symm h.nd.a4,h.pa.fr f h.nd.a7 (by simp),h.ri.fr f h.nd.a9 (by simp),h.gr.fr f h.nd.a10 (by simp),a,h.nd⟩
end
def fO(L:LB)(b0:Nat)(w0:Yu):Nat->Prop:=λk=>L.mem k\/(b0<=k/\k<w0.heap.size)
def yf(b0:Nat)(w0:Yu)(L:LB)(m':az)(v:Yv):Prop:=∃(f:FuncId) (a:Array Yv),v=.func (.func f) #[] a/\(∀args w,(callFunc f args).run prog w=.ok (.enter f args) w)/\
 ∀W,Ys w0 W->Calls prog f a W λr b=>(∃u,r=.returned u)/\dD b L m'/\ah (fO L b0 w0) W b
theorem pF{L:LB}{f:FuncId}{a:Array Yv}(h:Calls prog f a W λr b=>(∃u,r=.returned u)/\dD b L m'/\ah L.mem W b):
  Calls prog f a W λr b=>(∃u,r=.returned u)/\dD b L m'/\ah (fO L b0 w0) W b:=h.mono λ_ _ ⟨d,c,i⟩=>⟨d,c,i.mono λ_=>.inl⟩
def aJ(w:Yu)(L:LB)(p:Int×az)(r:Ending)(w':Yu):Prop:=∃v,r=.returned (.tuple #[v,.int .i64 p.1])/\Ys w w'/\(p.1≠0->v=.nilFunc)/\(p.1=0->yf w.heap.size w' L p.2 v)
end
section
open Go.RowKit Go
section
variable{w w':Yu}{L:LB}{m:az}
theorem O6(h:dD W L m)(i:ai W c0 136 #[Yr L.b])(j:ai W c1 53 (ao e))(B:1<=e.t/\e.t<=6):
  Yt 322 #[Yr c0,Yr c1] W λr A=>(∃u,r=.returned u)/\dD A L (pR m e).2/\ah L.mem W A:=by
 obtain⟨k,n,a⟩:∃k:Nat,k<6/\e.t=(k:Int)+1:=⟨(e.t-1).toNat,by omega,by omega⟩;obtain⟨H,-⟩:=i.rules;obtain⟨M,-⟩:=j.rules;obtain⟨q,f⟩:=h.blk.rules;have l:=h.blk.lt;have P:=i.lt;have X:=j.lt;have d:e.to_=k:=by unfold Ev.to_;omega
 have K:(0:Int)<=(k:Int):=by omega
 have S:(k:Int)<6:=by omega
 have N:=sY m.inn m.kn L.t L.pm L.rm m.ow L.gm L.qm k n;have c:=h.blk.set_ k (.bool true);rw[pM _ _ _ _ _ _ _ _ k n]at c;have hF:Fr W (W.setCell ⟨L.b,k,none⟩ (.bool true)) L.b none:=Fr.of_set _ rfl _;have E:=U9 (show dD (W.setCell ⟨L.b,k,none⟩ (.bool true)) L (pR m e).2 from by
  show dD _ L {m with inn:=mK m.inn e.to_ true};rw[d];exact h.fr_b hF c)
 have C:=U9 hF;have D:=U9 a;have v:IntKind.i64.wrap (e.t-1)=(k:Int):=by rw[a];rw[show((k:Int)+1-1)=(k:Int)from by omega];exact VE _ (by omega)
 obtain⟨Q,T,V,J,U,O,Y,I,G⟩:=e;simp only at a v;subst a;clear c hF h i j d D v B;go_enter func322,ntmps322
 go_region
 go_end0
 refine⟨⟨_,rfl⟩,E.o.drew,?_⟩;exact(ah.of_fr1 C.o (.inl rfl)).trans ah.drew
theorem K7(h:dD W L m)(i:ai W c0 136 #[Yr L.b])(j:ai W c1 53 (ao e))(B:1<=e.o/\e.o<=6):
  Yt 323 #[Yr c0,Yr c1] W λr A=>(∃u,r=.returned u)/\dD A L (mv m e).2/\ah L.mem W A:=by
 obtain⟨k,n,a⟩:∃k:Nat,k<6/\e.o=(k:Int)+1:=⟨(e.o-1).toNat,by omega,by omega⟩;obtain⟨H,-⟩:=i.rules;obtain⟨M,-⟩:=j.rules;obtain⟨q,f⟩:=h.blk.rules;have l:=h.blk.lt;have P:=i.lt;have X:=j.lt;have d:e.w=k:=by unfold Ev.w;omega
 have K:(0:Int)<=(k:Int):=by omega
 have S:(k:Int)<6:=by omega
 have N:=uP m.inn m.kn L.t L.pm L.rm m.ow L.gm L.qm k n;have c:=h.blk.set_ (6+k) (.bool true);rw[sX _ _ _ _ _ _ _ _ k n]at c;have hF:Fr W (W.setCell ⟨L.b,6+k,none⟩ (.bool true)) L.b none:=Fr.of_set _ rfl _;have E:=U9 (show dD (W.setCell ⟨L.b,6+k,none⟩ (.bool true)) L (mv m e).2 from by
  show dD _ L {m with inn:=mK m.inn (6+e.w) true};rw[d];exact h.fr_b hF c)
 have C:=U9 hF;have D:=U9 a;have v:IntKind.i64.wrap (e.o-1)=(k:Int):=by rw[a];rw[show((k:Int)+1-1)=(k:Int)from by omega];exact VE _ (by omega)
 obtain⟨Q,T,V,J,U,O,Y,I,G⟩:=e;simp only at a v;subst a;clear c hF h i j d D v B;go_enter func323,ntmps323
 go_region
 go_end0
 refine⟨⟨_,rfl⟩,E.o.drew,?_⟩;exact(ah.of_fr1 C.o (.inl rfl)).trans ah.drew
theorem UG{f:Nat->Int}(h:dD W L m)(v:ai W c0 80 (aG f))(d:ai W c1 136 #[Yr L.b])(c:ai W c2 53 (ao e))(B:aT e.n):
  Yt 312 #[Yr c0,Yr c1,Yr c2] W λr A=>(∃u,r=.returned u)/\dD A L {m with ri:=putL m.ri e.n f}/\ah L.mem W A:=by
 obtain⟨J,-⟩:=d.rules;obtain⟨K,-⟩:=c.rules;obtain⟨q,E⟩:=h.blk.rules;have l:=h.blk.lt;have H:=d.lt;have I:=c.lt;have G:=fG (w:=W.drew) (ai.drew v).rng;obtain⟨D,bQ,C,j⟩:=(h.ri.same (w':=W.drew) rfl).put jT (a:=e.n) B f;have i:(Instr.mapUpdate 166 (.map (some L.rm)) (.int .u64 e.n) (.agg (aG f))).run prog W.drew=.ok () D:=bQ;have k:=U9 (Vb ((h.drew).fr_rm j C) j);clear bQ C j h v d c B;go_enter func312,ntmps312
 go_region
 go_end0
 refine⟨⟨_,rfl⟩,k.o.1,?_⟩;exact(ah.drew (F:=L.mem)).trans (ah.of_fr1 k.o.2 (.inr (.inr (.inr (.inr (.inl rfl))))))
theorem UH{f:Nat->Int}(h:dD W L m)(v:ai W c0 80 (aG f))(d:ai W c1 136 #[Yr L.b])(c:ai W c2 53 (ao e))(B:aT e.n):
  Yt 321 #[Yr c0,Yr c1,Yr c2] W λr A=>(∃u,r=.returned u)/\dD A L {m with ri:=putL m.ri e.n f}/\ah L.mem W A:=by
 obtain⟨J,-⟩:=d.rules;obtain⟨K,-⟩:=c.rules;obtain⟨q,E⟩:=h.blk.rules;have l:=h.blk.lt;have H:=d.lt;have I:=c.lt;have G:=fG (w:=W.drew) (ai.drew v).rng;obtain⟨D,bQ,C,j⟩:=(h.ri.same (w':=W.drew) rfl).put jT (a:=e.n) B f;have i:(Instr.mapUpdate 166 (.map (some L.rm)) (.int .u64 e.n) (.agg (aG f))).run prog W.drew=.ok () D:=bQ;have k:=U9 (Vb ((h.drew).fr_rm j C) j);clear bQ C j h v d c B;go_enter func321,ntmps321
 go_region
 go_end0
 refine⟨⟨_,rfl⟩,k.o.1,?_⟩;exact(ah.drew (F:=L.mem)).trans (ah.of_fr1 k.o.2 (.inr (.inr (.inr (.inr (.inl rfl))))))
end
section
variable{w w':Yu}{L:LB}{m:az}
theorem aJ.no(a:p.1=x)(b:x≠0)(d:r=.returned (.tuple #[.nilFunc,.int .i64 x]))(c:Ys w w'):aJ w L p r w':=
 ⟨_,by rw[d,a],c,λ_=>rfl,λh=>absurd (a.symm.trans h) b⟩
theorem LJ(h:dD w L m)(e:Ev)(d:1<=e.t/\e.t<=6):
  Yt 307 #[Yr L.b,.agg (ao e)] w (aJ w L (pR m e)):=by
 have H:=U9 h;have c:aD ((w.alloc (.cells #[Yr L.b] 136)).alloc (.cells (ao e) 53)) [(w.heap.size+1,53,ao e),(w.heap.size,136,#[Yr L.b])]:=((aD.nil.push (g:=w.heap.size) rfl).push (g:=w.heap.size+1) (by simp));have i:Ys w ((w.alloc (.cells #[Yr L.b] 136)).alloc (.cells (ao e) 53)):=(((Vd w.heap.size w).alloc (by simp<;>omega) _).alloc (by simp<;>omega) _);have a:=U9 (Vb c i);have k:=U9 d;clear h c i d;go_enter func307,ntmps307;go_wp2_with fail;go_ret2;refine⟨_,rfl,a.o.2,λj=>absurd rfl j,λ_=>⟨_,_,rfl,λ_ _=>by kernel_rfl,λW f=>?_⟩⟩;have B:=a.o.1.call f;exact pF (O6 ((H.o.call a.o.2).call f) B.drop.head B.head k.o)
theorem GL(h:dD w L m)(e:Ev)(d:1<=e.o/\e.o<=6):
  Yt 308 #[Yr L.b,.agg (ao e)] w (aJ w L (mv m e)):=by
 have H:=U9 h;have c:aD ((w.alloc (.cells #[Yr L.b] 136)).alloc (.cells (ao e) 53)) [(w.heap.size+1,53,ao e),(w.heap.size,136,#[Yr L.b])]:=((aD.nil.push (g:=w.heap.size) rfl).push (g:=w.heap.size+1) (by simp));have i:Ys w ((w.alloc (.cells #[Yr L.b] 136)).alloc (.cells (ao e) 53)):=(((Vd w.heap.size w).alloc (by simp<;>omega) _).alloc (by simp<;>omega) _);have a:=U9 (Vb c i);have k:=U9 d;clear h c i d;go_enter func308,ntmps308;go_wp2_with fail;go_ret2;refine⟨_,rfl,a.o.2,λj=>absurd rfl j,λ_=>⟨_,_,rfl,λ_ _=>by kernel_rfl,λW f=>?_⟩⟩;have B:=a.o.1.call f;exact pF (K7 ((H.o.call a.o.2).call f) B.drop.head B.head k.o)
theorem ng(h:aZ Ac w g R)(a:aT x):(Instr.lookup 166 (.map (some g)) (.int .u64 x) true).run prog w=.ok (.tuple #[.agg (aG ((lk R x).getD z0)),.bool (lk R x).isSome]) w:=h.look2 jT a
theorem Df(h:aZ Ac w g R)(a:aT x):(Instr.lookup 166 (.map (some g)) (.int .u64 x) false).run prog w=.ok (.agg (aG ((lk R x).getD z0))) w:=h.look jT a
theorem Below.rowN{b:Nat}{w:Yu}(h:Below b w0 w)(c:b<=g)(cs:Array Yv):Below b w0 (w.setRow g cs):=
 ⟨h.os,h.tape,h.output,by have:=h.size;simpa[World.setRow]using this,λk a=>(Wv w _ k _ (by omega)).trans (h.block k a)⟩
theorem aD.row{t:Yw}{cs:Array Yv}{bs:List (Nat×Yw×Array Yv)}(h:aD w ((g,t,cs)::bs))(c:mS g bs)(a:Array Yv):aD (w.setRow g a) ((g,t,a)::bs):=
 aD.cons (WB w g _ a t _ h.head) λf t' d b=>(Wv w _ f _ (c.o _ _ _ b)).trans (h.drop _ _ _ b)
theorem Iq{a:Nat->Int}(c:ai w g 80 (aG a))(f:Nat->Int):(storeCells ⟨g,0,none⟩ (aG f).toList).run prog w=.ok () (w.setRow g (aG f)):=by
 have:=Yj (P:=prog) g 0 80 (aG f).toList 0 (aG a) w c (by simp[dZ]) (λv b=>(VL.1 (pq f)) v (by simpa using b));rw[this];have e:(List.take (0+0) (aG a).toList++(aG f).toList++List.drop (0+0+(aG f).toList.length) (aG a).toList).toArray=aG f:=by
  rw[XD (by simp[dZ])];simp
 rw[e]
theorem GK(h:dD w L m)(hm:m.ok)(e:Ev)(I:Bb e)(M:aT e.n):
  Yt 303 #[Yr L.b,.agg (ao e)] w (aJ w L (iu m e)):=by
 obtain⟨k,hk,O⟩:∃k:Nat,k<6/\e.o=(k:Int)+1:=⟨(e.o-1).toNat,by have:=I.o1;have:=I.o2;omega,by have:=I.o1;omega⟩;have hw:e.w=k:=by unfold Ev.w;omega
 have E:aD ((w.alloc (.cells #[Yr L.b] 136)).alloc (.cells (ao e) 53)) [(w.heap.size+1,53,ao e),(w.heap.size,136,#[Yr L.b])]:=((aD.nil.push (g:=w.heap.size) rfl).push (g:=w.heap.size+1) (by simp));have V:Ys w ((w.alloc (.cells #[Yr L.b] 136)).alloc (.cells (ao e) 53)):=(((Vd w.heap.size w).alloc (by simp<;>omega) _).alloc (by simp<;>omega) _);obtain⟨d,D⟩:∃d,d=(w.alloc (.cells #[Yr L.b] 136)).alloc (.cells (ao e) 53):=⟨_,rfl⟩;have δ:d.heap.size=w.heap.size+2:=by rw[D];simp
 rw[<-D]at E V;have j:=h.call V;have J:=U9 (Vb E (Vb V j));have HH:=U9 (Vb h (Vb I hm));have HF:=U9 (λ(W:Yu) (i:Ys d W)=>Vb (E.call i).rules (Vb (E.call i).lts (Vb (j.call i).blk.rules (Vb (j.call i).blk.lt (ng (j.call i).ri M)))));have HW:=U9 D;have T:=U9 hw;have Y:=I.a1;have ε:=I.a2;clear D V h I hm hw;obtain⟨eo,es,ed,ek,c,et,v,er,ef⟩:=e;simp only at O Y ε;subst O;go_enter func303,ntmps303;go_wp2_with fail;rw[show((w.alloc (.cells #[Yr L.b] 136)).alloc _)=d from HW.o.symm];have N:=U9 (E.push (t:=80) (cs:=aG z0) (g:=w.heap.size+2) δ);rename_i K hK
 have HK:K {tmps:=#[Yr L.b,.agg (ao ⟨(k:Int)+1,es,ed,ek,c,et,v,er,ef⟩),Yr w.heap.size,Yr (w.heap.size+1),.nilFunc,.int .i64 0,Yr (w.heap.size+2),.bool (lk m.ri c).isSome,
   .tuple #[.agg (aG ((lk m.ri c).getD z0)),.bool (lk m.ri c).isSome],Yr L.b,Yr L.b,.pointer (some ⟨L.b,20,none⟩),.map (some L.rm),.pointer (some ⟨w.heap.size+1,9,none⟩),.int .u64 c,.tuple #[.agg (aG ((lk m.ri c).getD z0)),.bool (lk m.ri c).isSome],
   .agg (aG ((lk m.ri c).getD z0)),.bool (lk m.ri c).isSome,undef,undef,undef,undef,undef,undef,undef,undef,undef,undef,undef,undef,undef,undef,undef,undef,undef,undef,undef,undef,undef],defers:=[]} ((d.alloc (.cells (aG z0) 80)).drew.setRow (w.heap.size+2) (aG ((lk m.ri c).getD z0))):=by
  apply hK;dsimp only;have Q:=N.o.drew.row (by refine⟨?_,?_,trivial⟩<;>omega) (aG ((lk m.ri c).getD z0));have U:Ys d ((d.alloc (.cells (aG z0) 80)).drew.setRow (w.heap.size+2) (aG ((lk m.ri c).getD z0))):=Below.rowN ((Below.refl _ _).alloc (by omega) _).drew (by omega) _;generalize ((d.alloc (.cells (aG z0) 80)).drew.setRow (w.heap.size+2) (aG ((lk m.ri c).getD z0)))=W1 at Q U⊢;have a:=U9 (And.intro Q (And.intro U (j.call U)));have H:=HH.o.2.2.r c k (by omega);obtain⟨q2,g2,q1,-,q0,-,-⟩:=Q.rules;obtain⟨l2,l1,l0,-⟩:=Q.lts;clear hK HF j E Q U N HW;unfold az.r at H;generalize hr:lk m.ri c=R at H a q2⊢;have A:=U9 hr;clear hr;cases R with
  |none=>
   go_wp2_with fail;go_ret2;refine aJ.no ?_ (by decide) rfl (J.o.2.1.trans (a.o.2.1.mono J.o.2.1.size));unfold iu;rw[Vh (by rw[A.o];rfl)]
  |some f=>
   simp only[Xr]at H a q2⊢;have hc:=bZ f k (by omega);have k0:(0:Int)<=(k:Int):=by omega
   have k6:(k:Int)<6:=by omega
   have e1:IntKind.i64.wrap (k:Int)=(k:Int):=VE _ (by omega);have e2:IntKind.i64.wrap (f k+v)=f k+v:=VE _ (by omega);have S:=U9 (λ(W:Yu) (i:Ys W1 W)=>Vb (a.o.1.call i).rules (a.o.1.call i).lts);go_wp2_with fail;refine aP 11 (by kernel_rfl) (by simp) (by kernel_rfl) (by kernel_rfl) (by kernel_rfl) (by kernel_rfl) ?_;simp only[U4,U5,U6,U7]
   iterate 11
    first
    |refine dx rfl ?_;apply aA
     ·intro _ ρ γ α Z W i;have hq:=S.o W i;simp[execOp,go_sem,γ,α,Z,hq,e1,e2,hc,k0,k6]<;>exact rfl
    |refine aw (λ_=>rfl) ?_
    simp only[UW,UX,UY,UZ]
   refine aH ?_;intro _ W2 G _;have X:=a.o.1.call G;have D2:=a.o.2.1.trans (G.mono a.o.2.1.size);have B3:=X.set_ (by refine⟨?_,?_,trivial⟩<;>omega) k (.int .i64 (f k+v));rw[sJ f k (by omega)]at B3;have D3:Ys d (W2.setCell ⟨w.heap.size+2,k,none⟩ (.int .i64 (f k+v))):=D2.setCell (p:=⟨w.heap.size+2,k,none⟩) (by simp;omega) _;have C:=U9 (Vb B3 (Vb (J.o.2.1.trans (D3.mono J.o.2.1.size)) ((J.o.2.2).call D3)));have b3:(W2.setCell ⟨w.heap.size+2,k,none⟩ (.int .i64 (f k+v))).heap.size=W2.heap.size:=by simp
   obtain⟨q2,g2,q1,-,q0,-,-⟩:=X.rules;obtain⟨l2,l1,l0,-⟩:=X.lts;clear X D2 B3 D3 G S a;by_cases hx:140737488355328<f k+v
   ·have β:decide (140737488355328<f k+v)=true:=Vg hx
    go_wp2_with fail;go_ret2;refine aJ.no ?_ (by decide) rfl C.o.2.1;unfold iu;rw[Vf (by rw[A.o];simp),T.o];unfold az.r;rw[A.o];exact Vt Prod.fst (Vh hx)
   ·have β:decide (140737488355328<f k+v)=false:=Vj hx
    go_wp2_with fail;go_ret2;have P:iu m ⟨(k:Int)+1,es,ed,ek,c,et,v,er,ef⟩=(0,{m with ri:=putL m.ri c (jD f k (f k+v))}):=by
     unfold iu;rw[Vf (by rw[A.o];simp),T.o];unfold az.r;rw[A.o];exact Vf (show ¬_ from by show ¬(140737488355328<f k+v);omega)
    rw[P];refine⟨_,rfl,C.o.2.1,λM=>absurd rfl M,λ_=>⟨_,_,rfl,λ_ _=>by kernel_rfl,λW i=>?_⟩⟩;have B:=C.o.1.call i;exact pF (UG (C.o.2.2.call i) B.head B.drop.drop.head B.drop.head M)
 clear hK;have ST:=Iq N.o.drew.head;have SZ:=dZ;have θ:=ng (j.ri.same (w':=d.drew) rfl) M;have η:=ng (j.ri.same (w':=(d.alloc (.cells (aG z0) 80)).drew) (((Vd d.heap.size d).alloc (by omega) (.cells (aG z0) 80)).drew.block _ j.ri.lt)) M;obtain⟨q1,-,q0,-,-⟩:=E.rules;obtain⟨l1,l0,-⟩:=E.lts;obtain⟨q,fz⟩:=j.blk.rules;have l:=j.blk.lt;obtain⟨p2,f2,p1,-,p0,-,-⟩:=N.o.rules;obtain⟨p,-⟩:=(j.call ((Vd d.heap.size d).alloc (by omega) (.cells (aG z0) 80))).blk.rules;have ζ:=U9 HK;clear E j J HH HF HW N HK
 go_region
 all_goals
  simp only[Act.put,XT,XF,XG,Xe,XA,Yf];exact ζ.o
end
section
variable{w w':Yu}{L:LB}{m:az}
theorem dD.ri_perm{R':List (Int×(Nat->Int))}(h:dD w L {m with ri:=R})(p:R.Perm R'):dD w L {m with ri:=R'}:=
 ⟨h.blk,h.tre,h.pa,h.ri.perm p,h.gr,h.qs,h.nd⟩
structure Tv(W:Yu)(L:LB)(m:az)(fb r c1:Nat)(es left kept:List (Int×(Nat->Int)))(W':Yu):Prop where
 rg:cq Ac W' fb r left kept
 pm:es.Perm (kept.reverse++left)
 lad:dD W' L {m with ri:=putsL m.ri kept.reverse}
 md:ah L.mem W W'
 sz:W.heap.size+1<=W'.heap.size
 b1:ai W' c1 136 #[Yr L.b]
theorem Nb{O:Nat}{B:List (Int×(Nat->Int))}(h:dD W L m)(V:ai W c0 166 #[.map (some O)])(h1:ai W c1 136 #[Yr L.b])
  (hf:aZ Ac W O B) (nf:¬L.mem O) (n1:¬L.mem c1):
  Yt 326 #[Yr c0,Yr c1] W λr W'=>(∃u,r=.returned u)/\dD W' L {m with ri:=putsL m.ri B}/\ah L.mem W W':=by
 obtain⟨q0,-⟩:=V.rules;have l0:=V.lt;have HM:=U9 hf;have H:=U9 (Vb h (Vb h1 (Vb nf n1)));clear h h1 hf nf n1 V;go_enter func326,ntmps326;go_wp2_with (first|(at_range;refine dL jT rfl _ rfl rfl HM.o ?_;intro w0 C n Z))
 go_frame
 have A0:Tv W L m O W.heap.size c1 B B [] w0:=⟨C,by simp,H.o.1.call n,ah.of_below n,by omega,H.o.2.1.call n⟩;clear C n Z q0
 go_loopg [2] B.length (λg v wr=>∃left d,left.length=g/\Tv W L m O W.heap.size c1 B left d wr)
 case atStart=>exact⟨B,[],rfl,A0⟩
 case round=>
  obtain⟨left,d,X,A⟩:=hrel;clear A0;go_wp2_with (first|(at_next;refine d8 rfl _ rfl rfl A.rg ?_ ?_))
  ·intro U
   obtain rfl:=U;go_wp2_with fail
   go_end0
   refine⟨⟨_,rfl⟩,A.lad.ri_perm ?_,A.md⟩;have N:=A.pm;rw[Xa]at N;have T:=A.rg.map.ndk;rw[V8]at T;exact wK H.o.1.ri.ndk (T.perm (List.reverse_perm d).symm) N.symm
  ·intro K j c l N f i α
   have G:c.length+1=left.length:=by have:=N.length_eq;simpa using this.symm
   have Q:aT K:=f.ok (K,j) (by simp);have nr:¬L.mem W.heap.size:=λh=>Yp _ (H.o.1.lt _ h)
   have L2:=A.lad.fr i nr;have γ:=H.o.2.1.lt;have b2:=i.blk A.b1 (by omega) (by simp);have M2:ah L.mem W l:=A.md.trans' (ah.of_fr1 (F:=cj W.heap.size) i rfl) (λk hk e=>by have e:k=W.heap.size:=e;omega);have z2:=Vi A.sz i.size;have B3:aD (l.alloc (.cells (aG z0) 80)) [(l.heap.size,80,aG z0)]:=aD.nil.push rfl;have Y:=kO B3.head j;have B4:=B3.row trivial (aG j);have J:Ys l ((l.alloc (.cells (aG z0) 80)).setRow l.heap.size (aG j)):=Below.rowN ((Vd _ _).alloc (Vc _) _) (Vc _) _;obtain⟨D,E⟩:∃D,D=(l.alloc (.cells (aG z0) 80)).setRow l.heap.size (aG j):=⟨_,rfl⟩;rw[<-E]at B4 J;have HW:=U9 E;have P:=L2.call J;have I:=f.call J;have S:=b2.call J;have M4:=M2.call J;have z4:=Vi z2 J.size;obtain⟨w5,bQ,M5,M⟩:=(P.ri.same (w':=D.drew) rfl).put jT (a:=K) Q j;have β:(Instr.mapUpdate 166 (.map (some L.rm)) (.int .u64 K) (.agg (aG j))).run prog D.drew=.ok () w5:=bQ;have hA:Tv W L m O W.heap.size c1 B c ((K,j)::d) w5:=by
    have hb:∀{k:Nat},k<D.heap.size->k≠L.rm->w5.heap[k]? =D.heap[k]?:=λ{k} hk T=>M.block k hk T (by simp)
    have q:L.mem L.rm:=.inr (.inr (.inr (.inr (.inl rfl))));refine⟨I.same (hb I.map.lt λe=>H.o.2.2.1 (e▸q)) (hb (by omega) λe=>nr (e▸q)),?_,?_,(M4.trans ah.drew).trans (ah.of_fr1 M q),Vi z4 M.size,M.blk (ai.drew S) (λe=>H.o.2.2.2 (e▸q)) (by simp)⟩
    ·refine A.pm.trans ?_
     rw[List.reverse_cons,Wn];exact List.Perm.append_left _ N
    ·rw[List.reverse_cons,pz]
     exact(P.drew).fr_rm M M5
   have HA:=U9 hA;obtain⟨q1,-⟩:=S.rules;obtain⟨p4,-⟩:=P.blk.rules;have lb:=P.blk.lt;have lc:=S.lt;have hl:=fG B4.drew.head.rng;have HG:=U9 (Vb X G);clear A N f i nr L2 b2 M2 B3 B4 J E P I S M4 bQ M5 M hA X G Q;go_wp2_with fail;rw[show((l.alloc (.cells (aG z0) 80)).setRow l.heap.size (aG j))=D from HW.o.symm];clear HW α Y
   go_region
   all_goals
    go_wp2_with fail;have X:=HG.o.1;have G:=HG.o.2
    go_roundg c.length
    case measure=>omega
    case rel=>exact⟨c,(K,j)::d,rfl,HA.o⟩
end
def xV(w0:Yu)(fn:FuncId)(a:Array Yv)(b:(Nat->Int)->Int×(Nat->Int)):Prop:=
 (∀args w,(callFunc fn args).run prog w=.ok (.enter fn args) w)/\∀f W,da f->Ys w0 W->Calls prog fn (#[.agg (aG f)]++a) W (lP (b f) W)
def kd(m:az)(a:(Nat->Int)->Int×(Nat->Int))(l:List Int):Int×az:=if eA m a l≠0 then(eA m a l,m)else(0,{m with ri:=fN m a l})
section
variable{w w':Yu}{L:LB}{m:az}
structure Tx(w:Yu)(L:LB)(m:az)(tf:(Nat->Int)->Int×(Nat->Int))(l:List Int)(v:Yv)(k:Nat)(W:Yu):Prop where
 bks:aD W [(w.heap.size+1+1,166,#[.map (some (w.heap.size+1))]),(w.heap.size,136,#[Yr L.b])]
 map:aZ Ac W (w.heap.size+1) (putsL [] ((l.take k).map λid=>(id,(tf (m.r id)).2)))
 row:ij W (w.heap.size+3) v l
 below:Ys w W
 ok:∀id∈l.take k,(tf (m.r id)).1=0
theorem DK(h:dD w L m)(J:m.ok)(hx:aT x){fn:FuncId}{G:Array Yv}{q:(Nat->Int)->Int×(Nat->Int)}(T:xV w fn G q):
  Yt 313 #[Yr L.b,.int .u64 x,.func (.func fn) #[] G] w (aJ w L (kd m q (aC m.tr x))):=by
 have H:=U9 (Vb h (Vb J T));have CP:=U9 (λ(W:Yu) (P:Ys w W)=>yn (h.call P).tre J.tr hx);have B0:aD (((w.alloc (.cells #[Yr L.b] 136)).alloc (.map #[] 0)).alloc (.cells #[.map (some (w.heap.size+1))] 166)) [(w.heap.size+1+1,166,#[.map (some (w.heap.size+1))]),(w.heap.size,136,#[Yr L.b])]:=
  ((aD.nil.push (g:=w.heap.size) rfl).alloc (.map #[] 0)).push (g:=w.heap.size+1+1) (by simp)
 have D0:Ys w (((w.alloc (.cells #[Yr L.b] 136)).alloc (.map #[] 0)).alloc (.cells #[.map (some (w.heap.size+1))] 166)):=
  ((((Vd w.heap.size w).alloc (by simp<;>omega) _).alloc (by simp<;>omega) _).alloc (by simp<;>omega) _)
 have G0:aZ Ac (((w.alloc (.cells #[Yr L.b] 136)).alloc (.map #[] 0)).alloc (.cells #[.map (some (w.heap.size+1))] 166)) (w.heap.size+1) []:=
  (aZ.made_at Ac (w:=w.alloc (.cells #[Yr L.b] 136)) (b:=w.heap.size+1) (by simp)).call ((Vd _ _).alloc (Vc _) _)
 have μ:= @XE prog;obtain⟨W0,n⟩:∃W0,W0=(((w.alloc (.cells #[Yr L.b] 136)).alloc (.map #[] 0)).alloc (.cells #[.map (some (w.heap.size+1))] 166)):=⟨_,rfl⟩;rw[<-n]at B0 D0 G0;obtain⟨p,-⟩:=(h.call D0).blk.rules;obtain⟨N,-,p0,-,-⟩:=B0.rules;have HW:=U9 (Vb B0 (Vb D0 G0));rw[n]at p N p0;have D:=U9 n;clear h J T B0 D0 G0 n;go_enter func313,ntmps313;go_wp2_with fail;rw[show(((w.alloc (.cells #[Yr L.b] 136)).alloc (.map #[] 0)).alloc (.cells #[.map (some (w.heap.size+1))] 166))=W0 from D.o.symm];refine(CP.o W0 HW.o.2.1).mono ?_;rintro r w1 ⟨v,rfl,d,C⟩;have Z:W0.heap.size=w.heap.size+3:=by rw[D.o];simp
 clear μ p N p0 D CP;obtain⟨A1,c1,rfl,π,υ⟩:=d.sl;have A0:Tx w L m q (aC m.tr x) (.slice A1 (aC m.tr x).length c1) 0 w1:=
  ⟨HW.o.1.call C,by simpa[putsL]using HW.o.2.2.call C,Z▸d,HW.o.2.1.trans (C.mono (by omega)),by simp⟩
 have U:(aC m.tr x).length<=32:=Vi (dV _ _) H.o.2.1.tr.le;have E:∀y∈aC m.tr x,aT y:=λy K=>by
  obtain⟨v,hv⟩:=V6.1 (iU K);exact(H.o.2.1.tr.rg _ (bK hv)).1
 have HK:=U9 E;generalize hl:aC m.tr x=l at A0 π U HK⊢;have V:=U9 hl;clear d C hl HW E Z;go_wp2_with fail
 go_loopg [21] l.length (λg v wr=>∃k:Nat,k<=l.length/\l.length-k=g/\v=.int .i64 k/\Tx w L m q l (.slice A1 l.length c1) k wr)
 case atStart=>exact⟨0,by omega,by omega,rfl,A0⟩
 case round=>
  obtain⟨k,hk,hg,rfl,A⟩:=hrel;clear A0;by_cases Y:k<l.length
  ·obtain⟨y,K⟩:∃y,l[k]? =some y:=⟨l[k],Ve Y⟩
   obtain⟨g,cap,hs,S,κ,ω,σ⟩:=A.row.sl_pos (by omega);have d:=A.row;rw[hs]at d;have β:=d.rng cY K;obtain⟨rfl,ν⟩:A1=some ⟨g,0,none⟩/\c1=cap:=by injection hs with a b c;exact⟨a,c⟩
   have ξ:wr.cell? ⟨g,k,none⟩=some (.int .u64 y):=by have this:=β 0 (.int .u64 y) rfl;rw[V3]at this;exact this
   have HL:=H.o.1.call A.below;have ε:=Df HL.ri (HK.o y (Vn K));obtain⟨N,-,p0,-,-⟩:=A.bks.rules;obtain⟨l2,l0,-⟩:=A.bks.lts;obtain⟨p,-⟩:=HL.blk.rules;have lb:=HL.blk.lt;have η:=H.o.2.2.1;have CT:=U9 (H.o.2.2.2 (m.r y) wr (H.o.2.1.r y) A.below);have f:=U9 A;have HX:=U9 (Vb K (Vb hg Y));have hd:decide ((k:Int)<l.length)=true:=Vg (by omega);have ζ:=U9 (show(Value.slice (some ⟨g,0,none⟩) l.length c1).ownBlock≠some (w.heap.size+1)from λe=>by
    have e:g=w.heap.size+1:=by simpa[Value.ownBlock]using e
    omega)
   clear A HL d β hs S κ ν hg K;go_wp2_with fail;refine CT.o.mono ?_;rintro r i ⟨rfl,j⟩;generalize Q:q (m.r y)=rs;obtain⟨er,I⟩:=rs;have HT:=U9 Q;have B3:aD (i.alloc (.cells (aG z0) 80)) ((i.heap.size,80,aG z0)::_):=(f.o.bks.call j).push rfl;have φ:=j.size;have nn:mS i.heap.size [(w.heap.size+1+1,166,#[.map (some (w.heap.size+1))]),(w.heap.size,136,#[Yr L.b])]:=by refine⟨?_,?_,trivial⟩<;>omega
   have τ:=kO B3.head I;have B4:=B3.row nn (aG I);have D4:Ys i ((i.alloc (.cells (aG z0) 80)).setRow i.heap.size (aG I)):=Below.rowN ((Vd _ _).alloc (Vc _) _) (Vc _) _;have O:Ys wr ((i.alloc (.cells (aG z0) 80)).setRow i.heap.size (aG I)):=j.trans (D4.mono j.size);have M4:=f.o.map.call O;have R4:ij _ _ _ _:=Row.call f.o.row O;have E4:=f.o.below.trans (O.mono f.o.below.size);clear Q CT N p0 l2 l0 p ε ξ;by_cases hz:er=0
   ·subst hz
    obtain⟨w5,bQ,M5,F5⟩:=M4.put jT (a:=y) (HK.o y (Vn HX.o.1)) I;have θ:(Instr.mapUpdate 166 (.map (some (w.heap.size+1))) (.int .u64 y) (.agg (aG I))).run prog ((i.alloc (.cells (aG z0) 80)).setRow i.heap.size (aG I))=.ok () w5:=bQ;have hA:Tx w L m q l (.slice (some ⟨g,0,none⟩) l.length c1) (k+1) w5:=by
     have γ:l.take (k+1)=l.take k++[y]:=by rw[VN,HX.o.1];rfl
     refine⟨B4.drop.mod (ah.of_fr1 (F:=cj (w.heap.size+1)) F5 rfl) ⟨?_,?_,trivial⟩,?_,F5.own R4 ζ.o (by cases(Value.slice (some ⟨g,0,none⟩) l.length c1).ownBlock<;>simp),F5.below E4 (by omega) (λ_ h=>by cases h),?_⟩
     ·intro e
      have e:w.heap.size+1+1=w.heap.size+1:=e;omega
     ·intro e
      have e:w.heap.size=w.heap.size+1:=e;omega
     ·rw[γ,WS,VG,WQ,pz]
      rw[HT.o];exact M5
     ·intro id hid
      rw[γ]at hid;rcases Vw.1 hid with hid|hid
      ·exact f.o.ok id hid
      ·obtain rfl:id=y:=by simpa using hid
       rw[HT.o]
    have δ:=U9 hA;have χ:=fG B4.head.rng;obtain⟨p3,-,N,-,p0,-,-⟩:=B4.rules;clear B3 B4 D4 O M4 R4 E4 bQ M5 F5 hA f;go_wp2_with fail;have hg:=HX.o.2.1
    go_roundg (l.length-(k+1))
    case measure=>omega
    case rel=>exact⟨k+1,by omega,rfl,by simp,δ.o⟩
   ·have ψ:(er !=0)=true:=by simpa using hz
    have D:=U9 (Vb E4 hz);clear B3 B4 D4 O M4 R4 E4 hz;go_wp2_with fail;go_ret2;refine aJ.no (x:=er) ?_ D.o.2 rfl D.o.1;have e:=n9 (m:=m) (turn:=q) f.o.ok HX.o.1 (by rw[HT.o];exact D.o.2);rw[HT.o]at e;unfold kd;rw[V.o,e];exact Vt Prod.fst (Vh (show er≠0 from D.o.2))
  ·obtain rfl:k=l.length:=by omega
   have f:=U9 A;clear A;go_wp2_with fail;go_ret2;have X:=f.o.ok;rw[WN]at X;have α:kd m q (aC m.tr x)=(0,{m with ri:=fN m q l}):=by
    unfold kd;rw[V.o,ob X]
    rfl
   rw[α];refine⟨_,rfl,f.o.below,λhn=>absurd rfl hn,λ_=>⟨_,_,rfl,λ_ _=>by kernel_rfl,λW P=>?_⟩⟩;have B:=f.o.bks.call P;have ι:=(H.o.1.call f.o.below).call P;have M:=f.o.map.call P;rw[WN]at M;refine(Nb ι B.head B.drop.head M (λJ=>?_) (λJ=>?_)).mono ?_
   ·have:=H.o.1.lt _ J;omega
   ·have:=H.o.1.lt _ J;omega
   ·rintro r W' ⟨h1,h2,h3⟩
    refine⟨h1,h2.ri_perm ?_,h3.mono λ_=>.inl⟩;rw[AW];exact um _ _ H.o.1.ri.ndk
end
@[go_sem] theorem Sp(x:gF):(eu x)[0]? =some (.int .i64 x.o):=rfl
@[go_sem] theorem So(x:gF):(eu x)[1]? =some (.int .u64 x.r):=rfl
@[go_sem] theorem Sn(x:gF):(eu x)[2]? =some (.int .u64 x.n):=rfl
@[go_sem] theorem Sm(x:gF):(eu x)[3]? =some (.int .i64 x.a):=rfl
@[go_sem] theorem Sl(x:gF):(eu x)[4]? =some (.int .u64 x.b):=rfl
@[go_sem] theorem Ry(o s:Int):(fy o s)[0]? =some (.int .i64 o):=rfl
@[go_sem] theorem Rx(o s:Int):(fy o s)[1]? =some (.int .u64 s):=rfl
theorem Bb.place(a:Bb e):∃k:Nat,k<6/\e.o=(k:Int)+1/\e.w=k:=
 ⟨(e.o-1).toNat,by have:=a.o1;have:=a.o2;omega,by have:=a.o1;omega,rfl⟩
section
variable{w w':Yu}{L:LB}{m:az}
theorem NP{c:Nat}(E:ai W c 53 (ao e))(C:Bb e)(f:Nat->Int)(J:da f):
  Yt 314 #[.agg (aG f),Yr c] W (lP (fX f e.w e.a) W):=by
 obtain⟨k,I,i,d⟩:=C.place;have D:=C.a1;have G:=C.a2;have A:=U9 (λW=>Ph f J k I e.a (by omega) W);rw[d];have V:=E.lt;have B:aD ((W.alloc (.cells (aG f) 80)).alloc (.cells (aG z0) 80)) [(W.heap.size+1,80,aG z0),(W.heap.size,80,aG f),(c,53,ao e)]:=((aD.nil.cons E).push (g:=W.heap.size) rfl).push (g:=W.heap.size+1) (by simp);have K:Ys W ((W.alloc (.cells (aG f) 80)).alloc (.cells (aG z0) 80)):=(((Vd W.heap.size W).alloc (by simp<;>omega) _).alloc (by simp<;>omega) _);obtain⟨P,-,N,-,q,-,-⟩:=B.rules;have S:=fG B.drop.head.rng;have h:=U9 (Vb B K);clear B K E C J I d;obtain⟨eo,es,ed,Z,en,et,U,Y,X⟩:=e;simp only at i D G A h q⊢;subst i;generalize l:fX f k U=rs at A⊢;obtain⟨n,j⟩:=rs;clear l;go_enter func314,ntmps314;go_wp2_with fail;refine(A.o _).mono ?_;rintro r T ⟨rfl,b⟩;have H:=h.o.1.call b;have O:=kO H.head j;have M:=U9 (WB T _ _ (aG j) _ _ H.head);have Q:=U9 (Below.rowN (g:=W.heap.size+1) (h.o.2.trans (b.mono h.o.2.size)) (by omega) (aG j));clear H b h A P N q S;go_wp2_with fail;exact VF (v:=.tuple #[.agg (aG j),.int .i64 n]) (iF (s1:=3) (s2:=4) (by kernel_rfl) _ (W.heap.size+1) j n _ rfl rfl M.o) rfl ⟨rfl,Q.o⟩
theorem Pu{c d:Nat}{g:gF}(G:ai W c 53 (ao e))(E:ai W d 85 (eu g))(N:Bb e)(D:0<=g.a)(H:g.a<=1125899906842624)(f:Nat->Int)(K:da f):
  Yt 317 #[.agg (aG f),Yr c,Yr d] W (lP (gh f e.w g.a) W):=by
 obtain⟨k,J,j,h⟩:=N.place;have B:=U9 (λW=>Pr f K k J g.a (by omega) W);rw[h];have lc:=G.lt;have ld:=E.lt;have C:aD ((W.alloc (.cells (aG f) 80)).alloc (.cells (aG z0) 80)) [(W.heap.size+1,80,aG z0),(W.heap.size,80,aG f),(c,53,ao e),(d,85,eu g)]:=(((aD.nil.cons E).cons G).push (g:=W.heap.size) rfl).push (g:=W.heap.size+1) (by simp);have M:Ys W ((W.alloc (.cells (aG f) 80)).alloc (.cells (aG z0) 80)):=(((Vd W.heap.size W).alloc (by simp<;>omega) _).alloc (by simp<;>omega) _);obtain⟨X,-,S,-,q,-,O,-,-⟩:=C.rules;have Z:=fG C.drop.head.rng;have i:=U9 (Vb C M);clear C M G E N K J h;obtain⟨eo,es,ed,ek,en,et,ea,er,ef⟩:=e;obtain⟨V,T,α,P,gb⟩:=g;simp only at j D H B i q O⊢;subst j;generalize n:gh f k P=rs at B⊢;obtain⟨A,l⟩:=rs;clear n;go_enter func317,ntmps317;go_wp2_with fail;refine(B.o _).mono ?_;rintro r W2 ⟨rfl,b⟩;have I:=i.o.1.call b;have U:=kO I.head l;have Q:=U9 (WB W2 _ _ (aG l) _ _ I.head);have Y:=U9 (Below.rowN (g:=W.heap.size+1) (i.o.2.trans (b.mono i.o.2.size)) (by omega) (aG l));clear I b i B X S q O Z;go_wp2_with fail;exact VF (v:=.tuple #[.agg (aG l),.int .i64 A]) (iF (s1:=4) (s2:=5) (by kernel_rfl) _ (W.heap.size+1) l A _ rfl rfl Q.o) rfl ⟨rfl,Y.o⟩
end
section
variable{w w':Yu}{L:LB}{m:az}
theorem O5{w:Yu}{o:Nat}{x:gF}(h:zg w g o (eu x)):(dR 85 (.pointer (some ⟨g,o,none⟩))).run prog w=.ok (.value (.agg (eu x))) w:=
 aY h underlying85 rfl (fQ x)
theorem NO{v:Yv}(hd:yf b0 w0 L m' v)(hW:Ys w0 W)(l:ai W c0 229 #[v])
  (J:ai W c1 136 #[Yr L.b]) (D:ai W c2 175 (fy e.o e.r)) (I:ai W c3 53 (ao e)) (hn:fa e.o e.r)
  (G:¬fO L b0 w0 c1) (E:¬fO L b0 w0 c2) (H:¬fO L b0 w0 c3):
  Yt 316 #[Yr c0,Yr c1,Yr c2,Yr c3] W λr W'=>(∃u,r=.returned u)/\
   dD W' L {m' with qs:=putL m'.qs (e.o,e.r) true,gr:=putL m'.gr (e.o,e.r) ⟨e.o,e.r,e.n,e.a,0⟩}/\ah (λk=>fO L b0 w0 k) W W':=by
 obtain⟨f,α,rfl,q,C⟩:=hd;have C1:=U9 (C W hW);obtain⟨q0,-⟩:=l.rules;have l0:=l.lt;have bk:aD W [(c1,136,#[Yr L.b]),(c2,175,(fy e.o e.r)),(c3,53,(ao e))]:=aD.cons J (aD.cons D (aD.cons I (aD.nil)));have ni:gJ (fO L b0 w0) [(c1,136,#[Yr L.b]),(c2,175,(fy e.o e.r)),(c3,53,(ao e))]:=⟨G,E,H,trivial⟩;have T:=U9 (Vb bk ni);have HN:=U9 hn
 skip
 clear C hW l J D I G E H hn bk ni;go_enter func316,ntmps316;go_wp2_with fail;refine C1.o.mono ?_;rintro r W2 ⟨⟨u,rfl⟩,N,V⟩;have Y:fO L b0 w0 L.qm:=.inl (.inr (.inr (.inr (.inr (.inr (.inr rfl))))));have P:fO L b0 w0 L.gm:=.inl (.inr (.inr (.inr (.inr (.inr (.inl rfl))))));have K:=T.o.1.mod V T.o.2;have M:=U9 (Vb N (Vb V K));have A:=U9 (λ(W:Yu) (c:Ys W2 W)=>Vb (K.call c).rules (Vb (K.call c).lts (Vb (N.call c).blk.rules.1 (N.call c).blk.lt)));clear N V K C1 q0 l0 q;go_wp2_with fail;refine aP 5 (by kernel_rfl) (by simp) (by kernel_rfl) (by kernel_rfl) (by kernel_rfl) (by kernel_rfl) ?_;simp only[U4,U5,U6,U7]
 iterate 5
  first
  |refine dq A.o rfl ?_
  |refine aw (λ_=>rfl) ?_
  simp only[UW,UX,UY,UZ]
 refine aH ?_;intro _ W3 h _;have S:=M.o.1.call h;have B3:=M.o.2.2.call h;obtain⟨U,bQ,M4,Q⟩:=S.qs.put wY (a:=(e.o,e.r)) HN.o true;have d:(Instr.mapUpdate 169 (.map (some L.qm)) (.agg #[.int .i64 e.o,.int .u64 e.r]) (.bool true)).run prog W3=.ok () U:=bQ;have Z:=S.fr_qm Q M4;have i:ah (fO L b0 w0) W2 U:=(ah.of_below h).trans (ah.of_fr1 Q Y);have B4:=M.o.2.2.mod i T.o.2;have B:=U9 (Vb Z (Vb (M.o.2.1.trans i) B4));clear S B3 M4 Q Z i B4 bQ h A;go_wp2_with fail;have A:=U9 (λ(W:Yu) (c:Ys U W)=>Vb (B.o.2.2.call c).rules (Vb (B.o.2.2.call c).lts (Vb (B.o.1.call c).blk.rules.1 (B.o.1.call c).blk.lt)));clear d;refine aP 14 (by kernel_rfl) (by simp) (by kernel_rfl) (by kernel_rfl) (by kernel_rfl) (by kernel_rfl) ?_;simp only[U4,U5,U6,U7]
 iterate 14
  first
  |refine dq A.o rfl ?_
  |refine aw (λ_=>rfl) ?_
  |refine iv (λ_=>rfl) ?_;apply aA
   ·intro _ W c;have hq:=A.o W c;simp[execOp,go_sem,hq]<;>exact rfl
  simp only[UW,UX,UY,UZ]
 refine aH ?_;intro _ W5 j _;have O:=B.o.1.call j;obtain⟨W6,bQ,M6,X⟩:=O.gr.put sT (a:=(e.o,e.r)) HN.o ⟨e.o,e.r,e.n,e.a,0⟩;have d:(Instr.mapUpdate 168 (.map (some L.gm)) (.agg #[.int .i64 e.o,.int .u64 e.r]) (.agg #[.int .i64 e.o,.int .u64 e.r,.int .u64 e.n,.int .i64 e.a,.int .u64 0])).run prog W5=.ok () W6:=bQ;have HL:=U9 (Vb (O.fr_gm X M6) (B.o.2.1.trans ((ah.of_below (F:=fO L b0 w0) j).trans (ah.of_fr1 X P))));clear O M6 X bQ j A;go_wp2_with fail
 go_end0
 exact⟨⟨_,rfl⟩,HL.o⟩
theorem Pt{c D:Nat}{g:gF}{v:Yv}(hd:yf b0 w0 L m' v)(hW:Ys w0 W)(A:ai W c0 229 #[v])
  (T:ai W c1 136 #[Yr L.b]) (N:ai W c2 175 (fy e.o e.r)) (O:ai W c3 53 (ao e)) (M:ai W c 85 (eu g)) (Q:ai W D 175 (fy e.o e.f)) (hn:fa e.o e.r) (S:fa e.o e.f)
  (I:¬fO L b0 w0 c1) (G:¬fO L b0 w0 c2) (J:¬fO L b0 w0 c3) (P:¬fO L b0 w0 c) (H:¬fO L b0 w0 D) (d2:c≠c1) (d3:c≠c2) (d4:c≠c3) (d5:c≠D):
  Yt 319 #[Yr c0,Yr c1,Yr c2,Yr c3,Yr c,Yr D] W λr W'=>(∃u,r=.returned u)/\
   dD W' L {m' with qs:=putL m'.qs (e.o,e.r) true,gr:=putL m'.gr (e.o,e.f) {g with b:=e.r}}/\ah (λk=>fO L b0 w0 k\/k=c) W W':=by
 obtain⟨f,δ,rfl,q,E⟩:=hd;have C1:=U9 (E W hW);obtain⟨q0,-⟩:=A.rules;have l0:=A.lt;have bk:aD W [(c1,136,#[Yr L.b]),(c2,175,(fy e.o e.r)),(c3,53,(ao e)),(c,85,(eu g)),(D,175,(fy e.o e.f))]:=aD.cons T (aD.cons N (aD.cons O (aD.cons M (aD.cons Q (aD.nil)))));have ni:gJ (fO L b0 w0) [(c1,136,#[Yr L.b]),(c2,175,(fy e.o e.r)),(c3,53,(ao e)),(c,85,(eu g)),(D,175,(fy e.o e.f))]:=⟨I,G,J,P,H,trivial⟩;have X:=U9 (Vb bk ni);have HN:=U9 hn;have β:=U9 S;clear E hW A T N O M Q I G J P H hn bk ni S;go_enter func319,ntmps319;go_wp2_with fail;refine C1.o.mono ?_;rintro r W2 ⟨⟨u,rfl⟩,Z,M2⟩;have α:fO L b0 w0 L.qm:=.inl (.inr (.inr (.inr (.inr (.inr (.inr rfl))))));have γ:fO L b0 w0 L.gm:=.inl (.inr (.inr (.inr (.inr (.inr (.inl rfl))))));have V:=X.o.1.mod M2 X.o.2;have U:=U9 (Vb Z (Vb M2 V));have K:=U9 (λ(W:Yu) (i:Ys W2 W)=>Vb (V.call i).rules (Vb (V.call i).lts (Vb (Z.call i).blk.rules.1 (Z.call i).blk.lt)));clear Z M2 V C1 q0 l0 q;go_wp2_with fail;refine aP 5 (by kernel_rfl) (by simp) (by kernel_rfl) (by kernel_rfl) (by kernel_rfl) (by kernel_rfl) ?_;simp only[U4,U5,U6,U7]
 iterate 5
  first
  |refine dq K.o rfl ?_
  |refine aw (λ_=>rfl) ?_
  simp only[UW,UX,UY,UZ]
 refine aH ?_;intro _ W3 j _;have L3:=U.o.1.call j;have B3:=U.o.2.2.call j;obtain⟨B,bQ,M4,F4⟩:=L3.qs.put wY (a:=(e.o,e.r)) HN.o true;have d:(Instr.mapUpdate 169 (.map (some L.qm)) (.agg #[.int .i64 e.o,.int .u64 e.r]) (.bool true)).run prog W3=.ok () B:=bQ;have L4:=L3.fr_qm F4 M4;have n:ah (fO L b0 w0) W2 B:=(ah.of_below j).trans (ah.of_fr1 F4 α);have B4:=U.o.2.2.mod n X.o.2;have H4:=U9 (Vb L4 (Vb (U.o.2.1.trans n) B4));clear L3 B3 M4 F4 L4 n B4 bQ j K;have Y:aD B [(c,85,eu g),(c1,136,#[Yr L.b]),(c2,175,fy e.o e.r),(c3,53,ao e),(D,175,fy e.o e.f)]:=
  H4.o.2.2.perm (by intro x hx;simp only[Vy,WX,WR]at hx;rcases hx with rfl|rfl|rfl|rfl|rfl<;>simp)
 obtain⟨q4,g4,q1,-,q2,-,q3,-,q5,-,-⟩:=Y.rules;obtain⟨l4,l1,l2,l3,l5,-⟩:=Y.lts;have B6:=Y.set_ ⟨d2.symm,d3.symm,d4.symm,d5.symm,trivial⟩ 4 (.int .u64 e.r);have n4:¬fO L b0 w0 c:=X.o.2.2.2.2.1;have F6:Fr B (B.setCell ⟨c,4,none⟩ (.int .u64 e.r)) c none:=Fr.of_set _ rfl _;have L6:=H4.o.1.fr F6 (λh=>n4 (.inl h));have N6:ah (λk=>fO L b0 w0 k\/k=c) W (B.setCell ⟨c,4,none⟩ (.int .u64 e.r)):=(H4.o.2.1.mono λ_=>Vs).trans (ah.of_fr1 F6 (.inr rfl));have l:=U9 (Vb L6 (Vb N6 B6));clear Y B6 F6 L6 N6 n4;go_wp2_with fail;generalize B.setCell ⟨c,4,none⟩ (.int .u64 e.r)=W5 at l⊢;clear q4 g4 q1 q2 q3 q5 l4 l1 l2 l3 l5 d;have K:=U9 (λ(W:Yu) (i:Ys W5 W)=>Vb (show(dR 85 (Yr c)).run prog W=.ok (.value (.agg (eu {g with b:=e.r}))) W from O5 (x:={g with b:=e.r}) (l.o.2.2.call i).head.rng) (Vb (l.o.2.2.call i).rules (Vb (l.o.2.2.call i).lts (Vb (l.o.1.call i).blk.rules.1 (l.o.1.call i).blk.lt))));refine aP 6 (by kernel_rfl) (by simp) (by kernel_rfl) (by kernel_rfl) (by kernel_rfl) (by kernel_rfl) ?_;simp only[U4,U5,U6,U7]
 iterate 6
  first
  |refine dq K.o rfl ?_
  |refine aw (λ_=>rfl) ?_
  simp only[UW,UX,UY,UZ]
 refine aH ?_;intro _ W6 C _;have L7:=l.o.1.call C;obtain⟨W7,bQ,M7,F7⟩:=L7.gr.put sT (a:=(e.o,e.f)) β.o {g with b:=e.r};have d:(Instr.mapUpdate 168 (.map (some L.gm)) (.agg #[.int .i64 e.o,.int .u64 e.f]) (.agg (eu {g with b:=e.r}))).run prog W6=.ok () W7:=bQ;have HL:=U9 (Vb (L7.fr_gm F7 M7) (l.o.2.1.trans ((ah.of_below (F:=λk=>fO L b0 w0 k\/k=c) C).trans (ah.of_fr1 F7 (.inl γ)))));clear L7 M7 F7 bQ C K;go_wp2_with fail
 go_end0
 exact⟨⟨_,rfl⟩,HL.o⟩
end
section
variable{w w':Yu}{L:LB}{m:az}
theorem Iy{R:List ((Int×Int)×Bool)}(h:aZ KU w g R)(b:fa o s):(Instr.lookup 169 (.map (some g)) (.agg #[.int .i64 o,.int .u64 s]) false).run prog w=.ok (.bool ((lk R (o,s)).getD false)) w:=h.look wY (a:=(o,s)) b
theorem qB(m:az)(a:(Nat->Int)->Int×(Nat->Int))(l:List Int):(kd m a l).1=eA m a l:=by
 unfold kd;split
 ·rfl
 ·rename_i h
  have:eA m a l=0:=Decidable.not_not.1 h;rw[this]
theorem qA{m:az}{a:(Nat->Int)->Int×(Nat->Int)}{l:List Int}(h:eA m a l=0):(kd m a l).2={m with ri:=fN m a l}:=by
 unfold kd;rw[Vf (by rw[h];simp)]
theorem Bb.nm(a:Bb e){r:Int}(b:aT r):fa e.o r:=by
 have:=a.o1;have:=a.o2;unfold aT at b;unfold fa;omega
theorem LA(h:dD w L m)(hm:m.ok)(e:Ev)(he:Bb e)(hn:aT e.n)(hr:aT e.r):
  Yt 304 #[Yr L.b,.agg (ao e)] w (aJ w L (hU m e)):=by
 have Q:aD (((w.alloc (.cells #[Yr L.b] 136)).alloc (.cells (ao e) 53)).alloc (.cells #[.int .i64 e.o,.int .u64 e.r] 175)) [(w.heap.size+2,175,fy e.o e.r),(w.heap.size+1,53,ao e),(w.heap.size,136,#[Yr L.b])]:=(((aD.nil.push (g:=w.heap.size) rfl).push (g:=w.heap.size+1) (by simp)).push (g:=w.heap.size+2) (by simp));have Z:Ys w (((w.alloc (.cells #[Yr L.b] 136)).alloc (.cells (ao e) 53)).alloc (.cells #[.int .i64 e.o,.int .u64 e.r] 175)):=((((Vd w.heap.size w).alloc (by simp<;>omega) _).alloc (by simp<;>omega) _).alloc (by simp<;>omega) _);obtain⟨N,E⟩:∃N,N=(((w.alloc (.cells #[Yr L.b] 136)).alloc (.cells (ao e) 53)).alloc (.cells #[.int .i64 e.o,.int .u64 e.r] 175)):=⟨_,rfl⟩;have ε:N.heap.size=w.heap.size+3:=by rw[E];simp
 rw[<-E]at Q Z;have V:=h.call Z;have X:=U9 (Vb Q (Vb Z V));have H:=U9 (Vb h (Vb hm (Vb he (Vb hn hr))));have HW:=U9 E;have K:=U9 (λ(W:Yu) (d:Ys N W)=>Vb (Q.call d).rules (Vb (Q.call d).lts (Vb (V.call d).blk.rules.1 (Vb (V.call d).blk.lt (Iy (V.call d).qs (he.nm hr))))));clear E Q Z V h hm he hn hr;go_enter func304,ntmps304;go_wp2_with fail;rw[show(((w.alloc (.cells #[Yr L.b] 136)).alloc (.cells (ao e) 53)).alloc (.cells #[.int .i64 e.o,.int .u64 e.r] 175))=N from HW.o.symm];clear HW;refine bS (by kernel_rfl) (by kernel_rfl) ?_
 iterate 6
  first
  |refine dq K.o rfl ?_
  |refine aw (λ_=>rfl) ?_
  simp only[UW,UX,UY,UZ]
 refine aH ?_;intro _ W1 C;have l:=U9 (Vb (X.o.1.call C) (Vb (X.o.2.1.trans (C.mono X.o.2.1.size)) (X.o.2.2.call C)));have O:=U9 (show m.q (e.o,e.r)=(lk m.qs (e.o,e.r)).getD false from rfl);have δ:=C.size;generalize (lk m.qs (e.o,e.r)).getD false=bq at O⊢;clear K C;cases bq with
 |true=>
  go_wp2_with fail;go_ret2;refine aJ.no ?_ (by decide) rfl l.o.2.1;unfold hU;rw[O.o]
  rfl
 |false=>
  obtain⟨bn,I⟩:∃b,(lk m.tr e.n).isSome=b:=⟨_,rfl⟩;have HN:=U9 I;have CH:=U9 (λ(W:Yu) (d:Ys W1 W)=>(BH (l.o.2.2.call d).tre H.o.2.2.2.1 bn I).mono (R':=λr w'=>r=.returned (.bool bn)/\Ys W w') (by rintro r w2 ⟨Y,rfl⟩;exact⟨Y,Vd _ _⟩));have K:=U9 (λ(W:Yu) (d:Ys W1 W)=>Vb (l.o.1.call d).rules (Vb (l.o.1.call d).lts (Vb (l.o.2.2.call d).blk.rules.1 (l.o.2.2.call d).blk.lt)));clear I;go_wp2_with fail;refine bS (by kernel_rfl) (by kernel_rfl) ?_
  iterate 6
   first
   |refine dq K.o rfl ?_
   |refine aw (λ_=>rfl) ?_
   simp only[UW,UX,UY,UZ]
  refine fA (λ_=>rfl) 169 #[Yr L.t,.int .u64 e.n] _ (λ_ w=>by simp[execOp,go_sem]<;>rfl) (λw d=>CH.o w d) ?_;simp only[UW,UX,UY,UZ]
  iterate 1
   first
   |refine dq K.o rfl ?_
   |refine aw (λ_=>rfl) ?_
   simp only[UW,UX,UY,UZ]
  refine aH ?_;intro _ W2 A;have G:=U9 (Vb (l.o.1.call A) (Vb (l.o.2.1.trans (A.mono l.o.2.1.size)) (l.o.2.2.call A)));have ζ:=A.size;clear K CH A l;cases bn with
  |false=>
   go_wp2_with fail;go_ret2;refine aJ.no ?_ (by decide) rfl G.o.2.1;unfold hU;rw[Vf (by rw[O.o];simp),HN.o]
   rfl
  |true=>
   have TT:xV W2 314 #[Yr (w.heap.size+1)] (λf=>fX f e.w e.a):=
    ⟨λ_ _=>by kernel_rfl,λf W hf d=>NP (G.o.1.drop.head.call d) H.o.2.2.1 f hf⟩
   have CA:=U9 (DK G.o.2.2 H.o.2.1 H.o.2.2.2.1 TT);obtain⟨q2,-,q1,-,q0,-,-⟩:=G.o.1.rules;obtain⟨l2,l1,l0,-⟩:=G.o.1.lts;clear TT;go_wp2_with fail;refine CA.o.mono ?_;rintro r M ⟨v,rfl,i,j,c⟩;rw[qB]at j c⊢;generalize T:eA m (λf=>fX f e.w e.a) (aC m.tr e.n)=ae at j c⊢;have J:=U9 T;have P:=U9 (Vb (G.o.1.call i) (Vb (G.o.2.1.trans (i.mono G.o.2.1.size)) (G.o.2.2.call i)));have γ:=U9 i;have η:=i.size;clear T i CA q2 q1 q0 l2 l1 l0;by_cases S:ae=0
   ·subst S
    rw[qA J.o]at c;have HD:=U9 (c rfl);clear c j;obtain⟨f,D,hv,-⟩:=HD.o;subst hv;go_wp2_with fail;go_ret2;have B4:aD (M.alloc (.cells #[.func (.func f) #[] D] 229)) ((M.heap.size,229,#[.func (.func f) #[] D])::_):=P.o.1.push rfl;have D4:Ys M (M.alloc (.cells #[.func (.func f) #[] D] 229)):=(Vd _ _).alloc (Vc _) _;have U:hU m e=(0,{m with ri:=fN m (λf=>fX f e.w e.a) (aC m.tr e.n),qs:=putL m.qs (e.o,e.r) true,gr:=putL m.gr (e.o,e.r) ⟨e.o,e.r,e.n,e.a,0⟩}):=by
     unfold hU;rw[Vf (by rw[O.o];simp),Vf (by rw[HN.o];simp),Vf (by rw[J.o];simp)]
    rw[U];refine⟨_,rfl,P.o.2.1.trans (D4.mono P.o.2.1.size),λhn=>absurd rfl hn,λ_=>⟨_,_,rfl,λ_ _=>by kernel_rfl,λW d=>?_⟩⟩;have B:=B4.call d;have nw:∀k:Nat,w.heap.size<=k->k<W2.heap.size->¬fO L W2.heap.size M k:=λk Y h2 ho=>by
     rcases ho with ho|ho
     ·have:=H.o.1.lt _ ho;omega
     ·omega
    have α:Ys M W:=D4.trans (d.mono (by simp));refine(NO HD.o α B.head B.drop.drop.drop.head B.drop.head B.drop.drop.head (H.o.2.2.1.nm H.o.2.2.2.2) (nw _ (Vc _) (by omega)) (nw _ (by omega) (by omega)) (nw _ (by omega) (by omega))).mono ?_;rintro r W' ⟨Y,h2,h3⟩;refine⟨Y,h2,h3.mono λk hk=>?_⟩;rcases hk with hk|hk
    ·exact .inl hk
    ·exact .inr ⟨by omega,by simp;omega⟩
   ·have hv:=j S
    have β:(ae !=0)=true:=by simpa using S
    clear c j;subst hv;have HZ:=U9 S;clear S;go_wp2_with fail;go_ret2;refine aJ.no (x:=ae) ?_ HZ.o rfl (P.o.2.1.trans (((Vd _ _).alloc (Vc _) _).mono P.o.2.1.size));unfold hU;rw[Vf (by rw[O.o];simp),Vf (by rw[HN.o];simp),J.o];exact Vt Prod.fst (Vh (show ae≠0 from HZ.o))
end
section
variable{w w':Yu}{L:LB}{m:az}
theorem OZ{k:Nat}(h:dD W L m)(hm:m.ok)(h0:ai W c0 136 #[Yr L.b])(h1:ai W c1 32 #[.int .u64 x])(h2:ai W c2 53 (ao e))(h3:ai W c3 3 #[.int .i64 k])
  (hk:k<6) (hx:aT x) (hn:aT e.n) (n0:¬L.mem c0) (n1:¬L.mem c1) (n2:¬L.mem c2) (n3:¬L.mem c3):
  Yt 310 #[Yr c0,Yr c1,Yr c2,Yr c3] W λr W'=>(∃u,r=.returned u)/\
   dD W' L {m with tr:=lN m.tr x e.n,pa:=putL m.pa x e.n,ow:=m.ow.set k (m.ow.get k+1),ri:=putL m.ri x (jD z0 k e.a)}/\ah L.mem W W':=by
 have T:aD W [(c0,136,#[Yr L.b]),(c1,32,#[.int .u64 x]),(c2,53,ao e),(c3,3,#[.int .i64 k])]:=aD.cons h0 (aD.cons h1 (aD.cons h2 (aD.cons h3 aD.nil)));have ni:gJ L.mem [(c0,136,#[Yr L.b]),(c1,32,#[.int .u64 x]),(c2,53,ao e),(c3,3,#[.int .i64 k])]:=⟨n0,n1,n2,n3,trivial⟩;have NI:=U9 ni;have HM:=U9 hm;have ι:=hm.ow k hk;have Y:=U9 (Vb hx hn);have i:=U9 (λ(X:Yu) (c:Ys W X)=>Vb (T.call c).rules (Vb (T.call c).lts (Vb (h.call c).blk.rules.1 (h.call c).blk.lt)));have H0:=U9 (Vb h T);clear h hm h0 h1 h2 h3 n0 n1 n2 n3 T ni hx hn;go_enter func310,ntmps310;go_wp2_with fail;refine aP 7 (by kernel_rfl) (by simp) (by kernel_rfl) (by kernel_rfl) (by kernel_rfl) (by kernel_rfl) ?_;simp only[U4,U5,U6,U7]
 iterate 7
  first
  |refine dq i.o rfl ?_
  |refine aw (λ_=>rfl) ?_
  simp only[UW,UX,UY,UZ]
 refine aH ?_;intro _ W1 v _;have L1:=H0.o.1.call v;have CA:=U9 (FT L1.tre HM.o.tr Y.o.1 Y.o.2);have H1:=U9 (Vb L1 (Vb (ah.of_below (F:=L.mem) v) (H0.o.2.call v)));clear L1 v i;go_wp2_with fail;refine CA.o.mono ?_;rintro r W2 ⟨rfl,t2,Q⟩;have N:L.mem L.tm:=.inr (.inr (.inl rfl));have Z:=H1.o.1.fr_tm Q t2;have V:=H1.o.2.2.mod (ah.of_fr1 (F:=L.mem) Q N) NI.o;have H2:=U9 (Vb Z (Vb (H1.o.2.1.trans (ah.of_fr1 Q N)) V));have i:=U9 (λ(X:Yu) (c:Ys W2 X)=>Vb (V.call c).rules (Vb (V.call c).lts (Vb (Z.call c).blk.rules.1 (Z.call c).blk.lt)));clear Z V t2 Q CA;go_wp2_with fail;refine aP 7 (by kernel_rfl) (by simp) (by kernel_rfl) (by kernel_rfl) (by kernel_rfl) (by kernel_rfl) ?_;simp only[U4,U5,U6,U7]
 iterate 7
  first
  |refine dq i.o rfl ?_
  |refine aw (λ_=>rfl) ?_
  simp only[UW,UX,UY,UZ]
 refine aH ?_;intro _ W3 G _;have L3:=H2.o.1.call G;obtain⟨W4,bQ,M4,F4⟩:=L3.pa.put nc (a:=x) Y.o.1 e.n;have f:(Instr.mapUpdate 165 (.map (some L.pm)) (.int .u64 x) (.int .u64 e.n)).run prog W3=.ok () W4:=bQ;have β:L.mem L.pm:=.inr (.inr (.inr (.inl rfl)));have P:=L3.fr_pm F4 M4;have N4:=(ah.of_below (F:=L.mem) G).trans (ah.of_fr1 F4 β);have S:=H2.o.2.2.mod N4 NI.o;have H4:=U9 (Vb P (Vb (H2.o.2.1.trans N4) S));clear i;have i:=U9 (λ(X:Yu) (c:Ys W4 X)=>Vb (S.call c).rules (Vb (S.call c).lts (Vb (P.call c).blk.rules.1 (P.call c).blk.lt)));clear L3 M4 F4 P N4 S bQ G;go_wp2_with fail;clear f;have hc:=Dh m.inn m.kn L.t L.pm L.rm m.ow L.gm L.qm k hk;have k0:(0:Int)<=(k:Int):=by omega
 have k6:(k:Int)<6:=by omega
 have e1:IntKind.i64.wrap (m.ow.get k+1)=m.ow.get k+1:=VE _ (by omega);refine aP 10 (by kernel_rfl) (by simp) (by kernel_rfl) (by kernel_rfl) (by kernel_rfl) (by kernel_rfl) ?_;simp only[U4,U5,U6,U7]
 iterate 10
  first
  |refine dx rfl ?_;apply aA
   ·intro _ ρ ζ α δ W c;have hq:=i.o W c;simp[execOp,go_sem,ζ,α,δ,hq,hc,k0,k6,e1]<;>exact rfl
  |refine aw (λ_=>rfl) ?_
  simp only[UW,UX,UY,UZ]
 refine aH ?_;intro _ d H _;have M:=H4.o.1.call H;have c:=M.blk.set_ (21+k) (.int .i64 (m.ow.get k+1));rw[xl _ _ _ _ _ _ _ _ k hk]at c;have F6:Fr d (d.setCell ⟨L.b,21+k,none⟩ (.int .i64 (m.ow.get k+1))) L.b none:=Fr.of_set _ rfl _;have L6:=M.fr_b F6 c;have O:L.mem L.b:=.inl rfl;have N6:=(ah.of_below (F:=L.mem) H).trans (ah.of_fr1 F6 O);have U:=H4.o.2.2.mod N6 NI.o;have M6:=H4.o.2.1.trans N6;have I:(d.setCell ⟨L.b,21+k,none⟩ (.int .i64 (m.ow.get k+1))).heap.size=d.heap.size:=by simp
 obtain⟨q,fz⟩:=M.blk.rules;have lb:=M.blk.lt;obtain⟨C,l⟩:∃C,C=d.setCell ⟨L.b,21+k,none⟩ (.int .i64 (m.ow.get k+1)):=⟨_,rfl⟩;rw[<-l]at L6 M6 U I;have B7:=U.push (t:=80) (cs:=aG z0) (g:=d.heap.size) I;obtain⟨l0,l1,l2,l3,-⟩:=U.lts;have nn:mS d.heap.size [(c0,136,#[Yr L.b]),(c1,32,#[.int .u64 x]),(c2,53,ao e),(c3,3,#[.int .i64 k])]:=by
  refine⟨?_,?_,?_,?_,trivial⟩<;>omega
 have J:=kO B7.head z0;have B8:=B7.row nn (aG z0);have D8:Ys C ((C.alloc (.cells (aG z0) 80)).setRow d.heap.size (aG z0)):=Below.rowN ((Vd _ _).alloc (Vc _) _) (by omega) _;obtain⟨p,pf,p0,-,p1,-,p2,-,p3,-,-⟩:=B8.rules;have B9:=B8.set_ nn k (.int .i64 e.a);rw[sJ z0 k (by omega)]at B9;have D9:Ys C (((C.alloc (.cells (aG z0) 80)).setRow d.heap.size (aG z0)).setCell ⟨d.heap.size,k,none⟩ (.int .i64 e.a)):=D8.setCell (p:=⟨d.heap.size,k,none⟩) (by simp;omega) _;have θ:=bZ z0 k (by omega);have B:((C.alloc (.cells (aG z0) 80)).setRow d.heap.size (aG z0)).heap.size=d.heap.size+1:=by simp[World.setRow];omega
 have A:=U9 (Vb (L6.call D9) (Vb (M6.call D9) B9));have HE:=U9 l;rw[l]at J p pf p0 p1 p2 p3 B;clear M c F6 L6 O N6 U M6 B7 B8 D8 B9 D9 H i l nn l0 l1 l2 l3;go_wp2_with fail;rw[<-HE.o];generalize (((C.alloc (.cells (aG z0) 80)).setRow d.heap.size (aG z0)).setCell ⟨d.heap.size,k,none⟩ (.int .i64 e.a))=W9 at A⊢;clear J p pf p0 p1 p2 p3 B q fz lb;have i:=U9 (λ(X:Yu) (c:Ys W9 X)=>Vb (fG (A.o.2.2.call c).head.rng) (Vb (A.o.2.2.call c).rules (Vb (A.o.2.2.call c).lts (Vb (A.o.1.call c).blk.rules.1 (A.o.1.call c).blk.lt))));refine aP 6 (by kernel_rfl) (by simp) (by kernel_rfl) (by kernel_rfl) (by kernel_rfl) (by kernel_rfl) ?_;simp only[U4,U5,U6,U7]
 iterate 6
  first
  |refine dq i.o rfl ?_
  |refine aw (λ_=>rfl) ?_
  simp only[UW,UX,UY,UZ]
 refine aH ?_;intro _ η j _;have E:=A.o.1.call j;obtain⟨ε,bQ,K,D⟩:=E.ri.put jT (a:=x) Y.o.1 (jD z0 k e.a);have f:(Instr.mapUpdate 166 (.map (some L.rm)) (.int .u64 x) (.agg (aG (jD z0 k e.a)))).run prog η=.ok () ε:=bQ;have γ:L.mem L.rm:=.inr (.inr (.inr (.inr (.inl rfl))));have HX:=U9 (Vb (E.fr_rm D K) (A.o.2.1.trans ((ah.of_below (F:=L.mem) j).trans (ah.of_fr1 D γ))));clear E K D bQ j i;go_wp2_with fail
 go_end0
 exact⟨⟨_,rfl⟩,HX.o⟩
end
end
section
open Go.RowKit Go Go.Shelf
attribute [local go_sem] Oper.semAt_some
section
variable{w w':Yu}{L:LB}{m:az}
theorem NK(A:Option Addr)(n c:Nat)(w:Yu):Yt 324 #[.slice A n c] w λr w'=>r=.returned (.func (.func 335) #[] #[Yr w.heap.size])/\w'=w.alloc (.cells #[.slice A n c] 172):=by
 go_enter func324,ntmps324;go_wp2_with fail;go_ret;exact⟨rfl,rfl⟩
def Ki(m:az)(l:List (Int×Int)):List (Int×Int):=l.foldl (λT x=>lN T x.2 (m.p x.2)) []
theorem Ch(m:az)(l:List Int):Ki m (ix l l.length)=l.reverse.foldl (λT n=>lN T n (m.p n)) []:=by
 have h:∀k,k<=l.length->(ix l k).map (·.2)=(l.take k).reverse:=λk c=>by
  induction k with
  |zero=>rfl
  |succ k ih=>
   have b:l[k]? =some (l.getD k 0):=by rw[Wh,Ve (by omega)];rfl
   rw[VN,b];show l.getD k 0::(ix l k).map (·.2)=_;rw[ih (by omega)];simp
 have a:=h l.length (Vc _);rw[WN]at a;rw[<-a,List.foldl_map]
 rfl
def Iu(m:az)(l:List Int)(a:List Int):List (Int×Int):=a.foldl (λT n=>if n∈l then T else lN T n 0) (Ki m (ix l l.length))
structure Th(w:Yu)(m:az)(t tm c7 b0 b5 D:Nat)(v v5:Yv)(l ns:List Int)(k:Nat)(W:Yu):Prop where
 tre:cV W t tm (Iu m l (ns.take k))
 ok:tO (Iu m l (ns.take k))
 b7:ai W c7 164 #[Yr t]
 row:ij W b0 v l
 row5:ij W b5 v5 ns
 def_:W.heap[D]? =some (.deferred (some []))
 below:Ys w W
structure Tg(w:Yu)(L:LB)(m:az)(t tm c7 c3 c1 base b0:Nat)(v:Yv)(l:List Int)(pre:List (Int×Int))(W:Yu):Prop where
 tre:cV W t tm (Ki m pre)
 b7:ai W c7 164 #[Yr t]
 b3:ai W c3 136 #[Yr L.b]
 inv:JH base c1 v l W
 below:Ys w W
 sz:b0<=W.heap.size
 ok:tO (Ki m pre)
 pu:∀y∈pre,aT y.2
theorem Pi(h:dD w L m)(hm:m.ok){id:Int}(d:aT id)(hx:aT x):Yt 309 #[Yr L.b,.int .u64 id,.int .u64 x] w λr w'=>r=.returned (.int .i64 (lZ m.tr m.p id x))/\Ys w w':=by
 have H:=U9 (Vb h hm);have CN:=U9 NN;have CP:=U9 (λ(W:Yu) (P:Ys w W)=>yn (h.call P).tre hm.tr hx);have HX:=U9 (Vb d hx);clear h hm d hx;refine(Wp (n:=3)).1 ?_;refine callsIn_of_wp_marks func309 rfl trivial ?_ rfl;simp only[ntmps309,WU,VB,VR,Nat.reduceAdd,Nat.reduceSub,XR,XS,Ym,XX,V8,XQ];gi_wp2_with fail;refine⟨trivial,(Wp.2 (CN.o _)).mono ?_⟩;rintro r E ⟨u,rfl,t,tm,rfl,ht,g1,g2,Z⟩;have Bs:=((aD.nil (w:=w)).push (t:=136) (cs:=#[Yr L.b]) (g:=w.heap.size) rfl).call Z;have D1:Ys w E:=((Vd w.heap.size w).alloc (Vc _) _).trans (Z.mono (by simp));have g3:=Z.size;simp only[WA]at g1 g2 g3;have B2:=Bs.push (t:=164) (cs:=#[Yr t]) (g:=E.heap.size) rfl;have D2:Ys E (E.alloc (.cells #[Yr t] 164)):=(Vd _ _).alloc (Vc _) _;have T2:=ht.call D2;have E2:=D1.trans (D2.mono D1.size);have g4:=ht.blk.lt;have g5:=ht.map.lt;have z2:(E.alloc (.cells #[Yr t] 164)).heap.size=E.heap.size+1:=by simp
 have H2:=U9 (Vb B2 (Vb T2 E2));obtain⟨q7,-,q3,-,-⟩:=B2.rules;obtain⟨l7,l3,-⟩:=B2.lts;obtain⟨q,-⟩:=(H.o.1.call E2).blk.rules;have lb:=(H.o.1.call E2).blk.lt;clear Bs B2 T2 E2 CN Z ht D1 D2;gi_wp2_with fail;refine⟨trivial,(Wp.2 (CP.o _ H2.o.2.2)).mono ?_⟩;rintro r V ⟨v,rfl,j,S⟩;have B3:=H2.o.1.call S;have T3:=H2.o.2.1.call S;have E3:=H2.o.2.2.trans (S.mono H2.o.2.2.size);have z3:=S.size;obtain⟨A,c,rfl,hc,hm⟩:=j.sl;have CB:=U9 (λW=>NK A (aC m.tr x).length c W);clear q7 q3 l7 l3 q lb H2 CP;gi_wp2_with fail;refine⟨trivial,(Wp.2 (CB.o _)).mono ?_⟩;rintro r w4 ⟨rfl,U⟩;have B4:=B3.push (t:=172) (cs:=#[.slice A (aC m.tr x).length c]) (g:=V.heap.size) rfl;rw[<-U]at B4;have D4:Ys V w4:=by rw[U];exact(Vd _ _).alloc (Vc _) _
 have z4:w4.heap.size=V.heap.size+1:=by rw[U];simp
 have I0:Tg w L m t tm E.heap.size w.heap.size V.heap.size (E.alloc (.cells #[Yr t] 164)).heap.size w4.heap.size (.slice A (aC m.tr x).length c) (aC m.tr x) [] w4:=
  ⟨T3.call D4,B4.drop.head,B4.drop.drop.head,⟨B4.head,Row.call j D4⟩,E3.trans (D4.mono E3.size),Vc _,tO.nil,λ_ h=>by cases h⟩
 clear U CB B3 T3 E3 B4 D4 S j;gi_wp2_with fail;have χ:(aC m.tr x).length<=32:=Vi (dV _ _) H.o.2.tr.le;simp only[WA]at I0 z3;refine yv rfl (by omega) (gf:=335) (lb:=#[Yr V.heap.size]) rfl trivial (enters_of func335 (by kernel_rfl) rfl)
  (EU (base:=E.heap.size+1) (c1:=V.heap.size) (v:=.slice A (aC m.tr x).length c) (l:=aC m.tr x) _ (by omega) w4) (λ_ _=>trivial) trivial (λ_ _ _=>trivial) (λ_ _ _ _=>trivial) (λ_=>rfl)
  (Tg w L m t tm E.heap.size w.heap.size V.heap.size (E.heap.size+1) w4.heap.size (.slice A (aC m.tr x).length c) (aC m.tr x)) (λW o d=>?_) (λN W l o o' hl ho hc d=>?_) (λN A B d hs=>?_) (λN A d=>d.inv) I0
  (λy=>{tmps:=#[Yr L.b,.int .u64 id,.int .u64 x,Yr w.heap.size,undef,undef,.int .i64 0,Yr E.heap.size,.slice A (aC m.tr x).length c,undef,.int .u64 y.2,undef,undef,Yr t,Yr L.b,Yr L.b,.pointer (some ⟨L.b,18,none⟩),Yr L.t,.int .u64 x,.slice A (aC m.tr x).length c,.slice A (aC m.tr x).length c,
   .func (.func 335) #[] #[Yr V.heap.size],.int .i64 y.1,.int .u64 y.2,undef,undef,undef,undef,undef,undef,undef,undef,undef,undef,undef,undef,undef,undef,undef,undef,undef,undef,undef,undef,undef,undef,undef,undef,undef,undef,undef,undef,undef,undef,undef],defers:=[]}) ?assign ?body ?done
 ·exact⟨d.tre.call ((Vd _ _).alloc (Vc _) o),d.b7.call ((Vd _ _).alloc (Vc _) o),d.b3.call ((Vd _ _).alloc (Vc _) o),⟨d.inv.1.call ((Vd _ _).alloc (Vc _) o),Row.call d.inv.2 ((Vd _ _).alloc (Vc _) o)⟩,d.below.trans (((Vd _ _).alloc (Vc _) o).mono d.below.size),by have:=d.sz;simp;omega,d.ok,d.pu⟩
 ·obtain⟨f1,Q,f3,f4⟩:=grownBy_putObj' W l o'
  have f:Fr W (W.putObj l o') l none:=⟨f1,Q,f3,f4,λk hk α _=>WC α⟩;have β:=d.sz;refine⟨d.tre.fr f (by omega) (by omega),f.blk d.b7 (by omega) (by simp),f.blk d.b3 (by omega) (by simp),⟨f.blk d.inv.1 (by omega) (by simp),f.own d.inv.2 (λe=>?_) (by cases(Value.slice A (aC m.tr x).length c).ownBlock<;>simp)⟩,f.below d.below (by omega) (λ_ h=>by cases h),Vi β f.size,d.ok,d.pu⟩;have:=eC d.inv.2 l o e ho;rw[hc]at this;cases this
 ·subst hs
  exact⟨d,Vc _,λk o hk ho _=>ho⟩
 case assign=>
  intro l y W K hK
  gi_wp2
  exact hK
 case body=>
  intro l N y W d σ η;have β:=d.sz;have J:aT y.2:=by
   obtain⟨v,hv⟩:=V6.1 (iU η);exact(H.o.2.tr.rg _ (bK hv)).1
  have μ:aT (m.p y.2):=by
   unfold az.p;cases hc:lk m.pa y.2 with
   |none=>exact⟨Int.le_refl 0,by show(0:Int)<=_;omega⟩
   |some v=>exact H.o.2.pu _ (bK hc)
  have Y:=H.o.1.call d.below;have B:aD W [(E.heap.size,164,#[Yr t]),(w.heap.size,136,#[Yr L.b])]:=aD.cons d.b7 (aD.cons d.b3 aD.nil);have HF:=U9 (λ(X:Yu) (P:Ys W X)=>And.intro (B.call P).rules (And.intro (B.call P).lts (And.intro (Y.call P).blk.rules.1 (And.intro (Y.call P).blk.lt (yN (Y.call P).pa J)))));have G:=U9 d;have HY:=U9 (And.intro J μ);clear B Y d J μ η;dsimp only;refine wpIn_block ?_;refine uM 8 (by kernel_rfl) (by simp) (by kernel_rfl) (by kernel_rfl) (by kernel_rfl) (by kernel_rfl) (by kernel_rfl) (λa w h=>h) ?_;simp only[U4,U5,U6,U7]
  iterate 8
   first
   |refine dq HF.o rfl ?_
   |refine aw (λ_=>rfl) ?_
   simp only[UW,UX,UY,UZ]
  refine aH ?_;intro _ W2 O _;have CA:=U9 (FT (G.o.tre.call O) G.o.ok HY.o.1 HY.o.2);have γ:=U9 O;clear O HF;go_wp2_with fail;refine CA.o.mono ?_;rintro r W3 ⟨rfl,t3,f3⟩;have Θ:=γ.o.size;have e3:Ki m (N++[y])=lN (Ki m N) y.2 (m.p y.2):=by unfold Ki;rw[List.foldl_append];rfl
  have ι:=G.o.inv.2.ge;have O:=γ.o;have Q:Fr W W3 tm none:=(Fr.of_below O).trans f3;have HR:=U9 (show Tg w L m t tm E.heap.size w.heap.size V.heap.size (E.heap.size+1) w4.heap.size (.slice A (aC m.tr x).length c) (aC m.tr x) (N++[y]) W3 from
   ⟨by rw[e3];exact t3,Q.blk G.o.b7 (by omega) (by simp),Q.blk G.o.b3 (by omega) (by simp),⟨Q.blk G.o.inv.1 (by omega) (by simp),Q.own G.o.inv.2 (λe=>by have:=(ι _ e).1;omega) (by cases(Value.slice A (aC m.tr x).length c).ownBlock<;>simp)⟩,
    Q.below G.o.below (by omega) (λ_ h=>by cases h),by have:=Q.size;omega,by rw[e3];exact G.o.ok.add HY.o.1 HY.o.2,λz hz=>by
     rcases Vw.1 hz with hz|hz
     ·exact G.o.pu z hz
     ·obtain rfl:z=y:=by simpa using hz
      exact HY.o.1⟩)
  have HK:=U9 (show KeepsFrom w4.heap.size W W3 from⟨Q.size,λk o hk ho _=>(Q.block k (Vv.1 ho).1 (by omega) (by simp)).trans ho⟩);clear t3 f3 Q O ι e3 CA γ;go_wp2_with fail;exact⟨HK.o,trivial,HR.o⟩
 case done=>
  intro D W hD d hK;dsimp only;have β:=d.sz;have Y:=H.o.1.call d.below;obtain⟨q3,-⟩:=d.b3.rules;obtain⟨q7,-⟩:=d.b7.rules;obtain⟨q,-⟩:=Y.blk.rules;have lb:=Y.blk.lt;have l3:=d.b3.lt;have l7:=d.b7.lt;have CL:=U9 (Io Y.tre (Nat.le_trans H.o.2.tr.le (by omega)));have G:=U9 (And.intro d hK);clear Y d hK;gi_wp2_with fail;refine⟨trivial,(callsIn_wide.2 CL.o).mono ?_⟩;rintro r w5 ⟨v5,rfl,I,M⟩;obtain⟨A5,c5,rfl,Ξ,ω⟩:=I.sl;have Φ:=jm m.tr;have ψ:=H.o.2.tr.le;have Δ:=M.size;have π:=(Array.getElem?_eq_some_iff.1 G.o.2).1;have A0:Th w m t tm E.heap.size (E.heap.size+1) W.heap.size D (.slice A (aC m.tr x).length c) (.slice A5 (cS m.tr).length c5) (aC m.tr x) (cS m.tr) 0 w5:=
   ⟨G.o.1.tre.call M,G.o.1.ok,G.o.1.b7.call M,Row.call G.o.1.inv.2 M,I,(M.block D π).trans G.o.2,G.o.1.below.trans (M.mono G.o.1.below.size)⟩
  clear q3 q7 q lb l3 l7 CL I M;gi_wp2_with fail
  gi_loopw [39] (λi wr=>∃k:Nat,k<=(cS m.tr).length/\i=.int .i64 k/\Th w m t tm E.heap.size (E.heap.size+1) W.heap.size D (.slice A (aC m.tr x).length c) (.slice A5 (cS m.tr).length c5) (aC m.tr x) (cS m.tr) k wr) (λi _=>(cS m.tr).length-(intOf i).toNat)
  case atStart=>exact⟨0,by omega,rfl,A0⟩
  case round=>
   obtain⟨k,hk,rfl,A⟩:=hrel;clear A0;obtain⟨q7,-⟩:=A.b7.rules;have l7:=A.b7.lt;by_cases ξ:k<(cS m.tr).length
   ·obtain⟨y,hy⟩:∃y,(cS m.tr)[k]? =some y:=⟨(cS m.tr)[k],Ve ξ⟩
    have J:aT y:=by
     obtain⟨v,hv⟩:=V6.1 (rM.1 (Vn hy));exact(H.o.2.tr.rg _ (bK hv)).1
    obtain⟨g,cap,hs,ε,τ,Ψ,Γ⟩:=A.row5.sl_pos (by omega);have j:=A.row5;rw[hs]at j;have θ:=j.rng cY hy;obtain⟨rfl,φ⟩:A5=some ⟨g,0,none⟩/\c5=cap:=by injection hs with a b c;exact⟨a,c⟩
    have κ:wr.cell? ⟨g,k,none⟩=some (.int .u64 y):=by have this:=θ 0 (.int .u64 y) rfl;rw[V3]at this;exact this
    have hd:decide ((k:Int)<(cS m.tr).length)=true:=Vg (by omega);obtain⟨b,P⟩:∃b,decide (y∈aC m.tr x)=b:=⟨_,rfl⟩;have CC:=U9 (zw A.row (by omega) y b P);have CA:=U9 (FT A.tre A.ok J (show aT 0 from⟨Int.le_refl 0,by decide⟩));have e4:Iu m (aC m.tr x) ((cS m.tr).take (k+1))=if b=true then Iu m (aC m.tr x) ((cS m.tr).take k)else lN (Iu m (aC m.tr x) ((cS m.tr).take k)) y 0:=by
     unfold Iu;rw[VN,hy,List.foldl_append,<-P];simp
    have HE:=U9 e4;have C:=U9 (Vb A J);clear j θ hs ε τ φ hy J P A e4;cases b with
    |true=>
     gi_wp2_with fail;refine⟨trivial,(Wp.2 CC.o).mono ?_⟩;rintro r w6 ⟨rfl,rfl⟩;clear q7 l7 κ CC CA;gi_wp2_with fail;go_roundw
     case rel=>exact⟨k+1,by omega,by simp,by rw[HE.o];exact C.o.1.tre,by rw[HE.o];exact C.o.1.ok,C.o.1.b7,C.o.1.row,C.o.1.row5,C.o.1.def_,C.o.1.below⟩
     case measure=>simp[intOf];omega
    |false=>
     gi_wp2_with fail;refine⟨trivial,(Wp.2 CC.o).mono ?_⟩;rintro r w6 ⟨rfl,rfl⟩;clear CC;gi_wp2_with fail;refine⟨trivial,(Wp.2 CA.o).mono ?_⟩;rintro r w7 ⟨rfl,t7,T⟩;have ζ:=C.o.1.row.ge;have ν:=C.o.1.row5.ge;have δ:D≠tm:=by omega
     have B7:Th w m t tm E.heap.size (E.heap.size+1) W.heap.size D (.slice A (aC m.tr x).length c) (.slice (some ⟨g,0,none⟩) (cS m.tr).length c5) (aC m.tr x) (cS m.tr) (k+1) w7:=
      ⟨by rw[HE.o];exact t7,by rw[HE.o];exact C.o.1.ok.add C.o.2 ⟨Int.le_refl 0,by decide⟩,T.blk C.o.1.b7 (by omega) (by simp),T.own C.o.1.row (λe=>by have:=(ζ _ e).1;omega) (by cases(Value.slice A (aC m.tr x).length c).ownBlock<;>simp),
       T.own C.o.1.row5 (λe=>by have:=(ν _ e).1;omega) (by simp[Value.ownBlock]),(T.block D (Vv.1 C.o.1.def_).1 δ (by simp)).trans C.o.1.def_,T.below C.o.1.below (by omega) (λ_ h=>by cases h)⟩
     have υ:=U9 B7;clear q7 l7 κ CA t7 T ζ ν B7;gi_wp2_with fail;go_roundw
     case rel=>exact⟨k+1,by omega,by simp,υ.o⟩
     case measure=>simp[intOf];omega
   ·obtain rfl:k=(cS m.tr).length:=by omega
    have CA:=U9 (FT A.tre A.ok HX.o.1 HX.o.2);have C:=U9 A;clear A;gi_wp2_with fail;refine⟨trivial,(Wp.2 CA.o).mono ?_⟩;rintro r w7 ⟨rfl,t7,T⟩;have δ:D≠tm:=by omega
    have HD:=U9 (Vb ((T.block D (Vv.1 C.o.def_).1 δ (by simp)).trans C.o.def_) (T.below C.o.below (by omega) (λ_ h=>by cases h)));clear q7 l7 t7 T CA;gi_wp2_with fail;obtain⟨g1,g2,g3,g4⟩:=grownBy_putObj' w7 D (.deferred none);have hf:Fr w7 (w7.putObj D (.deferred none)) D none:=⟨g1,g2,g3,g4,λk hk α _=>WC α⟩;refine⟨by simp,.inl ⟨_,_,rfl,run_takeDeferred HD.o.1,?_⟩⟩;refine⟨.int .i64 (lZ m.tr m.p id x),?_,rfl,hf.below HD.o.2 (by omega) (λ_ h=>by cases h)⟩;have e:tx (Iu m (aC m.tr x) (List.take m.tr.length (cS m.tr))) id x=lZ m.tr m.p id x:=by
     rw[show List.take m.tr.length (cS m.tr)=cS m.tr from V4 (by omega)];unfold Iu lZ;rw[Ch]
    rw[<-e];simp[results,results309,go_sem]
end
end
section
open Go.RowKit Go
section
variable{w w':Yu}{L:LB}{m:az}
theorem LG(h:dD w L m)(hm:m.ok)(e:Ev)(P:Bb e)(hn:aT e.n):
  Yt 302 #[Yr L.b,.agg (ao e)] w (aJ w L (jW m e)):=by
 obtain⟨k,hk,O,β⟩:=P.place;have θ:=P.s1;have ζ:=P.s2;have γ:=P.a1;have κ:=P.a2;have B0:aD ((w.alloc (.cells #[Yr L.b] 136)).alloc (.cells (ao e) 53)) [(w.heap.size+1,53,ao e),(w.heap.size,136,#[Yr L.b])]:=((aD.nil.push (g:=w.heap.size) rfl).push (g:=w.heap.size+1) (by simp));have D0:Ys w ((w.alloc (.cells #[Yr L.b] 136)).alloc (.cells (ao e) 53)):=(((Vd w.heap.size w).alloc (by simp<;>omega) _).alloc (by simp<;>omega) _);obtain⟨J,G⟩:∃J,J=(w.alloc (.cells #[Yr L.b] 136)).alloc (.cells (ao e) 53):=⟨_,rfl⟩;have ε:J.heap.size=w.heap.size+2:=by rw[G];simp
 rw[<-G]at B0 D0;have HB:=U9 (Vb B0 (Vb D0 (h.call D0)));have HH:=U9 (Vb h (Vb hm (Vb P hn)));have HW:=U9 G;have HK:=U9 (Vb O β);have E:=U9 (λ(X:Yu) (q:ah cM J X)=>Vb (B0.call q.no).rules (B0.call q.no).lts);have CI:=U9 (λ(X:Yu)=>(Rf e.o e.s ⟨by omega,by omega⟩ X).mono (R':=λr w'=>r=.returned (.int .u64 (gH e.o e.s))/\Ys X w') (by rintro r w2 ⟨T,rfl⟩;exact⟨T,Vd _ _⟩));have e1:IntKind.i64.wrap (e.o-1)=(k:Int):=by rw[O];rw[show((k:Int)+1-1)=(k:Int)from by omega];exact VE _ (by omega)
 clear G B0 D0 h hm P hn O β;go_enter func302,ntmps302;go_wp2_with fail;rw[show((w.alloc (.cells #[Yr L.b] 136)).alloc _)=J from HW.o.symm];refine ay [32,3] cM 12 (λ_ h=>h.elim) (by kernel_rfl) (by kernel_rfl) ?_
 iterate 4
  first
  |refine eV E.o rfl ?_
  |refine al (λ_=>rfl) ?_
  |refine bH rfl ?_
  simp only[UW,UX,UY,UZ]
 refine cU (λ_=>rfl) (Vm rfl) 28 (λ_=>#[.int .i64 e.o,.int .u64 e.s]) _ (λ_ w=>by simp[execOp,go_sem]<;>rfl) (λ_ X _=>CI.o X) ?_;simp only[UW,UX,UY,UZ]
 iterate 3
  first
  |refine bT rfl ?_;apply aA
   ·intro _ ρ j f i W q;have S:=E.o W q;simp[execOp,go_sem,j,f,i,S,e1]<;>exact rfl
  |refine al (λ_=>rfl) ?_
  |refine bM (by kernel_rfl) rfl ?_;apply aA
   ·intro u ρ j f i w;simp[execOp,go_sem,j,f,i,e1]<;>exact rfl
  simp only[UW,UX,UY,UZ]
 refine eW (λ_=>rfl) 32 #[.int .u64 0] (λ_ _=>by simp[execOp,go_sem]<;>exact rfl) ?_;simp only[UW,UX,UY,UZ];refine eW (λ_=>rfl) 3 #[.int .i64 0] (λ_ _=>by simp[execOp,go_sem]<;>exact rfl) ?_;simp only[UW,UX,UY,UZ];refine rO (λ_=>rfl) 8 32 _ _ rfl (by decide) rfl (by simp) (λ_ h=>h.elim) _ _ _ (λ_=>rfl) (λ_=>rfl) (λ_=>by repeat (first|exact Or.inl ⟨rfl,rfl,rfl⟩|apply Or.inr)) (λu ρ X g cs T h2 h3 h4 h5 h6 h7=>by simp[execOp,go_sem,T,h2,h3,h5,h6,h7]) ?_;simp only[UW,UX,UY,UZ];refine rO (λ_=>rfl) 9 3 _ _ rfl (by decide) rfl (by simp) (λ_ h=>h.elim) _ _ _ (λ_=>rfl) (λ_=>rfl) (λ_=>by repeat (first|exact Or.inl ⟨rfl,rfl,rfl⟩|apply Or.inr)) (λu ρ X g cs T h2 h3 h4 h5 h6 h7=>by simp[execOp,go_sem,T,h2,h3,h5,h6,h7]) ?_;simp only[UW,UX,UY,UZ];refine aK rfl ?_;rintro⟨⟨_,p6⟩,p7⟩ H l hR;dsimp only;have l:Ys J H:=l;obtain⟨g6,v6,C,n6,B6⟩:∃g v,[p6,Value.int .u64 (gH e.o e.s)]=[Yr g,v]/\J.heap.size<=g/\ai H g 32 #[v]:=hR 10 _ _ (by repeat (first|exact Or.inl ⟨rfl,rfl,rfl⟩|apply Or.inr));obtain⟨g7,v7,D,n7,B7⟩:∃g v,[p7,Value.int .i64 (k:Int)]=[Yr g,v]/\J.heap.size<=g/\ai H g 3 #[v]:=hR 11 _ _ (by repeat (first|exact Or.inl ⟨rfl,rfl,rfl⟩|apply Or.inr));injection C with h6 C;injection C with C;injection D with h7 D;injection D with D;subst h6 h7 C D;have B1:aD H [(g6,32,#[.int .u64 (gH e.o e.s)]),(g7,3,#[.int .i64 (k:Int)]),(w.heap.size+1,53,ao e),(w.heap.size,136,#[Yr L.b])]:=aD.cons B6 (aD.cons B7 (HB.o.1.call l));have L1:=HB.o.2.2.call l;have D1:=HB.o.2.1.trans (l.mono HB.o.2.1.size);have I:=U9 (And.intro B1 (And.intro D1 L1));clear hR E;have E:=U9 (λ(X:Yu) (q:ah cM H X)=>And.intro (B1.call q.no).rules (And.intro (B1.call q.no).lts (And.intro (L1.call q.no).blk.rules.1 (L1.call q.no).blk.lt)));have CR:=U9 (λ(X:Yu) (q:Ys H X)=>Pi (L1.call q) HH.o.2.1 (id:=gH e.o e.s) (x:=e.n) (mB _ _) HH.o.2.2.2);have μ:=HH.o.2.1.ow k hk;have N:=Dh m.inn m.kn L.t L.pm L.rm m.ow L.gm L.qm k hk;have Y:(0:Int)<=(k:Int):=by omega
 have Z:(k:Int)<6:=by omega
 clear B6 B7 B1 L1 D1 l CI e1 HW;obtain⟨b1,l⟩:∃b,decide ((5:Int)<=m.ow.get k)=b:=⟨_,rfl⟩;obtain⟨b2,A⟩:∃b,decide ((140737488355328:Int)<e.a)=b:=⟨_,rfl⟩;have M:b1=true\/b2=true->(jW m e).1=6:=λq=>by
  unfold jW;rw[HK.o.2];rw[Vh (q.imp (λh=>by subst h;exact Wo l) (λh=>by subst h;exact Wo A))]
 have α:b1=false->b2=false->jW m e=if lZ m.tr m.p (gH e.o e.s) e.n≠0 then(lZ m.tr m.p (gH e.o e.s) e.n,m)else(0,{m with tr:=lN m.tr (gH e.o e.s) e.n,pa:=putL m.pa (gH e.o e.s) e.n,ow:=m.ow.set e.w (m.ow.get e.w+1),ri:=putL m.ri (gH e.o e.s) (jD z0 e.w e.a)}):=λT h2=>by
  subst T h2;unfold jW;rw[Vf];rw[HK.o.2];rintro(h|h)
  ·exact absurd h (of_decide_eq_false l)
  ·exact absurd h (of_decide_eq_false A)
 have HM:=U9 (Vb M α);clear M α;cases b1 with
 |true=>
  go_wp2_with fail;refine ay [] cM 12 (λ_ h=>h.elim) (by kernel_rfl) (by kernel_rfl) ?_
  iterate 12
   first
   |refine bT rfl ?_;apply aA
    ·intro _ ρ j f i W q;have S:=E.o W q;simp[execOp,go_sem,j,f,i,S,N,Y,Z,l]<;>exact rfl
   |refine al (λ_=>rfl) ?_
   |refine bM (by kernel_rfl) rfl ?_;apply aA
    ·intro u ρ j f i w;simp[execOp,go_sem,j,f,i,N,Y,Z,l]<;>exact rfl
   simp only[UW,UX,UY,UZ]
  refine aK rfl ?_;rintro _ V d-;have d:Ys H V:=d;have U:=U9 (I.o.2.1.trans (d.mono I.o.2.1.size));clear d E;go_wp2_with fail;go_ret2;exact aJ.no (HM.o.1 (by simp)) (by decide) rfl U.o
 |false=>
  cases b2 with
  |true=>
   go_wp2_with fail;refine ay [] cM 12 (λ_ h=>h.elim) (by kernel_rfl) (by kernel_rfl) ?_
   iterate 12
    first
    |refine bT rfl ?_;apply aA
     ·intro _ ρ j f i W q;have S:=E.o W q;simp[execOp,go_sem,j,f,i,S,N,Y,Z,l,A]<;>exact rfl
    |refine al (λ_=>rfl) ?_
    |refine bM (by kernel_rfl) rfl ?_;apply aA
     ·intro u ρ j f i w;simp[execOp,go_sem,j,f,i,N,Y,Z,l,A]<;>exact rfl
    simp only[UW,UX,UY,UZ]
   refine aK rfl ?_;rintro _ V d-;have d:Ys H V:=d;have U:=U9 (I.o.2.1.trans (d.mono I.o.2.1.size));clear d E;go_wp2_with fail;go_ret2;exact aJ.no (HM.o.1 (by simp)) (by decide) rfl U.o
  |false=>
   have Q:=U9 (HM.o.2 (by simp) (by simp));clear HM;go_wp2_with fail;refine ay [] cM 12 (λ_ h=>h.elim) (by kernel_rfl) (by kernel_rfl) ?_
   iterate 12
    first
    |refine bT rfl ?_;apply aA
     ·intro _ ρ j f i W q;have S:=E.o W q;simp[execOp,go_sem,j,f,i,S,N,Y,Z,l,A]<;>exact rfl
    |refine al (λ_=>rfl) ?_
    |refine bM (by kernel_rfl) rfl ?_;apply aA
     ·intro u ρ j f i w;simp[execOp,go_sem,j,f,i,N,Y,Z,l,A]<;>exact rfl
    simp only[UW,UX,UY,UZ]
   refine aK rfl ?_;rintro _ V d-;have d:Ys H V:=d;have B2:=I.o.1.call d;have U:=I.o.2.1.trans (d.mono I.o.2.1.size);have L2:=I.o.2.2.call d;have C2:=U9 (CR.o V d);have H2:=U9 (Vb B2 (Vb U L2));have δ:=d.size;obtain⟨q6,-,q7,-,q1,-,q0,-,-⟩:=B2.rules;obtain⟨l6,l7,l1,l0,-⟩:=B2.lts;generalize lZ m.tr m.p (gH e.o e.s) e.n=re at Q C2;clear d E B2 U L2 CR;go_wp2_with fail;refine C2.o.mono ?_;rintro r W3 ⟨rfl,d⟩;have D3:=U9 (H2.o.2.1.trans (d.mono H2.o.2.1.size));have B3:=U9 (H2.o.1.call d);have L3:=U9 (H2.o.2.2.call d);obtain⟨q6,-,q7,-,q1,-,q0,-,-⟩:=B3.o.rules;obtain⟨l6,l7,l1,l0,-⟩:=B3.o.lts;have η:=d.size;clear C2 d H2;by_cases hz:re=0
   ·subst hz
    go_wp2_with fail;go_ret2;have K:=Q.o;rw[Vf (by simp),HK.o.2]at K;have B4:=B3.o.push (t:=229) (cs:=#[.func (.func 310) #[] #[Yr w.heap.size,Yr g6,Yr (w.heap.size+1),Yr g7]]) rfl;have nm:∀c:Nat,w.heap.size<=c->¬L.mem c:=λc N hm=>by have:=HH.o.1.lt c hm;omega
    rw[K];refine⟨_,rfl,D3.o,λhn=>absurd rfl hn,λ_=>⟨_,_,rfl,λ_ _=>by kernel_rfl,λW q=>?_⟩⟩;have B:=B3.o.call q;exact pF (OZ (L3.o.call q) HH.o.2.1 B.drop.drop.drop.head B.head B.drop.drop.head B.drop.head hk (mB _ _) HH.o.2.2.2 (nm _ (by omega)) (nm _ (by omega)) (nm _ (by omega)) (nm _ (by omega)))
   ·have ι:(re !=0)=true:=by simpa using hz
    have HZ:=U9 hz;clear hz;go_wp2_with fail;go_ret2;refine aJ.no (x:=re) ?_ HZ.o rfl D3.o;rw[Q.o];exact Vt Prod.fst (Vh HZ.o)
end
section
variable{w w':Yu}{L:LB}{m:az}
theorem Dg{R:List ((Int×Int)×gF)}(h:aZ Gq w g R)(b:fa o s):(Instr.lookup 168 (.map (some g)) (.agg #[.int .i64 o,.int .u64 s]) true).run prog w=.ok (.tuple #[.agg (eu ((lk R (o,s)).getD ⟨0,0,0,0,0⟩)),.bool (lk R (o,s)).isSome]) w:=h.look2 sT (a:=(o,s)) b
theorem LK(h:dD w L m)(hm:m.ok)(e:Ev)(he:Bb e)(hr:aT e.r)(hf:aT e.f):
  Yt 305 #[Yr L.b,.agg (ao e)] w (aJ w L (ie m e)):=by
 obtain⟨a,C,E,H,D,A,G,i,c⟩:=e;have κ:fa a i:=he.nm hr;have θ:fa a c:=he.nm hf;have Q:=U9 (Vb h (Vb hm (Vb he (Vb κ θ))));clear h hm he hr hf κ θ;go_enter func305,ntmps305;go_wp2_with fail;rename_i K hK
 have HK:∀(g6 g7:Nat) (W0:Yu),aD W0 [(g6,175,fy a i),(g7,175,fy a c),(w.heap.size+1,53,ao ⟨a,C,E,H,D,A,G,i,c⟩),(w.heap.size,136,#[Yr L.b])]->Ys w W0->w.heap.size+2<=g6->w.heap.size+2<=g7->g6≠g7->K {tmps:=#[Yr L.b,.agg (ao ⟨a,C,E,H,D,A,G,i,c⟩),Yr w.heap.size,Yr (w.heap.size+1),.nilFunc,.int .i64 0,Yr g6,Yr g7,undef,undef,undef,undef,
   .pointer (some ⟨w.heap.size+1,0,none⟩),.int .i64 a,.pointer (some ⟨w.heap.size+1,12,none⟩),.int .u64 i,.agg #[.int .i64 a,.int .u64 i],Yr (w.heap.size+1),.int .i64 a,.pointer (some ⟨w.heap.size+1,13,none⟩),.int .u64 c,.agg #[.int .i64 a,.int .u64 c],undef,undef,undef,undef,undef,undef,undef,undef,undef,undef,undef,undef,undef,undef,undef,undef,undef,undef,undef,undef,undef,undef,undef,undef,undef,undef,undef,undef,undef,undef,undef,undef,undef,undef],defers:=[]} W0:=by
  intro g6 g7 W0 B0 D0 n6 n7 Ψ;apply hK;clear hK;dsimp only;have H0:=U9 (And.intro B0 (And.intro D0 (Q.o.1.call D0)));have HF:=U9 (λ(X:Yu) (P:Ys W0 X)=>And.intro (B0.call P).rules (And.intro (B0.call P).lts (And.intro (H0.o.2.2.call P).blk.rules.1 (And.intro (H0.o.2.2.call P).blk.lt (Iy (H0.o.2.2.call P).qs Q.o.2.2.2.1)))));clear B0 D0;go_wp2_with fail;refine bS (by kernel_rfl) (by kernel_rfl) ?_
  iterate 6
   first
   |refine dq HF.o rfl ?_
   |refine aw (λ_=>rfl) ?_
   simp only[UW,UX,UY,UZ]
  refine aH ?_;intro _ O Z;have M:=U9 (Vb (H0.o.1.call Z) (Vb (H0.o.2.1.trans (Z.mono H0.o.2.1.size)) (H0.o.2.2.call Z)));have HQ:=U9 (show m.q (a,i)=(lk m.qs (a,i)).getD false from rfl);generalize (lk m.qs (a,i)).getD false=bq at HQ⊢;clear HF Z H0;cases bq with
  |true=>
   go_wp2_with fail;go_ret2;refine aJ.no ?_ (by decide) rfl M.o.2.1;unfold ie;rw[show m.q ((⟨a,C,E,H,D,A,G,i,c⟩:Ev).o,(⟨a,C,E,H,D,A,G,i,c⟩:Ev).r)=true from HQ.o]
   rfl
  |false=>
   go_wp2_with fail;rename_i K2 η;have HG:=U9 (show m.g (a,c)=(lk m.gr (a,c)).getD ⟨0,0,0,0,0⟩from rfl);generalize (lk m.gr (a,c)).getD ⟨0,0,0,0,0⟩=gr at HG⊢;obtain⟨n,j,d,I,N⟩:=gr
   have σ:K2 {tmps:=#[Yr L.b,.agg (ao ⟨a,C,E,H,D,A,G,i,c⟩),Yr w.heap.size,Yr (w.heap.size+1),.nilFunc,.int .i64 0,Yr g6,Yr g7,Yr O.heap.size,.bool (lk m.gr (a,c)).isSome,undef,undef,
    .pointer (some ⟨w.heap.size+1,0,none⟩),.int .i64 a,.pointer (some ⟨w.heap.size+1,12,none⟩),.int .u64 i,.agg #[.int .i64 a,.int .u64 i],Yr (w.heap.size+1),.int .i64 a,.pointer (some ⟨w.heap.size+1,13,none⟩),.int .u64 c,.agg #[.int .i64 a,.int .u64 c],
    .pointer (some ⟨L.b,0,none⟩),Yr L.b,.pointer (some ⟨L.b,28,none⟩),.map (some L.qm),.agg #[.int .i64 a,.int .u64 i],.bool false,.tuple #[.agg #[.int .i64 n,.int .u64 j,.int .u64 d,.int .i64 I,.int .u64 N],.bool (lk m.gr (a,c)).isSome],
    .pointer (some ⟨L.b,0,none⟩),Yr L.b,.pointer (some ⟨L.b,27,none⟩),.map (some L.gm),.agg #[.int .i64 a,.int .u64 c],.tuple #[.agg #[.int .i64 n,.int .u64 j,.int .u64 d,.int .i64 I,.int .u64 N],.bool (lk m.gr (a,c)).isSome],.agg #[.int .i64 n,.int .u64 j,.int .u64 d,.int .i64 I,.int .u64 N],.bool (lk m.gr (a,c)).isSome,undef,undef,undef,undef,undef,undef,undef,undef,undef,undef,undef,undef,undef,undef,undef,undef,undef,undef,undef],defers:=[]} (O.alloc (.cells #[.int .i64 n,.int .u64 j,.int .u64 d,.int .i64 I,.int .u64 N] 85)).drew:=by
    apply η;clear η;dsimp only;have B2:aD (O.alloc (.cells #[.int .i64 n,.int .u64 j,.int .u64 d,.int .i64 I,.int .u64 N] 85)).drew ((O.heap.size,85,eu ⟨n,j,d,I,N⟩)::_):=(M.o.1.push (t:=85) (cs:=#[.int .i64 n,.int .u64 j,.int .u64 d,.int .i64 I,.int .u64 N]) rfl).drew;have D2:Ys O (O.alloc (.cells #[.int .i64 n,.int .u64 j,.int .u64 d,.int .i64 I,.int .u64 N] 85)).drew:=((Below.refl _ _).alloc (Nat.le_refl _) _).drew;have Δ:(O.alloc (.cells #[.int .i64 n,.int .u64 j,.int .u64 d,.int .i64 I,.int .u64 N] 85)).drew.heap.size=O.heap.size+1:=by simp
    generalize (O.alloc (.cells #[.int .i64 n,.int .u64 j,.int .u64 d,.int .i64 I,.int .u64 N] 85)).drew=W2 at B2 D2 Δ⊢;have Ξ:=M.o.2.1.size;have V:=U9 (Vb B2 (Vb (M.o.2.1.trans (D2.mono M.o.2.1.size)) (M.o.2.2.call D2)));have HS:=U9 (show(lk m.gr (a,c)).isSome=(lk m.gr (a,c)).isSome from rfl);generalize ι:(lk m.gr (a,c)).isSome=bs;have δ:=U9 ι;obtain⟨q8,-,q6,-,q7,-,q1,-,q0,-,-⟩:=B2.rules;obtain⟨l8,l6,l7,l1,l0,-⟩:=B2.lts;have n6':=M.o.1.lts.1;have n7':=M.o.1.lts.2.1;clear HS ι B2 D2 M;have π:bs=false\/N≠0->(ie m (⟨a,C,E,H,D,A,G,i,c⟩:Ev)).1=12:=λP=>by
     unfold ie;rw[show m.q ((⟨a,C,E,H,D,A,G,i,c⟩:Ev).o,(⟨a,C,E,H,D,A,G,i,c⟩:Ev).r)=false from HQ.o,show m.g ((⟨a,C,E,H,D,A,G,i,c⟩:Ev).o,(⟨a,C,E,H,D,A,G,i,c⟩:Ev).f)=⟨n,j,d,I,N⟩from HG.o,show(lk m.gr ((⟨a,C,E,H,D,A,G,i,c⟩:Ev).o,(⟨a,C,E,H,D,A,G,i,c⟩:Ev).f)).isSome=bs from δ.o];rw[Vf (by simp),Vh P]
    have β:=U9 π;clear π;cases bs with
    |false=>
     go_wp2_with fail;go_ret2;exact aJ.no (β.o (.inl (by simp))) (by decide) rfl V.o.2.1
    |true=>
     by_cases Y:N=0
     ·subst Y
      have ψ:=Q.o.2.1.gi ((a,c),⟨n,j,d,I,0⟩) (by
       have hs:=δ.o;obtain⟨v,hv⟩:=V6.1 hs;have hg:=HG.o;unfold az.g at hg;rw[hv]at hg;obtain rfl:v=⟨n,j,d,I,0⟩:=hg;exact bK hv)
      obtain⟨-,-,Γ,τ,-⟩:=ψ;have TT:xV W2 317 #[Yr (w.heap.size+1),Yr O.heap.size] (λf=>gh f (⟨a,C,E,H,D,A,G,i,c⟩:Ev).w I):=
       ⟨λ_ _=>by kernel_rfl,λf W hf P=>Pu (g:=⟨n,j,d,I,0⟩) (V.o.1.drop.drop.drop.head.call P) (V.o.1.head.call P) Q.o.2.2.1 (Int.le_trans (by decide) τ.1) τ.2 f hf⟩
      have CA:=U9 (DK V.o.2.2 Q.o.2.1 (x:=d) Γ TT);clear TT;go_wp2_with fail;refine CA.o.mono ?_;rintro r W3 ⟨v,rfl,T,S,J⟩;rw[qB]at S J⊢;generalize φ:eA m (λf=>gh f (⟨a,C,E,H,D,A,G,i,c⟩:Ev).w I) (aC m.tr d)=ae at S J⊢;have ξ:=U9 φ;have H3:=U9 (Vb (V.o.1.call T) (Vb (V.o.2.1.trans (T.mono V.o.2.1.size)) (V.o.2.2.call T)));have Φ:=T.size;have γ:ie m (⟨a,C,E,H,D,A,G,i,c⟩:Ev)=if ae≠0 then(ae,m)else(0,{m with ri:=fN m (λf=>gh f (⟨a,C,E,H,D,A,G,i,c⟩:Ev).w I) (aC m.tr d),qs:=putL m.qs (a,i) true,gr:=putL m.gr (a,c) ⟨n,j,d,I,i⟩}):=by
       unfold ie;rw[show m.q ((⟨a,C,E,H,D,A,G,i,c⟩:Ev).o,(⟨a,C,E,H,D,A,G,i,c⟩:Ev).r)=false from HQ.o,show m.g ((⟨a,C,E,H,D,A,G,i,c⟩:Ev).o,(⟨a,C,E,H,D,A,G,i,c⟩:Ev).f)=⟨n,j,d,I,0⟩from HG.o,show(lk m.gr ((⟨a,C,E,H,D,A,G,i,c⟩:Ev).o,(⟨a,C,E,H,D,A,G,i,c⟩:Ev).f)).isSome=true from δ.o];rw[Vf (by simp),Vf (by simp)];rw[<-ξ.o]
      have α:=U9 γ;clear φ T CA q8 q6 q7 q1 q0 l8 l6 l7 l1 l0 γ;by_cases hz:ae=0
      ·subst hz
       rw[qA ξ.o]at J;have HD:=U9 (J rfl);clear J S;obtain⟨f,U,hv,-⟩:=HD.o;subst hv;go_wp2_with fail;go_ret2;have B4:aD (W3.alloc (.cells #[.func (.func f) #[] U] 229)) ((W3.heap.size,229,#[.func (.func f) #[] U])::_):=H3.o.1.push rfl;have D4:Ys W3 (W3.alloc (.cells #[.func (.func f) #[] U] 229)):=(Vd _ _).alloc (Vc _) _;rw[α.o,Vf (by simp)];refine⟨_,rfl,H3.o.2.1.trans (D4.mono H3.o.2.1.size),λhn=>absurd rfl hn,λ_=>⟨_,_,rfl,λ_ _=>by kernel_rfl,λW P=>?_⟩⟩;have B:=B4.call P;have nw:∀k:Nat,w.heap.size<=k->k<W2.heap.size->¬fO L W2.heap.size W3 k:=λk h1 h2 ho=>by
        rcases ho with ho|ho
        ·have:=Q.o.1.lt _ ho;omega
        ·omega
       have ω:Ys W3 W:=D4.trans (P.mono (by simp));refine(Pt (g:=⟨n,j,d,I,0⟩) HD.o ω B.head B.drop.drop.drop.drop.drop.head B.drop.drop.head B.drop.drop.drop.drop.head B.drop.head B.drop.drop.drop.head Q.o.2.2.2.1 Q.o.2.2.2.2 (nw _ (by omega) (by omega)) (nw _ (by omega) (by omega)) (nw _ (by omega) (by omega)) (nw _ (by omega) (by omega)) (nw _ (by omega) (by omega)) (by omega) (by omega) (by omega) (by omega)).mono ?_;rintro r W' ⟨h1,h2,h3⟩;refine⟨h1,h2,h3.mono λk hk=>?_⟩;rcases hk with(hk|hk)|hk
       ·exact .inl hk
       ·exact .inr ⟨by omega,by simp;omega⟩
       ·exact .inr ⟨by omega,by simp;omega⟩
      ·have hv:=S hz
       have Ω:(ae !=0)=true:=by simpa using hz
       clear J S;subst hv;have HZ:=U9 hz;clear hz;go_wp2_with fail;go_ret2;refine aJ.no (x:=ae) ?_ HZ.o rfl (H3.o.2.1.trans (((Vd _ _).alloc (Vc _) _).mono H3.o.2.1.size));rw[α.o];exact Vt Prod.fst (Vh (show ae≠0 from HZ.o))
     ·have Θ:(N !=0)=true:=by simpa using Y
      have χ:=U9 Y;clear Y;go_wp2_with fail;go_ret2;exact aJ.no (β.o (.inr χ.o)) (by decide) rfl V.o.2.1
   clear η;have ν:=U9 σ;clear σ;have ε:=Dg (M.o.2.2.gr.same (w':=O.drew) rfl) Q.o.2.2.2.2;have ζ:=Dg (M.o.2.2.gr.call (w':=(O.alloc (.cells #[.int .i64 0,.int .u64 0,.int .u64 0,.int .i64 0,.int .u64 0] 85)).drew) (((Vd O.heap.size O).alloc (by omega) _).drew)) Q.o.2.2.2.2;have υ:(lk m.gr (a,c)).getD ⟨0,0,0,0,0⟩=(⟨n,j,d,I,N⟩:gF):=HG.o;rw[υ]at ε ζ;obtain⟨q6,-,q7,-,q1,-,q0,-,-⟩:=M.o.1.rules;obtain⟨l6,l7,l1,l0,-⟩:=M.o.1.lts;obtain⟨q,-⟩:=M.o.2.2.blk.rules;have l:=M.o.2.2.blk.lt;unfold eu at ε ζ;simp only at ε ζ;clear Q M υ HG
   go_region
   all_goals
    simp only[Act.put,XT,XF,XG,Xe,XA,Yf];exact ν.o
 clear hK Q;have μ:=U9 HK;clear HK
 go_region
 all_goals
  try simp only[Act.put,XT,XF,XG,Xe,XA,Yf]
  first
  |(refine μ.o _ _ _ (aD.perm (bs:=[(w.heap.size+1+1+1,175,fy a c),(w.heap.size+1+1,175,fy a i),(w.heap.size+1,53,ao ⟨a,C,E,H,D,A,G,i,c⟩),(w.heap.size,136,#[Yr L.b])]) (aD.drew ((((aD.nil.push (g:=w.heap.size) rfl).push (g:=w.heap.size+1) (by simp)).push (t:=175) (cs:=fy a i) (g:=w.heap.size+1+1) (by simp)).push (t:=175) (cs:=fy a c) (g:=w.heap.size+1+1+1) (by simp))) ?_) (Below.drew (((((Vd w.heap.size w).alloc (by simp<;>omega) _).alloc (by simp<;>omega) _).alloc (by simp<;>omega) _).alloc (by simp<;>omega) _)) (by omega) (by omega) (by omega)
    intro y hy;simp only[Vy,WX,WR]at hy;rcases hy with rfl|rfl|rfl|rfl<;>simp)
  |(refine μ.o _ _ _ (aD.perm (bs:=[(w.heap.size+1+1+1,175,fy a i),(w.heap.size+1+1,175,fy a c),(w.heap.size+1,53,ao ⟨a,C,E,H,D,A,G,i,c⟩),(w.heap.size,136,#[Yr L.b])]) (aD.drew ((((aD.nil.push (g:=w.heap.size) rfl).push (g:=w.heap.size+1) (by simp)).push (t:=175) (cs:=fy a c) (g:=w.heap.size+1+1) (by simp)).push (t:=175) (cs:=fy a i) (g:=w.heap.size+1+1+1) (by simp))) ?_) (Below.drew (((((Vd w.heap.size w).alloc (by simp<;>omega) _).alloc (by simp<;>omega) _).alloc (by simp<;>omega) _).alloc (by simp<;>omega) _)) (by omega) (by omega) (by omega)
    intro y hy;simp only[Vy,WX,WR]at hy;rcases hy with rfl|rfl|rfl|rfl<;>simp)
end
section
variable{w w':Yu}{L:LB}{m:az}
theorem LF(h:dD w L m)(hm:m.ok)(e:Ev)(N:Bb e)(U:aT e.n)(ht:1<=e.t):
  Yt 306 #[Yr L.b,.agg (ao e)] w (aJ w L (jU m e)):=by
 obtain⟨k,hk,β⟩:∃k:Nat,k<6/\e.o=(k:Int)+1:=⟨(e.o-1).toNat,by have:=N.o1;have:=N.o2;omega,by have:=N.o1;omega⟩;have hw:e.w=k:=by unfold Ev.w;omega
 obtain⟨j,hj,δ⟩:∃j:Nat,j<6/\e.t=(j:Int)+1:=⟨(e.t-1).toNat,by have:=N.t2;omega,by have:=N.t2;omega⟩;have Y:e.to_=j:=by unfold Ev.to_;omega
 have G:aD ((w.alloc (.cells #[Yr L.b] 136)).alloc (.cells (ao e) 53)) [(w.heap.size+1,53,ao e),(w.heap.size,136,#[Yr L.b])]:=((aD.nil.push (g:=w.heap.size) rfl).push (g:=w.heap.size+1) (by simp));have D0:Ys w ((w.alloc (.cells #[Yr L.b] 136)).alloc (.cells (ao e) 53)):=(((Vd w.heap.size w).alloc (by simp<;>omega) _).alloc (by simp<;>omega) _);obtain⟨i,J⟩:∃i,i=(w.alloc (.cells #[Yr L.b] 136)).alloc (.cells (ao e) 53):=⟨_,rfl⟩;have θ:i.heap.size=w.heap.size+2:=by rw[J];simp
 rw[<-J]at G D0;have A:=h.call D0;have X:=U9 (Vb G (Vb D0 A));have HH:=U9 (Vb h (Vb N hm));have HF:=U9 (λ(W:Yu) (v:Ys i W)=>Vb (G.call v).rules (Vb (G.call v).lts (Vb (A.call v).blk.rules (Vb (A.call v).blk.lt (ng (A.call v).ri U)))));have HW:=U9 J;have V:=U9 (Vb hw Y);have ζ:=N.a1;have ξ:=N.a2;clear J D0 h N hm hw Y ht;obtain⟨eo,es,ed,ek,c,et,O,er,ef⟩:=e;simp only at β δ ζ ξ;subst β δ;go_enter func306,ntmps306;go_wp2_with fail;rw[show((w.alloc (.cells #[Yr L.b] 136)).alloc _)=i from HW.o.symm];have BA:=U9 (G.push (t:=80) (cs:=aG z0) (g:=w.heap.size+2) θ);rename_i K hK
 have HK:K {tmps:=#[Yr L.b,.agg (ao ⟨(k:Int)+1,es,ed,ek,c,(j:Int)+1,O,er,ef⟩),Yr w.heap.size,Yr (w.heap.size+1),.nilFunc,.int .i64 0,Yr (w.heap.size+2),.bool (lk m.ri c).isSome,undef,
   .tuple #[.agg (aG ((lk m.ri c).getD z0)),.bool (lk m.ri c).isSome],Yr L.b,Yr L.b,.pointer (some ⟨L.b,20,none⟩),.map (some L.rm),.pointer (some ⟨w.heap.size+1,9,none⟩),.int .u64 c,.tuple #[.agg (aG ((lk m.ri c).getD z0)),.bool (lk m.ri c).isSome],
   .agg (aG ((lk m.ri c).getD z0)),.bool (lk m.ri c).isSome,undef,undef,undef,undef,undef,undef,undef,undef,undef,undef,undef,undef,undef,undef,undef,undef,undef,undef,undef,undef,undef,undef,undef,undef,undef,undef,undef,undef],defers:=[]} ((i.alloc (.cells (aG z0) 80)).drew.setRow (w.heap.size+2) (aG ((lk m.ri c).getD z0))):=by
  apply hK;dsimp only;have Z:=BA.o.drew.row (by refine⟨?_,?_,trivial⟩<;>omega) (aG ((lk m.ri c).getD z0));have D1:Ys i ((i.alloc (.cells (aG z0) 80)).drew.setRow (w.heap.size+2) (aG ((lk m.ri c).getD z0))):=Below.rowN ((Below.refl _ _).alloc (by omega) _).drew (by omega) _;generalize ((i.alloc (.cells (aG z0) 80)).drew.setRow (w.heap.size+2) (aG ((lk m.ri c).getD z0)))=W1 at Z D1⊢;have a:=U9 (And.intro Z (And.intro D1 (A.call D1)));have T:=HH.o.2.2.r c k (by omega);obtain⟨q2,g2,q1,-,q0,-,-⟩:=Z.rules;obtain⟨l2,l1,l0,-⟩:=Z.lts;clear hK HF A G Z D1 BA HW;unfold az.r at T;generalize hr:lk m.ri c=R at T a q2⊢;have E:=U9 hr;clear hr;cases R with
  |none=>
   go_wp2_with fail;go_ret2;refine aJ.no ?_ (by decide) rfl (X.o.2.1.trans (a.o.2.1.mono X.o.2.1.size));unfold jU;rw[Vh (by rw[E.o];rfl)]
  |some f=>
   have P:=HH.o.2.2.r c;unfold az.r at P;rw[E.o]at P;simp only[Xr]at P a q2⊢;clear T;have μ:=U9 P;have j0:(0:Int)<=(j:Int):=by omega
   have j6:(j:Int)<6:=by omega
   have e1:IntKind.i64.wrap (j:Int)=(j:Int):=VE _ (by omega);have hc:=sY m.inn m.kn L.t L.pm L.rm m.ow L.gm L.qm j hj;obtain⟨p,-⟩:=a.o.2.2.blk.rules;have l:=a.o.2.2.blk.lt;have α:=U9 (λ(W:Yu) (v:Ys W1 W)=>Vb (a.o.1.call v).rules (Vb (a.o.1.call v).lts (Vb (a.o.2.2.call v).blk.rules.1 (a.o.2.2.call v).blk.lt)));go_wp2_with fail;refine bS (by kernel_rfl) (by kernel_rfl) ?_
   iterate 10
    first
    |refine dx rfl ?_;apply aA
     ·intro _ ρ ν η κ W v;have hq:=α.o W v;simp[execOp,go_sem,ν,η,κ,hq,e1,hc,j0,j6]<;>exact rfl
    |refine aw (λ_=>rfl) ?_
    simp only[UW,UX,UY,UZ]
   refine aH ?_;intro _ W2 S;have B2:=a.o.1.call S;have D2:=a.o.2.1.trans (S.mono a.o.2.1.size);have d:=U9 (Vb B2 (Vb (X.o.2.1.trans (D2.mono X.o.2.1.size)) ((X.o.2.2).call D2)));clear B2 D2 S α a;generalize ε:m.inn j=b;have γ:=U9 ε;clear ε;cases b with
   |false=>
    go_wp2_with fail;go_ret2;refine aJ.no ?_ (by decide) rfl d.o.2.1;unfold jU;rw[Vf (by rw[E.o];simp),V.o.2,γ.o]
    rfl
   |true=>
    have CM:=U9 (λW=>Pm f μ.o k hk j hj O (by omega) W);have Q:jU m ⟨(k:Int)+1,es,ed,ek,c,(j:Int)+1,O,er,ef⟩=(if(fF f k j O).1≠0 then((fF f k j O).1,m)else(0,{m with ri:=putL m.ri c (fF f k j O).2})):=by
     unfold jU;rw[Vf (by rw[E.o];simp),V.o.2,V.o.1,γ.o];unfold az.r;rw[E.o]
     rfl
    have C:=U9 Q;have hx:-9223372036854775808<=(fF f k j O).1/\(fF f k j O).1<=9223372036854775807:=by
     unfold fF putR;split
     ·simp
     split
     ·simp
     split
     ·simp
     split<;>simp
    generalize fF f k j O=rs at CM C hx;obtain⟨H,fr⟩:=rs;obtain⟨q2,g2,q1,-,q0,-,-⟩:=d.o.1.rules;obtain⟨l2,l1,l0,-⟩:=d.o.1.lts;have hl:=fG d.o.1.head.rng;have HN:=U9 U;clear Q hj hk U;go_wp2_with fail;refine(CM.o _).mono ?_;rintro r W3 ⟨rfl,I⟩;have B3:=d.o.1.call I;have D:=U9 (Vb B3 (Vb (d.o.2.1.trans (I.mono d.o.2.1.size)) (d.o.2.2.call I)));clear CM B3 I q2 g2 q1 q0 l2 l1 l0 hl;obtain⟨q2,g2,q1,-,q0,-,-⟩:=D.o.1.rules;obtain⟨l2,l1,l0,-⟩:=D.o.1.lts;have τ:=kO D.o.1.head fr;have B4:=D.o.1.row (by refine⟨?_,?_,trivial⟩<;>omega) (aG fr);have σ:i.heap.size<=w.heap.size+2:=by omega
    have D4:Ys w (W3.setRow (w.heap.size+2) (aG fr)):=Below.rowN D.o.2.1 (by omega) _;have L4:dD (W3.setRow (w.heap.size+2) (aG fr)) L m:=HH.o.1.call D4;have M:=U9 (Vb B4 (Vb D4 L4));clear B4 D4 L4;by_cases hz:H=0
    ·subst hz
     go_wp2_with fail;go_ret2;rw[C.o];refine⟨_,rfl,M.o.2.1,λU=>absurd rfl U,λ_=>⟨_,_,rfl,λ_ _=>by kernel_rfl,λW v=>?_⟩⟩;have B:=M.o.1.call v;exact pF (UH (M.o.2.2.call v) B.head B.drop.drop.head B.drop.head HN.o)
    ·have φ:(H==0)=false:=by simpa using hz
     go_wp2_with fail;go_ret2;refine aJ.no (x:=H) ?_ hz rfl M.o.2.1;rw[C.o];exact Vt Prod.fst (Vh (show ¬H=0 from hz))
 clear hK;have ST:=Iq BA.o.drew.head;have SZ:=dZ;have π:=ng (A.ri.same (w':=i.drew) rfl) U;have υ:=ng (A.ri.same (w':=(i.alloc (.cells (aG z0) 80)).drew) (((Vd i.heap.size i).alloc (by omega) (.cells (aG z0) 80)).drew.block _ A.ri.lt)) U;obtain⟨q1,-,q0,-,-⟩:=G.rules;obtain⟨l1,l0,-⟩:=G.lts;obtain⟨q,fz⟩:=A.blk.rules;have l:=A.blk.lt;obtain⟨p2,f2,p1,-,p0,-,-⟩:=BA.o.rules;obtain⟨p,-⟩:=(A.call ((Vd i.heap.size i).alloc (by omega) (.cells (aG z0) 80))).blk.rules;have ι:=U9 HK;clear G A X HH HF HW BA HK
 go_region
 all_goals
  simp only[Act.put,XT,XF,XG,Xe,XA,Yf];exact ι.o
end
theorem ly(v:av)(e:Ev)(a:e.ok)(b:Bool)(h:dJ v e=b)(w:Yu):Yt 91 #[.agg (aq v),.agg (ao e)] w λr w'=>r=.returned (.bool b)/\Ys w w':=by
 subst h;exact Ov v e a w
theorem yC(v:av)(e:Ev)(a:e.ok)(b:Bool)(h:eS v e=b)(w:Yu):Yt 92 #[.agg (aq v),.agg (ao e)] w λr w'=>r=.returned (.bool b)/\Ys w w':=by
 subst h;exact Cn v e a w
section
variable{w w':Yu}{L:LB}{m:az}
theorem IB(h:dD w L m)(d:m.ok)(e:Ev)(c:e.ok)(i:aX e=true):∃f:FuncId,Dp[e.k.toNat]? =some (.func (.func f) #[] #[])/\(∀args w,(callFunc f args).run prog w=.ok (.enter f args) w)/\
  Calls prog f #[Yr L.b,.agg (ao e)] w (aJ w L (cX m e)):=by
 have a:=ji i;have v:=a.k1;have q:=a.k2;have j:bU e=true:=by unfold aX at i;simp only[Vo]at i;exact i.2.1
 have key:e.k=1\/e.k=2\/e.k=3\/e.k=4\/e.k=5\/e.k=6\/e.k=7:=by omega
 have l:e.k=5\/e.k=6->1<=e.t/\e.t<=6:=λhk=>by
  unfold bU In cB at j;rcases hk with hk|hk<;>·simp[hk]at j;omega
 rcases key with hk|hk|hk|hk|hk|hk|hk
 ·refine⟨302,by rw[hk];rfl,λ_ _=>by kernel_rfl,?_⟩
  rw[show cX m e=jW m e from by unfold cX;rw[Vh hk]];exact LG h d e a c.n
 ·refine⟨303,by rw[hk];rfl,λ_ _=>by kernel_rfl,?_⟩
  rw[show cX m e=iu m e from by unfold cX;rw[Vf (by omega),Vh hk]];exact GK h d e a c.n
 ·refine⟨304,by rw[hk];rfl,λ_ _=>by kernel_rfl,?_⟩
  rw[show cX m e=hU m e from by unfold cX;rw[Vf (by omega),Vf (by omega),Vh hk]];exact LA h d e a c.n c.r
 ·refine⟨305,by rw[hk];rfl,λ_ _=>by kernel_rfl,?_⟩
  rw[show cX m e=ie m e from by unfold cX;rw[Vf (by omega),Vf (by omega),Vf (by omega),Vh hk]];exact LK h d e a c.r c.f
 ·refine⟨306,by rw[hk];rfl,λ_ _=>by kernel_rfl,?_⟩
  rw[show cX m e=jU m e from by unfold cX;rw[Vf (by omega),Vf (by omega),Vf (by omega),Vf (by omega),Vh hk]];exact LF h d e a c.n (l (.inl hk)).1
 ·refine⟨307,by rw[hk];rfl,λ_ _=>by kernel_rfl,?_⟩
  rw[show cX m e=pR m e from by unfold cX;rw[Vf (by omega),Vf (by omega),Vf (by omega),Vf (by omega),Vf (by omega),Vh hk]];exact LJ h e (l (.inr hk))
 ·refine⟨308,by rw[hk];rfl,λ_ _=>by kernel_rfl,?_⟩
  rw[show cX m e=mv m e from by unfold cX;rw[Vf (by omega),Vf (by omega),Vf (by omega),Vf (by omega),Vf (by omega),Vf (by omega)]];exact GL h e ⟨a.o1,a.o2⟩
theorem aJ.up{j:Yu}(D:Ys w j)(h:aJ j L p r w'):aJ w L p r w':=by
 obtain⟨v,A,E,C,B⟩:=h;refine⟨v,A,D.trans (E.mono D.size),C,λH=>?_⟩;obtain⟨f,d,q,G,l⟩:=B H;refine⟨f,d,q,G,λW n=>(l W n).mono λr I ⟨a,b,c⟩=>⟨a,b,c.mono λk i=>?_⟩⟩;rcases i with i|⟨x,y⟩
 ·exact .inl i
 ·exact .inr ⟨Vi D.size x,y⟩
theorem aJ.later{j:Yu}(h:aJ w L p r w')(D:Ys w' j):aJ w L p r j:=by
 obtain⟨v,B,l,E,C⟩:=h;refine⟨v,B,l.trans (D.mono l.size),E,λH=>?_⟩;obtain⟨f,d,A,G,n⟩:=C H;refine⟨f,d,A,G,λW q=>(n W (D.trans (q.mono D.size))).mono λr I ⟨a,b,c⟩=>⟨a,b,c.mono λk i=>?_⟩⟩;rcases i with i|⟨x,y⟩
 ·exact .inl i
 ·exact .inr ⟨x,Vq y D.size⟩
theorem DI(h:dD w L m)(hm:m.ok)(hT:dh w)(e:Ev)(he:e.ok):
  Yt 90 #[Yr L.b,.agg (ao e)] w (aJ w L (bE m e)):=by
 have B0:aD (w.alloc (.cells (ao e) 53)) [(w.heap.size,53,ao e)]:=aD.nil.push (g:=w.heap.size) rfl;have D0:Ys w (w.alloc (.cells (ao e) 53)):=(Vd w.heap.size w).alloc (by simp<;>omega) _;have D:=U9 (Vb h (Vb hm (Vb hT (Vb he (Vb B0 D0)))));obtain⟨b1,γ⟩:∃b,aX e=b:=⟨_,rfl⟩;obtain⟨b2,S⟩:∃b,dJ m.kn e=b:=⟨_,rfl⟩;obtain⟨b3,T⟩:∃b,eS m.kn e=b:=⟨_,rfl⟩;have CM:=U9 λX=>ii e he b1 γ X
 have CL:=U9 λX=>ly m.kn e he b2 S X
 have CR:=U9 λX=>yC m.kn e he b3 T X
 have A:=U9 (Vb γ (Vb S T));clear h hm hT he B0 D0 γ S T;go_enter func90,ntmps90;go_wp2_with fail;refine(CM.o _).mono ?_;rintro r W1 ⟨rfl,Q⟩;have D1:=D.o.2.2.2.2.2.trans (Q.mono (by simp));have B1:=D.o.2.2.2.2.1.call Q;have L1:=D.o.1.call D1;have H1:=U9 (Vb D1 (Vb B1 L1));have B:=U9 (λ(X:Yu) (c:ah cM W1 X)=>Vb (B1.call c.no).rules (Vb (B1.call c.no).lts (Vb (L1.call c.no).blk.rules.1 (L1.call c.no).blk.lt)));clear Q D1 B1 L1;cases b1 with
 |false=>
  go_wp2_with fail;go_ret2;exact aJ.no (x:=1) (by unfold bE;rw[Vh A.o.1]) (by decide) rfl H1.o.1
 |true=>
 go_wp2_with fail;refine ay [] cM 7 (λ_ h=>h.elim) (by kernel_rfl) (by kernel_rfl) ?_
 iterate 5
  first
  |refine eV B.o rfl ?_
  |refine al (λ_=>rfl) ?_
  |refine bH rfl ?_
  simp only[UW,UX,UY,UZ]
 refine cU (λ_=>rfl) (Vm rfl) 91 (λ_=>#[.agg (aq m.kn),.agg (ao e)]) _ (λ_ w=>by simp[execOp,go_sem]<;>rfl) (λ_ X _=>CL.o X) ?_;simp only[UW,UX,UY,UZ]
 iterate 1
  first
  |refine eV B.o rfl ?_
  |refine al (λ_=>rfl) ?_
  |refine bH rfl ?_
  simp only[UW,UX,UY,UZ]
 refine aK rfl ?_;rintro _ W2 n-;have n:Ys W1 W2:=n;have D2:=H1.o.1.trans (n.mono H1.o.1.size);have B2:=H1.o.2.1.call n;have L2:=H1.o.2.2.call n;have H2:=U9 (Vb D2 (Vb B2 L2));have Z:=U9 (λ(X:Yu) (c:ah cM W2 X)=>Vb (B2.call c.no).rules (Vb (B2.call c.no).lts (Vb (L2.call c.no).blk.rules.1 (L2.call c.no).blk.lt)));clear n D2 B2 L2 B H1 CM CL;cases b2 with
 |true=>
  go_wp2_with fail;go_ret2;exact aJ.no (x:=14) (by unfold bE;rw[Vf (by rw[A.o.1];simp),Vh A.o.2.1]) (by decide) rfl H2.o.1
 |false=>
 go_wp2_with fail;refine ay [] cM 8 (λ_ h=>h.elim) (by kernel_rfl) (by kernel_rfl) ?_
 iterate 5
  first
  |refine eV Z.o rfl ?_
  |refine al (λ_=>rfl) ?_
  |refine bH rfl ?_
  simp only[UW,UX,UY,UZ]
 refine cU (λ_=>rfl) (Vm rfl) 92 (λ_=>#[.agg (aq m.kn),.agg (ao e)]) _ (λ_ w=>by simp[execOp,go_sem]<;>rfl) (λ_ X _=>CR.o X) ?_;simp only[UW,UX,UY,UZ]
 iterate 2
  first
  |refine eV Z.o rfl ?_
  |refine al (λ_=>rfl) ?_
  |refine bH rfl ?_
  simp only[UW,UX,UY,UZ]
 refine aK rfl ?_;rintro _ W3 q-;have q:Ys W2 W3:=q;have D3:=H2.o.1.trans (q.mono H2.o.1.size);have B3:=H2.o.2.1.call q;have L3:=H2.o.2.2.call q;have T3:=D.o.2.2.1.call D3 D.o.2.2.1.lt.1 D.o.2.2.1.lt.2;have C:=U9 (Vb D3 (Vb B3 (Vb L3 T3)));have J:=U9 (λ(X:Yu) (c:ah cM W3 X)=>Vb (B3.call c.no).rules (Vb (B3.call c.no).lts (Vb (L3.call c.no).blk.rules.1 (L3.call c.no).blk.lt)));clear q D3 B3 L3 T3 Z H2 CR;cases b3 with
 |false=>
  go_wp2_with fail;go_ret2;exact aJ.no (x:=13) (by unfold bE;rw[Vf (by rw[A.o.1];simp),Vf (by rw[A.o.2.1];simp),Vh A.o.2.2]) (by decide) rfl C.o.1
 |true=>
 have hM:=ji A.o.1;obtain⟨k,hk,δ,η⟩:=hM.place;obtain⟨b4,α⟩:∃b,m.inn k=b:=⟨_,rfl⟩;obtain⟨b5,Y⟩:∃b,m.inn (6+k)=b:=⟨_,rfl⟩;have N:bE m e=if b4=false\/b5=true then(10,m)else cX m e:=by
  unfold bE;rw[Vf (by rw[A.o.1];simp),Vf (by rw[A.o.2.1];simp),Vf (by rw[A.o.2.2];simp),η,α,Y]
 have HR:=U9 N;have c4:=sY m.inn m.kn L.t L.pm L.rm m.ow L.gm L.qm k hk;have c5:=uP m.inn m.kn L.t L.pm L.rm m.ow L.gm L.qm k hk;rw[α]at c4;rw[Y]at c5;have E:IntKind.i64.wrap (e.o-1)=(k:Int):=by rw[δ];rw[show((k:Int)+1-1)=(k:Int)from by omega];exact VE _ (by omega)
 have O:(0:Int)<=(k:Int):=by omega
 have P:(k:Int)<6:=by omega
 obtain⟨f,β,μ,κ⟩:=IB C.o.2.2.1 D.o.2.1 e D.o.2.2.2.1 A.o.1;have τ:=hM.k1;have σ:=hM.k2;have CK:=U9 (λ(X:Yu) (c:Ys W3 X)=>IB (C.o.2.2.1.call c) D.o.2.1 e D.o.2.2.2.1 A.o.1);have TT:=U9 (C.o.2.2.2);clear N δ η α Y hM κ;cases b4 with
 |false=>
  go_wp2_with fail;refine ay [] cM 10 (λ_ h=>h.elim) (by kernel_rfl) (by kernel_rfl) ?_
  iterate 10
   first
   |refine bT rfl ?_;apply aA
    ·intro _ ρ i a d W c;have I:=J.o W c;simp[execOp,go_sem,i,a,d,I,E,O,P,c4]<;>exact rfl
   |refine al (λ_=>rfl) ?_
   |refine bM (by kernel_rfl) rfl ?_;apply aA
    ·intro u ρ i a d w;simp[execOp,go_sem,i,a,d,E,O,P,c4]<;>exact rfl
   simp only[UW,UX,UY,UZ]
  refine aK rfl ?_;rintro _ W4 j-;have j:Ys W3 W4:=j;have D4:=U9 (C.o.1.trans (j.mono C.o.1.size));clear j J;go_wp2_with fail;go_ret2;exact aJ.no (x:=10) (by rw[HR.o,Vh (by simp)]) (by decide) rfl D4.o
 |true=>
 go_wp2_with fail;refine ay [] cM 10 (λ_ h=>h.elim) (by kernel_rfl) (by kernel_rfl) ?_
 iterate 10
  first
  |refine bT rfl ?_;apply aA
   ·intro _ ρ i a d W c;have I:=J.o W c;simp[execOp,go_sem,i,a,d,I,E,O,P,c4]<;>exact rfl
  |refine al (λ_=>rfl) ?_
  |refine bM (by kernel_rfl) rfl ?_;apply aA
   ·intro u ρ i a d w;simp[execOp,go_sem,i,a,d,E,O,P,c4]<;>exact rfl
  simp only[UW,UX,UY,UZ]
 refine aK rfl ?_;rintro _ W4 j-;have j:Ys W3 W4:=j;have D4:=C.o.1.trans (j.mono C.o.1.size);have B4:=C.o.2.1.call j;have L4:=C.o.2.2.1.call j;have K:=U9 (Vb j (Vb D4 (Vb B4 L4)));have H:=U9 (λ(X:Yu) (c:ah cM W4 X)=>Vb (B4.call c.no).rules (Vb (B4.call c.no).lts (Vb (L4.call c.no).blk.rules.1 (L4.call c.no).blk.lt)));clear j D4 B4 L4 J;cases b5 with
 |true=>
  go_wp2_with fail;refine ay [] cM 9 (λ_ h=>h.elim) (by kernel_rfl) (by kernel_rfl) ?_
  iterate 9
   first
   |refine bT rfl ?_;apply aA
    ·intro _ ρ i a d W c;have I:=H.o W c;simp[execOp,go_sem,i,a,d,I,E,O,P,c5]<;>exact rfl
   |refine al (λ_=>rfl) ?_
   |refine bM (by kernel_rfl) rfl ?_;apply aA
    ·intro u ρ i a d w;simp[execOp,go_sem,i,a,d,E,O,P,c5]<;>exact rfl
   simp only[UW,UX,UY,UZ]
  refine aK rfl ?_;rintro _ W5 l-;have l:Ys W4 W5:=l;have D5:=U9 (K.o.2.1.trans (l.mono K.o.2.1.size));clear l H;go_wp2_with fail;go_ret2;exact aJ.no (x:=10) (by rw[HR.o,Vh (by simp)]) (by decide) rfl D5.o
 |false=>
 go_wp2_with fail;refine ay [] cM 9 (λ_ h=>h.elim) (by kernel_rfl) (by kernel_rfl) ?_
 iterate 9
  first
  |refine bT rfl ?_;apply aA
   ·intro _ ρ i a d W c;have I:=H.o W c;simp[execOp,go_sem,i,a,d,I,E,O,P,c5]<;>exact rfl
  |refine al (λ_=>rfl) ?_
  |refine bM (by kernel_rfl) rfl ?_;apply aA
   ·intro u ρ i a d w;simp[execOp,go_sem,i,a,d,E,O,P,c5]<;>exact rfl
  simp only[UW,UX,UY,UZ]
 refine aK rfl ?_;rintro _ W5 l-;have l:Ys W4 W5:=l;have D5:=K.o.2.1.trans (l.mono K.o.2.1.size);have B5:=K.o.2.2.1.call l;have L5:=K.o.2.2.2.call l;have X5:=K.o.1.trans (l.mono K.o.1.size);have H5:=U9 (Vb X5 (Vb D5 (Vb B5 L5)));have ν:((e.k.toNat:Nat):Int)=e.k:=Int.toNat_of_nonneg (by omega);have T5:=TT.o.call X5 TT.o.lt.1 TT.o.lt.2;have U:=U9 (λ(X:Yu) (c:ah cM W5 X)=>Vb (B5.call c.no).rules (Vb (B5.call c.no).lts (Vb (L5.call c.no).blk.rules.1 (Vb (L5.call c.no).blk.lt ((T5.call c.no T5.lt.1 T5.lt.2).k _ _ β)))));have ξ:=U9 (show bE m e=cX m e from by rw[HR.o,Vf (by simp)]);have B:=U9 β;have π:=U9 ν;clear l D5 B5 L5 X5 T5 H HR E c4 c5 β;have ζ:(0:Int)<=e.k:=by omega
 have θ:e.k<8:=by omega
 go_wp2_with fail;refine ay [] cM 11 (λ_ h=>h.elim) (by kernel_rfl) (by kernel_rfl) ?_
 iterate 6
  first
  |refine bT rfl ?_;apply aA
   ·intro _ ρ i a d W c;have I:=U.o W c;simp[execOp,go_sem,i,a,d,I,ζ,θ]<;>exact rfl
  |refine al (λ_=>rfl) ?_
  |refine bM (by kernel_rfl) rfl ?_;apply aA
   ·intro u ρ i a d w;simp[execOp,go_sem,i,a,d,ζ,θ]<;>exact rfl
  simp only[UW,UX,UY,UZ]
 refine dM (λ_=>rfl) (Vm rfl) f (λ_=>#[Yr L.b,.agg (ao e)]) (λv:Yv=>.tuple #[v,.int .i64 (cX m e).1]) .nilFunc (λX r X'=>aJ X L (cX m e) (.returned r) X') (λ_ w=>by simp[execOp,go_sem,μ]) (λ_ X c=>?cc) ?_
 case cc=>
  obtain⟨f',M,-,hc⟩:=CK.o X (H5.o.1.trans ((ah.no c).mono H5.o.1.size));have:f'=f:=by rw[B.o]at M;injection M with V;injection V with V _ _;injection V with V;exact V.symm
  subst this;refine hc.mono ?_;rintro r X' ⟨v,rfl,ε,h0,V⟩;exact⟨v,rfl,⟨v,rfl,ε,h0,V⟩,ε⟩
 simp only[UW,UX,UY,UZ]
 iterate 4
  first
  |refine eV U.o rfl ?_
  |refine al (λ_=>rfl) ?_
  |refine bH rfl ?_
  simp only[UW,UX,UY,UZ]
 refine aK rfl ?_;rintro⟨_,v⟩ W6 ι hR;dsimp only;obtain⟨w1,w2,-,g2,g3,g4⟩:=bJ (hR 6 _ _ (by repeat (first|exact Or.inl ⟨rfl,rfl,rfl⟩|apply Or.inr))) rfl;have G:=U9 ((g3.up (H5.o.2.1.trans (g2.no.mono H5.o.2.1.size))).later (g4.below λ_ h=>h.2));clear hR ι g2 g3 g4 U;go_wp2_with fail;go_ret2;rw[ξ.o];exact G.o
end
section
variable{w w':Yu}{L:LB}{m:az}
theorem DJ(h:dD w L m)(hm:m.ok)(S:dh w)(e:Ev)(he:e.ok):
  Yt 73 #[Yr L.b,.agg (ao e)] w λr w'=>r=.returned (.int .i64 (cz m e).1)/\dD w' L (cz m e).2/\ah L.mem w w':=by
 have B0:aD (w.alloc (.cells (ao e) 53)) [(w.heap.size,53,ao e)]:=aD.nil.push (g:=w.heap.size) rfl;have V:Ys w (w.alloc (.cells (ao e) 53)):=(Vd w.heap.size w).alloc (by simp<;>omega) _;have L0:=h.call V;have C:=h.lt;have CC:=U9 (DI L0 hm (S.call V S.lt.1 S.lt.2) e he);have i:=U9 (Vb h (Vb hm (Vb he (Vb B0 (Vb V C)))));have G:(w.alloc (.cells (ao e) 53)).heap.size=w.heap.size+1:=by simp
 have HS:=U9 G;clear h hm S he B0 V L0 C G;go_enter func73,ntmps73;go_wp2_with fail;refine CC.o.mono ?_;rintro r W1 ⟨v,rfl,d,P,T⟩;have M:=U9 (λ(c:(bE m e).1=0)=>js c);have j:=U9 (show cz m e=if(bE m e).1=0 then(0,{(bE m e).2 with kn:=(bE m e).2.kn.set e.w ((bE m e).2.kn.get e.w+1)})else((bE m e).1,m)from rfl);have N:=U9 (λ(c:(bE m e).1=0)=>by
  have I:=js c;have K:=lF i.o.2.1 I.1 i.o.2.2.1;rw[<-I.2.2.2.2]at K;exact K)
 have D1:=i.o.2.2.2.2.1.trans (d.mono i.o.2.2.2.2.1.size);have B1:=i.o.2.2.2.1.call d;have L1:=i.o.1.call D1;have U:=U9 (Vb d (Vb D1 (Vb B1 L1)));obtain⟨O,m',hp⟩:∃O m',bE m e=(O,m'):=⟨_,_,rfl⟩;rw[hp]at M j N P T⊢;clear CC d D1 B1 L1 hp;by_cases c:O=0
 ·subst c
  obtain⟨f,γ,rfl,n,hd⟩:=T rfl;have HD:=U9 (hd W1 (Vd _ _));clear P T hd;go_wp2_with fail;refine HD.o.mono ?_;rintro r W2 ⟨⟨u,rfl⟩,X,M2⟩;have K:=N.o (by simp);have I:=M.o (by simp);have hM:=ji I.1;obtain⟨k,Q,H,D⟩:=hM.place;have B:=i.o.2.1.kn k Q;rw[<-K.kn]at B;have ni:gJ (fO L (w.alloc (.cells (ao e) 53)).heap.size W1) [(w.heap.size,53,ao e)]:=⟨λho=>by
   rcases ho with ho|ho
   ·have:=i.o.2.2.2.2.2 _ ho;omega
   ·rw[HS.o]at ho;omega,trivial⟩
  have Y:=U.o.2.2.1.mod M2 ni;have MW:ah L.mem w W2:=(ah.of_below U.o.2.1).trans' M2 λk Q ho=>by
   rcases ho with ho|ho
   ·exact ho
   ·rw[HS.o]at ho;omega
  have H2:=U9 (Vb Y (Vb X MW));have HF:=U9 (λ(W:Yu) (a:Ys W2 W)=>Vb (Y.call a).rules (Vb (Y.call a).lts (Vb (X.call a).blk.rules.1 (X.call a).blk.lt)));have hc:=K3 m'.inn m'.kn L.t L.pm L.rm m'.ow L.gm L.qm k Q;have e1:IntKind.i64.wrap (e.o-1)=(k:Int):=by rw[H];rw[show((k:Int)+1-1)=(k:Int)from by omega];exact VE _ (by omega)
  have e2:IntKind.u64.wrap (m'.kn.get k+1)=m'.kn.get k+1:=XN _ (by omega);have k0:(0:Int)<=(k:Int):=by omega
  have k6:(k:Int)<6:=by omega
  have HK:=U9 D;clear HD K I hM H D B ni Y MW M2 X n;go_wp2_with fail;refine aP 12 (by kernel_rfl) (by simp) (by kernel_rfl) (by kernel_rfl) (by kernel_rfl) (by kernel_rfl) ?_;simp only[U4,U5,U6,U7]
  iterate 12
   first
   |refine dx rfl ?_;apply aA
    ·intro _ ρ β α Z W a;have hq:=HF.o W a;simp[execOp,go_sem,β,α,Z,hq,e1,e2,hc,k0,k6]<;>exact rfl
   |refine aw (λ_=>rfl) ?_
   simp only[UW,UX,UY,UZ]
  refine aH ?_;intro _ W3 A _;have E:=H2.o.2.1.call A;have a:=E.blk.set_ (12+k) (.int .u64 (m'.kn.get k+1));rw[xm _ _ _ _ _ _ _ _ k Q]at a;have F4:Fr W3 (W3.setCell ⟨L.b,12+k,none⟩ (.int .u64 (m'.kn.get k+1))) L.b none:=Fr.of_set _ rfl _;have L4:=E.fr_b F4 a;have M4:ah L.mem w (W3.setCell ⟨L.b,12+k,none⟩ (.int .u64 (m'.kn.get k+1))):=(H2.o.2.2.call A).trans (ah.of_fr1 F4 (.inl rfl));have HX:=U9 (Vb L4 M4);obtain⟨q,fz⟩:=E.blk.rules;have l:=E.blk.lt;clear E a F4 L4 M4 HF A e1 e2;go_wp2_with fail;go_ret;have J:=j.o;rw[Vh (by simp),HK.o]at J;rw[J];exact⟨rfl,HX.o⟩
 ·have hv:=P c
  have δ:(O !=0)=true:=by simpa using c
  have HZ:=U9 c;subst hv;clear P T c;go_wp2_with fail;go_ret;have J:=j.o;rw[Vf HZ.o]at J;rw[J];exact⟨rfl,U.o.2.2.2,ah.of_below U.o.2.1⟩
theorem GN(h:dD w L m)(f:m.ok)(d:dh w)(e:Ev)(i:e.ok):
  Yt 271 #[Yr L.b,.agg (ao e)] w λr w'=>r=.returned (.int .i64 (bE m e).1)/\Ys w w':=by
 have n:aD (w.alloc (.cells (ao e) 53)) [(w.heap.size,53,ao e)]:=aD.nil.push (g:=w.heap.size) rfl;have c:Ys w (w.alloc (.cells (ao e) 53)):=(Vd w.heap.size w).alloc (by simp<;>omega) _;have l:=h.call c;have j:=U9 (DI l f (d.call c d.lt.1 d.lt.2) e i);have k:=U9 c;clear h f d i n c l;go_enter func271,ntmps271;go_wp2_with fail;refine j.o.mono ?_;rintro r C ⟨v,rfl,a,B,A⟩;have q:=U9 (k.o.trans (a.mono k.o.size));clear j a B A;go_wp2_with fail;go_ret;exact⟨rfl,q.o⟩
theorem tg(h:dD w L m):Yt 250 #[Yr L.b] w λr w'=>r=.returned (.agg (aq m.kn))/\Ys w w':=by
 have a:Ys w (w.alloc (.cells (aq av.zero) 34)):=(Vd w.heap.size w).alloc (by simp<;>omega) _;obtain⟨q,-⟩:=(h.call a).blk.rules;have l:=(h.call a).blk.lt;have c:=U9 a;clear h a;go_enter func250,ntmps250;go_wp2_with fail;exact aE (s:=2) results250 rfl (ai.new _ _ _) underlying34 rfl (by kernel_rfl) rfl ⟨rfl,(Vd w.heap.size w).alloc (by simp<;>omega) _⟩
theorem oO(h:dD w L m)(c:aT x)(k:Nat)(d:k<6):Yt 164 #[Yr L.b,.int .i64 ((k:Int)+1),.int .u64 x] w λr w'=>r=.returned (.int .i64 (dF (m.r x) k))/\Ys w w':=by
 obtain⟨q,-⟩:=h.blk.rules;have l:=h.blk.lt;have i:=Df h.ri c;have C:=U9 (mE (m.r x) k d w);clear h c;go_enter func164,ntmps164;go_wp2_with fail;refine C.o.mono ?_;rintro r j ⟨rfl,a⟩;have f:=U9 a;clear a q l i C;go_wp2_with fail;go_ret;exact⟨rfl,f.o⟩
theorem LE(h:dD w L m)(a:m.ok)(f:aT x):Yt 234 #[Yr L.b,.int .u64 x] w λr w'=>∃u,r=.returned u/\ij w' w.heap.size u (aC m.tr x)/\Ys w w':=by
 obtain⟨q,-⟩:=h.blk.rules;have l:=h.blk.lt;have C:=U9 (yn h.tre a.tr f);clear h f a;go_enter func234,ntmps234;go_wp2_with fail;refine C.o.mono ?_;rintro r j ⟨v,rfl,c,d⟩;have i:=U9 (Vb c d);clear d q l C c;go_wp2_with fail;go_ret;exact⟨_,rfl,i.o⟩
def iV(n:Nat):az:=⟨λi=>decide (i<n),av.zero,[],[],[],av.zero,[],[]⟩
theorem yF(n:Nat):(iV n).ok:=
 ⟨tO.nil,λk a=>av.six (P:=λk=>0<=av.zero.get k/\av.zero.get k<1099511627776) (by decide) (by decide) (by decide) (by decide) (by decide) (by decide) k a,λk a=>av.six (P:=λk=>0<=av.zero.get k/\av.zero.get k<=5) (by decide) (by decide) (by decide) (by decide) (by decide) (by decide) k a,
  λ_ h=>(by cases h),λ_ h=>(by cases h),(show(0:Int)<=fD av.zero from by decide),λ_ h=>(by cases h),λ_ h=>(by cases h),λ_ h=>(by cases h),λ_ h=>(by cases h)⟩
theorem Pq(n:Nat)(C:1<=n)(T:n<=6)(w:Yu):Yt 36 #[.int .i64 n] w λr w'=>∃L:LB,r=.returned (.tuple #[Yr L.b,.int .i64 0])/\dD w' L (iV n)/\(∀k,L.mem k->w.heap.size<=k)/\Ys w w':=by
 have d1:decide ((n:Int)<1)=false:=Vj (by omega);have V:decide ((6:Int)<n)=false:=Vj (by omega);have I:=U9 NN;have O:= @XE prog;have HN:=U9 (Vb C T);clear C;go_enter func36,ntmps36;go_wp2_with fail;refine(I.o _).mono ?_;rintro r a ⟨u,rfl,t,tm,rfl,f,g1,Z,c⟩;have S:=f.blk.lt;have Q:=f.map.lt;have j:=U9 (Vb f c);clear I f c;have G:dD (((((a.alloc (.map #[] 0)).alloc (.map #[] 0)).alloc (.map #[] 0)).alloc (.map #[] 0)).alloc (.cells (gz (λi=>decide (i<0)) av.zero t a.heap.size (a.heap.size+1) av.zero (a.heap.size+1+1) (a.heap.size+1+1+1)) 171)) ⟨a.heap.size+1+1+1+1,t,tm,a.heap.size,a.heap.size+1,a.heap.size+1+1,a.heap.size+1+1+1⟩ (iV 0):=by
  have s1:Ys a (a.alloc (.map #[] 0)):=(Vd _ _).alloc (Vc _) _;have s2:∀(X:Yu) (o:Obj),Ys X (X.alloc o):=λX o=>(Vd _ _).alloc (Vc _) _
  refine⟨ai.new_at (by simp) rfl,((((j.o.1.call (s2 _ _)).call (s2 _ _)).call (s2 _ _)).call (s2 _ _)).call (s2 _ _),?_,?_,?_,?_,⟨?_,?_,?_,?_,?_,?_,?_,?_,?_,?_⟩⟩
  ·exact((((aZ.made Be a).call (s2 _ _)).call (s2 _ _)).call (s2 _ _)).call (s2 _ _)
  ·have h:=((aZ.made Ac (a.alloc (.map #[] 0))).call (s2 _ (.map #[] 0))).call (s2 _ (.map #[] 0))
   simp only[WA]at h;exact h.call (s2 _ _)
  ·have h:=(aZ.made Gq ((a.alloc (.map #[] 0)).alloc (.map #[] 0))).call (s2 _ (.map #[] 0))
   simp only[WA]at h;exact h.call (s2 _ _)
  ·have h:=aZ.made KU (((a.alloc (.map #[] 0)).alloc (.map #[] 0)).alloc (.map #[] 0))
   simp only[WA]at h;exact h.call (s2 _ _)
  all_goals simp only<;>omega
 have K:Ys a (((((a.alloc (.map #[] 0)).alloc (.map #[] 0)).alloc (.map #[] 0)).alloc (.map #[] 0)).alloc (.cells (gz (λi=>decide (i<0)) av.zero t a.heap.size (a.heap.size+1) av.zero (a.heap.size+1+1) (a.heap.size+1+1+1)) 171)):=by
  refine(((((Vd _ _).alloc ?_ _).alloc ?_ _).alloc ?_ _).alloc ?_ _).alloc ?_ _<;>simp<;>omega
 have E:=U9 (Vb G K);clear G K;go_wp2_with fail
 go_loopw [20] (λi wr=>∃k:Nat,k<=n/\i=.int .i64 k/\dD wr ⟨a.heap.size+1+1+1+1,t,tm,a.heap.size,a.heap.size+1,a.heap.size+1+1,a.heap.size+1+1+1⟩ (iV k)/\Ys a wr) (λi _=>n-(intOf i).toNat)
 case atStart=>exact⟨0,by omega,rfl,E.o⟩
 case round=>
  obtain⟨k,hk,rfl,A,D⟩:=hrel;have H:=U9 (Vb A D);clear A D E;obtain⟨q,P⟩:=H.o.1.blk.rules;have l:=H.o.1.blk.lt;simp only at q P l;by_cases N:k<n
  ·have M:decide ((k:Int)<n)=true:=Vg (by omega)
   have k0:(0:Int)<=(k:Int):=by omega
   have k6:(k:Int)<6:=by omega
   have hc:=sY (iV k).inn (iV k).kn t a.heap.size (a.heap.size+1) (iV k).ow (a.heap.size+1+1) (a.heap.size+1+1+1) k (by omega);have d:=H.o.1.blk.set_ k (.bool true);simp only at d;rw[pM _ _ _ _ _ _ _ _ k (by omega)]at d;have v:Fr wr (wr.setCell ⟨a.heap.size+1+1+1+1,k,none⟩ (.bool true)) (a.heap.size+1+1+1+1) none:=Fr.of_set _ rfl _;have B:=H.o.1.fr_b v d;have e:mK (iV k).inn k true=(iV (k+1)).inn:=by
    funext i;show(if i=k then true else decide (i<k))=decide (i<k+1);by_cases J:i=k
    ·rw[Vh J];simp;omega
    ·rw[Vf J]
     by_cases Y:i<k<;>simp<;>omega
   rw[e]at B;have U:=U9 (Vb B (v.below H.o.2 (by omega) (λ_ h=>by cases h)));clear d v B e H;go_wp2_with fail;go_roundw
   case rel=>exact⟨k+1,by omega,by go_num,U.o⟩
   case measure=>simp[intOf];omega
  ·obtain rfl:k=n:=by omega
   have M:decide ((k:Int)<k)=false:=Vj (by omega);go_wp2_with fail;go_ret2;refine⟨_,rfl,H.o.1,?_,j.o.2.trans (H.o.2.mono j.o.2.size)⟩;have:=j.o.2.size;rintro x (rfl|rfl|rfl|rfl|rfl|rfl|rfl)<;>(try simp only)<;>omega
end
def SR(x y:Yv):Sem Next:=do pure (.value (<-Instr.build 82 #[(0,x),(1,y)]))
def SU(x y z u:Yv):Sem Next:=do pure (.value (<-Instr.build 85 #[(0,x),(1,y),(2,z),(3,u)]))
section
variable(ρ:Yx->Yv)(dst:Option Tmp)(x y z u:Yx)(ty:Yw)(pos:String)(after:Array Edge)(guard:Option (Nat×Bool))
@[go_sem ↓ high] theorem LP:execOp ρ {dst,op:=.build 82 #[(0,x),(1,y)],type:=ty,pos,after,guard}=SR (ρ x) (ρ y):=by simp[execOp,SR]
@[go_sem ↓ high] theorem LR:execOp ρ {dst,op:=.build 85 #[(0,x),(1,y),(2,z),(3,u)],type:=ty,pos,after,guard}=SU (ρ x) (ρ y) (ρ z) (ρ u):=by simp[execOp,SU]
@[go_sem ↓ high] theorem G6:execOp ρ {dst,op:=.buildSlice 35 1 #[(0,x)],type:=ty,pos,after,guard}=iJ 35 (ρ x):=by simp[execOp,iJ]
@[go_sem ↓ high] theorem G7:execOp ρ {dst,op:=.buildSlice 36 1 #[(0,x)],type:=ty,pos,after,guard}=iJ 36 (ρ x):=by simp[execOp,iJ]
@[go_sem ↓ high] theorem Ha:execOp ρ {dst,op:=.buildSlice 35 0 #[],type:=ty,pos,after,guard}=Fz 35:=jq ..
@[go_sem ↓ high] theorem Hb:execOp ρ {dst,op:=.buildSlice 36 0 #[],type:=ty,pos,after,guard}=Fz 36:=jq ..
end
section
variable(w:Yu)
@[go_sem] theorem QO(a b:Int):(SR (.int .u64 a) (.int .u64 b)).run prog w=.ok (.value (.agg (jG ⟨a,b,z0⟩))) w:=by kernel_rfl
@[go_sem] theorem QQ(a b c d:Int):(SU (.int .i64 a) (.int .u64 b) (.int .u64 c) (.int .i64 d)).run prog w=.ok (.value (.agg (eu ⟨a,b,c,d,0⟩))) w:=by kernel_rfl
@[go_sem] theorem Nw(x:Nd):(iJ 35 (.agg (jG x))).run prog w=.ok (.value (.slice (some ⟨w.heap.size,0,none⟩) 1 1)) (w.alloc (.cells (jG x) 82)):=by kernel_rfl
@[go_sem] theorem Nx(x:gF):(iJ 36 (.agg (eu x))).run prog w=.ok (.value (.slice (some ⟨w.heap.size,0,none⟩) 1 1)) (w.alloc (.cells (eu x) 85)):=by kernel_rfl
@[go_sem] theorem NA:(Fz 35).run prog w=.ok (.value (.slice (some ⟨w.heap.size,0,none⟩) 0 0)) (w.alloc (.cells #[] 82)):=by kernel_rfl
@[go_sem] theorem NB:(Fz 36).run prog w=.ok (.value (.slice (some ⟨w.heap.size,0,none⟩) 0 0)) (w.alloc (.cells #[] 85)):=by kernel_rfl
end
end
