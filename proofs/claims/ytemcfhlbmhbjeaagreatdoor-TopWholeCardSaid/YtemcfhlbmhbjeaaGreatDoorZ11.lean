import Derived.Test.YtemcfhlbmhbjeaaGreatDoorZ10
import Derived.Test.YtemcfhlbmhbjeaaGreatDoorZ08
set_option maxRecDepth 100000
set_option maxHeartbeats 0
set_option linter.all false
namespace Go.Proofs.YtemcfhlbmhbjeaaGreatDoor
open Go.Proofs.Tryz
variable{W w0:D}{e:z}{g c0 c1 c2 b0 c3:Nat}{x o s:Int}{m':aG}{r:Ending}{p:Int×aG}{R:List (Int×(Nat->Int))}
open Go Go.RowKit
section
open Go.Maps (Keyed)
def di(inn:Nat->Bool)(kn:an)(t b c:Nat)(a:an)(d f:Nat):Array H:=
 #[.bool (inn 0),.bool (inn 1),.bool (inn 2),.bool (inn 3),.bool (inn 4),.bool (inn 5),.bool (inn 6),.bool (inn 7),.bool (inn 8),.bool (inn 9),.bool (inn 10),.bool (inn 11),
  q kn.v0,q kn.v1,q kn.v2,q kn.v3,q kn.v4,q kn.v5,N t,.map (some b),.map (some c),
  Z a.v0,Z a.v1,Z a.v2,Z a.v3,Z a.v4,Z a.v5,.map (some d),.map (some f)]
section
variable(inn:Nat->Bool)(kn:an)(t pm rm:Nat)(ow:an)(gm qm:Nat)
def zZ(k:Nat)(h:k<6):(di inn kn t pm rm ow gm qm)[k]? =some (.bool (inn k)):=an.six (P:=λk=>(di inn kn t pm rm ow gm qm)[k]? =some (.bool (inn k))) O O O O O O k h
def Lv(k:Nat)(h:k<6):(di inn kn t pm rm ow gm qm)[6+k]? =some (.bool (inn (6+k))):=an.six (P:=λk=>(di inn kn t pm rm ow gm qm)[6+k]? =some (.bool (inn (6+k)))) O O O O O O k h
def Ut(k:Nat)(h:k<6):(di inn kn t pm rm ow gm qm)[12+k]? =some (q (kn.get k)):=an.six (P:=λk=>(di inn kn t pm rm ow gm qm)[12+k]? =some (q (kn.get k))) O O O O O O k h
def Gh(k:Nat)(h:k<6):(di inn kn t pm rm ow gm qm)[21+k]? =some (Z (ow.get k)):=an.six (P:=λk=>(di inn kn t pm rm ow gm qm)[21+k]? =some (Z (ow.get k))) O O O O O O k h
@[go_sem] theorem adQ:(di inn kn t pm rm ow gm qm)[12]? =some (q kn.v0):=rfl
@[go_sem] theorem adP:(di inn kn t pm rm ow gm qm)[13]? =some (q kn.v1):=rfl
@[go_sem] theorem adO:(di inn kn t pm rm ow gm qm)[14]? =some (q kn.v2):=rfl
@[go_sem] theorem adj:(di inn kn t pm rm ow gm qm)[15]? =some (q kn.v3):=rfl
@[go_sem] theorem adv:(di inn kn t pm rm ow gm qm)[16]? =some (q kn.v4):=rfl
@[go_sem] theorem adu:(di inn kn t pm rm ow gm qm)[17]? =some (q kn.v5):=rfl
@[go_sem] theorem aek:(di inn kn t pm rm ow gm qm)[18]? =some (N t):=rfl
@[go_sem] theorem aea:(di inn kn t pm rm ow gm qm)[19]? =some (.map (some pm)):=rfl
@[go_sem] theorem ael:(di inn kn t pm rm ow gm qm)[20]? =some (.map (some rm)):=rfl
@[go_sem] theorem aeb:(di inn kn t pm rm ow gm qm)[27]? =some (.map (some gm)):=rfl
@[go_sem] theorem aem:(di inn kn t pm rm ow gm qm)[28]? =some (.map (some qm)):=rfl
def JM(k:Nat)(h:k<6)(b:Bool):(di inn kn t pm rm ow gm qm).setIfInBounds k (.bool b)=di (lj inn k b) kn t pm rm ow gm qm:=an.six (P:=λk=>(di inn kn t pm rm ow gm qm).setIfInBounds k (.bool b)=di (lj inn k b) kn t pm rm ow gm qm) O O O O O O k h
def ZY(k:Nat)(h:k<6)(b:Bool):(di inn kn t pm rm ow gm qm).setIfInBounds (6+k) (.bool b)=di (lj inn (6+k) b) kn t pm rm ow gm qm:=an.six (P:=λk=>(di inn kn t pm rm ow gm qm).setIfInBounds (6+k) (.bool b)=di (lj inn (6+k) b) kn t pm rm ow gm qm) O O O O O O k h
def LS(k:Nat)(h:k<6)(x:Int):(di inn kn t pm rm ow gm qm).setIfInBounds (12+k) (q x)=di inn (kn.set k x) t pm rm ow gm qm:=an.six (P:=λk=>(di inn kn t pm rm ow gm qm).setIfInBounds (12+k) (q x)=di inn (kn.set k x) t pm rm ow gm qm) O O O O O O k h
def LR(k:Nat)(h:k<6)(x:Int):(di inn kn t pm rm ow gm qm).setIfInBounds (21+k) (Z x)=di inn kn t pm rm (ow.set k x) gm qm:=an.six (P:=λk=>(di inn kn t pm rm ow gm qm).setIfInBounds (21+k) (Z x)=di inn kn t pm rm (ow.set k x) gm qm) O O O O O O k h
end
def lQ:eR Int (Nat->Int):=uV 50 182 (λf=>.agg (aw f)) aC
def rK:lQ.Ok:=wy underlying182 (λw=>Y)
def TF:(189:ay)<prog.types.size:=nY Y
def Ry:(match prog.underlying 189 with|some (.array _ _)|some (.struct _)=>true|_=>false)=true:=Y
def TA:Keyed prog 189:=Keyed.of_law (deep_law_laid vT (m:=2) V TF Y Ry)
def LD:prog.cellsOf 189=2:=Y
def LV:prog.keyType 189=true:=Y
def PB(h:fM o s):∃l,keyOf prog 189 (.agg (cM o s))=some l:=by obtain⟨b,c⟩:=AH h;obtain⟨m,a⟩:=yN;refine⟨.string (keyBytes [.int .i64 o,.int .u64 s]),?_⟩;unfold keyOf;simp only[underlying189];rw[av (by simp[LV,Value.formed,underlying189,LD,cM]),a];unfold Program.keyLits;simp only[underlying189,Value.cells,cM];rw[av (by rw[LD];exact⟨O,ah⟩)];simp[List.mapM_cons,List.mapM_nil,DE,yX,Program.keyLits,underlying3,underlying31,b,c]
def Ba{β:Type}(E T:ay)(b:β->H)(a:β):eR (Int×Int) β:=⟨189,E,T,λx=>.agg (cM x.1 x.2),b,a,λx=>fM x.1 x.2⟩
def Fx{β:Type}{E T:ay}{d:β->H}{c:β}(k:prog.underlying T=some (.map 189 E))(l:∀w,(zeroValue E).run prog w=.ok (d c) w):(Ba E T d c).Ok:=
 ⟨TA,k,λa f=>PB f,λa b h=>by obtain⟨j,i⟩:=wF h;exact Prod.ext j i,l⟩
def pM:eR (Int×Int) cI:=Ba 119 184 (λg=>.agg (bR g)) ⟨0,0,0,0,0⟩
def zY:pM.Ok:=Fx underlying184 (λw=>Y)
def sj:eR (Int×Int) Bool:=Ba 4 185 (λb=>.bool b) false
def Ah:sj.Ok:=Fx underlying185 (λw=>Y)
@[go_sem] theorem adn(x:Int):lQ.kc x=q x:=rfl
@[go_sem] theorem adm(f:Nat->Int):lQ.vc f=.agg (aw f):=rfl
@[go_sem] theorem adt(x:Int×Int):pM.kc x=.agg (cM x.1 x.2):=rfl
@[go_sem] theorem ads(g:cI):pM.vc g=.agg (bR g):=rfl
@[go_sem] theorem adp(x:Int×Int):sj.kc x=.agg (cM x.1 x.2):=rfl
@[go_sem] theorem ado(b:Bool):sj.vc b=.bool b:=rfl
structure eY where
 b:Nat
 t:Nat
 tm:Nat
 pm:Nat
 rm:Nat
 gm:Nat
 qm:Nat
def eY.mem(L:eY):Nat->Prop:=λk=>k=L.b\/k=L.t\/k=L.tm\/k=L.pm\/k=L.rm\/k=L.gm\/k=L.qm
structure eY.ok(L:eY):Prop where
 a1:L.tm≠L.pm
 a2:L.tm≠L.rm
 a3:L.tm≠L.gm
 a4:L.tm≠L.qm
 a5:L.pm≠L.rm
 a6:L.pm≠L.gm
 a7:L.pm≠L.qm
 a8:L.rm≠L.gm
 a9:L.rm≠L.qm
 a10:L.gm≠L.qm
structure bI(w:D)(L:eY)(m:aG):Prop where
 blk:M w L.b 187 (di m.inn m.kn L.t L.pm L.rm m.ow L.gm L.qm)
 tre:it w L.t L.tm m.tr
 pa:bA ms w L.pm m.pa
 ri:bA lQ w L.rm m.ri
 gr:bA pM w L.gm m.gr
 qs:bA sj w L.qm m.qs
 nd:L.ok
section
variable{w w':D}{L:eY}{m:aG}{F:Nat->Prop}
def bI.call(h:bI w L m)(a:S w w'):bI w' L m:=⟨h.blk.call a,h.tre.call a,h.pa.call a,h.ri.call a,h.gr.call a,h.qs.call a,h.nd⟩
def bI.drew(h:bI w L m):bI w.drew L m:=h.call (aq _ _).drew
def bI.mod(h:bI w L m)(a:aa F w w')(b:∀k,L.mem k->¬F k):bI w' L m:=
 ⟨a.blk h.blk (b _ (.inl O)),h.tre.mod a (b _ (.inr (.inl O))) (b _ (.inr (.inr (.inl O)))),a.gmap h.pa (b _ (.inr (.inr (.inr (.inl O))))),a.gmap h.ri (b _ (.inr (.inr (.inr (.inr (.inl O)))))),
  a.gmap h.gr (b _ (.inr (.inr (.inr (.inr (.inr (.inl O))))))),a.gmap h.qs (b _ (.inr (.inr (.inr (.inr (.inr (.inr O))))))),h.nd⟩
def bI.lt(h:bI w L m):∀k,L.mem k->k<w.heap.size:=by rintro k (rfl|rfl|rfl|rfl|rfl|rfl|rfl);exact h.blk.lt;exact h.tre.blk.lt;exact h.tre.map.lt;exact h.pa.lt;exact h.ri.lt;exact h.gr.lt;exact h.qs.lt
def bI.fr(h:bI w L m)(f:aH w w' g none)(a:¬L.mem g):bI w' L m:=
 h.mod (aa.of_fr1 (F:=aR g) f O) λk b e=>a (by have e:k=g:=e;exact e▸b)
def bI.fr_b(h:bI w L m)(f:aH w w' L.b none){inn:Nat->Bool}{kn a:an}(i:M w' L.b 187 (di inn kn L.t L.pm L.rm a L.gm L.qm)):bI w' L {m with inn:=inn,kn:=kn,ow:=a}:=by
 have d:L.t≠L.b:=λe=>by have c:=h.tre.blk;rw[e]at c;exact absurd (c.type_eq h.blk).1 ai
 exact⟨i,h.tre.fr f d (h.tre.map.ne_blk h.blk),h.pa.fr f (h.pa.ne_blk h.blk) ah,h.ri.fr f (h.ri.ne_blk h.blk) ah,h.gr.fr f (h.gr.ne_blk h.blk) ah,h.qs.fr f (h.qs.ne_blk h.blk) ah,h.nd⟩
def bI.fr_tm(h:bI w L m)(f:aH w w' L.tm none){T:List (Int×Int)}(a:it w' L.t L.tm T):bI w' L {m with tr:=T}:=
 ⟨f.blk h.blk (h.tre.map.ne_blk h.blk).symm ah,a,h.pa.fr f h.nd.a1.symm ah,h.ri.fr f h.nd.a2.symm ah,h.gr.fr f h.nd.a3.symm ah,h.qs.fr f h.nd.a4.symm ah,h.nd⟩
def bI.fr_pm(h:bI w L m)(f:aH w w' L.pm none){X:List (Int×Int)}(a:bA ms w' L.pm X):bI w' L {m with pa:=X}:=
 ⟨f.blk h.blk (h.pa.ne_blk h.blk).symm ah,h.tre.fr f (h.pa.ne_blk h.tre.blk).symm h.nd.a1,a,h.ri.fr f h.nd.a5.symm ah,h.gr.fr f h.nd.a6.symm ah,h.qs.fr f h.nd.a7.symm ah,h.nd⟩
def bI.fr_rm(h:bI w L m)(f:aH w w' L.rm none){X:List (Int×(Nat->Int))}(a:bA lQ w' L.rm X):bI w' L {m with ri:=X}:=
 ⟨f.blk h.blk (h.ri.ne_blk h.blk).symm ah,h.tre.fr f (h.ri.ne_blk h.tre.blk).symm h.nd.a2,h.pa.fr f h.nd.a5 ah,a,h.gr.fr f h.nd.a8.symm ah,h.qs.fr f h.nd.a9.symm ah,h.nd⟩
def bI.fr_gm(h:bI w L m)(f:aH w w' L.gm none){X:List ((Int×Int)×cI)}(a:bA pM w' L.gm X):bI w' L {m with gr:=X}:=
 ⟨f.blk h.blk (h.gr.ne_blk h.blk).symm ah,h.tre.fr f (h.gr.ne_blk h.tre.blk).symm h.nd.a3,h.pa.fr f h.nd.a6 ah,h.ri.fr f h.nd.a8 ah,a,h.qs.fr f h.nd.a10.symm ah,h.nd⟩
def bI.fr_qm(h:bI w L m)(f:aH w w' L.qm none){X:List ((Int×Int)×Bool)}(a:bA sj w' L.qm X):bI w' L {m with qs:=X}:=
 ⟨f.blk h.blk (h.qs.ne_blk h.blk).symm ah,h.tre.fr f (h.qs.ne_blk h.tre.blk).symm h.nd.a4,h.pa.fr f h.nd.a7 ah,h.ri.fr f h.nd.a9 ah,h.gr.fr f h.nd.a10 ah,a,h.nd⟩
end
def gV(L:eY)(b0:Nat)(w0:D):Nat->Prop:=λk=>L.mem k\/(b0<=k/\k<w0.heap.size)
def Az(b0:Nat)(w0:D)(L:eY)(m':aG)(v:H):Prop:=∃(f:FuncId) (a:Array H),v=.func (.func f) #[] a/\(∀b w,(callFunc f b).run prog w=.ok (.enter f b) w)/\
 ∀W,S w0 W->Calls prog f a W λr c=>(∃u,r=.returned u)/\bI c L m'/\aa (gV L b0 w0) W c
def wZ{L:eY}{f:FuncId}{a:Array H}(h:Calls prog f a W λr b=>(∃u,r=.returned u)/\bI b L m'/\aa L.mem W b):
  Calls prog f a W λr b=>(∃u,r=.returned u)/\bI b L m'/\aa (gV L b0 w0) W b:=h.mono λ_ _ ⟨d,c,i⟩=>⟨d,c,i.mono λ_=>.inl⟩
def d9(w:D)(L:eY)(p:Int×aG)(r:Ending)(w':D):Prop:=∃v,r=.returned (.tuple #[v,Z p.1])/\S w w'/\(p.1≠0->v=.nilFunc)/\(p.1=0->Az w.heap.size w' L p.2 v)
end
section
variable{w w':D}{L:eY}{m:aG}
def Xg(h:bI W L m)(i:M W c0 156 #[N L.b])(l:M W c1 64 (aj e))(y:1<=e.t/\e.t<=6):
  Calls prog 353 #[N c0,N c1] W λr v=>(∃u,r=.returned u)/\bI v L (wV m e).2/\aa L.mem W v:=by
 obtain⟨k,j,a⟩:∃k:Nat,k<6/\e.t=(k:Int)+1:=⟨(e.t-1).toNat,V,V⟩;obtain⟨G,-⟩:=i.rules;obtain⟨Q,-⟩:=l.rules;obtain⟨B,f⟩:=h.blk.rules;have d:e.to_=k:=by unfold z.to_;omega
 have P:(0:Int)<=(k:Int):=V;have k6:(k:Int)<6:=V;have T:=zZ m.inn m.kn L.t L.pm L.rm m.ow L.gm L.qm k j;have c:=h.blk.set_ k (.bool true);rw[JM _ _ _ _ _ _ _ _ k j]at c;have hF:aH W (W.setCell (I L.b k) (.bool true)) L.b none:=aH.of_set _ O _;have E:=U (show bI (W.setCell (I L.b k) (.bool true)) L (wV m e).2 from by show bI _ L {m with inn:=lj m.inn e.to_ true};rw[d];exact h.fr_b hF c);have A:=U hF;have C:=U a;have n:IntKind.i64.wrap (e.t-1)=(k:Int):=by rw[a];rw[bU (((k:Int)+1-1)=(k:Int))];exact bS _ V
 obtain⟨eo,es,ed,K,en,X,ea,J,F⟩:=e;simp only at a n;subst a;clear c hF h i l d C n y;go_in;go_region;go_end0;refine⟨⟨_,O⟩,E.o.drew,?_⟩;exact(aa.of_fr1 A.o (.inl O)).trans aa.drew
def Uw(h:bI W L m)(i:M W c0 156 #[N L.b])(l:M W c1 64 (aj e))(y:1<=e.o/\e.o<=6):
  Calls prog 354 #[N c0,N c1] W λr v=>(∃u,r=.returned u)/\bI v L (wK m e).2/\aa L.mem W v:=by
 obtain⟨k,j,a⟩:∃k:Nat,k<6/\e.o=(k:Int)+1:=⟨(e.o-1).toNat,V,V⟩;obtain⟨G,-⟩:=i.rules;obtain⟨Q,-⟩:=l.rules;obtain⟨B,f⟩:=h.blk.rules;have d:e.w=k:=by unfold z.w;omega
 have P:(0:Int)<=(k:Int):=V;have k6:(k:Int)<6:=V;have T:=Lv m.inn m.kn L.t L.pm L.rm m.ow L.gm L.qm k j;have c:=h.blk.set_ (6+k) (.bool true);rw[ZY _ _ _ _ _ _ _ _ k j]at c;have hF:aH W (W.setCell (I L.b (6+k)) (.bool true)) L.b none:=aH.of_set _ O _;have E:=U (show bI (W.setCell (I L.b (6+k)) (.bool true)) L (wK m e).2 from by show bI _ L {m with inn:=lj m.inn (6+e.w) true};rw[d];exact h.fr_b hF c);have A:=U hF;have C:=U a;have n:IntKind.i64.wrap (e.o-1)=(k:Int):=by rw[a];rw[bU (((k:Int)+1-1)=(k:Int))];exact bS _ V
 obtain⟨eo,es,ed,K,en,X,ea,J,F⟩:=e;simp only at a n;subst a;clear c hF h i l d C n y;go_in;go_region;go_end0;refine⟨⟨_,O⟩,E.o.drew,?_⟩;exact(aa.of_fr1 A.o (.inl O)).trans aa.drew
def Zt{f:Nat->Int}(h:bI W L m)(l:M W c0 50 (aw f))(k:M W c1 156 #[N L.b])(i:M W c2 64 (aj e))(v:bo e.n):
  Calls prog 343 #[N c0,N c1,N c2] W λr t=>(∃u,r=.returned u)/\bI t L {m with ri:=putL m.ri e.n f}/\aa L.mem W t:=by
 obtain⟨J,-⟩:=k.rules;obtain⟨E,-⟩:=i.rules;obtain⟨A,C⟩:=h.blk.rules;have G:=i9 (w:=W.drew) (M.drew l).rng;obtain⟨B,cH,j,d⟩:=(h.ri.same (w':=W.drew) O).put rK (a:=e.n) v f;have c:(Instr.mapUpdate 182 (.map (some L.rm)) (q e.n) (.agg (aw f))).run prog W.drew=.ok () B:=cH;have y:=aB ((h.drew).fr_rm d j) d;clear cH j d h l k i v;go_in;go_region;go_end0;refine⟨⟨_,O⟩,y.o.1,?_⟩;exact(aa.drew (F:=L.mem)).trans (aa.of_fr1 y.o.2 (.inr (.inr (.inr (.inr (.inl O))))))
def Ze{f:Nat->Int}(h:bI W L m)(l:M W c0 50 (aw f))(k:M W c1 156 #[N L.b])(i:M W c2 64 (aj e))(v:bo e.n):
  Calls prog 352 #[N c0,N c1,N c2] W λr t=>(∃u,r=.returned u)/\bI t L {m with ri:=putL m.ri e.n f}/\aa L.mem W t:=by
 obtain⟨J,-⟩:=k.rules;obtain⟨E,-⟩:=i.rules;obtain⟨A,C⟩:=h.blk.rules;have G:=i9 (w:=W.drew) (M.drew l).rng;obtain⟨B,cH,j,d⟩:=(h.ri.same (w':=W.drew) O).put rK (a:=e.n) v f;have c:(Instr.mapUpdate 182 (.map (some L.rm)) (q e.n) (.agg (aw f))).run prog W.drew=.ok () B:=cH;have y:=aB ((h.drew).fr_rm d j) d;clear cH j d h l k i v;go_in;go_region;go_end0;refine⟨⟨_,O⟩,y.o.1,?_⟩;exact(aa.drew (F:=L.mem)).trans (aa.of_fr1 y.o.2 (.inr (.inr (.inr (.inr (.inl O))))))
end
section
variable{w w':D}{L:eY}{m:aG}
def d9.no(a:p.1=x)(b:x≠0)(d:r=.returned (.tuple #[.nilFunc,Z x]))(c:S w w'):d9 w L p r w':=
 ⟨_,by rw[d,a],c,λ_=>rfl,λh=>absurd (a.symm.trans h) b⟩
def UY(h:bI w L m)(e:z)(f:1<=e.t/\e.t<=6):
  Calls prog 338 #[N L.b,.agg (aj e)] w (d9 w L (wV m e)):=by
 have c:=U h;have d:ax ((w.alloc (.cells #[N L.b] 156)).alloc (.cells (aj e) 64)) [(w.heap.size+1,64,aj e),(w.heap.size,156,#[N L.b])]:=((ax.nil.push (g:=w.heap.size) O).push (g:=w.heap.size+1) ah);have j:S w ((w.alloc (.cells #[N L.b] 156)).alloc (.cells (aj e) 64)):=(((aq w.heap.size w).alloc aQ _).alloc aQ _);have a:=aB d j;have l:=U f;clear h d j f;go_wp2;go_ret2;refine⟨_,O,a.o.2,λk=>absurd O k,λ_=>⟨_,_,O,λ_ _=>Y,λW i=>?_⟩⟩;have B:=a.o.1.call i;exact wZ (Xg ((c.o.call a.o.2).call i) B.drop.head B.head l.o)
def RO(h:bI w L m)(e:z)(f:1<=e.o/\e.o<=6):
  Calls prog 339 #[N L.b,.agg (aj e)] w (d9 w L (wK m e)):=by
 have c:=U h;have d:ax ((w.alloc (.cells #[N L.b] 156)).alloc (.cells (aj e) 64)) [(w.heap.size+1,64,aj e),(w.heap.size,156,#[N L.b])]:=((ax.nil.push (g:=w.heap.size) O).push (g:=w.heap.size+1) ah);have j:S w ((w.alloc (.cells #[N L.b] 156)).alloc (.cells (aj e) 64)):=(((aq w.heap.size w).alloc aQ _).alloc aQ _);have a:=aB d j;have l:=U f;clear h d j f;go_wp2;go_ret2;refine⟨_,O,a.o.2,λk=>absurd O k,λ_=>⟨_,_,O,λ_ _=>Y,λW i=>?_⟩⟩;have B:=a.o.1.call i;exact wZ (Uw ((c.o.call a.o.2).call i) B.drop.head B.head l.o)
def uO(h:bA lQ w g R)(a:bo x):(Instr.lookup 182 (.map (some g)) (q x) true).run prog w=.ok (.tuple #[.agg (aw ((lk R x).getD aC)),.bool (lk R x).isSome]) w:=h.look2 rK a
def AO(h:bA lQ w g R)(a:bo x):(Instr.lookup 182 (.map (some g)) (q x) false).run prog w=.ok (.agg (aw ((lk R x).getD aC))) w:=h.look rK a
def Below.rowN{b:Nat}{w:D}(h:Below b w0 w)(c:b<=g)(cs:Array H):Below b w0 (w.setRow g cs):=
 ⟨h.os,h.tape,h.output,by have:=h.size;simpa[World.setRow]using this,λk a=>(lT w _ k _ V).trans (h.block k a)⟩
def ax.row{t:ay}{cs:Array H}{bs:List (Nat×ay×Array H)}(h:ax w ((g,t,cs)::bs))(c:gv g bs)(a:Array H):ax (w.setRow g a) ((g,t,a)::bs):=
 ax.cons (lU w g _ a t _ h.head) λf i d b=>(lT w _ f _ (c.o _ _ _ b)).trans (h.drop _ _ _ b)
def GJ{a:Nat->Int}(c:M w g 50 (aw a))(f:Nat->Int):(storeCells (I g 0) (aw f).toList).run prog w=.ok () (w.setRow g (aw f)):=by
 have:=yw (P:=prog) g 0 50 (aw f).toList 0 (aw a) w c (by simp[mS]) (λv b=>(nU.1 (Ek f)) v (az b));rw[this];have e:(List.take (0+0) (aw a).toList++(aw f).toList++List.drop (0+0+(aw f).toList.length) (aw a).toList).toArray=aw f:=by rw[yk (by simp[mS])];simp
 rw[e]
def RN(h:bI w L m)(hm:m.ok)(e:z)(F:kO e)(J:bo e.n):
  Calls prog 334 #[N L.b,.agg (aj e)] w (d9 w L (qu m e)):=by
 obtain⟨k,hk,Q⟩:∃k:Nat,k<6/\e.o=(k:Int)+1:=⟨(e.o-1).toNat,cF F.o1 F.o2,aA F.o1⟩;have hw:e.w=k:=by unfold z.w;omega
 have A:ax ((w.alloc (.cells #[N L.b] 156)).alloc (.cells (aj e) 64)) [(w.heap.size+1,64,aj e),(w.heap.size,156,#[N L.b])]:=((ax.nil.push (g:=w.heap.size) O).push (g:=w.heap.size+1) ah);have D0:S w ((w.alloc (.cells #[N L.b] 156)).alloc (.cells (aj e) 64)):=(((aq w.heap.size w).alloc aQ _).alloc aQ _);obtain⟨d,y⟩:=cJ ((w.alloc (.cells #[N L.b] 156)).alloc (.cells (aj e) 64));have θ:d.heap.size=w.heap.size+2:=by rw[y];simp
 rw[<-y]at A D0;have j:=h.call D0;have G:=aP A D0 j;have HH:=aP h F hm;have HF:=U (λ(W:D) (i:S d W)=>ar (A.call i).rules (ar (A.call i).lts (ar (j.call i).blk.rules (ar (j.call i).blk.lt (uO (j.call i).ri J)))));have HW:=U y;have β:=U hw;have γ:=F.a1;have ι:=F.a2;clear y D0 h F hm hw;obtain⟨eo,es,ed,ek,c,et,u,er,ef⟩:=e;simp only at Q γ ι;subst Q;go_in;go_wp2_with fail;rw[show((w.alloc (.cells #[N L.b] 156)).alloc _)=d from HW.o.symm];have P:=U (A.push (t:=50) (cs:=aw aC) (g:=w.heap.size+2) θ);rename_i K hK
 have HK:K {tmps:=#[N L.b,.agg (aj ⟨(k:Int)+1,es,ed,ek,c,et,u,er,ef⟩),N w.heap.size,N (w.heap.size+1),.nilFunc,Z 0,N (w.heap.size+2),.bool (lk m.ri c).isSome,
   .tuple #[.agg (aw ((lk m.ri c).getD aC)),.bool (lk m.ri c).isSome],N L.b,N L.b,.pointer (some (I L.b 20)),.map (some L.rm),.pointer (some (I (w.heap.size+1) 9)),q c,.tuple #[.agg (aw ((lk m.ri c).getD aC)),.bool (lk m.ri c).isSome],
   .agg (aw ((lk m.ri c).getD aC)),.bool (lk m.ri c).isSome,undef,undef,undef,undef,undef,undef,undef,undef,undef,undef,undef,undef,undef,undef,undef,undef,undef,undef,undef,undef,undef],defers:=[]} ((d.alloc (.cells (aw aC) 50)).drew.setRow (w.heap.size+2) (aw ((lk m.ri c).getD aC))):=by
  apply hK;dsimp only;have X:=P.o.drew.row (by refine⟨?_,?_,trivial⟩<;>omega) (aw ((lk m.ri c).getD aC));have D1:S d ((d.alloc (.cells (aw aC) 50)).drew.setRow (w.heap.size+2) (aw ((lk m.ri c).getD aC))):=Below.rowN ((Below.refl _ _).alloc V _).drew V _;generalize ((d.alloc (.cells (aw aC) 50)).drew.setRow (w.heap.size+2) (aw ((lk m.ri c).getD aC)))=W1 at X D1⊢;have a:=U (And.intro X (And.intro D1 (j.call D1)));have E:=HH.o.2.2.r c k V;obtain⟨q2,g2,q1,-,q0,-,-⟩:=X.rules;obtain⟨l2,l1,l0,-⟩:=X.lts;clear hK HF j A X D1 P HW;unfold aG.r at E;generalize hr:lk m.ri c=R at E a q2⊢;have l:=U hr;clear hr;cases R with
  |none=>go_wp2;go_ret2;refine d9.no ?_ ai O (G.o.2.1.trans (a.o.2.1.mono G.o.2.1.size));unfold qu;rw[av (by rw[l.o];rfl)]
  |some f=>
   simp only[tV]at E a q2⊢;have hc:=ia f k V;have k0:(0:Int)<=(k:Int):=V;have k6:(k:Int)<6:=V;have e1:IntKind.i64.wrap (k:Int)=(k:Int):=bS _ V;have e2:IntKind.i64.wrap (f k+u)=f k+u:=bS _ V;have α:=U (λ(W:D) (i:S W1 W)=>ar (a.o.1.call i).rules (a.o.1.call i).lts);go_wp2_with fail;refine eS 11 Y ah Y Y Y Y ?_;simp only[cR]
   iterate 11 refine pE α.o (xA e1 e2 hc k0 k6) ?_
   refine dg ?_;intro _ W2 C _;have B2:=a.o.1.call C;have D2:=a.o.2.1.trans (C.mono a.o.2.1.size);have B3:=B2.set_ (by refine⟨?_,?_,trivial⟩<;>omega) k (Z (f k+u));rw[EA f k V]at B3;have D3:S d (W2.setCell (I (w.heap.size+2) k) (Z (f k+u))):=D2.setCell (p:=(I (w.heap.size+2) k)) aQ _;have v:=aP B3 (G.o.2.1.trans (D3.mono G.o.2.1.size)) ((G.o.2.2).call D3);obtain⟨q2,g2,q1,-,q0,-,-⟩:=B2.rules;obtain⟨l2,l1,l0,-⟩:=B2.lts;clear B2 D2 B3 D3 C α a;by_cases hx:140737488355328<f k+u
   ·have ζ:decide (140737488355328<f k+u)=true:=fa hx;go_wp2;go_ret2;refine d9.no ?_ ai O v.o.2.1;unfold qu;rw[al (by rw[l.o];simp),β.o];unfold aG.r;rw[l.o];exact bH Prod.fst (av hx)
   have ζ:decide (140737488355328<f k+u)=false:=fO hx;go_wp2;go_ret2;have T:qu m ⟨(k:Int)+1,es,ed,ek,c,et,u,er,ef⟩=(0,{m with ri:=putL m.ri c (gU f k (f k+u))}):=by unfold qu;rw[al (by rw[l.o];simp),β.o];unfold aG.r;rw[l.o];exact al (show ¬_ from by show ¬(140737488355328<f k+u);omega)
   rw[T];refine⟨_,O,v.o.2.1,λJ=>absurd O J,λ_=>⟨_,_,O,λ_ _=>Y,λW i=>?_⟩⟩;have B:=v.o.1.call i;exact wZ (Zt (v.o.2.2.call i) B.head B.drop.drop.head B.drop.head J)
 clear hK;have ST:=GJ P.o.drew.head;have SZ:=mS;have ξ:=uO (j.ri.same (w':=d.drew) O) J;have μ:=uO (j.ri.same (w':=(d.alloc (.cells (aw aC) 50)).drew) (((aq d.heap.size d).alloc V (.cells (aw aC) 50)).drew.block _ j.ri.lt)) J;obtain⟨q1,-,q0,-,-⟩:=A.rules;obtain⟨l1,l0,-⟩:=A.lts;obtain⟨ν,fz⟩:=j.blk.rules;obtain⟨p2,f2,p1,-,p0,-,-⟩:=P.o.rules;obtain⟨p,-⟩:=(j.call ((aq d.heap.size d).alloc V (.cells (aw aC) 50))).blk.rules;have κ:=U HK;clear A j G HH HF HW P HK;go_region
 all_goals
  simp only[Act.put,yg,yl,ym,yp,vz,yv];exact κ.o
end
section
variable{w w':D}{L:eY}{m:aG}
def bI.ri_perm{R':List (Int×(Nat->Int))}(h:bI w L {m with ri:=R})(p:R.Perm R'):bI w L {m with ri:=R'}:=
 ⟨h.blk,h.tre,h.pa,h.ri.perm p,h.gr,h.qs,h.nd⟩
structure Cr(W:D)(L:eY)(m:aG)(fb r c1:Nat)(es left kept:List (Int×(Nat->Int)))(W':D):Prop where
 rg:fP lQ W' fb r left kept
 pm:es.Perm (kept.reverse++left)
 lad:bI W' L {m with ri:=putsL m.ri kept.reverse}
 md:aa L.mem W W'
 sz:W.heap.size+1<=W'.heap.size
 b1:M W' c1 156 #[N L.b]
def VX{fb:Nat}{B:List (Int×(Nat->Int))}(h:bI W L m)(h0:M W c0 182 #[.map (some fb)])(h1:M W c1 156 #[N L.b])
  (hf:bA lQ W fb B) (nf:¬L.mem fb) (n1:¬L.mem c1):
  Calls prog 357 #[N c0,N c1] W λr W'=>(∃u,r=.returned u)/\bI W' L {m with ri:=putsL m.ri B}/\aa L.mem W W':=by
 obtain⟨q0,-⟩:=h0.rules;have HM:=U hf;have f:=cQ h h1 nf n1;clear h h1 hf nf n1 h0;go_in;go_wp2_with (first|(at_range;refine sP rK rfl _ rfl rfl HM.o ?_;intro w0 C t δ));go_frame;have A0:Cr W L m fb W.heap.size c1 B B [] w0:=⟨C,ah,f.o.1.call t,aa.of_below t,V,f.o.2.1.call t⟩;clear C t δ q0;go_loopg [2] B.length (λg v wr=>∃left d,left.length=g/\Cr W L m fb W.heap.size c1 B left d wr);exact⟨B,[],O,A0⟩;obtain⟨left,d,hg,A⟩:=hrel;clear A0;go_wp2_with (first|(at_next;refine sQ rfl _ rfl rfl A.rg ?_ ?_))
 ·intro β;obtain rfl:=β;go_wp2;go_end0;refine⟨⟨_,O⟩,A.lad.ri_perm ?_,A.md⟩;have X:=A.pm;rw[eF]at X;have hn:=A.rg.map.ndk;rw[ju]at hn;exact aay f.o.1.ri.ndk (hn.perm (List.reverse_perm d).symm) X.symm
 intro Q l c n X i j ε;have J:c.length+1=left.length:=by have:=X.length_eq;simpa using this.symm
 have α:bo Q:=i.ok (Q,l) ah;have nr:¬L.mem W.heap.size:=λh=>sJ _ (f.o.1.lt _ h);have L2:=A.lad.fr j nr;have η:=f.o.2.1.lt;have b2:=j.blk A.b1 V ah;have M2:aa L.mem W n:=A.md.trans' (aa.of_fr1 (F:=aR W.heap.size) j O) (λk hk e=>by have e:k=W.heap.size:=e;omega);have z2:=aZ A.sz j.size;have B3:ax (n.alloc (.cells (aw aC) 50)) [(n.heap.size,50,aw aC)]:=ax.nil.push O;have γ:=oz B3.head l;have B4:=B3.row trivial (aw l);have P:S n ((n.alloc (.cells (aw aC) 50)).setRow n.heap.size (aw l)):=Below.rowN ((aq _ _).alloc (ao _) _) (ao _) _;obtain⟨E,G⟩:=cJ ((n.alloc (.cells (aw aC) 50)).setRow n.heap.size (aw l));rw[<-G]at B4 P;have HW:=U G;have L4:=L2.call P;have K:=i.call P;have b4:=b2.call P;have M4:=M2.call P;have z4:=aZ z2 P.size;obtain⟨w5,cH,M5,T⟩:=(L4.ri.same (w':=E.drew) O).put rK (a:=Q) α l;have ζ:(Instr.mapUpdate 182 (.map (some L.rm)) (q Q) (.agg (aw l))).run prog E.drew=.ok () w5:=cH;have hA:Cr W L m fb W.heap.size c1 B c ((Q,l)::d) w5:=by have hb:∀{k:Nat},k<E.heap.size->k≠L.rm->w5.heap[k]? =E.heap[k]?:=λ{k} hk hn=>T.block k hk hn ah;have y:L.mem L.rm:=.inr (.inr (.inr (.inr (.inl O))));refine⟨K.same (hb K.map.lt λe=>f.o.2.2.1 (e▸y)) (hb V λe=>nr (e▸y)),?_,?_,(M4.trans aa.drew).trans (aa.of_fr1 T y),aZ z4 T.size,T.blk (M.drew b4) (λe=>f.o.2.2.2 (e▸y)) ah⟩;refine A.pm.trans ?_;rw[yA,i6];exact List.Perm.append_left _ X;rw[yA,JR];exact(L4.drew).fr_rm T M5
 have HA:=U hA;obtain⟨q1,-⟩:=b4.rules;obtain⟨p4,-⟩:=L4.blk.rules;have hl:=i9 B4.drew.head.rng;have HG:=aB hg J;clear A X i j nr L2 b2 M2 B3 B4 P G L4 K b4 M4 cH M5 T hA hg J α;go_wp2_with fail;rw[show((n.alloc (.cells (aw aC) 50)).setRow n.heap.size (aw l))=E from HW.o.symm];clear HW ε γ;go_region
 all_goals
  go_wp2_with fail;have hg:=HG.o.1;have J:=HG.o.2;go_roundg c.length
  case measure=>omega
  exact⟨c,(Q,l)::d,O,HA.o⟩
end
def Ai(w0:D)(fn:FuncId)(b:Array H)(c:(Nat->Int)->Int×(Nat->Int)):Prop:=
 (∀a w,(callFunc fn a).run prog w=.ok (.enter fn a) w)/\∀f W,dx f->S w0 W->Calls prog fn (#[.agg (aw f)]++b) W (tp (c f) W)
def rM(m:aG)(a:(Nat->Int)->Int×(Nat->Int))(l:List Int):Int×aG:=if jw m a l≠0 then(jw m a l,m)else(0,{m with ri:=jv m a l})
section
variable{w w':D}{L:eY}{m:aG}
structure Cs(w:D)(L:eY)(m:aG)(tf:(Nat->Int)->Int×(Nat->Int))(l:List Int)(v:H)(k:Nat)(W:D):Prop where
 bks:ax W [(w.heap.size+1+1,182,#[.map (some (w.heap.size+1))]),(w.heap.size,156,#[N L.b])]
 map:bA lQ W (w.heap.size+1) (putsL [] ((l.take k).map λid=>(id,(tf (m.r id)).2)))
 row:gI W (w.heap.size+3) v l
 below:S w W
 ok:∀id∈l.take k,(tf (m.r id)).1=0
def Gt(h:bI w L m)(P:m.ok)(hx:bo x){fn:FuncId}{J:Array H}{u:(Nat->Int)->Int×(Nat->Int)}(T:Ai w fn J u):
  Calls prog 344 #[N L.b,q x,.func (.func fn) #[] J] w (d9 w L (rM m u (aL m.tr x))):=by
 have f:=aP h P T;have CP:=U (λ(W:D) (hb:S w W)=>xB (h.call hb).tre P.tr hx);have B0:ax (((w.alloc (.cells #[N L.b] 156)).alloc (.map #[] 0)).alloc (.cells #[.map (some (w.heap.size+1))] 182)) [(w.heap.size+1+1,182,#[.map (some (w.heap.size+1))]),(w.heap.size,156,#[N L.b])]:=
  ((ax.nil.push (g:=w.heap.size) O).alloc (.map #[] 0)).push (g:=w.heap.size+1+1) ah
 have D0:S w (((w.alloc (.cells #[N L.b] 156)).alloc (.map #[] 0)).alloc (.cells #[.map (some (w.heap.size+1))] 182)):=
  ((((aq w.heap.size w).alloc aQ _).alloc aQ _).alloc aQ _)
 have G0:bA lQ (((w.alloc (.cells #[N L.b] 156)).alloc (.map #[] 0)).alloc (.cells #[.map (some (w.heap.size+1))] 182)) (w.heap.size+1) []:=
  (bA.made_at lQ (w:=w.alloc (.cells #[N L.b] 156)) (b:=w.heap.size+1) ah).call ((aq _ _).alloc (ao _) _)
 have χ:= @qc prog;obtain⟨W0,t⟩:=cJ ((((w.alloc (.cells #[N L.b] 156)).alloc (.map #[] 0)).alloc (.cells #[.map (some (w.heap.size+1))] 182)));rw[<-t]at B0 D0 G0;obtain⟨p,-⟩:=(h.call D0).blk.rules;obtain⟨X,-,p0,-,-⟩:=B0.rules;have HW:=aP B0 D0 G0;rw[t]at p X p0;have E:=U t;clear h P T B0 D0 G0 t;go_in;go_wp2_with fail;rw[show(((w.alloc (.cells #[N L.b] 156)).alloc (.map #[] 0)).alloc (.cells #[.map (some (w.heap.size+1))] 182))=W0 from E.o.symm];apply(CP.o W0 HW.o.2.1).mono;rintro r R ⟨v,rfl,d,C⟩;have η:W0.heap.size=w.heap.size+3:=by rw[E.o];simp
 clear χ p X p0 E CP;obtain⟨A1,c1,rfl,Δ,Φ⟩:=d.sl;have A0:Cs w L m u (aL m.tr x) (.slice A1 (aL m.tr x).length c1) 0 R:=
  ⟨HW.o.1.call C,by simpa[putsL]using HW.o.2.2.call C,η▸d,HW.o.2.1.trans (C.mono V),ah⟩
 have γ:(aL m.tr x).length<=32:=aZ (sT _ _) f.o.2.1.tr.le;have G:∀y∈aL m.tr x,bo y:=λy Q=>by obtain⟨v,s⟩:=n8.1 (qn Q);exact(f.o.2.1.tr.rg _ (dX s)).1
 have HK:=U G;generalize hl:aL m.tr x=l at A0 Δ γ HK⊢;have δ:=U hl;clear d C hl HW G η;go_wp2;go_loopg [21] l.length (λg v wr=>∃k:Nat,k<=l.length/\l.length-k=g/\v=Z k/\Cs w L m u l (.slice A1 l.length c1) k wr);exact⟨0,V,V,O,A0⟩;obtain⟨k,hk,hg,rfl,A⟩:=hrel;clear A0;by_cases ζ:k<l.length
 ·obtain⟨y,Q⟩:∃y,l[k]? =some y:=⟨l[k],bY ζ⟩;obtain⟨g,ω,hs,β,φ,hgb,Θ⟩:=A.row.sl_pos V;have d:=A.row;rw[hs]at d;have κ:=d.rng kV Q;obtain⟨rfl,ψ⟩:A1=some (I g 0)/\c1=ω:=by injection hs with a b c;exact⟨a,c⟩
  have Γ:wr.cell? (I g k)=some (q y):=by have this:=κ 0 (q y) O;rw[iP]at this;exact this
  have HL:=f.o.1.call A.below;have ξ:=AO HL.ri (HK.o y (cX Q));obtain⟨X,-,p0,-,-⟩:=A.bks.rules;obtain⟨l2,l0,-⟩:=A.bks.lts;obtain⟨p,-⟩:=HL.blk.rules;have σ:=f.o.2.2.1;have CT:=U (f.o.2.2.2 (m.r y) wr (f.o.2.1.r y) A.below);have i:=U A;have HX:=aP Q hg ζ;have π:=U (show(Value.slice (some (I g 0)) l.length c1).ownBlock≠some (w.heap.size+1)from λe=>by
   have e:g=w.heap.size+1:=by simpa[Value.ownBlock]using e
   omega)
  clear A HL d κ hs β φ ψ hg Q;go_wp2_with fail;apply CT.o.mono;rintro r j ⟨rfl,n⟩;generalize α:u (m.r y)=rs;obtain⟨er,K⟩:=rs;have HT:=U α;have B3:ax (j.alloc (.cells (aw aC) 50)) ((j.heap.size,50,aw aC)::_):=(i.o.bks.call n).push O;have Ψ:=n.size;have nn:gv j.heap.size [(w.heap.size+1+1,182,#[.map (some (w.heap.size+1))]),(w.heap.size,156,#[N L.b])]:=by refine⟨?_,?_,trivial⟩<;>omega
  have Ξ:=oz B3.head K;have B4:=B3.row nn (aw K);have D4:S j ((j.alloc (.cells (aw aC) 50)).setRow j.heap.size (aw K)):=Below.rowN ((aq _ _).alloc (ao _) _) (ao _) _;have D5:S wr ((j.alloc (.cells (aw aC) 50)).setRow j.heap.size (aw K)):=n.trans (D4.mono n.size);have M4:=i.o.map.call D5;have R4:gI _ _ _ _:=Row.call i.o.row D5;have E4:=i.o.below.trans (D5.mono i.o.below.size);clear α CT X p0 l2 l0 p ξ Γ;by_cases hz:er=0
  ·subst hz;obtain⟨w5,cH,M5,F5⟩:=M4.put rK (a:=y) (HK.o y (cX HX.o.1)) K;have τ:(Instr.mapUpdate 182 (.map (some (w.heap.size+1))) (q y) (.agg (aw K))).run prog ((j.alloc (.cells (aw aC) 50)).setRow j.heap.size (aw K))=.ok () w5:=cH;have hA:Cs w L m u l (bh g l.length c1) (k+1) w5:=by
    have μ:l.take (k+1)=l.take k++[y]:=by rw[gP,HX.o.1];rfl
    refine⟨B4.drop.mod (aa.of_fr1 (F:=aR (w.heap.size+1)) F5 O) ⟨?_,?_,trivial⟩,?_,F5.own R4 π.o (by cases(Value.slice (some (I g 0)) l.length c1).ownBlock<;>simp),F5.below E4 V (λ_ h=>aK h),?_⟩;intro e;have e:w.heap.size+1+1=w.heap.size+1:=e;omega;intro e;have e:w.heap.size=w.heap.size+1:=e;omega;rw[μ,jh,cW,mJ,JR];rw[HT.o];exact M5;intro id nW;rw[μ]at nW;rcases bP.1 nW with nW|nW;exact i.o.ok id nW;obtain rfl:id=y:=az nW;rw[HT.o]
   have ν:=U hA;have Ω:=i9 B4.head.rng;obtain⟨p3,-,X,-,p0,-,-⟩:=B4.rules;clear B3 B4 D4 D5 M4 R4 E4 cH M5 F5 hA i;go_wp2_with fail;have hg:=HX.o.2.1;go_roundg (l.length-(k+1))
   case measure=>omega
   exact⟨k+1,V,O,ah,ν.o⟩
  have hzd:(er !=0)=true:=az hz;have E:=aB E4 hz;clear B3 B4 D4 D5 M4 R4 E4 hz;go_wp2;go_ret2;refine d9.no (x:=er) ?_ E.o.2 O E.o.1;have e:=Js (m:=m) (turn:=u) i.o.ok HX.o.1 (by rw[HT.o];exact E.o.2);rw[HT.o]at e;unfold rM;rw[δ.o,e];exact bH Prod.fst (av (show er≠0 from E.o.2))
 obtain rfl:k=l.length:=V;have i:=U A;clear A;go_wp2;go_ret2;have ε:=i.o.ok;rw[jt]at ε;have ι:rM m u (aL m.tr x)=(0,{m with ri:=jv m u l}):=by unfold rM;rw[δ.o,Jt ε];rfl
 rw[ι];refine⟨_,O,i.o.below,λhn=>absurd O hn,λ_=>⟨_,_,O,λ_ _=>Y,λW hb=>?_⟩⟩;have B:=i.o.bks.call hb;have υ:=(f.o.1.call i.o.below).call hb;have θ:=i.o.map.call hb;rw[jt]at θ;refine(VX υ B.head B.drop.head θ (λP=>?_) (λP=>?_)).mono ?_;have:=f.o.1.lt _ P;omega;have:=f.o.1.lt _ P;omega;rintro r W' ⟨h1,h2,h3⟩;refine⟨h1,h2.ri_perm ?_,h3.mono λ_=>.inl⟩;rw[KJ];exact Z3 _ _ f.o.1.ri.ndk
end
@[go_sem] theorem ad9(x:cI):(bR x)[0]? =some (Z x.o):=rfl
@[go_sem] theorem ad8(x:cI):(bR x)[1]? =some (q x.r):=rfl
@[go_sem] theorem ad7(x:cI):(bR x)[2]? =some (q x.n):=rfl
@[go_sem] theorem ad6(x:cI):(bR x)[3]? =some (Z x.a):=rfl
@[go_sem] theorem ad5(x:cI):(bR x)[4]? =some (q x.b):=rfl
@[go_sem] theorem adl(o s:Int):(cM o s)[0]? =some (Z o):=rfl
@[go_sem] theorem adk(o s:Int):(cM o s)[1]? =some (q s):=rfl
def kO.place(a:kO e):∃k:Nat,k<6/\e.o=(k:Int)+1/\e.w=k:=
 ⟨(e.o-1).toNat,cF a.o1 a.o2,aA a.o1,O⟩
section
variable{w w':D}{L:eY}{m:aG}
def VQ{c:Nat}(G:M W c 64 (aj e))(A:kO e)(f:Nat->Int)(J:dx f):
  Calls prog 345 #[.agg (aw f),N c] W (tp (fQ f e.w e.a) W):=by
 obtain⟨k,F,j,d⟩:=A.place;have B:=A.a1;have C:=A.a2;have u:=U (λW=>Xr f J k F e.a V W);rw[d];have y:ax ((W.alloc (.cells (aw f) 50)).alloc (.cells (aw aC) 50)) [(W.heap.size+1,50,aw aC),(W.heap.size,50,aw f),(c,64,aj e)]:=((ax.nil.cons G).push (g:=W.heap.size) O).push (g:=W.heap.size+1) ah;have K:S W ((W.alloc (.cells (aw f) 50)).alloc (.cells (aw aC) 50)):=(((aq W.heap.size W).alloc aQ _).alloc aQ _);obtain⟨X,-,Q,-,h,-,-⟩:=y.rules;have hl:=i9 y.drop.head.rng;have i:=aB y K;clear y K G A J F d;obtain⟨eo,es,ed,ek,en,et,ea,er,ef⟩:=e;simp only at j B C u i h⊢;subst j;generalize n:fQ f k ea=rs at u⊢;obtain⟨t,l⟩:=rs;clear n;go_in;go_wp2_with fail;apply(u.o _).mono;rintro r W2 ⟨rfl,b⟩;have E:=i.o.1.call b;have T:=oz E.head l;have P:=U (lU W2 _ _ (aw l) _ _ E.head);have D2:=U (Below.rowN (g:=W.heap.size+1) (i.o.2.trans (b.mono i.o.2.size)) V (aw l));clear E b i u X Q h hl;go_wp2_with fail;exact eu (v:=.tuple #[.agg (aw l),Z t]) (py (s1:=3) (s2:=4) Y _ (W.heap.size+1) l t _ O O P.o) O ⟨O,D2.o⟩
def XD{c d:Nat}{g:cI}(J:M W c 64 (aj e))(F:M W d 119 (bR g))(Q:kO e)(B:0<=g.a)(C:g.a<=1125899906842624)(f:Nat->Int)(K:dx f):
  Calls prog 348 #[.agg (aw f),N c,N d] W (tp (fR f e.w g.a) W):=by
 obtain⟨k,G,l,h⟩:=Q.place;have y:=U (λW=>XB f K k G g.a V W);rw[h];have A:ax ((W.alloc (.cells (aw f) 50)).alloc (.cells (aw aC) 50)) [(W.heap.size+1,50,aw aC),(W.heap.size,50,aw f),(c,64,aj e),(d,119,bR g)]:=(((ax.nil.cons F).cons J).push (g:=W.heap.size) O).push (g:=W.heap.size+1) ah;have P:S W ((W.alloc (.cells (aw f) 50)).alloc (.cells (aw aC) 50)):=(((aq W.heap.size W).alloc aQ _).alloc aQ _);obtain⟨q1,-,q0,-,i,-,T,-,-⟩:=A.rules;have hl:=i9 A.drop.head.rng;have j:=aB A P;clear A P J F Q K G h;obtain⟨eo,es,ed,ek,en,et,ea,er,ef⟩:=e;obtain⟨γ,α,δ,ga,gb⟩:=g;simp only at l B C y j i T⊢;subst l;generalize t:fR f k ga=rs at y⊢;obtain⟨u,n⟩:=rs;clear t;go_in;go_wp2_with fail;apply(y.o _).mono;rintro r W2 ⟨rfl,b⟩;have E:=j.o.1.call b;have β:=oz E.head n;have X:=U (lU W2 _ _ (aw n) _ _ E.head);have D2:=U (Below.rowN (g:=W.heap.size+1) (j.o.2.trans (b.mono j.o.2.size)) V (aw n));clear E b j y q1 q0 i T hl;go_wp2_with fail;exact eu (v:=.tuple #[.agg (aw n),Z u]) (py (s1:=4) (s2:=5) Y _ (W.heap.size+1) n u _ O O X.o) O ⟨O,D2.o⟩
end
section
variable{w w':D}{L:eY}{m:aG}
def Xf{w:D}{o:Nat}{x:cI}(h:lB w g o (bR x)):(dQ 119 (.pointer (some (I g o)))).run prog w=.ok (.value (.agg (bR x))) w:=
 eO h underlying119 O (pq x)
def VP{v:H}(hd:Az b0 w0 L m' v)(hW:S w0 W)(B:M W c0 287 #[v])
  (P:M W c1 156 #[N L.b]) (C:M W c2 189 (cM e.o e.r)) (K:M W c3 64 (aj e)) (hn:fM e.o e.r)
  (G:¬gV L b0 w0 c1) (E:¬gV L b0 w0 c2) (J:¬gV L b0 w0 c3):
  Calls prog 347 #[N c0,N c1,N c2,N c3] W λr W'=>(∃u,r=.returned u)/\
   bI W' L {m' with qs:=putL m'.qs (e.o,e.r) true,gr:=putL m'.gr (e.o,e.r) ⟨e.o,e.r,e.n,e.a,0⟩}/\aa (λk=>gV L b0 w0 k) W W':=by
 obtain⟨f,γ,rfl,l,y⟩:=hd;have C1:=U (y W hW);obtain⟨q0,-⟩:=B.rules;have bk:ax W [(c1,156,#[N L.b]),(c2,189,(cM e.o e.r)),(c3,64,(aj e))]:=ax.cons P (ax.cons C (ax.cons K (ax.nil)));have ni:kC (gV L b0 w0) [(c1,156,#[N L.b]),(c2,189,(cM e.o e.r)),(c3,64,(aj e))]:=⟨G,E,J,trivial⟩;have HB:=aB bk ni;have HN:=U hn
 skip
 clear y hW B P C K G E J hn bk ni;go_in;go_wp2_with fail;apply C1.o.mono;rintro r W2 ⟨⟨u,rfl⟩,T,M2⟩;have β:gV L b0 w0 L.qm:=.inl (.inr (.inr (.inr (.inr (.inr (.inr O))))));have α:gV L b0 w0 L.gm:=.inl (.inr (.inr (.inr (.inr (.inr (.inl O))))));have Q:=HB.o.1.mod M2 HB.o.2;have H2:=aP T M2 Q;have A:=U (λ(W:D) (d:S W2 W)=>ar (Q.call d).rules (ar (Q.call d).lts (ar (T.call d).blk.rules.1 (T.call d).blk.lt)));clear T M2 Q C1 q0 l;go_wp2_with fail;refine eS 5 Y ah Y Y Y Y ?_;simp only[cR]
 iterate 5 refine fX A.o ?_
 refine dg ?_;intro _ W3 j _;have L3:=H2.o.1.call j;obtain⟨W4,cH,M4,F4⟩:=L3.qs.put Ah (a:=(e.o,e.r)) HN.o true;have c:(Instr.mapUpdate 185 (.map (some L.qm)) (.agg #[Z e.o,q e.r]) (.bool true)).run prog W3=.ok () W4:=cH;have L4:=L3.fr_qm F4 M4;have h:aa (gV L b0 w0) W2 W4:=(aa.of_below j).trans (aa.of_fr1 F4 β);have B4:=H2.o.2.2.mod h HB.o.2;have t:=aP L4 (H2.o.2.1.trans h) B4;clear L3 M4 F4 L4 h B4 cH j A;go_wp2_with fail;have A:=U (λ(W:D) (d:S W4 W)=>ar (t.o.2.2.call d).rules (ar (t.o.2.2.call d).lts (ar (t.o.1.call d).blk.rules.1 (t.o.1.call d).blk.lt)));clear c;refine eS 14 Y ah Y Y Y Y ?_;simp only[cR]
 iterate 14 first|refine fX A.o ?_|(refine zM (λ_=>rfl) ?_;apply cV;intro _ W d;have j:=A.o W d;simp[execOp,go_sem,j]<;>exact rfl;simp only[aD])
 refine dg ?_;intro _ W5 i _;have X:=t.o.1.call i;obtain⟨W6,cH,M6,F6⟩:=X.gr.put zY (a:=(e.o,e.r)) HN.o ⟨e.o,e.r,e.n,e.a,0⟩;have c:(Instr.mapUpdate 184 (.map (some L.gm)) (.agg #[Z e.o,q e.r]) (.agg #[Z e.o,q e.r,q e.n,Z e.a,q 0])).run prog W5=.ok () W6:=cH;have HL:=aB (X.fr_gm F6 M6) (t.o.2.1.trans ((aa.of_below (F:=gV L b0 w0) i).trans (aa.of_fr1 F6 α)));clear X M6 F6 cH i A;go_wp2;go_end0;exact⟨⟨_,O⟩,HL.o⟩
def XC{c B:Nat}{g:cI}{v:H}(hd:Az b0 w0 L m' v)(hW:S w0 W)(Q:M W c0 287 #[v])
  (ε:M W c1 156 #[N L.b]) (X:M W c2 189 (cM e.o e.r)) (α:M W c3 64 (aj e)) (T:M W c 119 (bR g)) (γ:M W B 189 (cM e.o e.f)) (hn:fM e.o e.r) (δ:fM e.o e.f)
  (J:¬gV L b0 w0 c1) (E:¬gV L b0 w0 c2) (K:¬gV L b0 w0 c3) (β:¬gV L b0 w0 c) (G:¬gV L b0 w0 B) (d2:c≠c1) (d3:c≠c2) (d4:c≠c3) (d5:c≠B):
  Calls prog 350 #[N c0,N c1,N c2,N c3,N c,N B] W λr W'=>(∃u,r=.returned u)/\
   bI W' L {m' with qs:=putL m'.qs (e.o,e.r) true,gr:=putL m'.gr (e.o,e.f) {g with b:=e.r}}/\aa (λk=>gV L b0 w0 k\/k=c) W W':=by
 obtain⟨f,ι,rfl,n,C⟩:=hd;have C1:=U (C W hW);obtain⟨q0,-⟩:=Q.rules;have bk:ax W [(c1,156,#[N L.b]),(c2,189,(cM e.o e.r)),(c3,64,(aj e)),(c,119,(bR g)),(B,189,(cM e.o e.f))]:=ax.cons ε (ax.cons X (ax.cons α (ax.cons T (ax.cons γ (ax.nil)))));have ni:kC (gV L b0 w0) [(c1,156,#[N L.b]),(c2,189,(cM e.o e.r)),(c3,64,(aj e)),(c,119,(bR g)),(B,189,(cM e.o e.f))]:=⟨J,E,K,β,G,trivial⟩;have HB:=aB bk ni;have HN:=U hn;have η:=U δ;clear C hW Q ε X α T γ J E K β G hn bk ni δ;go_in;go_wp2_with fail;apply C1.o.mono;rintro r W2 ⟨⟨u,rfl⟩,L2,M2⟩;have ζ:gV L b0 w0 L.qm:=.inl (.inr (.inr (.inr (.inr (.inr (.inr O))))));have θ:gV L b0 w0 L.gm:=.inl (.inr (.inr (.inr (.inr (.inr (.inl O))))));have B2:=HB.o.1.mod M2 HB.o.2;have H2:=aP L2 M2 B2;have P:=U (λ(W:D) (i:S W2 W)=>ar (B2.call i).rules (ar (B2.call i).lts (ar (L2.call i).blk.rules.1 (L2.call i).blk.lt)));clear L2 M2 B2 C1 q0 n;go_wp2_with fail;refine eS 5 Y ah Y Y Y Y ?_;simp only[cR]
 iterate 5 refine fX P.o ?_
 refine dg ?_;intro _ W3 y _;have L3:=H2.o.1.call y;obtain⟨t,cH,M4,F4⟩:=L3.qs.put Ah (a:=(e.o,e.r)) HN.o true;have d:(Instr.mapUpdate 185 (.map (some L.qm)) (.agg #[Z e.o,q e.r]) (.bool true)).run prog W3=.ok () t:=cH;have L4:=L3.fr_qm F4 M4;have l:aa (gV L b0 w0) W2 t:=(aa.of_below y).trans (aa.of_fr1 F4 ζ);have B4:=H2.o.2.2.mod l HB.o.2;have H4:=aP L4 (H2.o.2.1.trans l) B4;clear L3 M4 F4 L4 l B4 cH y P;have B5:ax t [(c,119,bR g),(c1,156,#[N L.b]),(c2,189,cM e.o e.r),(c3,64,aj e),(B,189,cM e.o e.f)]:=
  H4.o.2.2.perm (by intro x hx;simp only[dh,sO,lE]at hx;rcases hx with rfl|rfl|rfl|rfl|rfl<;>simp)
 obtain⟨q4,g4,q1,-,q2,-,q3,-,q5,-,-⟩:=B5.rules;obtain⟨l4,l1,l2,l3,l5,-⟩:=B5.lts;have B6:=B5.set_ ⟨d2.symm,d3.symm,d4.symm,d5.symm,trivial⟩ 4 (q e.r);have n4:¬gV L b0 w0 c:=HB.o.2.2.2.2.1;have F6:aH t (t.setCell (I c 4) (q e.r)) c none:=aH.of_set _ O _;have L6:=H4.o.1.fr F6 (λh=>n4 (.inl h));have N6:aa (λk=>gV L b0 w0 k\/k=c) W (t.setCell (I c 4) (q e.r)):=(H4.o.2.1.mono λ_=>gO).trans (aa.of_fr1 F6 (.inr O));have j:=aP L6 N6 B6;clear B5 B6 F6 L6 N6 n4;go_wp2_with fail;generalize t.setCell (I c 4) (q e.r)=W5 at j⊢;clear q4 g4 q1 q2 q3 q5 l4 l1 l2 l3 l5 d;have P:=U (λ(W:D) (i:S W5 W)=>ar (show(dQ 119 (N c)).run prog W=.ok (.value (.agg (bR {g with b:=e.r}))) W from Xf (x:={g with b:=e.r}) (j.o.2.2.call i).head.rng) (ar (j.o.2.2.call i).rules (ar (j.o.2.2.call i).lts (ar (j.o.1.call i).blk.rules.1 (j.o.1.call i).blk.lt))));refine eS 6 Y ah Y Y Y Y ?_;simp only[cR]
 iterate 6 refine fX P.o ?_
 refine dg ?_;intro _ W6 A _;have L7:=j.o.1.call A;obtain⟨W7,cH,M7,F7⟩:=L7.gr.put zY (a:=(e.o,e.f)) η.o {g with b:=e.r};have d:(Instr.mapUpdate 184 (.map (some L.gm)) (.agg #[Z e.o,q e.f]) (.agg (bR {g with b:=e.r}))).run prog W6=.ok () W7:=cH;have HL:=aB (L7.fr_gm F7 M7) (j.o.2.1.trans ((aa.of_below (F:=λk=>gV L b0 w0 k\/k=c) A).trans (aa.of_fr1 F7 (.inl θ))));clear L7 M7 F7 cH A P;go_wp2;go_end0;exact⟨⟨_,O⟩,HL.o⟩
end
section
variable{w w':D}{L:eY}{m:aG}
def GM{R:List ((Int×Int)×Bool)}(h:bA sj w g R)(b:fM o s):(Instr.lookup 185 (.map (some g)) (.agg #[Z o,q s]) false).run prog w=.ok (.bool ((lk R (o,s)).getD false)) w:=h.look Ah (a:=(o,s)) b
def J7(m:aG)(a:(Nat->Int)->Int×(Nat->Int))(l:List Int):(rM m a l).1=jw m a l:=by unfold rM;split;rfl;rename_i h;have:jw m a l=0:=uf.1 h;rw[this]
def J6{m:aG}{a:(Nat->Int)->Int×(Nat->Int)}{l:List Int}(h:jw m a l=0):(rM m a l).2={m with ri:=jv m a l}:=by unfold rM;rw[al (by rw[h];simp)]
def kO.nm(a:kO e){r:Int}(b:bo r):fM e.o r:=by have:=a.o1;have:=a.o2;unfold bo at b;unfold fM;omega
def Vk(h:bI w L m)(hm:m.ok)(e:z)(he:kO e)(hn:bo e.n)(hr:bo e.r):
  Calls prog 335 #[N L.b,.agg (aj e)] w (d9 w L (na m e)):=by
 have B0:ax (((w.alloc (.cells #[N L.b] 156)).alloc (.cells (aj e) 64)).alloc (.cells #[Z e.o,q e.r] 189)) [(w.heap.size+2,189,cM e.o e.r),(w.heap.size+1,64,aj e),(w.heap.size,156,#[N L.b])]:=(((ax.nil.push (g:=w.heap.size) O).push (g:=w.heap.size+1) ah).push (g:=w.heap.size+2) ah);have D0:S w (((w.alloc (.cells #[N L.b] 156)).alloc (.cells (aj e) 64)).alloc (.cells #[Z e.o,q e.r] 189)):=((((aq w.heap.size w).alloc aQ _).alloc aQ _).alloc aQ _);obtain⟨Q,A⟩:=cJ ((((w.alloc (.cells #[N L.b] 156)).alloc (.cells (aj e) 64)).alloc (.cells #[Z e.o,q e.r] 189)));have ζ:Q.heap.size=w.heap.size+3:=by rw[A];simp
 rw[<-A]at B0 D0;have HL:=h.call D0;have HB:=aP B0 D0 HL;have F:=iA h hm he hn hr;have HW:=U A;have K:=U (λ(W:D) (d:S Q W)=>ar (B0.call d).rules (ar (B0.call d).lts (ar (HL.call d).blk.rules.1 (ar (HL.call d).blk.lt (GM (HL.call d).qs (he.nm hr))))));clear A B0 D0 HL h hm he hn hr;go_in;go_wp2_with fail;rw[show(((w.alloc (.cells #[N L.b] 156)).alloc (.cells (aj e) 64)).alloc (.cells #[Z e.o,q e.r] 189))=Q from HW.o.symm];clear HW;refine kW Y Y ?_
 iterate 6 refine fX K.o ?_
 refine dg ?_;intro _ W1 u;have j:=aP (HB.o.1.call u) (HB.o.2.1.trans (u.mono HB.o.2.1.size)) (HB.o.2.2.call u);have T:=U (show m.aeT (e.o,e.r)=(lk m.qs (e.o,e.r)).getD false from O);have ε:=u.size;generalize (lk m.qs (e.o,e.r)).getD false=bq at T⊢;clear K u;cases bq with
 |true=>go_wp2;go_ret2;refine d9.no ?_ ai O j.o.2.1;unfold na;rw[T.o];rfl
 |false=>
  obtain⟨bn,G⟩:=aM ((lk m.tr e.n).isSome);have HN:=U G;have CH:=U (λ(W:D) (d:S W1 W)=>(vh (j.o.2.2.call d).tre F.o.2.2.2.1 bn G).mono (R':=λr w'=>r=.returned (.bool bn)/\S W w') (by rintro r w2 ⟨h1,rfl⟩;exact⟨h1,aq _ _⟩));have K:=U (λ(W:D) (d:S W1 W)=>ar (j.o.1.call d).rules (ar (j.o.1.call d).lts (ar (j.o.2.2.call d).blk.rules.1 (j.o.2.2.call d).blk.lt)));clear G;go_wp2_with fail;refine kW Y Y ?_
  iterate 6 refine fX K.o ?_
  refine oh (λ_=>rfl) 194 #[N L.t,q e.n] _ cK (λw d=>CH.o w d) ?_;simp only[aD];refine fX K.o ?_;refine dg ?_;intro _ W2 l;have C:=aP (j.o.1.call l) (j.o.2.1.trans (l.mono j.o.2.1.size)) (j.o.2.2.call l);have η:=l.size;clear K CH l j;cases bn with
  |false=>go_wp2;go_ret2;refine d9.no ?_ ai O C.o.2.1;unfold na;rw[al (by rw[T.o];simp),HN.o];rfl
  |true=>
   have TT:Ai W2 345 #[N (w.heap.size+1)] (λf=>fQ f e.w e.a):=
    ⟨λ_ _=>Y,λf W hf d=>VQ (C.o.1.drop.head.call d) F.o.2.2.1 f hf⟩
   have CA:=U (Gt C.o.2.2 F.o.2.1 F.o.2.2.2.1 TT);obtain⟨q2,-,q1,-,q0,-,-⟩:=C.o.1.rules;obtain⟨l2,l1,l0,-⟩:=C.o.1.lts;clear TT;go_wp2_with fail;apply CA.o.mono;rintro r P ⟨v,rfl,E,i,c⟩;rw[J7]at i c⊢;generalize α:jw m (λf=>fQ f e.w e.a) (aL m.tr e.n)=ae at i c⊢;have J:=U α;have X:=aP (C.o.1.call E) (C.o.2.1.trans (E.mono C.o.2.1.size)) (C.o.2.2.call E);clear α E CA q2 q1 q0 l2 l1 l0;by_cases hz:ae=0
   ·subst hz;rw[J6 J.o]at c;have HD:=U (c O);clear c i;obtain⟨f,y,hv,-⟩:=HD.o;subst hv;go_wp2;go_ret2;have B4:ax (P.alloc (.cells #[.func (.func f) #[] y] 287)) ((P.heap.size,287,#[.func (.func f) #[] y])::_):=X.o.1.push O;have D4:S P (P.alloc (.cells #[.func (.func f) #[] y] 287)):=(aq _ _).alloc (ao _) _;have β:na m e=(0,{m with ri:=jv m (λf=>fQ f e.w e.a) (aL m.tr e.n),qs:=putL m.qs (e.o,e.r) true,gr:=putL m.gr (e.o,e.r) ⟨e.o,e.r,e.n,e.a,0⟩}):=by unfold na;rw[al (by rw[T.o];simp),al (by rw[HN.o];simp),al (by rw[J.o];simp)]
    rw[β];refine⟨_,O,X.o.2.1.trans (D4.mono X.o.2.1.size),λhn=>absurd O hn,λ_=>⟨_,_,O,λ_ _=>Y,λW d=>?_⟩⟩;have B:=B4.call d;have nw:∀k:Nat,w.heap.size<=k->k<W2.heap.size->¬gV L W2.heap.size P k:=λk h1 h2 ho=>by rcases ho with ho|ho;have:=F.o.1.lt _ ho;omega;omega
    have γ:S P W:=D4.trans (d.mono ah);apply(VP HD.o γ B.head B.drop.drop.drop.head B.drop.head B.drop.drop.head (F.o.2.2.1.nm F.o.2.2.2.2) (nw _ (ao _) V) (nw _ V V) (nw _ V V)).mono;rintro r W' ⟨h1,h2,h3⟩;refine⟨h1,h2,h3.mono λk hk=>?_⟩;rcases hk with hk|hk;exact .inl hk;exact .inr ⟨V,by simp;omega⟩
   have hv:=i hz;have δ:(ae !=0)=true:=az hz;clear c i;subst hv;have HZ:=U hz;clear hz;go_wp2;go_ret2;refine d9.no (x:=ae) ?_ HZ.o O (X.o.2.1.trans (((aq _ _).alloc (ao _) _).mono X.o.2.1.size));unfold na;rw[al (by rw[T.o];simp),al (by rw[HN.o];simp),J.o];exact bH Prod.fst (av (show ae≠0 from HZ.o))
end
section
variable{w w':D}{L:eY}{m:aG}
def Wa{k:Nat}(h:bI W L m)(hm:m.ok)(h0:M W c0 156 #[N L.b])(h1:M W c1 31 #[q x])(h2:M W c2 64 (aj e))(h3:M W c3 3 #[Z k])
  (hk:k<6) (hx:bo x) (hn:bo e.n) (n0:¬L.mem c0) (n1:¬L.mem c1) (n2:¬L.mem c2) (n3:¬L.mem c3):
  Calls prog 341 #[N c0,N c1,N c2,N c3] W λr W'=>(∃u,r=.returned u)/\
   bI W' L {m with tr:=jM m.tr x e.n,pa:=putL m.pa x e.n,ow:=m.ow.set k (m.ow.get k+1),ri:=putL m.ri x (gU aC k e.a)}/\aa L.mem W W':=by
 have bk:ax W [(c0,156,#[N L.b]),(c1,31,#[q x]),(c2,64,aj e),(c3,3,#[Z k])]:=ax.cons h0 (ax.cons h1 (ax.cons h2 (ax.cons h3 ax.nil)));have ni:kC L.mem [(c0,156,#[N L.b]),(c1,31,#[q x]),(c2,64,aj e),(c3,3,#[Z k])]:=⟨n0,n1,n2,n3,trivial⟩;have NI:=U ni;have HM:=U hm;have μ:=hm.ow k hk;have HB:=aB hx hn;have i:=U (λ(X:D) (c:S W X)=>ar (bk.call c).rules (ar (bk.call c).lts (ar (h.call c).blk.rules.1 (h.call c).blk.lt)));have H0:=aB h bk;clear h hm h0 h1 h2 h3 n0 n1 n2 n3 bk ni hx hn;go_in;go_wp2_with fail;refine eS 7 Y ah Y Y Y Y ?_;simp only[cR]
 iterate 7 refine fX i.o ?_
 refine dg ?_;intro _ W1 v _;have L1:=H0.o.1.call v;have CA:=U (xP L1.tre HM.o.tr HB.o.1 HB.o.2);have H1:=aP L1 (aa.of_below (F:=L.mem) v) (H0.o.2.call v);clear L1 v i;go_wp2_with fail;apply CA.o.mono;rintro r W2 ⟨rfl,t2,f2⟩;have T:L.mem L.tm:=.inr (.inr (.inl O));have L2:=H1.o.1.fr_tm f2 t2;have B2:=H1.o.2.2.mod (aa.of_fr1 (F:=L.mem) f2 T) NI.o;have H2:=aP L2 (H1.o.2.1.trans (aa.of_fr1 f2 T)) B2;have i:=U (λ(X:D) (c:S W2 X)=>ar (B2.call c).rules (ar (B2.call c).lts (ar (L2.call c).blk.rules.1 (L2.call c).blk.lt)));clear L2 B2 t2 f2 CA;go_wp2_with fail;refine eS 7 Y ah Y Y Y Y ?_;simp only[cR]
 iterate 7 refine fX i.o ?_
 refine dg ?_;intro _ W3 G _;have L3:=H2.o.1.call G;obtain⟨W4,cH,M4,F4⟩:=L3.pa.put uM (a:=x) HB.o.1 e.n;have f:(Instr.mapUpdate 181 (.map (some L.pm)) (q x) (q e.n)).run prog W3=.ok () W4:=cH;have γ:L.mem L.pm:=.inr (.inr (.inr (.inl O)));have L4:=L3.fr_pm F4 M4;have N4:=(aa.of_below (F:=L.mem) G).trans (aa.of_fr1 F4 γ);have B4:=H2.o.2.2.mod N4 NI.o;have H4:=aP L4 (H2.o.2.1.trans N4) B4;clear i;have i:=U (λ(X:D) (c:S W4 X)=>ar (B4.call c).rules (ar (B4.call c).lts (ar (L4.call c).blk.rules.1 (L4.call c).blk.lt)));clear L3 M4 F4 L4 N4 B4 cH G;go_wp2_with fail;clear f;have hc:=Gh m.inn m.kn L.t L.pm L.rm m.ow L.gm L.qm k hk;have k0:(0:Int)<=(k:Int):=V;have k6:(k:Int)<6:=V;have e1:IntKind.i64.wrap (m.ow.get k+1)=m.ow.get k+1:=bS _ V;refine eS 10 Y ah Y Y Y Y ?_;simp only[cR]
 iterate 10 refine pE i.o (qT hc k0 k6 e1) ?_
 refine dg ?_;intro _ d J _;have L5:=H4.o.1.call J;have c:=L5.blk.set_ (21+k) (Z (m.ow.get k+1));rw[LR _ _ _ _ _ _ _ _ k hk]at c;have F6:aH d (d.setCell (I L.b (21+k)) (Z (m.ow.get k+1))) L.b none:=aH.of_set _ O _;have L6:=L5.fr_b F6 c;have α:L.mem L.b:=.inl O;have N6:=(aa.of_below (F:=L.mem) J).trans (aa.of_fr1 F6 α);have B6:=H4.o.2.2.mod N6 NI.o;have M6:=H4.o.2.1.trans N6;have K:(d.setCell (I L.b (21+k)) (Z (m.ow.get k+1))).heap.size=d.heap.size:=ah;obtain⟨η,fz⟩:=L5.blk.rules;obtain⟨B,l⟩:=cJ (d.setCell (I L.b (21+k)) (Z (m.ow.get k+1)));rw[<-l]at L6 M6 B6 K;have B7:=B6.push (t:=50) (cs:=aw aC) (g:=d.heap.size) K;obtain⟨l0,l1,l2,l3,-⟩:=B6.lts;have nn:gv d.heap.size [(c0,156,#[N L.b]),(c1,31,#[q x]),(c2,64,aj e),(c3,3,#[Z k])]:=by refine⟨?_,?_,?_,?_,trivial⟩<;>omega
 have P:=oz B7.head aC;have B8:=B7.row nn (aw aC);have D8:S B ((B.alloc (.cells (aw aC) 50)).setRow d.heap.size (aw aC)):=Below.rowN ((aq _ _).alloc (ao _) _) V _;obtain⟨p,pf,p0,-,p1,-,p2,-,p3,-,-⟩:=B8.rules;have B9:=B8.set_ nn k (Z e.a);rw[EA aC k V]at B9;have D9:S B (((B.alloc (.cells (aw aC) 50)).setRow d.heap.size (aw aC)).setCell (I d.heap.size k) (Z e.a)):=D8.setCell (p:=(I d.heap.size k)) aQ _;have κ:=ia aC k V;have A:((B.alloc (.cells (aw aC) 50)).setRow d.heap.size (aw aC)).heap.size=d.heap.size+1:=by simp[World.setRow];omega
 have y:=aP (L6.call D9) (M6.call D9) B9;have HE:=U l;rw[l]at P p pf p0 p1 p2 p3 A;clear L5 c F6 L6 α N6 B6 M6 B7 B8 D8 B9 D9 J i l nn l0 l1 l2 l3;go_wp2_with fail;rw[<-HE.o];generalize (((B.alloc (.cells (aw aC) 50)).setRow d.heap.size (aw aC)).setCell (I d.heap.size k) (Z e.a))=W9 at y⊢;clear P p pf p0 p1 p2 p3 A η fz;have i:=U (λ(X:D) (c:S W9 X)=>ar (i9 (y.o.2.2.call c).head.rng) (ar (y.o.2.2.call c).rules (ar (y.o.2.2.call c).lts (ar (y.o.1.call c).blk.rules.1 (y.o.1.call c).blk.lt))));refine eS 6 Y ah Y Y Y Y ?_;simp only[cR]
 iterate 6 refine fX i.o ?_
 refine dg ?_;intro _ ι j _;have E:=y.o.1.call j;obtain⟨ζ,cH,Q,C⟩:=E.ri.put rK (a:=x) HB.o.1 (gU aC k e.a);have f:(Instr.mapUpdate 182 (.map (some L.rm)) (q x) (.agg (aw (gU aC k e.a)))).run prog ι=.ok () ζ:=cH;have δ:L.mem L.rm:=.inr (.inr (.inr (.inr (.inl O))));have HX:=aB (E.fr_rm C Q) (y.o.2.1.trans ((aa.of_below (F:=L.mem) j).trans (aa.of_fr1 C δ)));clear E Q C cH j i;go_wp2;go_end0;exact⟨⟨_,O⟩,HX.o⟩
end
section
open Go.Shelf
attribute [local go_sem] Oper.semAt_some
section
variable{w w':D}{L:eY}{m:aG}
def VO(A:Option Addr)(n c:Nat)(w:D):Calls prog 355 #[.slice A n c] w λr w'=>r=.returned (.func (.func 366) #[] #[N w.heap.size])/\w'=w.alloc (.cells #[.slice A n c] 113):=by go_wp2;go_ret;exact⟨O,O⟩
def se(m:aG)(l:List (Int×Int)):List (Int×Int):=l.foldl (λT x=>jM T x.2 (m.p x.2)) []
def Ps(m:aG)(l:List Int):se m (lI l l.length)=l.reverse.foldl (λT n=>jM T n (m.p n)) []:=by
 have h:∀k,k<=l.length->(lI l k).map (·.2)=(l.take k).reverse:=λk c=>by
  induction k with
  |zero=>rfl
  |succ k ih=>
   have b:l[k]? =some (l.getD k 0):=by rw[sB,bY V];rfl
   rw[gP,b];show l.getD k 0::(lI l k).map (·.2)=_;rw[ih V];simp
 have a:=h l.length (ao _);rw[jt]at a;rw[<-a,List.foldl_map];rfl
def qU(m:aG)(l:List Int)(a:List Int):List (Int×Int):=a.foldl (λT n=>if n∈l then T else jM T n 0) (se m (lI l l.length))
structure Ci(w:D)(m:aG)(t tm c7 b0 b5 aeI:Nat)(v v5:H)(l ns:List Int)(k:Nat)(W:D):Prop where
 tre:it W t tm (qU m l (ns.take k))
 ok:jg (qU m l (ns.take k))
 b7:M W c7 180 #[N t]
 row:gI W b0 v l
 row5:gI W b5 v5 ns
 def_:W.heap[aeI]? =some (.deferred (some []))
 below:S w W
structure Ch(w:D)(L:eY)(m:aG)(t tm c7 c3 c1 base b0:Nat)(v:H)(l:List Int)(pre:List (Int×Int))(W:D):Prop where
 tre:it W t tm (se m pre)
 b7:M W c7 180 #[N t]
 b3:M W c3 156 #[N L.b]
 inv:Hg base c1 v l W
 below:S w W
 sz:b0<=W.heap.size
 ok:jg (se m pre)
 pu:∀y∈pre,bo y.2
def Xt(h:bI w L m)(hm:m.ok){id:Int}(d:bo id)(hx:bo x):Calls prog 340 #[N L.b,q id,q x] w λr w'=>r=.returned (Z (ou m.tr m.p id x))/\S w w':=by
 have F:=aB h hm;have CN:=U Ho;have CP:=U (λ(W:D) (hb:S w W)=>xB (h.call hb).tre hm.tr hx);have HX:=aB d hx;clear h hm d hx;refine(j4 (n:=3)).1 ?_;refine callsIn_of_wp_marks func340 O trivial ?_ O;simp only[ntmps340,pV,dN,g8,Nat.reduceAdd,Nat.reduceSub,tR,tY,ue,tZ,ju,sM];gi_wp2_with fail;refine⟨trivial,(j4.2 (CN.o _)).mono ?_⟩;rintro r G ⟨u,rfl,t,tm,rfl,ht,g1,g2,ε⟩;have Bs:=((ax.nil (w:=w)).push (t:=156) (cs:=#[N L.b]) (g:=w.heap.size) O).call ε;have D1:S w G:=((aq w.heap.size w).alloc (ao _) _).trans (ε.mono ah);have g3:=ε.size;simp only[oX]at g1 g2 g3;have B2:=Bs.push (t:=180) (cs:=#[N t]) (g:=G.heap.size) O;have D2:S G (G.alloc (.cells #[N t] 180)):=(aq _ _).alloc (ao _) _;have T2:=ht.call D2;have E2:=D1.trans (D2.mono D1.size);have g4:=ht.blk.lt;have g5:=ht.map.lt;have z2:(G.alloc (.cells #[N t] 180)).heap.size=G.heap.size+1:=ah;have H2:=aP B2 T2 E2;obtain⟨q7,-,q3,-,-⟩:=B2.rules;obtain⟨l7,l3,-⟩:=B2.lts;obtain⟨ι,-⟩:=(F.o.1.call E2).blk.rules;have lb:=(F.o.1.call E2).blk.lt;clear Bs B2 T2 E2 CN ε ht D1 D2;gi_wp2_with fail;refine⟨trivial,(j4.2 (CP.o _ H2.o.2.2)).mono ?_⟩;rintro r w3 ⟨v,rfl,C,γ⟩;have B3:=H2.o.1.call γ;have T3:=H2.o.2.1.call γ;have E3:=H2.o.2.2.trans (γ.mono H2.o.2.2.size);have z3:=γ.size;obtain⟨A,c,rfl,hc,hm⟩:=C.sl;have CB:=U (λW=>VO A (aL m.tr x).length c W);clear q7 q3 l7 l3 ι lb H2 CP;gi_wp2_with fail;refine⟨trivial,(j4.2 (CB.o _)).mono ?_⟩;rintro r w4 ⟨rfl,δ⟩;have B4:=B3.push (t:=113) (cs:=#[.slice A (aL m.tr x).length c]) (g:=w3.heap.size) O;rw[<-δ]at B4;have D4:S w3 w4:=by rw[δ];exact(aq _ _).alloc (ao _) _
 have z4:w4.heap.size=w3.heap.size+1:=by rw[δ];simp
 have I0:Ch w L m t tm G.heap.size w.heap.size w3.heap.size (G.alloc (.cells #[N t] 180)).heap.size w4.heap.size (.slice A (aL m.tr x).length c) (aL m.tr x) [] w4:=
  ⟨T3.call D4,B4.drop.head,B4.drop.drop.head,⟨B4.head,Row.call C D4⟩,E3.trans (D4.mono E3.size),ao _,jg.nil,λ_ h=>aK h⟩
 clear δ CB B3 T3 E3 B4 D4 γ C;gi_wp2_with fail;have Ψ:(aL m.tr x).length<=32:=aZ (sT _ _) F.o.2.tr.le;simp only[oX]at I0 z3;refine Fn O V (gf:=366) (lb:=#[N w3.heap.size]) O trivial (kT func366 Y O)
  (QM (base:=G.heap.size+1) (c1:=w3.heap.size) (v:=.slice A (aL m.tr x).length c) (l:=aL m.tr x) _ V w4) (λ_ _=>trivial) trivial (λ_ _ _=>trivial) (λ_ _ _ _=>trivial) (λ_=>rfl)
  (Ch w L m t tm G.heap.size w.heap.size w3.heap.size (G.heap.size+1) w4.heap.size (.slice A (aL m.tr x).length c) (aL m.tr x)) (λW o d=>?_) (λT W l o o' hl ho hc d=>?_) (λT A B d hs=>?_) (λT A d=>d.inv) I0
  (λy=>{tmps:=#[N L.b,q id,q x,N w.heap.size,undef,undef,Z 0,N G.heap.size,.slice A (aL m.tr x).length c,undef,q y.2,undef,undef,N t,N L.b,N L.b,.pointer (some (I L.b 18)),N L.t,q x,.slice A (aL m.tr x).length c,.slice A (aL m.tr x).length c,
   .func (.func 366) #[] #[N w3.heap.size],Z y.1,q y.2,undef,undef,undef,undef,undef,undef,undef,undef,undef,undef,undef,undef,undef,undef,undef,undef,undef,undef,undef,undef,undef,undef,undef,undef,undef,undef,undef,undef,undef,undef,undef],defers:=[]}) ?assign ?body ?done
 exact⟨d.tre.call ((aq _ _).alloc (ao _) o),d.b7.call ((aq _ _).alloc (ao _) o),d.b3.call ((aq _ _).alloc (ao _) o),⟨d.inv.1.call ((aq _ _).alloc (ao _) o),Row.call d.inv.2 ((aq _ _).alloc (ao _) o)⟩,d.below.trans (((aq _ _).alloc (ao _) o).mono d.below.size),by have:=d.sz;simp;omega,d.ok,d.pu⟩
 ·obtain⟨f1,f2,f3,f4⟩:=vO W l o';have f:aH W (W.putObj l o') l none:=⟨f1,f2,f3,f4,λk hk ζ _=>rh ζ⟩;have η:=d.sz;refine⟨d.tre.fr f V V,f.blk d.b7 V ah,f.blk d.b3 V ah,⟨f.blk d.inv.1 V ah,f.own d.inv.2 (λe=>?_) (by cases(Value.slice A (aL m.tr x).length c).ownBlock<;>simp)⟩,f.below d.below V (λ_ h=>aK h),aZ η f.size,d.ok,d.pu⟩;have:=oe d.inv.2 l o e ho;rw[hc]at this;cases this
 subst hs;exact⟨d,ao _,λk o hk ho _=>ho⟩
 case assign=>
  intro l y W K hK
  gi_wp2
  exact hK
 case body=>
  intro l T y W d Γ ξ;have η:=d.sz;have Q:bo y.2:=by obtain⟨v,hv⟩:=n8.1 (qn ξ);exact(F.o.2.tr.rg _ (dX hv)).1
  have φ:bo (m.p y.2):=by
   unfold aG.p;cases hc:lk m.pa y.2 with
   |none=>exact⟨o5 0,by show(0:Int)<=_;omega⟩
   |some v=>exact F.o.2.pu _ (dX hc)
  have HL:=F.o.1.call d.below;have B:ax W [(G.heap.size,180,#[N t]),(w.heap.size,156,#[N L.b])]:=ax.cons d.b7 (ax.cons d.b3 ax.nil);have s:=U (λ(X:D) (hb:S W X)=>And.intro (B.call hb).rules (And.intro (B.call hb).lts (And.intro (HL.call hb).blk.rules.1 (And.intro (HL.call hb).blk.lt (xE (HL.call hb).pa Q)))));have J:=U d;have HY:=U (And.intro Q φ);clear B HL d Q φ ξ;dsimp only;refine wpIn_block ?_;refine aal 8 Y ah Y Y Y Y Y (λa w h=>h) ?_;simp only[cR]
  iterate 8 refine fX s.o ?_
  refine dg ?_;intro _ W2 α _;have CA:=U (xP (J.o.tre.call α) J.o.ok HY.o.1 HY.o.2);have ν:=U α;clear α s;go_wp2_with fail;apply CA.o.mono;rintro r W3 ⟨rfl,t3,f3⟩;have e3:se m (T++[y])=jM (se m T) y.2 (m.p y.2):=by unfold se;rw[uc];rfl
  have σ:=J.o.inv.2.ge;have α:=ν.o;have f2:aH W W3 tm none:=(aH.of_below α).trans f3;have HR:=U (show Ch w L m t tm G.heap.size w.heap.size w3.heap.size (G.heap.size+1) w4.heap.size (.slice A (aL m.tr x).length c) (aL m.tr x) (T++[y]) W3 from
   ⟨by rw[e3];exact t3,f2.blk J.o.b7 V ah,f2.blk J.o.b3 V ah,⟨f2.blk J.o.inv.1 V ah,f2.own J.o.inv.2 (λe=>aA ((σ _ e).1)) (by cases(Value.slice A (aL m.tr x).length c).ownBlock<;>simp)⟩,
    f2.below J.o.below V (λ_ h=>aK h),aA f2.size,by rw[e3];exact J.o.ok.add HY.o.1 HY.o.2,λυ hz=>by rcases bP.1 hz with hz|hz;exact J.o.pu υ hz;obtain rfl:υ=y:=az hz;exact HY.o.1⟩)
  have HK:=U (show KeepsFrom w4.heap.size W W3 from⟨f2.size,λk o hk ho _=>(f2.block k (fI.1 ho).1 V ah).trans ho⟩);clear t3 f3 f2 α σ e3 CA ν;go_wp2_with fail;exact⟨HK.o,trivial,HR.o⟩
 case done=>
  intro j W hD d hK;dsimp only;have η:=d.sz;have HL:=F.o.1.call d.below;obtain⟨q3,-⟩:=d.b3.rules;obtain⟨q7,-⟩:=d.b7.rules;obtain⟨ι,-⟩:=HL.blk.rules;have lb:=HL.blk.lt;have l3:=d.b3.lt;have l7:=d.b7.lt;have R:=U (GW HL.tre (Nat.le_trans F.o.2.tr.le V));have J:=U (And.intro d hK);clear HL d hK;gi_wp2_with fail;refine⟨trivial,(callsIn_wide.2 R.o).mono ?_⟩;rintro r w5 ⟨v5,rfl,P,β⟩;obtain⟨A5,c5,rfl,hc5,hm5⟩:=P.sl;have hl5:=CV m.tr;have Ω:=F.o.2.tr.le;have ω:=(Array.getElem?_eq_some_iff.1 J.o.2).1;have A0:Ci w m t tm G.heap.size (G.heap.size+1) W.heap.size j (.slice A (aL m.tr x).length c) (.slice A5 (eG m.tr).length c5) (aL m.tr x) (eG m.tr) 0 w5:=
   ⟨J.o.1.tre.call β,J.o.1.ok,J.o.1.b7.call β,Row.call J.o.1.inv.2 β,P,(β.block j ω).trans J.o.2,J.o.1.below.trans (β.mono J.o.1.below.size)⟩
  clear q3 q7 ι lb l3 l7 R P β;gi_wp2_with fail
  gi_loopw [39] (λi wr=>∃k:Nat,k<=(eG m.tr).length/\i=Z k/\Ci w m t tm G.heap.size (G.heap.size+1) W.heap.size j (.slice A (aL m.tr x).length c) (.slice A5 (eG m.tr).length c5) (aL m.tr x) (eG m.tr) k wr) (λi _=>(eG m.tr).length-(intOf i).toNat)
  case atStart=>exact⟨0,V,O,A0⟩
  obtain⟨k,hk,rfl,A⟩:=hrel;clear A0;obtain⟨q7,-⟩:=A.b7.rules;have l7:=A.b7.lt;by_cases ψ:k<(eG m.tr).length
  ·obtain⟨y,hy⟩:∃y,(eG m.tr)[k]? =some y:=⟨(eG m.tr)[k],bY ψ⟩;have Q:bo y:=by obtain⟨v,hv⟩:=n8.1 (zd.1 (cX hy));exact(F.o.2.tr.rg _ (dX hv)).1
   obtain⟨g,Φ,hs,κ,Δ,hgb,hgl⟩:=A.row5.sl_pos V;have C:=A.row5;rw[hs]at C;have π:=C.rng kV hy;obtain⟨rfl,Ξ⟩:A5=some (I g 0)/\c5=Φ:=by injection hs with a b c;exact⟨a,c⟩
   have τ:wr.cell? (I g k)=some (q y):=by have this:=π 0 (q y) O;rw[iP]at this;exact this
   obtain⟨b,hb⟩:=aM (decide (y∈aL m.tr x));have CC:=U (Nq A.row V y b hb);have CA:=U (xP A.tre A.ok Q (show bo 0 from⟨o5 0,ai⟩));have e4:qU m (aL m.tr x) ((eG m.tr).take (k+1))=if b=true then qU m (aL m.tr x) ((eG m.tr).take k)else jM (qU m (aL m.tr x) ((eG m.tr).take k)) y 0:=by unfold qU;rw[gP,hy,uc,<-hb];simp
   have HE:=U e4;have E:=aB A Q;clear C π hs κ Δ Ξ hy Q hb A e4;cases b with
   |true=>
    gi_wp2_with fail;refine⟨trivial,(j4.2 CC.o).mono ?_⟩;rintro r w6 ⟨rfl,rfl⟩;clear q7 l7 τ CC CA;gi_wp2_with fail;go_roundw
    exact⟨k+1,V,ah,by rw[HE.o];exact E.o.1.tre,by rw[HE.o];exact E.o.1.ok,E.o.1.b7,E.o.1.row,E.o.1.row5,E.o.1.def_,E.o.1.below⟩;simp[intOf];omega
   |false=>
    gi_wp2_with fail;refine⟨trivial,(j4.2 CC.o).mono ?_⟩;rintro r w6 ⟨rfl,rfl⟩;clear CC;gi_wp2_with fail;refine⟨trivial,(j4.2 CA.o).mono ?_⟩;rintro r w7 ⟨rfl,t7,f7⟩;have μ:=E.o.1.row.ge;have χ:=E.o.1.row5.ge;have θ:j≠tm:=V
    have B7:Ci w m t tm G.heap.size (G.heap.size+1) W.heap.size j (.slice A (aL m.tr x).length c) (bh g (eG m.tr).length c5) (aL m.tr x) (eG m.tr) (k+1) w7:=
     ⟨by rw[HE.o];exact t7,by rw[HE.o];exact E.o.1.ok.add E.o.2 ⟨o5 0,ai⟩,f7.blk E.o.1.b7 V ah,f7.own E.o.1.row (λe=>aA ((μ _ e).1)) (by cases(Value.slice A (aL m.tr x).length c).ownBlock<;>simp),
      f7.own E.o.1.row5 (λe=>aA ((χ _ e).1)) (by simp[Value.ownBlock]),(f7.block j (fI.1 E.o.1.def_).1 θ ah).trans E.o.1.def_,f7.below E.o.1.below V (λ_ h=>aK h)⟩
    have Θ:=U B7;clear q7 l7 τ CA t7 f7 μ χ B7;gi_wp2_with fail;go_roundw;exact⟨k+1,V,ah,Θ.o⟩;simp[intOf];omega
  obtain rfl:k=(eG m.tr).length:=V;have CA:=U (xP A.tre A.ok HX.o.1 HX.o.2);have E:=U A;clear A;gi_wp2_with fail;refine⟨trivial,(j4.2 CA.o).mono ?_⟩;rintro r w7 ⟨rfl,t7,f7⟩;have θ:j≠tm:=V;have HD:=aB ((f7.block j (fI.1 E.o.def_).1 θ ah).trans E.o.def_) (f7.below E.o.below V (λ_ h=>aK h));clear q7 l7 t7 f7 CA;gi_wp2_with fail;obtain⟨g1,g2,g3,g4⟩:=vO w7 j (.deferred none);have hf:aH w7 (w7.putObj j (.deferred none)) j none:=⟨g1,g2,g3,g4,λk hk ζ _=>rh ζ⟩;refine⟨ah,.inl ⟨_,_,O,run_takeDeferred HD.o.1,?_⟩⟩;refine⟨Z (ou m.tr m.p id x),?_,O,hf.below HD.o.2 V (λ_ h=>aK h)⟩;have e:jK (qU m (aL m.tr x) (List.take m.tr.length (eG m.tr))) id x=ou m.tr m.p id x:=by rw[show List.take m.tr.length (eG m.tr)=eG m.tr from kR V];unfold qU ou;rw[Ps]
  rw[<-e];simp[results,results340,go_sem]
end
end
section
variable{w w':D}{L:eY}{m:aG}
def Vp(h:bI w L m)(hm:m.ok)(e:z)(he:kO e)(hn:bo e.n):
  Calls prog 333 #[N L.b,.agg (aj e)] w (d9 w L (qz m e)):=by
 obtain⟨k,hk,α,δ⟩:=he.place;have η:=he.s1;have ζ:=he.s2;have B0:ax ((w.alloc (.cells #[N L.b] 156)).alloc (.cells (aj e) 64)) [(w.heap.size+1,64,aj e),(w.heap.size,156,#[N L.b])]:=((ax.nil.push (g:=w.heap.size) O).push (g:=w.heap.size+1) ah);have D0:S w ((w.alloc (.cells #[N L.b] 156)).alloc (.cells (aj e) 64)):=(((aq w.heap.size w).alloc aQ _).alloc aQ _);obtain⟨P,G⟩:=cJ ((w.alloc (.cells #[N L.b] 156)).alloc (.cells (aj e) 64));have ε:P.heap.size=w.heap.size+2:=by rw[G];simp
 rw[<-G]at B0 D0;have HB:=aP B0 D0 (h.call D0);have HH:=cQ h hm he hn;have HW:=U G;have HK:=aB α δ;have F:=U (λ(X:D) (y:aa bC P X)=>ar (B0.call y.no).rules (B0.call y.no).lts);have CI:=U (λ(X:D)=>(BS e.o e.s ⟨V,V⟩ X).mono (R':=λr w'=>r=.returned (q (bg e.o e.s))/\S X w') (by rintro r w2 ⟨h1,rfl⟩;exact⟨h1,aq _ _⟩));have e1:IntKind.i64.wrap (e.o-1)=(k:Int):=by rw[α];rw[bU (((k:Int)+1-1)=(k:Int))];exact bS _ V
 clear G B0 D0 h hm he hn α δ;go_in;go_wp2_with fail;rw[show((w.alloc (.cells #[N L.b] 156)).alloc _)=P from HW.o.symm];refine dL [31,3] bC 12 (λ_ h=>h.elim) Y Y ?_
 iterate 4 refine gx F.o ?_
 refine j8 (λ_=>rfl) (eJ O) 48 (λ_=>#[Z e.o,q e.s]) _ cK (λ_ X _=>CI.o X) ?_;simp only[aD]
 iterate 3 refine nI F.o e1 ?_
 refine ng (λ_=>rfl) 31 #[q 0] nK ?_;simp only[aD];refine ng (λ_=>rfl) 3 #[Z 0] nK ?_;simp only[aD];refine Kd (λ_=>rfl) 8 31 _ _ O ai O ah (λ_ h=>h.elim) _ _ _ (λ_=>rfl) (λ_=>rfl) cD (λu ρ X g cs h1 h2 h3 h4 h5 h6 h7=>by simp[execOp,go_sem,h1,h2,h3,h5,h6,h7]) ?_;simp only[aD];refine Kd (λ_=>rfl) 9 3 _ _ O ai O ah (λ_ h=>h.elim) _ _ _ (λ_=>rfl) (λ_=>rfl) cD (λu ρ X g cs h1 h2 h3 h4 h5 h6 h7=>by simp[execOp,go_sem,h1,h2,h3,h5,h6,h7]) ?_;simp only[aD];refine cT O ?_;rintro⟨⟨_,p6⟩,p7⟩ J l hR;dsimp only;have l:S P J:=l;obtain⟨g6,v6,C,n6,B6⟩:∃g v,[p6,q (bg e.o e.s)]=[N g,v]/\P.heap.size<=g/\M J g 31 #[v]:=hR 10 _ _ cD;obtain⟨g7,v7,E,n7,B7⟩:∃g v,[p7,Z (k:Int)]=[N g,v]/\P.heap.size<=g/\M J g 3 #[v]:=hR 11 _ _ cD;injection C with h6 C;injection C with C;injection E with h7 E;injection E with E;subst h6 h7 C E;have B1:ax J [(g6,31,#[q (bg e.o e.s)]),(g7,3,#[Z (k:Int)]),(w.heap.size+1,64,aj e),(w.heap.size,156,#[N L.b])]:=ax.cons B6 (ax.cons B7 (HB.o.1.call l));have L1:=HB.o.2.2.call l;have D1:=HB.o.2.1.trans (l.mono HB.o.2.1.size);have K:=U (And.intro B1 (And.intro D1 L1));clear hR F;have F:=U (λ(X:D) (y:aa bC J X)=>And.intro (B1.call y.no).rules (And.intro (B1.call y.no).lts (And.intro (L1.call y.no).blk.rules.1 (L1.call y.no).blk.lt)));have CR:=U (λ(X:D) (y:S J X)=>Xt (L1.call y) HH.o.2.1 (id:=bg e.o e.s) (x:=e.n) (wL _ _) HH.o.2.2.2);have hc:=Gh m.inn m.kn L.t L.pm L.rm m.ow L.gm L.qm k hk;have k0:(0:Int)<=(k:Int):=V;have k6:(k:Int)<6:=V;clear B6 B7 B1 L1 D1 l CI e1 HW;obtain⟨b1,l⟩:=aM (decide ((5:Int)<=m.ow.get k));obtain⟨b2,A⟩:=aM (decide ((140737488355328:Int)<e.a));have T:b1=true\/b2=true->(qz m e).1=6:=λy=>by unfold qz;rw[HK.o.2];rw[av (y.imp (λh=>by subst h;exact nY l) (λh=>by subst h;exact nY A))]
 have γ:b1=false->b2=false->qz m e=if ou m.tr m.p (bg e.o e.s) e.n≠0 then(ou m.tr m.p (bg e.o e.s) e.n,m)else(0,{m with tr:=jM m.tr (bg e.o e.s) e.n,pa:=putL m.pa (bg e.o e.s) e.n,ow:=m.ow.set e.w (m.ow.get e.w+1),ri:=putL m.ri (bg e.o e.s) (gU aC e.w e.a)}):=λh1 h2=>by subst h1 h2;unfold qz;rw[al];rw[HK.o.2];rintro(h|h);exact absurd h (of_decide_eq_false l);exact absurd h (of_decide_eq_false A)
 have HM:=aB T γ;clear T γ;cases b1 with
 |true=>
  go_wp2_with fail;refine dL [] bC 12 (λ_ h=>h.elim) Y Y ?_
  iterate 12 refine nI F.o (qT hc k0 k6 l) ?_
  refine cT O ?_;rintro _ W2 d-;have d:S J W2:=d;have D2:=U (K.o.2.1.trans (d.mono K.o.2.1.size));clear d F;go_wp2;go_ret2;exact d9.no (HM.o.1 ah) ai O D2.o
 |false=>
  cases b2 with
  |true=>
   go_wp2_with fail;refine dL [] bC 12 (λ_ h=>h.elim) Y Y ?_
   iterate 12 refine nI F.o (xA hc k0 k6 l A) ?_
   refine cT O ?_;rintro _ W2 d-;have d:S J W2:=d;have D2:=U (K.o.2.1.trans (d.mono K.o.2.1.size));clear d F;go_wp2;go_ret2;exact d9.no (HM.o.1 ah) ai O D2.o
  |false=>
   have β:=U (HM.o.2 ah ah);clear HM;go_wp2_with fail;refine dL [] bC 12 (λ_ h=>h.elim) Y Y ?_
   iterate 12 refine nI F.o (xA hc k0 k6 l A) ?_
   refine cT O ?_;rintro _ W2 d-;have d:S J W2:=d;have B2:=K.o.1.call d;have D2:=K.o.2.1.trans (d.mono K.o.2.1.size);have L2:=K.o.2.2.call d;have C2:=U (CR.o W2 d);have H2:=aP B2 D2 L2;obtain⟨q6,-,q7,-,q1,-,q0,-,-⟩:=B2.rules;obtain⟨l6,l7,l1,l0,-⟩:=B2.lts;generalize ou m.tr m.p (bg e.o e.s) e.n=re at β C2;clear d F B2 D2 L2 CR;go_wp2_with fail;apply C2.o.mono;rintro r W3 ⟨rfl,d⟩;have D3:=U (H2.o.2.1.trans (d.mono H2.o.2.1.size));have B3:=U (H2.o.1.call d);have L3:=U (H2.o.2.2.call d);obtain⟨q6,-,q7,-,q1,-,q0,-,-⟩:=B3.o.rules;obtain⟨l6,l7,l1,l0,-⟩:=B3.o.lts;clear C2 d H2;by_cases hz:re=0
   ·subst hz;go_wp2;go_ret2;have Q:=β.o;rw[al ah,HK.o.2]at Q;have nm:∀c:Nat,w.heap.size<=c->¬L.mem c:=λc hc hm=>aA (HH.o.1.lt c hm);rw[Q];refine⟨_,O,D3.o,λhn=>absurd O hn,λ_=>⟨_,_,O,λ_ _=>Y,λW y=>?_⟩⟩;have B:=B3.o.call y;exact wZ (Wa (L3.o.call y) HH.o.2.1 B.drop.drop.drop.head B.head B.drop.drop.head B.drop.head hk (wL _ _) HH.o.2.2.2 (nm _ V) (nm _ V) (nm _ V) (nm _ V))
   have θ:(re !=0)=true:=az hz;have HZ:=U hz;clear hz;go_wp2;go_ret2;refine d9.no (x:=re) ?_ HZ.o O D3.o;rw[β.o];exact bH Prod.fst (av HZ.o)
end
section
variable{w w':D}{L:eY}{m:aG}
def Gg{R:List ((Int×Int)×cI)}(h:bA pM w g R)(b:fM o s):(Instr.lookup 184 (.map (some g)) (.agg #[Z o,q s]) true).run prog w=.ok (.tuple #[.agg (bR ((lk R (o,s)).getD ⟨0,0,0,0,0⟩)),.bool (lk R (o,s)).isSome]) w:=h.look2 zY (a:=(o,s)) b
def UZ(h:bI w L m)(hm:m.ok)(e:z)(he:kO e)(hr:bo e.r)(hf:bo e.f):
  Calls prog 336 #[N L.b,.agg (aj e)] w (d9 w L (nh m e)):=by
 obtain⟨a,A,E,G,C,u,F,i,c⟩:=e;have σ:fM a i:=he.nm hr;have ξ:fM a c:=he.nm hf;have HH:=iA h hm he σ ξ;clear h hm he hr hf σ ξ;go_in;go_wp2_with fail;rename_i K p
 have HK:∀(g6 g7:Nat) (W0:D),ax W0 [(g6,189,cM a i),(g7,189,cM a c),(w.heap.size+1,64,aj ⟨a,A,E,G,C,u,F,i,c⟩),(w.heap.size,156,#[N L.b])]->S w W0->w.heap.size+2<=g6->w.heap.size+2<=g7->g6≠g7->K {tmps:=#[N L.b,.agg (aj ⟨a,A,E,G,C,u,F,i,c⟩),N w.heap.size,N (w.heap.size+1),.nilFunc,Z 0,N g6,N g7,undef,undef,undef,undef,
   .pointer (some (I (w.heap.size+1) 0)),Z a,.pointer (some (I (w.heap.size+1) 12)),q i,.agg #[Z a,q i],N (w.heap.size+1),Z a,.pointer (some (I (w.heap.size+1) 13)),q c,.agg #[Z a,q c],undef,undef,undef,undef,undef,undef,undef,undef,undef,undef,undef,undef,undef,undef,undef,undef,undef,undef,undef,undef,undef,undef,undef,undef,undef,undef,undef,undef,undef,undef,undef,undef,undef,undef],defers:=[]} W0:=by
  intro g6 g7 W0 B0 s n6 n7 n67;apply p;clear p;dsimp only;have H0:=U (And.intro B0 (And.intro s (HH.o.1.call s)));have HF:=U (λ(X:D) (hb:S W0 X)=>And.intro (B0.call hb).rules (And.intro (B0.call hb).lts (And.intro (H0.o.2.2.call hb).blk.rules.1 (And.intro (H0.o.2.2.call hb).blk.lt (GM (H0.o.2.2.call hb).qs HH.o.2.2.2.1)))));clear B0 s;go_wp2_with fail;refine kW Y Y ?_
  iterate 6 refine fX HF.o ?_
  refine dg ?_;intro _ W1 ε;have Q:=aP (H0.o.1.call ε) (H0.o.2.1.trans (ε.mono H0.o.2.1.size)) (H0.o.2.2.call ε);have HQ:=U (show m.aeT (a,i)=(lk m.qs (a,i)).getD false from O);generalize (lk m.qs (a,i)).getD false=bq at HQ⊢;clear HF ε H0;cases bq with
  |true=>go_wp2;go_ret2;refine d9.no ?_ ai O Q.o.2.1;unfold nh;rw[show m.aeT ((⟨a,A,E,G,C,u,F,i,c⟩:z).o,(⟨a,A,E,G,C,u,F,i,c⟩:z).r)=true from HQ.o];rfl
  |false=>
   go_wp2_with fail;rename_i K2 ν;have HG:=U (show m.g (a,c)=(lk m.gr (a,c)).getD ⟨0,0,0,0,0⟩from O);generalize (lk m.gr (a,c)).getD ⟨0,0,0,0,0⟩=gr at HG⊢;obtain⟨n,j,d,J,T⟩:=gr
   have ψ:K2 {tmps:=#[N L.b,.agg (aj ⟨a,A,E,G,C,u,F,i,c⟩),N w.heap.size,N (w.heap.size+1),.nilFunc,Z 0,N g6,N g7,N W1.heap.size,.bool (lk m.gr (a,c)).isSome,undef,undef,
    .pointer (some (I (w.heap.size+1) 0)),Z a,.pointer (some (I (w.heap.size+1) 12)),q i,.agg #[Z a,q i],N (w.heap.size+1),Z a,.pointer (some (I (w.heap.size+1) 13)),q c,.agg #[Z a,q c],
    .pointer (some (I L.b 0)),N L.b,.pointer (some (I L.b 28)),.map (some L.qm),.agg #[Z a,q i],.bool false,.tuple #[.agg #[Z n,q j,q d,Z J,q T],.bool (lk m.gr (a,c)).isSome],
    .pointer (some (I L.b 0)),N L.b,.pointer (some (I L.b 27)),.map (some L.gm),.agg #[Z a,q c],.tuple #[.agg #[Z n,q j,q d,Z J,q T],.bool (lk m.gr (a,c)).isSome],.agg #[Z n,q j,q d,Z J,q T],.bool (lk m.gr (a,c)).isSome,undef,undef,undef,undef,undef,undef,undef,undef,undef,undef,undef,undef,undef,undef,undef,undef,undef,undef,undef],defers:=[]} (W1.alloc (.cells #[Z n,q j,q d,Z J,q T] 119)).drew:=by
    apply ν;clear ν;dsimp only;have B2:ax (W1.alloc (.cells #[Z n,q j,q d,Z J,q T] 119)).drew ((W1.heap.size,119,bR ⟨n,j,d,J,T⟩)::_):=(Q.o.1.push (t:=119) (cs:=#[Z n,q j,q d,Z J,q T]) O).drew;have D2:S W1 (W1.alloc (.cells #[Z n,q j,q d,Z J,q T] 119)).drew:=((Below.refl _ _).alloc (Nat.le_refl _) _).drew;have Ω:(W1.alloc (.cells #[Z n,q j,q d,Z J,q T] 119)).drew.heap.size=W1.heap.size+1:=ah;generalize (W1.alloc (.cells #[Z n,q j,q d,Z J,q T] 119)).drew=W2 at B2 D2 Ω⊢;have hw1:=Q.o.2.1.size;have H2:=aP B2 (Q.o.2.1.trans (D2.mono Q.o.2.1.size)) (Q.o.2.2.call D2);generalize π:(lk m.gr (a,c)).isSome=bs;have ι:=U π;obtain⟨q8,-,q6,-,q7,-,q1,-,q0,-,-⟩:=B2.rules;obtain⟨l8,l6,l7,l1,l0,-⟩:=B2.lts;have n6':=Q.o.1.lts.1;have n7':=Q.o.1.lts.2.1;clear π B2 D2 Q;have χ:bs=false\/T≠0->(nh m (⟨a,A,E,G,C,u,F,i,c⟩:z)).1=12:=λhb=>by unfold nh;rw[show m.aeT ((⟨a,A,E,G,C,u,F,i,c⟩:z).o,(⟨a,A,E,G,C,u,F,i,c⟩:z).r)=false from HQ.o,show m.g ((⟨a,A,E,G,C,u,F,i,c⟩:z).o,(⟨a,A,E,G,C,u,F,i,c⟩:z).f)=⟨n,j,d,J,T⟩from HG.o,show(lk m.gr ((⟨a,A,E,G,C,u,F,i,c⟩:z).o,(⟨a,A,E,G,C,u,F,i,c⟩:z).f)).isSome=bs from ι.o];rw[al ah,av hb]
    replace χ:=U χ;cases bs with
    |false=>go_wp2;go_ret2;exact d9.no (χ.o (.inl ah)) ai O H2.o.2.1
    |true=>
     by_cases δ:T=0
     ·subst δ;have Ξ:=HH.o.2.1.gi ((a,c),⟨n,j,d,J,0⟩) (by have hs:=ι.o;obtain⟨v,hv⟩:=n8.1 hs;have hg:=HG.o;unfold aG.g at hg;rw[hv]at hg;obtain rfl:v=⟨n,j,d,J,0⟩:=hg;exact dX hv);obtain⟨-,-,Ψ,ω,-⟩:=Ξ;have R:Ai W2 348 #[N (w.heap.size+1),N W1.heap.size] (λf=>fR f (⟨a,A,E,G,C,u,F,i,c⟩:z).w J):=
       ⟨λ_ _=>Y,λf W hf hb=>XD (g:=⟨n,j,d,J,0⟩) (H2.o.1.drop.drop.drop.head.call hb) (H2.o.1.head.call hb) HH.o.2.2.1 (Int.le_trans ai ω.1) ω.2 f hf⟩
      have CA:=U (Gt H2.o.2.2 HH.o.2.1 (x:=d) Ψ R);clear R;go_wp2_with fail;apply CA.o.mono;rintro r W3 ⟨v,rfl,β,α,P⟩;rw[J7]at α P⊢;generalize Δ:jw m (λf=>fR f (⟨a,A,E,G,C,u,F,i,c⟩:z).w J) (aL m.tr d)=ae at α P⊢;have φ:=U Δ;have H3:=aP (H2.o.1.call β) (H2.o.2.1.trans (β.mono H2.o.2.1.size)) (H2.o.2.2.call β);have hz3:=β.size;have θ:nh m (⟨a,A,E,G,C,u,F,i,c⟩:z)=if ae≠0 then(ae,m)else(0,{m with ri:=jv m (λf=>fR f (⟨a,A,E,G,C,u,F,i,c⟩:z).w J) (aL m.tr d),qs:=putL m.qs (a,i) true,gr:=putL m.gr (a,c) ⟨n,j,d,J,i⟩}):=by unfold nh;rw[show m.aeT ((⟨a,A,E,G,C,u,F,i,c⟩:z).o,(⟨a,A,E,G,C,u,F,i,c⟩:z).r)=false from HQ.o,show m.g ((⟨a,A,E,G,C,u,F,i,c⟩:z).o,(⟨a,A,E,G,C,u,F,i,c⟩:z).f)=⟨n,j,d,J,0⟩from HG.o,show(lk m.gr ((⟨a,A,E,G,C,u,F,i,c⟩:z).o,(⟨a,A,E,G,C,u,F,i,c⟩:z).f)).isSome=true from ι.o];rw[al ah,al ah];rw[<-φ.o]
      have ζ:=U θ;clear Δ β CA q8 q6 q7 q1 q0 l8 l6 l7 l1 l0 θ;by_cases hz:ae=0
      ·subst hz;rw[J6 φ.o]at P;have HD:=U (P O);clear P α;obtain⟨f,γ,hv,-⟩:=HD.o;subst hv;go_wp2;go_ret2;have B4:ax (W3.alloc (.cells #[.func (.func f) #[] γ] 287)) ((W3.heap.size,287,#[.func (.func f) #[] γ])::_):=H3.o.1.push O;have D4:S W3 (W3.alloc (.cells #[.func (.func f) #[] γ] 287)):=(aq _ _).alloc (ao _) _;rw[ζ.o,al ah];refine⟨_,O,H3.o.2.1.trans (D4.mono H3.o.2.1.size),λhn=>absurd O hn,λ_=>⟨_,_,O,λ_ _=>Y,λW hb=>?_⟩⟩;have B:=B4.call hb;have nw:∀k:Nat,w.heap.size<=k->k<W2.heap.size->¬gV L W2.heap.size W3 k:=λk h1 h2 ho=>by rcases ho with ho|ho;have:=HH.o.1.lt _ ho;omega;omega
       have Φ:S W3 W:=D4.trans (hb.mono ah);apply(XC (g:=⟨n,j,d,J,0⟩) HD.o Φ B.head B.drop.drop.drop.drop.drop.head B.drop.drop.head B.drop.drop.drop.drop.head B.drop.head B.drop.drop.drop.head HH.o.2.2.2.1 HH.o.2.2.2.2 (nw _ V V) (nw _ V V) (nw _ V V) (nw _ V V) (nw _ V V) V V V V).mono;rintro r W' ⟨h1,h2,h3⟩;refine⟨h1,h2,h3.mono λk hk=>?_⟩;rcases hk with(hk|hk)|hk;exact .inl hk;exact .inr ⟨V,by simp;omega⟩;exact .inr ⟨V,by simp;omega⟩
      have hv:=α hz;have hzd:(ae !=0)=true:=az hz;clear P α;subst hv;have HZ:=U hz;clear hz;go_wp2;go_ret2;refine d9.no (x:=ae) ?_ HZ.o O (H3.o.2.1.trans (((aq _ _).alloc (ao _) _).mono H3.o.2.1.size));rw[ζ.o];exact bH Prod.fst (av (show ae≠0 from HZ.o))
     have hgd:(T !=0)=true:=az δ;replace δ:=U δ;go_wp2;go_ret2;exact d9.no (χ.o (.inr δ.o)) ai O H2.o.2.1
   clear ν;replace ψ:=U ψ;have κ:=Gg (Q.o.2.2.gr.same (w':=W1.drew) O) HH.o.2.2.2.2;have μ:=Gg (Q.o.2.2.gr.call (w':=(W1.alloc (.cells #[Z 0,q 0,q 0,Z 0,q 0] 119)).drew) (((aq W1.heap.size W1).alloc V _).drew)) HH.o.2.2.2.2;have Γ:(lk m.gr (a,c)).getD ⟨0,0,0,0,0⟩=(⟨n,j,d,J,T⟩:cI):=HG.o;rw[Γ]at κ μ;obtain⟨q6,-,q7,-,q1,-,q0,-,-⟩:=Q.o.1.rules;obtain⟨l6,l7,l1,l0,-⟩:=Q.o.1.lts;obtain⟨aeT,-⟩:=Q.o.2.2.blk.rules;have l:=Q.o.2.2.blk.lt;unfold bR at κ μ;simp only at κ μ;clear HH Q Γ HG;go_region
   all_goals
    simp only[Act.put,yg,yl,ym,yp,vz,yv];exact ψ.o
 clear p HH;have τ:=U HK;clear HK;go_region
 all_goals
  try simp only[Act.put,yg,yl,ym,yp,vz,yv]
  first
  |(refine τ.o _ _ _ (ax.perm (bs:=[(w.heap.size+1+1+1,189,cM a c),(w.heap.size+1+1,189,cM a i),(w.heap.size+1,64,aj ⟨a,A,E,G,C,u,F,i,c⟩),(w.heap.size,156,#[N L.b])]) (ax.drew ((((ax.nil.push (g:=w.heap.size) rfl).push (g:=w.heap.size+1) ah).push (t:=189) (cs:=cM a i) (g:=w.heap.size+1+1) ah).push (t:=189) (cs:=cM a c) (g:=w.heap.size+1+1+1) ah)) ?_) (Below.drew (((((aq w.heap.size w).alloc aQ _).alloc aQ _).alloc aQ _).alloc aQ _)) V V V
    intro y hy;simp only[dh,sO,lE]at hy;rcases hy with rfl|rfl|rfl|rfl<;>simp)
  |(refine τ.o _ _ _ (ax.perm (bs:=[(w.heap.size+1+1+1,189,cM a i),(w.heap.size+1+1,189,cM a c),(w.heap.size+1,64,aj ⟨a,A,E,G,C,u,F,i,c⟩),(w.heap.size,156,#[N L.b])]) (ax.drew ((((ax.nil.push (g:=w.heap.size) rfl).push (g:=w.heap.size+1) ah).push (t:=189) (cs:=cM a c) (g:=w.heap.size+1+1) ah).push (t:=189) (cs:=cM a i) (g:=w.heap.size+1+1+1) ah)) ?_) (Below.drew (((((aq w.heap.size w).alloc aQ _).alloc aQ _).alloc aQ _).alloc aQ _)) V V V
    intro y hy;simp only[dh,sO,lE]at hy;rcases hy with rfl|rfl|rfl|rfl<;>simp)
end
section
variable{w w':D}{L:eY}{m:aG}
def Vo(h:bI w L m)(hm:m.ok)(e:z)(P:kO e)(hn:bo e.n)(ht:1<=e.t):
  Calls prog 337 #[N L.b,.agg (aj e)] w (d9 w L (qx m e)):=by
 obtain⟨k,hk,ζ⟩:∃k:Nat,k<6/\e.o=(k:Int)+1:=⟨(e.o-1).toNat,cF P.o1 P.o2,aA P.o1⟩;have hw:e.w=k:=by unfold z.w;omega
 obtain⟨j,hj,θ⟩:∃j:Nat,j<6/\e.t=(j:Int)+1:=⟨(e.t-1).toNat,aA P.t2,aA P.t2⟩;have δ:e.to_=j:=by unfold z.to_;omega
 have C:ax ((w.alloc (.cells #[N L.b] 156)).alloc (.cells (aj e) 64)) [(w.heap.size+1,64,aj e),(w.heap.size,156,#[N L.b])]:=((ax.nil.push (g:=w.heap.size) O).push (g:=w.heap.size+1) ah);have D0:S w ((w.alloc (.cells #[N L.b] 156)).alloc (.cells (aj e) 64)):=(((aq w.heap.size w).alloc aQ _).alloc aQ _);obtain⟨l,G⟩:=cJ ((w.alloc (.cells #[N L.b] 156)).alloc (.cells (aj e) 64));have ν:l.heap.size=w.heap.size+2:=by rw[G];simp
 rw[<-G]at C D0;have u:=h.call D0;have HB:=aP C D0 u;have HH:=aP h P hm;have HF:=U (λ(W:D) (i:S l W)=>ar (C.call i).rules (ar (C.call i).lts (ar (u.call i).blk.rules (ar (u.call i).blk.lt (uO (u.call i).ri hn)))));have HW:=U G;have γ:=aB hw δ;have κ:=P.a1;have υ:=P.a2;clear G D0 h P hm hw δ ht;obtain⟨eo,es,ed,ek,c,et,Q,er,ef⟩:=e;simp only at ζ θ κ υ;subst ζ θ;go_in;go_wp2_with fail;rw[show((w.alloc (.cells #[N L.b] 156)).alloc _)=l from HW.o.symm];have BA:=U (C.push (t:=50) (cs:=aw aC) (g:=w.heap.size+2) ν);rename_i K hK
 have HK:K {tmps:=#[N L.b,.agg (aj ⟨(k:Int)+1,es,ed,ek,c,(j:Int)+1,Q,er,ef⟩),N w.heap.size,N (w.heap.size+1),.nilFunc,Z 0,N (w.heap.size+2),.bool (lk m.ri c).isSome,undef,
   .tuple #[.agg (aw ((lk m.ri c).getD aC)),.bool (lk m.ri c).isSome],N L.b,N L.b,.pointer (some (I L.b 20)),.map (some L.rm),.pointer (some (I (w.heap.size+1) 9)),q c,.tuple #[.agg (aw ((lk m.ri c).getD aC)),.bool (lk m.ri c).isSome],
   .agg (aw ((lk m.ri c).getD aC)),.bool (lk m.ri c).isSome,undef,undef,undef,undef,undef,undef,undef,undef,undef,undef,undef,undef,undef,undef,undef,undef,undef,undef,undef,undef,undef,undef,undef,undef,undef,undef,undef,undef],defers:=[]} ((l.alloc (.cells (aw aC) 50)).drew.setRow (w.heap.size+2) (aw ((lk m.ri c).getD aC))):=by
  apply hK;dsimp only;have B1:=BA.o.drew.row (by refine⟨?_,?_,trivial⟩<;>omega) (aw ((lk m.ri c).getD aC));have D1:S l ((l.alloc (.cells (aw aC) 50)).drew.setRow (w.heap.size+2) (aw ((lk m.ri c).getD aC))):=Below.rowN ((Below.refl _ _).alloc V _).drew V _;generalize ((l.alloc (.cells (aw aC) 50)).drew.setRow (w.heap.size+2) (aw ((lk m.ri c).getD aC)))=W1 at B1 D1⊢;have a:=U (And.intro B1 (And.intro D1 (u.call D1)));have β:=HH.o.2.2.r c k V;obtain⟨q2,g2,q1,-,q0,-,-⟩:=B1.rules;obtain⟨l2,l1,l0,-⟩:=B1.lts;clear hK HF u C B1 D1 BA HW;unfold aG.r at β;generalize hr:lk m.ri c=R at β a q2⊢;have A:=U hr;clear hr;cases R with
  |none=>go_wp2;go_ret2;refine d9.no ?_ ai O (HB.o.2.1.trans (a.o.2.1.mono HB.o.2.1.size));unfold qx;rw[av (by rw[A.o];rfl)]
  |some f=>
   have T:=HH.o.2.2.r c;unfold aG.r at T;rw[A.o]at T;simp only[tV]at T a q2⊢;clear β;have σ:=U T;have j0:(0:Int)<=(j:Int):=V;have j6:(j:Int)<6:=V;have e1:IntKind.i64.wrap (j:Int)=(j:Int):=bS _ V;have hc:=zZ m.inn m.kn L.t L.pm L.rm m.ow L.gm L.qm j hj;obtain⟨p,-⟩:=a.o.2.2.blk.rules;have ε:=U (λ(W:D) (i:S W1 W)=>ar (a.o.1.call i).rules (ar (a.o.1.call i).lts (ar (a.o.2.2.call i).blk.rules.1 (a.o.2.2.call i).blk.lt)));go_wp2_with fail;refine kW Y Y ?_
   iterate 10 refine pE ε.o (qT e1 hc j0 j6) ?_
   refine dg ?_;intro _ W2 α;have B2:=a.o.1.call α;have D2:=a.o.2.1.trans (α.mono a.o.2.1.size);have d:=aP B2 (HB.o.2.1.trans (D2.mono HB.o.2.1.size)) ((HB.o.2.2).call D2);clear B2 D2 α ε a;generalize ι:m.inn j=b;replace ι:=U ι;cases b with
   |false=>go_wp2;go_ret2;refine d9.no ?_ ai O d.o.2.1;unfold qx;rw[al (by rw[A.o];simp),γ.o.2,ι.o];rfl
   |true=>
    have CM:=U (λW=>Xw f σ.o k hk j hj Q V W);have X:qx m ⟨(k:Int)+1,es,ed,ek,c,(j:Int)+1,Q,er,ef⟩=(if(iT f k j Q).1≠0 then((iT f k j Q).1,m)else(0,{m with ri:=putL m.ri c (iT f k j Q).2})):=by unfold qx;rw[al (by rw[A.o];simp),γ.o.2,γ.o.1,ι.o];unfold aG.r;rw[A.o];rfl
    have v:=U X;have hx:-9223372036854775808<=(iT f k j Q).1/\(iT f k j Q).1<=9223372036854775807:=by unfold iT putR;split;simp;split;simp;split;simp;split<;>simp
    generalize iT f k j Q=rs at CM v hx;obtain⟨E,fr⟩:=rs;obtain⟨q2,g2,q1,-,q0,-,-⟩:=d.o.1.rules;obtain⟨l2,l1,l0,-⟩:=d.o.1.lts;have hl:=i9 d.o.1.head.rng;have HN:=U hn;clear X hj hk hn;go_wp2_with fail;apply(CM.o _).mono;rintro r W3 ⟨rfl,F⟩;have B3:=d.o.1.call F;have y:=aP B3 (d.o.2.1.trans (F.mono d.o.2.1.size)) (d.o.2.2.call F);clear CM B3 F q2 g2 q1 q0 l2 l1 l0 hl;obtain⟨q2,g2,q1,-,q0,-,-⟩:=y.o.1.rules;obtain⟨l2,l1,l0,-⟩:=y.o.1.lts;have χ:=oz y.o.1.head fr;have B4:=y.o.1.row (by refine⟨?_,?_,trivial⟩<;>omega) (aw fr);have D4:S w (W3.setRow (w.heap.size+2) (aw fr)):=Below.rowN y.o.2.1 V _;have L4:bI (W3.setRow (w.heap.size+2) (aw fr)) L m:=HH.o.1.call D4;have J:=aP B4 D4 L4;clear B4 D4 L4;by_cases hz:E=0
    ·subst hz;go_wp2;go_ret2;rw[v.o];refine⟨_,O,J.o.2.1,λhn=>absurd O hn,λ_=>⟨_,_,O,λ_ _=>Y,λW i=>?_⟩⟩;have B:=J.o.1.call i;exact wZ (Ze (J.o.2.2.call i) B.head B.drop.drop.head B.drop.head HN.o)
    have ω:(E==0)=false:=az hz;go_wp2;go_ret2;refine d9.no (x:=E) ?_ hz O J.o.2.1;rw[v.o];exact bH Prod.fst (av (show ¬E=0 from hz))
 clear hK;have ST:=GJ BA.o.drew.head;have SZ:=mS;have φ:=uO (u.ri.same (w':=l.drew) O) hn;have ψ:=uO (u.ri.same (w':=(l.alloc (.cells (aw aC) 50)).drew) (((aq l.heap.size l).alloc V (.cells (aw aC) 50)).drew.block _ u.ri.lt)) hn;obtain⟨q1,-,q0,-,-⟩:=C.rules;obtain⟨l1,l0,-⟩:=C.lts;obtain⟨Γ,fz⟩:=u.blk.rules;obtain⟨p2,f2,p1,-,p0,-,-⟩:=BA.o.rules;obtain⟨p,-⟩:=(u.call ((aq l.heap.size l).alloc V (.cells (aw aC) 50))).blk.rules;have ξ:=U HK;clear C u HB HH HF HW BA HK;go_region
 all_goals
  simp only[Act.put,yg,yl,ym,yp,vz,yv];exact ξ.o
end
def tg(v:an)(e:z)(c:e.ok)(b:Bool)(h:gE v e=b)(w:D):Calls prog 143 #[.agg (aF v),.agg (aj e)] w λr a=>r=.returned (.bool b)/\S w a:=by subst h;exact Wh v e c w
def Fs(v:an)(e:z)(c:e.ok)(b:Bool)(h:ka v e=b)(w:D):Calls prog 144 #[.agg (aF v),.agg (aj e)] w λr a=>r=.returned (.bool b)/\S w a:=by subst h;exact FW v e c w
section
variable{w w':D}{L:eY}{m:aG}
def GQ(h:bI w L m)(d:m.ok)(e:z)(c:e.ok)(i:bG e=true):∃f:FuncId,AQ[e.k.toNat]? =some (.func (.func f) #[] #[])/\(∀args w,(callFunc f args).run prog w=.ok (.enter f args) w)/\
  Calls prog f #[N L.b,.agg (aj e)] w (d9 w L (eU m e)):=by
 have a:=iH i;have v:=a.k1;have u:=a.k2;have j:ib e=true:=by unfold bG at i;simp only[bZ]at i;exact i.2.1
 have key:e.k=1\/e.k=2\/e.k=3\/e.k=4\/e.k=5\/e.k=6\/e.k=7:=V;have l:e.k=5\/e.k=6->1<=e.t/\e.t<=6:=λhk=>by unfold ib qV cY at j;rcases hk with hk|hk<;>·simp[hk]at j;omega
 rcases key with hk|hk|hk|hk|hk|hk|hk
 ·refine⟨333,by rw[hk];rfl,λ_ _=>Y,?_⟩;rw[show eU m e=qz m e from by unfold eU;rw[av hk]];exact Vp h d e a c.n
 ·refine⟨334,by rw[hk];rfl,λ_ _=>Y,?_⟩;rw[show eU m e=qu m e from by unfold eU;rw[al V,av hk]];exact RN h d e a c.n
 ·refine⟨335,by rw[hk];rfl,λ_ _=>Y,?_⟩;rw[show eU m e=na m e from by unfold eU;rw[al V,al V,av hk]];exact Vk h d e a c.n c.r
 ·refine⟨336,by rw[hk];rfl,λ_ _=>Y,?_⟩;rw[show eU m e=nh m e from by unfold eU;rw[al V,al V,al V,av hk]];exact UZ h d e a c.r c.f
 ·refine⟨337,by rw[hk];rfl,λ_ _=>Y,?_⟩;rw[show eU m e=qx m e from by unfold eU;rw[al V,al V,al V,al V,av hk]];exact Vo h d e a c.n (l (.inl hk)).1
 ·refine⟨338,by rw[hk];rfl,λ_ _=>Y,?_⟩;rw[show eU m e=wV m e from by unfold eU;rw[al V,al V,al V,al V,al V,av hk]];exact UY h e (l (.inr hk))
 refine⟨339,by rw[hk];rfl,λ_ _=>Y,?_⟩;rw[show eU m e=wK m e from by unfold eU;rw[al V,al V,al V,al V,al V,al V]];exact RO h e ⟨a.o1,a.o2⟩
def d9.up{l:D}(d:S w l)(h:d9 l L p r w'):d9 w L p r w':=by obtain⟨v,A,E,C,B⟩:=h;refine⟨v,A,d.trans (E.mono d.size),C,λG=>?_⟩;obtain⟨f,i,u,F,n⟩:=B G;refine⟨f,i,u,F,λW t=>(n W t).mono λr J ⟨a,b,c⟩=>⟨a,b,c.mono λk j=>?_⟩⟩;rcases j with j|⟨x,y⟩;exact .inl j;exact .inr ⟨aZ d.size x,y⟩
def d9.later{l:D}(h:d9 w L p r w')(d:S w' l):d9 w L p r l:=by obtain⟨v,B,n,E,C⟩:=h;refine⟨v,B,n.trans (d.mono n.size),E,λG=>?_⟩;obtain⟨f,i,A,F,t⟩:=C G;refine⟨f,i,A,F,λW u=>(t W (d.trans (u.mono d.size))).mono λr J ⟨a,b,c⟩=>⟨a,b,c.mono λk j=>?_⟩⟩;rcases j with j|⟨x,y⟩;exact .inl j;exact .inr ⟨x,ee y d.size⟩
def Gr(h:bI w L m)(hm:m.ok)(hT:dr w)(e:z)(he:e.ok):
  Calls prog 142 #[N L.b,.agg (aj e)] w (d9 w L (ev m e)):=by
 have B0:ax (w.alloc (.cells (aj e) 64)) [(w.heap.size,64,aj e)]:=ax.nil.push (g:=w.heap.size) O;have D0:S w (w.alloc (.cells (aj e) 64)):=(aq w.heap.size w).alloc aQ _;have E:=js h hm hT he B0 D0;obtain⟨b1,κ⟩:=aM (bG e);obtain⟨b2,γ⟩:=aM (gE m.kn e);obtain⟨b3,δ⟩:=aM (ka m.kn e);have CM:=U λX=>lf e he b1 κ X;have CL:=U λX=>tg m.kn e he b2 γ X;have CR:=U λX=>Fs m.kn e he b3 δ X;have A:=aP κ γ δ;clear h hm hT he B0 D0 κ γ δ;go_in;go_wp2_with fail;apply(CM.o _).mono;rintro r W1 ⟨rfl,β⟩;have D1:=E.o.2.2.2.2.2.trans (β.mono ah);have B1:=E.o.2.2.2.2.1.call β;have L1:=E.o.1.call D1;have H1:=aP D1 B1 L1;have B:=U (λ(X:D) (c:aa bC W1 X)=>ar (B1.call c.no).rules (ar (B1.call c.no).lts (ar (L1.call c.no).blk.rules.1 (L1.call c.no).blk.lt)));clear β D1 B1 L1;cases b1 with
 |false=>go_wp2;go_ret2;exact d9.no (x:=1) (by unfold ev;rw[av A.o.1]) ai O H1.o.1
 |true=>
 go_wp2_with fail;refine dL [] bC 7 (λ_ h=>h.elim) Y Y ?_
 iterate 5 refine gx B.o ?_
 refine j8 (λ_=>rfl) (eJ O) 143 (λ_=>#[.agg (aF m.kn),.agg (aj e)]) _ cK (λ_ X _=>CL.o X) ?_;simp only[aD];refine gx B.o ?_;refine cT O ?_;rintro _ W2 n-;have n:S W1 W2:=n;have D2:=H1.o.1.trans (n.mono H1.o.1.size);have B2:=H1.o.2.1.call n;have L2:=H1.o.2.2.call n;have H2:=aP D2 B2 L2;have η:=U (λ(X:D) (c:aa bC W2 X)=>ar (B2.call c.no).rules (ar (B2.call c.no).lts (ar (L2.call c.no).blk.rules.1 (L2.call c.no).blk.lt)));clear n D2 B2 L2 B H1 CM CL;cases b2 with
 |true=>go_wp2;go_ret2;exact d9.no (x:=14) (by unfold ev;rw[al (by rw[A.o.1];simp),av A.o.2.1]) ai O H2.o.1
 |false=>
 go_wp2_with fail;refine dL [] bC 8 (λ_ h=>h.elim) Y Y ?_
 iterate 5 refine gx η.o ?_
 refine j8 (λ_=>rfl) (eJ O) 144 (λ_=>#[.agg (aF m.kn),.agg (aj e)]) _ cK (λ_ X _=>CR.o X) ?_;simp only[aD]
 iterate 2 refine gx η.o ?_
 refine cT O ?_;rintro _ W3 y-;have y:S W2 W3:=y;have D3:=H2.o.1.trans (y.mono H2.o.1.size);have B3:=H2.o.2.1.call y;have L3:=H2.o.2.2.call y;have T3:=E.o.2.2.1.call D3 E.o.2.2.1.lt.1 E.o.2.2.1.lt.2;have C:=cQ D3 B3 L3 T3;have P:=U (λ(X:D) (c:aa bC W3 X)=>ar (B3.call c.no).rules (ar (B3.call c.no).lts (ar (L3.call c.no).blk.rules.1 (L3.call c.no).blk.lt)));clear y D3 B3 L3 T3 η H2 CR;cases b3 with
 |false=>go_wp2;go_ret2;exact d9.no (x:=13) (by unfold ev;rw[al (by rw[A.o.1];simp),al (by rw[A.o.2.1];simp),av A.o.2.2]) ai O C.o.1
 |true=>
 have hM:=iH A.o.1;obtain⟨k,hk,μ,π⟩:=hM.place;obtain⟨b4,θ⟩:=aM (m.inn k);obtain⟨b5,ζ⟩:=aM (m.inn (6+k));have α:ev m e=if b4=false\/b5=true then(10,m)else eU m e:=by unfold ev;rw[al (by rw[A.o.1];simp),al (by rw[A.o.2.1];simp),al (by rw[A.o.2.2];simp),π,θ,ζ]
 have HR:=U α;have c4:=zZ m.inn m.kn L.t L.pm L.rm m.ow L.gm L.qm k hk;have c5:=Lv m.inn m.kn L.t L.pm L.rm m.ow L.gm L.qm k hk;rw[θ]at c4;rw[ζ]at c5;have F:IntKind.i64.wrap (e.o-1)=(k:Int):=by rw[μ];rw[bU (((k:Int)+1-1)=(k:Int))];exact bS _ V
 have k0:(0:Int)<=(k:Int):=V;have k6:(k:Int)<6:=V;obtain⟨f,ι,φ,υ⟩:=GQ C.o.2.2.1 E.o.2.1 e E.o.2.2.2.1 A.o.1;have ω:=hM.k1;have ψ:=hM.k2;have CK:=U (λ(X:D) (c:S W3 X)=>GQ (C.o.2.2.1.call c) E.o.2.1 e E.o.2.2.2.1 A.o.1);have TT:=U (C.o.2.2.2);clear α μ π θ ζ hM υ;cases b4 with
 |false=>
  go_wp2_with fail;refine dL [] bC 10 (λ_ h=>h.elim) Y Y ?_
  iterate 10 refine nI P.o (qT F k0 k6 c4) ?_
  refine cT O ?_;rintro _ W4 j-;have j:S W3 W4:=j;have D4:=U (C.o.1.trans (j.mono C.o.1.size));clear j P;go_wp2;go_ret2;exact d9.no (x:=10) (by rw[HR.o,av ah]) ai O D4.o
 |true=>
 go_wp2_with fail;refine dL [] bC 10 (λ_ h=>h.elim) Y Y ?_
 iterate 10 refine nI P.o (qT F k0 k6 c4) ?_
 refine cT O ?_;rintro _ W4 j-;have j:S W3 W4:=j;have D4:=C.o.1.trans (j.mono C.o.1.size);have B4:=C.o.2.1.call j;have L4:=C.o.2.2.1.call j;have Q:=cQ j D4 B4 L4;have J:=U (λ(X:D) (c:aa bC W4 X)=>ar (B4.call c.no).rules (ar (B4.call c.no).lts (ar (L4.call c.no).blk.rules.1 (L4.call c.no).blk.lt)));clear j D4 B4 L4 P;cases b5 with
 |true=>
  go_wp2_with fail;refine dL [] bC 9 (λ_ h=>h.elim) Y Y ?_
  iterate 9 refine nI J.o (qT F k0 k6 c5) ?_
  refine cT O ?_;rintro _ W5 l-;have l:S W4 W5:=l;have D5:=U (Q.o.2.1.trans (l.mono Q.o.2.1.size));clear l J;go_wp2;go_ret2;exact d9.no (x:=10) (by rw[HR.o,av ah]) ai O D5.o
 |false=>
 go_wp2_with fail;refine dL [] bC 9 (λ_ h=>h.elim) Y Y ?_
 iterate 9 refine nI J.o (qT F k0 k6 c5) ?_
 refine cT O ?_;rintro _ W5 l-;have l:S W4 W5:=l;have D5:=Q.o.2.1.trans (l.mono Q.o.2.1.size);have B5:=Q.o.2.2.1.call l;have L5:=Q.o.2.2.2.call l;have X5:=Q.o.1.trans (l.mono Q.o.1.size);have H5:=cQ X5 D5 B5 L5;have Γ:((e.k.toNat:Nat):Int)=e.k:=Int.toNat_of_nonneg V;have T5:=TT.o.call X5 TT.o.lt.1 TT.o.lt.2;have ε:=U (λ(X:D) (c:aa bC W5 X)=>ar (B5.call c.no).rules (ar (B5.call c.no).lts (ar (L5.call c.no).blk.rules.1 (ar (L5.call c.no).blk.lt ((T5.call c.no T5.lt.1 T5.lt.2).k _ _ ι)))));have χ:=U (show ev m e=eU m e from by rw[HR.o,al ah]);have B:=U ι;clear l D5 B5 L5 X5 T5 J HR F c4 c5 ι;have ξ:(0:Int)<=e.k:=V;have σ:e.k<8:=V;go_wp2_with fail;refine dL [] bC 11 (λ_ h=>h.elim) Y Y ?_
 iterate 6 refine nI ε.o (vg ξ σ) ?_
 refine pn (λ_=>rfl) (eJ O) f (λ_=>#[N L.b,.agg (aj e)]) (λv:H=>.tuple #[v,Z (eU m e).1]) .nilFunc (λX r X'=>d9 X L (eU m e) (.returned r) X') (λ_ w=>by simp[execOp,go_sem,φ]) (λ_ X c=>?cc) ?_
 case cc=>
  obtain⟨f',T,-,hc⟩:=CK.o X (H5.o.1.trans ((aa.no c).mono H5.o.1.size));have:f'=f:=by rw[B.o]at T;injection T with h1;injection h1 with h1 _ _;injection h1 with h1;exact h1.symm
  subst this;apply hc.mono;rintro r X' ⟨v,rfl,ν,h0,h1⟩;exact⟨v,O,⟨v,O,ν,h0,h1⟩,ν⟩
 simp only[aD]
 iterate 4 refine gx ε.o ?_
 refine cT O ?_;rintro⟨_,v⟩ W6 τ hR;dsimp only;obtain⟨w1,w2,-,g2,g3,g4⟩:=fK (hR 6 _ _ cD) O;have G:=U ((g3.up (H5.o.2.1.trans (g2.no.mono H5.o.2.1.size))).later (g4.below λ_ h=>h.2));clear hR τ g2 g3 g4 ε;go_wp2;go_ret2;rw[χ.o];exact G.o
end
section
variable{w w':D}{L:eY}{m:aG}
def Gs(h:bI w L m)(hm:m.ok)(hT:dr w)(e:z)(he:e.ok):
  Calls prog 118 #[N L.b,.agg (aj e)] w λr w'=>r=.returned (Z (cU m e).1)/\bI w' L (cU m e).2/\aa L.mem w w':=by
 have B0:ax (w.alloc (.cells (aj e) 64)) [(w.heap.size,64,aj e)]:=ax.nil.push (g:=w.heap.size) O;have D0:S w (w.alloc (.cells (aj e) 64)):=(aq w.heap.size w).alloc aQ _;have L0:=h.call D0;have B:=h.lt;have CC:=U (Gr L0 hm (hT.call D0 hT.lt.1 hT.lt.2) e he);have i:=js h hm he B0 D0 B;have F:(w.alloc (.cells (aj e) 64)).heap.size=w.heap.size+1:=ah;have HS:=U F;clear h hm hT he B0 D0 L0 B F;go_in;go_wp2_with fail;apply CC.o.mono;rintro r W1 ⟨v,rfl,d,h0,h1⟩;have Q:=U (λ(c:(ev m e).1=0)=>wm c);have j:=U (show cU m e=if(ev m e).1=0 then(0,{(ev m e).2 with kn:=(ev m e).2.kn.set e.w ((ev m e).2.kn.get e.w+1)})else((ev m e).1,m)from O);have T:=U (λ(c:(ev m e).1=0)=>by have J:=wm c;have K:=Dl i.o.2.1 J.1 i.o.2.2.1;rw[<-J.2.2.2.2]at K;exact K);have D1:=i.o.2.2.2.2.1.trans (d.mono i.o.2.2.2.2.1.size);have B1:=i.o.2.2.2.1.call d;have L1:=i.o.1.call D1;have H1:=cQ d D1 B1 L1;obtain⟨X,m',hp⟩:∃X m',ev m e=(X,m'):=⟨_,_,O⟩;rw[hp]at Q j T h0 h1⊢;clear CC d D1 B1 L1 hp;by_cases c:X=0
 ·subst c;obtain⟨f,δ,rfl,n,hd⟩:=h1 O;have HD:=U (hd W1 (aq _ _));clear h0 h1 hd;go_wp2_with fail;apply HD.o.mono;rintro r W2 ⟨⟨u,rfl⟩,L2,M2⟩;have K:=T.o ah;have J:=Q.o ah;have hM:=iH J.1;obtain⟨k,hk,G,C⟩:=hM.place;have A:=i.o.2.1.kn k hk;rw[<-K.kn]at A;have ni:kC (gV L (w.alloc (.cells (aj e) 64)).heap.size W1) [(w.heap.size,64,aj e)]:=⟨λho=>by rcases ho with ho|ho;have:=i.o.2.2.2.2.2 _ ho;omega;rw[HS.o]at ho;omega,trivial⟩;have B2:=H1.o.2.2.1.mod M2 ni;have MW:aa L.mem w W2:=(aa.of_below H1.o.2.1).trans' M2 λk hk ho=>by rcases ho with ho|ho;exact ho;rw[HS.o]at ho;omega
  have H2:=aP B2 L2 MW;have HF:=U (λ(W:D) (a:S W2 W)=>ar (B2.call a).rules (ar (B2.call a).lts (ar (L2.call a).blk.rules.1 (L2.call a).blk.lt)));have hc:=Ut m'.inn m'.kn L.t L.pm L.rm m'.ow L.gm L.qm k hk;have e1:IntKind.i64.wrap (e.o-1)=(k:Int):=by rw[G];rw[bU (((k:Int)+1-1)=(k:Int))];exact bS _ V
  have e2:IntKind.u64.wrap (m'.kn.get k+1)=m'.kn.get k+1:=tU _ V;have k0:(0:Int)<=(k:Int):=V;have k6:(k:Int)<6:=V;have HK:=U C;clear HD K J hM G C A ni B2 MW M2 L2 n;go_wp2_with fail;refine eS 12 Y ah Y Y Y Y ?_;simp only[cR]
  iterate 12 refine pE HF.o (xA e1 e2 hc k0 k6) ?_
  refine dg ?_;intro _ W3 y _;have E:=H2.o.2.1.call y;have a:=E.blk.set_ (12+k) (q (m'.kn.get k+1));rw[LS _ _ _ _ _ _ _ _ k hk]at a;have F4:aH W3 (W3.setCell (I L.b (12+k)) (q (m'.kn.get k+1))) L.b none:=aH.of_set _ O _;have L4:=E.fr_b F4 a;have M4:aa L.mem w (W3.setCell (I L.b (12+k)) (q (m'.kn.get k+1))):=(H2.o.2.2.call y).trans (aa.of_fr1 F4 (.inl O));have HX:=aB L4 M4;obtain⟨ζ,fz⟩:=E.blk.rules;have l:=E.blk.lt;clear E a F4 L4 M4 HF y e1 e2;go_wp2;go_ret;have P:=j.o;rw[av ah,HK.o]at P;rw[P];exact⟨O,HX.o⟩
 have hv:=h0 c;have ε:(X !=0)=true:=az c;have HZ:=U c;subst hv;clear h0 h1 c;go_wp2;go_ret;have P:=j.o;rw[al HZ.o]at P;rw[P];exact⟨O,H1.o.2.2.2,aa.of_below H1.o.2.1⟩
def RQ(h:bI w L m)(f:m.ok)(d:dr w)(e:z)(i:e.ok):
  Calls prog 302 #[N L.b,.agg (aj e)] w λr w'=>r=.returned (Z (ev m e).1)/\S w w':=by
 have c:S w (w.alloc (.cells (aj e) 64)):=(aq w.heap.size w).alloc aQ _;have l:=h.call c;have j:=U (Gr l f (d.call c d.lt.1 d.lt.2) e i);have k:=U c;clear h f d i c l;go_in;go_wp2_with fail;apply j.o.mono;rintro r y ⟨v,rfl,a,u,t⟩;have n:=U (k.o.trans (a.mono k.o.size));clear j a u t;go_wp2;go_ret;exact⟨O,n.o⟩
def zT(h:bI w L m):Calls prog 282 #[N L.b] w λr w'=>r=.returned (.agg (aF m.kn))/\S w w':=by have a:S w (w.alloc (.cells (aF an.zero) 33)):=(aq w.heap.size w).alloc aQ _;obtain⟨c,-⟩:=(h.call a).blk.rules;clear h a;go_in;go_wp2_with fail;exact eI (s:=2) results282 O (M.new _ _ _) underlying33 O Y O ⟨O,(aq w.heap.size w).alloc aQ _⟩
def zx(h:bI w L m)(d:bo x)(k:Nat)(f:k<6):Calls prog 189 #[N L.b,Z ((k:Int)+1),q x] w λr w'=>r=.returned (Z (cS (m.r x) k))/\S w w':=by obtain⟨a,-⟩:=h.blk.rules;have j:=AO h.ri d;have C:=U (wM (m.r x) k f w);clear h d;go_in;go_wp2_with fail;apply C.o.mono;rintro r l ⟨rfl,c⟩;have i:=U c;clear c a j C;go_wp2;go_ret;exact⟨O,i.o⟩
def Vn(h:bI w L m)(c:m.ok)(i:bo x):Calls prog 266 #[N L.b,q x] w λr w'=>∃u,r=.returned u/\gI w' w.heap.size u (aL m.tr x)/\S w w':=by obtain⟨a,-⟩:=h.blk.rules;have C:=U (xB h.tre c.tr i);clear h i c;go_in;go_wp2_with fail;apply C.o.mono;rintro r k ⟨v,rfl,d,f⟩;have j:=aB d f;clear f a C d;go_wp2;go_ret;exact⟨_,O,j.o⟩
def fc(n:Nat):aG:=⟨λi=>decide (i<n),an.zero,[],[],[],an.zero,[],[]⟩
def EF(n:Nat):(fc n).ok:=
 ⟨jg.nil,λk a=>an.six (P:=λk=>0<=an.zero.get k/\an.zero.get k<1099511627776) ai ai ai ai ai ai k a,λk a=>an.six (P:=λk=>0<=an.zero.get k/\an.zero.get k<=5) ai ai ai ai ai ai k a,
  λ_ h=>(aK h),λ_ h=>(aK h),(show(0:Int)<=gG an.zero from ai),λ_ h=>(aK h),λ_ h=>(aK h),λ_ h=>(aK h),λ_ h=>(aK h)⟩
def XA(n:Nat)(G:1<=n)(h6:n<=6)(w:D):Calls prog 71 #[Z n] w λr w'=>∃L:eY,r=.returned (.tuple #[N L.b,Z 0])/\bI w' L (fc n)/\(∀k,L.mem k->w.heap.size<=k)/\S w w':=by
 have d1:=cP ((n:Int)<1);have d2:=cP ((6:Int)<n);have P:=U Ho;have β:= @qc prog;have HN:=aB G h6;clear G;go_in;go_wp2_with fail;apply(P.o _).mono;rintro r a ⟨u,rfl,t,tm,rfl,y,g1,g2,j⟩;have δ:=y.blk.lt;have γ:=y.map.lt;have B:=aB y j;clear P y j;have K:bI (((((a.alloc (.map #[] 0)).alloc (.map #[] 0)).alloc (.map #[] 0)).alloc (.map #[] 0)).alloc (.cells (di (λi=>decide (i<0)) an.zero t a.heap.size (a.heap.size+1) an.zero (a.heap.size+1+1) (a.heap.size+1+1+1)) 187)) ⟨a.heap.size+1+1+1+1,t,tm,a.heap.size,a.heap.size+1,a.heap.size+1+1,a.heap.size+1+1+1⟩ (fc 0):=by
  have d:∀(X:D) (o:Obj),S X (X.alloc o):=λX o=>(aq _ _).alloc (ao _) _;refine⟨M.new_at ah O,((((B.o.1.call (d _ _)).call (d _ _)).call (d _ _)).call (d _ _)).call (d _ _),?_,?_,?_,?_,⟨?_,?_,?_,?_,?_,?_,?_,?_,?_,?_⟩⟩;exact((((bA.made ms a).call (d _ _)).call (d _ _)).call (d _ _)).call (d _ _);have h:=((bA.made lQ (a.alloc (.map #[] 0))).call (d _ (.map #[] 0))).call (d _ (.map #[] 0));simp only[oX]at h;exact h.call (d _ _);have h:=(bA.made pM ((a.alloc (.map #[] 0)).alloc (.map #[] 0))).call (d _ (.map #[] 0));simp only[oX]at h;exact h.call (d _ _);have h:=bA.made sj (((a.alloc (.map #[] 0)).alloc (.map #[] 0)).alloc (.map #[] 0));simp only[oX]at h;exact h.call (d _ _)
  all_goals simp only<;>omega
 have T:S a (((((a.alloc (.map #[] 0)).alloc (.map #[] 0)).alloc (.map #[] 0)).alloc (.map #[] 0)).alloc (.cells (di (λi=>decide (i<0)) an.zero t a.heap.size (a.heap.size+1) an.zero (a.heap.size+1+1) (a.heap.size+1+1+1)) 187)):=by refine(((((aq _ _).alloc ?_ _).alloc ?_ _).alloc ?_ _).alloc ?_ _).alloc ?_ _<;>simp<;>omega
 have J:=aB K T;clear K T;go_wp2;go_loopw [20] (λi wr=>∃k:Nat,k<=n/\i=Z k/\bI wr ⟨a.heap.size+1+1+1+1,t,tm,a.heap.size,a.heap.size+1,a.heap.size+1+1,a.heap.size+1+1+1⟩ (fc k)/\S a wr) (λi _=>n-(intOf i).toNat);exact⟨0,V,O,J.o⟩;obtain⟨k,hk,rfl,A,f⟩:=hrel;have c:=aB A f;clear A f J;obtain⟨F,fz⟩:=c.o.1.blk.rules;have l:=c.o.1.blk.lt;simp only at F fz l;by_cases α:k<n
 ·have hd:=cO ((k:Int)<n);have k0:(0:Int)<=(k:Int):=V;have k6:(k:Int)<6:=V;have hc:=zZ (fc k).inn (fc k).kn t a.heap.size (a.heap.size+1) (fc k).ow (a.heap.size+1+1) (a.heap.size+1+1+1) k V;have v:=c.o.1.blk.set_ k (.bool true);simp only at v;rw[JM _ _ _ _ _ _ _ _ k V]at v;have C:aH wr (wr.setCell (I (a.heap.size+1+1+1+1) k) (.bool true)) (a.heap.size+1+1+1+1) none:=aH.of_set _ O _;have E:=c.o.1.fr_b C v;have e:lj (fc k).inn k true=(fc (k+1)).inn:=by funext i;show(if i=k then true else decide (i<k))=decide (i<k+1);by_cases Q:i=k;rw[av Q];simp;omega;rw[al Q];by_cases h2:i<k<;>simp<;>omega
  rw[e]at E;have HX:=aB E (C.below c.o.2 V (λ_ h=>aK h));clear v C E e c;go_wp2;go_roundw
  ·exact⟨k+1,V,by go_num,HX.o⟩
  simp[intOf];omega
 obtain rfl:k=n:=V;have hd:=cP ((k:Int)<k);go_wp2;go_ret2;refine⟨_,O,c.o.1,?_,B.o.2.trans (c.o.2.mono B.o.2.size)⟩;have:=B.o.2.size;rintro x (rfl|rfl|rfl|rfl|rfl|rfl|rfl)<;>(try simp only)<;>omega
end
def Cd(x y:H):Sem Next:=do pure (.value (<-Instr.build 52 #[(0,x),(1,y)]))
def BU(x y a u:H):Sem Next:=do pure (.value (<-Instr.build 119 #[(0,x),(1,y),(2,a),(3,u)]))
section
variable(ρ:aO->H)(dst:Option Tmp)(x y aeU u:aO)(ty:ay)(pos:String)(after:Array Edge)(guard:Option (Nat×Bool))
@[go_sem ↓ high] theorem ace:execOp ρ {dst,op:=.build 52 #[(0,x),(1,y)],type:=ty,pos,after,guard}=Cd (ρ x) (ρ y):=by simp[execOp,Cd]
@[go_sem ↓ high] theorem acg:execOp ρ {dst,op:=.build 119 #[(0,x),(1,y),(2,aeU),(3,u)],type:=ty,pos,after,guard}=BU (ρ x) (ρ y) (ρ aeU) (ρ u):=by simp[execOp,BU]
@[go_sem ↓ high] def aaO:=@lz 34
@[go_sem ↓ high] def aa4:=@lz 35
@[go_sem ↓ high] theorem aa7:execOp ρ {dst,op:=.buildSlice 34 0 #[],type:=ty,pos,after,guard}=oJ 34:=yJ ..
@[go_sem ↓ high] theorem aa8:execOp ρ {dst,op:=.buildSlice 35 0 #[],type:=ty,pos,after,guard}=oJ 35:=yJ ..
end
section
variable(w:D)
@[go_sem] theorem ac9(a b:Int):(Cd (q a) (q b)).run prog w=.ok (.value (.agg (eW ⟨a,b,aC⟩))) w:=Y
@[go_sem] theorem adb(a b c d:Int):(BU (Z a) (q b) (q c) (Z d)).run prog w=.ok (.value (.agg (bR ⟨a,b,c,d,0⟩))) w:=Y
@[go_sem] theorem act(x:eB):(ke 34 (.agg (eW x))).run prog w=.ok (.value (bh w.heap.size 1 1)) (w.alloc (.cells (eW x) 52)):=Y
@[go_sem] theorem acu(x:cI):(ke 35 (.agg (bR x))).run prog w=.ok (.value (bh w.heap.size 1 1)) (w.alloc (.cells (bR x) 119)):=Y
@[go_sem] theorem acx:(oJ 34).run prog w=.ok (.value (bh w.heap.size 0 0)) (w.alloc (.cells #[] 52)):=Y
@[go_sem] theorem acy:(oJ 35).run prog w=.ok (.value (bh w.heap.size 0 0)) (w.alloc (.cells #[] 119)):=Y
end
