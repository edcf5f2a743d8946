import Derived.Test.YtemcfhlbmhbjeaaGreatDoorZ17
import Derived.Test.YtemcfhlbmhbjeaaGreatDoorZ15
set_option maxRecDepth 100000
set_option maxHeartbeats 0
set_option linter.all false
namespace Go.Proofs.YtemcfhlbmhbjeaaGreatDoor
open Go.Proofs.Tryz
variable{w W:D}{F:Nat->Prop}{dm mb base k c1 c2 aeT:Nat}{L:List (Int×Option Nat)}{v:H}{now i n:Int}{A:Option Addr}
open Go Go.RowKit
def tO:Option Nat->H
 |none=>.pointer none
 |some aeT=>.pointer (some (I aeT 0))
@[go_sem] theorem acz:tO none=.pointer none:=rfl
@[go_sem] theorem K0(aeT:Nat):tO (some aeT)=.pointer (some (I aeT 0)):=rfl
def sg:eR Int (Option Nat):=uV 336 243 tO none
def th:sg.Ok:=wy underlying243 (λw=>Y)
def jd(n a t k:Int):Array H:=#[q n,Z a,q t,q k]
def lK(w:D)(aeT:Nat):Prop:=∃n a t k,M w aeT 341 (jd n a t k)/\bo n/\fG a/\bo t/\bo k
structure fV(w:D)(F:Nat->Prop)(dm mb:Nat)(L:List (Int×Option Nat)):Prop where
 blk:M w dm 245 #[.map (some mb)]
 map:bA sg w mb L
 els:∀x∈L,∃aeT,x.2=some aeT/\lK w aeT/\F aeT
 len:L.length<=32
 fd:F dm
 fm:F mb
 inh:jP F w
section
variable{w w':D}{F G:Nat->Prop}{dm mb aeT:Nat}{L:List (Int×Option Nat)}
def lK.lt(h:lK w aeT):aeT<w.heap.size:=by obtain⟨n,a,t,k,b,-⟩:=h;exact b.lt
def lK.same(h:lK w aeT)(e:w'.heap[aeT]? =w.heap[aeT]?):lK w' aeT:=by obtain⟨n,a,t,k,b,c⟩:=h;exact⟨n,a,t,k,e.trans b,c⟩
def lK.call(h:lK w aeT)(a:S w w'):lK w' aeT:=h.same (a.block aeT h.lt)
def lK.set{p i:Nat}{u:H}(h:lK w aeT)(g:p=aeT->∃n a t k b c d f,M w aeT 341 (jd n a t k)/\(jd n a t k).setIfInBounds i u=jd b c d f/\bo b/\fG c/\bo d/\bo f):lK (w.setCell (I p i) u) aeT:=by by_cases e:p=aeT;obtain⟨n,a,t,k,b,c,d,f,l,m,j⟩:=g e;subst e;have:=l.set_ i u;rw[m]at this;exact⟨b,c,d,f,this,j⟩;exact h.same (yr w (I p i) u aeT (λh=>e h.symm))
def fV.keep(h:fV w F dm mb L)(d:w.heap.size<=w'.heap.size)(a:∀k,F k->k<w.heap.size->w'.heap[k]? =w.heap[k]?):fV w' F dm mb L:=
 ⟨(a _ h.fd h.blk.lt).trans h.blk,h.map.same (a _ h.fm h.map.lt),λx f=>by obtain⟨aeT,e,c,b⟩:=h.els x f;exact⟨aeT,e,c.same (a aeT b c.lt),b⟩,h.len,h.fd,h.fm,h.inh.mono d⟩
def fV.mod(h:fV w F dm mb L)(m:aa G w w')(a:dJ F G):fV w' F dm mb L:=h.keep m.size λk d c=>m.block k c λb=>a k d b
def fV.call(h:fV w F dm mb L)(a:S w w'):fV w' F dm mb L:=h.keep a.size λk _ b=>a.block k b
def fV.mono(h:fV w F dm mb L)(a:∀k,F k->G k)(d:jP G w):fV w G dm mb L:=⟨h.blk,h.map,λx f=>by obtain⟨aeT,e,c,b⟩:=h.els x f;exact⟨aeT,e,c,a aeT b⟩,h.len,a _ h.fd,a _ h.fm,d⟩
end
def Xa(w:D):Calls prog 75 #[] w λr a=>∃dm mb,r=.returned (N dm)/\fV a (λk=>w.heap.size<=k/\k<a.heap.size) dm mb []/\S w a:=by have b:= @qc prog;go_wp2;go_ret;exact⟨_,w.heap.size,O,⟨M.new_at ah O,(bA.made sg w).call ((aq _ _).alloc (ao _) _),(λx d=>aK d),ah,ah,⟨ao _,by simp;omega⟩,λk c=>c.2⟩,((aq _ _).alloc (ao _) _).alloc ah _⟩
def Id(w:D)(F:Nat->Prop)(dm mb:Nat)(w':D):Prop:=∃a,fV w' (dF F w w') dm mb a/\aa F w w'
def WZ(h:fV w F dm mb L){a:Int}(hn:bo n)(ha:fG a)(f:bo now):
  Calls prog 250 #[N dm,q n,Z a,q now] w λr w'=>(∃e,r=.returned (Z e))/\Id w F dm mb w':=by
 obtain⟨q0,f0⟩:=h.blk.rules;have c:(Instr.lookup 243 (.map (some mb)) (q n) false).run prog w=.ok (tO ((lk L n).getD none)) w:=h.map.look th hn;have E:∀ty,(Builtin.len_ #[243] ty #[.map (some mb)]).run prog w=.ok (Z L.length) w:=λty=>h.map.len th ty;have b:=cQ h hn ha f;have R:=U (show Id w F dm mb w from⟨L,h.mono (λk hk=>.inl hk) (dF.inH h.inh (ao _)),aa.refl⟩);clear h ha f;obtain⟨n0,n1⟩:=hn;go_in;by_cases h1:a<1
 ·go_wp2;go_ret;exact⟨⟨_,O⟩,R.o⟩
 by_cases h2:1125899906842624<a
 ·go_wp2;go_ret;exact⟨⟨_,O⟩,R.o⟩
 by_cases h3:n=0
 ·go_wp2;go_ret;exact⟨⟨_,O⟩,R.o⟩
 by_cases h4:4611686018427387904<now
 ·go_wp2;go_ret;exact⟨⟨_,O⟩,R.o⟩
 cases l:lk L n with
 |some v=>obtain⟨aeT,hq,hw,hf⟩:=b.o.1.els _ (dX l);have hq:v=some aeT:=hq;subst hq;obtain⟨n',a',t',k',X,P,C,Q,u⟩:=hw;obtain⟨q1,f1⟩:=X.rules;have l1:=X.lt;rw[l]at c;replace c:(Instr.lookup 243 (.map (some mb)) (q n) false).run prog w=.ok (N aeT) w:=c;have g:=js X hf P C Q u;clear X hf P C Q u l E;unfold jd at q1;go_wp2;go_ret;refine⟨⟨_,O⟩,L,⟨b.o.1.blk.far (p:=(I aeT 1)) (λe=>?_) _,b.o.1.map.far (p:=(I aeT 1)) (b.o.1.map.ne_blk g.o.1) _,λx K=>?_,b.o.1.len,.inl b.o.1.fd,.inl b.o.1.fm,λk hk=>?_⟩,aa.set (F:=F) (I aeT 1) g.o.2.1 _⟩;have e:dm=aeT:=e;subst e;exact absurd (b.o.1.blk.type_eq g.o.1).1 ai;obtain⟨T,e2,d,m⟩:=b.o.1.els x K;refine⟨T,e2,d.set λe=>?_,.inl m⟩;subst e;have ha:=b.o.2.2.1;have γ:=g.o.2.2.2.1;exact⟨n',a',t',k',n',max a' a,t',k',g.o.1,O,g.o.2.2.1,⟨by unfold fG at*;omega,by unfold fG at*;omega⟩,g.o.2.2.2.2.1,g.o.2.2.2.2.2⟩;rcases hk with hk|hk;simpa using b.o.1.inh k hk;exact hk.2
 |none=>
  rw[l]at c;replace c:(Instr.lookup 243 (.map (some mb)) (q n) false).run prog w=.ok (.pointer none) w:=c;by_cases h5:32<=L.length
  ·clear l;go_wp2;go_ret;exact⟨⟨_,O⟩,R.o⟩
  have t:S w (w.alloc (.cells (jd n a now 1) 341)):=(aq _ _).alloc (ao _) _;obtain⟨W2,cH,G,B⟩:=(b.o.1.map.call t).put th (a:=n) b.o.2.1 (some w.heap.size);have s:(Instr.mapUpdate 243 (.map (some mb)) (q n) (N w.heap.size)).run prog (w.alloc (.cells (jd n a now 1) 341))=.ok () W2:=cH;have HX:=aP G B l;have j:M (w.alloc (.cells (jd n a now 1) 341)) w.heap.size 341 (jd n a now 1):=M.new _ _ _;clear cH G B l t;unfold jd at s j HX;go_wp2;go_ret;have α:mb≠w.heap.size:=Nat.ne_of_lt b.o.1.map.lt;have y:aa (aR mb) _ W2:=aa.of_fr1 (F:=aR mb) HX.o.2.1 O;have t:S w (w.alloc (.cells #[q n,Z a,q now,q 1] 341)):=(aq _ _).alloc (ao _) _;have mF:aa F w W2:=(aa.of_below (F:=F) t).trans (y.mono λk e=>by have e:k=mb:=e;subst e;exact b.o.1.fm);have hs:=mF.size;have δ:=y.size;refine⟨⟨_,O⟩,putL L n (some w.heap.size),⟨y.blk (b.o.1.blk.call t) (λe=>?_),HX.o.1,λx K=>?_,?_,.inl b.o.1.fd,.inl b.o.1.fm,dF.inH b.o.1.inh hs⟩,mF⟩;have e:dm=mb:=e;exact b.o.1.map.ne_blk b.o.1.blk e.symm;rcases lH.1 K with rfl|⟨K,-⟩;refine⟨w.heap.size,rfl,⟨n,a,now,1,y.blk j λe=>α e.symm,b.o.2.1,b.o.2.2.1,b.o.2.2.2,⟨ai,ai⟩⟩,.inr ⟨ao _,?_⟩⟩;have:w.heap.size<(w.alloc (.cells #[q n,Z a,q now,q 1] 341)).heap.size:=j.lt;omega;obtain⟨T,e2,d,m⟩:=b.o.1.els x K;have J:=d.call t;refine⟨T,e2,J.same (y.block T J.lt λe=>?_),.inl m⟩;have e:T=mb:=e;subst e;obtain⟨n1,a1,t1,k1,β,-⟩:=d;exact b.o.1.map.ne_blk β O;rw[Jx b.o.1.map.ndk,HX.o.2.2];simp;omega
section
open Go.Shelf Go.Lib Go.Sort
def jS(aeT:Nat):Array H:=#[N aeT]
def zt(aeT:Nat):(jS aeT).size=1:=rfl
def OU(aeT:Nat):∀u∈(jS aeT).toList,u.oneCell'=true:=by intro u a;simp[jS]at a;subst a;rfl
abbrev lL(w:D)(base:Nat)(v:H)(L:List Nat):Prop:=Row w base 336 1 jS v L
def Vb:(prog.info? 336).map (λi=>(i.zero,i.size,i.bytes))=some (some (.pointer none),1,8):=Y
def lL.app{B:Nat}{cap:Nat}(ty:ay){L aeL:List Nat}(h:lL w base v L)(j:dK w B 1 A aeL.length (cZ jS aeL))(o:L.length+aeL.length<=1000000)(a:base<=w.heap.size):
  ∃d c,(iU 393 ty v (.slice A aeL.length cap)).run prog w=.ok (.value d) c/\lL c base d (L++aeL)/\iO base [336] w c/\w.grownBy c v.ownBlock/\(d.ownBlock=v.ownBlock\/∀b,d.ownBlock=some b->w.heap.size<=b):=by
 obtain⟨e,m,f,g,l⟩:=i7 Vb;exact Row.app w 393 ty e _ 8 underlying393 m f g l O ai zt OU h (cap:=cap) j o ai a
@[go_sem ↓ high] def acm:=@mr 393
@[go_sem ↓ high] def ab4:=@lz 393
@[go_sem] theorem acs(aeT:Nat)(w:D):(ke 393 (N aeT)).run prog w=.ok (.value (bh w.heap.size 1 1)) (w.alloc (.cells (jS aeT) 336)):=Y
def lL.at_{n c:Nat}{L:List Nat}(h:lL w base (.slice A n c) L)(j:L[k]? =some aeT):∃g,A=some (I g 0)/\g<w.heap.size/\w.cell? (I g k)=some (N aeT):=by
 have p:=(fN.1 j).1;obtain⟨g,e,m,l,r,o,f⟩:=h.sl_pos V;rw[m]at h;have d:=h.rng zt j;obtain⟨rfl,-⟩:A=some (I g 0)/\c=e:=by injection m with a b c;exact⟨a,c⟩
 have:=d 0 _ O;rw[iP]at this;exact⟨g,O,f,this⟩
def xw(w:D)(aeT:Nat)(n:Int):Prop:=∃a t k,M w aeT 341 (jd n a t k)
def Xc{d g:Nat}{a b:Int}(p:xw W d a)(l:xw W g b):Calls prog 292 #[N d,N g] W λe j=>e=.returned (Z (Lib.compareInt a b))/\∃n,j=W.drewN n:=by
 obtain⟨E,x,s,c⟩:=p;obtain⟨G,t,B,f⟩:=l;have C:=U λX=>AW a b X;obtain⟨r,u⟩:=c.rules;obtain⟨m,y⟩:=f.rules;generalize Lib.compareInt a b=aeU at C;unfold jd at r m;clear c f;go_in;go_upto_region 1 with fail;refine IS 11 Y ah Y Y Y Y ?_;simp only[cR]
 iterate 11 (go_big_quiet_step (first|(go_at_call 67;with_reducible exact(C.o _).mono λ_ _ h=>⟨h.1,_,h.2⟩)))
 refine qa ?_;rintro _ ⟨nq,rfl⟩;go_wp2;go_ret;exact⟨O,nq,O⟩
section
variable{α:Type}[Inhabited α]{enc:α->H}{base:Nat}{e:ay}{w w':D}{g n cap:Nat}{L L':List α}
omit [Inhabited α]in
def Lj(enc:α->H)(L:List α):cZ (λx=>#[enc x]) L=L.map enc:=by
 induction L with
 |nil=>rfl
 |cons x r ih=>rw[yS,ih,cW];rfl
def Z1(h:Row w base e 1 (λx=>#[enc x]) (bh g n cap) L)(Q:L'.length=L.length){m:Nat}{os:Array Obj}
  (f:w'=sortWorld enc w g 0 m L'.toArray os):Row w' base e 1 (λx=>#[enc x]) (bh g n cap) L'/\w.grownBy w' (some g):=by
 obtain⟨d,K,y,T,γ,-⟩:=h.blk;have X:g<w.heap.size:=M.lt K;have a:∀k,k<w.heap.size->k≠g->w'.heap[k]? =w.heap[k]?:=λk s b=>by rw[f];unfold sortWorld;rw[vI _ _ (by simpa[putRow,mapBlock]using s)];show((Sort.ahead w m).heap.modify g _)[k]? =_;rw[tP,al (eC b)];rfl
 have l:M w' g e (putCells enc 0 L'.toArray d):=by show w'.heap[g]? =_;rw[f];unfold sortWorld;rw[vI _ _ (by simpa[putRow,mapBlock]using X)];show((Sort.ahead w m).heap.modify g _)[g]? =_;rw[tP,av rfl,show(Sort.ahead w m).heap[g]? =some (.cells d e (0,0))from K];rfl
 have u:w.grownBy w' (some g):=by refine⟨by rw[f];rfl,by rw[f];rfl,by rw[f];rfl,?_,λk s b=>a k s λe=>b (by rw[e])⟩;rw[f];show w.heap.size<=((Sort.ahead w m).heap.modify g _++os).size;rw[Array.size_append,Array.size_modify];exact mO _ _
 refine⟨?_,u⟩;have cH:(putCells enc 0 L'.toArray d).toList.take (L'.length*1)=cZ (λx=>#[enc x]) L':=by have hf:cZ (λx=>#[enc x]) L'=L'.map enc:=Lj enc L';rw[hf,iP];apply yz;intro t;by_cases o:t<L'.length;rw[kw,av o,i5];unfold putCells;rw[vH,oZ V,pX,av aQ,nX,bY o];simp[o];rw[kw,al o,tQ (by rw[j3];omega)]
 obtain⟨h1,p⟩:=h;rcases p with⟨p,-⟩|⟨g',J,R,hs,E,δ,r,C,P,β⟩
 ·cases p
 injection hs with j G B;injection j with j;injection j with j _ _;subst j B;refine⟨lF (c:=λx=>#[enc x]) (sz:=1) (λ_=>rfl) L',.inr ⟨g,cap,_,by rw[Q,G],E,l,by rw[Q];exact r,C,?_,cH⟩⟩;show(putCells _ _ _ _).size=_;unfold putCells;rw[Array.size_mapIdx,y]
end
def aaD{α:Type}(f:α->Int):Go.Sort.SWO (Go.Proofs.ltOf λx y=>Lib.compareInt (f x) (f y)) where
 irrefl x:=by unfold Go.Proofs.ltOf Lib.compareInt;simp
 trans x y aeU h1 h2:=by unfold Go.Proofs.ltOf Lib.compareInt at*;grind
 ntrans x y aeU h1 h2:=by unfold Go.Proofs.ltOf Lib.compareInt at*;grind
def GS{L:List Nat}(h:lL w base v L)(hw:∀aeT∈L,lK w aeT)(hn:L.length<=1000000):
  Calls prog 291 #[v,.func (.func 292) #[] #[]] w λr G=>r=.returned (.tuple #[])/\∃L',lL G base v L'/\L.Perm L'/\w.grownBy G v.ownBlock:=by
 have eg:∀B w,(callFunc 292 B).run prog w=.ok (.enter 292 B) w:=kT func292 Y O;rcases yu L.length with h0|h0;have:L=[]:=tS.1 h0;subst this;obtain⟨A,s,rfl,-,-⟩:=h.sl;apply(Cw (P:=prog) (ρ:=JJ) {FM with} A s _ w).mono;rintro r G ⟨rfl,rfl⟩;exact⟨O,[],h,List.Perm.nil,⟨O,O,O,ao _,λ_ _ _=>rfl⟩⟩;obtain⟨g,s,rfl,hc,hm,hg,γ⟩:=h.sl_pos h0;let α:={x:Nat×Int//xw w x.1 x.2};have R:∀aeT∈L,∃n,xw w aeT n:=λaeT hq=>by obtain⟨n,a,t,k,C,-⟩:=hw aeT hq;exact⟨n,a,t,k,C⟩
 obtain⟨b,J⟩:∃b:List α,b.map (λx=>x.1.1)=L:=by
  clear h h0 hw hn hc
  induction L with
  |nil=>exact⟨[],O⟩
  |cons aeT L ih=>obtain⟨b,J⟩:=ih λaeT hq=>R aeT (dC _ hq);obtain⟨n,hn⟩:=R aeT cz;exact⟨⟨(aeT,n),hn⟩::b,by rw[cW,J]⟩
 have E:b.length=L.length:=by rw[<-J,j3]
 haveI:Inhabited α:=⟨b[0]' V⟩
 let f:α->H:=λx=>.pointer (some (I x.1.1 0));have o:Row w base 336 1 (λx=>#[f x]) (bh g L.length s) b:=by
  have hf:cZ (λx=>#[f x]) b=cZ jS L:=by rw[<-J];simp[cZ,List.flatMap_map,f,jS]
  unfold Row;rw[hf,E];exact h
 have hH:Holds f w g 0 b.toArray:=λj hj=>by
  have K:j<b.length:=az hj;have hx:b[j]? =some b[j]:=bY K;have h1:=Row.rng (c:=λx=>#[f x]) (sz:=1) (λ_=>rfl) o hx 0 (f b[j]) O;refine⟨?_,o.frozen _⟩;have e1:b.toArray[j]! =b[j]:=by simp[K]
  rw[e1,cA];simpa using h1
 have δ:∃u,M w g 336 u:=by obtain⟨u,C,-⟩:=o.blk;exact⟨u,C⟩
 have T:Go.Proofs.CmpLays1 prog 292 #[] f (λx y=>Lib.compareInt x.1.2 y.1.2) g 0 b.toArray.size w:=λm os dk _ x y=>by
  have hk:∀l:α,xw (sortWorld f w g 0 m dk os) l.1.1 l.1.2:=λl=>by
   obtain⟨a,t,k,C⟩:=l.2;obtain⟨u,hc⟩:=δ;have β:l.1.1≠g:=λe=>by have:=(hc.type_eq (e▸C)).1;exact absurd this ai
   refine⟨a,t,k,?_⟩;show(sortWorld f w g 0 m dk os).heap[l.1.1]? =_;unfold sortWorld;rw[vI _ _ (by simpa[putRow,mapBlock]using C.lt)];show((Sort.ahead w m).heap.modify g _)[l.1.1]? =_;rw[tP,al (eC β)];exact C
  apply(Xc (hk x) (hk y)).mono;rintro e G ⟨rfl,aeT,rfl⟩;exact⟨O,aeT,#[],by rw[grow_empty]⟩
 have p:=Any.slices_SortFunc FM f (λx=>rfl) (λx y=>Lib.compareInt x.1.2 y.1.2) (aaD λx:α=>x.1.2) 292 #[] g 0 s b.toArray w eg T hH γ aQ;change Calls prog 291 _ _ _ at p;rw[show b.toArray.size=L.length from az E]at p;refine o4 p ?_;rintro r G ⟨rfl,Q,n,os,hp,hs,X⟩;obtain⟨p1,p2⟩:=Df (d:=b.toArray) (by simpa[E]using hp);have hl:Q.toList.length=b.length:=az p2;obtain⟨r1,r2⟩:=Z1 (L':=Q.toList) o hl (az X);refine⟨O,Q.toList.map (λx=>x.1.1),?_,?_,r2⟩
 ·have hf:cZ (λx=>#[f x]) Q.toList=cZ jS (Q.toList.map λx=>x.1.1):=by simp[cZ,List.flatMap_map,f,jS]
  unfold Row at r1;rw[hf]at r1;unfold lL Row;rw[j3];exact r1
 rw[<-J];exact List.Perm.map _ (az p1)
end
@[go_sem] theorem FY(x:Int):sg.kc x=q x:=rfl
@[go_sem] theorem FX(x:Option Nat):sg.vc x=tO x:=rfl
def Su(aeT:Nat)(w:D):Calls prog 274 #[N aeT] w λr a=>(∃b:Bool,r=.returned (.bool b))/\S w a:=by go_wp2;go_ret;exact⟨⟨true,O⟩,aq _ _⟩
def VC{m:Nat}(h:lK w aeT)(g:M w m 31 #[q now]):Calls prog 277 #[N aeT,N m] w λr u=>(∃b:Bool,r=.returned (.bool b))/\S w u:=by
 obtain⟨n,a,t,k,c,-⟩:=h;unfold jd at c;have p:=U (λ(W:D) (h:S w W)=>ar (c.call h).rules (ar (c.call h).lt (ar (g.call h).rules (g.call h).lt)));obtain⟨b,e⟩:=aM (decide (t<=now));clear c g;go_in;go_wp2_with fail;refine kW Y Y ?_
 iterate 7 refine pE p.o e ?_
 refine dg ?_;intro _ y l;have x:=U l;clear l p;go_wp2;go_ret;exact⟨⟨b,O⟩,x.o⟩
structure qW(w:D)(mb r:Nat)(L left kept:List (Int×Option Nat))(v:H)(ks:List Nat)(W:D):Prop where
 rg:fP sg W mb r left kept
 row:lL W (w.heap.size+1) v ks
 kq:∀aeT∈ks,∃x∈L,x.2=some aeT
 kl:ks.length<=kept.length
 pm:L.Perm (left++kept)
 below:S w W
 sz:w.heap.size+1<=W.heap.size
def Gv(w:D)(L:List (Int×Option Nat))(r:Ending)(w':D):Prop:=∃u a,r=.returned u/\lL w' w.heap.size u a/\(∀aeT∈a,∃x∈L,x.2=some aeT)/\a.length<=L.length/\S w w'
def PK(h:fV w F dm mb L):Calls prog 273 #[N dm,.func (.func 274) #[] #[]] w (Gv w L):=by
 obtain⟨aeT,-⟩:=h.blk.rules;have HM:=U h.map;have χ:=h.len;have HE:=U (λx hx=>h.els x hx);clear h;go_in;go_wp2_with (first|(at_range;refine sP th rfl _ rfl rfl HM.o ?_;intro w0 Q η μ));go_frame;have A0:qW w mb w.heap.size L L [] (.slice none 0 0) [] w0:=⟨Q,Row.nil,ah,ah,ah,η,V⟩;clear Q η μ aeT HM;go_loopg [4] L.length (λg v wr=>∃left l C,left.length=g/\qW w mb w.heap.size L left l v C wr);exact⟨L,[],[],O,A0⟩;obtain⟨left,l,C,hg,A⟩:=hrel;clear A0;go_wp2_with (first|(at_next;refine sQ rfl _ rfl rfl A.rg ?_ ?_))
 ·intro ι;obtain rfl:=ι;have β:C.length<=L.length:=by have h1:=A.kl;have h2:=A.pm.length_eq;simp at h2;omega
  obtain⟨A1,c1,rfl,φ,π⟩:=A.row.sl;have C2:=U (GS A.row (λaeT hq=>by obtain⟨x,hx,e⟩:=A.kq aeT hq;obtain⟨q2,e2,hw,-⟩:=HE.o x hx;rw[e]at e2;obtain rfl:=eZ e2;exact hw.call A.below) V);have m:=aB A β;clear A hg β;go_wp2_with fail;apply C2.o.mono;rintro r w2 ⟨rfl,κ,f,δ,p⟩;have HX:=aP f δ p;clear f δ p C2;go_wp2;go_ret;refine⟨_,κ,O,kB HX.o.1 (mO _ _),λaeT hq=>m.o.1.kq aeT (HX.o.2.1.symm.subset hq),?_,?_⟩;rw[<-HX.o.2.1.length_eq];exact m.o.2;exact m.o.1.below.trans ((aa.of_grown (F:=λk=>w.heap.size<=k) HX.o.2.2 (λk hk=>aA ((m.o.1.row.ge k hk).1))).belowB (λk _ h=>h) m.o.1.below.size)
 intro X ep a w2 hp P J ε;have E:a.length+1=left.length:=by have:=hp.length_eq;simpa using this.symm
 have B:(X,ep)∈L:=A.pm.symm.subset (ik _ (hp.symm.subset cz));obtain⟨s,R,σ,-⟩:=HE.o _ B;have R:ep=some s:=R;subst R;have ψ:C.length<=1000:=by have h1:=A.kl;have h2:=A.pm.length_eq;simp at h2;omega
 have α:u4.ownBlock≠some w.heap.size:=λe=>aA ((A.row.ge _ e).1);have f:=J.own A.row α (by cases u4.ownBlock<;>simp);have θ:=J.below A.below (ao _) (λ_ h=>aK h);have ν:=aZ A.sz J.size;have C1:=U (Su s w2);have m:=U (ar A (ar hp (ar P (ar f (ar θ (ar E (ar hg B)))))));obtain⟨A1,c1,rfl,φ,π⟩:=A.row.sl;clear A hp P J f θ E hg B σ;simp only[FY,FX,K0]at ε⊢;go_wp2_with fail;apply C1.o.mono;rintro r K ⟨⟨b,rfl⟩,t⟩;have G:L.Perm (a++(X,some s)::l):=m.o.1.pm.trans ((sE _ m.o.2.1).trans List.perm_middle.symm);have u:=m.o.2.2.2.2.1.trans (t.mono m.o.2.2.2.2.1.size);have j:=m.o.2.2.1.call t;have d:=Row.call m.o.2.2.2.1 t;have τ:=aZ ν t.size;clear C1 ε;cases b with
 |false=>
  have H3:=U (show qW w mb w.heap.size L a ((X,some s)::l) _ C K from⟨j,d,m.o.1.kq,aZ m.o.1.kl ah,G,u,τ⟩);clear G u j d t;go_wp2_with fail;have E:=m.o.2.2.2.2.2.1;have hg:=m.o.2.2.2.2.2.2.1;go_roundg a.length
  case measure=>omega
  exact⟨a,(X,some s)::l,C,O,H3.o⟩
 |true=>
  have ha:S K (K.alloc (.cells (jS s) 336)):=(aq _ _).alloc (ao _) _;obtain⟨v',w4,ζ,y,ξ,p,hf⟩:=lL.app (w:=K.alloc (.cells (jS s) 336)) (cap:=1) 393 (Row.call d ha) (jn (c:=jS) zt (x:=s) (M.new K 336 (jS s))) aQ aQ;simp only[dN,g8,cA]at ζ;have T:∀{k:Nat},k<K.heap.size->(Value.slice A1 C.length c1).ownBlock≠some k->w4.heap[k]? =K.heap[k]?:=λ{k} hk hn=>by rw[p.block k aQ (λe=>hn e.symm)];exact oW K _ k hk
  have γ:qW w mb w.heap.size L a ((X,some s)::l) v' (C++[s]) w4:=by refine⟨j.same (T j.map.lt λe=>?_) (T j.lt α),y,λaeT hq=>?_,?_,G,?_,?_⟩;have h1:=oe d mb;obtain⟨es,ck,υ,_⟩:=j.map.ex;have:=h1 _ e υ;simp[Obj.isCells]at this;rcases bP.1 hq with hq|hq;exact m.o.1.kq aeT hq;rw[dd.1 hq];exact⟨_,m.o.2.2.2.2.2.2.2,O⟩;have:=m.o.1.kl;simp;omega;refine(u.trans (ha.mono u.size)).trans ((aa.of_grown (F:=λk=>w.heap.size<=k) p (λk hk=>?_)).belowB (λk _ h=>h) (by have:=u.size;simp;omega));have:=(d.lt k hk).1;omega;have:=p.size;simp at this;omega
  have H3:=U γ;clear G u j d t ha y ξ p hf T γ;go_wp2_with fail;have E:=m.o.2.2.2.2.2.1;have hg:=m.o.2.2.2.2.2.2.1;go_roundg a.length
  case measure=>omega
  exact⟨a,(X,some s)::l,C++[s],O,H3.o⟩
def PL(h:fV w F dm mb L){bn:Nat}(hB:M w bn 31 #[q now]):Calls prog 273 #[N dm,.func (.func 277) #[] #[N bn]] w (Gv w L):=by
 obtain⟨aeT,-⟩:=h.blk.rules;have HM:=U h.map;have χ:=h.len;have HE:=U (λx hx=>h.els x hx);have HN:=U hB;clear h hB;go_in;go_wp2_with (first|(at_range;refine sP th rfl _ rfl rfl HM.o ?_;intro w0 R θ ν));go_frame;have A0:qW w mb w.heap.size L L [] (.slice none 0 0) [] w0:=⟨R,Row.nil,ah,ah,ah,θ,V⟩;clear R θ ν aeT HM;go_loopg [4] L.length (λg v wr=>∃left l C,left.length=g/\qW w mb w.heap.size L left l v C wr);exact⟨L,[],[],O,A0⟩;obtain⟨left,l,C,hg,A⟩:=hrel;clear A0;go_wp2_with (first|(at_next;refine sQ rfl _ rfl rfl A.rg ?_ ?_))
 ·intro κ;obtain rfl:=κ;have β:C.length<=L.length:=by have h1:=A.kl;have h2:=A.pm.length_eq;simp at h2;omega
  obtain⟨A1,c1,rfl,φ,σ⟩:=A.row.sl;have C2:=U (GS A.row (λaeT hq=>by obtain⟨x,hx,e⟩:=A.kq aeT hq;obtain⟨q2,e2,hw,-⟩:=HE.o x hx;rw[e]at e2;obtain rfl:=eZ e2;exact hw.call A.below) V);have m:=aB A β;clear A hg β;go_wp2_with fail;apply C2.o.mono;rintro r w2 ⟨rfl,μ,f,ε,p⟩;have HX:=aP f ε p;clear f ε p C2;go_wp2;go_ret;refine⟨_,μ,O,kB HX.o.1 (mO _ _),λaeT hq=>m.o.1.kq aeT (HX.o.2.1.symm.subset hq),?_,?_⟩;rw[<-HX.o.2.1.length_eq];exact m.o.2;exact m.o.1.below.trans ((aa.of_grown (F:=λk=>w.heap.size<=k) HX.o.2.2 (λk hk=>aA ((m.o.1.row.ge k hk).1))).belowB (λk _ h=>h) m.o.1.below.size)
 intro ex ep a w2 hp Q K ζ;have E:a.length+1=left.length:=by have:=hp.length_eq;simpa using this.symm
 have B:(ex,ep)∈L:=A.pm.symm.subset (ik _ (hp.symm.subset cz));obtain⟨u,T,ι,-⟩:=HE.o _ B;have T:ep=some u:=T;subst T;have ψ:C.length<=1000:=by have h1:=A.kl;have h2:=A.pm.length_eq;simp at h2;omega
 have α:u4.ownBlock≠some w.heap.size:=λe=>aA ((A.row.ge _ e).1);have f:=K.own A.row α (by cases u4.ownBlock<;>simp);have J:=K.below A.below (ao _) (λ_ h=>aK h);have ξ:=aZ A.sz K.size;have γ:=ι.call J;have C1:=U (VC γ (HN.o.call J));have m:=U (ar A (ar hp (ar Q (ar f (ar J (ar E (ar hg B)))))));obtain⟨A1,c1,rfl,φ,σ⟩:=A.row.sl;clear A hp Q K f J E hg B γ ι;simp only[FY,FX,K0]at ζ⊢;go_wp2_with fail;apply C1.o.mono;rintro r P ⟨⟨b,rfl⟩,s⟩;have G:L.Perm (a++(ex,some u)::l):=m.o.1.pm.trans ((sE _ m.o.2.1).trans List.perm_middle.symm);have t:=m.o.2.2.2.2.1.trans (s.mono m.o.2.2.2.2.1.size);have j:=m.o.2.2.1.call s;have d:=Row.call m.o.2.2.2.1 s;have τ:=aZ ξ s.size;clear C1 ζ;cases b with
 |false=>
  have H3:=U (show qW w mb w.heap.size L a ((ex,some u)::l) _ C P from⟨j,d,m.o.1.kq,aZ m.o.1.kl ah,G,t,τ⟩);clear G t j d s;go_wp2_with fail;have E:=m.o.2.2.2.2.2.1;have hg:=m.o.2.2.2.2.2.2.1;go_roundg a.length
  case measure=>omega
  exact⟨a,(ex,some u)::l,C,O,H3.o⟩
 |true=>
  have ha:S P (P.alloc (.cells (jS u) 336)):=(aq _ _).alloc (ao _) _;obtain⟨v',w4,η,y,π,p,hf⟩:=lL.app (w:=P.alloc (.cells (jS u) 336)) (cap:=1) 393 (Row.call d ha) (jn (c:=jS) zt (x:=u) (M.new P 336 (jS u))) aQ aQ;simp only[dN,g8,cA]at η;have X:∀{k:Nat},k<P.heap.size->(Value.slice A1 C.length c1).ownBlock≠some k->w4.heap[k]? =P.heap[k]?:=λ{k} hk hn=>by rw[p.block k aQ (λe=>hn e.symm)];exact oW P _ k hk
  have δ:qW w mb w.heap.size L a ((ex,some u)::l) v' (C++[u]) w4:=by refine⟨j.same (X j.map.lt λe=>?_) (X j.lt α),y,λaeT hq=>?_,?_,G,?_,?_⟩;have h1:=oe d mb;obtain⟨es,ck,υ,_⟩:=j.map.ex;have:=h1 _ e υ;simp[Obj.isCells]at this;rcases bP.1 hq with hq|hq;exact m.o.1.kq aeT hq;rw[dd.1 hq];exact⟨_,m.o.2.2.2.2.2.2.2,O⟩;have:=m.o.1.kl;simp;omega;refine(t.trans (ha.mono t.size)).trans ((aa.of_grown (F:=λk=>w.heap.size<=k) p (λk hk=>?_)).belowB (λk _ h=>h) (by have:=t.size;simp;omega));have:=(d.lt k hk).1;omega;have:=p.size;simp at this;omega
  have H3:=U δ;clear G t j d s ha y π p hf X δ;go_wp2_with fail;have E:=m.o.2.2.2.2.2.1;have hg:=m.o.2.2.2.2.2.2.1;go_roundg a.length
  case measure=>omega
  exact⟨a,(ex,some u)::l,C++[u],O,H3.o⟩
structure mw where
 n:Int
 a:Int
def gJ(x:mw):Array H:=#[q x.n,Z x.a]
def mw.ok(x:mw):Prop:=bo x.n/\fG x.a
def uu(x:mw):(gJ x).size=2:=rfl
def OC(x:mw):∀u∈(gJ x).toList,u.oneCell'=true:=by intro u a;simp[gJ]at a;rcases a with rfl|rfl<;>rfl
abbrev pC(w:D)(base:Nat)(v:H)(L:List mw):Prop:=Row w base 339 2 gJ v L
def U9:(prog.info? 339).map (λi=>(i.zero,i.size,i.bytes))=some (some (.agg #[q 0,Z 0]),2,16):=Y
def pC.app{B:Nat}{cap:Nat}(ty:ay){L aeL:List mw}(h:pC w base v L)(j:dK w B 2 A aeL.length (cZ gJ aeL))(o:L.length+aeL.length<=1000000)(a:base<=w.heap.size):
  ∃d c,(iU 375 ty v (.slice A aeL.length cap)).run prog w=.ok (.value d) c/\pC c base d (L++aeL)/\iO base [339] w c/\w.grownBy c v.ownBlock/\(d.ownBlock=v.ownBlock\/∀b,d.ownBlock=some b->w.heap.size<=b):=by
 obtain⟨e,m,f,g,l⟩:=i7 U9;exact Row.app w 375 ty e _ 16 underlying375 m f g l O ai uu OC h (cap:=cap) j o ai a
@[go_sem ↓ high] def abI:=@mr 375
@[go_sem ↓ high] def aa3:=@lz 375
def Kz(x:mw)(w:D):(ke 375 (.agg #[q x.n,Z x.a])).run prog w=.ok (.value (bh w.heap.size 1 1)) (w.alloc (.cells (gJ x) 339)):=Y
def V3(w:D)(r:Ending)(w':D):Prop:=∃u a,r=.returned u/\pC w' w.heap.size u a/\a.length<=32/\(∀x∈a,x.ok)/\S w w'
def VB(h:fV w F dm mb L):Calls prog 253 #[N dm] w (V3 w):=by
 have C:=U (PK h);have HH:=U h;have β:=h.len;clear h;go_in;go_wp2_with fail;apply C.o.mono;rintro r Q ⟨u,m,rfl,b,K,γ,l⟩;obtain⟨A,c,rfl,ζ,ε⟩:=b.sl;have y:=aP b K l;clear b K l C;go_wp2;go_loopw [2,8] (λv i wr=>∃(k:Nat) (d:List mw),k<=m.length/\i=Z k/\pC wr Q.heap.size v d/\d.length=k/\(∀x∈d,x.ok)/\S Q wr) (λ_ i _=>m.length-(intOf i).toNat);exact⟨0,[],V,O,Row.nil,O,ah,aq _ _⟩;obtain⟨k,d,hk,rfl,b,f,p,l⟩:=hrel;obtain⟨Av,cv,rfl,-,-⟩:=b.sl;by_cases R:k<m.length
 ·have hd:=cO ((k:Int)<m.length);obtain⟨aeT,T⟩:∃aeT,m[k]? =some aeT:=⟨m[k],bY R⟩;obtain⟨x,B,e⟩:=y.o.2.1 aeT (cX T);obtain⟨q2,e2,hw,-⟩:=HH.o.els x B;rw[e]at e2;obtain rfl:=eZ e2;obtain⟨n,a,t,kk,hB,P,E,-⟩:=(hw.call y.o.2.2).call l;obtain⟨g,rfl,hg,δ⟩:=lL.at_ (Row.call y.o.1 l) T;unfold jd at hB;obtain⟨q1,f1⟩:=hB.rules;have α:=Kz ⟨n,a⟩ wr;have ha:S wr (wr.alloc (.cells (gJ ⟨n,a⟩) 339)):=(aq _ _).alloc (ao _) _;obtain⟨v',w4,J,j,G,X,hf⟩:=pC.app (w:=wr.alloc (.cells (gJ ⟨n,a⟩) 339)) (cap:=1) 375 (Row.call b ha) (jn (c:=gJ) uu (x:=⟨n,a⟩) (M.new wr 339 (gJ ⟨n,a⟩))) aQ (by have:=l.size;simp;omega);simp only[dN,g8,cA]at J;have s:=U (show pC w4 Q.heap.size v' (d++[⟨n,a⟩])/\(∀x∈d++[⟨n,a⟩],x.ok)/\S Q w4 from⟨j,λx B=>(bP.1 B).elim (p x) λB=>by rw[dd.1 B];exact⟨P,E⟩,(l.trans (ha.mono l.size)).trans G.below⟩);have HL:=U f;clear b p l hw hB T j G X hf ha f B e P E;go_wp2;go_roundw
  ·exact⟨k+1,_,V,by go_num,s.o.1,by rw[bW,HL.o];rfl,s.o.2.1,s.o.2.2⟩
  simp[intOf];omega
 obtain rfl:k=m.length:=V;have hd:=cP ((m.length:Int)<m.length);have s:=cQ b f p l;clear b f p l;go_wp2;go_ret;exact⟨_,d,O,s.o.1.mono y.o.2.2.size,by rw[s.o.2.1];omega,s.o.2.2.1,y.o.2.2.trans (s.o.2.2.2.mono y.o.2.2.size)⟩
def fV.set{i:Nat}{u:H}{a t k n' c t' k':Int}(h:fV w F dm mb L)(d:M w aeT 341 (jd n a t k))(l:(jd n a t k).setIfInBounds i u=jd n' c t' k')(j:bo n'/\fG c/\bo t'/\bo k'):fV (w.setCell (I aeT i) u) F dm mb L:=by refine⟨h.blk.far (p:=(I aeT i)) (λe=>?_) _,h.map.far (p:=(I aeT i)) (h.map.ne_blk d) _,λx r=>?_,h.len,h.fd,h.fm,λk g=>az (h.inh k g)⟩;have e:dm=aeT:=e;subst e;exact absurd (h.blk.type_eq d).1 ai;obtain⟨m,o,f,b⟩:=h.els x r;refine⟨m,o,f.set λe=>?_,b⟩;subst e;exact⟨n,a,t,k,n',c,t',k',d,l,j⟩
def AY(x:Int):bo (IntKind.u64.wrap x):=by unfold bo;rw[sN];omega
def V1(w:D)(F:Nat->Prop)(dm mb:Nat)(L:List (Int×Option Nat))(r:Ending)(w':D):Prop:=∃u a,r=.returned u/\pC w' w.heap.size u a/\a.length<=32/\(∀x∈a,x.ok)/\fV w' F dm mb L/\aa F w w'
def Xb(h:fV w F dm mb L)(ι:bo now):Calls prog 255 #[N dm,q now] w (V1 w F dm mb L):=by
 have D0:S w (w.alloc (.cells #[q now] 31)):=(aq _ _).alloc (ao _) _;have B0:M (w.alloc (.cells #[q now] 31)) w.heap.size 31 #[q now]:=M.new _ _ _;have C:=U (PL (h.call D0) B0);have HH:=aP h B0 D0;have Θ:=h.len;have HN:=U (show∀k,F k->k<w.heap.size from h.inh);clear h D0 B0;go_in;go_wp2_with fail;apply C.o.mono;rintro r w1 ⟨u,G,rfl,b,π,Ξ,hb⟩;obtain⟨A,c,rfl,Φ,Δ⟩:=b.sl;have H1:=cQ b π (HH.o.2.1.call hb) (HH.o.2.2.trans (hb.mono HH.o.2.2.size));have HZ:=U (show w.heap.size<w1.heap.size from ee HH.o.2.1.lt hb.size);have HR:=U (λg (e:(Value.slice A G.length c).ownBlock=some g) (hf:F g)=>show False from by have h1:=(b.ge g e).1;have h2:=HN.o g hf;simp at h1;omega);clear b π hb C;go_wp2;go_loopw [4,11] (λv i wr=>∃(k:Nat) (p:List mw),k<=G.length/\i=Z k/\pC wr w1.heap.size v p/\p.length=k/\(∀x∈p,x.ok)/\fV wr F dm mb L/\aa F w1 wr) (λ_ i _=>G.length-(intOf i).toNat);exact⟨0,[],V,O,Row.nil,O,ah,HH.o.1.call H1.o.2.2.2,aa.refl⟩;obtain⟨k,p,hk,rfl,b,f,J,B,hm⟩:=hrel;obtain⟨Av,cv,rfl,-,-⟩:=b.sl;by_cases φ:k<G.length
 ·have hd:=cO ((k:Int)<G.length);obtain⟨aeT,hq⟩:∃aeT,G[k]? =some aeT:=⟨G[k],bY φ⟩;obtain⟨x,hx,e⟩:=H1.o.2.1 aeT (cX hq);obtain⟨q2,e2,hw,γ⟩:=B.els x hx;rw[e]at e2;obtain rfl:=eZ e2;obtain⟨n,a,t,kk,hB,α,X,μ,σ⟩:=hw;obtain⟨g,rfl,hg,ω⟩:=lL.at_ (hm.row H1.o.1 HR.o) hq;have η:=hm.blk H1.o.2.2.1 (λhf=>aA (HN.o _ hf));have HB:=js hB γ α X μ σ;obtain⟨q1,f1⟩:=hB.rules;have l1:=hB.lt;unfold jd at q1;have Γ:=Kz ⟨n,a⟩ wr;have ha:S wr (wr.alloc (.cells (gJ ⟨n,a⟩) 339)):=(aq _ _).alloc (ao _) _;obtain⟨v',w4,ξ,s,κ,P,hf⟩:=pC.app (w:=wr.alloc (.cells (gJ ⟨n,a⟩) 339)) (cap:=1) 375 (Row.call b ha) (jn (c:=gJ) uu (x:=⟨n,a⟩) (M.new wr 339 (gJ ⟨n,a⟩))) aQ (by have:=hm.size;simp;omega);simp only[dN,g8,cA]at ξ;have δ:∀j,F j->j<wr.heap.size->w4.heap[j]? =wr.heap[j]?:=λj hf hj=>by rw[P.block j aQ (λe=>by have h1:=(b.ge j e.symm).1;have h2:=HN.o j hf;have h3:=HZ.o;omega)];exact oW wr _ j hj
  have ψ:wr.heap.size<=w4.heap.size:=by have:=P.size;simp at this;omega
  have Q:fV w4 F dm mb L:=B.keep ψ δ;have R:aa F w1 w4:=hm.trans' (aa.of_grown (F:=λj=>w1.heap.size<=j) P (λj hj=>(b.ge j hj).1)|>λm=>(aa.of_below (F:=λj=>w1.heap.size<=j) ha).trans m) λj hj h=>V;have K:M w4 aeT 341 (jd n a t kk):=(δ aeT γ hB.lt).trans hB;have l:M w4 w.heap.size 31 #[q now]:=κ.blk _ _ _ (η.call ha) ai;have H4:=iA s Q R K l;have bl:=U (show∀x∈p++[⟨n,a⟩],x.ok from λx hx=>(bP.1 hx).elim (J x) λhx=>by rw[dd.1 hx];exact⟨α,X⟩);have HF:=U (λ(W:D) (h:S w4 W)=>ar (K.call h).rules (ar (K.call h).lt (ar (l.call h).rules (l.call h).lt)));have HL:=U f;clear b J B hm hB hq s κ P hf ha f hx e α X μ σ η Q R K l δ;go_wp2_with fail;refine eS 9 Y ah aS aS aS aS ?_;simp only[cR]
  iterate 9
   first
   |refine kX rfl ?_;apply cV
    intro _ ρ χ τ υ W hb;have hq:=HF.o W hb;simp[execOp,go_sem,χ,τ,υ,hq,jd]<;>exact O
   |refine kz (λ_=>rfl) ?_
   simp only[aD]
  refine dg ?_;intro _ W5 hC _;have E:=H4.o.2.2.2.1.call hC;have θ:=(H4.o.2.1.call hC).set (i:=2) (u:=q (IntKind.u64.wrap (now+kk))) E O ⟨HB.o.2.2.1,HB.o.2.2.2.1,AY _,HB.o.2.2.2.2.2⟩;have ν:=E.set_ 2 (q (IntKind.u64.wrap (now+kk)));have ζ:=λy (hy:bo y)=>θ.set (i:=3) (u:=q y) (t':=IntKind.u64.wrap (now+kk)) (k':=y) ν O ⟨HB.o.2.2.1,HB.o.2.2.2.1,AY _,hy⟩;have d:=Row.call H4.o.1 hC;have ε:=Row.ne_box d E ai;have β:=λ(u y:H)=>(aa.set (F:=aR aeT) (w:=W5) (I aeT 2) O u).setOld (I aeT 3) (.inl O) y;have T:=U (λy (hy:bo y)=>ar (ζ y hy) (ar ((β (q (IntKind.u64.wrap (now+kk))) (q y)).row d λg hg e=>ε (by rw[hg];exact bH some e)) ((H4.o.2.2.1.call hC).trans ((β (q (IntKind.u64.wrap (now+kk))) (q y)).mono λk e=>by have e:k=aeT:=e;subst e;exact γ))));obtain⟨q5,f5⟩:=E.rules;unfold jd at q5;rw[sN]at T;clear HF hC E θ ν ζ d ε β q1 f1 l1 ω hg ι;go_wp2;go_roundw
  ·have h6:=T.o (min (2*kk%18446744073709551616) 16) (by unfold bo;omega);exact⟨k+1,_,V,by go_num,h6.2.1,by rw[bW,HL.o];rfl,bl.o,h6.1,h6.2.2⟩
  simp[intOf];omega
 obtain rfl:k=G.length:=V;have hd:=cP ((G.length:Int)<G.length);have T:=iA b f J B hm;clear b f J B hm;go_wp2;go_ret;exact⟨_,p,O,T.o.1.mono H1.o.2.2.2.size,by rw[T.o.2.1];omega,T.o.2.2.1,T.o.2.2.2.1,(aa.of_below (F:=F) H1.o.2.2.2).trans T.o.2.2.2.2⟩
def YK(w:D)(F:Nat->Prop)(dm mb:Nat)(r:Ending)(w':D):Prop:=(∃b:Bool,r=.returned (.bool b))/\∃a,fV w' F dm mb a/\aa F w w'
def VD(h:fV w F dm mb L)(r:bo n):Calls prog 193 #[N dm,q n] w (YK w F dm mb):=by
 obtain⟨T,X⟩:=h.blk.rules;have b:(Instr.lookup 243 (.map (some mb)) (q n) false).run prog w=.ok (tO ((lk L n).getD none)) w:=h.map.look th r;have c:=U h;cases p:lk L n with
 |none=>rw[p]at b;replace b:(Instr.lookup 243 (.map (some mb)) (q n) false).run prog w=.ok (.pointer none) w:=b;clear h r p;go_wp2;go_ret;exact⟨⟨_,O⟩,L,c.o,aa.refl⟩
 |some v=>
  obtain⟨aeT,t,-,-⟩:=h.els _ (dX p);have t:v=some aeT:=t;subst t;rw[p]at b;replace b:(Instr.lookup 243 (.map (some mb)) (q n) false).run prog w=.ok (N aeT) w:=b;have s:=λj=>h.map.drop th (a:=n) r j;have u:∃g,(∀j,(Builtin.delete_ #[243,31] j #[.map (some mb),q n]).run prog w=.ok (.tuple #[]) g)/\bA sg g mb (dropL L n)/\aH w g mb none:=by obtain⟨g,K,J,Q⟩:=s 0;refine⟨g,λj=>?_,J,Q⟩;obtain⟨W3,G,-⟩:=s j;rw[show(Builtin.delete_ #[243,31] j #[.map (some mb),q n])=(Builtin.delete_ #[243,31] 0 #[.map (some mb),q n])from rfl];exact K
  obtain⟨g,C,l,d⟩:=u;have E:=aB l d;clear h r p s l d;go_wp2;go_ret;have m:aa (aR mb) w g:=aa.of_fr1 (F:=aR mb) E.o.2 O;refine⟨⟨_,O⟩,dropL L n,⟨m.blk c.o.blk λe=>?_,E.o.1,λx R=>?_,?_,c.o.fd,c.o.fm,c.o.inh.mono m.size⟩,m.mono λk e=>by have e:k=mb:=e;subst e;exact c.o.fm⟩;have e:dm=mb:=e;exact c.o.map.ne_blk c.o.blk e.symm;obtain⟨B,P,f,d⟩:=c.o.els x (rz.1 R).1;refine⟨B,P,f.same (m.block B f.lt λe=>?_),d⟩;have e:B=mb:=e;subst e;obtain⟨n1,a1,t1,G,y,-⟩:=f;exact c.o.map.ne_blk y O;exact aZ (List.length_filter_le _ _) c.o.len
def Xz{L:eY}{m:aG}(h:bI w L m)(hm:m.ok){x:Int}(hx:bo x)(hk:k<6)(a:Int)(hp:∀y∈aL m.tr x,bo y)(hl:(aL m.tr x).length<=1000):
  Calls prog 249 #[N L.b,Z ((k:Int)+1),q x,Z a] w λr w'=>∃s Q,r=.returned (.tuple #[q s,Z Q])/\bo s/\S w w':=by
 have C:=U (Vn h hm hx);have HH:=aB h hp;clear h hm hx hp;go_in;go_wp2_with fail;apply C.o.mono;rintro r w1 ⟨u,rfl,e,hb⟩;generalize hP:aL m.tr x=P at e hl;obtain⟨A,c,rfl,ζ,γ⟩:=e.sl;have l:=aP e hb hP;clear e hb hP C;go_wp2;go_loopw [17] (λi wr=>∃j:Nat,j<=P.length/\i=Z j/\S w1 wr) (λi _=>P.length-(intOf i).toNat);exact⟨0,V,O,aq _ _⟩;obtain⟨j,hj,rfl,f⟩:=hrel;by_cases G:j<P.length
 ·have hd:=cO ((j:Int)<P.length);obtain⟨y,X⟩:∃y,P[j]? =some y:=⟨P[j],bY G⟩;have p:bo y:=HH.o.2 y (by rw[l.o.2.2];exact cX X);have d:=Row.call l.o.1 f;obtain⟨g,K,hs,t,R,δ,ε⟩:=d.sl_pos V;rw[hs]at d;have B:=d.rng kV X;obtain⟨rfl,J⟩:A=some (I g 0)/\c=K:=by injection hs with a b c;exact⟨a,c⟩
  have β:wr.cell? (I g j)=some (q y):=by have this:=B 0 (q y) O;rw[iP]at this;exact this
  have C2:=U (zx ((HH.o.1.call l.o.2.1).call f) p k hk);have T:=aB p f;clear d B hs t R J X p f;go_wp2_with fail;apply C2.o.mono;rintro r w3 ⟨rfl,E⟩;obtain⟨n,hn⟩:=aM (cS (m.r y) k);have H3:=U (T.o.2.trans (E.mono T.o.2.size));rw[hn];clear E C2 hn;by_cases α:n<a
  ·go_wp2;go_ret2;exact⟨_,_,O,T.o.1,l.o.2.1.trans (H3.o.mono l.o.2.1.size)⟩
  go_wp2;go_roundw
  ·exact⟨j+1,V,by go_num,H3.o⟩
  simp[intOf];omega
 obtain rfl:j=P.length:=V;have hd:=cP ((P.length:Int)<P.length);have HB:=U f;clear f;go_wp2;go_ret2;exact⟨0,0,O,⟨ai,ai⟩,l.o.2.1.trans (HB.o.mono l.o.2.1.size)⟩
def Zd{g j:Nat}{e:z}{s:Int}{d:an}(b:M W g 64 (aj e))(m:M W c1 3 #[Z i])(c:M W c2 31 #[q s])(l:M W j 33 (aF d)):
  Calls prog 301 #[N g,N c1,N c2,N j] W λr p=>(∃u,r=.returned u)/\M p g 64 (aj ⟨i,s,d,e.k,e.n,e.t,e.a,e.r,e.f⟩)/\aa (aR g) W p:=by
 have C:g≠c2:=λh=>absurd (b.type_eq (h▸c)).1 ai;have G:g≠j:=λh=>absurd (b.type_eq (h▸l)).1 ai;obtain⟨aeT,y⟩:=b.rules;obtain⟨E,-⟩:=m.rules;obtain⟨J,-⟩:=c.rules;obtain⟨B,-⟩:=l.rules;have x:=U b;clear b m c l;go_in;go_region;go_end0;refine⟨⟨_,O⟩,?_,?_⟩;have h:=(((((((x.o.set_ 0 (Z i)).set_ 1 (q s)).set_ 2 (q d.v0)).set_ 3 (q d.v1)).set_ 4 (q d.v2)).set_ 5 (q d.v3)).set_ 6 (q d.v4)).set_ 7 (q d.v5);simp only[Eh,Eg,Ef,Ee,Ed,Ec,Eb,Ea]at h;exact h.drew;have f:aH W _ g none:=(((((((aH.of_set (w:=W) (I g 0) O (Z i)).set (I g 1) O (q s)).set (I g 2) O (q d.v0)).set (I g 3) O (q d.v1)).set (I g 4) O (q d.v2)).set (I g 5) O (q d.v3)).set (I g 6) O (q d.v4)).set (I g 7) O (q d.v5);exact(aa.of_fr1 (F:=aR g) f O).trans aa.drew
def Xy{x:Nat}{s:Int}{d:an}(a:dT)(C:M W c1 3 #[Z i])(B:M W c2 31 #[q s])(G:M W x 33 (aF d)):
  Calls prog 300 #[.agg (bE a),.func (.func 301) #[] #[N c1,N c2,N x]] W λr X=>r=.returned (.agg (aj ⟨i,s,d,a.k,a.n,a.t,a.a,a.r,a.f⟩))/\S W X:=by
 have P:ax W [(c1,3,#[Z i]),(c2,31,#[q s]),(x,33,aF d)]:=ax.cons C (ax.cons B (ax.cons G ax.nil));have J:S W (((W.alloc (.cells (bE a) 55)).alloc (.cells (aj z.zero) 64)).alloc (.cells (aj z.zero) 64)):=(((aq _ _).alloc aQ _).alloc aQ _).alloc aQ _;have p:ax (((W.alloc (.cells (bE a) 55)).alloc (.cells (aj z.zero) 64)).alloc (.cells (aj z.zero) 64)) [(W.heap.size+1+1,64,aj z.zero),(W.heap.size+1,64,aj z.zero),(W.heap.size,55,bE a)]:=((ax.nil.push (g:=W.heap.size) O).push (g:=W.heap.size+1) ah).push (g:=W.heap.size+1+1) ah;have m:=jG p.head O ⟨0,0,an.zero,a.k,a.n,a.t,a.a,a.r,a.f⟩;have y:=p.row (by refine⟨?_,?_,trivial⟩<;>omega) (aj ⟨0,0,an.zero,a.k,a.n,a.t,a.a,a.r,a.f⟩);have l:=Below.rowN J (g:=W.heap.size+1+1) V (aj ⟨0,0,an.zero,a.k,a.n,a.t,a.a,a.r,a.f⟩);have b:=P.call l;have K:=U (Zd y.head b.head b.drop.head b.drop.drop.head);have j:=aB y l;clear J p y l b P C B G;go_in;go_wp2_with fail;apply K.o.mono;rintro r T ⟨⟨u,rfl⟩,h,c⟩;have e:=c.blk j.o.1.drop.head (by show ¬(W.heap.size+1=W.heap.size+1+1);omega);have E:S W T:=j.o.2.trans ⟨c.os,c.tape,c.output,c.size,λk R=>c.block k (ee R j.o.2.size) (by show ¬(k=W.heap.size+1+1);omega)⟩;have hl:=gj h;have hs:=jG e O ⟨i,s,d,a.k,a.n,a.t,a.a,a.r,a.f⟩;have Q:=aB (dt e (aj ⟨i,s,d,a.k,a.n,a.t,a.a,a.r,a.f⟩)) (Below.rowN E (g:=W.heap.size+1) V (aj ⟨i,s,d,a.k,a.n,a.t,a.a,a.r,a.f⟩));clear K m h c e E j;go_wp2_with fail;exact eI (s:=4) results300 O Q.o.1 underlying64 O (iQ _) O ⟨O,Q.o.2⟩
structure dT.ok(y:dT):Prop where
 k:j2 y.k
 n:mA y.n
 t:fG y.t
 a:fG y.a
 r:mA y.r
 f:mA y.f
def aG.ok.knok{m:aG}(a:m.ok):m.kn.ok:=λk b=>⟨(a.kn k b).1,aA ((a.kn k b).2)⟩
def uC{m:aG}(c:m.ok)(d:k<6){a:dT}(b:a.ok):(dn m k a).ok:=
 ⟨⟨by show -9223372036854775808<=(k:Int)+1;omega,by show(k:Int)+1<=9223372036854775807;omega⟩,⟨by show 0<=m.kn.get k+1;have:=(c.kn k d).1;omega,by show m.kn.get k+1<=18446744073709551615;have:=(c.kn k d).2;omega⟩,c.knok,b.k,b.n,b.t,b.a,b.r,b.f⟩
def OD{m:aG}(a:m.ok)(b:k<6):oy m.kn ((k:Int)+1)=(m.kn.get k+1,0):=by have h:=a.kn k b;unfold oy;rw[av (by unfold lw;simp;omega)];have e:((k:Int)+1-1).toNat=k:=V;rw[e,al V]
section
variable{w w':D}{L:eY}{m:aG}
def xl(m:aG)(k:Nat)(a:dT):H:=.tuple #[.agg (aj (if(ev m (dn m k a)).1=0 then dn m k a else z.zero)),Z (ev m (dn m k a)).1]
def Xx(h:bI w L m)(hm:m.ok)(hT:dr w)(hk:k<6){a:dT}(ha:a.ok):
  Calls prog 286 #[N L.b,Z ((k:Int)+1),.agg (bE a)] w λr w'=>r=.returned (xl m k a)/\S w w':=by
 have D0:S w (((w.alloc (.cells #[Z ((k:Int)+1)] 3)).alloc (.cells (bE a) 55)).alloc (.cells (aj z.zero) 64)):=(((aq _ _).alloc aQ _).alloc aQ _).alloc aQ _;have B0:ax (((w.alloc (.cells #[Z ((k:Int)+1)] 3)).alloc (.cells (bE a) 55)).alloc (.cells (aj z.zero) 64)) [(w.heap.size+1+1,64,aj z.zero),(w.heap.size+1,55,bE a),(w.heap.size,3,#[Z ((k:Int)+1)])]:=((ax.nil.push (g:=w.heap.size) O).push (g:=w.heap.size+1) ah).push (g:=w.heap.size+1+1) ah;have CK:=U (zT (h.call D0));have c:=js h hm hT ha B0 D0;clear h hm hT ha B0 D0;go_in;go_wp2_with fail;apply CK.o.mono;rintro r W1 ⟨rfl,p⟩;have D1:=c.o.2.2.2.2.2.trans (p.mono c.o.2.2.2.2.2.size);have B1:=c.o.2.2.2.2.1.call p;have H1:=aB B1 D1;have CN:=U (λX=>TN m.kn c.o.2.1.knok ((k:Int)+1) _ _ (OD c.o.2.1 hk) X);obtain⟨q2,f2,q1,-,q0,-,-⟩:=B1.rules;obtain⟨l2,l1,l0,-⟩:=B1.lts;clear CK p B1 D1;go_wp2_with fail;apply(CN.o _).mono;rintro r W2 ⟨rfl,d⟩;have B2:ax (W1.alloc (.cells (aF m.kn) 33)) ((W1.heap.size,33,aF m.kn)::_):=H1.o.1.push O;have B3:=B2.call d;have D2:S W1 (W1.alloc (.cells (aF m.kn) 33)):=(aq _ _).alloc (ao _) _;have D3:=H1.o.2.trans ((D2.trans (d.mono D2.size)).mono H1.o.2.size);obtain⟨q3,f3,q2,f2,q1,-,q0,-,-⟩:=B3.rules;obtain⟨l3,l2,l1,l0,-⟩:=B3.lts;have D4:S W2 (W2.alloc (.cells #[q (m.kn.get k+1)] 31)):=(aq _ _).alloc (ao _) _;have C:ax (W2.alloc (.cells #[q (m.kn.get k+1)] 31)) ((W2.heap.size,31,#[q (m.kn.get k+1)])::_):=B3.push O;have γ:=uW (a:=a) C.drop.drop.drop.head;have CM:=U (Xy a C.drop.drop.drop.drop.head C.head C.drop.head);have H4:=aB C (D3.trans (D4.mono D3.size));have α:=d.size;simp only[oX]at α;clear CN d B2 B3 D2 D3 D4 C;go_wp2_with fail;apply CM.o.mono;rintro r y ⟨rfl,j⟩;rw[show(⟨(k:Int)+1,m.kn.get k+1,m.kn,a.k,a.n,a.t,a.a,a.r,a.f⟩:z)=dn m k a from rfl];have B5:=H4.o.1.call j;have R:=H4.o.2.trans (j.mono H4.o.2.size);have B6:ax (y.alloc (.cells (aj z.zero) 64)) ((y.heap.size,64,aj z.zero)::_):=B5.push O;have G:=jG B6.head O (dn m k a);have δ:=j.size;simp only[oX]at δ;have J:=B5.lts;have B7:=B6.row (by obtain⟨l5,l4,l3,l2,l1,-⟩:=J;refine⟨?_,?_,?_,?_,?_,trivial⟩<;>omega) (aj (dn m k a));have D7:S w ((y.alloc (.cells (aj z.zero) 64)).setRow y.heap.size (aj (dn m k a))):=Below.rowN (R.trans (((aq y.heap.size y).alloc (ao _) _).mono R.size)) (aA R.size) _;have K:=gj B7.head;have hE:=uC c.o.2.1 hk c.o.2.2.2.1;have T:=U (RQ (c.o.1.call D7) c.o.2.1 (c.o.2.2.1.call D7 c.o.2.2.1.lt.1 c.o.2.2.1.lt.2) (dn m k a) hE);have H7:=aB B7 D7;obtain⟨x,l⟩:=aM ((ev m (dn m k a)).1);have HV:=U (show xl m k a=.tuple #[.agg (aj (if x=0 then dn m k a else z.zero)),Z x]from by unfold xl;rw[l]);rw[l]at T;generalize dn m k a=E at*;clear CM j B5 R B6 B7 D7 γ J l hE;go_wp2_with fail;apply T.o.mono;rintro r W4 ⟨rfl,e⟩;have B8:=H7.o.1.call e;have Q:=H7.o.2.trans (e.mono H7.o.2.size);have ε:=gj B8.head;have B:=B8.drop.drop.drop.head;by_cases hz:x=0
 ·subst hz;have β:=jG B O E;have P:=aB (dt B (aj E)) (Below.rowN Q (g:=w.heap.size+1+1) V (aj E));clear T G K e B8 Q B;go_wp2_with fail;refine kA (s:=6) (u:=7) results286 O O P.o.1 underlying64 O (iQ _) O ⟨?_,P.o.2⟩;rw[HV.o,av ah];rfl
 have ζ:(x !=0)=true:=az hz;have HZ:=U hz;have β:=jG B O z.zero;have P:=aB (dt B (aj z.zero)) (Below.rowN Q (g:=w.heap.size+1+1) V (aj z.zero));clear T G K e B8 Q B hz;go_wp2_with fail;refine kA (s:=6) (u:=7) results286 O O P.o.1 underlying64 O (iQ _) O ⟨?_,P.o.2⟩;rw[HV.o,al HZ.o];rfl
end
def Yo{a:dT}(C:M W c1 3 #[Z i])(B:M W c2 55 (bE a))(g:cI):
  Calls prog 298 #[.agg (bR g),N c1,N c2] W λr R=>r=.returned (.bool (kF i a g))/\S W R:=by
 have G:S W (W.alloc (.cells (bR g) 119)):=(aq _ _).alloc (ao _) _;have s:ax (W.alloc (.cells (bR g) 119)) [(W.heap.size,119,bR g),(c1,3,#[Z i]),(c2,55,bE a)]:=(ax.cons C (ax.cons B ax.nil)).push O;obtain⟨X,-,q1,-,q2,-,-⟩:=s.rules;obtain⟨l0,l1,l2,-⟩:=s.lts;have t:=U G;obtain⟨e,d,j,h,c⟩:=g;obtain⟨K,Q,l,P,m,J⟩:=a;have T:(bR ⟨e,d,j,h,c⟩)[0]? =some (Z e):=O;have e1:(bR ⟨e,d,j,h,c⟩)[1]? =some (q d):=O;have e4:(bR ⟨e,d,j,h,c⟩)[4]? =some (q c):=O;obtain⟨y,x⟩:=aM ((e==i));obtain⟨E,u⟩:=aM ((d==m));obtain⟨b3,f⟩:=aM ((c==m));have p:=U (show kF i ⟨K,Q,l,P,m,J⟩ ⟨e,d,j,h,c⟩=(y&&(E||b3))from by rw[<-x,<-u,<-f];unfold kF;simp[BEq.beq]);clear C B G s;go_in;cases y
 ·go_wp2;go_ret;exact⟨by rw[p.o];rfl,t.o⟩
 cases E
 ·go_wp2;go_ret;exact⟨by rw[p.o];simp[f],t.o⟩
 go_wp2;go_ret;exact⟨by rw[p.o];rfl,t.o⟩
def RP{G:List cI}(h:iK w base v G)(hn:G.length<=1000000){a:dT}(h1:M w c1 3 #[Z i])(h2:M w c2 55 (bE a)):
  Calls prog 297 #[v,.func (.func 298) #[] #[N c1,N c2]] w λr w'=>r=.returned (Z (kf (kF i a) G))/\S w w':=by
 obtain⟨A,c,rfl,hc,hm⟩:=h.sl;have l:=aP h h1 h2;clear h h1 h2;go_wp2;go_loopw [8] (λu wr=>∃k:Nat,k<=G.length/\u=Z k/\(∀x∈G.take k,kF i a x=false)/\S w wr) (λu _=>G.length-(intOf u).toNat);exact⟨0,V,O,ah,aq _ _⟩;obtain⟨k,hk,rfl,m,s⟩:=hrel;have f:=aB m s;clear m s;by_cases E:k<G.length
 ·obtain⟨y,hy⟩:∃y,G[k]? =some y:=⟨G[k],bY E⟩;have d:=Row.call l.o.1 f.o.2;obtain⟨g,Q,hs,p,R,β,γ⟩:=d.sl_pos V;rw[hs]at d;have t:=d.rng po hy;obtain⟨rfl,K⟩:A=some (I g 0)/\c=Q:=by injection hs with a b c;exact⟨a,c⟩
  have α:=eO (P:=prog) t underlying119 O (pq y);have k0:(0:Int)<=(k:Int):=V;have kl:(k:Int)<G.length:=V;obtain⟨b,J⟩:=aM (kF i a y);have T:=U (λ(X:D) (hX:S w X)=>Yo (l.o.2.1.call hX) (l.o.2.2.call hX) y);rw[J]at T;have C:=aB hy J;clear d t hs p R K hy J;go_wp2_with fail;apply(T.o _ f.o.2).mono;rintro r w2 ⟨rfl,B⟩;have D2:=U (f.o.2.trans (B.mono f.o.2.size));clear T B α;cases b with
  |true=>go_wp2;go_ret;refine⟨?_,D2.o⟩;rw[DN C.o.1 C.o.2 λj hj e hz=>f.o.1 e (List.mem_take_iff_getElem.2 ⟨j,aA ((fN.1 hz).1),(fN.1 hz).2⟩)];rfl
  |false=>
   go_wp2;go_roundw
   ·refine⟨k+1,V,by go_num,λe hz=>?_,D2.o⟩;rw[gP,C.o.1]at hz;rcases bP.1 hz with hz|hz;exact f.o.1 e hz;obtain rfl:e=y:=az hz;exact C.o.2
   simp[intOf];omega
 obtain rfl:k=G.length:=V;go_wp2;go_ret;refine⟨?_,f.o.2⟩;rw[Ky λx hx=>f.o.1 x (by rw[jt];exact hx)];rfl
def yT{α:Type}{p:α->Bool}{L:List α}:(kf p L=-1->L.find? p=none)/\∀(k:Nat) (x:α),kf p L=k->L[k]? =some x->L.find? p=some x:=by
 unfold kf;cases h:L.findIdx? p with
 |none=>refine⟨λ_=>vA.2 λx c=>az (Cv.1 h x c),λk x a=>?_⟩;simp only at a;omega
 |some j=>
  obtain⟨b,f,d⟩:=Ct.1 h;refine⟨λa=>by simp only at a;omega,λk x a c=>?_⟩;have:j=k:=by simp only at a;omega
  subst this;have e:L[j]=x:=(fN.1 c).2;subst e;rw[List.find?_eq_some_iff_getElem];exact⟨f,j,b,O,λi g=>az (d i g)⟩
def U0{inn:Nat->Bool}{kn:an}{vN:H}{G:List cI}(hN:∃A n c,vN=.slice A n c)(h:iK w base v G)(hn:G.length<=1000000)(i:Int)(a:dT):
  Calls prog 285 #[.agg (aT inn kn vN v),Z i,.agg (bE a)] w λr w'=>r=.returned (.tuple #[.bool (gA G i a).1,Z (gA G i a).2])/\S w w':=by
 have D0:S w (((w.alloc (.cells (aT inn kn vN v) 37)).alloc (.cells #[Z i] 3)).alloc (.cells (bE a) 55)):=(((aq _ _).alloc aQ _).alloc aQ _).alloc aQ _;have B0:ax (((w.alloc (.cells (aT inn kn vN v) 37)).alloc (.cells #[Z i] 3)).alloc (.cells (bE a) 55)) [(w.heap.size+1+1,55,bE a),(w.heap.size+1,3,#[Z i]),(w.heap.size,37,aT inn kn vN v)]:=((ax.nil.push (g:=w.heap.size) O).push (g:=w.heap.size+1) ah).push (g:=w.heap.size+1+1) ah;have R0:=Row.call h D0;have CI:=U (RP R0 hn B0.drop.head B0.head);obtain⟨q2,-,q1,-,q0,-,-⟩:=B0.rules;obtain⟨l2,l1,l0,-⟩:=B0.lts;have HB:=cQ B0 D0 h hn;obtain⟨A,c,rfl,hc,hm⟩:=h.sl;obtain⟨AN,nN,cN,rfl⟩:=hN;obtain⟨j,R,e,Q,f,B⟩:=a;clear D0 B0 R0 h hn;go_in;have HZ:=U (show(f=0\/(j≠3/\j≠4))->gA G i ⟨j,R,e,Q,f,B⟩=(false,0)from λm=>by unfold gA;rw[av m]);have K:=U (show ¬(f=0\/(j≠3/\j≠4))->gA G i ⟨j,R,e,Q,f,B⟩=match G.find? (kF i ⟨j,R,e,Q,f,B⟩)with|none=>(false,0)|some g=>if rQ ⟨j,R,e,Q,f,B⟩ g||ti ⟨j,R,e,Q,f,B⟩ g then(true,0)else(true,14)from λm=>by unfold gA;rw[al m];rfl);have C:=U (show(f=0\/(j≠3/\j≠4))->∀(X:D),S w X->Ending.returned (.tuple #[.bool false,Z 0])=.returned (.tuple #[.bool (gA G i ⟨j,R,e,Q,f,B⟩).1,Z (gA G i ⟨j,R,e,Q,f,B⟩).2])/\S w X from λm X hX=>by rw[HZ.o m];exact⟨O,hX⟩);obtain⟨n,γ⟩:=aM (kf (kF i ⟨j,R,e,Q,f,B⟩) G);have HS:=U γ;rw[γ]at CI;clear HZ γ;by_cases m:f=0
 ·have HD:=U (C.o (.inl m));have ι:(f==0)=true:=az m;clear C K m CI HS;go_wp2;go_ret2;exact HD.o _ HB.o.2.1
 have ι:(f==0)=false:=az m;by_cases k3:j=3
 ·subst k3;have HA:=U (K.o (by simp[m]));clear C K m;go_wp2_with fail;apply CI.o.mono;rintro r l ⟨rfl,y⟩;have D1:=HB.o.2.1.trans (y.mono HB.o.2.1.size);have B1:=HB.o.1.call y;obtain⟨p2,-,p1,-,p0,-,-⟩:=B1.rules;obtain⟨m2,m1,m0,-⟩:=B1.lts;have p:=aB B1 D1;clear CI y q2 q1 q0 l2 l1 l0 B1;rcases JK (kF i ⟨3,R,e,Q,f,B⟩) G with⟨E,-⟩|⟨k,x,E,hx,-⟩
  ·rw[E]at HS;obtain rfl:=HS.o;go_wp2;go_ret2;exact⟨by rw[HA.o,yT.1 E];rfl,p.o.2⟩
  rw[E]at HS;obtain rfl:=HS.o;have ν:k<G.length:=(fN.1 hx).1;have d:=Row.call HB.o.2.2.1 p.o.2;obtain⟨g,η,s,α,ε,σ,μ⟩:=d.sl_pos V;rw[s]at d;have β:=d.rng po hx;obtain⟨rfl,ζ⟩:A=some (I g 0)/\c=η:=by injection s with a b c;exact⟨a,c⟩
  have κ:=eO (P:=prog) β underlying119 O (pq x);have k0:(0:Int)<=(k:Int):=V;have kl:(k:Int)<G.length:=V;have kn:=cP ((k:Int)<0);have B3:M (l.alloc (.cells #[Z 0,q 0,q 0,Z 0,q 0] 119)) l.heap.size 119 #[Z 0,q 0,q 0,Z 0,q 0]:=M.new _ _ _;have ξ:=ft (P:=prog) (ty:=119) B3 (pq x) O (EL x);have B4:ax ((l.alloc (.cells #[Z 0,q 0,q 0,Z 0,q 0] 119)).setRow l.heap.size (bR x)) ((l.heap.size,119,bR x)::_):=(p.o.1.push (t:=119) (cs:=#[Z 0,q 0,q 0,Z 0,q 0]) O).row (by refine⟨?_,?_,?_,trivial⟩<;>omega) (bR x);have D4:=U (Below.rowN ((p.o.2).trans (((aq l.heap.size l).alloc (ao _) (.cells #[Z 0,q 0,q 0,Z 0,q 0] 119)).mono p.o.2.size)) (g:=l.heap.size) p.o.2.size (bR x));obtain⟨r3,-,r2,-,r1,-,r0,-,-⟩:=B4.rules;obtain⟨s3,s2,s1,s0,-⟩:=B4.lts;have u:=HA.o;rw[yT.2 k x E hx]at u;obtain⟨xo,J,T,xa,xb⟩:=x;have e1:(bR ⟨xo,J,T,xa,xb⟩)[1]? =some (q J):=O;have e2:(bR ⟨xo,J,T,xa,xb⟩)[2]? =some (q T):=O;have e3:(bR ⟨xo,J,T,xa,xb⟩)[3]? =some (Z xa):=O;have e4:(bR ⟨xo,J,T,xa,xb⟩)[4]? =some (q xb):=O;obtain⟨c1,θ⟩:=aM ((J==f));obtain⟨c2,δ⟩:=aM ((T==R));obtain⟨c3,π⟩:=aM ((xa==Q));have HR:=U (show gA G i ⟨3,R,e,Q,f,B⟩=if(c1&&(c2&&c3))=true then(true,0)else(true,14)from by rw[u,<-θ,<-δ,<-π];unfold rQ ti;simp[BEq.beq]);clear HA B3 B4 d β s α ε ζ E hx p D1 u;cases c1
  ·go_wp2;go_ret2;exact⟨by rw[HR.o];rfl,D4.o⟩
  cases c2
  ·go_wp2;go_ret2;exact⟨by rw[HR.o];rfl,D4.o⟩
  cases c3
  ·go_wp2;go_ret2;exact⟨by rw[HR.o];rfl,D4.o⟩
  go_wp2;go_ret2;exact⟨by rw[HR.o];rfl,D4.o⟩
 by_cases k4:j=4
 ·subst k4;have HA:=U (K.o (by simp[m]));clear C K m k3;go_wp2_with fail;apply CI.o.mono;rintro r l ⟨rfl,y⟩;have D1:=HB.o.2.1.trans (y.mono HB.o.2.1.size);have B1:=HB.o.1.call y;obtain⟨p2,-,p1,-,p0,-,-⟩:=B1.rules;obtain⟨m2,m1,m0,-⟩:=B1.lts;have p:=aB B1 D1;clear CI y q2 q1 q0 l2 l1 l0 B1;rcases JK (kF i ⟨4,R,e,Q,f,B⟩) G with⟨E,-⟩|⟨k,x,E,hx,-⟩
  ·rw[E]at HS;obtain rfl:=HS.o;go_wp2;go_ret2;exact⟨by rw[HA.o,yT.1 E];rfl,p.o.2⟩
  rw[E]at HS;obtain rfl:=HS.o;have ν:k<G.length:=(fN.1 hx).1;have d:=Row.call HB.o.2.2.1 p.o.2;obtain⟨g,η,s,α,ε,σ,μ⟩:=d.sl_pos V;rw[s]at d;have β:=d.rng po hx;obtain⟨rfl,ζ⟩:A=some (I g 0)/\c=η:=by injection s with a b c;exact⟨a,c⟩
  have κ:=eO (P:=prog) β underlying119 O (pq x);have k0:(0:Int)<=(k:Int):=V;have kl:(k:Int)<G.length:=V;have kn:=cP ((k:Int)<0);have B3:M (l.alloc (.cells #[Z 0,q 0,q 0,Z 0,q 0] 119)) l.heap.size 119 #[Z 0,q 0,q 0,Z 0,q 0]:=M.new _ _ _;have ξ:=ft (P:=prog) (ty:=119) B3 (pq x) O (EL x);have B4:ax ((l.alloc (.cells #[Z 0,q 0,q 0,Z 0,q 0] 119)).setRow l.heap.size (bR x)) ((l.heap.size,119,bR x)::_):=(p.o.1.push (t:=119) (cs:=#[Z 0,q 0,q 0,Z 0,q 0]) O).row (by refine⟨?_,?_,?_,trivial⟩<;>omega) (bR x);have D4:=U (Below.rowN ((p.o.2).trans (((aq l.heap.size l).alloc (ao _) (.cells #[Z 0,q 0,q 0,Z 0,q 0] 119)).mono p.o.2.size)) (g:=l.heap.size) p.o.2.size (bR x));obtain⟨r3,-,r2,-,r1,-,r0,-,-⟩:=B4.rules;obtain⟨s3,s2,s1,s0,-⟩:=B4.lts;have u:=HA.o;rw[yT.2 k x E hx]at u;obtain⟨xo,J,T,xa,xb⟩:=x;have e1:(bR ⟨xo,J,T,xa,xb⟩)[1]? =some (q J):=O;have e2:(bR ⟨xo,J,T,xa,xb⟩)[2]? =some (q T):=O;have e3:(bR ⟨xo,J,T,xa,xb⟩)[3]? =some (Z xa):=O;have e4:(bR ⟨xo,J,T,xa,xb⟩)[4]? =some (q xb):=O;obtain⟨c1,θ⟩:=aM ((xb==f));obtain⟨c2,δ⟩:=aM ((J==B));have HR:=U (show gA G i ⟨4,R,e,Q,f,B⟩=if(c1&&c2)=true then(true,0)else(true,14)from by rw[u,<-θ,<-δ];unfold rQ ti;simp[BEq.beq]);clear HA B3 B4 d β s α ε ζ E hx p D1 u;cases c1
  ·go_wp2;go_ret2;exact⟨by rw[HR.o];rfl,D4.o⟩
  cases c2
  ·go_wp2;go_ret2;exact⟨by rw[HR.o];rfl,D4.o⟩
  go_wp2;go_ret2;exact⟨by rw[HR.o];rfl,D4.o⟩
 have HD:=U (C.o (.inr ⟨k3,k4⟩));have h3:(j !=3)=true:=az k3;have h4:(j !=4)=true:=az k4;clear C K m CI HS k3 k4;go_wp2;go_ret2;exact HD.o _ HB.o.2.1
def Q6{inn:Nat->Bool}{kn:an}{x y x' y':H}(h:Value.agg (aT inn kn x y)=.agg (aT inn kn x' y')):x=x'/\y=y':=by injection h with h;have b:=bH (λa:Array H=>a[18]?) h;have c:=bH (λa:Array H=>a[19]?) h;simp only[FQ,FP,ud]at b c;exact⟨b,c⟩
section
variable{w w':D}{L:eY}{m:aG}
def Gx(m:aG)(X:D)(r:H)(X':D):Prop:=∃a b,r=.agg (aT m.inn m.kn a b)/\eV X' X.heap.size a (cq m)/\iK X' X.heap.size b (ec m)
def Zu(m:aG):(ec m).length=m.gr.length:=by unfold ec;rw[List.length_mergeSort,j3]
def tC(p:z×Int×aG):H:=.tuple #[.agg (aj p.1),Z p.2.1]
def Yn(h:bI w L m)(y:m.ok)(hT:dr w)(hN:gG m.kn<=900000)(hk:k<6){a:dT}(ha:a.ok):
  Calls prog 265 #[N L.b,Z ((k:Int)+1),.agg (bE a)] w λr w'=>r=.returned (tC (bB m k a))/\bI w' L (bB m k a).2.2/\aa L.mem w w':=by
 have D0:S w ((w.alloc (.cells (bE a) 55)).alloc (.cells (aj z.zero) 64)):=((aq _ _).alloc aQ _).alloc aQ _;have B0:ax ((w.alloc (.cells (bE a) 55)).alloc (.cells (aj z.zero) 64)) [(w.heap.size+1,64,aj z.zero),(w.heap.size,55,bE a)]:=(ax.nil.push (g:=w.heap.size) O).push (g:=w.heap.size+1) ah;have HL:=h.lt;obtain⟨G,T⟩:=cJ ((w.alloc (.cells (bE a) 55)).alloc (.cells (aj z.zero) 64));rw[<-T]at D0 B0;have HW:=U T;have e:=U (ar h (ar y (ar hT (ar ha (ar B0 (ar D0 HL))))));have HF:=U (λ(X:D) (c:aa bC G X)=>ar (B0.call c.no).rules (ar (B0.call c.no).lts (uW (B0.call c.no).drop.head)));have CS:=U (λ(X:D) (c:aa bC G X)=>Ae (h.call (D0.trans (c.no.mono D0.size))) y hN);have ζ:=y.gl;have HG:=U (show(ec m).length<=1000000 from by rw[Zu];omega);clear h y hT ha B0 D0 T ζ HL hN;go_in;go_wp2_with fail;refine dI HW.o ?_;clear HW;refine dL [] bC 10 (λ_ h=>h.elim) Y Y ?_;refine gx HF.o ?_;refine pn (λ_=>rfl) (eJ O) 51 (λ_=>#[N L.b]) (λp:H×H=>.agg (aT m.inn m.kn p.1 p.2)) (.nilFunc,.nilFunc) (Gx m) cK (λ_ X c=>?cs) ?_
 case cs=>refine(CS.o X c).mono ?_;rintro r X' ⟨vN,vG,rfl,h1,h2,h3⟩;exact⟨(vN,vG),O,⟨vN,vG,O,h1,h2⟩,h3⟩
 simp only[aD]
 iterate 2 refine gx HF.o ?_
 refine Lc (λ_=>rfl) (eJ O) 1 ai (o3 O) 285 (λu=>#[.agg (aT m.inn m.kn u.2.1 u.2.2),Z ((k:Int)+1),.agg (bE a)]) (.tuple #[.bool (gA (ec m) ((k:Int)+1) a).1,Z (gA (ec m) ((k:Int)+1) a).2]) cK (λu=>.agg (aT m.inn m.kn u.2.1 u.2.2)) _ cD (λu X c hR=>?ca) ?_
 case ca=>simp only[d8,Nat.reduceAdd,cA]at hR;obtain⟨w1,w2,-,g2,⟨vN,vG,hv,h1,h2⟩,g4⟩:∃w1 w2,(1=10->S G w1)/\aa bC G w1/\Gx m w1 (.agg (aT m.inn m.kn u.2.1 u.2.2)) w2/\fB [] (λk=>1≠10/\bC k) G.heap.size w2 X:=hR;obtain⟨rfl,rfl⟩:=Q6 hv;have d:=g4.below λ_ h=>h.2;obtain⟨A1,c1,e1,-,-⟩:=h1.sl;exact U0 ⟨_,_,_,e1⟩ (Row.call h2 d) HG.o _ a
 simp only[aD]
 iterate 5 refine gx HF.o ?_
 refine cT Y ?_;rintro⟨_,p⟩ W1 t-;have t:S G W1:=t;have B1:=e.o.2.2.2.2.1.call t;have D1:=e.o.2.2.2.2.2.1.trans (t.mono e.o.2.2.2.2.2.1.size);have L1:=e.o.1.call D1;have T1:=e.o.2.2.1.call D1 e.o.2.2.1.lt.1 e.o.2.2.1.lt.2;have C:=cQ B1 D1 L1 T1;have σ:=gj B1.head;have τ:=jG B1.head O z.zero;have υ:=uW B1.drop.head;have η:=U (λg=>L1.fr (fl W1 (w.heap.size+1) (aj z.zero)) g);have ε:=aB (dt B1.head (aj z.zero)) (Below.rowN D1 (g:=w.heap.size+1) V (aj z.zero));have nL:¬L.mem (w.heap.size+1):=λy=>aA (e.o.2.2.2.2.2.2 _ y);have HN:=U nL;have CM:=U (Xx L1 e.o.2.1 T1 hk e.o.2.2.2.1);have HQ:=U (show bB m k a=if(gA (ec m) ((k:Int)+1) a).1 then(z.zero,(gA (ec m) ((k:Int)+1) a).2,m)else if(ev m (dn m k a)).1=0 then(dn m k a,0,(cU m (dn m k a)).2)else(z.zero,(ev m (dn m k a)).1,m)from O);generalize gA (ec m) ((k:Int)+1) a=ag at HQ⊢;obtain⟨g1,g2⟩:=ag;clear t HF CS HG B1 D1 L1 T1 nL;cases g1 with
 |true=>go_wp2_with fail;refine kA (s:=6) (u:=7) results265 O O ε.o.1 underlying64 O (iQ _) O ?_;have J:=HQ.o;rw[av ah]at J;rw[J];exact⟨O,η.o HN.o,aa.of_below ε.o.2⟩
 |false=>
  go_wp2_with fail;apply CM.o.mono;rintro r l ⟨rfl,d⟩;obtain⟨x,R⟩:=aM ((ev m (dn m k a)).1);have δ:=U (show bB m k a=if x=0 then(dn m k a,0,(cU m (dn m k a)).2)else(z.zero,x,m)from by rw[HQ.o,al ah,R]);have μ:=U (show x=0->(cU m (dn m k a)).1=0 from λhz=>by unfold cU;rw[av (by rw[R,hz])]);rw[show xl m k a=.tuple #[.agg (aj (if x=0 then dn m k a else z.zero)),Z x]from by unfold xl;rw[R]];have hE:=uC e.o.2.1 hk e.o.2.2.2.1;generalize dn m k a=E at*;obtain⟨X,hX⟩:=aM ((if x=0 then E else z.zero));rw[hX];have κ:=U hX;have B2:=C.o.1.call d;have D2:=C.o.2.1.trans (d.mono C.o.2.1.size);have B3:ax (l.alloc (.cells (aj z.zero) 64)) ((l.heap.size,64,aj z.zero)::_):=B2.push O;have ξ:=jG B3.head O X;have l2:=B2.lts;have B:=B3.row (by obtain⟨l2,l1,-⟩:=l2;refine⟨?_,?_,trivial⟩<;>omega) (aj X);have S4:S l ((l.alloc (.cells (aj z.zero) 64)).setRow l.heap.size (aj X)):=Below.rowN ((aq l.heap.size l).alloc (ao _) _) (ao _) _;have S1:=d.trans (S4.mono d.size);have K:=C.o.2.2.1.call S1;have T4:=C.o.2.2.2.call S1 C.o.2.2.2.lt.1 C.o.2.2.2.lt.2;have D4:=C.o.2.1.trans (S1.mono C.o.2.1.size);obtain⟨Q,j⟩:=cJ ((l.alloc (.cells (aj z.zero) 64)).setRow l.heap.size (aj X));rw[<-j]at B K T4 D4;have P:=U j;have H4:=cQ B K T4 D4;by_cases hz:x=0
  ·subst hz;obtain rfl:E=X:=az κ.o;have ni:kC L.mem [(l.heap.size,64,aj E),(w.heap.size+1,64,aj z.zero),(w.heap.size,55,bE a)]:=⟨λy=>aA (e.o.2.2.2.2.2.2 _ y),HN.o,λy=>aA (e.o.2.2.2.2.2.2 _ y),trivial⟩;have ν:=U ni;have β:=U (λ(f:D) (c:aa L.mem Q f)=>ar (B.mod c ni).rules (ar (B.mod c ni).lts (gj (B.mod c ni).head)));have CA:=U (λ(f:D) (c:S Q f)=>Gs (K.call c) e.o.2.1 (T4.call c T4.lt.1 T4.lt.2) E hE);have ι:=K.lt;clear B2 D2 B3 l2 B S4 S1 K T4 D4 j d CM ni hX hE;go_wp2_with fail;generalize hg:(l.alloc _).setRow _ _=X4;obtain rfl:Q=X4:=P.o.trans hg;clear P hg;refine mX 4 [] L.mem 3 ι Y ah aS Y aS Y ?_;simp only[cR]
   iterate 3 refine gx β.o ?_
   refine jl (λ_=>rfl) O 118 (λ_=>#[N L.b,.agg (aj E)]) (λ_:Unit=>Z (cU m E).1) () (λf r Y'=>bI Y' L (cU m E).2) cK (λ_ f c=>?ca2) ?_
   case ca2=>refine(CA.o f c).mono ?_;rintro r Y' ⟨rfl,h1,h2⟩;exact⟨(),O,h1,h2⟩
   simp only[aD];refine cT Y ?_;rintro⟨_,p⟩ W5 hC hR;simp only[d8,Nat.reduceAdd,cA]at hR;have hC:aa L.mem Q W5:=hC;obtain⟨w1,w2,-,-,g3,g4⟩:=fK (hR 3 _ _ cD) O;have L5:=g3.call (g4.below λ_ h=>h.1 O);have B5:=H4.o.1.mod hC ν.o;have M5:aa L.mem w W5:=(aa.of_below H4.o.2.2.2).trans hC;have π:=jG B5.drop.head O E;have HX:=aP (dt B5.drop.head (aj E)) (L5.fr (fl W5 (w.heap.size+1) (aj E)) HN.o) (M5.trans' (aa.of_fr1 (F:=aR (w.heap.size+1)) (fl W5 (w.heap.size+1) (aj E)) O) λk hk he=>by have he:k=w.heap.size+1:=he;omega);clear hC hR g3 g4 L5 B5 M5 β;go_wp2_with fail;refine kA (s:=6) (u:=7) results265 O O HX.o.1 underlying64 O (iQ _) O ?_;have J:=δ.o;rw[av ah]at J;rw[J];refine⟨?_,HX.o.2⟩;show Ending.returned (.tuple #[.agg (aj E),Z (cU m E).1])=_;rw[μ.o ah];rfl
  have φ:(x !=0)=true:=az hz;have α:=gj B.drop.head;have γ:=jG B.drop.head O z.zero;have HX:=aP (dt B.drop.head (aj z.zero)) (K.fr (fl Q (w.heap.size+1) (aj z.zero)) HN.o) (Below.rowN D4 (g:=w.heap.size+1) V (aj z.zero));have J:=δ.o;rw[al hz]at J;have θ:=U J;rw[j]at α γ;clear B2 D2 B3 l2 B S4 S1 K T4 D4 j d CM hX hE hz J;go_wp2_with fail;rw[<-P.o];refine kA (s:=6) (u:=7) results265 O O HX.o.1 underlying64 O (iQ _) O ?_;rw[θ.o];exact⟨O,HX.o.2.1,aa.of_below HX.o.2.2⟩
end
def Bi(x y a u:H):Sem Next:=do pure (.value (<-Instr.build 55 #[(0,x),(1,y),(2,a),(3,u)]))
def Bj(x:H):Sem Next:=do pure (.value (<-Instr.build 55 #[(0,x)]))
section
variable(ρ:aO->H)(dst:Option Tmp)(x y aeU u:aO)(ty:ay)(pos:String)(after:Array Edge)(guard:Option (Nat×Bool))
@[go_sem ↓ high] def abL:=@mr 355
@[go_sem ↓ high] def aa6:=@lz 355
@[go_sem ↓ high] theorem abG:execOp ρ {dst,op:=.build 55 #[(0,x),(1,y),(2,aeU),(3,u)],type:=ty,pos,after,guard}=Bi (ρ x) (ρ y) (ρ aeU) (ρ u):=by simp[execOp,Bi]
@[go_sem ↓ high] theorem abH:execOp ρ {dst,op:=.build 55 #[(0,x)],type:=ty,pos,after,guard}=Bj (ρ x):=by simp[execOp,Bj]
end
@[go_sem] theorem acZ(k n t a:Int)(w:D):(Bi (.int .u8 k) (q n) (Z t) (Z a)).run prog w=.ok (.value (.agg (bE ⟨k,n,t,a,0,0⟩))) w:=Y
@[go_sem] theorem ac0(k:Int)(w:D):(Bj (.int .u8 k)).run prog w=.ok (.value (.agg (bE ⟨k,0,0,0,0,0⟩))) w:=Y
@[go_sem] theorem acw(x:dT)(w:D):(ke 355 (.agg (bE x))).run prog w=.ok (.value (bh w.heap.size 1 1)) (w.alloc (.cells (bE x) 55)):=Y
