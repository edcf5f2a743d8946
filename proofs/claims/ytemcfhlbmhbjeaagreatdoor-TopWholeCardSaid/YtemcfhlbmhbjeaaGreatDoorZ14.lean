import Derived.Test.YtemcfhlbmhbjeaaGreatDoorZ12
set_option maxRecDepth 100000
set_option maxHeartbeats 0
set_option linter.all false
namespace Go.Proofs.YtemcfhlbmhbjeaaGreatDoor
open Go.Proofs.Tryz
variable{w w' w1 W:D}{A:Option Addr}{l m:List Int}{c a k base d g p o B n:Nat}{F:Nat->Prop}{v:H}{t T:ay}{cs:Array H}{R:List (List Int)}
open Go Go.RowKit
section
variable(ρ:aO->H)(dst:Option Tmp)(x y:aO)(ty:ay)(pos:String)(after:Array Edge)(guard:Option (Nat×Bool))
@[go_sem ↓] theorem aaI:execOp ρ {dst,op:=.buildSlice 150 0 #[],type:=ty,pos,after,guard}=oJ 150:=yJ ..
end
@[go_sem] theorem ab9(w:D):(oJ 150).run prog w=.ok (.value (bh w.heap.size 0 0)) (w.alloc (.cells #[] 5)):=Y
structure bM(w:D)(A:Option Addr)(l:List Int)(c:Nat):Prop where
 blk:l≠[]->∃b o cs,A=some (I b o)/\M w b 5 cs/\∀i x,l[i]? =some x->cs[o+i]? =some (.int .u8 x)
 le:l.length<=c
 max:c<=maxLen
 by_:∀x∈l,0<=x/\x<=255
section
variable{w w':D}{A:Option Addr}{l:List Int}{c:Nat}
def bM.rows(h:bM w A l c):kD w w.heap.size A l:=λj=>by obtain⟨b,o,cs,e,f,s⟩:=h.blk j;exact⟨b,o,e,f.lt,λi x r=>by rw[f.cell];exact s i x r⟩
def bM.blks(h:bM w A l c)(i:∀b o cs,A=some (I b o)->l≠[]->M w b 5 cs->M w' b 5 cs):bM w' A l c:=⟨λf=>by obtain⟨b,o,cs,e,r,j⟩:=h.blk f;exact⟨b,o,cs,e,i b o cs e f r,j⟩,h.le,h.max,h.by_⟩
def bM.call(h:bM w A l c)(b:S w w'):bM w' A l c:=h.blks λ_ _ _ _ _ h=>h.call b
def bM.own(h:w.ownsRow base 5 1 v l.length (dD l))(f:∀x∈l,0<=x/\x<=255):∃A c,v=.slice A l.length c/\bM w A l c:=by
 have G:=h;rcases h.2 with⟨rfl,E⟩|⟨g,e,b,rfl,J,y,C,s,L,u⟩;obtain rfl:l=[]:=lR E;exact⟨none,0,O,λh=>absurd O h,ao _,ai,f⟩;refine⟨_,e,O,λ_=>⟨g,0,b,O,y,λi x r=>?_⟩,C,s,f⟩;have K:=(fN.1 r).1;have j:(dD l)[i]? =some (.int .u8 x):=by unfold dD;rw[nX,r];rfl
 rw[<-u,kw,av V,i5]at j;rw[cA];exact j
def bM.nil(w:D):bM w none [] 0:=⟨λh=>absurd O h,ao _,ai,ah⟩
def bM.kt{b:List ay}(h:bM w A l c)(k:iO base b w w')(e:5∉b):bM w' A l c:=h.blks λ_ _ _ _ _ h=>k.blk _ _ _ h e
def bM.mod(h:bM w A l c)(m:aa F w w')(hF:∀b o,A=some (I b o)->l≠[]->¬F b):bM w' A l c:=h.blks λb o _ e f i=>m.blk i (hF b o e f)
def bM.off(h:bM w A l c)(y:M w g t cs)(x:t≠5):∀b o,A=some (I b o)->l≠[]->¬aR g b:=λb o e s i=>by have i:b=g:=i;subst i;obtain⟨E,C,u,f,j,G⟩:=h.blk s;rw[e]at f;injection f with f;injection f with r J;subst r;exact x (y.type_eq j).1
def bM.set(h:bM w A l c)(i:Nat)(u:H)(e:∀b o,A=some (I b o)->l≠[]->¬aR p b):bM (w.setCell (I p i) u) A l c:=h.mod (aa.set (F:=aR p) (I p i) O u) e
end
def tj(h:bM w A l c)(E:l.length<=100000000):Calls prog 107 #[.slice A l.length c] w (te l w):=by
 have u:=U h;have G:=h.le;have y:∀(w:D) (a:Option Addr) (n c i r:Nat),(binOp .eql 150 (.slice a n c) (.slice none i r)).run prog w=.ok (.bool a.isNone) w:=λw a n c i r=>Lib.run_eql_slice_nil w _ 5 a n c i r underlying150;clear h;go_in;cases A with
 |none=>
  have x:l=[]:=Cx λj=>by obtain⟨b,o,e,-⟩:=u.o.rows j;cases e
  subst x;go_wp2;go_ret;exact⟨_,O,sK _ _ _ _,aq _ _⟩
 |some a=>go_wp2_with (at_builtin;go_loud (refine ql _ O (.tmp 5) (.tmp 6) O w.heap.size _ [] l O ?h1 (some a) c w.heap.size O ?h2 ?h3 ?h4 ?_;(case h1=>exact t6 w _ 0 (ao _) ai O);(case h2=>exact u.o.rows.below ((aq _ _).alloc (ao _) _));(case h3=>simp;omega);(case h4=>simp);intro C w1 f s));rw[ju]at f;go_ret;exact⟨_,O,f,((aq _ _).alloc (ao _) _).trans s⟩
def zy(n:Int)(s:0<=n)(r:n<=4294967295)(w:D):Calls prog 152 #[.int .u32 n] w (te (bT n 4) w):=by have C:Calls prog 162 #[.slice none 0 0,q n,Z 4] w (uH ([]++bT n 4) 0 w):=Wf none 0 [] w.heap.size n w (λh=>absurd O h) (ao _) ah ai ah s r;rw[ju]at C;replace C:=U C;go_in;go_wp2_with fail;apply C.o.mono;rintro e w1 ⟨u,rfl,b,f⟩;obtain⟨A,c,rfl,-⟩:=dS b;have j:=aB b f;clear b f C;go_wp2;go_ret;exact⟨_,O,j.o.1,j.o.2⟩
def uq(n:Int)(k:Nat):∀x∈bT n k,0<=x/\x<=255:=λx b=>uh n x (rj b)
structure aV where
 A:Option Addr
 l:List Int
 c:Nat
def nA(x:aV):Array H:=#[.slice x.A x.l.length x.c]
def zb(x:aV):(nA x).size=1:=rfl
def MY(x:aV):∀u∈(nA x).toList,u.oneCell'=true:=by intro u b;simp[nA]at b;subst b;rfl
abbrev jL(w:D)(base:Nat)(v:H)(R:List aV):Prop:=Row w base 150 1 nA v R
def Vg:(prog.info? 150).map (λi=>(i.zero,i.size,i.bytes))=some (some (.slice none 0 0),1,24):=Y
def jL.app{cap:Nat}(ty:ay){L aeL:List aV}(h:jL w base v L)(s:dK w B 1 A aeL.length (cZ nA aeL))(y:L.length+aeL.length<=1000000)(e:base<=w.heap.size):
  ∃f w',(iU 172 ty v (.slice A aeL.length cap)).run prog w=.ok (.value f) w'/\jL w' base f (L++aeL)/\iO base [150] w w'/\w.grownBy w' v.ownBlock/\(f.ownBlock=v.ownBlock\/∀b,f.ownBlock=some b->w.heap.size<=b):=by
 obtain⟨i,x,j,r,u⟩:=i7 Vg;exact Row.app w 172 ty i _ 24 underlying172 x j r u O ai zb MY h (cap:=cap) s y ai e
@[go_sem ↓ high] def acl:=@mr 172
@[go_sem ↓ high] def ab3:=@lz 172
@[go_sem] theorem KS(x:aV)(w:D):(ke 172 (.slice x.A x.l.length x.c)).run prog w=.ok (.value (bh w.heap.size 1 1)) (w.alloc (.cells (nA x) 150)):=Y
def lu(w:D)(R:List aV):Prop:=∀x∈R,bM w x.A x.l x.c
def lu.call{R:List aV}(h:lu w R)(e:S w w'):lu w' R:=λx b=>(h x b).call e
def jL.at_{R:List aV}(h:jL w base (.slice A n c) R){y:aV}(j:R[k]? =some y):∃g,A=some (I g 0)/\g<w.heap.size/\w.cell? (I g k)=some (.slice y.A y.l.length y.c):=by
 have x:=(fN.1 j).1;obtain⟨g,f,s,r,C,u,i⟩:=h.sl_pos V;rw[s]at h;have e:=h.rng zb j;obtain⟨rfl,-⟩:A=some (I g 0)/\c=f:=by injection s with a b c;exact⟨a,c⟩
 have:=e 0 _ O;rw[iP]at this;exact⟨g,O,i,this⟩
def jI(R:List aV):Nat:=(R.map λx=>8+x.l.length).sum
def Le{R:List aV}(h:∀x∈R,x.l.length<=4096):jI R<=R.length*4104:=by
 induction R with
 |nil=>simp[jI]
 |cons x R ih=>have b:=ih λy e=>h y (dC _ e);have f:=h x cz;simp only[jI,cW,gy,dN]at b⊢;omega
def io(l:List Int):List Int:=bT l.length 4++(bT (gD (gD 0 (bT l.length 4)) l) 4++l)
def da(L:List (List Int)):List Int:=(L.map io).flatten
def iv(R:List aV):List (List Int):=R.map (·.l)
def od(L aeL:List (List Int)):da (L++aeL)=da L++da aeL:=by unfold da;rw[jh,List.flatten_append]
def ry(l:List Int):da [l]=io l:=by unfold da;simp
def sS(l:List Int):(io l).length=8+l.length:=by unfold io;rw[bW,bW];show 4+(4+_)=_;omega
def Db(R:List aV):(da (iv R)).length=jI R:=by
 induction R with
 |nil=>rfl
 |cons x R ih=>show(da (x.l::iv R)).length=_;rw[show x.l::iv R=[x.l]++iv R from rfl,od,ry,bW,ih,sS];unfold jI;rw[cW,gy]
def aaw{R:List aV}{y:aV}(b:R[k]? =some y):da (iv (R.take (k+1)))=da (iv (R.take k))++io y.l:=by rw[gP,b];unfold iv;rw[jh,od];congr 1;exact ry y.l
def NH(h:∀x∈l,0<=x/\x<=255):∀x∈io l,0<=x/\x<=255:=λx hx=>by unfold io at hx;rcases bP.1 hx with hx|hx;exact uq _ _ x hx;rcases bP.1 hx with hx|hx;exact uq _ _ x hx;exact h x hx
def Mt{L:List (List Int)}(h:∀l∈L,∀x∈l,0<=x/\x<=255):∀x∈da L,0<=x/\x<=255:=λx b=>by unfold da at b;obtain⟨a,e,b⟩:=List.mem_flatten.1 b;obtain⟨l,f,rfl⟩:=dY.1 e;exact NH (h l f) x b
def Yp{R:List aV}(h:jL w base v R)(hr:lu w R)(h4:∀x∈R,x.l.length<=4096)(hn:R.length<=1000):
  Calls prog 289 #[.slice none 0 0,v] w (uH (da (iv R)) 0 w):=by
 obtain⟨A,c,rfl,hc,hm⟩:=h.sl;have CC:=U (tj (bM.nil w) ah);have f:=aP h hr h4;have ι:c<=9223372036854775807:=hm;clear h hr h4;go_in;go_wp2_with fail;apply CC.o.mono;rintro r w1 ⟨u,rfl,hu,γ⟩;have HU:=aB hu γ;clear hu γ CC;obtain⟨A1,c1,rfl,-⟩:=dS HU.o.1;go_wp2;go_loopw [6,15] (λo i wr=>∃(k:Nat) (l:List Int),k<=R.length/\i=Z k/\wr.ownsRow w.heap.size 5 1 o l.length (dD l)/\l=da (iv (R.take k))/\S w wr) (λ_ i _=>R.length-(intOf i).toNat);exact⟨0,[],V,O,HU.o.1,O,HU.o.2⟩;obtain⟨k,l,hk,rfl,e,G,hb⟩:=hrel;obtain⟨Ao,co,rfl,-⟩:=dS e;have bl:=aP e G hb;have α:=Le (R:=R.take k) λx hx=>f.o.2.2 x (mM hx);rw[il]at α;have κ:l.length<=5000000:=by rw[G,Db];omega
 clear e G hb α;by_cases δ:k<R.length
 ·obtain⟨y,hy⟩:∃y,R[k]? =some y:=⟨R[k],bY δ⟩;have C:=Row.call f.o.1 bl.o.2.2;obtain⟨g,rfl,hg,η⟩:=jL.at_ C hy;have hB:=(f.o.2.1 y (cX hy)).call bl.o.2.2;have θ:=f.o.2.2 y (cX hy);have HY:=aB hy hB;have C1:=U (zy y.l.length V V wr);clear C hy hB;go_wp2_with fail;apply C1.o.mono;rintro r w2 ⟨u2,rfl,J,j⟩;obtain⟨A2,c2,rfl,-⟩:=dS J;have D2:=bl.o.2.2.trans (j.mono bl.o.2.2.size);have R2:=sR bl.o.1 j;obtain⟨As,cs,β,P⟩:=bM.own J (uq _ _);obtain⟨rfl,rfl⟩:A2=As/\c2=cs:=by injection β with a b c;exact⟨a,c⟩
  have Y2:=HY.o.2.call j;have C2:=U (BJ A2 c2 (bT y.l.length 4) w2 P.rows P.le P.max P.by_);have s:=cQ D2 R2 P Y2;have e4:(bT (y.l.length:Int) 4).length=4:=O;rw[e4]at C2;clear D2 R2 P Y2 J j β C1 η;go_wp2_with fail;apply C2.o.mono;rintro r w3 ⟨rfl,rfl⟩;have C3:=U (xH y.A y.c y.l (gD 0 (bT y.l.length 4)) w2 s.o.2.2.2.rows s.o.2.2.2.le s.o.2.2.2.max s.o.2.2.2.by_ (s6 _ _));clear C2;go_wp2_with fail;apply C3.o.mono;rintro r w3 ⟨rfl,rfl⟩;obtain⟨Q,E⟩:=aM (gD (gD 0 (bT y.l.length 4)) y.l);have mb:=s6 (gD 0 (bT y.l.length 4)) y.l;rw[E]at mb⊢;obtain⟨ζ,ε⟩:=mb;have C4:=U (zy Q ζ ε);have HM:=U E;clear C3 E;go_wp2_with (at_builtin;go_loud (refine ql _ O (.tmp 30) (.tmp 31) O w.heap.size _ l (bT y.l.length 4) O s.o.2.1 A2 c2 w2.heap.size O s.o.2.2.1.rows ?h3 ?h4 ?_;(case h3=>rw[e4];omega);(case h4=>exact s.o.1.size);intro v3 w3 R3 b3));apply(C4.o _).mono;rintro r w4 ⟨u4,rfl,X,L⟩;have R4:=sR R3 L;obtain⟨A4,c4,rfl,S4⟩:=bM.own X (uq _ _);have D4:=(s.o.1.trans b3).trans (L.mono (aZ s.o.1.size b3.size));have f4:(bT Q 4).length=4:=O;have YB:=(f.o.2.1 y (cX HY.o.1)).rows;have K:=cQ D4 R4 S4 YB;rw[f4];clear R4 S4 D4 YB X L R3 b3 C4;go_wp2_with (first|(at_builtin;go_loud (refine ql _ rfl (.tmp 32) (.tmp 34) rfl w.heap.size _ (l++bT y.l.length 4) (bT Q 4) rfl K.o.2.1 A4 c4 w4.heap.size rfl K.o.2.2.1.rows ?h3 ?h4 ?_;(case h3=>rw[f4,bW,e4];omega);(case h4=>exact K.o.1.size);intro v5 w5 R5 b5))|(at_builtin;go_loud (refine ql _ rfl (.tmp 35) (.tmp 36) rfl w.heap.size _ ((l++bT y.l.length 4)++bT Q 4) y.l rfl R5 y.A y.c w.heap.size rfl (K.o.2.2.2.below (K.o.1.trans b5)) ?h3 ?h4 ?_;(case h3=>rw[bW,bW,e4,f4];omega);(case h4=>exact(K.o.1.trans b5).size);intro v6 w6 R6 b6)));go_roundw
  ·refine⟨k+1,_,V,by go_num,R6,?_,(K.o.1.trans b5).trans b6⟩;rw[aaw HY.o.1,<-bl.o.2.1];unfold io;rw[HM.o,i6,i6]
  simp[intOf];omega
 obtain rfl:k=R.length:=V;go_wp2;go_ret2;have hl:=bl.o.2.1;rw[jt]at hl;rw[<-hl];exact⟨_,O,bl.o.1,bl.o.2.2⟩
def jH(l:List Int)(a:Nat):Int:=cy ((l.drop a).take 4)%4294967296
def ic(l:List Int)(a:Nat):Option (List Int):=
 if l.length<a+8 then none else if 4096<jH l a\/(l.length:Int)-(a+8:Nat)<jH l a then none
 else if gD (gD 0 (bT (jH l a) 4)) ((l.drop (a+8)).take (jH l a).toNat)=jH l (a+4)then some ((l.drop (a+8)).take (jH l a).toNat)else none
def wQ(h:a+8<=l.length)(b:(n:Int)=jH l a)(f:n<=4096)(e:n<=l.length-(a+8)):ic l a=if gD (gD 0 (bT n 4)) ((l.drop (a+8)).take n)=jH l (a+4)then some ((l.drop (a+8)).take n)else none:=by unfold ic;rw[al V,<-b,al V];simp
def Td(w:D)(p:Nat)(t:ay)(v:H)(l:List Int)(b:Nat)(r:Ending)(w':D):Prop:=
 (r=.returned (.tuple #[.int .u32 0,.bool false])/\l.length<b+4/\S w w')\/
 (∃x,r=.returned (.tuple #[.int .u32 x,.bool true])/\x=jH l b/\0<=x/\x<=4294967295/\b+4<=l.length/\M w' p t #[v,Z ((b+4:Nat):Int)]/\aa (aR p) w w')
def WH{f:Nat}(s:M w p t #[.slice A l.length c,Z (f:Int)])(L:bM w A l c)(ha:f<=l.length)(hl:l.length<=5000000):
  Calls prog 149 #[N p] w (Td w p t (.slice A l.length c) l f):=by
 have hc:=L.le;have C:=aB s L;have u:=U (λ(W:D) (h:S w W)=>ar (s.call h).rules (s.call h).lt);clear s L;go_in;by_cases G:f+4<=l.length
 ·obtain⟨b,o,rfl,J,r⟩:=C.o.2.rows (λh=>by rw[h]at G;simp at G);have y:=U (λ(W:D) (h:S w W)=>To b o c l f W (λi x hx=>(h.cell (p:=(I b (o+i))) J).trans (r i x hx)) hc C.o.2.max C.o.2.by_ G);obtain⟨n,P⟩:=aM (cy ((l.drop f).take 4));have HN:=U (show n%4294967296=jH l f from by unfold jH;rw[P]);rw[P]at y;clear P r;go_wp2_with fail;refine kW Y Y ?_
  iterate 8 refine fX u.o ?_
  refine oh (λ_=>rfl) 115 #[.slice (some (I b o)) l.length c,Z f,Z 4] _ cK (λw s=>(y.o w s).mono (by rintro e w2 ⟨rfl,rfl⟩;exact⟨O,aq _ _⟩)) ?_;simp only[aD]
  iterate 7 refine fX u.o ?_
  refine dg ?_;intro _ Q j;have E:=aB ((C.o.1.call j).set_ 1 (Z ((f+4:Nat):Int))) ((aa.of_below (F:=aR p) j).setOld (I p 1) (.inl O) (Z ((f+4:Nat):Int)));obtain⟨⟨q0,f0⟩,l0⟩:=u.o Q j;have K:=K3 n;rw[IntKind.wrap_u32]at K;have X:=U K;clear y u j K;go_wp2;go_ret2;exact .inr ⟨_,O,HN.o,X.o.1,X.o.2,G,az E.o.1,E.o.2⟩
 have y:=U (λ(W:D)=>ZN A l.length c f W hc C.o.2.max V ha);go_wp2_with fail;refine kW Y Y ?_
 iterate 8 refine fX u.o ?_
 refine oh (λ_=>rfl) 115 #[.slice A l.length c,Z f,Z 4] _ cK (λw s=>(y.o w).mono (by rintro e w2 ⟨rfl,rfl⟩;exact⟨O,aq _ _⟩)) ?_;simp only[aD]
 iterate 7 refine fX u.o ?_
 refine dg ?_;intro _ Q j;have E:=U j;clear y u j;go_wp2;go_ret2;exact .inl ⟨O,V,E.o⟩
def Gu{e:Nat}(u:M w p t #[.slice A l.length c,Z (e:Int)])(J:bM w A l c)(s:e<=l.length)(C:l.length<=5000000):
  Calls prog 149 #[N p] w λr w'=>∃(b:Bool) (n a:Nat),r=.returned (.tuple #[.int .u32 (n:Int),.bool b])/\n<=4294967295/\a<=l.length/\((b=true->a=e+4/\(n:Int)=jH l e)/\(b=false->l.length<e+4))/\M w' p t #[.slice A l.length c,Z (a:Int)]/\aa (aR p) w w':=
 (WH u J s C).mono λr w' h=>by rcases h with⟨f,j,i⟩|⟨x,f,K,j,i,E,G,y⟩;exact⟨false,0,e,f,V,s,⟨ah,λ_=>j⟩,u.call i,aa.of_below i⟩;obtain⟨n,rfl⟩:∃n:Nat,x=n:=⟨x.toNat,V⟩;exact⟨true,n,e+4,f,V,E,⟨λ_=>⟨O,K⟩,ah⟩,G,y⟩
def Uk{a x:Int}(h:(#[v,Z a]:Array H)[o]? =some (.int .u8 x))(b:∀x,v≠ .int .u8 x:=by intro x h;cases h):False:=by
 match o,h with
 |0,h=>exact b x (eZ h)
 |1,h=>cases h
 |n+2,h=>simp at h
def FK(w:D)(p:Nat)(t:ay)(v:H)(b:List Int)(e:Nat)(r:Ending)(w':D):Prop:=
 (r=.returned (.tuple #[.slice none 0 0,.bool false])/\ic b e=none/\S w w')\/
 (∃u l,r=.returned (.tuple #[u,.bool true])/\ic b e=some l/\w'.ownsRow w.heap.size 5 1 u l.length (dD l)/\l.length<=4096/\(∀x∈l,0<=x/\x<=255)/\e+8+l.length<=b.length/\M w' p t #[v,Z ((e+8+l.length:Nat):Int)]/\aa (aR p) w w')
def RS{L:Nat}(hb:M w p t #[.slice A l.length c,Z (L:Int)])(hs:bM w A l c)(ha:L<=l.length)(hl:l.length<=5000000):
  Calls prog 133 #[N p] w (FK w p t (.slice A l.length c) l L):=by
 have hc:=hs.le;have υ:c<=9223372036854775807:=hs.max;obtain⟨q0,f0⟩:=hb.rules;have l0:=hb.lt;have HH:=aB hb hs;clear hb hs;go_in;go_wp2_with fail;have D0:S w (w.alloc (.cells #[.slice A l.length c,Z (L:Int)] 277)):=(aq _ _).alloc (ao _) _;apply(Gu (M.new _ _ _) (HH.o.2.call D0) ha hl).mono;rintro r w1 ⟨b1,f,a1,rfl,σ,ν,θ,ζ,M1⟩;have M1:=(aa.of_below (F:=aR w.heap.size) D0).trans M1;go_wp2_with fail;refine(Gu ζ (HH.o.2.call (M1.below λk hk e=>by rw[show k=w.heap.size from e]at hk;omega)) ν hl).mono ?_;rintro r w2 ⟨b2,n2,j,rfl,φ,μ,ι,δ,M2⟩;have M2:=M1.trans M2;have D2:=M2.below λk hk e=>by rw[show k=w.heap.size from e]at hk;omega
 obtain⟨q1,f1⟩:=δ.rules;have y:=cQ D2 δ θ ι;clear M1 M2 ζ D0 D2 δ θ ι q0 f0;cases b1 with
 |false=>go_wp2;go_ret2;exact .inl ⟨O,by unfold ic;rw[av (aA (y.o.2.2.1.2 ah))],y.o.1⟩
 |true=>
  cases b2 with
  |false=>go_wp2;go_ret2;exact .inl ⟨O,by unfold ic;rw[av (by have:=(y.o.2.2.1.1 ah).1;have:=y.o.2.2.2.2 ah;omega)],y.o.1⟩
  |true=>
   have K:=U (show j=L+8 by have:=(y.o.2.2.1.1 ah).1;have:=(y.o.2.2.2.1 ah).1;omega);have HN:=aB (y.o.2.2.1.1 ah).2 (show(n2:Int)=jH l (L+4)from by have h:=(y.o.2.2.2.1 ah).2;rwa[(y.o.2.2.1.1 ah).1]at h);have h8:8<=j:=aA K.o;obtain⟨b,o,cs,rfl,X,ε⟩:=HH.o.2.blk (λh=>by rw[h]at μ;simp at μ;omega);have HP:=U (show b≠p from λhp=>by subst hp;obtain⟨-,rfl⟩:=HH.o.1.type_eq X;exact Uk (ε 0 (l[0]' V) (bY V)));have HC:=aB X ε;clear X ε;by_cases h4:f<=4096
   ·by_cases h5:f<=l.length-j
    ·have π:¬4096<f:=V;have ξ:¬((l.length:Int)-j<f):=V;by_cases η:c=j
     ·obtain rfl:f=0:=V;have τ:=U η;subst η;have u:=U (show bM w2 (some (I b o)) [] 0/\([]:List Int).length=0 from⟨⟨λh=>absurd O h,ao _,ai,ah⟩,O⟩);have C1:=U (zy (0:Int) V V w2);go_wp2_with fail;apply C1.o.mono;rintro r w3 ⟨u3,rfl,α,s⟩;obtain⟨A3,c3,rfl,Q⟩:=bM.own α (uq _ _);have C2:=U (BJ A3 c3 (bT 0 4) w3 Q.rows Q.le Q.max Q.by_);have e4:(bT (0:Int) 4).length=4:=O;rw[e4]at C2⊢;have S4:=u.o.1.call s;have B3:=y.o.2.1.call s;have P3:=(HH.o.1.call y.o.1).call s;have D3:=y.o.1.trans (s.mono y.o.1.size);obtain⟨q3,f3⟩:=B3.rules;have C:=aP S4 P3 D3;clear α s Q C1 S4 B3 P3 D3 q1 f1;go_wp2_with fail;apply C2.o.mono;rintro r w4 ⟨rfl,rfl⟩;have C3:=U (xH (some (I b o)) 0 [] (gD 0 (bT 0 4)) w3 C.o.1.rows C.o.1.le C.o.1.max C.o.1.by_ (s6 _ _));rw[u.o.2]at C3;clear C2;go_wp2_with fail;apply C3.o.mono;rintro r w4 ⟨rfl,rfl⟩;obtain⟨m',J⟩:=aM (gD (gD 0 (bT 0 4)) []);obtain⟨m0,m1⟩:=s6 (gD 0 (bT 0 4)) [];rw[J]at m0 m1⊢;have HM:=U J;clear C3 J;by_cases G:m'=(n2:Int)
      ·subst G;clear m0 m1;obtain⟨q4,f4⟩:=C.o.2.1.rules;have P5:=C.o.2.1.set_ 1 (Z ((c:Nat):Int));have P:=(aa.of_below (F:=aR p) C.o.2.2).setOld (I p 1) (.inl O) (Z ((c:Nat):Int));have S5:bM (w3.setCell (I p 1) (Z ((c:Nat):Int))) (some (I b o)) [] 0:=C.o.1.set _ _ (λb' o' e _ h=>by injection e with e;injection e with e1 e2;exact HP.o (e1.trans h));have HZ:=aP S5 P5 P;have C5:=U (tj S5 (by rw[u.o.2];omega));rw[u.o.2]at C5;clear P5 P S5;go_wp2_with fail;apply C5.o.mono;rintro r w6 ⟨u6,rfl,E,β⟩;obtain⟨A6,c6,rfl,-⟩:=dS E;rw[u.o.2]at E;have HU:=aB E β;clear E β C5;go_wp2;go_ret2;refine .inr ⟨_,[],O,by rw[wQ (n:=0) (aA K.o) HN.o.1 V V,vQ,show((0:Nat):Int)=0 from rfl,av (HM.o.trans HN.o.2)],?_,?_,u.o.1.by_,?_,?_,HZ.o.2.2.call HU.o.2⟩;rw[u.o.2];exact kB HU.o.1 HZ.o.2.2.size;rw[u.o.2];exact h4;rw[u.o.2,<-K.o];omega;have:=HZ.o.2.1.call HU.o.2;rw[u.o.2,<-K.o];simpa using this
      have κ:¬(n2:Int)=m':=λh=>G h.symm;go_wp2;go_ret2;exact .inl ⟨O,by rw[wQ (n:=0) (aA K.o) HN.o.1 V V,vQ,show((0:Nat):Int)=0 from rfl,al λh=>G (HM.o.symm.trans (h.trans HN.o.2.symm))],C.o.2.2⟩
     have u:=U (show bM w2 (some (I b (o+j))) ((l.drop j).take f) (c-j)/\((l.drop j).take f).length=f from by
      have γ:((l.drop j).take f).length=f:=by rw[il,kx];omega
      refine⟨⟨λ_=>⟨b,o+j,cs,O,HC.o.1.call y.o.1,λi x hx=>?_⟩,by rw[γ];omega,aA HH.o.2.max,λx hx=>HH.o.2.by_ x (rj (mM hx))⟩,γ⟩;have hi:i<f:=aA ((fN.1 hx).1);rw[kw,av hi,ob]at hx;rw[gQ];exact HC.o.2 _ x hx)
     have C1:=U (zy (f:Int) V V w2);go_wp2_with fail;apply C1.o.mono;rintro r w3 ⟨u3,rfl,α,s⟩;obtain⟨A3,c3,rfl,Q⟩:=bM.own α (uq _ _);have C2:=U (BJ A3 c3 (bT f 4) w3 Q.rows Q.le Q.max Q.by_);have e4:(bT (f:Int) 4).length=4:=O;rw[e4]at C2⊢;have S4:=u.o.1.call s;have B3:=y.o.2.1.call s;have P3:=(HH.o.1.call y.o.1).call s;have D3:=y.o.1.trans (s.mono y.o.1.size);obtain⟨q3,f3⟩:=B3.rules;have C:=aP S4 P3 D3;clear α s Q C1 S4 B3 P3 D3 q1 f1;go_wp2_with fail;apply C2.o.mono;rintro r w4 ⟨rfl,rfl⟩;have C3:=U (xH (some (I b (o+j))) (c-j) ((l.drop j).take f) (gD 0 (bT f 4)) w3 C.o.1.rows C.o.1.le C.o.1.max C.o.1.by_ (s6 _ _));rw[u.o.2]at C3;clear C2;go_wp2_with fail;apply C3.o.mono;rintro r w4 ⟨rfl,rfl⟩;obtain⟨m',J⟩:=aM (gD (gD 0 (bT f 4)) ((l.drop j).take f));obtain⟨m0,m1⟩:=s6 (gD 0 (bT f 4)) ((l.drop j).take f);rw[J]at m0 m1⊢;have HM:=U J;clear C3 J;by_cases G:m'=(n2:Int)
     ·subst G;clear m0 m1;obtain⟨q4,f4⟩:=C.o.2.1.rules;have P5:=C.o.2.1.set_ 1 (Z ((j+f:Nat):Int));have P:=(aa.of_below (F:=aR p) C.o.2.2).setOld (I p 1) (.inl O) (Z ((j+f:Nat):Int));have S5:bM (w3.setCell (I p 1) (Z ((j+f:Nat):Int))) (some (I b (o+j))) ((l.drop j).take f) (c-j):=C.o.1.set _ _ (λb' o' e _ h=>by injection e with e;injection e with e1 e2;exact HP.o (e1.trans h));have HZ:=aP S5 P5 P;have C5:=U (tj S5 (by rw[u.o.2];omega));rw[u.o.2]at C5;clear P5 P S5;go_wp2_with fail;apply C5.o.mono;rintro r w6 ⟨u6,rfl,E,β⟩;obtain⟨A6,c6,rfl,-⟩:=dS E;rw[u.o.2]at E;have HU:=aB E β;clear E β C5;go_wp2;go_ret2;refine .inr ⟨_,((l.drop j).take f),O,by rw[wQ (aA K.o) HN.o.1 h4 (aA K.o),<-K.o,av (HM.o.trans HN.o.2)],?_,?_,u.o.1.by_,?_,?_,HZ.o.2.2.call HU.o.2⟩;rw[u.o.2];exact kB HU.o.1 HZ.o.2.2.size;rw[u.o.2];exact h4;rw[u.o.2,<-K.o];omega;have:=HZ.o.2.1.call HU.o.2;rw[u.o.2,<-K.o];simpa using this
     have κ:¬(n2:Int)=m':=λh=>G h.symm;go_wp2;go_ret2;exact .inl ⟨O,by rw[wQ (aA K.o) HN.o.1 h4 (aA K.o),<-K.o,al λh=>G (HM.o.symm.trans (h.trans HN.o.2.symm))],C.o.2.2⟩
    have ξ:(l.length:Int)-j<f:=V;go_wp2;go_ret2;exact .inl ⟨O,by unfold ic;rw[<-HN.o.1,av (c:=_\/_) (aA K.o)];simp,y.o.1⟩
   have π:4096<f:=V;go_wp2;go_ret2;exact .inl ⟨O,by unfold ic;rw[<-HN.o.1,av (c:=_\/_) V];simp,y.o.1⟩
def aa.belowC(a:aa F w w')(e:B<=w.heap.size)(h:∀k,k<B->¬F k):Below B w w':=⟨a.os,a.tape,a.output,a.size,λk b=>a.block k (ee b e) (h k b)⟩
abbrev tE(w:D)(g:Nat)(v:H)(a:Nat):Prop:=M w g 279 #[v,Z (a:Int)]
def WF(e:bM w A l c)(E:l.length<=5000000):
  Calls prog 108 #[.slice A l.length c] w λr w'=>∃g x h,r=.returned (N g)/\w.heap.size<=g/\tE w' g (.slice x l.length h) 0/\bM w' x l h/\S w w':=by
 have s:=U (tj e V);replace e:=U e;go_in;go_wp2_with fail;apply s.o.mono;rintro r w1 ⟨u,rfl,i,j⟩;obtain⟨C,G,rfl,f⟩:=bM.own i e.o.by_;have b:=aB f j;clear i f j s;go_wp2;go_ret;refine⟨_,_,_,O,b.o.2.size,M.new _ _ _,b.o.1.call ((aq _ _).alloc (ao _) _),b.o.2.alloc b.o.2.size _⟩
def U1(e:tE w g (.slice A l.length c) a)(s:bM w A l c)(y:a<=l.length)(x:l.length<=5000000):
  Calls prog 109 #[N g] w (FK w g 279 (.slice A l.length c) l a):=by
 have j:=U (RS e s y x);clear e s;go_in;go_wp2_with fail;apply j.o.mono;rintro r w1 (⟨rfl,f,e⟩|⟨u,C,rfl,f,i,b⟩)
 ·have h:=aB f e;clear f e j;go_wp2;go_ret2;exact .inl ⟨O,h.o⟩
 obtain⟨E,G,rfl,-⟩:=dS i;have h:=aP f i b;clear f i b j;go_wp2;go_ret2;exact .inr ⟨_,C,O,h.o⟩
def Ia(b:tE w g v a):Calls prog 110 #[N g] w λr w'=>r=.returned (Z (a:Int))/\w=w':=by obtain⟨f,e⟩:=b.rules;clear b;go_wp2;go_ret;exact⟨O,O⟩
def BL(w:D)(g:Nat):Nat:=match w.cell? (I g 1)with|some (.int _ n)=>n.toNat|_=>0
def FI(b:tE w g v a):BL w g=a:=by unfold BL;rw[b.cell];rfl
def NF(R:List aV)(x:aV):jI (R++[x])=jI R+(8+x.l.length):=by simp[jI]
def Al(B:Nat)(R:List aV):Prop:=∀x∈R,∀b o,x.A=some (I b o)->x.l≠[]->B<=b
def kE(b:List Int):Nat->Option (List (List Int)×Nat)
 |0=>some ([],0)
 |k+1=>(kE b k).bind λp=>(ic b p.2).map λr=>(p.1++[r],p.2+8+r.length)
def KE{b:List Int}{r:List Int}(h:kE b k=some (R,a))(e:ic b a=some r):kE b (k+1)=some (R++[r],a+8+r.length):=by show(kE b k).bind _=_;rw[h];show(ic b a).map _=_;rw[e];rfl
def Tj(w:D)(b:List Int)(r:Ending)(w':D):Prop:=∃v R,∃a:Nat,(kE b R.length=some (iv R,a)/\ic b a=none)/\r=.returned (.tuple #[v,Z (a:Int)])/\jL w' w.heap.size v R/\lu w' R/\(∀x∈R,x.l.length<=4096)/\jI R=a/\a<=b.length/\S w w'/\Al w.heap.size R
def Qj(R:List aV):8*R.length<=jI R:=by
 induction R with
 |nil=>simp
 |cons x R ih=>simp only[jI,cW,gy,dN]at ih⊢;omega
def WG(hs:bM w A l c)(hl:l.length<=5000000):Calls prog 77 #[.slice A l.length c] w (Tj w l):=by
 have CC:=U (WF hs hl);clear hs;go_in;go_wp2_with fail;apply CC.o.mono;rintro r w1 ⟨g,A1,c1,rfl,hg,L,hS,X⟩;have K:=cQ L hS X hg;clear L hS X hg CC;go_wp2;go_loopw [2] (λv wr=>∃(R:List aV) (a:Nat),kE l R.length=some (iv R,a)/\tE wr g (.slice A1 l.length c1) a/\bM wr A1 l c1/\jL wr w1.heap.size v R/\lu wr R/\(∀x∈R,x.l.length<=4096)/\jI R=a/\a<=l.length/\S w wr/\w1.heap.size<=wr.heap.size/\Al w1.heap.size R) (λ_ wr=>l.length-BL wr g);exact⟨[],0,O,K.o.1,K.o.2.1,Row.nil,(λx hx=>aK hx),(λx hx=>aK hx),O,V,K.o.2.2.1,ao _,λx hx=>aK hx⟩;obtain⟨R,a,γ,L,hS,y,δ,h4,α,ha,hM,κ,jq⟩:=hrel;obtain⟨Av,cv,rfl,-⟩:=y.sl;have CN:=U (U1 L hS ha hl);have CA:=U (Ia L);have ζ:=FI L;have HP:=U γ;have h:=U (ar L (ar hS (ar y (ar δ (ar h4 (ar α (ar ha (ar hM (ar κ jq)))))))));clear γ L hS y δ h4 α hM;go_wp2_with fail;apply CN.o.mono;rintro r Q (⟨rfl,hz,X⟩|⟨u,i,rfl,hz,hu,f⟩)
 ·have HN:=U hz;clear hz;have CA:=U (Ia (h.o.1.call X));have HB:=U X;clear X CN;go_wp2_with fail;apply CA.o.mono;rintro r w3 ⟨rfl,rfl⟩;clear CA;go_wp2;go_ret2;have j:=h.o.2.2.2.2.2.2.2.1.trans (HB.o.mono h.o.2.2.2.2.2.2.2.1.size);refine⟨_,R,a,⟨HP.o,HN.o⟩,O,?_,λx hx=>(h.o.2.2.2.1 x hx).call HB.o,h.o.2.2.2.2.1,h.o.2.2.2.2.2.1,h.o.2.2.2.2.2.2.1,j,λx hx b o e hl=>aZ K.o.2.2.1.size (h.o.2.2.2.2.2.2.2.2.2 x hx b o e hl)⟩;exact(Row.call h.o.2.2.1 HB.o).mono K.o.2.2.1.size
 have HQ:=U (KE HP.o hz);clear hz;have hg:g<w1.heap.size:=K.o.1.lt;have s:=f.2.2.2.2.row h.o.2.2.1 (λg' ι e=>by have e:g'=g:=e;have:=(h.o.2.2.1.ge g' ι).1;omega);have J:lu Q R:=λx hx=>(h.o.2.2.2.1 x hx).mod f.2.2.2.2 ((h.o.2.2.2.1 x hx).off h.o.1 ai);have β:=h.o.2.1.mod f.2.2.2.2 (h.o.2.1.off h.o.1 ai);obtain⟨C,E,rfl,S2⟩:=bM.own hu f.2.1;have j:S Q (Q.alloc (.cells (nA ⟨C,i,E⟩) 150)):=(aq _ _).alloc (ao _) _;have B4:M (Q.alloc (.cells (nA ⟨C,i,E⟩) 150)) Q.heap.size 150 (nA ⟨C,i,E⟩):=M.new _ _ _;have h8:=Qj R;rw[h.o.2.2.2.2.2.1]at h8;have ν:=f.2.2.2.2.size;obtain⟨v',w6,k1,k2,k3,k4,-⟩:=jL.app 172 (Row.call s j) (A:=some (I Q.heap.size 0)) (cap:=1) (jn zb B4) aQ (aA j.size);simp only[dN,g8,cA]at k1;have ξ:=KS ⟨C,i,E⟩ Q;have G:=k3.below;have θ:=K.o.2.2.2;have μ:=K.o.2.2.1.size;have E2:=h.o.2.2.2.2.2.2.2.1.trans (f.2.2.2.2.belowC (B:=w.heap.size) V λk hk e=>by have e:k=g:=e;omega);have E6:=(E2.trans (j.mono V)).trans (G.mono V);have η:=G.size;have ε:=(f.2.2.2.1.call j).below G (ee hg (aA j.size));have P:=U (show jL w6 w1.heap.size v' (R++[⟨C,i,E⟩])/\bM w6 A1 l c1/\lu w6 (R++[⟨C,i,E⟩])/\(∀x∈R++[⟨C,i,E⟩],x.l.length<=4096)/\(S w w6/\w1.heap.size<=w6.heap.size/\Al w1.heap.size (R++[⟨C,i,E⟩]))/\tE w6 g (.slice A1 l.length c1) (a+8+i.length)/\a+8+i.length<=l.length from by refine⟨k2,(β.call j).kt k3 ai,λx hx=>?_,λx hx=>?_,⟨E6,aA j.size,λx hx b o e hl=>(bP.1 hx).elim (λhx=>h.o.2.2.2.2.2.2.2.2.2 x hx b o e hl) λhx=>by rw[dd.1 hx]at e;have e:C=some (I b o):=e;have:=(World.ownsRow.lt hu b (by rw[e];rfl)).1;omega⟩,ε,f.2.2.1⟩;rcases bP.1 hx with hx|hx;exact((J x hx).call j).kt k3 ai;rw[dd.1 hx];exact(S2.call j).kt k3 ai;rcases bP.1 hx with hx|hx;exact h.o.2.2.2.2.1 x hx;rw[dd.1 hx];exact f.1);have HF:=U (show jI (R++[⟨C,i,E⟩])=a+8+i.length from by rw[NF,h.o.2.2.2.2.2.1];show a+(8+i.length)=_;omega);have π:=f.2.2.1;clear s J β S2 hu j B4 ν k2 k3 k4 G ε θ μ E2 E6 η f CN CA h8;go_wp2;go_roundw;exact⟨_,_,by rw[bW,yd,HQ.o];unfold iv;rw[jh];rfl,P.o.2.2.2.2.2.1,P.o.2.1,P.o.1,P.o.2.2.1,P.o.2.2.2.1,HF.o,P.o.2.2.2.2.2.2,P.o.2.2.2.2.1⟩;rw[FI P.o.2.2.2.2.2.1,ζ];omega
def kr(F:Nat->Prop)(A:Option Addr)(l:List Int):Prop:=∀b o,A=some (I b o)->l≠[]->F b
def Mu(ρ:aO->H)(dst:Option Tmp)(x y:aO)(ty:ay)(pos:String)(after:Array Edge)(guard:Option (Nat×Bool)):execOp ρ {dst,op:=.call {callee:=.builtin .append,args:=#[x,y],argTypes:=#[150,150]},type:=ty,pos,after,guard}=iU 150 ty (ρ x) (ρ y):=by simp[execOp,iU,resolve,invoke,builtin]
def bM.cap(h:bM w A l c):bM w A l l.length:=⟨h.blk,ao _,aZ h.le h.max,h.by_⟩
def bM.take(h:bM w A l c)(n d:Nat)(y:(l.take n).length<=d)(j:d<=maxLen):bM w A (l.take n) d:=
 ⟨λr=>by obtain⟨b,o,cs,e,s,u⟩:=h.blk (λe=>r (by rw[e];simp));exact⟨b,o,cs,e,s,λi x f=>u i x (by rw[kw]at f;split at f;exact f;cases f)⟩,y,j,λx f=>h.by_ x (mM f)⟩
def Qw{B:Option Addr}(ty:ay)(h:bM w A l c)(hm:bM w B m d)(hn:l.length+m.length<=100000000):
  ∃K X w',(iU 150 ty (.slice A l.length l.length) (.slice B m.length d)).run prog w=.ok (.value (.slice K (l++m).length X)) w'/\bM w' K (l++m) X/\S w w'/\∀F,kr F A l->kr (dF F w w') K (l++m):=by
 obtain⟨i0,r,G,s,L⟩:=i7 z8;have ε:∀x∈l++m,0<=x/\x<=255:=λx f=>(bP.1 f).elim (h.by_ x) (hm.by_ x);by_cases hA:A=none
 ·subst hA;have C:l=[]:=Cx λC=>by obtain⟨b,o,cs,e,-⟩:=h.blk C;cases e
  subst C;obtain⟨v',w',hr,ho,hb⟩:=Jb (P:=prog) w w.heap.size 150 ty 5 i0 (.int .u8 0) 1 1 underlying150 r G s L O ai (.slice none 0 0) 0 [] (sK _ _ _ _) w.heap.size B m.length d (dD m) (LH hm.rows) (λu hu=>by unfold dD at hu;obtain⟨v,_,rfl⟩:=dY.1 hu;rfl) (by unfold maxLen;simp at hn;omega) (by simp at hn;omega) (ao _);rw[cA,ju]at ho;obtain⟨K,X,rfl,α⟩:=bM.own ho hm.by_;refine⟨K,X,w',zJ hr,α,hb,λF _ b o e C=>?_⟩;subst e;have h1:=World.ownsRow.lt ho b O;exact .inr h1
 obtain⟨a,rfl⟩:=Option.ne_none_iff_exists'.1 hA;by_cases y:m=[];subst y;refine⟨some a,l.length,w,zJ ?_,by rw[eF];exact h.cap,aq _ _,λF hF b o e C=>.inl (hF b o e (az C))⟩;rcases B with _|B;simp[Builtin.append_,eT underlying150,sizeOf,typeInfo,r,Builtin.lenOf,Builtin.firstCells,storeCells];have hf:=run_firstCells_some (P:=prog) w i0.size 0 B 0 d [] ah (λj u hu=>by simp at hu);simp[Builtin.append_,eT underlying150,sizeOf,typeInfo,r,Builtin.lenOf,hf,storeCells];obtain⟨b,o,cs,rfl,hB,γ⟩:=hm.blk y;have ζ:0<m.length:=List.length_pos_iff.2 y;have J:∀j v,(dD l)[j]? =some v->w.cell? (a.add j)=some v:=λj v E=>by unfold dD at E;rw[nX]at E;obtain⟨x,f,rfl⟩:=yj.1 E;obtain⟨b',o',η,e,β,Q⟩:=h.blk (λe=>by rw[e]at f;simp at f);obtain rfl:=eZ e;rw[mU,β.cell];exact Q j x f
 have jq:∀j v,(dD m)[j]? =some v->w.cell? (((I b o):Addr).add j)=some v:=λj v E=>by unfold dD at E;rw[nX]at E;obtain⟨x,f,rfl⟩:=yj.1 E;rw[mU,hB.cell];exact γ j x f
 have hr:=run_append_grow (P:=prog) w 150 ty 5 i0 (.int .u8 0) underlying150 r G a l.length l.length (dD l) (by rw[CO,s,iP]) J (I b o) m.length d (dD m) (by rw[CO,s,iP]) jq V V (growslice_fits V (by rw[L];omega));rw[<-bW]at hr;have δ:S w (w.drew.alloc (.cells ((dD l).toArray++(dD m).toArray++Builtin.zeroCells (Value.int .u8 0).cells (grownCap w (l++m).length l.length 5-(l++m).length)) 5)):=(aq _ _).drew.alloc (ao _) _;refine⟨_,_,_,zJ hr,⟨λ_=>⟨_,0,_,O,M.new_at O O,λi x f=>?_⟩,?_,grownCap_le_maxLen _ _ _ _ (by unfold maxLen;rw[bW];omega),ε⟩,δ,λF _ b o e C=>?_⟩
 ·have h2:(dD (l++m))[i]? =some (.int .u8 x):=by unfold dD;rw[nX,f];rfl
  rw[Jf]at h2;rw[cA,Array.getElem?_append_left (az ((fN.1 h2).1)),<-i5];simpa using h2
 exact grownCap_ge _ _ _ _;injection e with e;injection e with e1 e2;subst e1;exact .inr ⟨ao _,ah⟩
section
variable{P:Program}{ops:Array Oper}{aeS:List ay}{F:Nat->Prop}{W:D}{c:Nat}{E:List fY}{Q:List fY->Act->d7->Prop}{o:Oper}{rest:List Oper}{aeP:Type}{a:aeP->Act}{K:aeP->d7}
def Xm(f:∀u,Region.wanted o (yielded ops (a u).tmps)=true)(x1 x2 x3:aO)(v1:aeP->H)(s:∀u,fw (a u) x1=some (v1 u))(v2:aeP->H)(r:∀u,fw (a u) x2=some (v2 u))(v3:aeP->H)(x:∀u,fw (a u) x3=some (v3 u))
  (h:∃v,(∀u,∀ρ:aO->H,ρ x1=v1 u->ρ x2=v2 u->ρ x3=v3 u->∀w,aa F W w->(execOp ρ o).run P w=.ok (.value v) w)/\dE P ops aeS F W c (E++[.is v]) Q rest aeP (λu=>(a u).put o.dst v) K) (j:oS Q:=by exact λ_ _ _ _ C h w' G b=>h w' G λk e u i=>b k e u (C k e u i)):dE P ops aeS F W c E Q (o::rest) aeP a K:=by
 obtain⟨v,b,h⟩:=h;exact Aa f ⟨v,λu w y=>b u (a u).eval (fo (s u)) (fo (r u)) (fo (x u)) w y,h⟩ j
end
def uT(w:D)(b o:Nat)(t:ay)(cs:Array H)(A:Option Addr)(l m:List Int)(r:Ending)(w':D):Prop:=
 r=.returned (.tuple #[])/\∃e f,M w' b t (cs.setIfInBounds o (.slice e m.length f))/\bM w' e m f/\aa (aR b) w w'/\∀F,kr F A l->kr (dF F w w') e m
def YN(l m:List Int)(A:Option Addr)(W w:D)(u:H)(w':D):Prop:=∃b e,u=.slice b (l++m).length e/\bM w' b (l++m) e/\∀F,kr F A l->kr (dF F W w') b (l++m)
def Ha{b bx:Nat}{B:Option Addr}(r:M w b t cs)(ho:cs[o]? =some (.slice A l.length c))(ht:t≠5)(hs:bM w A l c)(f:M w bx 3 #[Z 0])(hm:bM w B m d)(hn:l.length+m.length<=100000000):
  Calls prog 290 #[.pointer (some (I b o)),.slice B m.length d,N bx] w (uT w b o t cs A l (l++m)):=by
 have G:=cQ r hs f hm;have y:=U (λ(W:D) (h:aa bC w W)=>ar (show W.cell? (I b o)=some (.slice A l.length c)from by rw[(r.call h.no).cell,ho]) (ar (r.call h.no).lt (ar (f.call h.no).rules (f.call h.no).lt)));have hc:=hs.le;clear r hs f hm;go_in;refine mX 24 [] bC 25 (λ_ h=>h.elim) Y ah aS aS aS aS ?_;simp only[cR]
 iterate 19 refine gx y.o ?_
 refine Xm (λ_=>rfl) (.tmp 11) (.tmp 17) (.tmp 23) _ (λ_=>rfl) _ (λ_=>rfl) _ (λ_=>rfl) ?_;apply Exists.intro;apply ar
 ·intro _ ρ Q L K W r;simp[execOp,go_sem,Q,L,K,hc]<;>exact O
 simp only[aD];refine gx y.o ?_;refine uP (λ_=>rfl) (eJ Y) (λp:Option Addr×Nat×Nat=>.slice p.1 p.2.1 p.2.2) (none,0,0) (λ_ u w'=>YN l m A w w u w') (λu X P=>?ap) ?_
 case ap=>obtain⟨C,x,w',h1,h2,h3,h4⟩:=Qw 150 (G.o.2.1.call P.no) (G.o.2.2.2.call P.no) hn;refine⟨(C,(l++m).length,x),w',?_,⟨C,x,O,h2,λF hF b o e hl=>?_⟩,h3⟩;rw[Mu];exact h1;rcases h4 F hF b o e hl with h|h;exact .inl h;exact .inr ⟨aZ P.size h.1,h.2⟩
 simp only[aD]
 iterate 2 refine gx y.o ?_
 refine cT Y ?_;rintro⟨_,p1,p2,J⟩ E i hR;have i:S w E:=i;simp only[d8,Nat.reduceAdd,cA]at hR;obtain⟨w1,w2,-,g2,⟨C,x,hp,S',j⟩,g4⟩:=fK (hR 21 _ _ cD) O;obtain⟨rfl,rfl,rfl⟩:p1=C/\p2=(l++m).length/\J=x:=by injection hp with a b c;exact⟨a,b,c⟩
 have g5:=g4.below λ_ h=>h.2;have S2:=S'.call g5;have s:=G.o.1.call i;have q2:E.cell? (I b o)=some (.slice A l.length c):=by rw[s.cell,ho]
 have f2:E.frozen? (I b o)=false:=s.frozen o;have HX:=U (show uT w b o t cs A l (l++m) (.returned (.tuple #[])) (E.setCell (I b o) (.slice p1 (l++m).length J))from⟨O,p1,J,s.set_ o _,S2.set o _ (S2.off s ht),(aa.of_below i).trans (aa.set (F:=aR b) (I b o) O _),λF hF b' o' e hl=>by rcases j F hF b' o' e hl with h|h;exact .inl h;exact .inr ⟨h.1,az (ee h.2 g5.size)⟩⟩);clear i hR hp S' j g4 g5 S2 s y G;go_wp2;go_end0;have f:=HX.o;rw[bW]at f;exact f
def Xd{b K J:Nat}(f:M w b t cs)(L:cs[o]? =some (.slice A l.length c))(X:t≠5)(C:bM w A l c)(E:ax w [(K,3,#[Z 0]),(J,3,#[Z (n:Int)])])(hn:n<=l.length)(v:H):
  Calls prog 112 #[.pointer (some (I b o)),v,N K,N J] w (uT w b o t cs A l (l.take n)):=by
 have i:=aB f C;have s:=U (λ(W:D) (h:S w W)=>ar (show W.cell? (I b o)=some (.slice A l.length c)from by rw[(f.call h).cell,L]) (ar (f.call h).lt (ar (E.call h).rules (E.call h).lts)));have hc:=C.le;have y:n<=c:=aZ hn hc;have x:(l.take n).length=n:=by rw[il];omega
 clear f C E;go_in;refine eS 12 Y ah aS aS aS aS ?_;simp only[cR]
 iterate 9 refine fX s.o ?_
 refine zM (λ_=>rfl) ?_;apply Exists.intro;apply ar
 ·intro _ W f;simp[execOp,go_sem,Act.eval,y]<;>exact O
 simp only[aD]
 iterate 2 refine fX s.o ?_
 refine dg ?_;intro _ G r _;have j:=i.o.1.call r;have u:=i.o.2.call r;have q2:G.cell? (I b o)=some (.slice A l.length c):=by rw[j.cell,L]
 have f2:G.frozen? (I b o)=false:=j.frozen o;have P:=U (show uT w b o t cs A l (l.take n) (.returned (.tuple #[])) (G.setCell (I b o) (.slice A (l.take n).length n))from⟨O,A,n,j.set_ o _,(u.take n n V (aA i.o.2.max)).set o _ ((u.take n n V (aA i.o.2.max)).off j X),(aa.of_below r).trans (aa.set (F:=aR b) (I b o) O _),λF hF Q o' e hl=>.inl (hF Q o' e λe=>hl (by rw[e];simp))⟩);rw[x]at P;clear r u j s i;go_wp2;go_end0;exact P.o
inductive aW
 |app (bx:Nat) (A:Option Addr) (l:List Int) (c:Nat)
 |cut (bf bn n:Nat)
def aW.f:aW->H
 |.app bx _ _ _=>.func (.func 290) #[] #[N bx]
 |.cut bf bn _=>.func (.func 112) #[] #[N bf,N bn]
def aW.b:aW->H
 |.app _ A l c=>.slice A l.length c
 |.cut _ _ _=>.slice none 0 0
def aW.torn:aW->Bool
 |.app _ _ _ _=>true
 |.cut _ _ _=>false
@[go_sem] theorem aW.f_app(b:Nat)(A:Option Addr)(l:List Int)(c:Nat):(aW.app b A l c).f=.func (.func 290) #[] #[N b]:=rfl
@[go_sem] theorem aW.f_cut(b e n:Nat):(aW.cut b e n).f=.func (.func 112) #[] #[N b,N e]:=rfl
@[go_sem] theorem aW.b_app(e:Nat)(A:Option Addr)(l:List Int)(c:Nat):(aW.app e A l c).b=.slice A l.length c:=rfl
@[go_sem] theorem aW.b_cut(e f n:Nat):(aW.cut e f n).b=.slice none 0 0:=rfl
def gW(x:aW):Array H:=#[x.f,x.b,.bool x.torn]
@[go_sem] theorem aW.torn_app(b:Nat)(A:Option Addr)(l:List Int)(c:Nat):(aW.app b A l c).torn=true:=rfl
@[go_sem] theorem aW.torn_cut(b e n:Nat):(aW.cut b e n).torn=false:=rfl
@[go_sem] theorem aew(x:aW):(gW x)[0]? =some x.f:=rfl
@[go_sem] theorem aev(x:aW):(gW x)[1]? =some x.b:=rfl
@[go_sem] theorem aeu(x:aW):(gW x)[2]? =some (.bool x.torn):=rfl
def wA(x:aW):(gW x).size=3:=rfl
def LB(x:aW):∀u∈(gW x).toList,u.oneCell'=true:=by intro u b;simp[gW]at b;cases x<;>rcases b with rfl|rfl|rfl<;>rfl
def Sz(x:aW):(gW x).all (·.oneCell')=true:=nU.2 λu b=>LB x u (az b)
def zF(x:aW):(prog.info? 256).map (·.size)=some (gW x).size:=by rw[wA];kernel_rfl
def Vf:(prog.info? 256).map (λi=>(i.zero,i.size,i.bytes))=some (some (.agg #[.nilFunc,.slice none 0 0,.bool false]),3,40):=Y
abbrev qQ(w:D)(base:Nat)(v:H)(L:List aW):Prop:=Row w base 256 3 gW v L
def qQ.app{cap:Nat}(ty:ay){L aeL:List aW}(h:qQ w base v L)(s:dK w B 3 A aeL.length (cZ gW aeL))(y:L.length+aeL.length<=1000000)(e:base<=w.heap.size):
  ∃f w',(iU 153 ty v (.slice A aeL.length cap)).run prog w=.ok (.value f) w'/\qQ w' base f (L++aeL)/\iO base [256] w w'/\w.grownBy w' v.ownBlock/\(f.ownBlock=v.ownBlock\/∀b,f.ownBlock=some b->w.heap.size<=b):=by
 obtain⟨i,x,j,r,u⟩:=i7 Vf;exact Row.app w 153 ty i _ 40 underlying153 x j r u O ai wA LB h (cap:=cap) s y ai e
@[go_sem ↓ high] def acq:=@mr 153
@[go_sem ↓ high] def ab6:=@lz 153
@[go_sem ↓ high] def abV:=@iY 256
@[go_sem ↓ high] def abn:=@jC 256
@[go_sem] theorem acL(x:aW)(w:D):(ke 153 (.agg (gW x))).run prog w=.ok (.value (bh w.heap.size 1 1)) (w.alloc (.cells (gW x) 256)):=by cases x<;>kernel_rfl
def aW.go:aW->List Int->List Int
 |.app _ _ b _,l=>l++b
 |.cut _ _ n,l=>l.take n
def aW.At(w:D)(F:Nat->Prop):aW->Prop
 |.app bx A l c=>M w bx 3 #[Z 0]/\bM w A l c/\F bx/\kr F A l
 |.cut bf bn n=>ax w [(bf,3,#[Z 0]),(bn,3,#[Z (n:Int)])]/\F bf/\F bn
def aW.may:aW->List Int->Prop
 |.app _ _ b _,l=>l.length+b.length<=4194304
 |.cut _ _ n,l=>n<=l.length
def aW.may_len{x:aW}(h:x.may l)(e:l.length<=4194304):(x.go l).length<=4194304:=by
 cases x with
 |app _ _ b _=>simpa[aW.go,aW.may]using h
 |cut _ _ n=>simp[aW.go];omega
def pL(w:D)(F:Nat->Prop)(b:H):Option aW->Prop
 |none=>b=.slice none 0 0
 |some x=>qQ w 0 b [x]/\(∀g,b.ownBlock=some g->F g)/\x.At w F
def fF(s n h:H)(e b:Bool)(f:Int):Array H:=#[s,.slice none 0 0,n,.slice none 0 0,h,.bool e,.bool b,Z f]
section
variable(s n lo v:H)(dark burning b:Bool)(fuse x:Int)
def PM:(fF s n lo dark burning fuse).size=8:=rfl
@[go_sem] theorem aer:(fF s n lo dark burning fuse)[0]? =some s:=rfl
@[go_sem] theorem aeq:(fF s n lo dark burning fuse)[1]? =some (.slice none 0 0):=rfl
@[go_sem] theorem aep:(fF s n lo dark burning fuse)[2]? =some n:=rfl
@[go_sem] theorem aeo:(fF s n lo dark burning fuse)[3]? =some (.slice none 0 0):=rfl
@[go_sem] theorem aen:(fF s n lo dark burning fuse)[4]? =some lo:=rfl
@[go_sem] theorem aej:(fF s n lo dark burning fuse)[5]? =some (.bool dark):=rfl
@[go_sem] theorem aei:(fF s n lo dark burning fuse)[6]? =some (.bool burning):=rfl
@[go_sem] theorem aeh:(fF s n lo dark burning fuse)[7]? =some (Z fuse):=rfl
def PO:(fF s n lo dark burning fuse).setIfInBounds 0 v=fF v n lo dark burning fuse:=rfl
def PN:(fF s n lo dark burning fuse).setIfInBounds 1 (.slice none 0 0)=fF s n lo dark burning fuse:=rfl
def LA:(fF s n lo dark burning fuse).setIfInBounds 2 v=fF s v lo dark burning fuse:=rfl
def Lz:(fF s n lo dark burning fuse).setIfInBounds 4 v=fF s n v dark burning fuse:=rfl
end
structure bJ where
 dark:Bool
 burning:Bool
 fuse:Int
def bJ.ok(p:bJ):Prop:=(-9223372036854775808<=p.fuse/\p.fuse<=9223372036854775807)/\(p.burning=true->0<=p.fuse)
abbrev nS(w:D)(d:Nat)(s n b:H)(p:bJ):Prop:=M w d 155 (fF s n b p.dark p.burning p.fuse)
def Yw(w:D):Calls prog 45 #[] w λr w'=>r=.returned (N w.heap.size)/\nS w' w.heap.size (.slice none 0 0) (.slice none 0 0) (.slice none 0 0) ⟨false,false,0⟩/\S w w':=by go_wp2;go_ret;exact⟨O,M.new _ _ _,(aq _ _).alloc (ao _) _⟩
section
variable{w:D}{d:Nat}{s n lo:H}{p:bJ}
def wX(h:nS w d s n lo p):Calls prog 105 #[N d] w λr w'=>r=.returned (Z (if p.dark then 8 else 0))/\w=w':=by
 obtain⟨i,j⟩:=h.rules;obtain⟨b,e,f⟩:=p;clear h;go_in;cases b
 ·go_wp2;go_ret;exact⟨O,O⟩
 go_wp2;go_ret;exact⟨O,O⟩
def zU(k:Int)(b:Bool)(i:(k==0||k==1)=b)(w:D):Calls prog 106 #[Z k] w λr w'=>r=.returned (.bool b)/\w=w':=by
 subst i;go_in;obtain⟨e,h⟩:=aM ((k==0));obtain⟨j,f⟩:=aM ((k==1));rw[h,f];cases e
 ·go_wp2;go_ret;exact⟨O,O⟩
 go_wp2;go_ret;exact⟨O,O⟩
def Hx(h:nS w d s n lo p):Calls prog 134 #[N d] w λr w'=>r=.returned (.tuple #[])/\nS w' d s n lo ⟨true,false,p.fuse⟩/\aa (aR d) w w':=by obtain⟨j,u⟩:=h.rules;obtain⟨e,b,f⟩:=p;have i:=aB ((h.set_ 5 (.bool true)).set_ 6 (.bool false)) ((aa.set (F:=aR d) (w:=w) (I d 5) O (.bool true)).setOld (I d 6) (.inl O) (.bool false));clear h;go_wp2;go_end0;exact⟨O,i.o⟩
def V4(w:D)(d:Nat)(s n lo:H)(p:bJ)(r:Ending)(w':D):Prop:=
 ∃(b:Bool) (e:bJ),r=.returned (.bool b)/\nS w' d s n lo e/\e.ok/\aa (aR d) w w'/\(b=true->e.dark=true/\e.burning=false)/\(b=false->e.dark=p.dark/\e.burning=p.burning)/\(p.burning=false->b=false)
def AB(h:nS w d s n lo p)(u:p.ok):Calls prog 113 #[N d] w (V4 w d s n lo p):=by
 obtain⟨Q,X⟩:=h.rules;obtain⟨f,e,b⟩:=p;have j:=aB h u;have C:=U (λx=>ar (h.set_ 7 (Z x)) (aa.set (F:=aR d) (w:=w) (I d 7) O (Z x)));have J:=U (Hx h);obtain⟨⟨P,K⟩,i⟩:=u;clear h;go_in;cases e
 ·clear i;go_wp2;go_ret;exact⟨false,_,O,j.o.1,j.o.2,aa.refl,ah,ah,ah⟩
 have i:=i O;simp only at P K i;by_cases L:b=0
 ·subst L;go_wp2_with fail;apply J.o.mono;rintro r w1 ⟨rfl,G,y⟩;have E:=aB G y;clear G y J;go_wp2;go_ret;exact⟨true,_,O,E.o.1,⟨j.o.2.1,ah⟩,E.o.2,ah,ah,ah⟩
 go_wp2;go_ret;exact⟨false,⟨f,true,b-1⟩,O,(C.o _).1,⟨⟨by show -9223372036854775808<=b-1;omega,by show b-1<=9223372036854775807;omega⟩,λ_=>by show 0<=b-1;omega⟩,(C.o _).2,ah,ah,ah⟩
end
structure bQ(w:D)(F:Nat->Prop)(d:Nat)(s n:aV)(aeL:Option aW)(p:bJ):Prop where
 blk:∃lo,nS w d (.slice s.A s.l.length s.c) (.slice n.A n.l.length n.c) lo p/\pL w F lo aeL
 hs:bM w s.A s.l s.c
 hn:bM w n.A n.l n.c
 sf:kr F s.A s.l
 nf:kr F n.A n.l
 fd:F d
 ok:p.ok
 sl:s.l.length<=4194304
 nl:n.l.length<=4194304
 inh:jP F w
section
variable{w w':D}{F G:Nat->Prop}{d:Nat}{s n:aV}{aeL:Option aW}{p:bJ}{x:aW}{lo:H}
def kr.mono(h:kr F A l)(i:∀k,F k->G k):kr G A l:=λb o e f=>i b (h b o e f)
def aW.At.keep(h:x.At w F)(f:∀k,F k->k<w.heap.size->w'.heap[k]? =w.heap[k]?):x.At w' F:=by
 cases x with
 |app bx A l c=>exact⟨(f _ h.2.2.1 h.1.lt).trans h.1,h.2.1.blks λb o cs e u r=>(f b (h.2.2.2 b o e u) r.lt).trans r,h.2.2⟩
 |cut bf bn n=>have j:M w bf 3 #[Z 0]:=h.1.head;have i:M w bn 3 #[Z (n:Int)]:=h.1.drop.head;exact⟨ax.cons ((f _ h.2.1 j.lt).trans j) (ax.cons ((f _ h.2.2 i.lt).trans i) ax.nil),h.2⟩
def aW.At.mono(h:x.At w F)(b:∀k,F k->G k):x.At w G:=by
 cases x with
 |app bx A l c=>exact⟨h.1,h.2.1,b _ h.2.2.1,h.2.2.2.mono b⟩
 |cut bf bn n=>exact⟨h.1,b _ h.2.1,b _ h.2.2⟩
def pL.keep(h:pL w F lo aeL)(i:∀k,F k->k<w.heap.size->w'.heap[k]? =w.heap[k]?):pL w' F lo aeL:=by
 cases aeL with
 |none=>exact h
 |some x=>refine⟨?_,h.2.1,h.2.2.keep i⟩;refine⟨h.1.1,?_⟩;rcases h.1.2 with r|⟨g,f,e,rfl,u,j,b⟩;exact .inl r;exact .inr ⟨g,f,e,O,u,(i g (h.2.1 g O) (M.lt j)).trans j,b⟩
def pL.mono(h:pL w F lo aeL)(b:∀k,F k->G k):pL w G lo aeL:=by
 cases aeL with
 |none=>exact h
 |some x=>exact⟨h.1,λg e=>b g (h.2.1 g e),h.2.2.mono b⟩
def bQ.keep(h:bQ w F d s n aeL p)(r:w.heap.size<=w'.heap.size)(j:∀k,F k->k<w.heap.size->w'.heap[k]? =w.heap[k]?):bQ w' F d s n aeL p:=by obtain⟨lo,f,i⟩:=h.blk;exact⟨⟨lo,(j d h.fd (M.lt f)).trans f,i.keep j⟩,h.hs.blks λb o cs e i f=>(j b (h.sf b o e i) f.lt).trans f,h.hn.blks λb o cs e i f=>(j b (h.nf b o e i) f.lt).trans f,h.sf,h.nf,h.fd,h.ok,h.sl,h.nl,h.inh.mono r⟩
def bQ.mod(h:bQ w F d s n aeL p)(m:aa G w w')(b:dJ F G):bQ w' F d s n aeL p:=h.keep m.size λk i f=>m.block k f λe=>b k i e
def bQ.call(h:bQ w F d s n aeL p)(b:S w w'):bQ w' F d s n aeL p:=h.keep b.size λk _ e=>b.block k e
def bQ.mono(h:bQ w F d s n aeL p)(b:∀k,F k->G k)(f:jP G w):bQ w G d s n aeL p:=by obtain⟨lo,i,e⟩:=h.blk;exact⟨⟨lo,i,e.mono b⟩,h.hs,h.hn,h.sf.mono b,h.nf.mono b,b _ h.fd,h.ok,h.sl,h.nl,f⟩
end
def iD(T:ay)(w w':D):Prop:=∀g t cs,M w g t cs->t≠T->M w' g t cs
def iD.of_mod(m:aa (aR d) w w')(i:M w d T cs):iD T w w':=λg t b h f=>m.blk h λe=>by have e:g=d:=e;subst e;exact f (h.type_eq i).1
def iD.bysl(k:iD T w w')(e:T≠5)(h:bM w A l c):bM w' A l c:=h.blks λb o cs _ _ f=>k b _ cs f (eC e)
def iD.at_(k:iD T w w')(e:T≠5)(b:T≠3){x:aW}(h:x.At w F):x.At w' F:=by
 cases x with
 |app bx A l c=>exact⟨k _ _ _ h.1 (eC b),k.bysl e h.2.1,h.2.2⟩
 |cut bf bn n=>exact⟨ax.cons (k _ _ _ h.1.head (eC b)) (ax.cons (k _ _ _ h.1.drop.head (eC b)) ax.nil),h.2⟩
def iD.rowC(k:iD T w w')(b:T≠256){L:List aW}(h:qQ w base v L):qQ w' base v L:=Row.blocks h λg cs e=>k g _ cs e (eC b)
def aW.Runs(x:aW)(a:Addr)(w:D)(Q:Ending->D->Prop):Prop:=
 match x with
 |.app bx A l c=>Calls prog 290 #[.pointer (some a),.slice A l.length c,N bx] w Q
 |.cut bf bn _=>Calls prog 112 #[.pointer (some a),.slice none 0 0,N bf,N bn] w Q
def aW.runs{b:Nat}{x:aW}(r:M w b t cs)(i:cs[o]? =some (.slice A l.length c))(j:t≠5)(s:bM w A l c)(e:x.At w F)(f:x.may l):x.Runs (I b o) w (uT w b o t cs A l (x.go l)):=by
 cases x with
 |app bx B m d=>exact Ha r i j s e.1 e.2.1 (by have h:l.length+m.length<=4194304:=f;omega)
 |cut bf bn k=>exact Xd r i j s e.1 f _
def Aq(w:D)(F:Nat->Prop)(d:Nat)(s n:aV)(x:aW)(p:bJ)(r:Ending)(w':D):Prop:=
 ∃(e:Int) (f:aV) (b:bJ),r=.returned (Z e)/\f.l=x.go n.l/\bQ w' (dF F w w') d s f (some x) b/\aa F w w'/\((e=0/\b.dark=false/\b.burning=p.burning)\/(e=8/\b.dark=true/\b.burning=false))/\(p.burning=false->e=0)
def dF.wider{b e:D}(h:dF F w1 b k)(f:w.heap.size<=e.heap.size)(i:e.heap.size<=w1.heap.size):(F k\/(w.heap.size<=k/\k<b.heap.size)):=by rcases h with h|h;exact .inl h;exact .inr ⟨V,h.2⟩
def Lu{r u j:D}{s n:aV}{p p':bJ}{x:aW}{P y:Option Addr}{E C:Nat}{b:Bool}(h:bQ w F d s n none p)(hp:p.dark=false)(hm:x.may n.l)(L:S w r)(X:qQ r w1.heap.size (.slice P [x].length E) [x])(α:w.heap.size<=w1.heap.size)(B2:M r d 155 (fF (.slice s.A s.l.length s.c) (.slice n.A n.l.length n.c) (.slice none 0 0) p.dark p.burning p.fuse))
  (hx:x.At r F) (M5:aa (aR d) r u) (B5:nS u d (.slice s.A s.l.length s.c) (.slice y (x.go n.l).length C) (.slice P 1 E) p) (S5:bM u y (x.go n.l) C) (I5:∀b o,y=some (I b o)->x.go n.l≠[]->F b\/(w.heap.size<=b/\b<u.heap.size))
  (B6:nS j d (.slice s.A s.l.length s.c) (.slice y (x.go n.l).length C) (.slice P 1 E) p') (G:p'.ok) (Q:aa (aR d) u j) (ht:b=true->p'.dark=true/\p'.burning=false) (hf:b=false->p'.dark=p.dark/\p'.burning=p.burning) (hz:p.burning=false->b=false):
  Aq w F d s n x p (.returned (Z (if b then 8 else 0))) j:=by
 have f:=M5.trans Q;have i:iD 155 r j:=iD.of_mod f B2;have K:iD 155 u j:=iD.of_mod Q B5;have MF:aa F w j:=(aa.of_below L).trans (f.mono λk e=>by have e:k=d:=e;subst e;exact h.fd);have hs:=L.size;have γ:=f.size;have β:=Q.size;refine⟨_,⟨y,x.go n.l,C⟩,p',O,O,⟨⟨_,B6,?_⟩,i.bysl ai (h.hs.call L),K.bysl ai S5,h.sf.mono λk J=>.inl J,λb o e hl=>?_,.inl h.fd,G,h.sl,aW.may_len hm h.nl,dF.inH h.inh V⟩,MF,?_,λhb=>by rw[hz hb];rfl⟩;refine⟨i.rowC ai (Row.mono X (gM _)),λg hg=>?_,(i.at_ ai ai hx).mono λk J=>.inl J⟩;have:=X.ge g hg;exact .inr ⟨V,V⟩;rcases I5 b o e hl with h1|h1;exact .inl h1;exact .inr ⟨h1.1,V⟩;cases b with
 |true=>exact .inr ⟨O,ht O⟩
 |false=>exact .inl ⟨O,(hf O).1.trans hp,(hf O).2⟩
def GZ{s n:aV}{p:bJ}{x:aW}(h:bQ w F d s n none p)(hp:p.dark=false)(hx:x.At w F)(hm:x.may n.l):
  Calls prog 111 #[N d,.agg (gW x)] w (Aq w F d s n x p):=by
 obtain⟨lo,hb,rfl⟩:=h.blk;have D0:S w (w.alloc (.cells (gW x) 256)):=(aq _ _).alloc (ao _) _;have B0:ax (w.alloc (.cells (gW x) 256)) [(w.heap.size,256,gW x),(d,155,fF (.slice s.A s.l.length s.c) (.slice n.A n.l.length n.c) (.slice none 0 0) p.dark p.burning p.fuse)]:=(ax.cons hb ax.nil).push O;generalize hW:w.alloc (.cells (gW x) 256)=W0 at D0 B0;have i:=iA h hx hm B0 D0;have HF:=U (λ(W:D) (h:aa bC W0 W)=>ar (B0.call h.no).rules (ar (B0.call h.no).lts (f8 (P:=prog) (B0.call h.no).head underlying256 O (zF x))));clear h hx hm hb D0 B0;go_in;go_wp2_with fail;refine mX 10 [] bC 7 (λ_ h=>h.elim) Y ah aS aS aS aS ?_;simp only[cR]
 iterate 6 refine gx HF.o ?_
 refine uP (λ_=>rfl) (eJ O) (λp:Nat=>bh p 1 1) 0 (ve 256 (gW x)) (λu X _=>⟨X.heap.size,X.alloc (.cells (gW x) 256),by simp[execOp,go_sem],⟨_,O,ao _,M.new _ _ _⟩,(aq _ _).alloc (ao _) _⟩) ?_;simp only[aD];refine uA (λ_=>rfl) O 6 ai (o3 O) (λx:H=>x) (.slice none 0 0) (λX r X'=>qQ X' X.heap.size r [x]) (λu=>bh u.2 1 1) _ cD (λu X hX hR=>?app) ?_
 case app=>simp only[d8,Nat.reduceAdd,cA]at hR;obtain⟨w1,w2,-,g2,⟨g,j,ψ,σ⟩,g4⟩:∃w1 w2,(6=7->S W0 w1)/\aa bC W0 w1/\ve 256 (gW x) w1 (bh u.2 1 1) w2/\fB [] (λg=>6≠7/\bC g) W0.heap.size w2 X:=hR;injection j with j _ _;injection j with j;injection j with j _ _;subst j;have φ:=σ.call (g4.below λ_ h=>h.2);obtain⟨v',w',k1,k2,k3,k4,k5⟩:=qQ.app 153 (Row.nil (w:=X) (base:=X.heap.size)) (A:=some (I u.2 0)) (cap:=1) (jn wA φ) ah (ao _);exact⟨v',w',by simp[execOp,go_sem];exact k1,k2,aa.of_grown k4 λ_ h=>aK h⟩
 simp only[aD]
 iterate 2 refine gx HF.o ?_
 refine cT Y ?_;rintro⟨_,v⟩ W2 hC hR;have hC:aa bC W0 W2:=hC;simp only[d8,Nat.reduceAdd,cA]at hR;obtain⟨w1,w2,g1,g2,g3,g4⟩:=fK (hR 7 _ _ cD) O;have R2:=Row.call g3 (g4.below λ_ h=>h.2);obtain⟨A',c',rfl,-,-⟩:=R2.sl;have ζ:=hC.no;have B2:=i.o.2.2.2.1.call ζ;have D2:=i.o.2.2.2.2.trans (ζ.mono i.o.2.2.2.2.size);have ι:=B2.drop.head;obtain⟨q0,f0,q1,f1,-⟩:=B2.rules;obtain⟨l0,l1,-⟩:=B2.lts;have H2:=aP D2 R2 ι;have θ:=U (show W0.heap.size<=w1.heap.size from(g1 O).size);have υ:=U B2;clear hC hR g1 g2 g3 g4 R2 ζ B2 D2 ι HF;go_wp2_with fail;have B3:ax (W2.setCell (I d 4) (.slice A' 1 c')) [(w.heap.size,256,gW x),(d,155,fF (.slice s.A s.l.length s.c) (.slice n.A n.l.length n.c) (.slice A' 1 c') p.dark p.burning p.fuse)]:=by have π:d≠w.heap.size:=aA (i.o.1.inh d i.o.1.fd);exact ax.cons (υ.o.head.far (p:=(I d 4)) (λe=>π e.symm) _) (ax.cons (by have:=H2.o.2.2.set_ 4 (.slice A' 1 c');rw[Lz]at this;exact this) ax.nil)
 have M3:aa (aR d) W2 (W2.setCell (I d 4) (.slice A' 1 c')):=aa.set (F:=aR d) (I d 4) O _;generalize ω:W2.setCell (I d 4) (.slice A' 1 c')=W3 at B3 M3⊢;have H3:=aB B3 M3;have ν:=U (λ(W:D) (h:S W3 W)=>ar (B3.call h).rules (B3.call h).lts);clear B3 M3 q0 f0 q1 f1 l0 l1;refine eS 7 Y ah aS aS aS aS ?_;simp only[cR]
 iterate 7
  first
  |refine kX rfl ?_;apply cV
   intro _ ρ χ ξ τ W hb;have hq:=ν.o W hb;simp[execOp,go_sem,χ,ξ,τ,hq,gW]<;>exact O
  |refine kz (λ_=>rfl) ?_
  simp only[aD]
 refine dg ?_;intro _ W4 η _;have B4:=H3.o.1.call η;have M4:=H3.o.2.trans (aa.of_below (F:=aR d) η);have κ:=B4.drop.head;have K4:iD 155 W2 W4:=iD.of_mod M4 H2.o.2.2;have hz:w.heap.size<=W2.heap.size:=H2.o.1.size;have J:aW.At W2 F x:=i.o.2.1.keep λk _ hk=>H2.o.1.block k hk;have ε:aW.At W4 F x:=K4.at_ ai ai J;have μ:bM W4 n.A n.l n.c:=K4.bysl ai (i.o.1.hn.call H2.o.1);have δ:=i.o.2.2.1;have CF:=aW.runs κ (o:=2) O ai μ ε δ;have HC:=U CF;have H4:=aP M4 K4 J;clear η B4 M4 κ K4 ε μ CF ν J δ;cases x with
 |app bx A l c=>
  go_wp2_with fail;refine o4 HC.o ?_;rintro r w5 ⟨rfl,An,cn,f,E,L,K⟩;rw[LA]at f;have HB:=U (AB (p:=p) f i.o.1.ok);have y:=cQ f E L (K F i.o.1.nf);clear f E L K HC;go_wp2_with fail;apply HB.o.mono;rintro r w6 ⟨b,p',rfl,Q,α,γ,C,β,G⟩;have HX:=U (Lu i.o.1 hp i.o.2.2.1 H2.o.1 H2.o.2.1 (aZ i.o.2.2.2.2.size θ.o) H2.o.2.2 H4.o.2.2 (H4.o.1.trans y.o.2.2.1) y.o.1 y.o.2.1 (y.o.2.2.2.mono λk h=>dF.wider h hz H4.o.1.size) Q α γ C β G);clear Q α γ C β G HB y;cases b with
  |false=>go_wp2;go_ret;exact HX.o
  |true=>go_wp2;go_ret;exact HX.o
 |cut bf bn k=>
  go_wp2_with fail;refine o4 HC.o ?_;rintro r w5 ⟨rfl,An,cn,f,E,L,K⟩;rw[LA]at f;have HB:=U (AB (p:=p) f i.o.1.ok);have y:=cQ f E L (K F i.o.1.nf);clear f E L K HC;go_wp2_with fail;apply HB.o.mono;rintro r w6 ⟨b,p',rfl,Q,α,γ,C,β,G⟩;have HX:=U (Lu i.o.1 hp i.o.2.2.1 H2.o.1 H2.o.2.1 (aZ i.o.2.2.2.2.size θ.o) H2.o.2.2 H4.o.2.2 (H4.o.1.trans y.o.2.2.1) y.o.1 y.o.2.1 (y.o.2.2.2.mono λk h=>dF.wider h hz H4.o.1.size) Q α γ C β G);clear Q α γ C β G HB y;cases b with
  |false=>go_wp2;go_ret;exact HX.o
  |true=>go_wp2;go_ret;exact HX.o
def BE(x y b:H):Sem Next:=do pure (.value (<-Instr.build 256 #[(1,x),(2,y),(0,b)]))
def BF(x:H):Sem Next:=do pure (.value (<-Instr.build 256 #[(0,x)]))
section
variable(ρ:aO->H)(dst:Option Tmp)(x y aeU:aO)(ty:ay)(pos:String)(after:Array Edge)(guard:Option (Nat×Bool))
@[go_sem ↓ high] theorem abB:execOp ρ {dst,op:=.build 256 #[(1,x),(2,y),(0,aeU)],type:=ty,pos,after,guard}=BE (ρ x) (ρ y) (ρ aeU):=by simp[execOp,BE]
@[go_sem ↓ high] theorem abC:execOp ρ {dst,op:=.build 256 #[(0,x)],type:=ty,pos,after,guard}=BF (ρ x):=by simp[execOp,BF]
end
@[go_sem] theorem acV(b:Nat)(A:Option Addr)(l:List Int)(c:Nat)(w:D):(BE (.slice A l.length c) (.bool true) (.func (.func 290) #[] #[N b])).run prog w=.ok (.value (.agg (gW (.app b A l c)))) w:=Y
def Pn(b e n:Nat)(w:D):(BF (.func (.func 112) #[] #[N b,N e])).run prog w=.ok (.value (.agg (gW (.cut b e n)))) w:=Y
section
variable{w:D}{F:Nat->Prop}{d:Nat}{s n:aV}{aeL:Option aW}{p:bJ}
def aW.is(b:List Int):aW->Prop
 |.app _ _ l _=>l=b
 |.cut _ _ _=>False
def rP(w:D)(F:Nat->Prop)(d:Nat)(s n:aV)(p:bJ)(t:List Int)(B:aW->Prop)(r:Ending)(w':D):Prop:=
 ∃(e:Int) (h:aV) (f:Option aW) (b:bJ),r=.returned (Z e)/\bQ w' (dF F w w') d s h f b/\aa F w w'/\
  ((e=0/\b.dark=false/\b.burning=p.burning/\h.l=t/\f.isSome=true)\/(e=8/\b.dark=true/\b.burning=false)\/(e=7/\f=none/\h=n/\b=p))/\(p.burning=false->t.length<=4194304->e=0)/\∀x,f=some x->x.may n.l/\B x
def rP.of_make{r:Ending}{x:aW}{B:aW->Prop}(G:B x)(j:jP F w)(K:x.may n.l)(b:S w w1)(h:Aq w1 (dF F w w1) d s n x p r w'):rP w F d s n p (x.go n.l) B r w':=by obtain⟨e,i,C,rfl,E,L,f,hc,P⟩:=h;have X:=b.size;have Q:=f.size;refine⟨e,i,some x,C,O,L.mono (λk hk=>?_) (dF.inH j V),(aa.of_below (F:=F) b).trans' f λk hk h=>?_,?_,λJ _=>P J,λy u=>by cases u;exact⟨K,G⟩⟩;rcases hk with(hk|hk)|hk;exact .inl hk;exact .inr ⟨hk.1,V⟩;exact .inr ⟨V,hk.2⟩;rcases h with h|h;exact h;omega;rcases hc with hc|hc;exact .inl ⟨hc.1,hc.2.1,hc.2.2,E,rfl⟩;exact .inr (.inl hc)
def bQ.ext(h:bQ w F d s n aeL p)(b:S w w1):bQ w1 (dF F w w1) d s n aeL p:=(h.call b).mono (λk e=>.inl e) (dF.inH h.inh b.size)
def Sv(h:bQ w F d s n none p)(hp:p.dark=false){B:Option Addr}(hm:bM w B m c)(hl:m.length<=5000000):
  Calls prog 271 #[N d,Z 0,.slice B m.length c] w (rP w F d s n p (n.l++m) (aW.is m)):=by
 obtain⟨lo,P,rfl⟩:=h.blk;have D0:S w (w.alloc (.cells #[Z 0] 3)):=(aq _ _).alloc (ao _) _;have i:ax (w.alloc (.cells #[Z 0] 3)) [(w.heap.size,3,#[Z 0]),(d,155,fF (.slice s.A s.l.length s.c) (.slice n.A n.l.length n.c) (.slice none 0 0) p.dark p.burning p.fuse)]:=(ax.cons P ax.nil).push O;have J:=wX i.drop.head;rw[al (by simp[hp])]at J;generalize hW:w.alloc (.cells #[Z 0] 3)=W0 at D0 i J;have J:=U J;have CK:=U (zU 0 true O);have nl:=h.nl;have j:=cQ h hm i D0;have HF:=U (λ(W:D) (h:S W0 W)=>ar (i.call h).rules (i.call h).lts);obtain⟨q0,f0,q1,f1,-⟩:=i.rules;obtain⟨l0,l1,-⟩:=i.lts;clear h hm P D0 i;go_in;go_wp2_with fail;apply J.o.mono;rintro r W1 ⟨rfl,rfl⟩;go_wp2_with fail;apply(CK.o _).mono;rintro r W1 ⟨rfl,rfl⟩;clear J CK q0 f0 q1 f1 hW;go_wp2_with fail;have e1:IntKind.i64.wrap (n.l.length:Int)=(n.l.length:Int):=bS _ V;have e2:IntKind.i64.wrap ((n.l.length:Int)+(m.length:Int))=(n.l.length:Int)+(m.length:Int):=bS _ V;refine kW Y Y ?_
 iterate 18 first|refine pE HF.o (vg e1 e2) ?_|(refine zM (λ_=>rfl) ?_;apply cV;intro _ W d;have j:=HF.o W d;simp[execOp,go_sem,j,e1,e2]<;>exact rfl;simp only[aD])
 refine dg ?_;intro _ W1 E;have B1:=j.o.2.2.1.call E;have D1:=j.o.2.2.2.trans (E.mono j.o.2.2.2.size);have CC:=U (tj (j.o.2.1.call D1) V);have G:=aB B1 D1;clear HF E B1 D1 e1 e2;by_cases f:n.l.length+m.length<=4194304
 ·have hd:¬(4194304<(n.l.length:Int)+m.length):=V;go_wp2_with fail;apply CC.o.mono;rintro r W2 ⟨u,rfl,hu,C⟩;obtain⟨A2,c2,rfl,S2⟩:=bM.own hu j.o.2.1.by_;have D2:=G.o.2.trans (C.mono G.o.2.size);have y:=(G.o.1.call C).head;have K:=World.ownsRow.lt hu;have L:aW.At W2 (dF F w W2) (.app w.heap.size A2 m c2):=⟨y,S2,.inr ⟨ao _,y.lt⟩,λb o e _=>by have h1:=K b (by rw[e];rfl);have h2:=G.o.2.size;exact .inr ⟨V,h1.2⟩⟩;have CM:=U (GZ (j.o.1.ext D2) hp L f);have HD:=U D2;clear hu C S2 D2 y K L CC;go_wp2_with fail;apply CM.o.mono;rintro r w' hM;have HM:=U (rP.of_make (B:=aW.is m) O j.o.1.inh (x:=.app w.heap.size A2 m c2) f HD.o hM);obtain⟨e,n',p',rfl,-⟩:=hM;clear CM;go_wp2;go_ret;exact HM.o
 have hd:(4194304:Int)<(n.l.length:Int)+m.length:=V;go_wp2;go_ret;exact⟨7,n,none,p,O,j.o.1.ext G.o.2,aa.of_below G.o.2,.inr (.inr ⟨O,O,O,O⟩),λ_ h=>(by rw[bW]at h;omega),λx hx=>aK hx⟩
end
section
variable{w:D}{F:Nat->Prop}{d:Nat}{s n:aV}{aeL:Option aW}{p:bJ}
def Yx(h:bQ w F d s n none p)(hp:p.dark=false)(hk:k<=n.l.length):
  Calls prog 80 #[N d,Z 0,Z (k:Int)] w (rP w F d s n p (n.l.take k) λ_=>True):=by
 obtain⟨lo,j,rfl⟩:=h.blk;have Q:S w ((w.alloc (.cells #[Z 0] 3)).alloc (.cells #[Z (k:Int)] 3)):=((aq _ _).alloc (ao _) _).alloc ah _;have b:ax ((w.alloc (.cells #[Z 0] 3)).alloc (.cells #[Z (k:Int)] 3)) [(w.heap.size+1,3,#[Z (k:Int)]),(w.heap.size,3,#[Z 0]),(d,155,fF (.slice s.A s.l.length s.c) (.slice n.A n.l.length n.c) (.slice none 0 0) p.dark p.burning p.fuse)]:=((ax.cons j ax.nil).push (g:=w.heap.size) O).push (g:=w.heap.size+1) ah;have i:=wX b.drop.drop.head;rw[al (by simp[hp])]at i;generalize hW:(w.alloc (.cells #[Z 0] 3)).alloc (.cells #[Z (k:Int)] 3)=W0 at Q b i;have i:=U i;have CK:=U (zU 0 true O);have C:=aP h b Q;have K:=U (λ(W:D) (h:S W0 W)=>ar (b.call h).rules (b.call h).lts);obtain⟨q2,f2,q0,f0,q1,f1,-⟩:=b.rules;obtain⟨l2,l0,l1,-⟩:=b.lts;clear h j Q b;go_in;go_wp2_with fail;apply i.o.mono;rintro r P ⟨rfl,rfl⟩;clear q2 f2 q0 f0 q1 f1 hW;go_wp2_with fail;have e1:¬((k:Int)<0):=V;have e2:¬((n.l.length:Int)<(k:Int)):=V;refine kW Y Y ?_;refine fX K.o ?_;refine oh (λ_=>rfl) 106 #[Z 0] _ cK (λw j=>(CK.o w).mono (by rintro e w2 ⟨rfl,rfl⟩;exact⟨O,aq _ _⟩)) ?_;simp only[aD]
 iterate 16 first|refine pE K.o (vg e1 e2) ?_|(refine zM (λ_=>rfl) ?_;apply cV;intro _ W d;have j:=K.o W d;simp[execOp,go_sem,j,e1,e2]<;>exact rfl;simp only[aD])
 refine dg ?_;intro _ P f;have y:=C.o.2.1.call f;have J:=C.o.2.2.trans (f.mono C.o.2.2.size);have u:aW.At P (dF F w P) (.cut w.heap.size (w.heap.size+1) k):=⟨ax.cons y.drop.head (ax.cons y.head ax.nil),.inr ⟨ao _,y.drop.head.lt⟩,.inr ⟨V,y.head.lt⟩⟩;have CM:=U (GZ (C.o.1.ext J) hp u hk);have HD:=U J;have α:=Pn w.heap.size (w.heap.size+1) k;clear K f y J e1 e2 u CK i;go_wp2_with fail;apply CM.o.mono;rintro r w' X;have HM:=U (rP.of_make (B:=λ_=>True) trivial C.o.1.inh (x:=.cut w.heap.size (w.heap.size+1) k) hk HD.o X);obtain⟨e,n',p',rfl,-⟩:=X;clear CM;go_wp2;go_ret;exact HM.o
def Gw(w:D)(F:Nat->Prop)(d:Nat)(s n:aV)(aeL:Option aW)(p:bJ)(r:Ending)(w':D):Prop:=
 ∃(e:Int) (b:bJ),r=.returned (Z e)/\aa F w w'/\((e=0/\b.dark=false/\b.burning=p.burning/\bQ w' F d n n none b)\/(e=8/\b.dark=true/\b.burning=false/\bQ w' F d s n aeL b))/\(p.burning=false->e=0)
def pL.kt{b:H}(h:pL w F b aeL)(k:iD T w w')(e:T≠5)(f:T≠3)(i:T≠256):pL w' F b aeL:=by
 cases aeL with
 |none=>exact h
 |some x=>exact⟨k.rowC i h.1,h.2.1,k.at_ e f h.2.2⟩
def bQ.renew(h:bQ w F d s n aeL p)(m:aa (aR d) w w'){p':bJ}(f:p'.ok)(i:∀b,nS w d (.slice s.A s.l.length s.c) (.slice n.A n.l.length n.c) b p->nS w' d (.slice s.A s.l.length s.c) (.slice n.A n.l.length n.c) b p'):bQ w' F d s n aeL p':=by obtain⟨b,e,j⟩:=h.blk;have k:iD 155 w w':=iD.of_mod m e;exact⟨⟨b,i b e,j.kt k ai ai ai⟩,k.bysl ai h.hs,k.bysl ai h.hn,h.sf,h.nf,h.fd,f,h.sl,h.nl,h.inh.mono m.size⟩
def GX(h:bQ w F d s n aeL p)(hp:p.dark=false):Calls prog 85 #[N d] w (Gw w F d s n aeL p):=by
 obtain⟨lo,u,E⟩:=h.blk;have C:=wX u;rw[al (by simp[hp])]at C;have C:=U C;have P:=U (AB u h.ok);have i:=aP h u E;clear h u E;go_in;go_wp2_with fail;apply C.o.mono;rintro r W1 ⟨rfl,rfl⟩;clear C;go_wp2_with fail;apply P.o.mono;rintro r w1 ⟨b,K,rfl,G,x,J,L,y,hz⟩;clear P;have k:iD 155 w w1:=iD.of_mod J i.o.2.1;have X:bQ w1 F d s n aeL K:=⟨⟨lo,G,i.o.2.2.kt k ai ai ai⟩,k.bysl ai i.o.1.hs,k.bysl ai i.o.1.hn,i.o.1.sf,i.o.1.nf,i.o.1.fd,x,i.o.1.sl,i.o.1.nl,i.o.1.inh.mono J.size⟩;have MF:aa F w w1:=J.mono λk e=>by have e:k=d:=e;subst e;exact i.o.1.fd
 have f:=iA X MF L y hz;obtain⟨q0,f0⟩:=G.rules;have l0:=G.lt;have Q:=U G;clear G J k X MF L y hz;cases b with
 |true=>go_wp2;go_ret;exact⟨8,K,O,f.o.2.1,.inr ⟨O,(f.o.2.2.1 ah).1,(f.o.2.2.1 ah).2,f.o.1⟩,λu=>by have:=f.o.2.2.2.2 u;simp at this⟩
 |false=>go_wp2;go_ret;have m:aa (aR d) w1 (((w1.setCell (I d 0) (.slice n.A n.l.length n.c)).setCell (I d 1) (.slice none 0 0)).setCell (I d 4) (.slice none 0 0)):=((aa.set (F:=aR d) (w:=w1) (I d 0) O _).setOld (I d 1) (.inl O) _).setOld (I d 4) (.inl O) _;have u:=((M.set_ Q.o 0 (.slice n.A n.l.length n.c)).set_ 1 (.slice none 0 0)).set_ 4 (.slice none 0 0);rw[PO,PN,Lz]at u;have k:iD 155 w1 _:=iD.of_mod m Q.o;have y:=f.o.2.2.2.1 ah;have hn:=k.bysl ai f.o.1.hn;exact⟨0,K,O,f.o.2.1.trans (m.mono λj e=>by have e:j=d:=e;subst e;exact i.o.1.fd),.inl ⟨O,y.1.trans hp,y.2,⟨_,u,O⟩,hn,hn,f.o.1.nf,f.o.1.nf,f.o.1.fd,x,f.o.1.nl,f.o.1.nl,f.o.1.inh.mono m.size⟩,λ_=>rfl⟩
def VH(h:bQ w F d s n aeL p)(y:p.dark=false):Calls prog 76 #[N d,Z 0] w λr w'=>∃u,r=.returned (.tuple #[u,Z 0])/\w'.ownsRow w.heap.size 5 1 u n.l.length (dD n.l)/\S w w':=by obtain⟨J,b,f⟩:=h.blk;have e:=wX b;rw[al (by simp[y])]at e;have e:=U e;have j:=U (zU 0 true O);have x:=U (tj h.hn (aA h.nl));obtain⟨G,K⟩:=b.rules;clear h b f;go_in;go_wp2_with fail;apply e.o.mono;rintro r E ⟨rfl,rfl⟩;clear e;go_wp2_with fail;apply(j.o _).mono;rintro r E ⟨rfl,rfl⟩;clear j;go_wp2_with fail;apply x.o.mono;rintro r w1 ⟨u,rfl,i,b⟩;obtain⟨A,c,rfl,-⟩:=dS i;have C:=aB i b;clear i b x;go_wp2;go_ret2;exact⟨_,O,C.o⟩
def VG(h:bQ w F d s n aeL p)(y:p.dark=false):Calls prog 76 #[N d,Z 1] w λr w'=>∃A c,r=.returned (.tuple #[.slice A 0 c,Z 0])/\S w w':=by obtain⟨J,b,f⟩:=h.blk;have e:=wX b;rw[al (by simp[y])]at e;have e:=U e;have i:=U (zU 1 true O);have x:=U (tj (bM.nil w) ah);obtain⟨G,K⟩:=b.rules;clear h b f;go_in;go_wp2_with fail;apply e.o.mono;rintro r E ⟨rfl,rfl⟩;clear e;go_wp2_with fail;apply(i.o _).mono;rintro r E ⟨rfl,rfl⟩;clear i;go_wp2_with fail;apply x.o.mono;rintro r w1 ⟨u,rfl,j,b⟩;obtain⟨A,c,rfl,-⟩:=dS j;have C:=U b;clear j b x;go_wp2;go_ret2;exact⟨A,c,O,C.o⟩
def G3(h:bQ w F d s n aeL p)(k:Int)(y:-9223372036854775808<=k)(x:k<=9223372036854775807):Calls prog 228 #[N d,Z k] w λr w'=>r=.returned (.tuple #[])/\bQ w' F d s n aeL ⟨p.dark,decide (0<=k),k⟩/\aa F w w':=by obtain⟨E,b,f⟩:=h.blk;obtain⟨J,K⟩:=b.rules;have G:=b.lt;have i:=aB h b;clear h b f;have u:=U (show bQ ((w.setCell (I d 6) (.bool (decide (0<=k)))).setCell (I d 7) (Z k)) F d s n aeL ⟨p.dark,decide (0<=k),k⟩/\aa F w ((w.setCell (I d 6) (.bool (decide (0<=k)))).setCell (I d 7) (Z k))from by have m:aa (aR d) w ((w.setCell (I d 6) (.bool (decide (0<=k)))).setCell (I d 7) (Z k)):=(aa.set (F:=aR d) (w:=w) (I d 6) O _).setOld (I d 7) (.inl O) _;exact⟨i.o.1.renew m ⟨⟨y,x⟩,λh=>nY h⟩ λE C=>(M.set_ C 6 (.bool (decide (0<=k)))).set_ 7 (Z k),m.mono λj e=>by have e:j=d:=e;subst e;exact i.o.1.fd⟩);go_wp2;go_end0;exact⟨O,u.o⟩
def GB(h:bQ w F d s n aeL p):Calls prog 34 #[N d] w λr w'=>r=.returned (.bool (!p.dark))/\w=w':=by obtain⟨i,e,b⟩:=h.blk;obtain⟨f,j⟩:=e.rules;clear h e b;go_wp2;go_ret;exact⟨O,O⟩
def VJ(h:bQ w F d s n aeL p):Calls prog 84 #[N d] w λr w'=>r=.returned (Z (if aeL.isSome then 1 else 0))/\w=w':=by
 obtain⟨i,f,b⟩:=h.blk;obtain⟨j,u⟩:=f.rules;clear h f;go_in;cases aeL with
 |none=>have e:i=.slice none 0 0:=b;subst e;go_wp2;go_ret;exact⟨O,O⟩
 |some x=>obtain⟨A,c,rfl,-,-⟩:=b.1.sl;clear b;go_wp2;go_ret;exact⟨O,O⟩
end
structure sp(w:D)(A:Option Addr)(l:List Int)(c:Nat):Prop where
 rows:l≠[]->∃b o,A=some (I b o)/\b<w.heap.size/\∀i x,l[i]? =some x->w.cell? (I b (o+i))=some (Z x)
 le:l.length<=c
 max:c<=maxLen
def sp.call(h:sp w A l c)(j:S w w'):sp w' A l c:=⟨λr=>by obtain⟨b,o,e,f,s⟩:=h.rows r;exact⟨b,o,e,ee f j.size,λi x u=>(j.cell (p:=(I b (o+i))) f).trans (s i x u)⟩,h.le,h.max⟩
def AV(h:sp w A l c)(i m:Nat)(hi:i<=100)(u:0<m)(X:m<=100000000):
  Calls prog 244 #[.slice A l.length c,Z (i:Int),Z (m:Int)] w λr w'=>∃k:Nat,r=.returned (Z (k:Int))/\k<m/\w=w':=by
 replace h:=U h;go_in;by_cases j:i<l.length
 ·obtain⟨b,o,rfl,hb,f⟩:=h.o.rows (λe=>by rw[e]at j;simp at j);obtain⟨y,C⟩:∃y,l[i]? =some y:=⟨l[i],bY j⟩;have K:=f i y C;clear f C;have J:¬((l.length:Int)<=(i:Int)):=V;by_cases E:y<0
  ·go_wp2;go_ret;exact⟨0,O,u,O⟩
  have G:¬((m:Int)=0):=V;have L:∃k:Nat,y%(m:Int)=k/\k<m:=⟨(y%(m:Int)).toNat,aA (Int.emod_nonneg y G),by have:=Int.emod_lt_of_pos y (bU ((0:Int)<m));have:=Int.emod_nonneg y G;omega⟩;obtain⟨k,x,s⟩:=L;replace x:=U x;go_wp2;go_ret;exact⟨k,by show Ending.returned (Z (y%(m:Int)))=_;rw[x.o],s,O⟩
 have J:(l.length:Int)<=(i:Int):=V;go_wp2;go_ret;exact⟨0,O,u,O⟩
def BW(x y:H):Sem Next:=do pure (.value (<-Instr.build 155 #[(0,x),(1,y)]))
section
variable(ρ:aO->H)(dst:Option Tmp)(x y aeU:aO)(ty:ay)(pos:String)(after:Array Edge)(guard:Option (Nat×Bool))
@[go_sem ↓ high] theorem aci:execOp ρ {dst,op:=.build 155 #[(0,x),(1,y)],type:=ty,pos,after,guard}=BW (ρ x) (ρ y):=by simp[execOp,BW]
@[go_sem ↓ high] def abl:=@jC 155
end
@[go_sem] theorem ade(A:Option Addr)(n c:Nat)(w:D):(BW (.agg #[.slice A n c,.slice none 0 0]) (.agg #[.slice A n c,.slice none 0 0])).run prog w=.ok (.value (.agg (fF (.slice A n c) (.slice A n c) (.slice none 0 0) false false 0))) w:=Y
def zE(s n e:H)(a b:Bool)(x:Int):(prog.info? 155).map (·.size)=some (fF s n e a b x).size:=by rw[PM];kernel_rfl
def zz(A:Option Addr)(n c:Nat):(fF (.slice A n c) (.slice A n c) (.slice none 0 0) false false 0).all (·.oneCell')=true:=nU.2 λu b=>by simp[fF]at b;rcases b with rfl|rfl|rfl|rfl|rfl|rfl<;>rfl
def Lh(x:aW)(W:D):∃b,(eQ 256 (N W.heap.size) (.agg (gW x))).run prog (W.alloc (.cells #[.nilFunc,.slice none 0 0,.bool false] 256))=.ok .skip b/\M b W.heap.size 256 (gW x)/\S W b:=by have e:M (W.alloc (.cells #[.nilFunc,.slice none 0 0,.bool false] 256)) W.heap.size 256 #[.nilFunc,.slice none 0 0,.bool false]:=M.new _ _ _;exact⟨_,ft e (zF x) O (Sz x),dt e (gW x),(fl _ _ _).below ((aq _ _).alloc (ao _) _) (ao _) (λ_ h=>aK h)⟩
def aW.tears(s:List Int):Option aW->List Int->Prop
 |none,l=>l=s
 |some (.app _ _ b _),l=>∃j,l=s++b.take j
 |some (.cut _ _ n),l=>l=s\/l=s.take n
def aW.tears_go(s:List Int)(x:aW):aW.tears s (some x) (x.go s):=by
 cases x with
 |app bx A b c=>exact⟨b.length,by rw[jt];rfl⟩
 |cut bf bn n=>exact .inr O
def Ik(w:D)(F:Nat->Prop)(d:Nat)(T:List Int->Prop)(r:Ending)(w':D):Prop:=∃b:aV,r=.returned (Z 0)/\T b.l/\bQ w' (dF F w w') d b b none ⟨false,false,0⟩/\aa F w w'
def zQ{u:Array H}(x:F d)(E:jP F w)(i:S w W)(y:M W d 155 u)(G:bM W A l c)(hF:∀b o,A=some (I b o)->l≠[]->F b\/(w.heap.size<=b/\b<W.heap.size))(s:l.length<=4194304){T:List Int->Prop}(J:T l):
  Ik w F d T (.returned (Z 0)) (W.setRow d (fF (.slice A l.length c) (.slice A l.length c) (.slice none 0 0) false false 0)):=by
 have f:=fl W d (fF (.slice A l.length c) (.slice A l.length c) (.slice none 0 0) false false 0);have m:aa (aR d) W _:=aa.of_fr1 (F:=aR d) f O;have K:=dt y (fF (.slice A l.length c) (.slice A l.length c) (.slice none 0 0) false false 0);have k:iD 155 W _:=iD.of_mod m y;have C:=k.bysl ai G;have r:kr (dF F w (W.setRow d (fF (.slice A l.length c) (.slice A l.length c) (.slice none 0 0) false false 0))) A l:=λb o e s=>by rcases hF b o e s with h|h;exact .inl h;exact .inr ⟨h.1,ee h.2 m.size⟩
 exact⟨⟨A,l,c⟩,O,J,⟨⟨_,K,O⟩,C,C,r,r,.inl x,⟨⟨ai,ai⟩,λh=>aK h⟩,s,s,dF.inH E (aZ i.size m.size)⟩,(aa.of_below (F:=F) i).trans (m.mono λj e=>by have e:j=d:=e;subst e;exact x)⟩
structure mB(w:D)(F:Nat->Prop)(W:D)(A:Option Addr)(l:List Int)(c:Nat):Prop where
 blk:M W w.heap.size 152 #[.slice A l.length c,.slice none 0 0]
 bs:bM W A l c
 fx:∀b o,A=some (I b o)->l≠[]->F b\/(w.heap.size<=b/\b<W.heap.size)
 below:S w W
 len:l.length<=4194304
def mB.call{i:D}(h:mB w F W A l c)(f:S W i):mB w F i A l c:=
 ⟨h.blk.call f,h.bs.call f,λb o e j=>(h.fx b o e j).imp id λx=>⟨x.1,ee x.2 f.size⟩,h.below.trans (f.mono h.below.size),h.len⟩
def mB.file{u:D}{r:Ending}(h:mB w F W A l c)(x:uT W w.heap.size 0 152 #[.slice A l.length c,.slice none 0 0] A l m r u)(y:m.length<=4194304):∃j i,mB w F u j m i:=by obtain⟨-,j,i,C,E,s,hF⟩:=x;refine⟨j,i,az C,E,λb o e f=>?_,h.below.trans (s.belowC h.below.size λk G e=>by have e:k=w.heap.size:=e;omega),y⟩;rcases hF (λb=>F b\/(w.heap.size<=b/\b<W.heap.size)) h.fx b o e f with h1|h1;rcases h1 with h1|h1;exact .inl h1;exact .inr ⟨h1.1,ee h1.2 s.size⟩;exact .inr ⟨aZ h.below.size h1.1,h1.2⟩
def Y7{s n:aV}{aeL:Option aW}{p:bJ}(h:bQ w F d s n aeL p)(hM:∀x,aeL=some x->x.may s.l){Ap:Option Addr}{lp:List Int}{cp:Nat}(hz:sp w Ap lp cp)(hp:p.dark=true):
  Calls prog 229 #[N d,.slice Ap lp.length cp] w (Ik w F d (aW.tears s.l aeL)):=by
 obtain⟨lo,hb,L⟩:=h.blk;obtain⟨dk,bu,fu⟩:=p;have hp:dk=true:=hp;subst hp;obtain⟨q0,f0⟩:=hb.rules;have l0:=hb.lt;have y:=aP h hb hz;have ω:=h.hs.le;have φ:s.c<=9223372036854775807:=h.hs.max;clear h hb;go_in;cases aeL with
 |none=>have e:lo=.slice none 0 0:=L;subst e;clear hM L;have CP:=U (AV y.o.2.2 0 1 V V V);go_wp2_with fail;apply CP.o.mono;rintro r W1 ⟨k,rfl,hk,rfl⟩;obtain rfl:k=0:=V;clear CP hk;have E:=U (show mB w F (w.alloc (.cells #[.slice s.A s.l.length s.c,.slice none 0 0] 152)) s.A s.l s.c from⟨M.new _ _ _,y.o.1.hs.call ((aq _ _).alloc (ao _) _),λb o e hl=>.inl (y.o.1.sf b o e hl),(aq _ _).alloc (ao _) _,y.o.1.sl⟩);go_wp2;go_loopw [38] (λi wr=>i=Z 0/\mB w F wr s.A s.l s.c) (λ_ _=>0);exact⟨O,E.o⟩;obtain⟨rfl,G⟩:=hrel;have f:=U G;clear G E q0 f0 l0;have HE:=U (zQ (w:=w) (W:=wr) y.o.1.fd y.o.1.inh f.o.below (y.o.2.1.call f.o.below) f.o.bs f.o.fx f.o.len (T:=aW.tears s.l none) O);obtain⟨q2,f2⟩:=f.o.blk.rules;have θ:=ft (P:=prog) (ty:=155) (w:=wr) (y.o.2.1.call f.o.below) (zE (.slice s.A s.l.length s.c) (.slice s.A s.l.length s.c) (.slice none 0 0) false false 0) O (zz _ _ _);obtain⟨q3,f3⟩:=(M.call y.o.2.1 f.o.below).rules;go_wp2;go_ret;exact HE.o
 |some x=>
  obtain⟨g,cl,rfl,υ,τ,-,Γ⟩:=L.1.sl_pos ah;simp only[dN,g8,cA]at L υ q0;have χ:cl<=9223372036854775807:=τ;have HL:=aB L (hM x O);clear hM L;have CP:=U (AV y.o.2.2 0 2 V V V);have E:=U (show mB w F (w.alloc (.cells #[.slice s.A s.l.length s.c,.slice none 0 0] 152)) s.A s.l s.c from⟨M.new _ _ _,y.o.1.hs.call ((aq _ _).alloc (ao _) _),λb o e hl=>.inl (y.o.1.sf b o e hl),(aq _ _).alloc (ao _) _,y.o.1.sl⟩);go_wp2_with fail;apply CP.o.mono;rintro r W1 ⟨k,rfl,hk,rfl⟩;clear CP;have π:k=0\/k=1:=V;clear hk;rcases π with rfl|rfl
  ·go_wp2;go_loopw [38] (λi wr=>i=Z 0/\mB w F wr s.A s.l s.c) (λ_ _=>0);exact⟨O,E.o⟩;obtain⟨rfl,G⟩:=hrel;have β:=Row.call HL.o.1.1 G.below;have ζ:=eO (P:=prog) (β.rng wA (i:=0) (x:=x) O) underlying256 O (zF x);obtain⟨W3,J,B3,D3⟩:=Lh x wr;obtain⟨q4,f4⟩:=(M.call y.o.2.1 G.below).rules;obtain⟨q5,f5⟩:=B3.rules;have l5:=B3.lt;have f:=U (G.call D3);have ν:=U B3;clear G E β B3 D3 q0 f0 l0;simp only[nV]at ζ;cases x with
   |cut bf bn n2=>have HE:=U (zQ (w:=w) (W:=W3) y.o.1.fd y.o.1.inh f.o.below (y.o.2.1.call f.o.below) f.o.bs f.o.fx f.o.len (T:=aW.tears s.l (some (.cut bf bn n2))) (.inl O));obtain⟨q2,f2⟩:=f.o.blk.rules;have θ:=ft (P:=prog) (ty:=155) (w:=W3) (y.o.2.1.call f.o.below) (zE (.slice s.A s.l.length s.c) (.slice s.A s.l.length s.c) (.slice none 0 0) false false 0) O (zz _ _ _);obtain⟨q3,f3⟩:=(M.call y.o.2.1 f.o.below).rules;go_wp2;go_ret;exact HE.o
   |app bx B m c2=>
    have hB:=HL.o.1.2.2.2.1;have ψ:=hB.le;have Δ:s.l.length+m.length<=4194304:=HL.o.2;have HF:=U (λ(W:D) (h:aa bC W3 W)=>ar (ν.o.call h.no).rules (ν.o.call h.no).lt);clear hB;go_wp2_with fail;have e1:IntKind.i64.wrap ((m.length:Int)+1)=(m.length:Int)+1:=bS _ V;refine mX 11 [] bC 10 (λ_ h=>h.elim) Y ah aS aS aS aS ?_;simp only[cR]
    iterate 9 refine nI HF.o e1 ?_
    refine pn (λ_=>rfl) (eJ O) 244 (λ_=>#[.slice Ap lp.length cp,Z 1,Z ((m.length:Int)+1)]) (λk:Nat=>Z (k:Int)) 0 (λ_ u _=>∃k:Nat,u=Z (k:Int)/\k<=m.length) cK (λ_ X hX=>?cp) ?_
    case cp=>refine(AV ((y.o.2.2.call f.o.below).call hX.no) 1 (m.length+1) V V V).mono ?_;rintro r w2 ⟨k,rfl,hk,rfl⟩;exact⟨k,O,⟨k,O,V⟩,aq _ _⟩
    simp only[aD];refine uA (λ_=>rfl) O 9 ai (o3 O) (λk:Nat=>.slice B k c2) 0 (λ_ u _=>∃k:Nat,u=.slice B k c2/\k<=m.length) (λu=>Z (u.2:Int)) _ cD (λu X hX hR=>?sl) ?_
    case sl=>
     simp only[d8,Nat.reduceAdd,cA]at hR;obtain⟨w1,w2,-,g2,⟨k,hk,μ⟩,g4⟩:∃w1 w2,(9=10->S W3 w1)/\aa bC W3 w1/\(∃k:Nat,(Z (u.2:Int):H)=Z (k:Int)/\k<=m.length)/\fB [] (λk=>9≠10/\bC k) W3.heap.size w2 X:=hR;obtain rfl:u.2=k:=by injection hk with _ h;omega
     have σ:u.2<=c2:=V;exact⟨u.2,X,by simp[execOp,go_sem,Act.eval,σ],⟨u.2,O,μ⟩,aa.refl⟩
    simp only[aD];refine cT Y ?_;rintro⟨⟨_,k1⟩,k2⟩ W4 hC hR;have hC:aa bC W3 W4:=hC;simp only[d8,Nat.reduceAdd,cA]at hR;obtain⟨w1,w2,-,g2,⟨k,hk,μ⟩,g4⟩:=fK (hR 10 _ _ cD) O;obtain rfl:k2=k:=by injection hk
    have Q:=f.o.call hC.no;have K:=HL.o.1.2.2.keep λj _ hj=>Q.below.block j hj;have γ:(m.take k2).length=k2:=by rw[il];omega
    have ξ:=K.2.1.take k2 c2 V K.2.1.max;have CD:=Ha (o:=0) Q.blk O ai Q.bs K.1 ξ V;rw[γ]at CD;have HD:=U CD;have κ:=aB Q γ;clear hC hR g4 hk g2 Q K γ ξ CD HF e1;go_wp2_with fail;apply HD.o.mono;intro r W5 h5;obtain⟨A5,c5,C⟩:=κ.o.1.file h5 (by rw[bW,κ.o.2];omega);obtain⟨rfl,-⟩:=h5;have HT:=U (show aW.tears s.l (some (.app bx B m c2)) (s.l++m.take k2)from⟨k2,O⟩);generalize s.l++m.take k2=l5 at C HT;have f:=U C;clear C HD J;have HE:=U (zQ (w:=w) (W:=W5) y.o.1.fd y.o.1.inh f.o.below (y.o.2.1.call f.o.below) f.o.bs f.o.fx f.o.len HT.o);obtain⟨q2,f2⟩:=f.o.blk.rules;have θ:=ft (P:=prog) (ty:=155) (w:=W5) (y.o.2.1.call f.o.below) (zE (.slice A5 l5.length c5) (.slice A5 l5.length c5) (.slice none 0 0) false false 0) O (zz _ _ _);obtain⟨q3,f3⟩:=(M.call y.o.2.1 f.o.below).rules;go_wp2;go_ret;exact HE.o
  go_wp2;go_loopw [38] (λi wr=>(i=Z 0/\mB w F wr s.A s.l s.c)\/(i=Z 1/\∃A c,mB w F wr A (x.go s.l) c)) (λi _=>1-(intOf i).toNat);exact .inl ⟨O,E.o⟩;rcases hrel with⟨rfl,G⟩|⟨rfl,A5,c5,G⟩
  ·have β:=Row.call HL.o.1.1 G.below;have ζ:=eO (P:=prog) (β.rng wA (i:=0) (x:=x) O) underlying256 O (zF x);obtain⟨W3,J,B3,D3⟩:=Lh x wr;obtain⟨q5,f5⟩:=B3.rules;have l5:=B3.lt;have α:=G.call D3;have δ:=HL.o.1.2.2.keep λj _ hj=>α.below.block j hj;have HD:=U (aW.runs (o:=0) α.blk O ai α.bs δ HL.o.2);have f:=U α;clear G E β B3 D3 q0 f0 l0 α δ;simp only[nV]at ζ;cases x with
   |cut bf bn n2=>go_wp2_with fail;refine o4 HD.o ?_;intro r W5 h5;obtain⟨A5,c5,C⟩:=f.o.file h5 (aW.may_len HL.o.2 y.o.1.sl);obtain⟨rfl,-⟩:=h5;have H5:=U C;clear C HD J;go_wp2;go_roundw;exact .inr ⟨O,A5,c5,H5.o⟩;simp[intOf]
   |app bx B m c2=>go_wp2_with fail;refine o4 HD.o ?_;intro r W5 h5;obtain⟨A5,c5,C⟩:=f.o.file h5 (aW.may_len HL.o.2 y.o.1.sl);obtain⟨rfl,-⟩:=h5;have H5:=U C;clear C HD J;go_wp2;go_roundw;exact .inr ⟨O,A5,c5,H5.o⟩;simp[intOf]
  have HT:=U (aW.tears_go s.l x);generalize x.go s.l=l5 at G HT;have f:=U G;obtain⟨q4,f4⟩:=(M.call y.o.2.1 G.below).rules;clear G E q0 f0 l0;have HE:=U (zQ (w:=w) (W:=wr) y.o.1.fd y.o.1.inh f.o.below (y.o.2.1.call f.o.below) f.o.bs f.o.fx f.o.len HT.o);obtain⟨q2,f2⟩:=f.o.blk.rules;have θ:=ft (P:=prog) (ty:=155) (w:=wr) (y.o.2.1.call f.o.below) (zE (.slice A5 l5.length c5) (.slice A5 l5.length c5) (.slice none 0 0) false false 0) O (zz _ _ _);obtain⟨q3,f3⟩:=(M.call y.o.2.1 f.o.below).rules;go_wp2;go_ret;exact HE.o
def NT(n:Int)(e:0<=n)(b:n<=4294967295):cy (bT n 4)=n:=by show(((0*256%18446744073709551616+aU n 4)*256%18446744073709551616+aU n 5)*256%18446744073709551616+aU n 6)*256%18446744073709551616+aU n 7=n;simp only[aU,Nat.reduceSub,Nat.reduceMul,Int.reducePow];omega
def Dt{p t:List Int}{n:Int}(f:0<=n)(b:n<=4294967295)(e:a=p.length):jH (p++(bT n 4++t)) a=n:=by unfold jH;rw[e,List.drop_left,List.take_left' (by rfl),NT n f b];omega
section
variable{p t r:List Int}(hr:r.length<=4096)
include hr
def aax(b:a=p.length):ic (p++(io r++t)) a=some r:=by
 have e:p++(io r++t)=p++(bT r.length 4++(bT (gD (gD 0 (bT r.length 4)) r) 4++(r++t))):=by unfold io;simp only[i6]
 have f:=s6 (gD 0 (bT r.length 4)) r;have i:jH (p++(io r++t)) a=r.length:=by rw[e];exact Dt V V b
 have j:jH (p++(io r++t)) (a+4)=gD (gD 0 (bT r.length 4)) r:=by rw[e,<-i6];exact Dt f.1 f.2 (by rw[bW,b];rfl)
 have s:(p++(io r++t)).length=a+8+r.length+t.length:=by rw[bW,bW,sS,b];omega
 have h:((p++(io r++t)).drop (a+8)).take r.length=r:=by rw[e,<-i6,<-i6,List.drop_left' (by rw[bW,bW,b];rfl),List.take_left' O]
 rw[wQ (n:=r.length) V i.symm hr V,h,j,av rfl]
def MU(b:a=p.length){j:Nat}(f:j<(io r).length):ic (p++(io r).take j) a=none:=by
 rw[sS]at f;have h:(p++(io r).take j).length=a+j:=by rw[bW,il,sS,b];omega
 unfold ic;by_cases s:j<8;rw[av V];rw[al V];have e:(io r).take j=bT r.length 4++(bT (gD (gD 0 (bT r.length 4)) r) 4++r).take (j-4):=by unfold io;rw[List.take_append,kR (by show 4<=j;omega)];rfl
 have i:jH (p++(io r).take j) a=r.length:=by rw[e];exact Dt V V b
 rw[i,h,av (c:=_\/_) V]
end
def Pt{p:List Int}(b:a=p.length):ic p a=none:=by unfold ic;rw[av V]
def Z4(L:List (List Int))(t:List Int)(h:∀r∈L,r.length<=4096):∀k,k<=L.length->kE (da L++t) k=some (L.take k,(da (L.take k)).length):=by
 intro k
 induction k with
 |zero=>intro _;rfl
 |succ k ih=>
  intro s;obtain⟨r,e⟩:∃r,L[k]? =some r:=⟨L[k],bY V⟩;have b:L.take (k+1)=L.take k++[r]:=by rw[gP,e];rfl
  have j:da L++t=da (L.take k)++(io r++(da (L.drop (k+1))++t)):=by
   conv=>lhs;rw[<-lV (k+1) L]
   rw[od,b,od,ry];simp only[i6]
  have i:=ih V;have f:ic (da L++t) (da (L.take k)).length=some r:=by rw[j];exact aax (h r (cX e)) O
  rw[KE i f,b,od,ry,bW,sS];congr 2;omega
def DO{b:List Int}(h:kE b k=some (R,a))(e:ic b a=none):∀c,kE b (k+1+c)=none
 |0=>by show(kE b k).bind _=_;rw[h];show(ic b a).map _=_;rw[e];rfl
 |c+1=>by show(kE b (k+1+c)).bind _=_;rw[DO h e c];rfl
def OT{b:List Int}{k' i:Nat}{R':List (List Int)}(h:kE b k=some (R,a))(s:ic b a=none)(e:kE b k'=some (R',i))(f:ic b i=none):R=R'/\a=i:=by
 rcases Nat.lt_trichotomy k k' with hk|hk|hk
 ·have:=DO h s (k'-k-1);rw[bU (k+1+(k'-k-1)=k'),e]at this;cases this
 subst hk;rw[h]at e;injection e with e;injection e with r j;exact⟨r,j⟩;have:=DO e f (k-k'-1);rw[bU (k'+1+(k-k'-1)=k),h]at this;cases this
def My(P:List (List Int))(j:Nat):∃i,i<=P.length/\(da (P.take i)).length<=j/\(i=P.length\/j<(da (P.take (i+1))).length):=by
 suffices hs:∀c,c<=P.length->(∃i,i<=P.length/\(da (P.take i)).length<=j/\(i=P.length\/j<(da (P.take (i+1))).length))\/(da (P.take c)).length<=j by rcases hs P.length (ao _)with h|h;exact h;exact⟨P.length,ao _,h,.inl O⟩
 intro c
 induction c with
 |zero=>intro _;exact .inr (gM _)
 |succ c e=>intro f;rcases e V with h|h;exact .inl h;by_cases b:(da (P.take (c+1))).length<=j;exact .inr b;exact .inl ⟨c,V,h,.inr V⟩
def Qx{L P:List (List Int)}{j:Nat}(J:∀r∈L,r.length<=4096)(y:∀r∈P,r.length<=4096)(h:kE (da L++(da P).take j) k=some (R,a))(C:ic (da L++(da P).take j) a=none):
  ∃i,i<=P.length/\R=L++P.take i/\a=(da R).length/\da R=(da L++(da P).take j).take a:=by
 obtain⟨i,K,f,h2⟩:=My P j;have G:∀r∈L++P.take i,r.length<=4096:=λr hr=>by rcases bP.1 hr with hr|hr;exact J r hr;exact y r (mM hr)
 obtain⟨t,E,b⟩:∃t,da L++(da P).take j=da (L++P.take i)++t/\ic (da (L++P.take i)++t) (da (L++P.take i)).length=none:=by
  rcases h2 with rfl|h2;rw[jt]at f⊢;refine⟨[],?_,?_⟩;rw[kR f,od,eF];rw[eF];exact Pt O;rcases mI i P.length with u|hge
  ·obtain⟨r,hr⟩:∃r,P[i]? =some r:=⟨P[i],bY u⟩;have e:P.take (i+1)=P.take i++[r]:=by rw[gP,hr];rfl
   rw[e,od,ry,bW]at h2;refine⟨(io r).take (j-(da (P.take i)).length),?_,MU (y r (cX hr)) O V⟩;have s:da P=da (P.take i)++(io r++da (P.drop (i+1))):=by
    conv=>lhs;rw[<-lV (i+1) P]
    rw[od,e,od,ry,i6]
   rw[s,List.take_append,kR f,List.take_append,od,i6];congr 2;rw[bU (j-(da (P.take i)).length-(io r).length=0),vQ,eF]
  obtain rfl:i=P.length:=V;rw[kR V]at h2;rw[jt]at f;omega
 rw[E]at h C⊢;have x:=Z4 (L++P.take i) t G (L++P.take i).length (ao _);rw[jt]at x;obtain⟨e,s⟩:=OT h C x b;refine⟨i,K,e,by rw[s,e],?_⟩;rw[s,e,List.take_left'];rfl
