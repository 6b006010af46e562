import Derived.Test.YtkpjfnbbkohciaaGreatBb
set_option maxRecDepth 100000
set_option maxHeartbeats 16000000
set_option linter.all false
open Go renaming Oper->Abi,Ending->Ab3,Calls->Aaf,TypeId->Aab,wpList->Aam,madeCells->Acu,splice->Abz,undef->Aat,yielded->Aaz,zeroValue->Ab9,wpAnyH->Acp,YieldsIf->Ach,execOp->Abt
open List renaming length_map->Aac,getElem_map->Adl,map_append->Aao,map_cons->Ab8,mem_append->Aa3,length_cons->Aaj,flatMap_cons->Abd,append_nil->Ab4,append_assoc->Abe,length_set->Aax,range->Aal,range_succ->Ab0,length_append->Aae,drop_zero->Aaw,take_zero->Abl,size_toArray->Abj,length_nil->Aa5,push_toArray->Abk,append_toArray->Abc,nil_append->Aa0,cons_append->Aa2,sum_cons->Acm,sum_nil->Ac5,replicate->Aad,getElem_cons_succ->Adj,getElem_cons_zero->Aby,length_range->Acl,drop_drop->Ac4,mem_map->Abb,mem_cons->Aak,drop_succ_cons->Abv,length->κ
open Go.Proofs.Tryz renaming prog->Aag,underlying88->Aas,underlying270->Acw,underlying30->Aau
open Go.RowKit renaming intOf->Aaq
open Go.Value renaming ownBlock->Aan,oneCell'->Ac9,slice->Acg,int->Acd
open Option.some renaming injEq->Aai
open Go.Instr renaming buildSlice->Acf,index->Ac0,slice->Aav,sliceAt->Abq,makeSlice->Aci,sureAddr->Adg
open Go.Result renaming andThen->Aar,andThen_ok->Aay
open Go.World renaming size_alloc->Aa4,cell?->Aco
open Prod.mk renaming injEq->Adh
open Go.Sem renaming run_bind->Aa1,run_pure->Ac7
open Go.Value.slice renaming injEq->Abh
open Go.Region renaming wanted->Aaa,Mode->Ab1
open Int renaming toNat_natCast->Abr
open Go.Fence renaming wide->Abw
open Array renaming replicate_succ->Aa9,replicate_zero->Aba
open Go.Addr.mk renaming injEq->Abm
open Go.KeepsOthers renaming of_grownBy->Ads
open Go.Oper renaming wp->Ace
open Bool renaming and_eq_true->Aa8
open Nat renaming zero_add->Abn
open Go.Builtin renaming zeroCells->Abg
open List.Pairwise renaming nil->Abx
open Go.Op renaming equalIn->Ac3
namespace Go.Proofs.YtkpjfnbbkohciaaGreat
open Go.Proofs.Tryz Go.RowKit Go.Sort
variable{b m:List aj}{rest:List Abi}{L:List As}{base base' c cap g i j k n off st t:Nat}{a:Option Addr}{C:List cQ}{x:ab}{w:af}{R:Ab3->af->Prop}{Q:Exit->Act->af->Prop}{H α β:Type}{ats:List Nat}{P:bu}{fn:Func}{ops:Array Abi}
structure gJ where
 d:ab
 a:Option Addr
 n:Nat
 c:Nat
def gJ.v(y:gJ):ah:=.slice y.a y.n y.c
def dg(y:gJ):List ah:=(b7 y.d y.v).toList
theorem lK:gi dg 11:=⟨ae,λ_=>rfl,λy u hu=>by have:=mu y.d y.a y.n y.c;unfold dg gJ.v at hu;rw[Fb]at this;exact this u aa⟩
def cy(w:af)(v:ah)(l:List ab):Prop:=∃ys:List gJ,ys.map (·.d)=l/\aG dg w v ys/\∀y∈ys,c9 w y.v y.d.dead
theorem cy.up{w w':af}{v:ah}{l:List ab}(h:cy w v l)(hu:Up w w'):cy w' v l:=by obtain⟨ys,h1,h2,h3⟩:=h;exact⟨ys,h1,aG.up h2 hu,λy hy=>aG.up (h3 y hy) hu⟩
theorem cy.slice{v:ah}{l:List ab}(h:cy w v l):∃a cap,v=.slice a (κ l) cap:=by obtain⟨ys,rfl,h2,_⟩:=h;rw[Aac];exact h2.slice
theorem cy.length_le{v:ah}{l:List ab}(h:cy w v l):κ l<=9223372036854775807:=by obtain⟨ys,rfl,h2,_⟩:=h;rw[Aac];exact h2.length_le
theorem rS{l:List ab}(h:cy w (.slice a n cap) l)(h0:0<κ l):∃b off,a=some ⟨b,off,none⟩/\b<w.heap.size/\∀i(hi:i<κ l),∃da dn dc,w.rangeAt b (off+i*11) (b7 l[i] (.slice da dn dc)).toList/\c9 w (.slice da dn dc) l[i].dead:=by
 obtain⟨ys,rfl,h2,h3⟩:=h;rw[Aac]at h0;obtain⟨b,off,h4,h5,_,h6⟩:=aG.get h2 lK h0;refine⟨b,off,h4,h5,λi hi=>?_⟩;rw[Aac]at hi;refine⟨ys[i].a,ys[i].n,ys[i].c,λj v hj=>?_,?_⟩
 ·rw[Adl]at hj;have:=h6 i hi j v hj;grind
 ·rw[Adl];exact h3 _ (cm hi)
def fU(next:Nat):List aj:=aX [8] [next]
def ek(next:Nat)(l:List ab):List (List aj):=fU next::l.map fg
def lx(next:Nat)(l:List ab):Option (List aj):=if next<=281474976710655/\(κ l)<=32/\(∀x∈l,cz x=true)then some (eB (ek next l))else none
theorem gL(next:Nat):κ (fU next)=8:=aA
theorem n0(a b c:List aj):κ (eB [a,b,c])=8+κ a+κ b+κ c:=by grind [eB,de,uo,bC]
theorem BL(h:cz x=true):κ (fg x)<=65535:=by obtain⟨_,_,_,_,h5,_,h7,_⟩:=(bm x).1 h;grind [oV,fg,n0,h9,d']
theorem xH{next:Nat}{l:List ab}(hl:κ l<=32)(hr:∀x∈l,cz x=true):tg (ek next l):=by refine⟨by grind [ek],λt ht=>?_⟩;grind [ek,gL,BL]
theorem Lq{next:Nat}(h:next<=281474976710655):nr [8] [next]:=uQ
theorem L1{next:Nat}{l:List ab}(hx:x∈l)(h:cz x=false):lx next l=none:=by grind [lx]
theorem eM.one(w:af)(base:Nat)(hb:base<=w.heap.size)(a:Option Addr)(n c:Nat)(t:List aj)(h:Own aH 5 w base (.slice a n c) t):eM (w.alloc (.cells #[.slice a n c] 30)) base (cC w.heap.size 1 1) [t]:=by
 refine⟨[⟨a,n,c⟩],rfl,?_,λi hi _=>?_⟩
 ·exact yL (base:=base) (e:=30) (size:=1) w #[.slice a n c] 1 hb av rfl
 ·match i,hi with
  | 0,_=>exact h.up (ai w _)
  | (k+1),hi=>simp at hi
theorem sf(w:af)(next:Nat)(hn:next<18446744073709551616)(v:ah)(l:List ab)(hv:cy w v l)(aK:∀x∈l,x.wf):Aaf Aag 180 #[u6 (next:Int),v] w λe w'=>Es (lx next l) w e w':=by
 have aR:=hv.length_le;obtain⟨la,lc,rfl⟩:=hv.slice;obtain⟨HV,a1⟩:=aw hv aK;clear aK;by_cases aD:281474976710655<next
 ·have b1:((281474976710655:Int)<(next:Int))=True:=by simp;omega
  exact Ve
 have b1:((281474976710655:Int)<(next:Int))=False:=ao
 by_cases hlen:32<κ l
 ·have b2:((32:Int)<(κ l:Int))=True:=by simp;omega
  exact Ve
 have b2:((32:Int)<(κ l:Int))=False:=ao
 obtain⟨UA,UB,sza⟩:=cX (ai w (.cells #[i6 8] 3)) (ai (w.alloc (.cells #[i6 8] 3)) (.cells #[u6 (next:Int)] 70)) (mB w (.cells #[i6 8] 3));have aP:=an (show Aaf Aag 240 #[cC w.heap.size 1 1,cC (w.heap.size+1) 1 1] ((w.alloc (.cells #[i6 8] 3)).alloc (.cells #[u6 (next:Int)] 70)) (λe w'=>∃v,e=rt #[v,i6 0]/\Own aH 5 w' w.heap.size v (fU next)/\Up w w')from by have i1:aC bA _ (cC w.heap.size 1 1) [8]:=(aC.er (f:=bA) w w.heap.size rfl #[i6 8] 3 (0,0) [8] 1 rfl dy rfl).up UB;have i2:aC cu _ (cC (w.heap.size+1) 1 1) [next]:=aC.er (f:=cu) (w.alloc (.cells #[i6 8] 3)) (w.heap.size+1) uP #[u6 (next:Int)] 70 (0,0) [next] 1 rfl dy rfl;refine(o4 _ _ [8] i1 aq _ _ i2 A4 (Lq ae)).mono λe w' h=>?_;obtain⟨v,rfl,ho,hu⟩:=h;exact⟨v,rfl,ho.mono (UA.trans UB).size,(UA.trans UB).trans hu⟩)
 clear sza;go_in;go_wp2_with fail;refine aP.mono ?_;rintro e w2⟨v6,rfl,O6,U2⟩;obtain⟨ha,hc,rfl⟩:=O6.cv.slice;obtain⟨OT,U3⟩:=aw (eM.one w2 w.heap.size U2.size ha _ hc _ O6) (U2.trans (ai w2 (.cells #[.slice ha (κ (fU next)) hc] 30)));generalize(fU next).length=aQ at *;go_wp2;go_loopw [8,34] (λtv i wr=>∃k:Nat,k<=κ l/\i=i6 k/\eM wr w.heap.size tv (fU next::(l.take k).map fg)/\Up w wr/\∀x∈l.take k,cz x=true) (λ_ i _=>κ l-(Aaq i).toNat)
 case atStart=>exact⟨0,bG _,rfl,OT,U3,λx hx=>by simp at hx⟩
 case round=>
  obtain⟨k,hk,rfl,ot,ur,rt⟩:=hrel;obtain⟨OR,UR,RT⟩:=aW ot ur rt;clear rt;by_cases hlt:k<κ l
  ·refine oS ?_;intro b3;obtain⟨sb,so,rfl,_,sg⟩:=rS (HV.up UR) ae;obtain⟨da,dn,dc,rg,dp⟩:=sg k hlt;obtain⟨SG,DP,WX,aM,TK⟩:=eQ rg dp (a1 l[k] (cm hlt)) (cm hlt) (show l.take (k+1)=l.take k++[l[k]] from eo hlt);clear sg;generalize l[k]=x at *;obtain⟨aj,H1⟩:=aw (ke x (.slice da dn dc)) (mu x da dn dc);have UX:=ai wr (.cells (b7 x (.slice da dn dc)) 90);obtain⟨BX,RC,O4,U4⟩:=bS (aI.new wr 90 (b7 x (.slice da dn dc))) (LO _ x WX _ (aG.up DP UX)) (OR.up UX) (UR.trans UX);generalize b7 x (.slice da dn dc)=C at *;go_wp2_with(first
    | refine arm ?_
    | ((with_reducible refine cB 90 (.tmp 10) (.tmp 37) ?_);refine fK wr rfl 90 (.tmp 10) (.tmp 37) rfl C 90 b8 rfl rfl rfl aj (by have:=aj.out;rw[show(prog.info? 90).map (·.size)=some 11 from al]at this;exact dC this) H1 ?_))
   refine RC.mono ?_;rintro e w5 aa;rcases aa with⟨ay,rfl,U5⟩|⟨bs,v11,ag,rfl,O5,U5⟩
   ·have HF:=an (show lx next l=none from L1 aM (by
     unfold LN at ay;by_cases hh:cz x=true
     ·rw[bp hh]at ay;cases ay
     ·simpa using hh))
    have U6:=an (U4.trans U5);clear ay;go_wp2;go_ret2;exact .inl ⟨HF,rfl,U6⟩
   have ax:cz x=true/\fg x=bs:=by
    unfold LN at ag;by_cases hh:cz x=true
    ·rw[bp hh]at ag;exact⟨hh,dC ag⟩
    ·rw[aO hh]at ag;cases ag
   have RX:=an ax;obtain⟨ra,rc,rfl⟩:=O5.cv.slice;obtain⟨o5,ot⟩:=az (O5.mono U4.size) (O4.up U5);have U6:=an (U4.trans U5);clear ag ax;obtain⟨vs,aL,hvo,ar⟩:=ot;have aJ:=an aL;have UY:=ai w5 (.cells #[.slice ra (κ bs) rc] 30);obtain⟨O5,av,ad,au⟩:=bS (show Own aH 5 (w5.alloc (.cells #[.slice ra (κ bs) rc] 30)) w.heap.size (gv ⟨ra,κ bs,rc⟩) bs from o5.up UY) (hvo.up UY) (λi a b=>(ar i a b).up UY) (aC.lit (f:=gv) w5 #[.slice ra (κ bs) rc] 30 (0,0) [⟨ra,κ bs,rc⟩] 1 rfl dy rfl);have ak:κ vs<=33:=by have:=aL;simp at this;omega
   obtain⟨hb1,hb2,U7⟩:=aW (show(κ vs + [(⟨ra,κ bs,rc⟩:W4)].length)*24<=140737488355328 from ao) (show κ vs + [(⟨ra,κ bs,rc⟩:W4)].length<=9223372036854775807 from ao) (U6.trans UY);have aB:=an U7.size;clear aL ar ak;generalize (κ bs)=bl at *;go_wp2_with(first
    | (at_builtin;refine bf gv BZ rfl (.tmp 46) (.tmp 48) 40 rfl w.heap.size 30 (nl) 24 underlying40 sJ rfl _ vs rfl av (cC w5.heap.size 1 1) [⟨ra,bl,rc⟩] rfl au hb1 hb2 aB ?_))
   intro v' w7 hown hg aT;obtain⟨aN,U8⟩:=aw (eM.snoc aJ av ad O5 hown hg) (U7.aF aT (aE _));clear ad hb1 hb2 aB;go_wp2;refine⟨⟨k+1,hlt,aq,?_,U8,?_⟩,?_⟩
   ·rw[TK.out,Aao,Ab8,List.map_nil,RX.out.2];exact aN
   ·rw[TK.out];intro y hy;rcases Aa3.1 hy with hy|hy
    ·exact RT y hy
    ·simp at hy;subst hy;exact RX.1
   ·simp only[Aaq];omega
  ·obtain rfl:k=κ l:=by omega
   have b3:((κ l:Int)<(κ l:Int))=False:=aq
   obtain⟨rt,ot⟩:=az RT.out OR.out;rw[fj]at rt ot;obtain⟨OKJ,HT⟩:=aw (show tg (ek next l)from xH ae rt) (show lx next l=some (eB (ek next l))by unfold lx;rw[bp ⟨ae,ae,rt⟩]);have JN:=an (AO _ _ (ek next l) ot.texts OKJ);clear rt RT;go_wp2_with fail;refine JN.mono ?_;rintro e w8⟨vj,rfl,OJ,UJ⟩;go_wp2_with fail;go_ret2;exact .inr ⟨_,_,HT,rfl,OJ.mono UR.size,UR.trans UJ⟩
theorem zJ(w:af)(v u:ah)(a b:List aj)(hv:aY w v a)(hu:aY w u b):Aaf Aag 181 #[v,u] w λe w'=>e=.returned (.bool (decide (a=b)))/\w=w':=by obtain⟨c1,c2⟩:=az (toStr w v a hv) (toStr w u b hu);have ST:=an (vH a b);generalize strOf a=x at *;generalize strOf b=y at *;go_in;go_wp2;go_ret;exact⟨by rw[<-ST.out]<;>rfl,rfl⟩
theorem j':(prog.info? 90).map (λi=>(i.zero,i.size,i.bytes))=some (some (.agg b8),11,112):=al
theorem Me:prog.underlying 40=some (.slice (prog.elem 40)):=al
theorem Mf:∀W:af,(sizeOf (prog.elem 40)).run Aag W=.ok 1 W:=λW=>by rw[show prog.elem 40=30 from aA];obtain⟨i,hi,_,hz1,_⟩:=jC sJ;simp[sizeOf,typeInfo,hi,hz1]
theorem il:(prog.info? 90).map (·.size)=some b8.size:=al
def ie:b8.all (·.oneCell')=true:=mu tI none 0 0
def et:ab:=⟨1,[118],false,1,0,0,8,hole,[]⟩
theorem JU(a:Addr)(i j:Nat):(a.add i).add j=a.add (i+j):=by obtain⟨b,off,spot⟩:=a;unfold Addr.add;grind
theorem abJ{ts:List Aab}{ds:List (DataW H)}(h:(DataW.weightsEach P ts ds).all (·<=reachBytes)=true){t:Aab}{d:DataW H}(ht:ts[j]?=some t)(hd:ds[j]?=some d):∀m∈d.weights P t,m<=reachBytes:=λm hm=>by have:=List.all_eq_true.1 h _ (DataW.weights_mem_each ht hd m hm);simpa using this
theorem iu{f:α->List ah}{f2:β->List ah}{k k2:Nat}{e e2:Aab}{b b2:Nat}{v v2:ah}{xs:List α}{ys:List β}(hne:e≠e2)(h:ak f k e w b v xs)(h2:ak f2 k2 e2 w b2 v2 ys):v.ownBlock=none\/v.ownBlock≠v2.ownBlock:=by
 obtain⟨_,h⟩:=h;obtain⟨_,h2⟩:=h2;rcases h with⟨rfl,_⟩|⟨g,cap,cur,rfl,_,hh,_⟩
 ·exact .inl rfl
 ·refine .inr ?_;rcases h2 with⟨rfl,_⟩|⟨g2,ax,aa,rfl,_,ab,_⟩
  ·simp[Aan]
  ·simp only[Aan,ne_eq,Aai];grind
def bt(w:af)(base:Nat)(v:ah)(l:List ab):Prop:=∃ys:List gJ,ys.map (·.d)=l/\ak dg 11 90 w base v ys/\∀y∈ys,a8 w base y.v y.d.dead
theorem bt.mono{v:ah}{l:List ab}(h:bt w base v l)(hb:base'<=base):bt w base' v l:=by obtain⟨ys,h1,h2,h3⟩:=h;exact⟨ys,h1,ak.mono h2 hb,λy hy=>ak.mono (h3 y hy) hb⟩
theorem bt.cA{v:ah}{l:List ab}(h:bt w base v l):cy w v l:=by obtain⟨ys,h1,h2,h3⟩:=h;exact⟨ys,h1,ak.row h2 lK,λy hy=>ak.row (h3 y hy) pw⟩
theorem bt.up{w w':af}{v:ah}{l:List ab}(h:bt w base v l)(hu:Up w w'):bt w' base v l:=by obtain⟨ys,h1,h2,h3⟩:=h;exact⟨ys,h1,ak.up h2 hu,λy hy=>ak.up (h3 y hy) hu⟩
def G'(l:List ah)(o:Nat)(m:List ah):List ah:=l.take o++(m++l.drop (o+κ m))
theorem xv:∀(l:List ah)(k off:Nat)(cs:Array ah),off+k+κ l<=cs.size->((l.zipIdx k).foldl (λ(cs:Array ah) p=>cs.setIfInBounds (off+p.2) p.1) cs).toList=cs.toList.take (off+k)++(l++cs.toList.drop (off+k+κ l))
 | [],k,off,cs,_=>aq
 | v::l,k,off,cs,hc=>by simp only[Aaj]at hc;rw[List.zipIdx_cons,yM];have ih:=xv l (k+1) off (cs.setIfInBounds (off+k) v) ao;exact Vf
theorem Ku(V cs:Array ah)(off:Nat)(h:off+V.size<=cs.size):V.zipIdx.foldl (λ(cs:Array ah) (p:ah × Nat)=>cs.setIfInBounds (off+p.2) p.1) cs=(G' cs.toList off V.toList).toArray:=by apply hn.1;rw[<-Array.foldl_toList,Array.toList_zipIdx,xv V.toList 0 off cs ae];rfl
theorem wT(w:af)(t e:Aab)(z:ah)(k bytes:Nat)(C:Array ah)(ht:P.underlying t=some (.slice e))(hinfo:(P.info? e).map (λi=>(i.zero,i.size,i.bytes))=some (some z,k,bytes))(h0:0<k)(hk:k<=16777216)(hC:C.size=k):(Acf t 1 #[(0,.agg C)]).run P w=.ok (cC w.heap.size 1 1) (w.alloc (.cells C e)):=by
 obtain⟨i,hi,hz0,hz1,_⟩:=jC hinfo;have hf:=Ku C ((Array.range k).map (z.cells[· % z.cells.size]!)) 0 ao;have hs:(G' ((Array.range k).map (z.cells[· % z.cells.size]!)).toList 0 C.toList).toArray=C:=by unfold G';exact N8
 exact UJ
theorem bP{op:Abi}{a:Act}(hgd:op.guard=none)(t e:Aab)(x:bR)(ho:op.op=.buildSlice t 1 #[(0,x)])(z:ah)(k bytes:Nat)(C:Array ah)(hx:a.eval x=.agg C)(ht:P.underlying t=some (.slice e))(hinfo:(P.info? e).map (λi=>(i.zero,i.size,i.bytes))=some (some z,k,bytes))(h0:0<k)(hk:k<=16777216)(hC:C.size=k)(h:Aam P ops Q rest (a.put op.dst (cC w.heap.size 1 1)) (w.alloc (.cells C e))):Aam P ops Q (op::rest) a w:=by refine uW ?_;intro K hK;simp[ho,hx,(wT (P:=P) w t e z k bytes C ht hinfo h0 hk hC),Aar];exact hK _ _ h
def pl(x:af)(H:aS)(vp:ah)(P:bz):As:=⟨PF (H.at vp),λw=>PA w (H.at vp) P/\∀b,vp.ownBlock=some b->H.h.vp.ownBlock=some b\/x.heap.size<=b,λh T hf=>⟨h.1.ax T hf,h.2⟩⟩
section
variable {w w' x:af} {H:aS} {P P':bz} {vp:ah} {F0:Nat->Prop} {L L':List As}
def Fr.tp(A:PA w H P):Fr (PF H) w [pl w H H.h.vp P] w:=Fr.from (A:=pl w H H.h.vp P) ⟨A,λ_ h=>.inl h⟩ A.lt
theorem Fr.pa(s:Fr F0 x L w)(h:pl x H vp P∈L:=by exact gB):PA w (H.at vp) P:=(s.p _ h).1
theorem Fr.pt{L':ah->List As}(s:Fr F0 x L w)(d:PT w (H.at vp) P' w')(hU:∀aa,mK L (pl x H vp P) (pl x H aa P') (L' aa):=by intro _;exact tK):∃aa,Fr F0 x (L' aa) w':=by
 obtain⟨aa,A,T,O⟩:=d;refine⟨aa,s.yb (hU aa) T ⟨A,λb h=>?_⟩ (λn h=>⟨A.lt n h,?_⟩)⟩
 ·rcases O b h with h|h
  ·exact(s.p _ (hU vp).mem).2 b h
  ·exact .inr (bO s.t.size h)
 ·rcases h with h|h|h|h|h|h
  ·exact .inl (.inl h)
  ·exact .inl (.inr (.inl h))
  ·exact .inl (.inr (.inr (.inl h)))
  ·exact .inl (.inr (.inr (.inr (.inl h))))
  ·exact .inl (.inr (.inr (.inr (.inr (.inl h)))))
  ·rcases O n h with h|h
   ·exact Gp
   ·exact .inr h
theorem Fr.pg(s:Fr F0 x L w)(d:PG w (H.at vp) P w')(hU:mK L (pl x H vp P) (pl x H vp P) L':=by exact tK):Fr F0 x L' w':=s.yb hU d.2 ⟨d.1,(s.p _ hU.mem).2⟩ (λn h=>⟨d.1.lt n h,.inl h⟩)
theorem Fr.ePG(s:Fr (PF H) x L w)(h:pl x H H.h.vp P∈L:=by exact gB):PG x H P w:=⟨(s.p _ h).1,s.t⟩
theorem Fr.ePT(s:Fr (PF H) x L w)(h:pl x H vp P∈L:=by exact gB):PT x H P w:=⟨vp,(s.p _ h).1,s.t,(s.p _ h).2⟩
end
def j2(l:List au):List au:=l.filter (λx=>decide (x≠hole))
theorem P'(l:List au)(k:Nat)(h:k<κ l)(hx:l[k]≠hole):j2 (l.take (k+1))=j2 (l.take k)++[l[k]]:=by exact NS
theorem Tm(l:List au)(k:Nat)(h:k<κ l)(hx:l[k]=hole):j2 (l.take (k+1))=j2 (l.take k):=by exact NS
def ue(l:List au):κ (j2 l)<=κ l:=qh _ _
theorem SQ(a b c:au):prog.built 239 [(0,.agg (a6 a)),(1,.agg (a6 b)),(2,.agg (a6 c))]=some (aU [a,b,c]):=al
theorem Ty(l:List au)(hl:κ l=3)(k:Nat)(h:k<κ l)(W:af):(Ac0 239 (.agg (aU l)) (i6 (k:Int))).run Aag W=.ok (.agg (a6 l[k])) W:=by
 have h8:(0:Int)<=(k:Int)/\(k:Int)<((3:Nat):Int):=ae
 have hp:=DG l k h;have hs:(sizeOf 87).run Aag W=.ok 3 W:=al
 have hg:(isAgg 87).run Aag W=.ok true W:=al
 simp[Ac0,asIntOf,run_underlying (P:=Aag) underlying239,h8,hs,part,hg,hp];omega
theorem vs(w:af)(b:Nat)(hb:b=w.heap.size)(p:au):c9 (w.alloc (.cells (a6 p) 87)) (cC b 1 1) [p]:=aG.er w b hb (a6 p) 87 (0,0) [p] 1 rfl av aA
theorem CT(w:af)(F S:List au)(lF:κ F=8)(lS:κ S=8)(p root:au)(i:Nat)(hi:i<64):Aaf Aag 103 #[.agg (aU (fJ F S p)),.agg (a6 root),i6 (i:Int)] w λe w'=>∃v,e=.returned v/\a8 w' w.heap.size v (j2 [p,bB F (i/8),root])/\Up w w':=by
 obtain⟨U1,U2⟩:=az (ai w (.cells (aU (fJ F S p)) 178)) (ai (w.alloc (.cells (aU (fJ F S p)) 178)) (.cells (a6 root) 87));obtain⟨b1,b2⟩:=az ((aI.new w 178 (aU (fJ F S p))).up U2) (aI.new (w.alloc (.cells (aU (fJ F S p)) 178)) 87 (a6 root));rw[aN]at b2;obtain⟨q,hq⟩:=bE (i/8);have ab:q<8:=ae
 have aB:((i:Int)/8)=(q:Int):=ae
 rw[<-hq];clear hq;have UD:=an (Up.drew (Up.refl ((w.alloc (.cells (aU (fJ F S p)) 178)).alloc (.cells (a6 root) 87))));obtain⟨ar,ax,B2,IB,IF,IR,UU,BT⟩:=Jw (Up.range UD ((mF b1 lF lS))) (Up.range UD ((Cn b1 lF q ab))) (b2.up UD) (hU p) (hU (bB F q)) (hU root) ((U1.trans U2).trans UD) (SQ p (bB F q) root);have b8:((q:Int)<8)=True:=ao
 have wq:IntKind.i64.wrap (q:Int)=(q:Int):=bc q ae;clear lF lS;generalize bB F q=pf at *;go_in;go_wp2;refine wp_region_still_lit al al ?_;repeat(first
  | (refine gf rfl 87 (.tmp 10) rfl w.heap.size 48 rfl _ ar _ underlying87 rfl IB ?_)
  | (refine gf rfl 87 (.tmp 15) rfl w.heap.size (q*3) rfl _ ax _ underlying87 rfl IF ?_)
  | (refine iz rfl 87 (.tmp 4) rfl (w.heap.size+1) rfl 87 _ B2 _ underlying87 rfl IR ?_)
  | (refine Ei rfl 239 0 1 2 (.tmp 11) (.tmp 16) (.tmp 17) rfl _ _ _ _ BT rfl rfl rfl ?_)
  | still_step)
 refine hT ?_;show Exit.then _ _ _ _ (World.drew _);generalize((w.alloc (.cells (aU (fJ F S p)) 178)).alloc (.cells (a6 root) 87)).drew=w3 at *;clear IB IF IR BT;have ag:[p,pf,root].length=3:=rfl;generalize aC:[p,pf,root]=ls at *;obtain⟨av,ad⟩:=aw aC ag;clear ag aC wq b8 aB;go_wp2;go_loopw [7,19] (λv i wr=>∃k:Nat,k<=3/\i=i6 k/\a8 wr w.heap.size v (j2 (ls.take k))/\Up w wr) (λ_ i _=>3-(Aaq i).toNat)
 case atStart=>exact⟨0,ae,rfl,ak.nil _ _ _ _ _,UU⟩
 case round=>
  obtain⟨k,hk,rfl,hown,upr⟩:=hrel;obtain⟨HOWN,UR⟩:=aw hown upr;by_cases hlt:k<3
  ·have hkl:k<κ ls:=by rw[ad.out];exact hlt
   have IX:=Ty ls ad k hkl;obtain⟨FY,FN⟩:=aw (P' ls k hkl) (Tm ls k hkl);have aj:κ (j2 (ls.take k))<=3:=bO (ue _) (by rw[ey];omega);have b2:((k:Int)<3)=True:=ao
   generalize ls[k]=x at *;generalize j2 (ls.take k)=fl at *;have EQ:=IZ x;obtain⟨UA,BX⟩:=aw (ai wr (.cells (a6 x) 87)) (aI.new wr 87 (a6 x));have aD:=IX;by_cases hx:x=hole
   ·rw[fm hx]at EQ;have FN:=an (FN hx);clear hx FY;go_wp2_with(refine arm ?_);go_roundw
    case rel=>exact⟨k+1,ae,aq,by rw[FN.out];exact HOWN.up UA,UR.trans UA⟩
    case measure=>simp[Aaq];omega
   ·rw[jb hx]at EQ;obtain⟨FY,n1,n2,n3,OW,PR⟩:=iC (FY hx) (show(κ fl + [x].length)*24<=140737488355328 from ao) (show κ fl + [x].length<=9223372036854775807 from ao) (show w.heap.size<=((wr.alloc (.cells (a6 x) 87)).alloc (.cells (a6 x) 87)).heap.size by rw[Aa4,Aa4];have:=UR.size;omega) (HOWN.up (UA.trans (ai _ (.cells (a6 x) 87)))) (vs (wr.alloc (.cells (a6 x) 87)) _ rfl x);obtain⟨va,vc,rfl⟩:=(ak.row HOWN pw).slice;clear hx FN;go_wp2_with(first
     | refine arm ?_
     | ((with_reducible refine dS 88 1 _ ?_);refine bP rfl 88 87 (.tmp 26) rfl _ 3 24 (a6 x) rfl Aas cF ae ae rfl ?_)
     | (at_builtin;refine bI pw rfl (.tmp 25) (.tmp 27) 88 rfl w.heap.size 87 _ 24 Aas cF rfl _ fl rfl OW _ [x] rfl PR n1 n2 n3 ?_))
    intro v6 w6 aa ay aK;have U6:=an ((UR.trans (UA.trans (ai _ _))).aF aK (aE _));go_wp2;go_roundw
    case rel=>exact⟨k+1,ae,aq,by rw[FY.out];exact aa,U6⟩
    case measure=>simp[Aaq];omega
  ·obtain rfl:k=3:=by omega
   have b2:((3:Nat):Int)=3:=rfl;have ho:=HOWN.out;rw[dk (by rw[ad.out];exact aE _)]at ho;go_wp2;go_ret;exact⟨_,rfl,by rw[av.out];exact ho,UR⟩
def Tn(C:List cQ)(root:au)(i:Nat):Option cQ:=(node8 C root).bind λF=>(node8 C (bB F (i/8))).bind λS=>fM C (bB S (i%8))
theorem Qa{root:au}{s:cQ}(h:Tn C root i=some s):∃F S,node8 C root=some F/\node8 C (bB F (i/8))=some S/\fM C (bB S (i%8))=some s:=by
 unfold Tn at h;cases hF:node8 C root with
 | none=>simp_all
 | some F=>
  rw[hF,ql]at h;cases hS:node8 C (bB F (i/8))with
  | none=>simp_all
  | some S=>simp_all
theorem Wo(w:af)(H:aS)(P:bz)(A:PA w H P)(root:au)(i:Nat)(hi:i<64)(s:cQ)(hs:Tn P.C root i=some s):Aaf Aag 52 #[pz H.pb,.agg (a6 root),i6 (i:Int)] w λe w'=>e=rt #[.agg (aD s.val),i6 0]/\PG w H P w':=by
 obtain⟨F,S,hF,hS,hb⟩:=Qa hs;obtain⟨lF,lS⟩:=az (dm hF) (dm hS);obtain⟨IW,OW⟩:=aw (wi (fJ F S (bB S (i%8))) (gd lF lS _)) (jJ (fJ F S (bB S (i%8))));have aa:Hid ((aU jX).size=(aU (fJ F S (bB S (i%8)))).size):=an (by rw[cn,cn,gd lF lS];rfl);have IS:=an (dE s);obtain⟨U2,b2⟩:=az (ai (w.alloc (.cells (a6 root) 87)) (.cells (aD aM) 60)) (aI.new (w.alloc (.cells (a6 root) 87)) 60 (aD aM));rw[aN]at b2;obtain⟨B2,UU,HA⟩:=aW b2 ((ai w (.cells (a6 root) 87)).trans U2) A;have TW:=an (D9 _ H P (A.up UU) root i hi F S hF hS);have ab:=an (λW (AW:PA W H P)=>vk W H P AW (bB S (i%8)) s hb);have WI:=Cr ((w.alloc (.cells (a6 root) 87)).alloc (.cells (aD aM) 60)) (i:Int);rw[show decide (0<=(i:Int)/\(i:Int)<64)=true from ao]at WI;obtain⟨LF,LS,NS⟩:=aW lF lS (show ¬PF H (w.heap.size+1)from λhf=>by have:=HA.lt _ hf;omega);clear hF hS hb hs lF lS;generalize bB S (i%8)=p at *;go_in;go_wp2_with(refine arm ?_);refine WI.mono ?_;rintro e w3⟨rfl,rfl⟩;go_wp2_with(refine arm ?_);refine TW.mono ?_;rintro e w3⟨rfl,g3⟩;have U4:=an (ai w3 (.cells (aU (fJ F S p)) 178));obtain⟨G4,R4⟩:=aw (((PG.of HA UU).trans g3).up U4) (mF (aI.new w3 178 (aU (fJ F S p))) LF LS);go_wp2_with(first
  | refine arm ?_
  | ((with_reducible refine cB 178 (.tmp 8) (.tmp 19) ?_);refine fK w3 rfl 178 (.tmp 8) (.tmp 19) rfl (aU (fJ F S p)) 178 (aU jX) rfl rfl rfl IW aa OW ?_))
 refine(ab _ G4.1).mono ?_;rintro e w5⟨rfl,g5⟩;go_wp2_with(first
  | refine dL 60 6 29 (aD s.val) (((B2.ax g3.2 NS).up U4).ax g5.2 NS) (hi:=IS) (hold:=(an qs)) ?_)
 intro w7 ag aF;go_wp2;exact bN (hi:=IS) (.tuple #[.agg (aD s.val),i6 0]) ag ⟨rfl,((G4.trans g5).grown aF NS ae)⟩

theorem LU{f:α->List ah}(hw:gi f k)(Q:α->Prop){enc:Aab × ah->H}{W:af}{t e:Aab}{v:ah}{d:DataW H}{ps:List MemPlace}{fuel:Nat}(ht:P.underlying t=some (.slice e))(aL:P.cellsOf e=k)(ag:∀n cs y,DataW.trod enc P W 0 (λ_=>true) true n e cs=some y->(∀m∈y.1.weights P e,m∈d.weights P t)->∃x,cs=f x/\Q x)(hf:DataW.trod enc P W 0 (λ_=>true) true fuel t [v]=some (d,ps)):∃l:List α,aG f W v l/\(κ l)<=S8 d/\(d=.nil\/∃x y,d=.slice x y)/\∀x∈l,Q x:=by
 rcases E0 ht hf with⟨h1,h2⟩|⟨a,len,cap,elems,rest,n,_,aD,hx,_,hl,hm,aj,ab,a8,_⟩
 ·simp at h1;subst h1;simp only[Adh]at h2;exact⟨[],aG.nil f W,aq,.inl h2.1,aq⟩
 ·simp at aD;subst aD;simp only[Adh]at hx;obtain⟨rfl,_⟩:=hx;have ai:∀y∈elems,∀m∈y.1.weights P e,m∈(DataW.slice (elems.map (·.1)) (rest.map (·.1))).weights P t:=by
   intro y hy m hm;simp only[DataW.weights,ht];refine bn _ (nK _ ?_);have:∀(ds:List (DataW H)),y.1∈ds->m∈DataW.weightsAll P e ds:=by
    intro ds;induction ds with
    | nil=>simp
    | cons z r ih=>intro h;simp only[DataW.weightsAll,Aa3];grind
   grind
  have each:∀i,i<len->∃x,(∀j u,(f x)[j]?=some u->W.cell? ((a.add (i*k)).add j)=some u)/\Q x:=by
   intro i hi;have h:=ab i hi;rw[aL,iI ae,E1]at h;obtain⟨cs,aD,hy⟩:=h;obtain⟨x,rfl,hq⟩:=ag n cs _ hy (ai _ (cm _));refine⟨x,λj u hj=>?_,hq⟩;have aM:j<k:=by rw[<-hw.len x];exact(ki.1 hj).1
   have:=(World.cells?_some aD).2.2 j aM;simp_all
  have all:∀m,m<=len->∃l:List α,κ l=m/\(∀j u,(l.flatMap f)[j]?=some u->W.cell? (a.add j)=some u)/\∀x∈l,Q x:=by
   intro m;induction m with
   | zero=>simp
   | succ m ih=>
    intro hk;obtain⟨l,h1,h2,h3⟩:=ih ae;obtain⟨x,hx,hq⟩:=each m ae;refine⟨l++[x],ao,λj u hj=>?_,λy hy=>?_⟩
    ·rw[gl]at hj;by_cases aM:j<κ (l.flatMap f)
     ·grind
     ·rw[yB ae]at hj;simp only[Abd,List.flatMap_nil,Ab4]at hj;have:=hx _ u hj;rw[hw.flat,h1]at this aM;grind [JU]
    ·grind
  obtain⟨l,h1,h2,h3⟩:=all len (aE _);refine⟨l,?_,by grind [S8],.inr ⟨_,_,rfl⟩,h3⟩;by_cases h0:len=0
  ·exact Na
  ·have ad:0<κ (l.flatMap f):=by rw[hw.flat,h1];exact Nat.mul_pos ae hw.pos
   obtain⟨b,off,spot⟩:=a;have aa:spot=none:=by simpa[Addr.add]using World.cell?_spot (h2 0 _ (iI ad))
   subst aa;refine .inr ⟨b,off,cap,ao,ae,ae,hm,λj u hj=>?_⟩;grind [add_plain]
theorem n9(n:Nat)(h:n<=65535)(r:List aj):bo ((aZ n 2++r).take 2)=n:=by grind [bC,hc]
theorem pU(n:Nat)(r:List aj):(aZ n 2++r).drop 2=r:=aA
theorem CH(t:List aj)(ts:List (List aj)):de (t::ts)=aZ (κ t) 2++(t++de ts):=aA
theorem xX:∀(ts:List (List aj))(r:List aj),kZ ts->qM (κ ts) (de ts++r)=if r=[] then some ts else none
 | [],r,_=>by by_cases h:r=[]<;>simp[qM,de,h]
 | t::ts,r,h=>by have ht:κ t<=65535:=h t (cS ..);have ih:=xX ts r (λx hx=>h x (bn _ hx));rw[CH,Abe,Abe,Aaj,qM,n9 _ ht,pU,aO (by simp[bC]),aO (by simp[bC]),List.take_left,List.drop_left,ih];by_cases hr:r=[]<;>simp[hr]
theorem B3(ts:List (List aj))(h:tg ts)(r:List aj):my (eB ts++r)=if r=[] then some ts else none:=by unfold my eB;rw[aO (by simp[bC]),Abe,n9 _ h.1,pU,xX ts r h.2]
theorem LC(b:List aj)(k:Nat):(b.drop (16*k)).drop 16=b.drop (16*(k+1)):=ao
theorem KP(w:af)(v:ah)(b:List aj)(hv:aY w v b)(l:List au)(hl:OX b=some l):Aaf Aag 239 #[v] w λe w'=>∃u,e=.returned (.tuple #[u,.int .i64 0])/\a8 w' w.heap.size u l/\Up w w':=by
 have NO:OX b≠none:=by rw[hl];exact nofun
 obtain⟨bb,h4⟩:κ b%16=0/\(κ b)<=64000:=yK λh=>NO (aO h);have hlen:=hv.length_le;obtain⟨a,cap,rfl⟩:=hv.slice;have t1:((κ b:Int)%16 != 0)=false:=ao
 have t2:decide ((64000:Int)<(κ b:Int))=false:=ao
 have t3:decide (64000<κ b)=false:=ao
 obtain⟨T,hT⟩:=bE (κ b/16);have HN:=an (show some l=BM (e1 b T)by rw[<-hl,hT];exact bp ⟨bb,h4⟩);refine Ou ?_;intro MK;have RM:=an (λW (B:Nat) (hB:B<=W.heap.size)=>ak.room dK 3 87 W (.agg #[i6 0,.int .u64 0,.int .u32 0]) B T hB ae);generalize Acu (Value.agg #[i6 0,.int .u64 0,.int .u32 0]).cells (T*3)=zr at *;have wt:(κ b:Int)/16=(T:Int):=ae
 have av:κ b=16*T:=ae
 have aB:=an av;obtain⟨n0,ay⟩:=bE (κ b);rw[<-ay]at t1 t2 t3 wt ⊢;have aN:=hv;rw[<-ay]at aN;have aS:=an ay;have aG:n0<=64000:=ae
 have aV:T<=4000:=ae
 clear hT bb av ay h4 hlen;go_in;go_wp2;have aA:=RM w w.heap.size (aE _);obtain⟨g,hg⟩:=bE (w.heap.size);have HG:=an hg;go_loopw [0,4] (λs u wr=>∃(k n ka:Nat)(pa:Option Addr)(out:List au),s=.slice pa n ka/\aY w (.slice pa n ka) (b.drop (16*k))/\n+16*k=n0/\e1 b k=some out/\u=cC g k T/\a8 wr w.heap.size (cC g k T) out/\Up w wr) (λs _ _=>TO s)
 case atStart=>exact⟨0,n0,cap,a,[],rfl,aN,rfl,rfl,aq,aP,ai _ _⟩
 case round=>
  obtain⟨k,n,ka,pa,out,rfl,hs,aT,aL,rfl,hown,upr⟩:=hrel;clear MK wt hg t1 t2 t3;have a1:k<=T:=cr
  have al:=an aL;have aM:n=κ (b.drop (16*k)):=by rw[hA];have:=aS.out;omega
  obtain⟨aW,aX⟩:=aw aM (kN aL);clear aL aM;by_cases h0:0<n
  ·have bb:16<=n:=by simp only[Hid]at *;omega
   have aQ:k<T:=cr
   have aR:n<=ka:=by
    rcases hs with⟨_,_,_,hx,_,_⟩|⟨_,_,_,hx,_,h1,_⟩
    ·grind
    ·grind
   obtain⟨n',ag⟩:∃x,x=n-16:=⟨_,rfl⟩;obtain⟨v1,aK⟩:=bE (bW pa 0 16 ka);obtain⟨aI,aD⟩:∃p:Option Addr,p=(if ka=16 then pa else pa.map (·.add (16*1))):=⟨_,rfl⟩;obtain⟨aJ,aU⟩:∃x,x=ka-16:=⟨_,rfl⟩;have PT:∀W,(Aav 30 (.slice pa n ka) none (some (i6 16)) none).run Aag W=.ok v1 W:=λW=>by rw[aK];exact hj (P:=Aag) 30 dA dB pa n ka 16 ae W
   have PF:∀W,(Aav 30 (.slice pa n ka) (some (i6 16)) none none).run Aag W=.ok (.slice aI n' aJ) W:=λW=>by have:=df (P:=Aag) 30 dA dB pa n ka 16 ae W;rw[aD,ag,aU];exact this
   have V1:=an (show aY w v1 (jM b k)by have:=aC.piece hs (lo:=0) (hi:=16) ae cr;rw[aK];simpa[jM]using this)
   have V2:=an (show aY w (.slice aI n' aJ) (b.drop (16*(k+1)))by have:=aC.piece hs (lo:=16) (hi:=n) ae cr;rw[aD,ag,aU,<-LC];rw[dk cr]at this;exact this)
   have aH:=an (show n'+16=n from ae);have t3:decide ((0:Int)<(n:Int))=true:=ao
   have t4:decide (0<n)=true:=ao
   obtain⟨RD,NX⟩:=aw (λW (up:Up w W)=>qB W v1 (jM b k) (V1.up up) (by rw[jM,ey,hA];have:=aB.out;omega)) (nw al);clear aD ag aK aU;unfold Sr at RD;go_wp2_with fail;refine(RD _ upr).mono ?_;rintro e w2(⟨p,hp,rfl,ab⟩|⟨hp,rfl,ab⟩)
   case inr=>have h:=HN.out;rw[qA b (k+1) (by rw[NX.out,hp];rfl) T ae]at h;cases h
   case inl=>
    have HF:=an (show e1 b (k+1)=some (out++[p])by rw[NX.out,hp];rfl);clear hp;obtain⟨pl,pb,ps⟩:=p;unfold fQ;simp only;obtain⟨ax,o3⟩:=az ((upr.trans ab).trans (ai w2 (.cells #[i6 pl,.int .u64 (pb:Int),.int .u32 (ps:Int)] 87))) ((hown.up ab).up (ai w2 (.cells #[i6 pl,.int .u64 (pb:Int),.int .u32 (ps:Int)] 87)));have y0:(w2.alloc (.cells #[i6 pl,.int .u64 pb,.int .u32 ps] 87)).cell? (ad w2.heap.size 0)=some (i6 pl):=dp w2 _ _ _ 0 _ rfl;have y1:(w2.alloc (.cells #[i6 pl,.int .u64 pb,.int .u32 ps] 87)).cell? (ad w2.heap.size 1)=some (.int .u64 pb):=dp w2 _ _ _ 1 _ rfl;have y2:(w2.alloc (.cells #[i6 pl,.int .u64 pb,.int .u32 ps] 87)).cell? (ad w2.heap.size 2)=some (.int .u32 ps):=dp w2 _ _ _ 2 _ rfl;go_wp2_with(at_builtin;refine eX pw rfl (.tmp 33) (.tmp 35) 88 rfl w.heap.size 87 (.agg #[i6 0,.int .u64 0,.int .u32 0]) 24 Aas hy g T k out aX.symm rfl (o3.up (ai _ _)) (cC (w2.heap.size+1) 1 1) [⟨pl,pb,ps⟩] rfl (rG _ _ (Aa4 _ _).symm pl pb ps) (k+1) (by rw[aX.out];rfl) ae (bO ax.size (ai _ _).size) ?_);intro w5 aa _ ar;go_wp2;go_roundw
    case rel=>exact⟨k+1,n',aJ,aI,out++[⟨pl,pb,ps⟩],rfl,V2,cr,HF.out,rfl,aa,(ax.alloc _).aF ar (aE _)⟩
    case measure=>have:=aH.out;show n'<n;omega
  ·have aQ:k=T:=by simp only[Hid]at *;omega
   subst aQ;have t3:decide ((0:Int)<(n:Int))=false:=ao
   have t4:decide (0<n)=false:=ao
   have HF:=HN.out;rw[al.out]at HF;cases hR:gq out
   ·simp only[BM,hR]at HF;cases HF
   ·simp only[BM,hR]at HF;obtain rfl:=dC HF;have LR:=an (λW u (h:c9 W u l)=>sL W u l h);rw[hR]at LR;clear hR HF;go_wp2_with fail;refine(LR _ _ (ak.row hown pw)).mono ?_;rintro e w3⟨rfl,ax⟩;go_wp2;go_ret2;exact⟨_,rfl,ak.up hown ax,upr.trans ax⟩
theorem xG{s:List aj}{l:List au}(h:e1 s 8=some l):lu s=(l,0):=by grind [lu]
theorem xO{l:List au}(hl:κ l=8)(hw:∀x∈l,x.wf)(hg:jy l=true):lu (cV l)=(l,0):=by grind [xG,o5,na]
theorem vl(s:List aj):∀k l,e1 s k=some l->∀x∈l,x.wf/\cw x=true
 | 0,l,h=>by simp[e1]at h;subst h;simp
 | k+1,l,h=>by
  rw[e1]at h;cases h1:e1 s k with
  | none=>rw[h1]at h;cases h
  | some m=>
   rw[h1]at h;simp only[Option.map_eq_some_iff]at h;obtain⟨p,hp,rfl⟩:=h;obtain⟨h4,h5,_⟩:=HH _ _ hp;intro x hx;rcases Aa3.1 hx with h|h
   ·exact vl s k m h1 x h
   ·simp at h;subst h;exact⟨h4,h5⟩
theorem l'{q:au}{l:List au}(h:node8 C q=some l):∀x∈l,x.wf/\cw x=true:=by grind [oZ,e1,lu,xG,vl]
theorem BW(l:List au)(k:Nat)(hk:k<κ l)(p:au):(Abz (aU l).toList (k*3) (a6 p).toList).toArray=aU (l.set k p):=by have:=np l [p] k hk;rw[II]at this;rw[this];congr 1;rw[M0,bp hk];simp
theorem nc{l:List au}(h:∀x∈l,x.wf/\cw x=true){p:au}(hp:p.wf/\cw p=true)(k:Nat):(∀x∈l.set k p,x.wf)/\jy (l.set k p)=true:=by grind [cw,na]
theorem mh(h4:4<=i)(hi:i<1024)(s1:1<=st)(s2:st<=281474976710655)(s:cQ):(⟨(i:Int),st,eP s⟩:au).wf/\cw ⟨(i:Int),st,eP s⟩=true:=by refine⟨⟨ao,ao,Ke _ _⟩,?_⟩;grind [wc]
def zV{P:bz}{s:cQ}(hi:i<1024)(h:P.s i=1):bj (P.put i s).s+1=bj P.s:=zW hi h
theorem vv{P:bz}{s:cQ}(h:∀j,P.s j=1->4<=j/\j<κ P.C):∀j,(P.put i s).s j=1->4<=j/\j<κ (P.put i s).C:=λj hj=>by
 have aa:fW P.s i 2 j=1:=hj;unfold fW at aa;split at aa
 ·cases aa
 ·have:=h j aa;refine⟨this.1,?_⟩;show j<κ (P.C.set i s);rw[Aax];exact this.2
def ZC(P:bz)(H:aS)(root:au)(i:Nat)(b:cQ)(F S:List au)(w:af)(e:Ab3)(w':af):Prop:=(bj P.s<3/\e=.returned (.tuple #[.agg (a6 root),.slice none 0 0,.int .i64 71])/\PG w H P w')\/(3<=bj P.s/\∃(i1 i2 i3:Nat)(v:ah),i1<1024/\i2<1024/\i3<1024/\P.s i1=1/\fW P.s i1 2 i2=1/\fW (fW P.s i1 2) i2 2 i3=1/\e=.returned (.tuple #[.agg (a6 ⟨i3,P.st,eP (dG (F.set (i/8) ⟨i2,P.st,eP (dG (S.set (i%8) ⟨i1,P.st,eP b⟩))⟩))⟩),v,.int .i64 0])/\a8 w' w.heap.size v (j2 [bB S (i%8),bB F (i/8),root])/\PT w H (((P.put i1 b).put i2 (dG (S.set (i%8) ⟨i1,P.st,eP b⟩))).put i3 (dG (F.set (i/8) ⟨i2,P.st,eP (dG (S.set (i%8) ⟨i1,P.st,eP b⟩))⟩))) w')
theorem se{p u v:Tmp}{ty:Aab}(h:fn.results=#[.cell p ty,.tmp u,.tmp v])(tmps:Array ah)(P:bu)(w:af)(g:Nat)(t:Aab)(C:Array ah)(x y:ah)(hp:tmps.getD p Aat=pz g)(hu:tmps.getD u Aat=x)(hv:tmps.getD v Aat=y)(hb:aI w g t C)(d:eT)(hd:P.underlying ty=some d)(hr:d.isRow=true)(hi:(P.info? ty).map (·.size)=some C.size):(results fn tmps).run P w=.ok (.tuple #[.agg C,x,y]) w:=by
 simp only[results,h];have aL:tmps[p]?.getD Aat=pz g:=aa
 have ab:tmps[u]?.getD Aat=x:=aa
 have ax:tmps[v]?.getD Aat=y:=aa
 simp[Aa1,Aar,hp,aL,hu,ab,hv,ax,asAddr,iv (P:=P) ty g t C hb d hd hr hi]
theorem abO:zc Aag 178=aU jX:=al
theorem abN:zc Aag 176=aU eg:=al
theorem Lj{l m:List au}(h':κ m=n)(h:κ l=n):(aU l).size=(aU m).size:=by rw[cn,cn,h,h']
theorem Wq(w:af)(H:aS)(P:bz)(A:PA w H P)(root:au)(i:Nat)(hi:i<64)(F S:List au)(hF:node8 P.C root=some F)(hS:node8 P.C (bB F (i/8))=some S)(vb:ah)(b:List aj)(hb:∀w',Touch (PF H) w w'->aY w' vb b)(aa:κ b<=128)(hm:P.m<=800000)(hf:∀j,P.s j=1->4<=j/\j<κ P.C)(s1:1<=P.st)(s2:P.st<=281474976710655):Aaf Aag 47 #[pz H.pb,.agg (a6 root),i6 (i:Int),vb] w (ZC P H root i (eV b aa) F S w):=by
 obtain⟨lF,lS,gF,gS⟩:=iQ (dm hF) (dm hS) (l' hF) (l' hS);obtain⟨va,vc,rfl⟩:=(hb w (Touch.refl _ _)).slice;obtain⟨q,hq⟩:=bE (i/8);obtain⟨r,hr⟩:=bE (i%8);have lW:=gd lF lS (bB S r);obtain⟨IW,s,TW,TR⟩:=iQ (wi (fJ F S (bB S r)) lW) (Fr.tp A) (λW (B:PA W H P)=>D9 W H P B root i hi F S hF hS) (λW=>CT W F S lF lS (bB S (i%8)) root i hi);have b0:((i:Int)<64)=True:=ao
 refine Gj ?_;intro t1 t2;rw[<-hr]at TW TR;rw[<-hq]at TR;have ab:q<8:=ae
 have al:r<8:=ae
 have aB:((i:Int)/8)=(q:Int):=ae
 have aq:((i:Int)%8)=(r:Int):=ae
 refine Nj ?_;intro b8 b9 wq wr;replace hq:=an hq;replace hr:=an hr;replace hf:=an hf;go_in;go_wp2_with(refine fw s ?_;intro _ w s);refine(Cr w i).mono ?_;rintro e w⟨rfl,rfl⟩;go_wp2_with(refine fw s ?_;intro _ w s);refine(TW w s.pa).mono ?_;rintro e w⟨rfl,g3⟩;have s:=s.pg g3;go_wp2_with(refine fw s ?_;intro _ w s);refine(ob _ H P s.pa).mono ?_;rintro e _⟨rfl,rfl⟩;go_wp2_with fail;refine(mq _ H.mb P.s s.pa.map).mono ?_;rintro e _⟨rfl,rfl⟩;go_wp2_with(refine fw s ?_;intro _ w s)
 ·refine br ?_;exact .inl ⟨ae,rfl,s.ePG⟩
 have h3:3<=bj P.s:=ae
 refine(IV w H P s.pa _ b (λw' T=>hb w' (s.t.trans T (λn h _=>h))) aa ae (λj h=>(hf j h).2) ae).mono ?_;rintro e w⟨i1,ag,f1,rfl,d⟩;obtain⟨vp,s⟩:=s.pt d;have GG:=nc gS (mh (hf i1 f1).1 ag s1 s2 (eV b aa)) r;have Q2:=an (BW S r ae ⟨(i1:Int),P.st,eP (eV b aa)⟩);have ar:r*3+(a6 ⟨(i1:Int),P.st,eP (eV b aa)⟩).size<=(aU S).size:=by rw[cn,lS];show r*3+3<=24;omega
 have L2:κ (S.set r ⟨(i1:Int),P.st,eP (eV b aa)⟩)=8:=by rw[Aax];exact lS
 have h1:=zV (P:=P) (s:=eV b aa) ag f1;replace f1:=an f1;go_wp2_with(refine fw s ?_;intro _ w s);refine(D7 _ (H.at vp) _ s.pa _ L2 GG.1 GG.2 (show P.m+1<=900000 from ae) (λj h=>(vv hf j h).2) ae).mono ?_;rintro e w⟨i2,ai,f2,rfl,d⟩;obtain⟨vp,s⟩:=s.pt d;have ad:=nc gF (mh (vv hf i2 f2).1 ai s1 s2 (dG (S.set r ⟨(i1:Int),P.st,eP (eV b aa)⟩))) q;have Q3:=an (BW F q ae ⟨(i2:Int),P.st,eP (dG (S.set r ⟨(i1:Int),P.st,eP (eV b aa)⟩))⟩);have av:q*3+(a6 ⟨(i2:Int),P.st,eP (dG (S.set r ⟨(i1:Int),P.st,eP (eV b aa)⟩))⟩).size<=(aU F).size:=by rw[cn,lF];show q*3+3<=24;omega
 have L3:κ (F.set q ⟨(i2:Int),P.st,eP (dG (S.set r ⟨(i1:Int),P.st,eP (eV b aa)⟩))⟩)=8:=by rw[Aax];exact lF
 have h2:=zV (P:=P.put i1 (eV b aa)) (s:=dG (S.set r ⟨(i1:Int),P.st,eP (eV b aa)⟩)) ai f2;replace f2:=an f2;go_wp2_with(refine fw s ?_;intro _ w s);refine(D7 _ (H.at vp) _ s.pa _ L3 ad.1 ad.2 (show P.m+1+1<=900000 from ae) (λj h=>(vv (vv hf) j h).2) ae).mono ?_;rintro e w⟨i3,ak,f3,rfl,d⟩;obtain⟨vp,s⟩:=s.pt d;replace f3:=an f3;go_wp2_with(refine fw s ?_;intro _ w s);refine kw 5 s (λw s=>?_);repeat refine kt ?_
 refine CI (λw _ _=>TR w) ?_;rintro w _ s _ w'⟨v,rfl,ov,u⟩;refine⟨_,_,rfl,.q ov u s.t.size,?_⟩;refine ks (λw s=>?_);repeat refine kt ?_
 refine kd (λw u s=>?_);go_wp2_with fail;refine br ?_;exact .inr ⟨h3,i1,i2,i3,v,ag,ai,ak,f1,f2,f3,by rw[<-hq.out,<-hr.out];rfl,by rw[<-hq.out,<-hr.out];exact s.I0,by rw[<-hq.out,<-hr.out];exact s.ePT⟩
theorem lP:hole.wf/\cw hole=true:=by refine⟨⟨av,av,av⟩,av⟩
def xz(F:List au)(SS:Nat->List au)(st k:Nat):List au:=if fu (bB F k) st=true then bB F k::(SS k).filter (λx=>fu x st)else []
def jA(F:List au)(SS:Nat->List au)(st k:Nat):List au:=(Aal k).flatMap (xz F SS st)
def x'(root:au)(F:List au)(SS:Nat->List au)(st:Nat):List au:=if fu root st=true then root::jA F SS st 8 else []
theorem xA(F:List au)(SS:Nat->List au)(st k:Nat):jA F SS st (k+1)=jA F SS st k++xz F SS st k:=by unfold jA;rw[Ab0,gl];simp
theorem EO{F:List au}{SS:Nat->List au}(h:κ (SS k)=8):κ (xz F SS st k)<=9:=by grind [xz,fu]
theorem nH{F:List au}{SS:Nat->List au}{st:Nat}:∀k,(∀j,j<k->κ (SS j)=8)->κ (jA F SS st k)<=9*k
 | 0,_=>by simp[jA]
 | k+1,h=>by rw[xA,Aae];have h1:=nH (F:=F) (SS:=SS) (st:=st) k (λj hj=>h j ae);have h2:=EO (F:=F) (SS:=SS) (st:=st) (h k ae);omega
theorem Ks(p:α->Bool)(l:List α)(k:Nat)(h:k<κ l)(hp:p l[k]=true):(l.take (k+1)).filter p=(l.take k).filter p++[l[k]]:=by rw[eo h,kh];simp[hp]
theorem P1(p:α->Bool)(l:List α)(k:Nat)(h:k<κ l)(hp:p l[k]=false):(l.take (k+1)).filter p=(l.take k).filter p:=by rw[eo h,kh];simp[hp]
def V7(w:af)(p:au)(n:Nat):Aaf Aag 119 #[.agg (a6 p),u6 (n:Int)] w λe w'=>k8 (fu p n) w e w':=D1 w p n
theorem GI(w:af)(base:Nat)(hb:base<=w.heap.size)(p:au):a8 (w.alloc (.cells (a6 p) 87)) base (cC w.heap.size 1 1) [p]:=by have:=yL (base:=base) (e:=87) (size:=3) w (a6 p) 1 hb av rfl;exact this
theorem rL(l:List au)(k:Nat)(h:k<κ l):bB l k=l[k]:=by grind [bB]
theorem p9(l:List au)(hl:κ l=8)(k:Nat)(h:k<8)(W:af):(Ac0 176 (.agg (aU l)) (i6 (k:Int))).run Aag W=.ok (.agg (a6 (bB l k))) W:=by grind [rL,AB]
def abP(l:List au)(H:aS)(P:bz)(w:af)(e:Ab3)(w':af):Prop:=∃v,e=.returned (.tuple #[v,.int .i64 0])/\a8 w' w.heap.size v l/\PG w H P w'
theorem Jt(w:af)(H:aS)(P:bz)(A:PA w H P)(root:au)(st:Nat)(F:List au)(SS:Nat->List au)(hF:node8 P.C root=some F)(hS:∀k,k<8->node8 P.C (bB F k)=some (SS k)):Aaf Aag 60 #[pz H.pb,.agg (a6 root),u6 (st:Int)] w (abP (x' root F SS st) H P w):=by
 have lF:=dm hF;obtain⟨U1,HA,SN,LS,aD,LF⟩:=iC (ai w (.cells (a6 root) 87)) A (λW p=>V7 W p st) (show ∀k,k<8->κ (SS k)=8 from λk hk=>dm (hS k hk)) (hI F lF) lF;refine Gq ?_;intro ab;cases hs:fu root st
 case false=>have HL:=an (show x' root F SS st=[] by unfold x';rw[hs];rfl);go_in;go_wp2;go_step3;go_wp2_with(refine arm ?_);refine(SN _ root).mono ?_;rintro e w2⟨rfl,u2⟩;rw[hs];clear hs;go_wp2;go_ret2;exact⟨_,rfl,by rw[HL.out];exact ak.nil _ _ _ _ _,PG.of HA (U1.trans u2)⟩
 have HL:=an (show x' root F SS st=root::jA F SS st 8 by unfold x';rw[hs];rfl);go_in;go_wp2;go_step3;go_wp2_with(refine arm ?_);refine(SN _ root).mono ?_;rintro e w2⟨rfl,u2⟩;obtain⟨B2,G2⟩:=aw ((aI.new w 87 (a6 root)).up u2) (PG.of HA (U1.trans u2));rw[hs];clear hs;go_wp2_with(refine arm ?_);refine((λW (AW:PA W H P)=>rW W H P AW _ F hF) _ G2.1).mono ?_;rintro e w3⟨rfl,g3⟩;obtain⟨G3,U4,U5⟩:=aW (G2.trans g3) (ai w3 (.cells (aU F) 176)) (ai (w3.alloc (.cells (aU F) 176)) (.cells (a6 root) 87));clear SN;have SN:=an (λW p=>V7 W p st);go_wp2_with(first
  | refine bH 176 px ?_
  | ((with_reducible refine cB _ _ _ ?_);refine fK _ rfl _ (.tmp 8) (.tmp 25) rfl _ _ (aU eg) rfl rfl rfl aD (an (by rw[cn,cn,lF];rfl)) (jJ F) ?_)
  | refine db 87 4 ((B2.ax g3.2 (ab _ (aE _))).up U4) ?_
  | ((with_reducible refine dS _ 1 _ ?_);refine bP rfl 88 _ (.tmp 30) rfl _ 3 _ _ rfl Aas cF ae ae rfl ?_)
  | refine db 176 8 ((aI.new _ _ _).up U5) (hi:=aD) ?_)
 go_step3;go_wp2_with(refine arm ?_);clear aD;have a7:=an (show a8 ((w3.alloc (.cells (aU F) 176)).alloc (.cells (a6 root) 87)) w.heap.size (cC (w3.heap.size+1) 1 1) (root::jA F SS st 0)from by have:=(GI (w3.alloc (.cells (aU F) 176)) w.heap.size (by rw[Aa4];have:=G3.2.size;omega) root);rw[aN]at this;exact this)
 go_loopw [10,33] (λv i wr=>∃k:Nat,k<=8/\i=i6 k/\a8 wr w.heap.size v (root::jA F SS st k)/\PG w H P wr) (λ_ i _=>8-(Aaq i).toNat)
 case atStart=>exact⟨0,ae,rfl,a7,((G3.up U4).up U5)⟩
 case round=>
  obtain⟨k,hk,rfl,hown,hg⟩:=hrel;obtain⟨HOWN,GR⟩:=aw hown hg;by_cases hlt:k<8
  ·have IX:=p9 F LF k hlt;obtain⟨aT,IT,TK,LK⟩:=bS (xA F SS st k) (show xz F SS st k=if fu (bB F k) st=true then bB F k::(SS k).filter (λx=>fu x st)else [] from rfl) (λW AW=>(λW (AW:PA W H P) k hk=>rW W H P AW _ _ (hS k hk)) W AW k hlt) (LS k hlt);have aH:=nH (F:=F) (SS:=SS) (st:=st) k (λj hj=>LS j ae);have b2:((k:Int)<8)=True:=by simp;omega
   obtain⟨sk,aF⟩:=bE (SS k);have bc:=an aF;rw[<-aF]at IT TK LK;clear aF;generalize bB F k=x at *;generalize ad:jA F SS st k=il at *;have aG:=an ad;clear ad;have UX:=an (ai wr (.cells (a6 x) 87));obtain⟨va,vc,rfl⟩:=(ak.row HOWN pw).slice;cases hs:fu x st
   case false=>
    have NX:=an (show jA F SS st (k+1)=il by rw[aT.out,IT.out,hs];simp);go_wp2_with(refine arm ?_);go_step3;go_wp2_with(refine arm ?_);refine(SN _ x).mono ?_;rintro e w6⟨rfl,u6⟩;obtain⟨G6,O6⟩:=aw (GR.up (UX.trans u6)) (HOWN.up (UX.trans u6));rw[hs];clear hs;go_wp2;rw[Exit.noGoto_exit];go_wp2;go_roundw
    case rel=>exact⟨k+1,ae,aq,by rw[NX.out];exact O6,G6⟩
    case measure=>simp[Aaq];omega
   case true=>
    have NX:=an (show jA F SS st (k+1)=il++x::sk.filter (λx=>fu x st)by rw[aT.out,IT.out,hs];simp);go_wp2_with(refine arm ?_);go_step3;go_wp2_with(refine arm ?_);refine(SN _ x).mono ?_;rintro e w6⟨rfl,u6⟩;obtain⟨G6,O6,B6⟩:=aW (GR.up (UX.trans u6)) (HOWN.up (UX.trans u6)) ((aI.new wr 87 (a6 x)).up u6);rw[hs];clear hs;go_wp2_with(refine arm ?_);refine(TK _ G6.1).mono ?_;rintro e w7⟨rfl,g7⟩;obtain⟨aX,U8,U9⟩:=aW (hI sk LK) (ai w7 (.cells (aU sk) 176)) (ai (w7.alloc (.cells (aU sk) 176)) (.cells (a6 x) 87));obtain⟨Y9,O9,G9,n1,n2⟩:=eQ ((aI.new w7 176 (aU sk)).up U9) (((ak.ax O6 g7.2 (λb hb=>ab b (O6.aJ b hb).1)).up U8).up U9) (((G6.trans g7).up U8).up U9) (show(κ (root::il) + [x].length)*24<=140737488355328 from ao) (show(root::il).length + [x].length<=9223372036854775807 from ao);obtain⟨n3,PR⟩:=aw (show w.heap.size<=((w7.alloc (.cells (aU sk) 176)).alloc (.cells (a6 x) 87)).heap.size by have:=G9.2.size;omega) (vs (w7.alloc (.cells (aU sk) 176)) _ rfl x);clear TK;go_wp2_with(first
     | refine bH 176 px ?_
     | ((with_reducible refine cB _ (.tmp 13) (.tmp 44) ?_);refine fK w7 rfl 176 (.tmp 13) (.tmp 44) rfl (aU sk) 176 (aU eg) rfl rfl rfl aX (an (by rw[cn,cn,LK.out];rfl)) (jJ sk) ?_)
     | refine db 87 12 ((B6.ax g7.2 (ab _ GR.2.size)).up U8) ?_
     | ((with_reducible refine dS 88 1 _ ?_);refine bP rfl 88 87 (.tmp 50) rfl _ 3 24 (a6 x) rfl Aas cF ae ae rfl ?_)
     | (at_builtin;refine bI pw rfl (.tmp 49) (.tmp 51) 88 rfl w.heap.size 87 _ 24 Aas cF rfl _ (root::il) rfl O9 _ [x] rfl PR n1 n2 n3 ?_))
    intro v6 aV aa ay aK;have ck:=an aa;have aQ:=λkk aB=>(O9.aJ kk aB).1;have bd:=an (Y9.grown ay (λe=>by
     obtain⟨_,h2⟩:=O9.out;rcases h2 with⟨h3,_⟩|⟨g',al,aP,h3,_,h5,_⟩
     ·simp at h3
     ·simp only[Abh]at h3;rw[h3.1]at e;simp only[Aan,Aai]at e;subst e;have:=Y9.symm.trans h5;simp at this))
    clear n1 n2 n3;go_wp2_with(refine arm ?_);go_step3;go_wp2_with(refine arm ?_);clear aX;go_loopw [10,54] (λv i wr=>∃j:Nat,j<=8/\i=i6 j/\a8 wr w.heap.size v (root::il++x::(sk.take j).filter (λx=>fu x st))/\PG w H P wr) (λ_ i _=>8-(Aaq i).toNat)
    case atStart=>exact⟨0,ae,rfl,(by simpa using ck.out),⟨G9.1.ax (Touch.be (F:=λn=>w.heap.size<=n) ay (λkk aB=>aQ kk aB)) (λb hb=>λhle=>ab b hle hb),G9.2.hp ay aQ⟩⟩
    case round=>
     obtain⟨j,hj,rfl,hown,hg⟩:=hrel;obtain⟨HOWN,GR⟩:=aw hown hg;by_cases bp:j<8
     ·have IX:=p9 sk LK j bp;have aM:j<κ sk:=by rw[LK.out];exact bp
      obtain⟨FY,FN⟩:=aw (Ks (λx=>fu x st) sk j aM) (P1 (λx=>fu x st) sk j aM);have aj:=qh (λx=>fu x st) (sk.take j);have ar:κ (sk.take j)<=8:=by rw[ey];omega
      rw[<-rL sk j aM]at FY FN;have b3:((j:Int)<8)=True:=ao
      generalize bB sk j=y at *;generalize(sk.take j).filter (λx=>fu x st)=fl at *;have aR:κ (root::il++x::fl)<=90:=ao
      obtain⟨ls,aC⟩:=bE (root::il++x::fl);have av:=an aC;rw[<-aC]at HOWN aR;clear aC;obtain⟨UY,BY⟩:=aw (ai wr (.cells (a6 y) 87)) (aI.new wr 87 (a6 y));obtain⟨ba,bb,rfl⟩:=(ak.row HOWN pw).slice;clear aM;cases hs:fu y st
      case false=>
       have FN:=an (FN hs);clear FY;go_wp2_with(refine arm ?_);refine(SN _ y).mono ?_;rintro e bo⟨rfl,ag⟩;rw[hs];clear hs;go_wp2;go_roundw
       case rel=>exact⟨j+1,ae,aq,by rw[FN.out,<-av.out];exact(HOWN.up (UY.trans ag)),(GR.up (UY.trans ag))⟩
       case measure=>simp[Aaq];omega
      case true=>
       have FY:=an (FY hs);clear FN;go_wp2_with(refine arm ?_);refine(SN _ y).mono ?_;rintro e bo⟨rfl,ag⟩;have aO:=an (ai bo (.cells (a6 y) 87));obtain⟨az,aY⟩:=aw ((GR.up (UY.trans ag)).up aO) ((HOWN.up (UY.trans ag)).up aO);rw[hs];clear hs;obtain⟨n1,n2,n3,PR⟩:=bS (show(κ ls + [y].length)*24<=140737488355328 from ao) (show κ ls + [y].length<=9223372036854775807 from ao) (show w.heap.size<=(bo.alloc (.cells (a6 y) 87)).heap.size by have:=az.2.size;omega) (vs bo _ rfl y);go_wp2_with(first
        | refine arm ?_
        | ((with_reducible refine dS 88 1 _ ?_);refine bP rfl 88 87 (.tmp 62) rfl _ 3 24 (a6 y) rfl Aas cF ae ae rfl ?_)
        | (at_builtin;refine bI pw rfl (.tmp 61) (.tmp 63) 88 rfl w.heap.size 87 _ 24 Aas cF rfl _ ls rfl aY _ [y] rfl PR n1 n2 n3 ?_))
       intro v7 cU aL a1 bj;have aQ:=λkk aB=>(aY.aJ kk aB).1;go_wp2;go_roundw
       case rel=>exact⟨j+1,ae,aq,by rw[FY.out];have:=aL;rw[av.out]at this;simpa using this,⟨az.1.ax (Touch.be (F:=λn=>w.heap.size<=n) a1 (λkk aB=>aQ kk aB)) (λb hb=>λhle=>ab b hle hb),az.2.hp a1 aQ⟩⟩
       case measure=>simp[Aaq];omega
     ·obtain rfl:j=8:=by omega
      have b3:((8:Nat):Int)=8:=rfl;have ho:=HOWN.out;rw[dk (by rw[LK.out];exact aE _)]at ho;go_wp2;rw[Exit.noGoto_normal];go_wp2;go_roundw
      case rel=>exact⟨k+1,ae,aq,by rw[NX.out];simpa using ho,GR⟩
      case measure=>simp[Aaq];omega
  ·obtain rfl:k=8:=by omega
   have b2:((8:Nat):Int)=8:=rfl;go_wp2;try rw[Exit.noGoto_ret]
   go_ret2;exact⟨_,rfl,by rw[HL.out];exact HOWN,GR⟩
structure gI where
 take:Bool
 st:Int
 len:Int
deriving DecidableEq
def gI.sp(m:gI):bJ:=⟨m.st,m.len⟩
def vd(m:gI):List ah:=[.bool m.take,.int .i64 m.st,.int .i64 m.len]
def ig(m:gI):Array ah:=#[.bool m.take,.int .i64 m.st,.int .i64 m.len]
def k7(m:bJ):Array ah:=#[.int .i64 m.st,.int .i64 m.len]
theorem OJ:gi vd 3 where
 pos:=av
 len:=λ_=>rfl;one:=by intro x u hu;simp[vd]at hu;rcases hu with rfl|rfl|rfl<;>rfl
abbrev tL(w:af)(v:ah)(l:List gI):Prop:=aG vd w v l
abbrev nT(w:af)(base:Nat)(v:ah)(l:List gI):Prop:=ak vd 3 326 w base v l
theorem j9:(prog.info? 326).map (λi=>(i.zero,i.size,i.bytes))=some (some (.agg #[.bool false,i6 0,i6 0]),3,24):=al
theorem TD(m:gI):(prog.info? 326).map (·.size)=some (ig m).size:=al
theorem TE(m:bJ):(prog.info? 139).map (·.size)=some (k7 m).size:=al
theorem Ld(w:af)(m:gI):tL (w.alloc (.cells (ig m) 326)) (cC w.heap.size 1 1) [m]:=aG.er w _ rfl _ _ _ _ 1 rfl av rfl
theorem YE(w:af)(m:bJ):dV (w.alloc (.cells (k7 m) 139)) (cC w.heap.size 1 1) [m]:=aG.er w _ rfl _ _ _ _ 1 rfl av rfl
theorem Rg(s:bJ):cj (-1) [s]=gH s:=by grind [cj,gH,dZ]
theorem qv(w:af)(m:gI):Aaf Aag 246 #[.agg (ig m)] w λe w'=>Mw (gH m.sp) w e w':=by
 have R1:=an (show(w.alloc (.cells (ig m) 326)).rangeAt w.heap.size 1 (k7 m.sp).toList from λj v hj=>by
  rw[(aI.new w 326 (ig m)).cell];match j,hj with
  | 0,hj=>exact hj
  | 1,hj=>exact hj)
 have S1:=an (gw _ _ [m.sp] (YE (w.alloc (.cells (ig m) 326)) m.sp));rw[Rg,aN]at S1;go_in;go_wp2_with(first
  | refine arm ?_
  | ((with_reducible refine dS 63 1 _ ?_);refine bP rfl 63 139 (.tmp 4) rfl _ 2 16 (k7 m.sp) rfl underlying63 wh ae ae rfl ?_))
 refine S1.mono ?_;rintro e w1⟨rfl,u1⟩;go_wp2;go_ret;exact⟨rfl,((ai w (.cells (ig m) 326)).trans (ai (w.alloc (.cells (ig m) 326)) (.cells (k7 m.sp) 139))).trans u1⟩
theorem Pt(s:bJ):prog.built 326 [(1,.agg (k7 s))]=some (ig ⟨false,s.st,s.len⟩):=al
theorem Pu(s:bJ):prog.built 326 [(0,.bool true),(1,.agg (k7 s))]=some (ig ⟨true,s.st,s.len⟩):=al
section
variable {P:bu}
theorem w5{ops:Array Abi}{rest:List Abi}{o:Abi}{a:Act}{w:af}{Q:Exit->Act->af->Prop}(hw:Aaa o (Aaz ops a.tmps)=true)(t:Aab)(i0:Nat)(x0:bR)(ho:o.op=.build t #[(i0,x0)])(v0:ah)(C:Array ah)(hb:P.built t [(i0,v0)]=some C)(h0:a.eval x0=v0)(h:Aam P ops Q rest (a.put o.dst (.agg C)) w):Aam P ops Q (o::rest) a w:=qg hw λ_ hK=>wp_build t #[(i0,x0)] ho aP (hK _ _ (by simpa[hb,h0]using h))
theorem kG{ops:Array Abi}{rest:List Abi}{o:Abi}{a:Act}{w:af}{Q:Exit->Act->af->Prop}(hw:Aaa o (Aaz ops a.tmps)=true)(t:Aab)(i0 i1:Nat)(x0 x1:bR)(ho:o.op=.build t #[(i0,x0),(i1,x1)])(v0 v1:ah)(C:Array ah)(hb:P.built t [(i0,v0),(i1,v1)]=some C)(h0:a.eval x0=v0)(h1:a.eval x1=v1)(h:Aam P ops Q rest (a.put o.dst (.agg C)) w):Aam P ops Q (o::rest) a w:=qg hw λ_ hK=>wp_build t #[(i0,x0),(i1,x1)] ho aP (hK _ _ (by simpa[hb,h0,h1]using h))
end
theorem aG.range{f:α->List ah}{l:List α}(h:aG f w (.slice a n cap) l)(hw:gi f k)(h0:0<κ l):∃b off,a=some ⟨b,off,none⟩/\b<w.heap.size/\n<=cap/\∀i(hi:i<κ l),w.rangeAt b (off+i*k) (f l[i]):=by obtain⟨b,off,h1,h2,h3,h4⟩:=aG.get h hw h0;exact⟨b,off,h1,h2,h3,λi hi j v hj=>aP⟩
theorem YC(s:bJ):(k7 s).all (·.oneCell')=true:=by simp[k7,Ac9]
theorem OY(s:gI):(ig s).all (·.oneCell')=true:=by simp[ig,Ac9]
theorem zD:∀W:af,(Ab9 139).run Aag W=.ok (.agg (k7 ⟨0,0⟩)) W:=by simp[k7]
theorem DN{f:α->List ah}{f':β->List ah}{k k':Nat}{e e':Aab}{v v':ah}{xs:List α}{ys:List β}(h:ak f k e w base v xs)(h':ak f' k' e' w base' v' ys)(he:e≠e'):v.ownBlock=none\/v.ownBlock≠v'.ownBlock:=by exact Vi
def h4(s:bJ):gI:=⟨false,s.st,s.len⟩
def dD(s:bJ):gI:=⟨true,s.st,s.len⟩
def HQ(a b:List bJ):List gI:=(aB (oB (cI a) (cI b)) 4096).map h4++(aB (oB (cI b) (cI a)) 4096).map dD
theorem S7(w:af)(va vb:ah)(la lb:List bJ)(ha:dV w va la)(ar:∀a m c,va=.slice (some a) m c->a.block<w.heap.size)(hv:dV w vb lb)(hb:∀a m c,vb=.slice (some a) m c->a.block<w.heap.size)(ra:cj (-1) la=true)(rb:cj (-1) lb=true):Aaf Aag 276 #[va,vb] w λe w'=>∃u,e=.returned u/\nT w' w.heap.size u (HQ la lb)/\Up w w':=by
 obtain⟨a1,au,rfl⟩:=ha.slice;obtain⟨a2,ax,rfl⟩:=hv.slice;obtain⟨R1,R2,C1,C2⟩:=bS (λW (u:Up w W)=>gw W _ la (ha.up u)) (λW (u:Up w W)=>gw W _ lb (hv.up u)) (λW (u:Up w W)=>xV W _ _ la lb (ha.up u) (λa m c e=>eh (ar a m c e) u.size) (hv.up u) (λa m c e=>eh (hb a m c e) u.size)) (λW (u:Up w W)=>xV W _ _ lb la (hv.up u) (λa m c e=>eh (hb a m c e) u.size) (ha.up u) (λa m c e=>eh (ar a m c e) u.size));obtain⟨L1,L2⟩:=az (gP (oB (cI la) (cI lb)) 4096) (gP (oB (cI lb) (cI la)) 4096);have DD:=an (show HQ la lb=(aB (oB (cI la) (cI lb)) 4096).map h4++(aB (oB (cI lb) (cI la)) 4096).map dD from rfl);rw[ra]at R1;rw[rb]at R2;generalize aB (oB (cI la) (cI lb)) 4096=ls at *;generalize aB (oB (cI lb) (cI la)) 4096=ms at *;clear ar hb ra rb;go_in;go_wp2_with fail;refine(R1 _ (Up.refl _)).mono ?_;rintro e w1⟨rfl,u1⟩;go_wp2_with fail;refine(R2 _ u1).mono ?_;rintro e w2⟨rfl,u2⟩;go_wp2_with fail;refine(C1 _ (u1.trans u2)).mono ?_;rintro e w3⟨vx,rfl,aG,u3⟩;obtain⟨U3,OX⟩:=aw ((u1.trans u2).trans u3) (aG.mono (u1.trans u2).size);obtain⟨xa,xc,rfl⟩:=(aG.row Ca).slice;go_wp2;go_loopw [5,22] (λv i wr=>∃k:Nat,k<=κ ls/\i=i6 k/\nT wr w.heap.size v ((ls.take k).map h4)/\hV wr w.heap.size (.slice xa (κ ls) xc) ls/\Up w wr) (λ_ i _=>κ ls-(Aaq i).toNat)
 case atStart=>exact⟨0,bG _,rfl,ak.nil _ _ _ _ _,OX,U3⟩
 case round=>
  obtain⟨k,hk,rfl,hown,aH,upr⟩:=hrel;obtain⟨HOWN,aD,ag⟩:=aW hown aH upr;by_cases hlt:k<κ ls
  ·obtain⟨b,off,rfl,hbs,ba,hc⟩:=(aD.row Ca).range Ca ae;have b2:((k:Int)<(κ ls:Int))=True:=by simp;omega
   obtain⟨NX,RC⟩:=aw (show(ls.take (k+1)).map h4=(ls.take k).map h4++[h4 ls[k]] by rw[eo hlt,Aao];rfl) (hc k hlt);have aC:κ ((ls.take k).map h4)<=4096:=ao
   clear hc;generalize ls[k]=p at *;generalize(ls.take k).map h4=il at *;obtain⟨va,vc,rfl⟩:=(ak.row HOWN OJ).slice;obtain⟨BX,BD,U4,U5⟩:=bS (aI.new wr 139 (k7 p)) (Pt p) (ai wr (.cells (k7 p) 139)) (ai (wr.alloc (.cells (k7 p) 139)) (.cells (ig (h4 p)) 326));obtain⟨O5,X5,UU,PR,n1,n2⟩:=iC ((HOWN.up U4).up U5) ((aD.up U4).up U5) ((ag.trans U4).trans U5) (Ld (wr.alloc (.cells (k7 p) 139)) (h4 p)) (show(κ il + [h4 p].length)*24<=140737488355328 from ao) (show κ il + [h4 p].length<=9223372036854775807 from ao);have n3:=an (show w.heap.size<=((wr.alloc (.cells (k7 p) 139)).alloc (.cells (ig (h4 p)) 326)).heap.size from UU.size);go_wp2_with(first
    | refine cM 139 24 (k7 p) RC ?_
    | refine bH 139 zD ?_
    | refine dX 139 7 25 wr (k7 p) 139 (k7 ⟨0,0⟩) ?_
    | refine db 139 7 BX ?_
    | (refine w5 rfl 326 _ _ rfl _ (ig (h4 p)) BD rfl ?_)
    | ((with_reducible refine dS 270 1 _ ?_);refine bP rfl 270 326 (.tmp 28) rfl _ 3 24 (ig (h4 p)) rfl Acw j9 ae ae rfl ?_)
    | (at_builtin;refine bI OJ rfl (.tmp 26) (.tmp 29) 270 rfl w.heap.size 326 _ 24 Acw j9 rfl _ il rfl O5 _ [h4 p] rfl PR n1 n2 n3 ?_))
   intro v6 w6 aa ay aK;obtain⟨U6,O6,X6⟩:=aW (Up.aF UU aK (aE _)) aa (ak.kept X5 ay (DN X5 O5 av));go_wp2;go_roundw
   case rel=>exact⟨k+1,ae,aq,by rw[NX.out];exact O6,X6,U6⟩
   case measure=>simp[Aaq];omega
  ·obtain rfl:k=κ ls:=by omega
   refine zr ?_;intro ho;have HO:=an ho;go_wp2_with fail;refine(C2 _ ag).mono ?_;rintro e w4⟨vy,rfl,ab,u4⟩;obtain⟨U4,OX⟩:=aw (ag.trans u4) (ab.mono ag.size);obtain⟨ya,yc,rfl⟩:=(ab.row Ca).slice;generalize al:ls.map h4=fs at *;have aj:κ fs<=4096:=by rw[<-al];simp;omega
   have HF:=an al;clear al;go_wp2;go_loopw [5,36] (λv i wr=>∃k:Nat,k<=κ ms/\i=i6 k/\nT wr w.heap.size v (fs++(ms.take k).map dD)/\hV wr w.heap.size (.slice ya (κ ms) yc) ms/\Up w wr) (λ_ i _=>κ ms-(Aaq i).toNat)
   case atStart=>exact⟨0,bG _,rfl,by simpa using(HO.up u4),OX,U4⟩
   case round=>
    obtain⟨k,hk,rfl,hown,aH,upr⟩:=hrel;obtain⟨HOWN,aD,ag⟩:=aW hown aH upr;by_cases hlt:k<κ ms
    ·obtain⟨b,off,rfl,hbs,ba,hc⟩:=(aD.row Ca).range Ca ae;have b2:((k:Int)<(κ ms:Int))=True:=by simp;omega
     obtain⟨NX,RC⟩:=aw (show fs++(ms.take (k+1)).map dD=fs++(ms.take k).map dD++[dD ms[k]] by rw[eo hlt,Aao,Abe];rfl) (hc k hlt);have aC:κ (fs++(ms.take k).map dD)<=8192:=ao
     clear hc;generalize ms[k]=p at *;generalize fs++(ms.take k).map dD=il at *;obtain⟨va,vc,rfl⟩:=(ak.row HOWN OJ).slice;obtain⟨BX,BD,U4,U5⟩:=bS (aI.new wr 139 (k7 p)) (Pu p) (ai wr (.cells (k7 p) 139)) (ai (wr.alloc (.cells (k7 p) 139)) (.cells (ig (dD p)) 326));obtain⟨O5,X5,UU,PR,n1,n2⟩:=iC ((HOWN.up U4).up U5) ((aD.up U4).up U5) ((ag.trans U4).trans U5) (Ld (wr.alloc (.cells (k7 p) 139)) (dD p)) (show(κ il + [dD p].length)*24<=140737488355328 from ao) (show κ il + [dD p].length<=9223372036854775807 from ao);have n3:=an (show w.heap.size<=((wr.alloc (.cells (k7 p) 139)).alloc (.cells (ig (dD p)) 326)).heap.size from UU.size);go_wp2_with(first
      | refine cM 139 38 (k7 p) RC ?_
      | refine bH 139 zD ?_
      | refine dX 139 9 39 wr (k7 p) 139 (k7 ⟨0,0⟩) ?_
      | refine db 139 9 BX ?_
      | (refine kG rfl 326 _ _ _ _ rfl _ _ (ig (dD p)) BD rfl rfl ?_)
      | ((with_reducible refine dS 270 1 _ ?_);refine bP rfl 270 326 (.tmp 42) rfl _ 3 24 (ig (dD p)) rfl Acw j9 ae ae rfl ?_)
      | (at_builtin;refine bI OJ rfl (.tmp 40) (.tmp 43) 270 rfl w.heap.size 326 _ 24 Acw j9 rfl _ il rfl O5 _ [dD p] rfl PR n1 n2 n3 ?_))
     intro v6 w6 aa ay aK;obtain⟨U6,X6⟩:=aw (Up.aF UU aK (aE _)) (ak.kept X5 ay (DN X5 O5 av));go_wp2;go_roundw
     case rel=>exact⟨k+1,ae,aq,by rw[NX.out];exact aa,X6,U6⟩
     case measure=>simp[Aaq];omega
    ·obtain rfl:k=κ ms:=by omega
     refine zr ?_;intro ho;go_wp2;go_ret;exact⟨_,rfl,by rw[DD.out];exact ho,ag⟩
def s9:List Int:=[1,2,2]
def Z5(m:gI):List Nat:=[if m.take=true then 1 else 0,m.st.toNat,m.len.toNat]
def iV(m:gI):List aj:=aX s9 (Z5 m)
def iq(l:List gI):List aj:=l.flatMap iV
def zu(m:gI):Prop:=gH m.sp=true
theorem jI(m:gI):κ (iV m)=5:=aA
theorem jj(l:List gI):κ (iq l)=5*κ l:=by
 induction l with
 | nil=>rfl
 | cons m l ih=>grind [iq,iV,jI]
theorem Qw{l:List gI}(h:k<κ l):iq (l.take (k+1))=iq (l.take k)++iV l[k]:=by unfold iq;rw[eo h,gl];simp
theorem xC{m:gI}(h:zu m):∃x y:Nat,m=⟨m.take,x,y⟩/\x<4096/\1<=y/\y<=4096:=by obtain⟨aa,s,l⟩:=m;have:=(dZ s l).1 h;exact⟨s.toNat,l.toNat,ao,ae,ae,ae⟩
theorem Bu{n x y:Nat}(hn:n<=1)(hx:x<4096)(hy:y<=4096):nr s9 [n,x,y]:=by refine⟨rfl,av,?_⟩;grind [s9,fits]
def ys(w:af)(v:ah)(ws:List Int)(hv:aC bA w v ws)(hlen:κ ws*8<=140737488351232)(u:ah)(ns:List Nat)(hu:aC cu w u ns)(ad:∀n∈ns,n<18446744073709551616)(ak:nr ws ns):Aaf Aag 240 #[v,u] w λe w'=>∃v,e=rt #[v,i6 0]/\Own aH 5 w' w.heap.size v (aX ws ns)/\Up w w':=o4 w v ws hv hlen u ns hu ad ak
theorem vV:∀W:af,(Ab9 326).run Aag W=.ok (.agg (ig ⟨false,0,0⟩)) W:=by simp[ig]
theorem kU(w:af):Aaf Aag 245 #[] w λe w'=>∃v,e=.returned v/\Own bA 3 w' w.heap.size v s9/\Up w w':=by go_in;go_wp2;go_ret;exact⟨_,rfl,(yL (base:=w.heap.size) (e:=3) (size:=1) w #[i6 1,i6 2,i6 2] 3 (aE _) av rfl),ai _ _⟩
theorem Ez(w:af)(va:ah)(la:List bJ)(ha:dV w va la)(ar:∀a m c,va=.slice (some a) m c->a.block<w.heap.size)(ra:cj (-1) la=true):Aaf Aag 248 #[va] w λe w'=>∃u,e=.returned u/\nT w' w.heap.size u (HQ [] la)/\Up w w':=by have D:=an (S7 w (nl) va [] la (aG.nil _ _) (λa m c h=>aP) ha ar rfl ra);obtain⟨a1,au,rfl⟩:=ha.slice;clear ar;go_in;go_wp2_with fail;refine D.mono ?_;rintro e w1⟨u,rfl,own,up⟩;go_wp2;go_ret;exact⟨u,rfl,own,up⟩
theorem LW(w:af)(v:ah)(l:List gI)(hv:tL w v l)(hl:κ l<=4096)(hr:∀m∈l,zu m):Aaf Aag 249 #[v] w λe w'=>∃u,e=rt #[u,i6 0]/\Own aH 5 w' w.heap.size u (iq l)/\Up w w':=by
 obtain⟨HV,aB⟩:=aw hv hr;obtain⟨a1,au,rfl⟩:=hv.slice;have HM:=kE (P:=Aag) 30 5 (.int .u8 0) 1 Aau ew (5*κ l) ae ae;rw[show((5*κ l:Nat):Int)=5*(κ l:Int)from ae]at HM;have b1:((κ l:Int)>4096)=False:=ao
 clear hr;go_in;go_wp2;clear HM;go_loopw [4,19] (λv i wr=>∃k:Nat,k<=κ l/\i=i6 k/\Own aH 5 wr w.heap.size v (iq (l.take k))/\Up w wr) (λ_ i _=>κ l-(Aaq i).toNat)
 case atStart=>exact⟨0,bG _,rfl,by simpa[iq]using(Own.room aH 5 w (.int .u8 0) w.heap.size (5*κ l) (aE _) ae),(ai w (.cells (j1 (.int .u8 0) (5*κ l)) 5))⟩
 case round=>
  obtain⟨k,hk,rfl,hown,upr⟩:=hrel;obtain⟨HOWN,ag⟩:=aw hown upr;by_cases hlt:k<κ l
  ·obtain⟨b,off,rfl,hbs,ba,hc⟩:=(HV.up ag).range OJ ae;refine ir ?_;intro b2;obtain⟨NX,RC⟩:=aw (Qw hlt) (hc k hlt);obtain⟨RM,LL⟩:=az (aB _ (cm hlt)) (jj (l.take k));have LT:κ (l.take k)<=4096:=by rw[ey];omega
   clear hc;generalize l[k]=p at *;obtain⟨x,y,hp,hx,aG,hy⟩:=xC RM;have BB:=an (show iV p=aX s9 [if p.take=true then 1 else 0,x,y] by rw[hp];unfold iV Z5;simp);have aR:κ (iq (l.take k))<=20480:=ae
   clear LL LT;generalize iq (l.take k)=il at *;have RG:=an (λW=>qv W p);rw[show gH p.sp=true from RM]at RG;generalize aj:iV p=bb at *;have HBL:=an (show κ bb=5 by rw[<-aj,jI]);clear aj;generalize aU:p.take=aa at *;subst hp;clear aU;obtain⟨BX,U2⟩:=aw (aI.new wr 326 (ig ⟨aa,x,y⟩)) (ai wr (.cells (ig ⟨aa,x,y⟩) 326));cases aa
   ·go_wp2_with(first
     | refine cM 326 21 (ig ⟨false,(x:Int),(y:Int)⟩) RC ?_
     | refine bH 326 vV ?_
     | refine dX 326 6 22 wr (ig ⟨false,(x:Int),(y:Int)⟩) 326 (ig ⟨false,0,0⟩) ?_
     | refine db 326 6 BX ?_)
    refine(RG _).mono ?_;rintro e w3⟨rfl,u3⟩;obtain⟨U3,B3,O3⟩:=aW ((ag.trans U2).trans u3) (BX.up u3) ((HOWN.up U2).up u3);clear RG;have d0:w3.cell? (ad wr.heap.size 0)=some (.bool false):=B3.cell 0;go_wp2;clear d0;refine e8 (S:=λW=>aI W wr.heap.size 326 (ig ⟨false,(x:Int),(y:Int)⟩)) al ?_;change Acp _ _ _ _ _ 17 _ _ (w3.drew);have UD:=an (Up.drew (Up.refl w3));obtain⟨B3,O3,U3⟩:=aW (B3.up UD) (O3.up UD) (U3.trans UD);generalize w3.drew=w4 at *;have wx:=dP x ae;have wy:=dP y ae;refine ta 1 ?_;refine ni ?_;refine tb 4 rfl (yc (λW hS=>hS.cell 1)) ?_;refine uU ?_;refine tb 8 rfl (yc (λW hS=>hS.cell 2)) ?_;refine ta 9 ?_;have F4:=an (show aI w4 wr.heap.size 326 (ig ⟨false,(x:Int),(y:Int)⟩)/\Up w4 w4 from⟨B3,Up.refl _⟩);refine pX 0 10 al rfl rfl rfl rfl ?_ ?_
    ·intro K hK;go_simp;refine(kU _).mono ?_;rintro e w5⟨vw,rfl,ow,u5⟩;obtain⟨OW,F5⟩:=aw (ow.mono (F4.2.size)) (show aI w5 wr.heap.size 326 (ig ⟨false,(x:Int),(y:Int)⟩)/\Up w4 w5 from⟨F4.1.up u5,F4.2.trans u5⟩);refine hK _ _ F5.1 ?_;clear hK K;refine ok 10 ?_;intro K hK;go_simp;have IN:=an (aC.er (f:=cu) w5 w5.heap.size rfl #[.int .u64 0,.int .u64 (x:Int),.int .u64 (y:Int)] 70 (0,0) [0,x,y] 3 rfl dy rfl);have u6:=ai w5 (.cells #[.int .u64 0,.int .u64 (x:Int),.int .u64 (y:Int)] 70);obtain⟨F6,OW⟩:=aw (show aI (w5.alloc (.cells #[.int .u64 0,.int .u64 (x:Int),.int .u64 (y:Int)] 70)) wr.heap.size 326 (ig ⟨false,(x:Int),(y:Int)⟩)/\Up w4 (w5.alloc (.cells #[.int .u64 0,.int .u64 (x:Int),.int .u64 (y:Int)] 70))from⟨F5.1.up u6,F5.2.trans u6⟩) (OW.up u6);refine hK _ _ F6.1 ?_;clear hK K;generalize w5.alloc (.cells #[.int .u64 0,.int .u64 (x:Int),.int .u64 (y:Int)] 70)=w6 at *;refine ok 11 ?_;intro K hK;obtain⟨va,vc,rfl⟩:=(Own.cv OW).slice;go_simp;refine NT ?_;intro w7 vp op u7 OP;refine Uh ?_;clear hK K F4 F5 F6 BB wx wy aB;intro OP OZ UZ ar za zc ak;subst ak;refine zs ?_;intro n1 n2;go_wp2_with(at_builtin;refine bf aH cg rfl (.tmp 45) (.tmp 46) 30 rfl w.heap.size 5 (.int .u8 0) 1 Aau ew rfl _ _ rfl OZ (.slice za 5 zc) bb rfl ar n1 n2 UZ.size ?_);intro v8 w8 ab ax av;obtain⟨U8,O8⟩:=aw (UZ.aF av (aE _)) ab;go_wp2;go_roundw
     case rel=>exact⟨k+1,ae,aq,by rw[NX.out];exact O8,U8⟩
     case measure=>simp[Aaq];omega
    ·intro K hK;go_simp;have IN:=an (aC.er (f:=cu) w4 w4.heap.size rfl #[.int .u64 0,.int .u64 (x:Int),.int .u64 (y:Int)] 70 (0,0) [0,x,y] 3 rfl dy rfl);have u5:=ai w4 (.cells #[.int .u64 0,.int .u64 (x:Int),.int .u64 (y:Int)] 70);have F5:=an (show aI (w4.alloc (.cells #[.int .u64 0,.int .u64 (x:Int),.int .u64 (y:Int)] 70)) wr.heap.size 326 (ig ⟨false,(x:Int),(y:Int)⟩)/\Up w4 (w4.alloc (.cells #[.int .u64 0,.int .u64 (x:Int),.int .u64 (y:Int)] 70))from⟨F4.1.up u5,F4.2.trans u5⟩);refine hK _ _ F5.1 ?_;clear hK K;generalize w4.alloc (.cells #[.int .u64 0,.int .u64 (x:Int),.int .u64 (y:Int)] 70)=w5 at *;refine ok 0 ?_;intro K hK;go_simp;refine(kU _).mono ?_;rintro e w6⟨vw,rfl,ow,u6⟩;obtain⟨OW,F6,IN⟩:=aW (ow.mono (F5.2.size)) (show aI w6 wr.heap.size 326 (ig ⟨false,(x:Int),(y:Int)⟩)/\Up w4 w6 from⟨F5.1.up u6,F5.2.trans u6⟩) (IN.up u6);refine hK _ _ F6.1 ?_;clear hK K;refine ok 11 ?_;intro K hK;obtain⟨va,vc,rfl⟩:=(Own.cv OW).slice;go_simp;refine NT ?_;intro w7 vp op u7 OP;refine Uh ?_;clear hK K F4 F5 F6 BB wx wy aB;intro OP OZ UZ ar za zc ak;subst ak;refine zs ?_;intro n1 n2;go_wp2_with(at_builtin;refine bf aH cg rfl (.tmp 45) (.tmp 46) 30 rfl w.heap.size 5 (.int .u8 0) 1 Aau ew rfl _ _ rfl OZ (.slice za 5 zc) bb rfl ar n1 n2 UZ.size ?_);intro v8 w8 ab ax av;have U8:=an (UZ.aF av (aE _));go_wp2;go_roundw
     case rel=>exact⟨k+1,ae,aq,by rw[NX.out];exact ab,U8⟩
     case measure=>simp[Aaq];omega
   ·go_wp2_with(first
     | refine cM 326 21 (ig ⟨true,(x:Int),(y:Int)⟩) RC ?_
     | refine bH 326 vV ?_
     | refine dX 326 6 22 wr (ig ⟨true,(x:Int),(y:Int)⟩) 326 (ig ⟨false,0,0⟩) ?_
     | refine db 326 6 BX ?_)
    refine(RG _).mono ?_;rintro e w3⟨rfl,u3⟩;obtain⟨U3,B3,O3⟩:=aW ((ag.trans U2).trans u3) (BX.up u3) ((HOWN.up U2).up u3);clear RG;have d0:w3.cell? (ad wr.heap.size 0)=some (.bool true):=B3.cell 0;go_wp2;clear d0;refine e8 (S:=λW=>aI W wr.heap.size 326 (ig ⟨true,(x:Int),(y:Int)⟩)) al ?_;change Acp _ _ _ _ _ 17 _ _ (w3.drew);have UD:=an (Up.drew (Up.refl w3));obtain⟨B3,O3,U3⟩:=aW (B3.up UD) (O3.up UD) (U3.trans UD);generalize w3.drew=w4 at *;have wx:=dP x ae;have wy:=dP y ae;refine ta 1 ?_;refine ni ?_;refine tb 4 rfl (yc (λW hS=>hS.cell 1)) ?_;refine uU ?_;refine tb 8 rfl (yc (λW hS=>hS.cell 2)) ?_;refine ta 9 ?_;have F4:=an (show aI w4 wr.heap.size 326 (ig ⟨true,(x:Int),(y:Int)⟩)/\Up w4 w4 from⟨B3,Up.refl _⟩);refine pX 0 10 al rfl rfl rfl rfl ?_ ?_
    ·intro K hK;go_simp;refine(kU _).mono ?_;rintro e w5⟨vw,rfl,ow,u5⟩;obtain⟨OW,F5⟩:=aw (ow.mono (F4.2.size)) (show aI w5 wr.heap.size 326 (ig ⟨true,(x:Int),(y:Int)⟩)/\Up w4 w5 from⟨F4.1.up u5,F4.2.trans u5⟩);refine hK _ _ F5.1 ?_;clear hK K;refine ok 10 ?_;intro K hK;go_simp;have IN:=an (aC.er (f:=cu) w5 w5.heap.size rfl #[.int .u64 1,.int .u64 (x:Int),.int .u64 (y:Int)] 70 (0,0) [1,x,y] 3 rfl dy rfl);have u6:=ai w5 (.cells #[.int .u64 1,.int .u64 (x:Int),.int .u64 (y:Int)] 70);obtain⟨F6,OW⟩:=aw (show aI (w5.alloc (.cells #[.int .u64 1,.int .u64 (x:Int),.int .u64 (y:Int)] 70)) wr.heap.size 326 (ig ⟨true,(x:Int),(y:Int)⟩)/\Up w4 (w5.alloc (.cells #[.int .u64 1,.int .u64 (x:Int),.int .u64 (y:Int)] 70))from⟨F5.1.up u6,F5.2.trans u6⟩) (OW.up u6);refine hK _ _ F6.1 ?_;clear hK K;generalize w5.alloc (.cells #[.int .u64 1,.int .u64 (x:Int),.int .u64 (y:Int)] 70)=w6 at *;refine ok 11 ?_;intro K hK;obtain⟨va,vc,rfl⟩:=(Own.cv OW).slice;go_simp;refine NU ?_;intro w7 vp op u7 OP;refine Ui ?_;clear hK K F4 F5 F6 BB wx wy aB;intro OP OZ UZ ar za zc ak;subst ak;refine zs ?_;intro n1 n2;go_wp2_with(at_builtin;refine bf aH cg rfl (.tmp 45) (.tmp 46) 30 rfl w.heap.size 5 (.int .u8 0) 1 Aau ew rfl _ _ rfl OZ (.slice za 5 zc) bb rfl ar n1 n2 UZ.size ?_);intro v8 w8 ab ax av;obtain⟨U8,O8⟩:=aw (UZ.aF av (aE _)) ab;go_wp2;go_roundw
     case rel=>exact⟨k+1,ae,aq,by rw[NX.out];exact O8,U8⟩
     case measure=>simp[Aaq];omega
    ·intro K hK;go_simp;have IN:=an (aC.er (f:=cu) w4 w4.heap.size rfl #[.int .u64 1,.int .u64 (x:Int),.int .u64 (y:Int)] 70 (0,0) [1,x,y] 3 rfl dy rfl);have u5:=ai w4 (.cells #[.int .u64 1,.int .u64 (x:Int),.int .u64 (y:Int)] 70);have F5:=an (show aI (w4.alloc (.cells #[.int .u64 1,.int .u64 (x:Int),.int .u64 (y:Int)] 70)) wr.heap.size 326 (ig ⟨true,(x:Int),(y:Int)⟩)/\Up w4 (w4.alloc (.cells #[.int .u64 1,.int .u64 (x:Int),.int .u64 (y:Int)] 70))from⟨F4.1.up u5,F4.2.trans u5⟩);refine hK _ _ F5.1 ?_;clear hK K;generalize w4.alloc (.cells #[.int .u64 1,.int .u64 (x:Int),.int .u64 (y:Int)] 70)=w5 at *;refine ok 0 ?_;intro K hK;go_simp;refine(kU _).mono ?_;rintro e w6⟨vw,rfl,ow,u6⟩;obtain⟨OW,F6,IN⟩:=aW (ow.mono (F5.2.size)) (show aI w6 wr.heap.size 326 (ig ⟨true,(x:Int),(y:Int)⟩)/\Up w4 w6 from⟨F5.1.up u6,F5.2.trans u6⟩) (IN.up u6);refine hK _ _ F6.1 ?_;clear hK K;refine ok 11 ?_;intro K hK;obtain⟨va,vc,rfl⟩:=(Own.cv OW).slice;go_simp;refine NU ?_;intro w7 vp op u7 OP;refine Ui ?_;clear hK K F4 F5 F6 BB wx wy aB;intro OP OZ UZ ar za zc ak;subst ak;refine zs ?_;intro n1 n2;go_wp2_with(at_builtin;refine bf aH cg rfl (.tmp 45) (.tmp 46) 30 rfl w.heap.size 5 (.int .u8 0) 1 Aau ew rfl _ _ rfl OZ (.slice za 5 zc) bb rfl ar n1 n2 UZ.size ?_);intro v8 w8 ab ax av;have U8:=an (UZ.aF av (aE _));go_wp2;go_roundw
     case rel=>exact⟨k+1,ae,aq,by rw[NX.out];exact ab,U8⟩
     case measure=>simp[Aaq];omega
  ·obtain rfl:k=κ l:=by omega
   refine zr ?_;intro ho;go_wp2;go_ret2;exact⟨_,rfl,ho,ag⟩
def ED(w:af)(v:ah)(ws:List Int)(hv:aC bA w v ws)(hlen:κ ws*8<=140737488351232)(u:ah)(b:List aj)(hu:aY w u b)(ak:Br ws b):Aaf Aag 177 #[v,u] w λe w'=>∃v,e=rt #[v,i6 0]/\Own cu 70 w' w.heap.size v (c8 ws b)/\Up w w':=uh w v ws hv hlen u b hu ak
theorem me{f:α->ah}{l:List α}(h:aC f w (.slice a n cap) l):n<=cap:=by
 rcases h with⟨rfl,a',al,hv,hm,hn⟩|⟨b,off,al,hv,h0,hl,hm,hc⟩
 ·simp_all
 ·simp_all
def OZ(v:ah):Nat:=match v with | .slice _ n _=>n|_=>0
theorem VF(m:gI):Br s9 (iV m):=⟨av,aA⟩
def ZP{n x y:Nat}(hn:n<=1)(hx:x<4096)(hy:y<=4096):c8 s9 (aX s9 [n,x,y])=[n,x,y]:=q5 _ _ rfl (Bu hn hx hy).2.2
theorem Qv{l:List gI}(h:k<κ l):iq (l.drop k)=iV l[k]++iq (l.drop (k+1)):=by unfold iq;rw[qi h,Abd]
section
variable {P:bu} {ops:Array Abi} {S:af->Prop} {o:Abi} {v:ah} {a:Act}
theorem xc(hw:Aaa o (Aaz ops a.tmps)=true)(t:Aab)(i0 i1:Nat)(x0 x1:bR)(ho:o.op=.build t #[(i0,x0),(i1,x1)])(v0 v1:ah)(C:Array ah)(hb:P.built t [(i0,v0),(i1,v1)]=some C)(h0:a.eval x0=v0)(h1:a.eval x1=v1):Ach P ops S o (.agg C) a:=.inl ⟨hw,λw _=>by
  unfold Abt;simp only[ho,List.map_toArray,Ab8,List.map_nil,h0,h1,Aa1,run_build w t _ C hb,Aay,Ac7]⟩
end
theorem Px(x y:Nat):prog.built 139 [(0,i6 (x:Int)),(1,i6 (y:Int))]=some (k7 ⟨x,y⟩):=al
theorem Pv(aa:Bool)(x y:Nat):prog.built 326 [(0,.bool aa),(1,.agg (k7 ⟨x,y⟩))]=some (ig ⟨aa,x,y⟩):=al
theorem RA(w:af)(v:ah)(l:List gI)(hv:aY w v (iq l))(hl:κ l<=4096)(hr:∀m∈l,zu m):Aaf Aag 187 #[v] w λe w'=>∃u,e=rt #[u,i6 0]/\nT w' w.heap.size u l/\Up w w':=by
 obtain⟨HV,aB⟩:=aw hv hr;obtain⟨a1,au,rfl⟩:=hv.slice;have HM:=mo (P:=Aag) 270 326 _ 3 24 Acw j9 (κ l) ae ae;have r1:((5*(κ l:Int)).tmod 5)=0:=by rw[Int.tmod_eq_emod_of_nonneg ae];omega
 have r2:((5*(κ l:Int)).tdiv 5)=κ l:=by rw[Int.tdiv_eq_ediv_of_nonneg ae];omega
 have b1:((5*(κ l:Int))>20480)=False:=ao
 have q5:((κ (iq l):Nat):Int)=5*(κ l:Int):=by rw[(jj l)];omega
 clear hr;go_in;go_wp2;clear HM r1 r2 b1;go_loopw [0,4] (λu v wr=>∃k:Nat,k<=κ l/\aY w u (iq (l.drop k))/\nT wr w.heap.size v (l.take k)/\Up w wr) (λu _ _=>OZ u)
 case atStart=>exact⟨0,bG _,by rw[Aaw];exact HV,by rw[Abl];exact(ak.room vd 3 326 w (.agg #[.bool false,i6 0,i6 0]) w.heap.size (κ l) (aE _) ae),(ai w (.cells (Acu (Value.agg #[.bool false,i6 0,i6 0]).cells (κ l*3)) 326))⟩
 case round=>
  obtain⟨k,hk,hu,hown,upr⟩:=hrel;obtain⟨HOWN,ag,HU⟩:=aW hown upr hu;clear q5;have hN:=jj (l.drop k);rw[hA]at hN;obtain⟨za,zc,rfl⟩:=hu.slice;by_cases hlt:k<κ l
  ·obtain⟨NX,DP⟩:=aw (eo hlt) (Qv hlt);have RM:=aB _ (cm hlt);have LT:κ (l.take k)<=4096:=by rw[ey];omega
   generalize l[k]=p at *;obtain⟨x,y,hp,hx,aG,hy⟩:=xC RM;have RG:=an (λW=>qv W p);rw[show gH p.sp=true from RM]at RG;obtain⟨v1,aK⟩:=bE (bW za 0 5 zc);obtain⟨v3,aD⟩:=bE (bW za 5 (κ (iq (l.drop k))) zc);have V1:=an (show aY w v1 (iV p)by have:=aC.piece HU (lo:=0) (hi:=5) ae ae;rw[aK];rw[DP.out,Aaw,h0 (jI p)]at this;exact this)
   have V3:=an (show aY w v3 (iq (l.drop (k+1)))by have:=aC.piece HU (lo:=5) (hi:=κ (iq (l.drop k))) ae ae;rw[aD];rw[dk (aE _)]at this;rw[DP.out,lh (jI p),<-DP.out]at this;exact this)
   have PT:∀W,(Aav 30 (.slice za (κ (iq (l.drop k))) zc) none (some (i6 5)) none).run Aag W=.ok v1 W:=λW=>by rw[aK];exact hj (P:=Aag) 30 dA dB za _ zc 5 (by have:=(me hu);omega) W
   have PF:∀W,(Aav 30 (.slice za (κ (iq (l.drop k))) zc) (some (i6 5)) none none).run Aag W=.ok v3 W:=λW=>by rw[aD];exact df (P:=Aag) 30 dA dB za _ zc 5 ae W
   have MS:=an (show OZ v3<κ (iq (l.drop k)) from by rw[aD];show(iq (l.drop k)).length-5<_;omega)
   have b2:((κ (iq (l.drop k)):Nat):Int)>0:=ae
   clear aK aD DP hN;generalize aj:iV p=bb at *;have aN:=an (VF p);have GB:=an (show c8 s9 bb=[if p.take=true then 1 else 0,x,y] by rw[<-aj,hp];unfold iV Z5;simp only[Abr];exact ZP (by split<;>omega) hx hy)
   rw[aj]at aN;clear aj;generalize aL:p.take=aa at *;subst hp;clear aL;obtain⟨n0,ay⟩:∃n0:Nat,n0=(if aa=true then 1 else 0):=⟨_,rfl⟩;have E0:=an (show decide ((n0:Int)=1)=aa by rw[ay];cases aa<;>simp);have b3:((n0:Int)>1)=False:=by
    have:n0<=1:=by rw[ay];split<;>omega
    simp;omega
   rw[<-ay]at GB;clear ay;have wx:=bc x ae;have wy:=bc y ae;generalize(iq (l.drop k)).length=nn at *;go_wp2;refine e8 (S:=λ_=>True) al ?_;change Acp _ _ _ _ _ 9 _ _ (wr.drew);have UD:=an (Up.drew (Up.refl wr));generalize wr.drew=w4 at *;refine ta 1 ?_;refine ta 2 ?_;refine ok 0 ?_;intro K hK;go_simp;refine(kU _).mono ?_;rintro e w5⟨vw,rfl,ow,u5⟩;obtain⟨OW,U5⟩:=aw ow (UD.trans u5);refine hK _ _ trivial ?_;clear hK K;refine ok 3 ?_;intro K hK;obtain⟨va,vc,rfl⟩:=(Own.cv OW).slice;go_simp;refine(ED _ _ s9 OW.cv (by simp[s9]) _ bb (V1.up (ag.trans U5)) aN).mono ?_;rintro e w6⟨vn,rfl,on,u6⟩;rw[GB.out]at on;obtain⟨ON,U6⟩:=aw on (U5.trans u6);refine hK _ _ trivial ?_;clear hK K;refine ta 4 ?_;refine uU ?_;refine ta 8 ?_;refine dn ?_;obtain⟨g,ax,rfl,aP,hg,hc,_,_⟩:=Own.row ON aq;have c0:w6.cell? (ad g 0)=some (.int .u64 (n0:Int)):=hc 0 aq;obtain⟨C1,C2⟩:=aw (show w6.cell? (ad g 1)=some (.int .u64 (x:Int))from hc 1 aq) (show w6.cell? (ad g 2)=some (.int .u64 (y:Int))from hc 2 aq);clear hc GB PT;go_wp2;have C0:=an c0;clear c0 b3;refine e8 (S:=λW=>W.cell? (ad g 0)=some (.int .u64 (n0:Int))/\W.cell? (ad g 1)=some (.int .u64 (x:Int))/\W.cell? (ad g 2)=some (.int .u64 (y:Int))) al ?_;change Acp _ _ _ _ _ 16 _ _ (w6.drew);have UD:=an (Up.drew (Up.refl w6));obtain⟨F7,U7,aO,HZ⟩:=bS (show w6.drew.cell? (ad g 0)=some (.int .u64 (n0:Int))/\w6.drew.cell? (ad g 1)=some (.int .u64 (x:Int))/\w6.drew.cell? (ad g 2)=some (.int .u64 (y:Int))from⟨UD.cell C0,UD.cell C1,UD.cell C2⟩) ((ag.trans U6).trans UD) (U6.trans UD) UD.size;clear C0 C1 C2;generalize w6.drew=w7 at *;refine ta 0 ?_;refine ta 1 ?_;refine tb 2 rfl (yc (λW hS=>hS.1)) ?_;refine tk 3 (.bool aa) rfl (qZ rfl (λ_=>by go_simp;rw[<-E0.out];rfl)) (F7) ?_;refine ta 4 ?_;refine ta 5 ?_;refine tb 6 rfl (yc (λW hS=>hS.2.1)) ?_;refine F' ?_;refine tb 10 rfl (yc (λW hS=>hS.2.2)) ?_;refine bx ?_;refine ta 11 ?_;refine bx ?_;refine tb 12 rfl (xc rfl _ _ _ _ _ rfl _ _ _ (Px x y) rfl rfl) ?_;refine bx ?_;refine tb 13 rfl (xc rfl _ _ _ _ _ rfl _ _ _ (Pv aa x y) rfl rfl) ?_;refine bx ?_;obtain⟨IS,OS⟩:=aw (TD ⟨aa,x,y⟩) (OY ⟨aa,x,y⟩);refine ok 14 ?_;intro K hK;refine fx 326 rfl (ig ⟨false,0,0⟩) vV ?_;have u8:=ai w7 (.cells (ig ⟨false,0,0⟩) 326);obtain⟨F8,B8⟩:=aw (show(w7.alloc (.cells (ig ⟨false,0,0⟩) 326)).cell? (ad g 0)=some (.int .u64 (n0:Int))/\(w7.alloc (.cells (ig ⟨false,0,0⟩) 326)).cell? (ad g 1)=some (.int .u64 (x:Int))/\(w7.alloc (.cells (ig ⟨false,0,0⟩) 326)).cell? (ad g 2)=some (.int .u64 (y:Int))from⟨u8.cell F7.1,u8.cell F7.2.1,u8.cell F7.2.2⟩) (aI.new w7 326 (ig ⟨false,0,0⟩));have aM:w6.heap.size<=w7.heap.size:=HZ;refine hK _ _ F8 ?_;refine gF ?_;clear hK K;generalize aH:w7.alloc (.cells (ig ⟨false,0,0⟩) 326)=w8 at *;refine ok 15 ?_;intro K hK;refine sS 326 (.tmp 7) (.tmp 54) rfl w7.heap.size (ig ⟨aa,(x:Int),(y:Int)⟩) rfl rfl 326 (ig ⟨false,0,0⟩) B8 IS rfl OS ?_;have ab:=below_setRow (e7 w7.heap.size w8) (aE _) (ig ⟨aa,(x:Int),(y:Int)⟩);obtain⟨U9,W9,B9⟩:=aW ((U7.trans u8).aF ab U7.size) (show Up wr (w8.setRow w7.heap.size (ig ⟨aa,(x:Int),(y:Int)⟩))from(aO.trans u8).aF ab aO.size) (B8.set (ig ⟨aa,(x:Int),(y:Int)⟩));obtain⟨UW,g9⟩:=az (u8.aF ab (aE _)) (cR w8 w7.heap.size (ig ⟨aa,(x:Int),(y:Int)⟩));have F9:=an (show(w8.setRow w7.heap.size (ig ⟨aa,(x:Int),(y:Int)⟩)).cell? (ad g 0)=some (.int .u64 (n0:Int))/\(w8.setRow w7.heap.size (ig ⟨aa,(x:Int),(y:Int)⟩)).cell? (ad g 1)=some (.int .u64 (x:Int))/\(w8.setRow w7.heap.size (ig ⟨aa,(x:Int),(y:Int)⟩)).cell? (ad g 2)=some (.int .u64 (y:Int))from⟨UW.cell F7.1,UW.cell F7.2.1,UW.cell F7.2.2⟩);refine hK _ _ F9 ?_;clear hK K F8 F7;refine bx ?_;generalize w8.setRow w7.heap.size (ig ⟨aa,(x:Int),(y:Int)⟩)=w9 at *;refine dn ?_;clear F9;go_wp2_with(refine arm ?_);refine(RG _).mono ?_;rintro e aV⟨rfl,aS⟩;have bN:=an (ai aV (.cells (ig ⟨aa,x,y⟩) 326));obtain⟨aT,aQ⟩:=aw ((W9.trans aS).trans bN) ((U9.trans aS).trans bN);obtain⟨bJ,PR,n1,n2⟩:=bS (HOWN.up aT) (Ld aV ⟨aa,x,y⟩) (show(κ (l.take k) + [(⟨aa,x,y⟩:gI)].length)*24<=140737488355328 from ao) (show(l.take k).length + [(⟨aa,x,y⟩:gI)].length<=9223372036854775807 from ao);clear RG OS aB HZ;obtain⟨lk,aR⟩:=bE (l.take k);rw[<-aR]at bJ n1 n2 NX;clear aR LT;obtain⟨ma,mc,a7⟩:=(ak.row bJ OJ).slice;rw[a7]at bJ;subst a7;go_wp2_with(first
    | refine arm ?_
    | ((with_reducible refine dS 270 1 _ ?_);refine bP rfl 270 326 (.tmp 59) rfl _ 3 24 (ig ⟨aa,(x:Int),(y:Int)⟩) rfl Acw j9 ae ae rfl ?_)
    | (at_builtin;refine bI OJ rfl (.tmp 58) (.tmp 60) 270 rfl w.heap.size 326 _ 24 Acw j9 rfl _ lk rfl bJ _ [⟨aa,x,y⟩] rfl PR n1 n2 aQ.size ?_))
   intro v12 bU ar aU av;have aJ:=an (aQ.aF av (aE _));go_wp2;go_roundw
   case rel=>exact⟨k+1,ae,V3,by rw[NX.out];exact ar,aJ⟩
   case measure=>exact MS
  ·obtain rfl:k=κ l:=by omega
   refine zr ?_;intro ho;have b2:κ (iq (l.drop (κ l)))=0:=by rw[Fs];rfl
   go_wp2;go_ret2;exact⟨_,rfl,ho,ag⟩
section
open Go.Shelf
attribute [local go_sem] km
def gK(k b off n c j:Nat):ah:=.slice (some ⟨b,off+(c*j)*k,none⟩) (min c (n-c*j)) (min c (n-c*j))
def bh(n c:Nat):Nat:=(n+c-1)/c
theorem fS(hc:0<c):j<bh n c↔c*j<n:=by unfold bh;rw[Nat.lt_iff_add_one_le,Nat.le_div_iff_mul_le hc,Nat.add_mul,Nat.one_mul,A1 j c];omega
abbrev r3(m:Nat):={j:Nat // j<m}
def oy(Bs:Nat)(b:Nat)(t:Aab):Prop:=b=Bs\/b=Bs+1
theorem J7(w:af)(a:Option Addr)(n cap:Nat):Aaf Aag 290 #[.slice a n cap,i6 128] w λe w'=> e=.returned (.func (.func 296) #[] #[pz w.heap.size,pz (w.heap.size+1)])/\w'=(w.alloc (.cells #[.slice a n cap] 30)).alloc (.cells #[i6 128] 3):=by have c0:=(dj (w.alloc (.cells #[.slice a n cap] 30)) (i6 128) 3).1;rw[aN]at c0;go_in;exact e4
theorem J4(n:Nat)(hn:1<=n)(lp Bs b off nn cap:Nat)(ag:nn<=1000000)(aR:nn<=cap)(J Jx:List Nat->af->Prop)(W:af)(hJ:AbidesFrom W.heap.size J)(hY:∀pre x W1,J pre W1->pre++[x] <+:Aal (bh nn 128)->YieldAt Abw (n-1) Aag lp #[gK 1 b off nn 128 x] W1 λe W'=>
  (e=.returned (.bool true)/\J (pre++[x]) W'/\c' (oy Bs) W1 W')\/(e=.returned (.bool false)/\Jx (pre++[x]) W'))
 (av:W.cell? (ad Bs 0)=some (sq b off nn cap)) (au:W.cell? (ad (Bs+1) 0)=some (i6 128)) (h0:J [] W):
 CallsIn Abw n Aag 296 #[.func (.yield lp) #[] #[],pz Bs,pz (Bs+1)] W λe W'=>(∃v,e=.returned v)/\
  ((∃ys,ys=Aal (bh nn 128)/\J ys W')\/(∃pre,pre <+:Aal (bh nn 128)/\Jx pre W')):=by
 refine uA func296 rfl trivial ?_ rfl;simp only[ntmps296,Abj,Aaj,Aa5,Nat.reduceAdd,Nat.reduceSub,Aa9,Aba,Abk,Abc,Aa0,Aa2];gi_wp2;gi_loopw [4] (λi wr=>∃j:Nat,j<=bh nn 128/\i=i6 (128*(j:Int))/\J (Aal j) wr/\c' (oy Bs) W wr) (λi _=>nn-(Aaq i).toNat)
 case atStart=>exact⟨0,bG _,rfl,h0,c'.refl _⟩
 case round=>
  obtain⟨j,hj,rfl,ar,ab⟩:=hrel;obtain⟨x0,x1⟩:=az (ab.cell (a:=⟨Bs,0,none⟩) (λt=>.inl rfl) av) (ab.cell (a:=⟨Bs+1,0,none⟩) (λt=>.inr rfl) au);obtain⟨HK,HJ⟩:=aw ab ar;by_cases hlt:128*j<nn
  ·have b2:(128*(j:Int)<(nn:Int))=True:=by simp;omega
   obtain⟨y0,y1⟩:=az (di x0) (di x1);gi_wp2;clear y0 y1;refine wpIn_wide.2 ?_;refine e8 (S:=λW=>W.cell? (ad Bs 0)=some (sq b off nn cap)/\W.cell? (ad (Bs+1) 0)=some (i6 128)) al ?_;change Acp _ _ _ _ _ 7 _ _ (wr.drew);have UD:=an (Up.drew (Up.refl wr));have F4:=an (show wr.drew.cell? (ad Bs 0)=some (sq b off nn cap)/\wr.drew.cell? (ad (Bs+1) 0)=some (i6 128)from⟨UD.cell x0,UD.cell x1⟩);generalize wr.drew=w4 at *;have PF:∀W,(Aav 30 (sq b off nn cap) (some (i6 (128*(j:Int)))) none none).run Aag W=.ok (partOf 1 (some ⟨b,off,none⟩) (128*j) nn cap) W:=λW=>by have:=gu (P:=Aag) 30 1 al (λW=>al) (some ⟨b,off,none⟩) nn cap (128*j) ae W;rw[show((128*j:Nat):Int)=128*(j:Int)from ae]at this;exact this
   refine tb 0 rfl (yc (λW hS=>hS.2)) ?_;refine tb 1 rfl (yc (λW hS=>hS.1)) ?_;refine ni ?_;refine tk 4 (i6 ((nn-128*j:Nat):Int)) rfl (qZ rfl (λ_=>by unfold partOf;go_simp)) (F4) ?_;refine tk 5 (i6 ((min 128 (nn-128*j):Nat):Int)) rfl (qZ rfl (λ_=>by go_simp;split<;>omega)) (F4) ?_;refine ta 6 ?_;refine dn ?_;obtain⟨z0,z1,ai⟩:=cX F4.1 F4.2 UD;have aO:=(fS (n:=nn) (c:=128) ae).2 hlt;have aj:Aal j++[j] <+:Aal (bh nn 128):=by rw[<-Ab0];have:=List.take_prefix (j+1) (Aal (bh nn 128));rw[List.take_range,Nat.min_eq_left ae]at this;exact this
   clear x0 x1 PF F4;have SL:∀W,(Aav 30 (sq b off nn cap) (some (i6 (128*(j:Int)))) (some (i6 (128*(j:Int)+((min 128 (nn-128*j):Nat):Int)))) (some (i6 (128*(j:Int)+((min 128 (nn-128*j):Nat):Int))))).run Aag W=.ok (gK 1 b off nn 128 j) W:=λW=>by
    rw[run_slice_lhm W 30 (some ⟨b,off,none⟩) nn cap al .i64 .i64 .i64 (128*(j:Int)) (128*(j:Int)+((min 128 (nn-128*j):Nat):Int)) (128*(j:Int)+((min 128 (nn-128*j):Nat):Int)) ae ae ae ae];have e1:(128*(j:Int)).toNat=128*j:=ae
    have e2:(128*(j:Int)+((min 128 (nn-128*j):Nat):Int)).toNat=128*j+min 128 (nn-128*j):=ae
    rw[show(sizeOf (prog.elem 30)).run Aag W=.ok 1 W from al];exact Nk
   obtain⟨mm,aP⟩:=bE (min 128 (nn-128*j));rw[<-aP]at SL;have bK:1<=mm/\mm<=128:=ae
   simp only[<-aP];obtain⟨fn,tmps,assign,body,hy,hR⟩:=(hY _ j _ ((λs A B hs hu=>hJ s A B none hs (l2 hu) (λr e=>by cases e)) _ _ _ HJ ai) aj);clear aP hY;gi_wp2;refine hR.mono ?_;rintro e W3(⟨rfl,hJ3,ak⟩|⟨rfl,aa⟩)
   ·have y1:=ak.cell (a:=⟨Bs+1,0,none⟩) (λt=>.inr rfl) z1;clear z0 z1 SL;gi_wp2;go_roundw
    case rel=>exact⟨j+1,ae,fP,by rw[Ab0];exact hJ3,((HK.trans (ji ai)).trans ak)⟩
    case measure=>simp[Aaq];omega
   ·exact Nl
  ·have aO:¬j<bh nn 128:=λh=>hlt ((fS ae).1 h);obtain rfl:j=bh nn 128:=by omega
   have b2:(128*((bh nn 128:Nat):Int)<(nn:Int))=False:=ao
   clear hY;gi_wp2;go_end0;exact⟨⟨_,rfl⟩,.inl ⟨_,rfl,HJ⟩⟩
theorem Ev(n:Nat)(hn:1<=n)(Bs b off nn cap:Nat)(ag:nn<=1000000)(aR:nn<=cap)(w:af)(aB:Bs+1<w.heap.size)(av:w.cell? (ad Bs 0)=some (sq b off nn cap))(au:w.cell? (ad (Bs+1) 0)=some (i6 128)):SeqStopsK Abw n Aag 296 #[pz Bs,pz (Bs+1)] (λx:r3 (bh nn 128)=>#[gK 1 b off nn 128 x.1]) (c' (oy Bs)) (λys=>ys.map (·.1)=Aal (bh nn 128)) (λpre=>pre.map (·.1) <+:Aal (bh nn 128)) (bh nn 128) w:=λl' J Jx W hW hJ _ hY h0=>by
 refine(J4 n hn l' Bs b off nn cap ag aR (λpre W=>∃ps:List (r3 (bh nn 128)),ps.map (·.1)=pre/\J ps W) (λpre W=>∃ps:List (r3 (bh nn 128)),ps.map (·.1)=pre/\Jx ps W) W (λs A B row hs hg hr=>FU) ?_ ((hW.cell (p:=⟨Bs,0,none⟩) (show Bs<_ from ae)).trans av) ((hW.cell (p:=⟨Bs+1,0,none⟩) aB).trans au) ⟨[],rfl,h0⟩).mono ?_
 ·exact M2
 ·exact zm
theorem J8(w:af)(a:Option Addr)(n cap:Nat):Aaf Aag 291 #[.slice a n cap,i6 8] w λe w'=> e=.returned (.func (.func 297) #[] #[pz w.heap.size,pz (w.heap.size+1)])/\w'=(w.alloc (.cells #[.slice a n cap] 88)).alloc (.cells #[i6 8] 3):=by have c0:=(dj (w.alloc (.cells #[.slice a n cap] 88)) (i6 8) 3).1;rw[aN]at c0;go_in;exact e4
theorem J5(n:Nat)(hn:1<=n)(lp Bs b off nn cap:Nat)(ag:nn<=1000000)(aR:nn<=cap)(J Jx:List Nat->af->Prop)(W:af)(hJ:AbidesFrom W.heap.size J)(hY:∀pre x W1,J pre W1->pre++[x] <+:Aal (bh nn 8)->YieldAt Abw (n-1) Aag lp #[gK 3 b off nn 8 x] W1 λe W'=>
  (e=.returned (.bool true)/\J (pre++[x]) W'/\c' (oy Bs) W1 W')\/(e=.returned (.bool false)/\Jx (pre++[x]) W'))
 (av:W.cell? (ad Bs 0)=some (sq b off nn cap)) (au:W.cell? (ad (Bs+1) 0)=some (i6 8)) (h0:J [] W):
 CallsIn Abw n Aag 297 #[.func (.yield lp) #[] #[],pz Bs,pz (Bs+1)] W λe W'=>(∃v,e=.returned v)/\
  ((∃ys,ys=Aal (bh nn 8)/\J ys W')\/(∃pre,pre <+:Aal (bh nn 8)/\Jx pre W')):=by
 refine uA func297 rfl trivial ?_ rfl;simp only[ntmps297,Abj,Aaj,Aa5,Nat.reduceAdd,Nat.reduceSub,Aa9,Aba,Abk,Abc,Aa0,Aa2];gi_wp2;gi_loopw [4] (λi wr=>∃j:Nat,j<=bh nn 8/\i=i6 (8*(j:Int))/\J (Aal j) wr/\c' (oy Bs) W wr) (λi _=>nn-(Aaq i).toNat)
 case atStart=>exact⟨0,bG _,rfl,h0,c'.refl _⟩
 case round=>
  obtain⟨j,hj,rfl,ar,ab⟩:=hrel;obtain⟨x0,x1⟩:=az (ab.cell (a:=⟨Bs,0,none⟩) (λt=>.inl rfl) av) (ab.cell (a:=⟨Bs+1,0,none⟩) (λt=>.inr rfl) au);obtain⟨HK,HJ⟩:=aw ab ar;by_cases hlt:8*j<nn
  ·have b2:(8*(j:Int)<(nn:Int))=True:=by simp;omega
   obtain⟨y0,y1⟩:=az (di x0) (di x1);gi_wp2;clear y0 y1;refine wpIn_wide.2 ?_;refine e8 (S:=λW=>W.cell? (ad Bs 0)=some (sq b off nn cap)/\W.cell? (ad (Bs+1) 0)=some (i6 8)) al ?_;change Acp _ _ _ _ _ 7 _ _ (wr.drew);have UD:=an (Up.drew (Up.refl wr));have F4:=an (show wr.drew.cell? (ad Bs 0)=some (sq b off nn cap)/\wr.drew.cell? (ad (Bs+1) 0)=some (i6 8)from⟨UD.cell x0,UD.cell x1⟩);generalize wr.drew=w4 at *;have PF:∀W,(Aav 88 (sq b off nn cap) (some (i6 (8*(j:Int)))) none none).run Aag W=.ok (partOf 3 (some ⟨b,off,none⟩) (8*j) nn cap) W:=λW=>by have:=gu (P:=Aag) 88 3 al (λW=>al) (some ⟨b,off,none⟩) nn cap (8*j) ae W;rw[show((8*j:Nat):Int)=8*(j:Int)from ae]at this;exact this
   refine tb 0 rfl (yc (λW hS=>hS.2)) ?_;refine tb 1 rfl (yc (λW hS=>hS.1)) ?_;refine ni ?_;refine tk 4 (i6 ((nn-8*j:Nat):Int)) rfl (qZ rfl (λ_=>by unfold partOf;go_simp)) (F4) ?_;refine tk 5 (i6 ((min 8 (nn-8*j):Nat):Int)) rfl (qZ rfl (λ_=>by go_simp;split<;>omega)) (F4) ?_;refine ta 6 ?_;refine dn ?_;obtain⟨z0,z1,ai⟩:=cX F4.1 F4.2 UD;have aO:=(fS (n:=nn) (c:=8) ae).2 hlt;have aj:Aal j++[j] <+:Aal (bh nn 8):=by rw[<-Ab0];have:=List.take_prefix (j+1) (Aal (bh nn 8));rw[List.take_range,Nat.min_eq_left ae]at this;exact this
   clear x0 x1 PF F4;have SL:∀W,(Aav 88 (sq b off nn cap) (some (i6 (8*(j:Int)))) (some (i6 (8*(j:Int)+((min 8 (nn-8*j):Nat):Int)))) (some (i6 (8*(j:Int)+((min 8 (nn-8*j):Nat):Int))))).run Aag W=.ok (gK 3 b off nn 8 j) W:=λW=>by
    rw[run_slice_lhm W 88 (some ⟨b,off,none⟩) nn cap al .i64 .i64 .i64 (8*(j:Int)) (8*(j:Int)+((min 8 (nn-8*j):Nat):Int)) (8*(j:Int)+((min 8 (nn-8*j):Nat):Int)) ae ae ae ae];have e1:(8*(j:Int)).toNat=8*j:=ae
    have e2:(8*(j:Int)+((min 8 (nn-8*j):Nat):Int)).toNat=8*j+min 8 (nn-8*j):=ae
    rw[show(sizeOf (prog.elem 88)).run Aag W=.ok 3 W from al];exact Nk
   obtain⟨mm,aP⟩:=bE (min 8 (nn-8*j));rw[<-aP]at SL;have bK:1<=mm/\mm<=8:=ae
   simp only[<-aP];obtain⟨fn,tmps,assign,body,hy,hR⟩:=(hY _ j _ ((λs A B hs hu=>hJ s A B none hs (l2 hu) (λr e=>by cases e)) _ _ _ HJ ai) aj);clear aP hY;gi_wp2;refine hR.mono ?_;rintro e W3(⟨rfl,hJ3,ak⟩|⟨rfl,aa⟩)
   ·have y1:=ak.cell (a:=⟨Bs+1,0,none⟩) (λt=>.inr rfl) z1;clear z0 z1 SL;gi_wp2;go_roundw
    case rel=>exact⟨j+1,ae,fP,by rw[Ab0];exact hJ3,((HK.trans (ji ai)).trans ak)⟩
    case measure=>simp[Aaq];omega
   ·exact Nl
  ·have aO:¬j<bh nn 8:=λh=>hlt ((fS ae).1 h);obtain rfl:j=bh nn 8:=by omega
   have b2:(8*((bh nn 8:Nat):Int)<(nn:Int))=False:=ao
   clear hY;gi_wp2;go_end0;exact⟨⟨_,rfl⟩,.inl ⟨_,rfl,HJ⟩⟩
theorem Ew(n:Nat)(hn:1<=n)(Bs b off nn cap:Nat)(ag:nn<=1000000)(aR:nn<=cap)(w:af)(aB:Bs+1<w.heap.size)(av:w.cell? (ad Bs 0)=some (sq b off nn cap))(au:w.cell? (ad (Bs+1) 0)=some (i6 8)):SeqStopsK Abw n Aag 297 #[pz Bs,pz (Bs+1)] (λx:r3 (bh nn 8)=>#[gK 3 b off nn 8 x.1]) (c' (oy Bs)) (λys=>ys.map (·.1)=Aal (bh nn 8)) (λpre=>pre.map (·.1) <+:Aal (bh nn 8)) (bh nn 8) w:=λl' J Jx W hW hJ _ hY h0=>by
 refine(J5 n hn l' Bs b off nn cap ag aR (λpre W=>∃ps:List (r3 (bh nn 8)),ps.map (·.1)=pre/\J ps W) (λpre W=>∃ps:List (r3 (bh nn 8)),ps.map (·.1)=pre/\Jx ps W) W (λs A B row hs hg hr=>FU) ?_ ((hW.cell (p:=⟨Bs,0,none⟩) (show Bs<_ from ae)).trans av) ((hW.cell (p:=⟨Bs+1,0,none⟩) aB).trans au) ⟨[],rfl,h0⟩).mono ?_
 ·exact M2
 ·exact zm
end
def ly(n b:Nat):Nat:=(n+b-1)/b
theorem xd{n b:Nat}(hb:0<b)(h:1<=n):1<=ly n b:=by unfold ly;exact(Nat.le_div_iff_mul_le hb).2 ae
theorem Hj{s:Nat}(h:1<s):ly s 8<s:=by grind [ly]
def l6(s:Nat):List Nat:=if h:s<=1 then [] else ly s 8::l6 (ly s 8)
termination_by s
decreasing_by exact Hj ae
theorem hf{s:Nat}(h:s<=1):l6 s=[]:=by grind [l6]
theorem jl{s:Nat}(h:1<s):l6 s=ly s 8::l6 (ly s 8):=by grind [l6]
def eD(n:Nat):List Nat:=if 1<=n/\n<=65535 then ly n 128::l6 (ly n 128)else []
def dF(n:Nat):Nat:=(eD n).sum
theorem AW:∀(k s:Nat),s<=8 ^ k->κ (l6 s)<=k/\(l6 s).sum<=s
 | 0,s,h=>by
  have:s<=1:=jG
  rw[hf this];simp
 | k+1,s,h=>by
  by_cases h1:s<=1
  ·rw[hf h1];simp
  ·have h8:ly s 8<=8 ^ k:=by
    unfold ly;have:8 ^ (k+1)=8*8 ^ k:=by rw[yD];omega
    omega
   obtain⟨a,b⟩:=AW k (ly s 8) h8;rw[jl ae];simp only[Aaj,Acm];refine⟨ae,?_⟩;unfold ly at *;omega
theorem jk(n:Nat):κ (eD n)<=4/\(eD n).sum<=1024:=by
 unfold eD;split
 ·rename_i h;have h1:ly n 128<=8 ^ 3:=by grind [ly]
  obtain⟨a,b⟩:=AW 3 _ h1;simp;omega
 ·simp
theorem aau(w:af)(n b:Nat)(hb:1<=b)(hn:n<=1000000)(hb2:b<=1000):Aaf Aag 234 #[i6 (n:Int),i6 (b:Int)] w λe w'=>e=.returned (i6 ((ly n b:Nat):Int))/\w'=w:=by
 have e1:((n:Int)+(b:Int)-1).tdiv (b:Int)=((ly n b:Nat):Int):=by unfold ly;grind
 have b0:((b:Int)=0)=False:=ao
 have E1:=an e1;have hq:(ly n b:Int)<=1000000+1000:=by have:ly n b<=n+b-1:=Nat.div_le_self _ _;omega
 go_in;exact e4
theorem AU(w:af)(n:Nat)(hn:n<=1000000):Aaf Aag 173 #[.int .i64 (n:Int)] w λe w'=>∃v,e=.returned v/\Own bA 3 w' w.heap.size v ((eD n).map (λk:Nat=>(k:Int)))/\Up w w':=by
 have UA:=an (λW (a b:Nat) (h1:1<=b) (h2:a<=1000000) (h3:b<=1000)=>aau W a b h1 h2 h3);by_cases h1:n<1
 ·have HL:=an (show eD n=[] by unfold eD;rw[aO ae]);have b1:((n:Int)<1)=True:=by simp;omega
  exact Nn
 have b1:((n:Int)<1)=False:=ao
 by_cases h2:n<=65535
 case neg=>
  have HL:=an (show eD n=[] by unfold eD;rw[aO ae]);have b2:((n:Int)>65535)=True:=ao
  exact Nn
 have b2:((n:Int)>65535)=False:=ao
 have aR:=xd (b:=128) ae (show 1<=n from ae);have aJ:ly n 128<=512:=by unfold ly;omega
 obtain⟨HL,C1,IN,U1⟩:=bS (show eD n=ly n 128::l6 (ly n 128)by unfold eD;rw[bp ae]) (UA w n 128 ae ae ae) (show Own bA 3 (w.alloc (.cells #[.int .i64 ((ly n 128:Nat):Int)] 3)) w.heap.size (.slice (some ⟨w.heap.size,0,none⟩) 1 1) [((ly n 128:Nat):Int)] from yL (base:=w.heap.size) (e:=3) (size:=1) w #[.int .i64 ((ly n 128:Nat):Int)] 1 (aE _) dy rfl) (ai w (.cells #[.int .i64 ((ly n 128:Nat):Int)] 3));generalize ly n 128=s0 at *;go_in;go_wp2_with fail;refine C1.mono ?_;rintro e w1⟨rfl,rfl⟩;go_wp2_with fail;obtain⟨w9,ar⟩:=bE (w1);go_loopw [3,4] (λs v wr=>∃k:Nat,∃pre:List Int,1<=k/\k<=512/\s=.int .i64 k/\(κ pre)+k<=1024/\pre++(l6 k).map (λk:Nat=>(k:Int))=(eD n).map (λk:Nat=>(k:Int))/\Own bA 3 wr w1.heap.size v pre/\Up w1 wr) (λs _ _=>(Aaq s).toNat)
 case atStart=>exact⟨s0,[(s0:Int)],aR,aJ,rfl,ao,by rw[HL.out];rfl,IN,U1⟩
 case round=>
  obtain⟨k,pre,aj,aa,rfl,aH,ad,hown,upr⟩:=hrel;obtain⟨HOWN,ag,HU⟩:=aW hown ad upr;clear hown ad upr IN U1 ar;by_cases hlt:1<k
  ·have b3:((k:Int)>1)=True:=by simp;omega
   have C2:=an (UA wr k 8 ae ae ae);have ak:=Hj hlt;have ah:=xd (b:=8) ae aj;have LM:=an (jl hlt);generalize ly k 8=k8 at *;obtain⟨va,vc,rfl⟩:=(Own.cv HOWN).slice;have U8:=an (ai wr (.cells #[.int .i64 (k8:Int)] 3));obtain⟨O8,IN,UU⟩:=aW (HOWN.up U8) (aC.er (f:=bA) wr wr.heap.size rfl #[.int .i64 (k8:Int)] 3 (0,0) [(k8:Int)] 1 rfl dy rfl) (HU.trans U8);go_wp2_with fail;refine C2.mono ?_;rintro e w2⟨rfl,rfl⟩;go_wp2_with(at_builtin;refine bf bA p' rfl (.tmp 19) (.tmp 21) 41 rfl w1.heap.size 3 (.int .i64 0) 8 underlying41 q7 rfl _ pre rfl O8 _ [(k8:Int)] rfl IN ao ao UU.size ?_);intro v9 w9 ax aA ab;obtain⟨U9,O9⟩:=aw (UU.aF ab (aE _)) ax;clear ax aA ab;go_wp2_with fail;go_roundw
   case rel=>exact⟨k8,pre++[(k8:Int)],ah,ae,rfl,ao,by rw[<-ag.out,LM.out];simp,O9,U9⟩
   case measure=>simp[Aaq];omega
  ·obtain rfl:k=1:=by omega
   have b3:(((1:Nat):Int)>1)=False:=aq
   have HA:=ag.out;rw[hf (aE _)]at HA;simp only[List.map_nil,Ab4]at HA;have HP:=an HA;clear HA;go_wp2_with fail;go_ret;exact⟨_,rfl,by rw[<-HP.out];exact HOWN,HU⟩
theorem vf(w:af)(n:Nat)(hn:n<=1000000):Aaf Aag 256 #[.int .i64 (n:Int)] w λe w'=>e=.returned (.int .i64 (dF n:Int))/\Up w w':=by
 have L:=an (AU w n hn);obtain⟨B1,B2⟩:=jk n;have HN:=an (show dF n=(eD n).sum from rfl);generalize eD n=l at *;go_in;go_wp2_with fail;refine L.mono ?_;rintro e w1⟨v,rfl,ow,up⟩;obtain⟨OW,U1⟩:=aw ow up;obtain⟨va,vc,rfl⟩:=ow.cv.slice;clear ow up;have aR:κ (l.map (λk:Nat=>(k:Int)))=κ l:=aq
 rw[aR];go_wp2_with fail;go_loopw [3,9] (λs i wr=>∃k:Nat,k<=κ l/\i=.int .i64 k/\s=.int .i64 ((l.take k).sum:Nat)/\wr=w1) (λ_ i _=>κ l-(Aaq i).toNat)
 case atStart=>exact⟨0,bG _,rfl,rfl,rfl⟩
 case round=>
  obtain⟨k,hk,rfl,rfl,rfl⟩:=hrel;by_cases hlt:k<κ l
  ·obtain⟨b,off,aU,hbs,hc⟩:=cf (Own.cv OW) rfl (by simpa using Nat.lt_of_le_of_lt (bG _) hlt);have x0:=hc k (by simpa using hlt);rw[Adl]at x0;refine oS ?_;intro b3;have SU:(l.take (k+1)).sum=(l.take k).sum+l[k]:=by rw[eo hlt,wD];simp only[Acm,Ac5];omega
   have SL:(l.take (k+1)).sum<=1024:=by
    have:=fO (k+1) l;have h2:l.sum=(l.take (k+1)).sum+(l.drop (k+1)).sum:=by rw[<-wD,this]
    omega
   have aa:=an SU;rw[SU]at SL;generalize l[k]=y at *;generalize(l.take k).sum=sm at *;unfold bA at x0;subst aU;clear hc SU;go_wp2_with fail;go_roundw
   case rel=>exact⟨k+1,ae,aq,by rw[aa.out];go_num,trivial⟩
   case measure=>simp[Aaq];omega
  ·obtain rfl:k=κ l:=by omega
   have HT:=an (show(l.take (κ l)).sum=l.sum by rw[dk (aE _)]);go_wp2_with fail;go_ret;exact⟨by rw[HN.out,<-HT.out];rfl,U1⟩
section
variable {w w':af} {H:aS} {P:bz}
def mN(w:af)(k:Nat):Prop:=∃C t fr,w.heap[k]?=some (.cells C t fr)
def aI.cellsOf{g:Nat}{t:Aab}{C:Array ah}(h:aI w g t C):mN w g:=⟨_,_,_,h⟩
theorem ns{α:Type}{f:α->List ah}{k:Nat}{e:Aab}{base:Nat}{v:ah}{xs:List α}(h:ak f k e w base v xs){b:Nat}(hb:v.ownBlock=some b):mN w b:=by
 obtain⟨_,h2⟩:=h;rcases h2 with⟨h3,_⟩|⟨g,cap,cur,h3,_,h5,_⟩
 ·rw[h3]at hb;cases hb
 ·rw[h3]at hb;simp only[Aan,Aai]at hb;subst hb;exact⟨_,_,_,h5⟩
theorem PA.cellsOf(A:PA w H P){k:Nat}(h:PF H k):mN w k:=by
 rcases h with rfl|rfl|hf
 ·exact A.e6.cellsOf
 ·obtain⟨C,h1,_⟩:=A.map;exact h1.cellsOf
 ·obtain⟨v,d,_⟩:=A.dev;rcases hf with rfl|rfl|rfl|e
  ·exact d.dev.cellsOf
  ·exact d.b1.cellsOf
  ·exact d.b2.cellsOf
  ·exact ns d.bL e
theorem Touch.others{F:Nat->Prop}(T:Touch F w w')(hF:∀k,F k->mN w k):KeepsOthers w w':=⟨T.size,λk o hk ho=>by
 rw[T.block k ((qf.1 hk).1) (λhf=>?_)]
 ·exact hk
 ·obtain⟨C,t,fr,h⟩:=hF k hf;rw[h]at hk;cases hk;cases ho⟩
theorem Touch.wj{F:Nat->Prop}{p:Nat->Aab->Prop}(T:Touch F w w')(hF:∀b t,p b t->¬F b):c' p w w':=λb cs t fr hb hp=>by rw[T.block b (qf.1 hb).1 (hF b t hp)];exact hb
def zF(w:af)(B:Nat)(row:Option Nat):Prop:=∀r,row=some r->B<=r/\∃o:Obj,w.heap[r]?=some o/\o.isCells=false
theorem mN.ne{k B:Nat}{row:Option Nat}(h:mN w k)(hr:zF w B row):row≠some k:=λe=>by obtain⟨o,h1,h2⟩:=(hr k e).2;obtain⟨C,t,fr,h⟩:=h;rw[h]at h1;cases h1;cases h2
def PA.H8{B:Nat}{row:Option Nat}(A:PA w H P)(hg:w.grownBy w' row)(hr:zF w B row):PA w' H P:=A.ax (F:=λk=>row=some k) (Touch.be hg (λk hk=>hk)) (λb hb e=>(A.cellsOf hb).ne hr e)
end
def bQ(P:bz):List (Nat × cQ)->bz
 | []=>P
 | (i,s)::l=>bQ {P with C:=P.C.set i s,m:=P.m+1,fl:=false} l
theorem sd(P:bz)(l:List (Nat × cQ))(i:Nat)(s:cQ):bQ P (l++[(i,s)])={bQ P l with C:=(bQ P l).C.set i s,m:=(bQ P l).m+1,fl:=false}:=by
 induction l generalizing P with
 | nil=>rfl
 | cons x l ih=>obtain⟨j,u⟩:=x;exact ih _
theorem gp(P:bz)(l:List (Nat × cQ)):(bQ P l).s=P.s/\(bQ P l).st=P.st/\(bQ P l).ba=P.ba/\(bQ P l).m=P.m+κ l/\(κ (bQ P l).C)=κ P.C:=by
 induction l generalizing P with
 | nil=>exact⟨rfl,rfl,rfl,rfl,rfl⟩
 | cons x l ih=>grind [bQ]
def ar(st:Nat)(x:Nat × cQ):au:=⟨x.1,st,eP x.2⟩
def nu(b:List aj)(j:Nat):List aj:=(b.drop (128*j)).take 128
theorem vj(b:List aj)(j:Nat):κ (nu b j)<=128:=by grind [nu]
def dz(b:List aj)(j:Nat):cQ:=eV (nu b j) (vj b j)
theorem HI(h:aY w (sq g off (κ b) cap) b)(j:Nat)(hj:128*j<κ b):aY w (gK 1 g off (κ b) 128 j) (nu b j):=by
 rcases h with⟨h0,_⟩|⟨g',aD,al,hv,h0,hl,hm,hc⟩
 ·simp_all
 ·simp only[Abh,Aai,Abm]at hv;obtain⟨⟨rfl,ab,_⟩,_,rfl⟩:=hv;have hlen:κ (nu b j)=min 128 (κ b-128*j):=by simp[nu]
  refine .inr ⟨g,off+(128*j)*1,min 128 (κ b-128*j),by grind [gK],ae,ae,ae,λi hi=>?_⟩;grind [nu]
section
open Go.Shelf
attribute [local go_sem] km
def gk(ats:List Nat)(b:List aj)(pre:List Nat):List (Nat × cQ):=(ats.take (κ pre)).zip (pre.map (dz b))
theorem r9{ats:List Nat}{b:List aj}{pre:List Nat}(h:κ pre<=κ ats):κ (gk ats b pre)=κ pre:=by grind [gk]
theorem Ih{ats:List Nat}{b:List aj}{pre:List Nat}(x:Nat)(h:κ pre<κ ats):gk ats b (pre++[x])=gk ats b pre++[(ats[κ pre],dz b x)]:=by unfold gk;exact Oh
theorem We(w:af)(t1 t2 t3 t4 t5 t6 t7:Aab)(A1 A2 A3 A4 A5 A6 A7:Array ah):let W:=((((((w.alloc (.cells A1 t1)).alloc (.cells A2 t2)).alloc (.cells A3 t3)).alloc (.cells A4 t4)).alloc (.cells A5 t5)).alloc (.cells A6 t6)).alloc (.cells A7 t7);Up w W/\aI W w.heap.size t1 A1/\aI W (w.heap.size+1) t2 A2/\aI W (w.heap.size+1+1) t3 A3/\aI W (w.heap.size+1+1+1) t4 A4/\aI W (w.heap.size+1+1+1+1) t5 A5/\aI W (w.heap.size+1+1+1+1+1) t6 A6/\aI W (w.heap.size+1+1+1+1+1+1) t7 A7:=by
 intro W;have b1:=aI.new w t1 A1;obtain⟨w1,ay⟩:=bE (w.alloc (.cells A1 t1));have s1:w1.heap.size=w.heap.size+1:=by rw[ay,aN]
 have b2:=aI.newAt w1 _ s1.symm t2 A2;obtain⟨w2,hw2⟩:=bE (w1.alloc (.cells A2 t2));have s2:w2.heap.size=w.heap.size+1+1:=by rw[hw2,aN,s1]
 have b3:=aI.newAt w2 _ s2.symm t3 A3;obtain⟨w3,aa⟩:=bE (w2.alloc (.cells A3 t3));have s3:w3.heap.size=w.heap.size+1+1+1:=by rw[aa,aN,s2]
 have b4:=aI.newAt w3 _ s3.symm t4 A4;obtain⟨w4,hw4⟩:=bE (w3.alloc (.cells A4 t4));have s4:w4.heap.size=w.heap.size+1+1+1+1:=by rw[hw4,aN,s3]
 have b5:=aI.newAt w4 _ s4.symm t5 A5;obtain⟨w5,aQ⟩:=bE (w4.alloc (.cells A5 t5));have s5:w5.heap.size=w.heap.size+1+1+1+1+1:=by rw[aQ,aN,s4]
 have b6:=aI.newAt w5 _ s5.symm t6 A6;obtain⟨w6,ab⟩:=bE (w5.alloc (.cells A6 t6));have s6:w6.heap.size=w.heap.size+1+1+1+1+1+1:=by rw[ab,aN,s5]
 have hW:W=w6.alloc (.cells A7 t7):=by rw[ab,aQ,hw4,aa,hw2,ay]
 rw[hW];have u1:Up w w1:=by rw[ay];exact ai _ _
 have u2:Up w1 w2:=by rw[hw2];exact ai _ _
 have u3:Up w2 w3:=by rw[aa];exact ai _ _
 have u4:Up w3 w4:=by rw[hw4];exact ai _ _
 have u5:Up w4 w5:=by rw[aQ];exact ai _ _
 have u6:Up w5 w6:=by rw[ab];exact ai _ _
 have u7:=ai w6 (.cells A7 t7);rw[<-ay]at b1;rw[<-hw2]at b2;rw[<-aa]at b3;rw[<-hw4]at b4;rw[<-aQ]at b5;rw[<-ab]at b6;exact⟨(((((u1.trans u2).trans u3).trans u4).trans u5).trans u6).trans u7,(((((b1.up u2).up u3).up u4).up u5).up u6).up u7,((((b2.up u3).up u4).up u5).up u6).up u7,(((b3.up u4).up u5).up u6).up u7,((b4.up u5).up u6).up u7,(b5.up u6).up u7,b6.up u7,(aI.newAt w6 _ s6.symm t7 A7)⟩
structure iB(tc:Aab)(cn:Int)(w:af)(H:aS)(P:bz)(va vb:ah)(its:List (Nat × cQ))(outs:List au)(vp ab:ah)(W:af):Prop where
 ht:vn tc=false/\tc≠87
 pa:PA W (H.at vp) (bQ P its)
 t:Touch (PF H) w W
 o:∀k,vp.ownBlock=some k->H.h.vp.ownBlock=some k\/w.heap.size<=k
 x3:aI W w.heap.size 94 #[.pointer (some ⟨H.pb,0,none⟩)]
 x5:aI W (w.heap.size+1) 41 #[va]
 x6:aI W (w.heap.size+1+1) 88 #[.slice none 0 0]
 x7:aI W (w.heap.size+1+1+1) 50 #[.int .i64 0]
 x8:aI W (w.heap.size+1+1+1+1) 88 #[ab]
 c1:aI W (w.heap.size+1+1+1+1+1) tc #[vb]
 c2:aI W (w.heap.size+1+1+1+1+1+1) 3 #[.int .i64 cn]
 ov:a8 W w.heap.size ab outs
def iB.up{tc:Aab}{cn:Int}{w:af}{H:aS}{P:bz}{va vb:ah}{its:List (Nat × cQ)}{outs:List au}{vp ab:ah}{W W':af}(J:iB tc cn w H P va vb its outs vp ab W)(u:Up W W'):iB tc cn w H P va vb its outs vp ab W':=⟨J.ht,J.pa.up u,J.t.iD u,J.o,J.x3.up u,J.x5.up u,J.x6.up u,J.x7.up u,J.x8.up u,J.c1.up u,J.c2.up u,J.ov.up u⟩
theorem iB.put{tc:Aab}{cn:Int}{w:af}{H:aS}{P:bz}{va vb:ah}{its ae:List (Nat × cQ)}{outs:List au}{vp ab:ah}{W W':af}(J:iB tc cn w H P va vb its outs vp ab W)(D:PT W (H.at vp) (bQ P ae) W'):(∃aa,iB tc cn w H P va vb ae outs aa ab W')/\Touch (PF (H.at vp)) W W':=by
 have⟨bl,A1,T1,O1⟩:=D;obtain⟨ao,A2,T2,O2⟩:=PT.then J.t J.o D;have no:∀{g:Nat}{t:Aab}{C:Array ah},aI W g t C->vn t=false->¬PF (H.at vp) g:=λh1 h2=>J.pa.b' h1 h2;exact⟨⟨ao,J.ht,A2,T2,O2,J.x3.ax T1 (no J.x3 av),J.x5.ax T1 (no J.x5 av),J.x6.ax T1 (no J.x6 av),J.x7.ax T1 (no J.x7 av),J.x8.ax T1 (no J.x8 av),J.c1.ax T1 (no J.c1 J.ht.1),J.c2.ax T1 (no J.c2 av),
  ak.ax J.ov T1 (λk hk=>by
   obtain⟨_,h2⟩:=J.ov
   rcases h2 with⟨h3,_⟩|⟨g,cap,cur,h3,_,h5,_⟩
   ·
    rw[h3]at hk;cases hk
   ·
    rw[h3]at hk
    simp only[Aan,Aai]at hk
    subst hk
    exact J.pa.b' (t:=87) (C:=cur) h5 av)⟩,T1⟩
theorem iB.grow{tc:Aab}{cn:Int}{w:af}{H:aS}{P:bz}{va vb:ah}{its:List (Nat × cQ)}{outs:List au}{vp ab:ah}{W W':af}(J:iB tc cn w H P va vb its outs vp ab W){g:Nat}(hg:W.grownBy W' (some g))(hn:¬PF (H.at vp) g)(h0:w.heap.size+7<=g)(hv:ab.ownBlock≠some g):iB tc cn w H P va vb its outs vp ab W':=⟨J.ht,J.pa.grown hg hn,J.t.hp hg (λk hk=>aP),J.o,J.x3.grown hg (λe=>aP),J.x5.grown hg (λe=>aa),J.x6.grown hg (λe=>aP),J.x7.grown hg (λe=>aP),J.x8.grown hg (λe=>aP),J.c1.grown hg (λe=>aP),J.c2.grown hg (λe=>aP),ak.kept J.ov hg (.inr hv)⟩
theorem iB.push{tc:Aab}{cn:Int}{w:af}{H:aS}{P:bz}{va vb:ah}{its:List (Nat × cQ)}{outs ad:List au}{vp ab v':ah}{W W1:af}(J:iB tc cn w H P va vb its outs vp ab W)(hg:W.grownBy W1 ab.ownBlock)(own:a8 W1 w.heap.size v' ad):iB tc cn w H P va vb its ad vp v' (W1.setCell ⟨w.heap.size+1+1+1+1,0,none⟩ v')/\aI W1 (w.heap.size+1+1+1+1) 88 #[ab]/\KeepsOthers W W1:=by
 have ne:∀{b:Nat}{t:Aab}{C:Array ah},aI W b t C->t≠87->ab.ownBlock≠some b:=λh1 h2=>jd h2 h1 J.ov;have y8:=J.x8.grown hg (ne J.x8 av);have g2:=bX y8 0 v';have A1:PA W1 (H.at vp) (bQ P its):=J.pa.ax (F:=λk=>ab.ownBlock=some k) (Touch.be hg (λk hk=>hk)) (λk hk e=>by
  obtain⟨_,h2⟩:=J.ov;rcases h2 with⟨h3,_⟩|⟨g,cap,cur,h3,_,h5,_⟩
  ·rw[h3]at e;cases e
  ·rw[h3]at e;simp only[Aan,Aai]at e;subst e;exact J.pa.b' (t:=87) (C:=cur) h5 av hk)
 refine⟨⟨J.ht,A1.grown g2 (A1.b' y8 av),(J.t.hp hg (λk hk=>(J.ov.aJ k hk).1)).hp g2 (λk hk=>aP),J.o,?_,?_,?_,?_,?_,?_,?_,?_⟩,y8,?_⟩
 ·exact(J.x3.grown hg (ne J.x3 av)).grown g2 (λe=>aP)
 ·exact(J.x5.grown hg (ne J.x5 av)).grown g2 (λe=>aP)
 ·exact(J.x6.grown hg (ne J.x6 av)).grown g2 (λe=>aP)
 ·exact(J.x7.grown hg (ne J.x7 av)).grown g2 (λe=>aa)
 ·exact y8.setCell 0 v'
 ·exact(J.c1.grown hg (ne J.c1 J.ht.2)).grown g2 (λe=>aa)
 ·exact(J.c2.grown hg (ne J.c2 av)).grown g2 (λe=>aa)
 ·exact ak.kept own g2 (.inr (jd av y8 own))
 ·exact Ads hg (λj o e h=>by obtain⟨C,t,fr,hc⟩:=ns J.ov e;rw[hc]at h;cases h;rfl)
theorem iB.wj{tc:Aab}{cn:Int}{w:af}{H H':aS}{P P':bz}{va vb:ah}{its ae:List (Nat × cQ)}{outs ad:List au}{vp ab aa ag:ah}{W W':af}(J:iB tc cn w H P va vb its outs vp ab W)(J':iB tc cn w H' P' va vb ae ad aa ag W'):c' (oy (w.heap.size+1+1+1+1+1)) W W':=λb cs t fr hb hp=>by
 rcases hp with rfl|rfl
 ·rw[<-hb,show W.heap[_]?=_ from J.c1];exact J'.c1
 ·rw[<-hb,show W.heap[_]?=_ from J.c2];exact J'.c2
theorem iB.fin{tc:Aab}{cn:Int}{w:af}{H:aS}{P:bz}{va vb:ah}{its:List (Nat × cQ)}{outs:List au}{vp ab:ah}{W:af}(J:iB tc cn w H P va vb its outs vp ab W)(v6 v7:ah)(D:Nat)(hD:w.heap.size<=D)(hK:W.heap[D]?=some (.deferred (some []))):let W1:=(W.setCell ⟨w.heap.size+1+1,0,none⟩ v6).setCell ⟨w.heap.size+1+1+1,0,none⟩ v7;W1.heap[D]?=some (.deferred (some []))/\(W1.putObj D (.deferred none)).cell? (ad (w.heap.size+1+1) 0)=some v6/\(W1.putObj D (.deferred none)).cell? (ad (w.heap.size+1+1+1) 0)=some v7/\a8 (W1.putObj D (.deferred none)) w.heap.size ab outs/\PT w H (bQ P its) (W1.putObj D (.deferred none)):=by
 intro W1;have g1:=bX J.x6 0 v6;have y6:aI (W.setCell ⟨w.heap.size+1+1,0,none⟩ v6) (w.heap.size+1+1) 88 #[v6]:=J.x6.setCell 0 v6;have y7:=J.x7.grown g1 (λe=>by have:=dC e;omega);obtain⟨g2,z7⟩:=az (bX y7 0 v7) (y7.setCell 0 v7);have z6:=y6.grown g2 (λe=>by have:=dC e;omega);have A1:=J.pa.grown g1 (J.pa.b' J.x6 av);have o1:=ak.kept J.ov g1 (.inr (jd av J.x6 J.ov));have o2:=ak.kept o1 g2 (.inr (jd av y7 o1));have ao:W1.heap[D]?=some (.deferred (some [])):=((qk W _ _).trans (qk _ _ _)).same D _ hK rfl;have g3:=yT W1 D (.deferred none);have hr:zF W1 w.heap.size (some D):=λr e=>by cases e;exact⟨hD,_,ao,rfl⟩
 exact⟨ao,((z6.grown g3 (z6.cellsOf.ne hr)).cell 0),((z7.grown g3 (z7.cellsOf.ne hr)).cell 0),ak.kept o2 g3 (by
  cases hv:ab.ownBlock with
  | none=>exact .inl rfl
  | some k=>exact .inr (λe=>(ns o2 hv).ne hr e.symm)),vp,(A1.grown g2 (A1.b' y7 av)).H8 g3 hr,((J.t.hp g1 (λk hk=>by cases hk;omega)).hp g2 (λk hk=>by cases hk;omega)).hp g3 (λk hk=>by cases hk;exact hD),J.o⟩
def rX{W W':af}(u:Up W W'):KeepsOthers W W':=(Touch.bV (F:=λ_=>False) u).others (λ_ h=>h.elim)
theorem jz{W W':af}{g:Nat}(hg:W.grownBy W' (some g))(hc:mN W g):KeepsOthers W W':=Ads hg (λj o e h=>by cases e;obtain⟨C,t,fr,hc⟩:=hc;rw[hc]at h;cases h;rfl)
def Sw(tc:Aab)(cn:Int)(w:af)(H:aS)(P:bz)(va vb:ah)(its:List (Nat × cQ))(W:af):Prop:=∃vp ab,iB tc cn w H P va vb its (its.map (ar P.st)) vp ab W
section
variable {F:Fence} {n:Nat} {P:bu} {ops:Array Abi} {a:Act} {w:af} {Q:Exit->Act->af->Prop} {rest:List Abi} {dst:Option Tmp} {type:Aab} {pos:String} {after:Array Edge} {guard:Option (Nat × Bool)}
def yv(ty:TypeId)(x:bR)(h:wpListIn F n P ops Q ({dst:=dst,op:=.load ty x,type:=type,pos:=pos,after:=after,guard:=guard}::rest) a w):wpListIn F n P ops Q ({dst:=dst,op:=.load ty x,type:=type,pos:=pos,after:=after,guard:=guard}::rest) a w:=h
def m'{l:Nat}(ay:¬LetsOut Q){os:List Abi}(hd:rD os.toArray=true)(h:Hid (Aam P ops Q os a w)):wpListIn (Fence.wide.inRound l) n P ops Q os a w:=EV ay os a w (IF hd) h
end
theorem D8(tc:Aab)(cn:Int)(w:af)(H:aS)(P:bz)(va vb:ah)(f:List α->List (Nat × cQ))(B:Nat)(hB:w.heap.size<=B):OwnFrom B (λpre W=>Sw tc cn w H P va vb (f pre) W):=by
 rintro pre W W' row⟨vp,ab,⟨ht,A,T,O,X3,X5,X6,X7,X8,C1,C2,OV⟩⟩hg hr;exact⟨vp,ab,ht,A.H8 hg hr,T.hp hg (λk hk=>bO hB (hr k hk).1),O,X3.grown hg (X3.cellsOf.ne hr),X5.grown hg (X5.cellsOf.ne hr),X6.grown hg (X6.cellsOf.ne hr),X7.grown hg (X7.cellsOf.ne hr),X8.grown hg (X8.cellsOf.ne hr),C1.grown hg (C1.cellsOf.ne hr),C2.grown hg (C2.cellsOf.ne hr),
  ak.kept OV hg (by
   cases hv:ab.ownBlock with
   | none=>exact .inl rfl
   | some k=>exact .inr (λe=>(ns OV hv).ne hr e.symm))⟩
theorem G0(w:af)(H:aS)(P:bz)(A:PA w H P)(vb:ah)(b:List aj)(hb:aY w vb b)(aX:∀k,vb.ownBlock=some k->¬PF H k)(h1:1<=κ b)(aT:κ b<=65535)(va:ah)(ats:List Nat)(ha:aC bA w va (ats.map (λk:Nat=>(k:Int))))(han:∀k,va.ownBlock=some k->¬PF H k)(aO:bh (κ b) 128<=κ ats)(has:∀i∈ats,i<1024/\P.s i=2/\i<κ P.C)(hm:P.m+1024<=900000):Aaf Aag 278 #[pz H.pb,vb,va] w λe w'=>∃v,e=rt #[v,i6 0]/\
  a8 w' w.heap.size v ((gk ats b (Aal (bh (κ b) 128))).map (ar P.st))/\PT w H (bQ P (gk ats b (Aal (bh (κ b) 128)))) w':=by
 obtain⟨ba,bc,rfl⟩:=hb.slice;obtain⟨aa,ac,rfl⟩:=ha.slice;rw[Aac]at ha han ⊢;refine(fG (n:=6)).1 ?_;have bb:1<=6:=ae
 refine oK func278 rfl trivial ?_ rfl;simp only[ntmps278,Abj,Aaj,Aa5,Nat.reduceAdd,Nat.reduceSub,Aa9,Aba,Abk,Abc,Aa0,Aa2];gi_wp2_with(refine⟨trivial,?_⟩;gi_at_call 290;refine(fG.2 ((λW=>J7 W ba (κ b) bc) _)).mono ?_;rintro e w' ⟨rfl,rfl⟩);obtain⟨g,off,rfl,be,_⟩:=cf hb rfl h1;obtain⟨U0,X3,X5,X6,X7,X8,C1,C2⟩:=We w 94 41 88 50 88 30 3 #[pz H.pb] #[.slice aa (κ ats) ac] #[nl] #[i6 0] #[nl] #[sq g off (κ b) bc] #[i6 128];obtain⟨w0,ay⟩:=bE (((((((w.alloc (.cells #[pz H.pb] 94)).alloc (.cells #[.slice aa (κ ats) ac] 41)).alloc (.cells #[nl] 88)).alloc (.cells #[i6 0] 50)).alloc (.cells #[nl] 88)).alloc (.cells #[sq g off (κ b) bc] 30)).alloc (.cells #[i6 128] 3));rw[<-ay]at U0 X3 X5 X6 X7 X8 C1 C2;rw[<-ay];clear ay;have bg:bh (κ b) 128<=512:=A'
 have aR:κ b<=bc:=me hb;have HA0:=A;refine Fm (F:=Abw) rfl bb (gf:=296) (lb:=#[pz (w.heap.size+1+1+1+1+1),pz (w.heap.size+1+1+1+1+1+1)]) rfl trivial (enters_of func296 al rfl) (Ev 5 ae (w.heap.size+1+1+1+1+1) g off (κ b) bc ae aR w0 C2.lt (C1.cell 0) (C2.cell 0)) c'.trans jB (e7 _ _) (λ_=>rfl) (λpre W=>Sw 30 128 w H P (.slice aa (κ ats) ac) (sq g off (κ b) bc) (gk ats b (pre.map (·.1))) W) (λ_ _ _=>False) (D8 30 128 w H P _ _ (λpre:List (r3 (bh (κ b) 128))=>gk ats b (pre.map (·.1))) _ U0.size) (λ_ _ _ _ _ hs _ _=>hs) ⟨H.h.vp,nl,⟨av,av⟩,A.up U0,Touch.bV U0,λ_ h=>.inl h,X3,X5,X6,X7,X8,C1,C2,ak.nil _ _ _ _ _⟩ (λx=>{tmps:=#[pz H.pb,sq g off (κ b) bc,.slice aa (κ ats) ac,pz w.heap.size,Aat,pz (w.heap.size+1),pz (w.heap.size+1+1),pz (w.heap.size+1+1+1),pz (w.heap.size+1+1+1+1),gK 1 g off (κ b) 128 x.1,Aat,Aat,sq g off (κ b) bc,.func (.func 296) #[] #[pz (w.heap.size+1+1+1+1+1),pz (w.heap.size+1+1+1+1+1+1)],gK 1 g off (κ b) 128 x.1,Aat,Aat,Aat,Aat,Aat,Aat,Aat,Aat,Aat,Aat,Aat,Aat,Aat,Aat,Aat,Aat,Aat,Aat,Aat],defers:=[]}) ?assign ?body ?done ?stop
 case assign=>exact lE
 case stop=>rintro D c pre W _ _ h _;exact h.elim
 case done=>rintro D ys W hD aF⟨vp,ab,J⟩hK;have HJ:=an (show iB 30 128 w H P _ _ (gk ats b (Aal (bh (κ b) 128))) ((gk ats b (Aal (bh (κ b) 128))).map (ar P.st)) vp ab W from by rw[<-aF];exact J);refine UM ?_;clear aF;intro f6 f7 c8 c6 c7 za zc hz;obtain⟨zn,hzn⟩:=bE (κ ((gk ats b (Aal (bh (κ b) 128))).map (ar P.st)));rw[<-hzn]at hz;clear hzn;subst hz;have FIN:=an (HJ.fin (.slice za zn zc) (i6 0) D (by have:=U0.size;omega) hK);gi_wp2;refine No ?_;intro h6 h7;simp[results,Tryz.f278,go_sem,h6,h7]
 case body=>
  rintro l pre x W⟨vp,ab,J⟩hlt;obtain⟨j,hj⟩:=x;have aH:κ pre<κ ats:=ae
  obtain⟨its,ag⟩:=bE (gk ats b (pre.map (·.1)));have IL:κ its=κ pre:=by rw[ag];exact(r9 (ats:=ats) (b:=b) (pre:=pre.map (λx=>x.1)) l8).trans (Aac _)
  have SN:gk ats b ((pre++[(⟨j,hj⟩:r3 (bh (κ b) 128))]).map (λx=>x.1))=its++[(ats[κ pre],dz b j)]:=by rw[Aao,yW,Ih (b:=b) (pre:=pre.map (λx=>x.1)) j l8,<-ag];simp
  rw[<-ag]at J;clear ag;obtain⟨i1,i2,i3⟩:=has _ (cm aH);have aE:=ha.ax J.t han;obtain⟨ga,offa,rfl,bs,hca⟩:=cf aE FH l8;refine NV ?_;intro ca hga;have bo:=HI (hb.ax J.t aX) j ((fS ae).1 hj);have bt:¬PF (H.at vp) g:=qw HA0 J.o be (aX g rfl);obtain⟨e1,e2,e3,e4,e5⟩:=gp P its;generalize ats[κ pre]=i at *;have aP:=an (show ∀W',iB 30 128 w H P (sq ga offa (κ ats) ac) (sq g off (κ b) bc) its (its.map (ar P.st)) vp ab W'->aY W' (gK 1 g off (κ b) 128 j) (nu b j)->Aaf Aag 260 #[pz H.pb,i6 (i:Int),gK 1 g off (κ b) 128 j] W' λe W2=>e=rt #[.agg (a6 (ar P.st (i,dz b j))),i6 0]/\PT W' (H.at vp) (bQ P (its++[(i,dz b j)])) W2 from λW' J' aB=>by rw[sd];refine(tq W' (H.at vp) (bQ P its) J'.pa i i1 (by rw[e1];exact i2) (by rw[e5];exact i3) _ (nu b j) aB (vj b j) (by rw[e4,IL];omega)).mono ?_;rintro e W2⟨rfl,D⟩;exact⟨by rw[show ar P.st (i,dz b j)=⟨i,(bQ P its).st,eP (dz b j)⟩ from by rw[e2];rfl];rfl,D⟩)
  obtain⟨JJ,a7,bj⟩:=aW J bo SN;obtain⟨vd,vc,hvo⟩:=(ak.row J.ov pw).slice;rw[Aac,IL]at hvo;subst hvo;clear SN e1 e2 e3 e4 e5 i1 i2 i3 hca has;generalize bk:gK 1 g off (κ b) 128 j=cv at *;clear bk;gi_wp2;refine gR (S:=λW'=>aI W' w.heap.size 94 #[pz H.pb]/\aI W' (w.heap.size+1) 41 #[sq ga offa (κ ats) ac]/\aI W' (w.heap.size+1+1+1+1) 88 #[.slice vd (κ pre) vc]/\W'.cell? (ad ga (offa+κ pre))=some (i6 (i:Int))) al al (λ⟨_,_,h⟩=>h) ?_;change Acp _ _ _ _ _ 14 _ _ (W.drew);have UD:=an (Up.drew (Up.refl W));obtain⟨J4,HB4,CA4,KW⟩:=bS (JJ.up UD) (a7.up UD) (UD.cell ca) (yZ W);generalize hw4:W.drew=w4 at *;refine OA ?_;intro S4;refine tb 0 rfl (yc (λW hS=>hS.1.cell 0)) ?_;refine tb 1 rfl (yc (λW hS=>hS.2.1.cell 0)) ?_;refine tb 2 rfl (yc (λW hS=>hS.2.2.1.cell 0)) ?_;refine ta 3 ?_;refine ta 4 ?_;refine tb 5 rfl (yc (λW hS=>hS.2.2.2)) ?_;refine ta 6 ?_;refine pX 7 11 al rfl rfl rfl rfl ?_ ?_
  ·intro K hK;go_simp;refine(aP w4 J4 HB4).mono ?_;refine UN ?_;clear hK K;intro w5 D7 bm j7 T7 J5 CA5 K7 S7;refine ta 8 ?_;refine ta 9 ?_;refine uX ?_;obtain⟨IQ,OQ⟩:=aw (hU (ar P.st (i,dz b j))) (kM (ar P.st (i,dz b j)));refine Um ?_;intro G7 GV GL u8 J6 ao B8 K8 S8;generalize w5.alloc (.cells (a6 hole) 87)=w6 at *;refine ok 12 ?_;intro K hK;refine sS 87 (.tmp 10) (.tmp 24) rfl w5.heap.size (a6 (ar P.st (i,dz b j))) rfl rfl 87 (a6 hole) B8 IQ rfl OQ ?_;have g9:=cR w6 w5.heap.size (a6 (ar P.st (i,dz b j)));obtain⟨B9,J9⟩:=aw (B8.set (a6 (ar P.st (i,dz b j)))) (J6.grow g9 (J6.pa.b' B8 av) G7 GV);have aq:=an (show(w6.setRow w5.heap.size (a6 (ar P.st (i,dz b j)))).cell? (ad ga (offa+κ pre))=some (i6 (i:Int))from by have hlt:=uE GL;rw[nJ (show(w6.setRow w5.heap.size (a6 (ar P.st (i,dz b j)))).heap[ga]?=w6.heap[ga]? from g9.block ga (h8 w6 _ ao.out) (λe=>hlt (dC e)))];exact ao)
   have K9:=an (jz g9 B8.cellsOf);obtain⟨KK,S9⟩:=aw ((K7.trans K8).trans K9) (show aI (w6.setRow w5.heap.size (a6 (ar P.st (i,dz b j)))) w.heap.size 94 #[pz H.pb]/\aI (w6.setRow w5.heap.size (a6 (ar P.st (i,dz b j)))) (w.heap.size+1) 41 #[sq ga offa (κ ats) ac]/\aI (w6.setRow w5.heap.size (a6 (ar P.st (i,dz b j)))) (w.heap.size+1+1+1+1) 88 #[.slice vd (κ pre) vc]/\(w6.setRow w5.heap.size (a6 (ar P.st (i,dz b j)))).cell? (ad ga (offa+κ pre))=some (i6 (i:Int))from⟨J9.x3,J9.x5,J9.x8,aq⟩);refine hK _ _ S9 ?_;refine gF ?_;clear hK K;generalize w6.setRow w5.heap.size (a6 (ar P.st (i,dz b j)))=w9 at *;refine Ux ?_;intro U10 J10 PR LO n1 n2 c8;gi_wp2_with((with_reducible refine yv 88 (.tmp 8) ?_);refine m' (λ⟨_,_,h⟩=>h) al ?_);refine an ?_;go_wp2_with(first
    | refine arm ?_
    | ((with_reducible refine dS 88 1 _ ?_);refine bP rfl 88 87 (.tmp 30) rfl _ 3 24 (a6 (ar P.st (i,dz b j))) rfl Aas cF ae ae rfl ?_)
    | (at_builtin;refine bI pw rfl (.tmp 29) (.tmp 31) 88 rfl w.heap.size 87 _ 24 Aas cF rfl _ (its.map (ar P.st)) rfl J10.ov _ [(ar P.st (i,dz b j))] rfl PR n1 n2 J10.t.size ?_))
   intro v11 w11 own11 gr11 aN;obtain⟨za,zc,hz⟩:=(ak.row own11 pw).slice;obtain⟨zn,hzn⟩:=bE (κ (its.map (ar P.st)++[(ar P.st (i,dz b j))]));exact Uv
  ·intro K hK;obtain⟨IQ,OQ⟩:=aw (hU (ar P.st (i,dz b j))) (kM (ar P.st (i,dz b j)));refine Un ?_;clear hK K;intro G7 GV GL a1 u8 J5 CA5 B8 K8 S8;generalize w4.alloc (.cells (a6 hole) 87)=w5 at *;refine ok 7 ?_;intro K hK;go_simp;refine(aP w5 J5 a1).mono ?_;refine Ur ?_;clear hK K;intro w6 D7 bm j7 T7 J6 ao K7 B8 S7;refine bx ?_;refine ta 9 ?_;refine bx ?_;refine uX ?_;refine ok 12 ?_;intro K hK;refine sS 87 (.tmp 10) (.tmp 24) rfl w4.heap.size (a6 (ar P.st (i,dz b j))) rfl rfl 87 (a6 hole) B8 IQ rfl OQ ?_;have g9:=cR w6 w4.heap.size (a6 (ar P.st (i,dz b j)));obtain⟨B9,J9⟩:=aw (B8.set (a6 (ar P.st (i,dz b j)))) (J6.grow g9 (J6.pa.b' B8 av) G7 GV);have aq:=an (show(w6.setRow w4.heap.size (a6 (ar P.st (i,dz b j)))).cell? (ad ga (offa+κ pre))=some (i6 (i:Int))from by have hlt:=uE GL;rw[nJ (show(w6.setRow w4.heap.size (a6 (ar P.st (i,dz b j)))).heap[ga]?=w6.heap[ga]? from g9.block ga (h8 w6 _ ao.out) (λe=>hlt (dC e)))];exact ao)
   have K9:=an (jz g9 B8.cellsOf);obtain⟨KK,S9⟩:=aw ((K8.trans K7).trans K9) (show aI (w6.setRow w4.heap.size (a6 (ar P.st (i,dz b j)))) w.heap.size 94 #[pz H.pb]/\aI (w6.setRow w4.heap.size (a6 (ar P.st (i,dz b j)))) (w.heap.size+1) 41 #[sq ga offa (κ ats) ac]/\aI (w6.setRow w4.heap.size (a6 (ar P.st (i,dz b j)))) (w.heap.size+1+1+1+1) 88 #[.slice vd (κ pre) vc]/\(w6.setRow w4.heap.size (a6 (ar P.st (i,dz b j)))).cell? (ad ga (offa+κ pre))=some (i6 (i:Int))from⟨J9.x3,J9.x5,J9.x8,aq⟩);refine hK _ _ S9 ?_;refine gF ?_;clear hK K;generalize w6.setRow w4.heap.size (a6 (ar P.st (i,dz b j)))=w9 at *;refine Ux ?_;intro U10 J10 PR LO n1 n2 c8;gi_wp2_with((with_reducible refine yv 88 (.tmp 8) ?_);refine m' (λ⟨_,_,h⟩=>h) al ?_);refine an ?_;go_wp2_with(first
    | refine arm ?_
    | ((with_reducible refine dS 88 1 _ ?_);refine bP rfl 88 87 (.tmp 30) rfl _ 3 24 (a6 (ar P.st (i,dz b j))) rfl Aas cF ae ae rfl ?_)
    | (at_builtin;refine bI pw rfl (.tmp 29) (.tmp 31) 88 rfl w.heap.size 87 _ 24 Aas cF rfl _ (its.map (ar P.st)) rfl J10.ov _ [(ar P.st (i,dz b j))] rfl PR n1 n2 J10.t.size ?_))
   intro v11 w11 own11 gr11 aN;obtain⟨za,zc,hz⟩:=(ak.row own11 pw).slice;obtain⟨zn,hzn⟩:=bE (κ (its.map (ar P.st)++[(ar P.st (i,dz b j))]));exact Uy
end
section
open Go.Shelf
attribute [local go_sem] km
section
variable {P:bu}
def zA{ops:Array Oper}{Q:Exit->Act->af->Prop}{rest:List Oper}{a:Act}{w:af}{dst:Option Tmp}{type:TypeId}{pos:String}{after:Array Edge}{guard:Option (Nat × Bool)}(d s:bR)(dT sT:TypeId)(h:wpList P ops Q ({dst:=dst,op:=.call {callee:=.builtin .copy,args:=#[d,s],argTypes:=#[dT,sT]},type:=type,pos:=pos,after:=after,guard:=guard}::rest) a w):wpList P ops Q ({dst:=dst,op:=.call {callee:=.builtin .copy,args:=#[d,s],argTypes:=#[dT,sT]},type:=type,pos:=pos,after:=after,guard:=guard}::rest) a w:=h
theorem vQ{α:Type}{f:α->List ah}{k:Nat}(hw:gi f k){ops:Array Oper}{rest:List Oper}{op:Oper}{a:Act}{w:af}{Q:Exit->Act->af->Prop}(hgd:op.guard=none)(d s:bR)(dT sT:TypeId)(ho:op.op=.call {callee:=.builtin .copy,args:=#[d,s],argTypes:=#[dT,sT]})(elem:TypeId)(hu:P.underlying dT=some (.slice elem))(aN:(P.info? elem).map (·.size)=some k)(g n m:Nat)(sa:Option Addr)(sc:Nat)(hd:a.eval d=cC g n n)(hs:a.eval s=.slice sa m sc)(ys:List α)(hm:m=κ ys)(ai:aG f w (.slice sa m sc) ys)(h0:0<κ ys)(hn:κ ys<=n)(t:TypeId)(C:Array ah)(hb:aI w g t C)(hC:C.size=n*k)(h:∀w',aI w' g t (ys.flatMap f++C.toList.drop (κ ys*k)).toArray->w.grownBy w' (some g)->wpList P ops Q rest (a.put op.dst (goInt (κ ys))) w'):wpList P ops Q (op::rest) a w:=by
 subst hm;obtain⟨b,off,rfl,hbs,ba,hc⟩:=aG.get ai hw h0;refine h' hgd λK hK=>?_;have aj:κ (ys.flatMap f)=κ ys*k:=hw.flat ys;have hle:κ ys*k<=n*k:=Nat.mul_le_mul_right k hn;have hl:=run_loadCells_list (P:=P) w ⟨b,off,none⟩ (ys.flatMap f) (λj v hj=>by
  rw[add_plain];have ak:=hw.pos;have hi:j/k<κ ys:=(Nat.div_lt_iff_lt_mul ak).2 (by rw[<-aj];exact(ki.1 hj).1);have e:j/k*k+j%k=j:=by rw[A1];exact Nat.div_add_mod j k
  have:=hw.at ys (j/k) hi (j%k) (uz _ ak);rw[e,hj]at this;have h2:=hc (j/k) hi (j%k) v this.symm;rw[e]at h2;exact h2)
 have aF:=wq (P:=P) g 0 t (ys.flatMap f) 0 C w hb ae (λv hv=>hw.cv ys v hv);have ab:(C.toList.take (0+0)++ys.flatMap f++C.toList.drop (0+0+κ (ys.flatMap f))).toArray=(ys.flatMap f++C.toList.drop (κ ys*k)).toArray:=aa
 rw[ab]at aF;cases hq:P.info? elem with
 | none=>simp_all
 | some i=>
  have hi:i.size=k:=aa
  rw[aj]at hl;have hrun:(Builtin.copy_ #[dT,sT] op.type #[cC g n n,sq b off (κ ys) sc]).run P w=.ok (goInt (κ ys)) (w.setRow g (ys.flatMap f++C.toList.drop (κ ys*k)).toArray):=by simp[Builtin.copy_,run_underlying hu,Builtin.lenOf,Builtin.firstCells,sizeOf,typeInfo,hq,hi,(Nat.min_eq_left hn),hl,aF]
  unfold Ace;simp[Abt,ho,resolve,invoke,builtin,hd,hs,hrun,Aar];exact hK _ _ (h _ (hb.set _) (cR w g _))
end
def ff(l:List au)(j:Nat):List au:=(l.drop (8*j)).take 8
def hR(p:List au):List au:=p++Aad (8-κ p) hole
theorem lG(l:List au)(j:Nat):κ (ff l j)=min 8 (κ l-8*j):=by simp[ff]
theorem o0{p:List au}(h:κ p<=8):κ (hR p)=8:=by grind [hR]
theorem IG{p:List au}(h:κ p<=8):(p.flatMap dK++(aU eg).toList.drop (κ p*3)).toArray=aU (hR p):=by
 apply hn.1;show p.flatMap dK++(aU eg).toList.drop (κ p*3)=(aU (hR p)).toList;rw[fH,fH,hR,gl];congr 1;have:eg=Aad (κ p) hole++Aad (8-κ p) hole:=by rw[List.replicate_append_replicate];grind [eg]
 rw[this,gl,lh (by rw[pw.flat,wz])]
theorem Ka{l:List au}(h:c9 w (sq g off (κ l) cap) l)(j:Nat)(hj:8*j<κ l):c9 w (gK 3 g off (κ l) 8 j) (ff l j):=by
 obtain⟨b,o,e,hbs,ba,hc⟩:=aG.get h pw ae;simp only[Aai,Abm]at e;obtain⟨rfl,rfl,_⟩:=e;have hlen:=lG l j;refine .inr ⟨g,off+(8*j)*3,min 8 (κ l-8*j),by grind [gK],ae,ae,dy,λq u hq=>?_⟩;have aa:q<κ (ff l j)*3:=by rw[<-pw.flat];exact(ki.1 hq).1
 have hi:q/3<κ (ff l j):=ae
 have:=pw.at (ff l j) (q/3) hi (q%3) ae;rw[show q/3*3+q%3=q from ae,hq]at this;have h2:=hc (8*j+q/3) ae (q%3) u (by grind [ff]);grind
def hh(ats:List Nat)(l:List au)(pre:List Nat):List (Nat × cQ):=(ats.take (κ pre)).zip (pre.map (λj=>dG (hR (ff l j))))
theorem r8{l:List au}{pre:List Nat}(h:κ pre<=κ ats):κ (hh ats l pre)=κ pre:=by grind [hh]
theorem Ig{l:List au}{pre:List Nat}(x:Nat)(h:κ pre<κ ats):hh ats l (pre++[x])=hh ats l pre++[(ats[κ pre],dG (hR (ff l x)))]:=by unfold hh;exact Oh
theorem QW(s:cQ)(h:κ s.val<=128):eV s.val h=s:=by apply Subtype.ext;show fe s.val=s.val;unfold fe;simp;omega
theorem Aw{l:List au}(hg:∀p∈l,cw p=true)(j:Nat):jy (hR (ff l j))=true:=by
 unfold jy hR;simp only[List.all_append,Aa8,List.all_eq_true];refine⟨λp hp=>hg p ?_,λp hp=>?_⟩
 ·grind [ff]
 ·rw[List.eq_of_mem_replicate hp];decide
theorem Ji(g:Nat)(W:af):(Abq 176 (pz g) none none none).run Aag W=.ok (cC g 8 8) W:=aA
theorem Qq:(prog.info? 87).map (·.size)=some 3:=al
theorem aG.nP{f:α->List ah}{w w':af}{v:ah}{l:List α}{F:Nat->Prop}(h:aG f w v l)(T:Touch F w w')(hF:∀b,v.ownBlock=some b->¬F b):aG f w' v l:=by
 rcases h with h|⟨b,off,cap,h1,h2,h3,h4,h5⟩
 ·exact .inl h
 ·exact .inr ⟨b,off,cap,h1,h2,h3,h4,λj u hj=>fC (h5 j u hj) T (hF b uI)⟩
theorem JC{l:List au}(hg:∀p∈l,p.wf)(j:Nat):∀p∈hR (ff l j),p.wf:=by grind [hR,ff,au.wf,hole]
theorem CQ(w:af)(H:aS)(P:bz)(A:PA w H P)(vb:ah)(b:List au)(hb:c9 w vb b)(aX:∀k,vb.ownBlock=some k->¬PF H k)(h1:1<=κ b)(aT:κ b<=1000)(hgd:∀p∈b,cw p=true)(aK:∀p∈b,p.wf)(va:ah)(ats:List Nat)(ha:aC bA w va (ats.map (λk:Nat=>(k:Int))))(han:∀k,va.ownBlock=some k->¬PF H k)(aO:bh (κ b) 8<=κ ats)(has:∀i∈ats,i<1024/\P.s i=2/\i<κ P.C)(hm:P.m+1024<=900000):Aaf Aag 279 #[pz H.pb,vb,va] w λe w'=>∃v,e=rt #[v,i6 0]/\
  a8 w' w.heap.size v ((hh ats b (Aal (bh (κ b) 8))).map (ar P.st))/\PT w H (bQ P (hh ats b (Aal (bh (κ b) 8)))) w':=by
 obtain⟨ba,bc,rfl⟩:=hb.slice;obtain⟨aa,ac,rfl⟩:=ha.slice;rw[Aac]at ha han ⊢;refine(fG (n:=6)).1 ?_;have bb:1<=6:=ae
 refine oK func279 rfl trivial ?_ rfl;simp only[ntmps279,Abj,Aaj,Aa5,Nat.reduceAdd,Nat.reduceSub,Aa9,Aba,Abk,Abc,Aa0,Aa2];gi_wp2_with(refine⟨trivial,?_⟩;gi_at_call 291;refine(fG.2 ((λW=>J8 W ba (κ b) bc) _)).mono ?_;rintro e w' ⟨rfl,rfl⟩);obtain⟨g,off,rfl,be,bw,_⟩:=aG.get hb pw h1;obtain⟨U0,X3,X5,X6,X7,X8,C1,C2⟩:=We w 94 41 88 50 88 88 3 #[pz H.pb] #[.slice aa (κ ats) ac] #[nl] #[i6 0] #[nl] #[sq g off (κ b) bc] #[i6 8];obtain⟨w0,ay⟩:=bE (((((((w.alloc (.cells #[pz H.pb] 94)).alloc (.cells #[.slice aa (κ ats) ac] 41)).alloc (.cells #[nl] 88)).alloc (.cells #[i6 0] 50)).alloc (.cells #[nl] 88)).alloc (.cells #[sq g off (κ b) bc] 88)).alloc (.cells #[i6 8] 3));rw[<-ay]at U0 X3 X5 X6 X7 X8 C1 C2;rw[<-ay];clear ay;have bg:bh (κ b) 8<=512:=A'
 have aR:κ b<=bc:=bw;have HA0:=A;refine Fm (F:=Abw) rfl bb (gf:=297) (lb:=#[pz (w.heap.size+1+1+1+1+1),pz (w.heap.size+1+1+1+1+1+1)]) rfl trivial (enters_of func297 al rfl) (Ew 5 ae (w.heap.size+1+1+1+1+1) g off (κ b) bc ae aR w0 C2.lt (C1.cell 0) (C2.cell 0)) c'.trans jB (e7 _ _) (λ_=>rfl) (λpre W=>Sw 88 8 w H P (.slice aa (κ ats) ac) (sq g off (κ b) bc) (hh ats b (pre.map (·.1))) W) (λ_ _ _=>False) (D8 88 8 w H P _ _ (λpre:List (r3 (bh (κ b) 8))=>hh ats b (pre.map (·.1))) _ U0.size) (λ_ _ _ _ _ hs _ _=>hs) ⟨H.h.vp,nl,⟨av,av⟩,A.up U0,Touch.bV U0,λ_ h=>.inl h,X3,X5,X6,X7,X8,C1,C2,ak.nil _ _ _ _ _⟩ (λx=>{tmps:=#[pz H.pb,sq g off (κ b) bc,.slice aa (κ ats) ac,pz w.heap.size,Aat,pz (w.heap.size+1),pz (w.heap.size+1+1),pz (w.heap.size+1+1+1),pz (w.heap.size+1+1+1+1),gK 3 g off (κ b) 8 x.1,Aat,Aat,Aat,Aat,sq g off (κ b) bc,.func (.func 297) #[] #[pz (w.heap.size+1+1+1+1+1),pz (w.heap.size+1+1+1+1+1+1)],gK 3 g off (κ b) 8 x.1,Aat,Aat,Aat,Aat,Aat,Aat,Aat,Aat,Aat,Aat,Aat,Aat,Aat,Aat,Aat,Aat,Aat,Aat,Aat,Aat,Aat,Aat,Aat,Aat,Aat,Aat,Aat,Aat,Aat,Aat],defers:=[]}) ?assign ?body ?done ?stop
 case assign=>exact lE
 case stop=>rintro D c pre W _ _ h _;exact h.elim
 case done=>rintro D ys W hD aF⟨vp,ab,J⟩hK;have HJ:=an (show iB 88 8 w H P _ _ (hh ats b (Aal (bh (κ b) 8))) ((hh ats b (Aal (bh (κ b) 8))).map (ar P.st)) vp ab W from by rw[<-aF];exact J);refine UM ?_;clear aF;intro f6 f7 c8 c6 c7 za zc hz;obtain⟨zn,hzn⟩:=bE (κ ((hh ats b (Aal (bh (κ b) 8))).map (ar P.st)));rw[<-hzn]at hz;clear hzn;subst hz;have FIN:=an (HJ.fin (.slice za zn zc) (i6 0) D (by have:=U0.size;omega) hK);gi_wp2;refine No ?_;intro h6 h7;simp[results,Tryz.f279,go_sem,h6,h7]
 case body=>
  rintro l pre x W⟨vp,ab,J⟩hlt;obtain⟨j,hj⟩:=x;have aH:κ pre<κ ats:=ae
  obtain⟨its,ag⟩:=bE (hh ats b (pre.map (·.1)));have IL:κ its=κ pre:=by rw[ag];exact(r8 (ats:=ats) (l:=b) (pre:=pre.map (λx=>x.1)) l8).trans (Aac _)
  have SN:hh ats b ((pre++[(⟨j,hj⟩:r3 (bh (κ b) 8))]).map (λx=>x.1))=its++[(ats[κ pre],dG (hR (ff b j)))]:=by rw[Aao,yW,Ig (l:=b) (pre:=pre.map (λx=>x.1)) j l8,<-ag];simp
  rw[<-ag]at J;clear ag;obtain⟨i1,i2,i3⟩:=has _ (cm aH);have aE:=ha.ax J.t han;obtain⟨ga,offa,rfl,bs,hca⟩:=cf aE FH l8;refine NV ?_;intro ca hga;have bo:=Ka (aG.nP hb J.t aX) j ((fS ae).1 hj);have bt:¬PF (H.at vp) g:=qw HA0 J.o be (aX g rfl);obtain⟨e1,e2,e3,e4,e5⟩:=gp P its;generalize ats[κ pre]=i at *;have aV:=lG b j;have bd:=(fS (n:=κ b) (c:=8) ae).1 hj;obtain⟨m,hm⟩:=bE (κ (ff b j));have bD:1<=m/\m<=8:=ae
  have bk:gK 3 g off (κ b) 8 j=sq g (off+(8*j)*3) m m:=by unfold gK;rw[hm,aV]
  rw[bk];rw[bk]at bo;have NL:=o0 (p:=ff b j) ae;obtain⟨NC,GA⟩:=az (IG (p:=ff b j) ae) (Aw hgd j);obtain⟨v1,v2,v3⟩:=rE NL GA;have NB:=λW'=>Bl W' (hR (ff b j)) NL (JC aK j);unfold JS at NB;rw[v2,<-v1]at NB;obtain⟨NB,IN⟩:=aw NB (hI (hR (ff b j)) NL);generalize hsn:dG (hR (ff b j))=sn at *;generalize bn:ff b j=pp at *;have aP:=an (show ∀W' gs,iB 88 8 w H P (sq ga offa (κ ats) ac) (sq g off (κ b) bc) its (its.map (ar P.st)) vp ab W'->aY W' (cC gs 128 128) sn.val->Aaf Aag 260 #[pz H.pb,i6 (i:Int),cC gs 128 128] W' λe W2=>e=rt #[.agg (a6 (ar P.st (i,sn))),i6 0]/\PT W' (H.at vp) (bQ P (its++[(i,sn)])) W2 from λW' gs J' aB=>by rw[sd];have:=tq W' (H.at vp) (bQ P its) J'.pa i i1 (by rw[e1];exact i2) (by rw[e5];exact i3) _ sn.val aB FB (by rw[e4,IL];omega);rw[QW]at this;refine this.mono ?_;rintro e W2⟨rfl,D⟩;exact⟨by rw[show ar P.st (i,sn)=⟨i,(bQ P its).st,eP sn⟩ from by rw[e2];rfl],D⟩)
  obtain⟨JJ,a7,CA,bj⟩:=bS J bo (show W.cell? (ad ga (offa+κ pre))=some (i6 (i:Int))from ca) SN;obtain⟨vd,vc,hvo⟩:=(ak.row J.ov pw).slice;rw[Aac,IL]at hvo;subst hvo;clear ca SN e1 e2 e3 e4 e5 i1 i2 i3 hca has;obtain⟨aj,bf⟩:=az Ji hm.symm;rw[bf]at NC;obtain⟨br,U10⟩:=aw (aI.new W 176 (aU eg)) (ai W (.cells (aU eg) 176));clear hm bk v1 v2 v3 NL GA aV hsn bn;gi_wp2_with(refine m' (λ⟨_,_,h⟩=>h) al ?_);refine an ?_;go_wp2_with(refine arm ?_);gi_wp2_with(refine m' (λ⟨_,_,h⟩=>h) al ?_);refine an ?_;go_wp2_with((with_reducible refine zA (.tmp 17) (.tmp 18) 88 88 ?_);refine vQ pw rfl (.tmp 17) (.tmp 18) 88 88 rfl 87 Aas Qq W.heap.size 8 m _ m rfl rfl pp bf.symm (a7.up U10) ae ae 176 (aU eg) br (by rw[cn];decide) ?_);intro w2 hb2 bl;have B2:=an hb2;have bF:=an (show w2.cell? (ad ga (offa+κ pre))=some (i6 (i:Int))from by obtain⟨aL,hlt⟩:=az (U10.cell CA) (uE (h8 W _ CA));rw[nJ (show w2.heap[ga]?=_ from bl.block ga (h8 _ _ aL) (λe=>hlt (dC e)))];exact aL)
  clear aj CA NC;go_wp2;gi_wp2_with(refine m' (λ⟨_,_,h⟩=>h) al ?_);refine an ?_;go_wp2_with(refine arm ?_);refine(NB _).mono ?_;rintro e w3⟨rfl,u3⟩;have U4:=an (u3.trans (ai w3 (.cells (aD sn.val) 60)));clear NB IN;go_wp2_with(first
   | refine arm ?_
   | ((with_reducible refine cB 60 (.tmp 11) (.tmp 23) ?_);refine fK w3 rfl 60 (.tmp 11) (.tmp 23) rfl (aD sn.val) 60 (aD aM) rfl rfl rfl (dE sn) (an qs) (dr sn.val) ?_))
  have bG:=an (show aY (w3.alloc (.cells (aD sn.val) 60)) (cC w3.heap.size 128 128) sn.val from by have:=ij (aI.new w3 60 (aD sn.val)) 0 128 128 FB ae ae ae;rw[Aaw,dk FB]at this;exact this)
  have bJ:=mw;generalize aQ:w3.alloc (.cells (aD sn.val) 60)=w5 at *;clear aQ;generalize w3.heap.size=gs at *;gi_wp2;refine gR (S:=λW'=>aI W' w.heap.size 94 #[pz H.pb]/\aI W' (w.heap.size+1) 41 #[sq ga offa (κ ats) ac]/\aI W' (w.heap.size+1+1+1+1) 88 #[.slice vd (κ pre) vc]/\W'.cell? (ad ga (offa+κ pre))=some (i6 (i:Int))) al al (λ⟨_,_,h⟩=>h) ?_;change Acp _ _ _ _ _ 14 _ _ (w5.drew);have UD:=an (Up.drew (Up.refl w5));obtain⟨J4,HB4,CA4,KW⟩:=bS ((((JJ.up U10).grow bl ((JJ.pa.up U10).b' br av) (by have:=JJ.c2.lt;omega) (λe=>by have:=(JJ.ov.aJ _ e).2;omega)).up U4).up UD) (bG.up UD) (UD.cell (U4.cell bF)) ((((rX U10).trans (jz bl br.cellsOf)).trans (rX U4)).trans (yZ w5));generalize hw4:w5.drew=w4 at *;refine OA ?_;intro S4;refine tb 0 rfl (yc (λW hS=>hS.1.cell 0)) ?_;refine tb 1 rfl (yc (λW hS=>hS.2.1.cell 0)) ?_;refine tb 2 rfl (yc (λW hS=>hS.2.2.1.cell 0)) ?_;refine ta 3 ?_;refine ta 4 ?_;refine tb 5 rfl (yc (λW hS=>hS.2.2.2)) ?_;refine ta 6 ?_;refine bx ?_;refine pX 7 11 al rfl rfl rfl rfl ?_ ?_
  ·intro K hK;go_simp;refine(aP w4 gs J4 HB4).mono ?_;refine UN ?_;clear hK K;intro w5 D7 bm j7 T7 J5 CA5 K7 S7;refine bx ?_;refine ta 8 ?_;refine ta 9 ?_;refine uX ?_;obtain⟨IQ,OQ⟩:=aw (hU (ar P.st (i,sn))) (kM (ar P.st (i,sn)));refine Um ?_;intro G7 GV GL u8 J6 ao B8 K8 S8;generalize w5.alloc (.cells (a6 hole) 87)=w6 at *;refine ok 12 ?_;intro K hK;refine sS 87 (.tmp 13) (.tmp 37) rfl w5.heap.size (a6 (ar P.st (i,sn))) rfl rfl 87 (a6 hole) B8 IQ rfl OQ ?_;have g9:=cR w6 w5.heap.size (a6 (ar P.st (i,sn)));obtain⟨B9,J9⟩:=aw (B8.set (a6 (ar P.st (i,sn)))) (J6.grow g9 (J6.pa.b' B8 av) G7 GV);have aq:=an (show(w6.setRow w5.heap.size (a6 (ar P.st (i,sn)))).cell? (ad ga (offa+κ pre))=some (i6 (i:Int))from by have hlt:=uE GL;rw[nJ (show(w6.setRow w5.heap.size (a6 (ar P.st (i,sn)))).heap[ga]?=w6.heap[ga]? from g9.block ga (h8 w6 _ ao.out) (λe=>hlt (dC e)))];exact ao)
   have K9:=an (jz g9 B8.cellsOf);obtain⟨KK,S9⟩:=aw ((K7.trans K8).trans K9) (show aI (w6.setRow w5.heap.size (a6 (ar P.st (i,sn)))) w.heap.size 94 #[pz H.pb]/\aI (w6.setRow w5.heap.size (a6 (ar P.st (i,sn)))) (w.heap.size+1) 41 #[sq ga offa (κ ats) ac]/\aI (w6.setRow w5.heap.size (a6 (ar P.st (i,sn)))) (w.heap.size+1+1+1+1) 88 #[.slice vd (κ pre) vc]/\(w6.setRow w5.heap.size (a6 (ar P.st (i,sn)))).cell? (ad ga (offa+κ pre))=some (i6 (i:Int))from⟨J9.x3,J9.x5,J9.x8,aq⟩);refine hK _ _ S9 ?_;refine gF ?_;clear hK K;generalize w6.setRow w5.heap.size (a6 (ar P.st (i,sn)))=w9 at *;refine Uz ?_;intro U10 J10 PR LO n1 n2 c8;gi_wp2_with((with_reducible refine yv 88 (.tmp 8) ?_);refine m' (λ⟨_,_,h⟩=>h) al ?_);refine an ?_;go_wp2_with(first
    | refine arm ?_
    | ((with_reducible refine dS 88 1 _ ?_);refine bP rfl 88 87 (.tmp 43) rfl _ 3 24 (a6 (ar P.st (i,sn))) rfl Aas cF ae ae rfl ?_)
    | (at_builtin;refine bI pw rfl (.tmp 42) (.tmp 44) 88 rfl w.heap.size 87 _ 24 Aas cF rfl _ (its.map (ar P.st)) rfl J10.ov _ [(ar P.st (i,sn))] rfl PR n1 n2 J10.t.size ?_))
   intro v11 w11 own11 gr11 aN;obtain⟨za,zc,hz⟩:=(ak.row own11 pw).slice;obtain⟨zn,hzn⟩:=bE (κ (its.map (ar P.st)++[(ar P.st (i,sn))]));exact Uv
  ·intro K hK;obtain⟨IQ,OQ⟩:=aw (hU (ar P.st (i,sn))) (kM (ar P.st (i,sn)));refine Un ?_;clear hK K;intro G7 GV GL a1 u8 J5 CA5 B8 K8 S8;generalize w4.alloc (.cells (a6 hole) 87)=w5 at *;refine ok 7 ?_;intro K hK;go_simp;refine(aP w5 gs J5 a1).mono ?_;refine Ur ?_;clear hK K;intro w6 D7 bm j7 T7 J6 ao K7 B8 S7;refine ta 9 ?_;refine uX ?_;refine ok 12 ?_;intro K hK;refine sS 87 (.tmp 13) (.tmp 37) rfl w4.heap.size (a6 (ar P.st (i,sn))) rfl rfl 87 (a6 hole) B8 IQ rfl OQ ?_;have g9:=cR w6 w4.heap.size (a6 (ar P.st (i,sn)));obtain⟨B9,J9⟩:=aw (B8.set (a6 (ar P.st (i,sn)))) (J6.grow g9 (J6.pa.b' B8 av) G7 GV);have aq:=an (show(w6.setRow w4.heap.size (a6 (ar P.st (i,sn)))).cell? (ad ga (offa+κ pre))=some (i6 (i:Int))from by have hlt:=uE GL;rw[nJ (show(w6.setRow w4.heap.size (a6 (ar P.st (i,sn)))).heap[ga]?=w6.heap[ga]? from g9.block ga (h8 w6 _ ao.out) (λe=>hlt (dC e)))];exact ao)
   have K9:=an (jz g9 B8.cellsOf);obtain⟨KK,S9⟩:=aw ((K8.trans K7).trans K9) (show aI (w6.setRow w4.heap.size (a6 (ar P.st (i,sn)))) w.heap.size 94 #[pz H.pb]/\aI (w6.setRow w4.heap.size (a6 (ar P.st (i,sn)))) (w.heap.size+1) 41 #[sq ga offa (κ ats) ac]/\aI (w6.setRow w4.heap.size (a6 (ar P.st (i,sn)))) (w.heap.size+1+1+1+1) 88 #[.slice vd (κ pre) vc]/\(w6.setRow w4.heap.size (a6 (ar P.st (i,sn)))).cell? (ad ga (offa+κ pre))=some (i6 (i:Int))from⟨J9.x3,J9.x5,J9.x8,aq⟩);refine hK _ _ S9 ?_;refine gF ?_;clear hK K;generalize w6.setRow w4.heap.size (a6 (ar P.st (i,sn)))=w9 at *;refine Uz ?_;intro U10 J10 PR LO n1 n2 c8;gi_wp2_with((with_reducible refine yv 88 (.tmp 8) ?_);refine m' (λ⟨_,_,h⟩=>h) al ?_);refine an ?_;go_wp2_with(first
    | refine arm ?_
    | ((with_reducible refine dS 88 1 _ ?_);refine bP rfl 88 87 (.tmp 43) rfl _ 3 24 (a6 (ar P.st (i,sn))) rfl Aas cF ae ae rfl ?_)
    | (at_builtin;refine bI pw rfl (.tmp 42) (.tmp 44) 88 rfl w.heap.size 87 _ 24 Aas cF rfl _ (its.map (ar P.st)) rfl J10.ov _ [(ar P.st (i,sn))] rfl PR n1 n2 J10.t.size ?_))
   intro v11 w11 own11 gr11 aN;obtain⟨za,zc,hz⟩:=(ak.row own11 pw).slice;obtain⟨zn,hzn⟩:=bE (κ (its.map (ar P.st)++[(ar P.st (i,sn))]));exact Uy
end
def vI(b:List aj)(k:Nat):List aj:=(Aal k).flatMap (λi=>(dz b i).val)
theorem tB(b:List aj)(k:Nat):vI b (k+1)=vI b k++(dz b k).val:=by unfold vI;rw[Ab0,gl];simp
theorem He(b:List aj)(k:Nat):κ (vI b k)=128*k:=by
 induction k with
 | zero=>rfl
 | succ k ih=>grind [tB,dz]
theorem Ju(b:List aj):∀k,k<=bh (κ b) 128->vI b k=b.take (128*k)++Aad (128*k-κ b) 0
 | 0,_=>by simp[vI]
 | k+1,h=>by
  have hk:=(fS (n:=κ b) (c:=128) ae).1 (show k<_ from ae);rw[tB,Ju b k ae,show 128*k-κ b=0 from ae,List.replicate_zero,Ab4];show _++fe (nu b k)=_;unfold fe;rw[<-Abe];congr 1
  ·unfold nu;rw[show 128*(k+1)=128*k+128 from ae,List.take_add]
  ·congr 1;unfold nu;rw[ey,hA];omega
theorem RL(b:List aj):vI b (bh (κ b) 128)=b++Aad (128*bh (κ b) 128-κ b) 0:=by rw[Ju b _ (aE _),dk];grind [bh,fS]
theorem EW(w:af)(H:aS)(P:bz)(A:PA w H P)(vl:ah)(ps:List au)(hv:c9 w vl ps)(al:∀k,vl.ownBlock=some k->¬PF H k)(b:List aj)(h1:1<=κ b)(aT:κ b<=65535)(hl:κ ps=bh (κ b) 128)(hb:∀k(h:k<κ ps),fM P.C ps[k]=some (dz b k)):Aaf Aag 175 #[pz H.pb,vl,i6 (κ b:Int)] w λe w'=>∃v,e=rt #[v,i6 0]/\aY w' v b/\(∀k,v.ownBlock=some k->w.heap.size<=k)/\PG w H P w':=by
 have bg:bh (κ b) 128<=512:=A'
 have aX:κ b<=128*bh (κ b) 128:=by have:¬bh (κ b) 128<bh (κ b) 128:=ux _;rw[fS ae]at this;omega
 obtain⟨va,vc,rfl⟩:=hv.slice;obtain⟨HV,aF,HA,HB⟩:=bS hv al A hb;refine Gq ?_;intro ab;have MK:∀W:af,(Aci 30 (i6 0) (i6 ((κ ps:Int)*128))).run Aag W=.ok (cC W.heap.size 0 (κ ps*128)) (W.alloc (.cells (j1 (.int .u8 0) (κ ps*128)) 5)):=λW=>by have:=kE (P:=Aag) 30 5 (.int .u8 0) 1 Aau ew (κ ps*128) ae ae W;assumption
 have HL:=an hl;have bc:κ ps<=512:=ae
 clear al hb hl;go_in;go_wp2;clear MK;go_loopw [8,21] (λv i wr=>∃k:Nat,k<=κ ps/\i=i6 k/\Own aH 5 wr w.heap.size v (vI b k)/\PG w H P wr) (λ_ i _=>κ ps-(Aaq i).toNat)
 case atStart=>exact⟨0,bG _,rfl,(Own.room aH 5 w (.int .u8 0) w.heap.size (κ ps*128) (aE _) ae),(PG.of A (ai w (.cells (j1 (.int .u8 0) (κ ps*128)) 5)))⟩
 case round=>
  obtain⟨k,hk,rfl,hown,hg⟩:=hrel;obtain⟨HOWN,GR⟩:=aw hown hg;by_cases hlt:k<κ ps
  ·obtain⟨b0,off,rfl,hbs,ba,hc⟩:=(aG.nP HV GR.2 aF).range pw ae;have RC:=an (hc k hlt);have b2:((k:Int)<(κ ps:Int))=True:=by simp;omega
   obtain⟨TS,aL,ag⟩:=aW (tB b k) ((He b) k) (λW (AW:PA W H P)=>vk W H P AW ps[k] (dz b k) (HB k hlt));generalize ps[k]=p at *;generalize dz b k=s at *;generalize vI b k=tb at *;have bq:κ tb<=65536:=cr
   clear hc;obtain⟨ta,tc,rfl⟩:=(Own.cv HOWN).slice;obtain⟨SP,BX,G2,O2⟩:=bS s.property (aI.new wr 87 (a6 p)) (GR.up (ai wr (.cells (a6 p) 87))) (HOWN.up (ai wr (.cells (a6 p) 87)));go_wp2_with(first
    | refine cM 87 23 (a6 p) RC ?_
    | refine bH 87 fh ?_
    | refine dX 87 10 24 wr (a6 p) 87 (a6 hole) ?_
    | refine db 87 10 BX ?_)
   refine(ag _ G2.1).mono ?_;rintro e w3⟨rfl,g3⟩;have U4:=an (ai w3 (.cells (aD s.val) 60));obtain⟨G4,O4⟩:=aw ((G2.trans g3).up U4) ((Own.ax O2 g3.2 (λk hk=>ab _ (by have:=(O2.aJ k hk).1;omega))).up U4);have SI:=an (show aY (w3.alloc (.cells (aD s.val) 60)) (cC w3.heap.size 128 128) s.val from by have:=ij (aI.new w3 60 (aD s.val)) 0 128 128 ae ae ae ae;rw[Aaw,dk ae]at this;exact this)
   have bJ:=mw;clear ag;go_wp2_with(first
    | refine arm ?_
    | ((with_reducible refine cB 60 (.tmp 11) (.tmp 29) ?_);refine fK w3 rfl 60 (.tmp 11) (.tmp 29) rfl (aD s.val) 60 (aD aM) rfl rfl rfl (dE s) (an qs) (dr s.val) ?_)
    | (at_builtin;refine bf aH cg rfl (.tmp 34) (.tmp 35) 30 rfl w.heap.size 5 (.int .u8 0) 1 Aau ew rfl _ tb rfl O4 _ s.val aA SI ae ae G4.2.size ?_))
   intro v6 w6 aa ay aK;have aQ:=λkk aB=>(O4.aJ kk aB).1;go_wp2;go_roundw
   case rel=>exact⟨k+1,ae,aq,by rw[TS.out];exact aa,⟨G4.1.ax (Touch.be (F:=λn=>w.heap.size<=n) ay (λkk aB=>aQ kk aB)) (λb hb=>λhle=>ab b hle hb),G4.2.hp ay aQ⟩⟩
   case measure=>simp[Aaq];omega
  ·obtain rfl:k=κ ps:=by omega
   have ho:=HOWN.out;rw[HL.out,(RL b)]at ho;obtain⟨z,hz⟩:=bE (128*bh (κ b) 128-κ b);rw[<-hz]at ho;have a1:z<=65536:=ae
   clear hz;obtain⟨g,cap,aU,aP,ak,hc,_,_⟩:=Own.row ho ao;have bC:=an hc;have aR:κ b+z<=cap:=by have:=me (aU ▸ ho.cv);grind
   subst aU;clear hc;rw[show(b++Aad z (0:aj)).length=κ b+z from aq];have PC:=aC.piece (lo:=κ b) (hi:=κ b+z) (show aY wr (cC g (κ b+z) cap) (b++Aad z 0)from by have:=ho.cv;simpa using this) ae aq;rw[dk aq,lh rfl]at PC;have bd:∀W,(Aav 30 (cC g (κ b+z) cap) (some (i6 (κ b:Int))) none none).run Aag W=.ok (bW (some ⟨g,0,none⟩) (κ b) (κ b+z) cap) W:=λW=>df (P:=Aag) 30 dA dB _ _ cap (κ b) ae W;obtain⟨pa,pc,bn⟩:=PC.slice;rw[wz]at bn;rw[bn]at bd PC;clear bn;have az:∀W,(Aav 30 (cC g (κ b+z) cap) none (some (i6 (κ b:Int))) (some (i6 (κ b:Int)))).run Aag W=.ok (cC g (κ b) (κ b)) W:=λW=>by rw[run_slice_hm W 30 (some ⟨g,0,none⟩) (κ b+z) cap dA .i64 .i64 (κ b:Int) (κ b:Int) ae ae ae,dB];simp only[Aay,sliced,Abr];rw[aO ae];rfl
   obtain⟨w9,ar⟩:=bE (wr);subst ar;go_wp2;go_loopw [42] (λi wr=>∃k:Nat,k<=z/\i=i6 k/\wr=w9) (λi _=>z-(Aaq i).toNat)
   case atStart=>exact⟨0,bG _,rfl,rfl⟩
   case round=>
    obtain⟨k,hk,rfl,rfl⟩:=hrel;by_cases aN:k<z
    ·obtain⟨pb,po,rfl,av,aV⟩:=cf PC aq ao;have x0:=aV k ao;rw[List.getElem_replicate]at x0;replace x0:wr.cell? (ad pb (po+k))=some (.int .u8 0):=x0;have b3:((k:Int)<(z:Int))=True:=by simp;omega
     clear aV;go_wp2;go_roundw
     case rel=>exact⟨k+1,ae,fP,trivial⟩
     case measure=>simp[Aaq];omega
    ·obtain rfl:k=z:=by omega
     go_wp2;go_ret2;refine⟨_,rfl,?_,λk hk=>by cases hk;exact aP,GR⟩;refine .inr ⟨g,0,κ b,rfl,h1,aE _,dy,λi hi=>?_⟩;have:=bC i ao;rw[wx hi]at this;simp;omega
theorem Lm{p:List au}(h:aI w g 176 (aU (hR p)))(h0:0<κ p)(h8:κ p<=8):c9 w (cC g (κ p) 8) p:=by refine .inr ⟨g,0,8,rfl,h0,h8,av,λj u hj=>?_⟩;rw[h.cell,Abn];rw[<-l7,fH,hR,gl,yA ((ki.1 hj).1)];exact hj
theorem Jj(g hi:Nat)(h1:hi<=8)(W:af):(Abq 176 (pz g) none (some (i6 (hi:Int))) none).run Aag W=.ok (cC g hi 8) W:=by
 have aO:prog.arrayLen 176=8:=al
 have hs:(sizeOf (prog.elem 176)).run Aag W=.ok 3 W:=al
 rw[run_sliceAt_array_h W 176 ⟨g,0,none⟩ aA .i64 (hi:Int) ae ae,hs,aO];rfl
theorem VA{p:List au}(h:∀x∈p,x≠hole)(i:Nat)(hi:i<8):decide (bB (hR p) i=hole)=!decide (i<κ p):=by grind [bB,hR]
theorem RH(l:List au)(k:Nat):l.take (8*(k+1))=l.take (8*k)++ff l k:=by grind [ff]
theorem CJ(w:af)(H:aS)(P:bz)(A:PA w H P)(vl:ah)(ps:List au)(hv:c9 w vl ps)(al:∀k,vl.ownBlock=some k->¬PF H k)(L:List au)(h1:1<=κ L)(aT:κ L<=1000)(hl:κ ps=bh (κ L) 8)(hn:∀k(h:k<κ ps),node8 P.C ps[k]=some (hR (ff L k)))(hh:∀x∈L,x≠hole):Aaf Aag 174 #[pz H.pb,vl,i6 (κ L:Int)] w λe w'=>∃v,e=rt #[v,i6 0]/\a8 w' w.heap.size v L/\PG w H P w':=by
 have bg:bh (κ L) 8<=1000:=A'
 have bc:κ ps<=1000:=ae
 obtain⟨va,vc,rfl⟩:=hv.slice;obtain⟨HV,aF,HA,HB,HL,HH⟩:=iC hv al A hn hl hh;refine Gq ?_;intro ab;have GE:=an (show κ L<=8*κ ps from by have:¬bh (κ L) 8<bh (κ L) 8:=ux _;rw[fS ae]at this;rw[HL.out];omega)
 have MK:=λW=>mo (P:=Aag) 88 87 _ 3 24 Aas cF (κ L) ae ae W;clear al hn hl hh;go_in;go_wp2;clear MK;go_loopw [8,21] (λv i wr=>∃k:Nat,k<=κ ps/\i=i6 k/\a8 wr w.heap.size v (L.take (8*k))/\PG w H P wr) (λ_ i _=>κ ps-(Aaq i).toNat)
 case atStart=>exact⟨0,bG _,rfl,(ak.room dK 3 87 w (.agg #[i6 0,u6 0,.int .u32 0]) w.heap.size (κ L) (aE _) ae),(PG.of A (ai w (.cells (Acu (Value.agg #[i6 0,u6 0,.int .u32 0]).cells (κ L*3)) 87)))⟩
 case round=>
  obtain⟨k,hk,rfl,hown,hg⟩:=hrel;obtain⟨HOWN,GR⟩:=aw hown hg;by_cases hlt:k<κ ps
  ·obtain⟨b0,off,rfl,hbs,ba,hc⟩:=(aG.nP HV GR.2 aF).range pw ae;have RC:=an (hc k hlt);have b2:((k:Int)<(κ ps:Int))=True:=by simp;omega
   obtain⟨s,hs,ad⟩:=oZ (HB k hlt);obtain⟨bf,aH⟩:=az ((λk (h:k<κ ps)=>(fS (n:=κ L) (c:=8) ae).1 (by rw[<-HL.out];exact h)) k hlt) (lG L k);have TP:=an (RH L k);have aN:∀x∈ff L k,x≠hole:=λx hx=>HH x (by unfold ff at hx;exact sT (sN hx));obtain⟨m,hm⟩:=bE (κ (ff L k));obtain⟨r,hr⟩:=bE (κ L-8*k);obtain⟨ol,aY⟩:=bE (L.take (8*k));have bd:κ ol=8*k:=by rw[aY,ey];omega
   rw[<-aY]at HOWN TP;have bD:1<=m/\m<=8:=ae
   have aj:m=if r<8 then r else 8:=by split<;>omega
   obtain⟨on,aa⟩:=bE (κ ol);have aV:on<=1000:=ae
   have e5:(κ L:Int)-(on:Int)=(r:Int):=ae
   obtain⟨ag,ar,ay⟩:=aW (λW (AW:PA W H P)=>vk W H P AW ps[k] s hs) ad (λi hi=>VA aN i hi);have LN:=o0 (p:=ff L k) ae;have NF:=an (λW g (h:aI W g 176 (aU (hR (ff L k))))=>Lm h ae ae);rw[<-hm]at ay NF;generalize ff L k=pp at *;generalize ps[k]=p at *;obtain⟨aP,HM⟩:=aw aa hm;obtain⟨l,aR⟩:=bE (hR pp);rw[<-aR]at ay NF LN ar;clear hc hs ad aN aY bd hm aH bf hr aR;obtain⟨ta,tc,av⟩:=(ak.row HOWN pw).slice;rw[<-aa]at av;subst av;clear aa;obtain⟨IS,IN,aX,BX,G2,O2⟩:=iC (dE s) (hI l LN) LN (aI.new wr 87 (a6 p)) (GR.up (ai wr (.cells (a6 p) 87))) (HOWN.up (ai wr (.cells (a6 p) 87)));go_wp2_with(first
    | refine cM 87 23 (a6 p) RC ?_
    | refine bH 87 fh ?_
    | refine dX 87 10 24 wr (a6 p) 87 (a6 hole) ?_
    | refine db 87 10 BX ?_)
   refine(ag _ G2.1).mono ?_;rintro e w3⟨rfl,g3⟩;have U4:=an (ai w3 (.cells (aD s.val) 60));clear ag;go_wp2_with(first
    | refine arm ?_
    | ((with_reducible refine cB 60 (.tmp 11) (.tmp 29) ?_);refine fK w3 rfl 60 (.tmp 11) (.tmp 29) rfl (aD s.val) 60 (aD aM) rfl rfl rfl IS (an qs) (dr s.val) ?_))
   refine((λW=>DH W s.val s.property (by rw[ar.out])) _).mono ?_;rintro e w5⟨rfl,u5⟩;rw[ar.out];obtain⟨U6,N6⟩:=aw (u5.trans (ai w5 (.cells (aU l) 176))) (aI.new w5 176 (aU l));clear ar IS;have bb:(r<8/\m=r)\/(¬r<8/\m=8):=by
    by_cases h:r<8
    ·rw[bp h]at aj;exact .inl ⟨h,aj⟩
    ·rw[aO h]at aj;exact .inr ⟨h,aj⟩
   clear aj;obtain⟨mv,a7⟩:∃mv:Int,mv=(m:Int):=⟨_,rfl⟩;have b4:(if(r:Int)<8 then(r:Int)else 8)=mv:=by rw[a7];split<;>omega
   clear bb;go_wp2_with(first
    | refine arm ?_
    | ((with_reducible refine cB 176 (.tmp 13) (.tmp 37) ?_);refine fK w5 rfl 176 (.tmp 13) (.tmp 37) rfl (aU l) 176 (aU eg) rfl rfl rfl IN (an (by rw[cn,cn,LN];rfl)) (jJ l) ?_))
   go_loopw [47] (λi wr=>∃k:Nat,k<=8/\i=i6 k/\a8 wr w.heap.size (.slice ta on tc) ol/\PG w H P wr/\aI wr w5.heap.size 176 (aU l)) (λi _=>8-(Aaq i).toNat)
   case atStart=>exact⟨0,bG _,rfl,(((ak.ax O2 g3.2 (λk hk=>ab _ (by have:=(O2.aJ k hk).1;omega))).up U4).up U6),(((G2.trans g3).up U4).up U6),N6⟩
   case round=>
    obtain⟨i,hi,rfl,hown,hg,hblk⟩:=hrel;obtain⟨HOWN,GR,NB⟩:=aW hown hg hblk;by_cases aC:i<8
    ·obtain⟨IX,EQ⟩:=az (p9 l aX i aC) (IZ (bB l i));rw[ay.out i aC]at EQ;have b3:((i:Int)<8)=True:=by simp;omega
     generalize bB l i=x at *;obtain⟨UA,BX⟩:=aw (ai wr (.cells (a6 x) 87)) (aI.new wr 87 (a6 x));by_cases aK:i<m
     ·have b5:((i:Int)<mv)=True:=by rw[a7];simp;omega
      rw[fm aK]at EQ;simp only[Bool.not_true]at EQ;go_wp2_with(refine arm ?_);go_roundw
      case rel=>exact⟨i+1,ae,aq,HOWN.up UA,GR.up UA,NB.up UA⟩
      case measure=>simp[Aaq];omega
     ·have b5:((i:Int)<mv)=False:=by rw[a7];simp;omega
      rw[jb aK]at EQ;simp only[Bool.not_false]at EQ;go_wp2_with(refine arm ?_);go_roundw
      case rel=>exact⟨i+1,ae,aq,HOWN.up UA,GR.up UA,NB.up UA⟩
      case measure=>simp[Aaq];omega
    ·obtain rfl:i=8:=by omega
     have b3:(((8:Nat):Int)<8)=False:=aq
     have ao:=Jj w5.heap.size m bD.2;go_wp2_with(first
      | (at_builtin;refine bI pw rfl (.tmp 59) (.tmp 61) 88 rfl w.heap.size 87 _ 24 Aas cF rfl _ ol rfl HOWN _ pp rfl (NF wr w5.heap.size NB) (by rw[<-aP.out,<-HM.out];omega) (by rw[<-aP.out,<-HM.out];omega) GR.2.size ?_))
     intro v7 w7 aL a1 bj;have aQ:=λkk aB=>(HOWN.aJ kk aB).1;go_wp2;go_roundw
     case rel=>exact⟨k+1,ae,aq,by rw[TP.out];exact aL,⟨GR.1.ax (Touch.be (F:=λn=>w.heap.size<=n) a1 (λkk aB=>aQ kk aB)) (λb hb=>λhle=>ab b hle hb),GR.2.hp a1 aQ⟩⟩
     case measure=>simp[Aaq];omega
  ·obtain rfl:k=κ ps:=by omega
   have ho:=HOWN.out;rw[dk GE.out]at ho;go_wp2;go_ret2;exact⟨_,rfl,ho,GR⟩
theorem Dy:∀(n s k:Nat)(h:k+1<κ (s::l6 s)),s<=n->(s::l6 s)[k+1]=ly ((s::l6 s)[k]' ae) 8
 | 0,s,k,h,hs=>by rw[show l6 s=[] from hf ae]at h;simp at h
 | n+1,s,k,h,hs=>by
  by_cases h1:s<=1
  ·rw[hf h1]at h;simp at h
  ·have e:=jl (s:=s) ae;have h8:=Hj (s:=s) ae;cases k with
   | zero=>simp only[e,Adj,Aby]
   | succ k=>
    have h':k+1<κ (ly s 8::l6 (ly s 8)):=by rw[e]at h;simpa using h
    have:=Dy n (ly s 8) k h' ae;simp only[e,Adj]at this ⊢;exact this
theorem hY(h1:1<=n)(h2:n<=65535):eD n=ly n 128::l6 (ly n 128):=by grind [eD]
theorem qd(h1:1<=n)(h2:n<=65535)(h:k+1<κ (eD n)):(eD n)[k+1]=bh ((eD n)[k]' ae) 8:=by simp only[(hY h1 h2)]at h ⊢;exact Dy _ _ k h (aE _)
theorem EZ{n:Nat}(h1:1<=n)(h2:n<=65535):∀k(h:k<κ (eD n)),1<=(eD n)[k]/\(eD n)[k]<=512
 | 0,h=>by have e:=hY h1 h2;simp only[e,Aby];exact⟨xd ae h1,by unfold ly;omega⟩
 | k+1,h=>by have⟨a,b⟩:=EZ h1 h2 k ae;rw[qd h1 h2 h];exact⟨xd ae a,A'⟩
theorem Ly{f:α->ah}{f':β->List ah}{k':Nat}{e e':Aab}{v v':ah}{xs:List α}{ys:List β}(h:Own f e w base v xs)(h':ak f' k' e' w base' v' ys)(he:e≠e'):v.ownBlock=none\/v.ownBlock≠v'.ownBlock:=by exact Vi
structure iE(C:List cQ)(root:au)(b:List aj)(lv:Nat->List au):Prop where
 len:1<=κ b/\(κ b)<=65535
 sz:∀k(h:k<κ (eD (κ b))),κ (lv k)=(eD (κ b))[k]
 top:lv (κ (eD (κ b))-1)=[root]
 nh:∀k,k<κ (eD (κ b))->∀x∈lv k,x≠hole
 Zp:∀i(h:i<κ (lv 0)),fM C (lv 0)[i]=some (dz b i)
 nod:∀k,k+1<κ (eD (κ b))->∀i(h:i<κ (lv (k+1))),node8 C (lv (k+1))[i]=some (hR (ff (lv k) i))
def iN(lv:Nat->List au)(t:Nat):Nat->List au
 | 0=>[]
 | d+1=>iN lv t d++lv (t-(d+1))
theorem uv{lv:Nat->List au}{t:Nat}(h:∀k,k<t->κ (lv k)<=512):∀d,d<=t->κ (iN lv t d)<=512*d
 | 0,_=>by simp[iN]
 | d+1,hd=>by unfold iN;have:=uv h d ae;have:=h (t-(d+1)) ae;rw[Aae];omega
def dW(b:List aj)(lv:Nat->List au):List au:=iN lv (κ (eD (κ b))) (κ (eD (κ b)))
theorem q6(w:af)(H:aS)(P:bz)(A:PA w H P)(root:au)(b:List aj)(lv:Nat->List au)(B:iE P.C root b lv):Aaf Aag 112 #[pz H.pb,.agg (a6 root),i6 (κ b:Int)] w λe w'=>∃v u,e=rt #[v,u,i6 0]/\aY w' v b/\(∀k,v.ownBlock=some k->w.heap.size<=k)/\a8 w' w.heap.size u (dW b lv)/\PG w H P w':=by
 obtain⟨h1,h2⟩:=B.len;have aF:=(jk (κ b)).1;have aH:=an (show dW b lv=iN lv (κ (eD (κ b))) (κ (eD (κ b))) from rfl);have LC:=hY h1 h2;have bl:1<=κ (eD (κ b)):=aP
 have S0:=an (show(lv 0).length=bh (κ b) 128 by rw[B.sz 0 ae];simp only[LC];rfl);clear LC;obtain⟨SZ,SN,LV,bc,ag⟩:=eQ (show ∀k,k<κ (eD (κ b))->1<=κ (lv k)/\(κ (lv k))<=512 from λk hk=>by rw[B.sz k hk];exact(EZ h1 h2) k hk) (show ∀k,k+1<κ (eD (κ b))->κ (lv (k+1))=bh (κ (lv k)) 8 from λk hk=>by rw[B.sz (k+1) hk,B.sz k ae];exact(λk h=>qd (k:=k) h1 h2 h) k hk) (λW=>AU W (κ b) ae) (λk (h:k<κ (eD (κ b)))=>B.sz k h) B.top;obtain⟨ll,aR⟩:=bE (eD (κ b));obtain⟨t,ht⟩:=bE (κ ll);have ab:=an (show ∀g,w.heap.size<=g->¬PF H g from λg hg hf=>wG);have EQ:=IZ root;rw[jb (B.nh (κ (eD (κ b))-1) ae root (by rw[B.top];simp))]at EQ;have bo:=an (show(ll.map (λk:Nat=>(k:Int))).length=t from ao);rw[<-aR]at aF bl bc aH SZ SN ag LV;rw[<-ht]at aF bl aH SZ SN ag;obtain⟨aC,bb⟩:=aw aR ht;clear aR ht;go_in;go_wp2_with(refine arm ?_);refine(LV _).mono ?_;rintro e w2⟨vs,rfl,os,us⟩;obtain⟨B2,U2⟩:=aw ((aI.new w 87 (a6 root)).up us) ((ai w (.cells (a6 root) 87)).trans us);obtain⟨sa,sc,aD⟩:=os.cv.slice;rw[bo.out]at aD;subst aD;obtain⟨U3,U4⟩:=aw (ai w2 (.cells (a6 root) 87)) (ai (w2.alloc (.cells (a6 root) 87)) (.cells (a6 root) 87));have bt:((t:Int)==0)=false:=ao
 clear LV;go_wp2_with(first
  | refine arm ?_
  | ((with_reducible refine dS _ 1 _ ?_);refine bP rfl 88 _ (.tmp 26) rfl _ 3 _ _ rfl Aas cF ae ae rfl ?_)
  | ((with_reducible refine dS 88 1 _ ?_);refine bP rfl 88 87 (.tmp 28) rfl _ 3 24 (a6 root) rfl Aas cF ae ae rfl ?_))
 have bn:=an (show a8 ((w2.alloc (.cells (a6 root) 87)).alloc (.cells (a6 root) 87)) w.heap.size (cC (w2.heap.size+1) 1 1) (iN lv t 1)from by have:=(GI (w2.alloc (.cells (a6 root) 87)) w.heap.size (by have:=U2.size;have:=U3.size;omega) root);rw[aN]at this;unfold iN;rw[show iN lv t 0=[] from rfl,Aa0,show t-(0+1)=t-1 from rfl,ag.out];exact this)
 go_loopw [10,11,12] (λbF all i wr=>∃j:Nat,∃z:Int,j+1<=t/\i=i6 z/\z=(j:Int)-1/\a8 wr w.heap.size bF (lv j)/\a8 wr w.heap.size all (iN lv t (t-j))/\pI bF all/\Own bA 3 wr w.heap.size (.slice sa t sc) (ll.map (λk:Nat=>(k:Int)))/\PG w H P wr) (λ_ _ i _=>(Aaq i+1).toNat)
 case atStart=>exact⟨t-1,(t:Int)-2,ae,rfl,ae,(by rw[ag.out];exact((GI _ _ U2.size _).up U4)),by rw[show t-(t-1)=1 from ae];exact bn,.inr sU,((os.up U3).up U4).mono aq,(PG.of A ((U2.trans U3).trans U4))⟩
 case round=>
  obtain⟨j,z,hj,rfl,hz,aG,ad,aZ,bd,hg⟩:=hrel;have GR:=an hg;obtain⟨la,lc,rfl⟩:=(ak.row aG pw).slice;have bp:=(ak.row ad pw).slice;obtain⟨aa,ac,rfl⟩:=bp;have AL:=an (uv (lv:=lv) (t:=t) (λk hk=>(SZ k hk).2) (t-j) ae);cases j with
  | zero=>
   have b3:(z>=0)=False:=ao
   obtain⟨bk,LT⟩:=aw (show iN lv t (t-0)=dW b lv by rw[aH.out];rfl) (EW _ H P GR.1 _ _ (ak.row aG pw) (λk hk=>ab _ (aG.aJ k hk).1) b h1 h2 S0 B.Zp);clear hz;obtain⟨n0,ay⟩:=bE (κ (lv 0));obtain⟨n1,aK⟩:=bE (κ (iN lv t (t-0)));rw[<-ay]at LT ⊢;rw[<-aK]at ad ⊢;clear ay aK;go_wp2_with fail;refine LT.mono ?_;rintro e w3⟨v,rfl,hb,aX,hg⟩;obtain⟨bm,bf,bX⟩:=aW (GR.trans hg) (ak.ax ad hg.2 (λk hk=>ab _ (ad.aJ k hk).1)) (show ∀k,v.ownBlock=some k->w.heap.size<=k from λk hk=>bO GR.2.size (aX k hk));clear aX;go_wp2;go_ret3;exact⟨_,_,rfl,hb,bX,by rw[<-bk.out];exact bf,bm⟩
  | succ j=>
   obtain rfl:z=(j:Int):=ae
   have b3:((j:Int)>=0)=True:=aq
   have bg:j<t:=ae
   obtain⟨g,cap,ba,_,_,hc,_,_⟩:=Own.row bd cr;have aM:j<κ ll:=cr
   have x0:=hc j ao;rw[Adl]at x0;have az:ll[j]=κ (lv j):=by have:=aC.out;subst this;exact(bc j aM).symm
   rw[az]at x0;have ar:=bd;rw[ba,bo.out]at ar;rw[bo.out]at ba;simp only[Abh]at ba;obtain⟨rfl,_,rfl⟩:=ba;have hz1:=SZ j bg;have aE:=an (CJ _ H P GR.1 _ _ (ak.row aG pw) (λk hk=>ab _ (aG.aJ k hk).1) _ hz1.1 ae (SN j ae) (B.nod j (by rw[<-aC.out,<-bb.out];omega)) (B.nh j (by rw[<-aC.out,<-bb.out];omega)));have NX:=an (show iN lv t (t-j)=iN lv t (t-(j+1))++lv j by obtain⟨d,hd⟩:∃d,t-j=d+1:=⟨t-j-1,ae⟩;rw[hd,show t-(j+1)=d from ae];show iN lv t d++lv (t-(d+1))=_;rw[show t-(d+1)=j from ae])
   obtain⟨L0,aV⟩:=bE (lv j);rw[<-aV]at aE NX x0 hz1;have bH:=an aV;obtain⟨n0,ay⟩:=bE (κ (lv (j+1)));rw[<-ay]at aE ⊢;obtain⟨al,aO⟩:=bE (iN lv t (t-(j+1)));rw[<-aO]at ad NX AL ⊢;clear ay aO hc az hz aV;unfold bA at x0;go_wp2_with fail;refine aE.mono ?_;rintro e w3⟨v,rfl,hv,hg⟩;obtain⟨V3,G3,A3,S3⟩:=bS (hv.mono (base':=w.heap.size) GR.2.size) (GR.trans hg) (ak.ax ad hg.2 (λk hk=>ab _ (ad.aJ k hk).1)) (Own.ax ar hg.2 (λk hk=>ab _ (ar.aJ k hk).1));have a7:=an (show pI v (.slice aa (κ al) ac)from by
    cases h:v.ownBlock with
    | none=>exact .inl h
    | some k=>refine .inr (λe=>?_);have h1:=(hv.aJ k h).1;have h2:=(ad.aJ k (by rw[<-e];exact h)).2;omega)
   obtain⟨va,vc,aU⟩:=(ak.row hv pw).slice;obtain⟨m0,aT⟩:=bE (κ L0);rw[<-aT]at aU;subst aU;obtain⟨br,n1⟩:=aw aT (show(κ al+κ L0)*24<=140737488355328 from cr);clear x0 aT;go_wp2_with(first
    | (at_builtin;refine ej pw rfl (.tmp 50) (.tmp 51) 88 rfl _ _ _ _ Aas cF rfl _ _ rfl A3 _ _ rfl (ak.row V3 pw) n1 cr G3.2.size ?_))
   intro v7 w7 aL a1 bj bq;have aQ:=λkk aB=>(A3.aJ kk aB).1;go_wp2;go_roundw
   case rel=>exact⟨j,(j:Int)-1,ae,fP,rfl,by rw[<-bH.out];exact(ak.kept V3 a1 a7),by rw[NX.out];exact aL,(a7.grown bq (λk hk=>(V3.aJ k hk).2)),(sM S3 a1 (Ly S3 A3 av)),⟨G3.1.ax (Touch.be (F:=λn=>w.heap.size<=n) a1 (λkk aB=>aQ kk aB)) (λb hb=>λhle=>ab b hle hb),G3.2.hp a1 aQ⟩⟩
   case measure=>simp[Aaq]
def mM(st:Nat)(ats:List Nat)(b:List aj):Nat->List (Nat × cQ) × List Nat
 | 0=>(gk ats b (Aal (bh (κ b) 128)),ats.drop (bh (κ b) 128))
 | k+1=>(hh (mM st ats b k).2 ((mM st ats b k).1.map (ar st)) (Aal (bh (κ (mM st ats b k).1) 8)),(mM st ats b k).2.drop (bh (κ (mM st ats b k).1) 8))
def lf(st:Nat)(ats:List Nat)(b:List aj)(k:Nat):List au:=(mM st ats b k).1.map (ar st)
def fF(st:Nat)(ats:List Nat)(b:List aj):Nat->List (Nat × cQ)
 | 0=>[]
 | k+1=>fF st ats b k++(mM st ats b k).1
theorem l5{l:List Nat}(h:k<κ l):(l.take (k+1)).sum=(l.take k).sum+l[k]:=by rw[eo h,wD];simp only[Acm,Ac5];omega
theorem EY{l:List Nat}(k:Nat):(l.take k).sum<=l.sum:=by
 have h2:l.sum=(l.take k).sum+(l.drop k).sum:=by rw[<-wD,fO]
 omega
theorem AM{st:Nat}{ats:List Nat}{b:List aj}(h1:1<=κ b)(h2:κ b<=65535)(hn:κ ats=dF (κ b)):∀k(h:k<κ (eD (κ b))),κ (mM st ats b k).1=(eD (κ b))[k]/\(mM st ats b k).2=ats.drop ((eD (κ b)).take (k+1)).sum
 | 0,h=>by
  have e:=hY h1 h2;have e0:(eD (κ b))[0]=bh (κ b) 128:=by simp only[e,Aby];rfl
  have hs:=l5 h;rw[Abl,Ac5,Abn]at hs;have hle:=EY (l:=eD (κ b)) 1;rw[e0]at hs;refine⟨?_,?_⟩
  ·show(gk ats b _).length=_;rw[r9 (by rw[Acl,hn];unfold dF;omega),Acl,e0]
  ·show ats.drop _=_;rw[hs,Abn]
 | k+1,h=>by
  obtain⟨a,c⟩:=AM (st:=st) h1 h2 hn k ae;obtain⟨aD,hs,hle⟩:=cX (qd h1 h2 h) (l5 h) (EY (l:=eD (κ b)) (k+1+1));have aa:bh (κ (mM st ats b k).1) 8=(eD (κ b))[k+1]:=by rw[a,aD]
  refine⟨?_,?_⟩
  ·show(hh _ _ _).length=_;rw[r8 (by rw[Acl,c,hA,hn,aa];unfold dF;omega),Acl,aa]
  ·show(mM st ats b k).2.drop _=_;rw[c,Ac4,aa,hs]
theorem Dx:∀(n s k:Nat)(h:k<κ (s::l6 s)),s<=n->((s::l6 s)[k]<=1↔k+1=κ (s::l6 s))
 | 0,s,k,h,hs=>by have e:=hf (s:=s) ae;exact NW
 | n+1,s,k,h,hs=>by
  by_cases h1:s<=1
  ·have e:=hf h1;exact NW
  ·have e:=jl (s:=s) ae;have h8:=Hj (s:=s) ae;cases k with
   | zero=>simp only[e,Aby,Aaj];omega
   | succ k=>
    have h':k<κ (ly s 8::l6 (ly s 8)):=by rw[e]at h;simpa using h
    have:=Dx n (ly s 8) k h' ae;simp only[e,Adj,Aaj]at this ⊢;rw[this];omega
theorem TS(h1:1<=n)(h2:n<=65535)(h:k<κ (eD n)):((eD n)[k]<=1↔k+1=κ (eD n)):=by simp only[(hY h1 h2)]at h ⊢;exact Dx _ _ k h (aE _)
theorem q':prog.underlying 41=some (.slice (prog.elem 41)):=al
theorem ra(W:af):(sizeOf (prog.elem 41)).run Aag W=.ok 1 W:=al
theorem AL(st:Nat)(ats:List Nat)(b:List aj)(k:Nat):(mM st ats b (k+1)).1=hh (mM st ats b k).2 (lf st ats b k) (Aal (bh (κ (lf st ats b k)) 8))/\(mM st ats b (k+1)).2=(mM st ats b k).2.drop (bh (κ (lf st ats b k)) 8):=by unfold lf;rw[Aac];exact⟨rfl,rfl⟩
def EN(st:Nat)(ats:List Nat)(b:List aj):∀k,∀i∈(mM st ats b k).2,i∈ats
 | 0,i,h=>sT h
 | k+1,i,h=>EN st ats b k i (sT h)
theorem EM(st:Nat)(ats:List Nat)(b:List aj):∀k,∀x∈(mM st ats b k).1,x.1∈ats
 | 0,x,h=>sN (List.of_mem_zip h).1
 | k+1,x,h=>EN st ats b k _ (sN (List.of_mem_zip h).1)
theorem n2{P:bz}(has:∀i∈ats,4<=i/\i<1024/\P.s i=2/\i<κ P.C)(aF:1<=P.st/\P.st<=281474976710655)(k:Nat):∀p∈lf P.st ats b k,p.wf/\cw p=true:=λp hp=>by obtain⟨x,hx,rfl⟩:=Abb.1 hp;have:=has _ (EM _ _ _ k x hx);exact mh this.1 this.2.1 aF.1 aF.2 x.2
theorem um{st:Nat}{ats:List Nat}{b:List aj}(h1:1<=κ b)(h2:κ b<=65535)(hn:κ ats=dF (κ b)):∀k,k<=κ (eD (κ b))->κ (fF st ats b k)=((eD (κ b)).take k).sum
 | 0,_=>rfl
 | k+1,h=>by show(fF st ats b k++(mM st ats b k).1).length=_;rw[Aae,um h1 h2 hn k ae,(AM h1 h2 hn k ae).1,l5]
theorem yh(P:bz)(l m:List (Nat × cQ)):bQ P (l++m)=bQ (bQ P l) m:=by
 induction l generalizing P with
 | nil=>rfl
 | cons x l ih=>obtain⟨i,s⟩:=x;exact ih _
theorem eC{H:aS}{P:bz}(A:PA w H P){v:ah}{xs:List au}(h:a8 w base v xs):∀k,v.ownBlock=some k->¬PF H k:=λk hk=>by
 obtain⟨_,h2⟩:=h;rcases h2 with⟨h3,_⟩|⟨g,cap,cur,h3,_,h5,_⟩
 ·rw[h3]at hk;cases hk
 ·rw[h3]at hk;simp only[Aan,Aai]at hk;subst hk;exact A.b' (t:=87) (C:=cur) h5 av
theorem rI{lo hi cap n c:Nat}(h:(bW a lo hi cap).ownBlock=some k):(Acg a n c).ownBlock=some k:=by
 cases a with
 | none=>unfold bW at h;simp[Aan]at h
 | some a=>
  unfold bW at h;split at h
  ·exact h
  ·simp only[Option.map_some,Aan,Aai]at h;rw[show(a.add (lo*1)).block=a.block from by unfold Addr.add;split<;>rfl]at h;simp only[Aan,h]
theorem th{f:α->ah}{v:ah}{l:List α}(h:aC f w v l)(h0:0<κ l):∀k,v.ownBlock=some k->k<w.heap.size:=λk hk=>by
 rcases h with⟨rfl,_⟩|⟨b,off,cap,h1,h2,h3,h4,h5⟩
 ·simp at h0
 ·rw[h1]at hk;simp only[Aan,Aai]at hk;subst hk;exact h8 w _ (h5 0 h0)
theorem C5(w:af)(H:aS)(P:bz)(A:PA w H P)(vb:ah)(b:List aj)(hb:aY w vb b)(aX:∀k,vb.ownBlock=some k->¬PF H k)(h1:1<=κ b)(h2:κ b<=65535)(va:ah)(ats:List Nat)(ha:aC bA w va (ats.map (λk:Nat=>(k:Int))))(han:∀k,va.ownBlock=some k->¬PF H k)(aO:κ ats=dF (κ b))(has:∀i∈ats,4<=i/\i<1024/\P.s i=2/\i<κ P.C)(aF:1<=P.st/\P.st<=281474976710655)(hm:P.m+4096<=900000):Aaf Aag 257 #[pz H.pb,vb,va] w λe w'=>∃root,lf P.st ats b (κ (eD (κ b))-1)=[root]/\e=rt #[.agg (a6 root),i6 0]/\PT w H (bQ P (fF P.st ats b (κ (eD (κ b))))) w':=by
 obtain⟨T4,N1⟩:=jk (κ b);have LC:=hY h1 h2;have bl:1<=κ (eD (κ b)):=aP
 have aK:1<=dF (κ b):=by unfold dF;rw[LC,Acm];have:=xd (b:=128) ae h1;omega
 have al:dF (κ b)<=1024:=N1;obtain⟨bI,LM,bd,bO⟩:=bS (AM (st:=P.st) h1 h2 aO) (EZ h1 h2) han has;have e0:(eD (κ b))[0]' ae=bh (κ b) 128:=by simp only[LC,Aby];rfl
 have aM:bh (κ b) 128<=κ ats:=by have:=l5 (l:=eD (κ b)) (k:=0) ae;have h3:=EY (l:=eD (κ b)) (0+1);rw[Abl,Ac5,e0]at this;rw[aO];unfold dF;omega
 have ND:=an (vf (w.alloc (.cells (a6 hole) 87)) (κ b) ae);obtain⟨ba,bc,rfl⟩:=hb.slice;obtain⟨aa,ac,rfl⟩:=ha.slice;rw[Aac,aO]at ha bd;have ST:=an (λW (u:Up w W)=>G0 W H P (A.up u) _ b (hb.up u) aX h1 h2 _ _ (ha.up u) bd aM (λi hi=>(has i hi).2) ae);have bo:κ (ats.map (λk:Nat=>(k:Int)))=κ ats:=aq
 rw[bo,aO];obtain⟨bC,HAL,E0⟩:=aW aM aO e0;have L0:(fF P.st ats b 1)=gk ats b (Aal (bh (κ b) 128)):=aA
 have bH:=an L0;clear aX han has aM LC e0 L0 bo;obtain⟨nd,aB⟩:=bE (dF (κ b));rw[<-aB]at ND ST ha bd aK al ⊢;have HND:=an aB;clear aB N1;have bn:((nd:Int)==0)=false:=ao
 go_in;go_wp2_with(refine arm ?_);refine ND.mono ?_;rintro e w2⟨rfl,u2⟩;obtain⟨U2,B2⟩:=aw ((ai w (.cells (a6 hole) 87)).trans u2) ((aI.new w 87 (a6 hole)).up u2);go_wp2_with fail;refine(ST _ U2).mono ?_;rintro e w3⟨v,rfl,hv,D3⟩;obtain⟨t,ht⟩:=bE (κ (eD (κ b)));have HT:=an ht;have⟨bs,A3,T3,O3⟩:=D3;have aT:=(bI 0 ae).1;have bx:κ (lf P.st ats b 0)=bh (κ b) 128:=by unfold lf;rw[Aac,aT];exact E0
 obtain⟨vv,vc,aU⟩:=(ak.row hv pw).slice;obtain⟨n0,ay⟩:=bE (bh (κ b) 128);have aQ:κ ((gk ats b (Aal (bh (κ b) 128))).map (ar P.st))=n0:=by rw[ay];exact bx
 rw[aQ]at aU;subst aU;have bk:n0<=nd:=cr
 have AT:=aC.piece ha (lo:=n0) (hi:=nd) bk T8;rw[dk T8,<-qj]at AT;have bP:∀W,(Aav 41 (.slice aa nd ac) (some (i6 (n0:Int))) none none).run Aag W=.ok (bW aa n0 nd ac) W:=λW=>df (P:=Aag) 41 q' ra aa nd ac n0 bk W;have bt:=an (show aC bA w (bW aa n0 nd ac) ((mM P.st ats b 0).2.map (λk:Nat=>(k:Int)))from by rw[show(mM P.st ats b 0).2=ats.drop n0 from by rw[ay];rfl];exact AT)
 have bm:=an (show ∀k,(bW aa n0 nd ac).ownBlock=some k->¬PF H k from λk hk=>bd k (rI hk));obtain⟨bX,aL⟩:=bE (bW aa n0 nd ac);rw[<-aL]at bP bt bm;clear O3 ST aT bx aQ ay bk aL ht;have b1:1<=t:=cr
 go_wp2;clear bP;go_loopw [2,9,10] (λbD bF err wr=>∃j:Nat,j<t/\err=i6 0/\a8 wr w.heap.size bF (lf P.st ats b j)/\aC bA w bD ((mM P.st ats b j).2.map (λk:Nat=>(k:Int)))/\(∀k,bD.ownBlock=some k->¬PF H k)/\PT w H (bQ P (fF P.st ats b (j+1))) wr/\aI wr w.heap.size 87 (a6 hole)) (λbD _ _ _=>OZ bD)
 case atStart=>exact⟨0,ae,rfl,(hv.mono U2.size),bt,bm,(by rw[bH.out];exact PT.pre U2 D3),(B2.ax T3 ((A.up U2).b' B2 av))⟩
 case round=>
  obtain⟨j,hj,rfl,aG,CF,bw,hd,hblk⟩:=hrel;have a7:=an bw;have bg:j<κ (eD (κ b)):=cr
  obtain⟨br,bM⟩:=bI j bg;have bp:κ (lf P.st ats b j)=(eD (κ b))[j]:=by unfold lf;rw[Aac,br]
  obtain⟨bT,ab⟩:=az (LM j bg) ((λk h=>TS (k:=k) h1 h2 h) j bg);obtain⟨la,lc,a1⟩:=(ak.row aG pw).slice;obtain⟨xa,xc,bq⟩:=CF.slice;rw[Aac]at bq;rw[bp]at a1;clear bw bm;by_cases bJ:1<(eD (κ b))[j]
  ·have bj:j+1<κ (eD (κ b)):=by omega
   have⟨vp,A5,T5,O5⟩:=hd;obtain⟨aD,aR,aJ,aN⟩:=iQ ((λk h=>qd (k:=k) h1 h2 h) j bj) (l5 bg) (l5 bj) (EY (l:=eD (κ b)) (j+1+1));have bL:(eD (κ b)).sum=nd:=by rw[HND.out];rfl
   have ad:κ (mM P.st ats b j).2=nd-((eD (κ b)).take (j+1)).sum:=by rw[bM,hA,HAL.out,<-HND.out]
   have bZ:bh (κ (lf P.st ats b j)) 8=(eD (κ b))[j+1]:=aP
   have bK:=LM (j+1) bj;obtain⟨q1,q2,q3,q4,q5⟩:=gp P (fF P.st ats b (j+1));have aH:=(um (st:=P.st) h1 h2 aO) (j+1) ae;obtain⟨k1,k2⟩:=AL P.st ats b j;have hgd:=n2 (P:=P) (b:=b) bO aF j;have bR:=CQ wr (H.at vp) (bQ P (fF P.st ats b (j+1))) A5 u9 (lf P.st ats b j) (ak.row aG pw) (eC A5 aG) ae ae (λp hp=>(hgd p hp).2) (λp hp=>(hgd p hp).1)
    u2 (mM P.st ats b j).2 (CF.ax T5 a7) (λk hk=>qw A O5 (th CF ao k hk) (a7 k hk)) ae (λi hi=>by
     have:=bO i (EN _ _ _ j i hi)
     exact⟨this.2.1,aP,ae⟩) (by rw[q4,aH];omega)
   rw[q2,<-k1]at bR;have AT:=aC.piece (a:=xa) (n:=κ (mM P.st ats b j).2) (cap:=xc) (bq ▸ CF) (lo:=(eD (κ b))[j+1]) (hi:=κ (mM P.st ats b j).2) ae aq;rw[dk aq,<-qj]at AT;have bb:∀W,(Aav 41 (.slice xa (κ (mM P.st ats b j).2) xc) (some (i6 (((eD (κ b))[j+1]:Nat):Int))) none none).run Aag W=.ok (bW xa (eD (κ b))[j+1] (κ (mM P.st ats b j).2) xc) W:=λW=>df (P:=Aag) _ q' ra _ _ _ _ ae W;obtain⟨bt,bm⟩:=aw (show aC bA w (bW xa (eD (κ b))[j+1] (κ (mM P.st ats b j).2) xc) ((mM P.st ats b (j+1)).2.map (λk:Nat=>(k:Int)))from aP) (show ∀k,(bW xa (eD (κ b))[j+1] (κ (mM P.st ats b j).2) xc).ownBlock=some k->¬PF H k from λk hk=>a7 k (by rw[bq];exact rI hk));have MS:=an (show OZ (bW xa (eD (κ b))[j+1] (κ (mM P.st ats b j).2) xc)<κ (mM P.st ats b j).2 from by show(mM P.st ats b j).2.length-(eD (κ b))[j+1]<_;omega)
   have NL:=an (show((mM P.st ats b (j+1)).1.map (ar P.st)).length=(eD (κ b))[j+1] from by rw[Aac];exact(bI (j+1) bj).1);have bV:=an (show ∀w6,PT wr (H.at vp) (bQ (bQ P (fF P.st ats b (j+1))) (mM P.st ats b (j+1)).1) w6->PT w H (bQ P (fF P.st ats b (j+1+1))) w6 from λw6 D6=>by have:=PT.then T5 O5 D6;rw[<-yh]at this;exact this)
   obtain⟨bX,aL⟩:=bE (bW xa (eD (κ b))[j+1] (κ (mM P.st ats b j).2) xc);rw[<-aL]at bb bt bm MS;obtain⟨m1,bB⟩:=bE ((eD (κ b))[j+1]);rw[<-bB]at bb NL;obtain⟨nj,bU⟩:=bE ((eD (κ b))[j]);rw[<-bU]at a1 bJ bT;obtain⟨xn,bf⟩:=bE (κ (mM P.st ats b j).2);rw[<-bf]at bb MS bq;clear aL bB bU bf aD aR aJ aN bL ad bZ bK q1 q2 q3 q4 q5 aH k1 k2 hgd O5 ab bp br bM bg a7;have b5:((nj:Int)>1)=True:=ao
   subst a1 bq;go_wp2_with fail;refine bR.mono ?_;rintro e w6⟨v,rfl,hv,D6⟩;have⟨_,_,T6,_⟩:=D6;obtain⟨va,vc,aU⟩:=(ak.row hv pw).slice;rw[NL.out]at aU;subst aU;clear NL;go_wp2;go_roundw
   case rel=>exact⟨j+1,cr,rfl,(hv.mono T5.size),bt,bm,(bV _ D6),(hblk.ax T6 (A5.b' hblk av))⟩
   case measure=>exact MS
  ·have bj:=ab.1 ae;obtain⟨root,au⟩:=List.length_eq_one_iff.1 (show(lf P.st ats b j).length=1 from ae);have aV:(eD (κ b))[j]=1:=by omega
   rw[aV]at a1;subst a1;rw[au]at aG;obtain⟨g,off,rfl,be,b0,hc⟩:=(ak.row aG pw).range pw aq;obtain⟨RC,bG⟩:=aw (show wr.rangeAt g off (dK root)from by have:=hc 0 aq;simpa using this) bj;clear hc aV bJ ab bT bp br bM bg;subst bq;go_wp2_with(first
    | refine cM 87 57 (a6 root) RC ?_
    | refine dL 87 6 58 (a6 root) hblk ?_)
   intro wz hbz ag;go_wp2;exact bN (.tuple #[.agg (a6 root),i6 0]) hbz ⟨root,(by rw[<-bj,Nat.add_sub_cancel];exact au),rfl,by rw[<-bG.out];exact(hd.grow hblk av ag (aE _))⟩
theorem YY{L L':List As}(h:L.Sublist L':=by repeat(first|exact List.Sublist.slnil|(with_reducible refine List.Sublist.cons₂ _ ?_)|refine List.Sublist.cons _ ?_)):L.Sublist L':=h
section
variable {P:bu} {ops:Array Abi} {Q:Exit->Act->af->Prop} {F0:Nat->Prop} {x0 x w w':af} {L0 L L':List As} {a:Act} {o:Abi} {J:List Nat} {k b:Nat} {A B D:As}
theorem ZT{f:FuncId}{args:Array ah}{a':ah->Act}{R:af->Ending->af->Prop}(C:∀w,Up x w->Fr F0 x0 L w->Calls P f args w (R w))(h:∀w,Up x w->Fr F0 x0 L w->∀e w',R w e w'->∃v L',e=.returned v/\w9 F0 x0 L w L' w'/\L0.Sublist L'/\RK P ops Q F0 x0 L0 L' J (k+1) (a' v) w')(hJ:J.contains k=false:=by rfl)(hi:ops[k]?=some o:=by rfl)(ha:∀v,a.put o.dst v=a' v:=by intro _;first|(simp only[Act.put,fL];rfl)|rfl)(he:∀w,(execOp a.eval o).run P w=.ok (.enter f args) w:=by intro _;kernel_rfl)(hw:Region.wanted o (yielded ops a.tmps)=true:=by rfl)(hc:(JP P ops (ml ops.size J k) k && Region.noSelect ops)=true:=by kernel_rfl)(hQ:∀c a w b,a.defers=b.defers->Q (.panic c) a w->Q (.panic c) b w:=by intro _ ⟨_,_⟩ _ ⟨_,_⟩ e h;cases e;exact h):RK P ops Q F0 x0 L0 L J k a x:=ko (λw u s K hK=>by
  unfold Ace;rw[he];refine(C w u s).mono λe w' hR=>?_;obtain⟨v,L',rfl,n,hl,r⟩:=h w u s e w' hR;exact hK v w' _ n (λA hA _=>hl.subset hA) (by rw[ha];exact r)) hJ hi hw hc hQ
theorem w9.yb(s:Fr F0 x0 L w)(hU:mK L A B L')(T:Touch A.F w w')(hB:B.P w')(hF:∀n,B.F n->n<w'.heap.size/\(A.F n\/w.heap.size<=n)):w9 F0 x0 L w L' w':=⟨s.yb hU T hB hF,λq t C f bq=>⟨⟨f.1,λE h hq=>by
 have:=bq.lt;rcases hU.sub E h with rfl|h
 ·rcases(hF q hq).2 with h|h
  ·exact f.2 A hU.mem h
  ·omega
 ·exact f.2 E h hq⟩,bq.ax T (f.2 A hU.mem)⟩⟩
theorem w9.add(s:Fr F0 x0 L w)(n:w9 F0 x0 L w L' w')(hD:D.P w')(fD:∀n,D.F n->w.heap.size<=n/\n<w'.heap.size)(d:∀E∈L',∀n,D.F n->¬E.F n):w9 F0 x0 L w (D::L') w':=by
 refine⟨⟨n.s.t,λE h=>?_,λE h n' hn=>?_,fk.2 ⟨d,n.s.d⟩⟩,λq t C f bq=>⟨⟨f.1,λE h hq=>?_⟩,(n.k q t C f bq).2⟩⟩
 ·rcases Aak.1 h with rfl|h
  ·exact hD
  ·exact n.s.p E h
 ·rcases Aak.1 h with rfl|h
  ·exact⟨(fD _ hn).2,.inr (bO s.t.size (fD _ hn).1)⟩
  ·exact n.s.f E h _ hn
 ·rcases Aak.1 h with rfl|h
  ·have:=(fD q hq).1;have:=bq.lt;omega
  ·exact(n.k q t C f bq).1.2 E h hq
theorem w9.pg{H:aS}{vp:ah}{P:bz}(s:Fr F0 x L w)(d:PG w (H.at vp) P w')(hU:mK L (pl x H vp P) (pl x H vp P) L':=by exact tK):w9 F0 x L w L' w':=.yb s hU d.2 ⟨d.1,(s.p _ hU.mem).2⟩ (λn h=>⟨d.1.lt n h,.inl h⟩)
theorem w9.pt{H:aS}{vp aa v:ah}{P P':bz}{l:List au}(s:Fr F0 x L w)(hA:PA w' (H.at aa) P')(T:Touch (PF (H.at vp)) w w')(O:∀b,aa.ownBlock=some b->vp.ownBlock=some b\/w.heap.size<=b)(ov:a8 w' w.heap.size v l)(hU:mK L (pl x H vp P) (pl x H aa P') L':=by exact tK):w9 F0 x L w (op x.heap.size v l::L') w':=w9.add s (.yb s hU T ⟨hA,λb h=>by
  rcases O b h with h|h
  ·exact(s.p _ hU.mem).2 b h
  ·exact .inr (bO s.t.size h)⟩ (λn h=>⟨hA.lt n h,by
  rcases h with h|h|h|h|h|h
  ·exact .inl (.inl h)
  ·exact .inl (.inr (.inl h))
  ·exact .inl (.inr (.inr (.inl h)))
  ·exact .inl (.inr (.inr (.inr (.inl h))))
  ·exact .inl (.inr (.inr (.inr (.inr (.inl h)))))
  ·rcases O n h with h|h
   ·exact Gp
   ·exact .inr h⟩)) (ov.mono s.t.size) (λn h=>ov.aJ n h) (λE hE n h he=>by
  rcases hU.sub E hE with rfl|hE
  ·exact eC hA ov n h he
  ·have:=(s.f E hE n he).1;have:=(ov.aJ n h).1;omega)
theorem kwg{id:Nat}(g:Nat){t:TypeId}{C:Array ah}(s:Fr F0 x0 L w)(h:∀w,Fr F0 x0 L w->RK P ops Q F0 x0 L0 L [] 0 a w)(hr:x4 L (bk g t C) L0:=by exact Se)(hm:P.follows .mixedOrders=true:=by kernel_rfl):(Code.region id ops true).wp P Q a w:=ka L0 s hr.sub h hm
theorem ksp{m g off:Nat}{y:bR}{ty t:TypeId}{V C C':Array ah}{a':Act}(h:∀w',Fr F0 x0 L' w'->RK P ops Q F0 x0 L0 L' J (k+1) a' w')(hJ:J.contains k=false:=by rfl)(hi:ops[k]?=some o:=by rfl)(ho:o.op=.store ty (.tmp m) y:=by rfl)(hx:a.eval (.tmp m)=.pointer (some ⟨g,off,none⟩):=by rfl)(hy:(a.eval y).cells=V:=by exact zcv)(hm:bk g t C∈L:=by exact gB)(hV:(splice C.toList off V.toList).toArray=C':=by assumption)(hU:mK L (bk g t C) (bk g t C') L':=by exact tK)(hfit:off+V.size<=C.size:=by exact Ff aA)(aN:(P.info? ty).map (·.size)=some V.size:=by exact Sa)(h1:V.all (·.oneCell')=true:=by exact zoa)(hl:L0.Sublist L':=by exact YY)(hw:Region.wanted o (yielded ops a.tmps)=true:=by rfl)(ha:a.put o.dst undef=a':=by first|(simp only[Act.put,fL];rfl)|rfl)(hc:(JP P ops (ml ops.size J k) k && Region.noSelect ops)=true:=by kernel_rfl)(hQ:∀c a w b,a.defers=b.defers->Q (.panic c) a w->Q (.panic c) b w:=by intro _ ⟨_,_⟩ _ ⟨_,_⟩ e h;cases e;exact h):RK P ops Q F0 x0 L0 L J k a x:=kp (A:=bk g t C) (B:=bk g t C') (λw s=>⟨t,C,s.e6 hU.mem,hfit,rfl,λw' hb _=>⟨by rw[hV]at hb;exact hb,λ_ h=>h⟩⟩) (λ_ h=>h) h hU hJ hi ho hx hy aN h1 hl hw ha hc hQ
theorem Fr.own{g:Nat}{t:Aab}{C:Array ah}(s:Fr F0 x0 L w)(h:aI x0 g t C)(hn:¬F0 g):Fr (λk=>F0 k\/k=g) x0 (bk g t C::L) w:=by
 have hb:aI w g t C:=h.ax s.t hn;refine⟨s.t.mono λ_ h=>.inl h,λD hD=>?_,λD hD n hd=>?_,fk.2 ⟨λD hD n ag hd=>?_,s.d⟩⟩
 ·rcases Aak.1 hD with rfl|hD
  ·exact hb
  ·exact s.p D hD
 ·rcases Aak.1 hD with rfl|hD
  ·have hd:n=g:=hd;exact⟨by rw[hd];exact hb.lt,.inl (.inr hd)⟩
  ·exact⟨(s.f D hD n hd).1,(s.f D hD n hd).2.imp .inl (λh=>h)⟩
 ·have e:n=g:=ag;rcases(s.f D hD n hd).2 with h1|h1
  ·exact hn (e ▸ h1)
  ·have:=h.lt;omega
theorem kpl{id:Nat}{H:aS}{vp:ah}{P':bz}(s:Fr F0 x0 L w)(h:∀w,Fr F0 x0 L w->RK P ops Q F0 x0 L0 L [] 0 a w)(hr:x4 L (pl x H vp P') L0:=by exact Se)(hm:P.follows .mixedOrders=true:=by kernel_rfl):(Code.region id ops true).wp P Q a w:=ka L0 s hr.sub h hm
end
theorem jP:∀(l:List (Nat × cQ))(P:bz)(i:Nat),i ∉ l.map (·.1)->(bQ P l).C[i]?=P.C[i]?
 | [],_,_,_=>rfl
 | (j,s)::l,P,i,h=>by simp only[Ab8,Aak,not_or]at h;have:=jP l {P with C:=P.C.set j s,m:=P.m+1,fl:=false} i h.2;show(bQ _ l).C[i]?=_;rw[this];exact Ft (λe=>h.1 e.symm)
theorem vu:∀(l:List (Nat × cQ))(P:bz),(l.map (·.1)).Nodup->∀x∈l,x.1<κ P.C->(bQ P l).C[x.1]?=some x.2
 | [],_,_,x,h,_=>gn
 | (j,s)::l,P,hn,x,hx,hl=>by
  simp only[List.map_cons,List.nodup_cons]at hn;show(bQ {P with C:=P.C.set j s,m:=P.m+1,fl:=false} l).C[x.1]?=_;rcases List.mem_cons.1 hx with rfl|hx
  ·rw[jP l _ _ hn.1];show(P.C.set j s)[j]?=_;rw[y1 hl]
  ·exact vu l _ hn.2 x hx (by show x.1<κ (P.C.set j s);rw[List.length_set];exact hl)
theorem Du{st:Nat}{ats:List Nat}{b:List aj}{k:Nat}{x:Nat × cQ}(hx:x∈(mM st ats b k).1):∀{t:Nat},k<t->x∈fF st ats b t
 | 0,h=>ae
 | t+1,h=>by
  show x∈fF st ats b t++_;rcases jE k t with h'|h'
  ·exact nK _ (Du hx h')
  ·obtain rfl:k=t:=by omega
   exact oJ _ hx
theorem XH(h1:1<=κ b)(h2:κ b<=65535)(hn:κ ats=dF (κ b))(k:Nat)(h:k<κ (eD (κ b))):(mM st ats b k).1.map (·.1)=(ats.drop ((eD (κ b)).take k).sum).take (eD (κ b))[k]:=by
 cases k with
 | zero=>
  have e0:(eD (κ b))[0]=bh (κ b) 128:=by simp only[(hY h1 h2),Aby];rfl
  show(gk ats b _).map _=_;unfold gk;rw[List.map_fst_zip ao,Acl,e0,Abl,Ac5,Aaw]
 | succ k=>
  obtain⟨k1,_⟩:=AL st ats b k;obtain⟨a,c⟩:=AM (st:=st) h1 h2 hn k ae;have aD:=qd h1 h2 h;have aa:bh (κ (lf st ats b k)) 8=(eD (κ b))[k+1]:=by grind [lf]
  rw[k1];unfold hh;rw[List.map_fst_zip ao,Acl,aa,c]
theorem Dt{st:Nat}{ats:List Nat}{b:List aj}(h1:1<=κ b)(h2:κ b<=65535)(hn:κ ats=dF (κ b)):∀k,k<=κ (eD (κ b))->(fF st ats b k).map (·.1)=ats.take ((eD (κ b)).take k).sum
 | 0,_=>by simp[fF]
 | k+1,h=>by show(fF st ats b k++_).map _=_;rw[Aao,Dt h1 h2 hn k ae,XH h1 h2 hn k ae,l5 ae,List.take_add]
theorem kf(h1:1<=κ b)(h2:κ b<=65535)(hn:κ ats=dF (κ b)):(fF st ats b (κ (eD (κ b)))).map (·.1)=ats:=by rw[Dt h1 h2 hn _ (aE _),dk (aE _),show(eD (κ b)).sum=κ ats by rw[hn];rfl,fj]
theorem DZ{P:bz}(h1:1<=κ b)(h2:κ b<=65535)(hn:κ ats=dF (κ b))(hd:ats.Nodup)(has:∀i∈ats,4<=i/\i<1024/\P.s i=2/\i<κ P.C)(aF:1<=P.st/\P.st<=281474976710655){root:au}(hr:lf P.st ats b (κ (eD (κ b))-1)=[root]):iE (bQ P (fF P.st ats b (κ (eD (κ b))))).C root b (lf P.st ats b):=by
 have hg:∀k,k<κ (eD (κ b))->∀x∈(mM P.st ats b k).1,fM (bQ P (fF P.st ats b (κ (eD (κ b))))).C (ar P.st x)=some x.2:=λk hk x hx=>by have:=has _ (EM _ _ _ k x hx);unfold fM;rw[aO (λe=>by grind [ar,hole])];rw[bp (by show(0:Int)<=(x.1:Int);omega)];show((bQ P _).C[((x.1:Nat):Int).toNat]?).bind _=_;rw[Abr,(vu _ P (by grind [kf]) x (Du hx hk) this.2.2.2),ql];simp[eP,ar]
 refine⟨⟨h1,h2⟩,λk hk=>?_,hr,λk hk p hp=>?_,λi hi=>?_,λk hk i hi=>?_⟩
 ·grind [lf,AM]
 ·obtain⟨x,hx,rfl⟩:=Abb.1 hp;grind [EM,ar,hole]
 ·have ht:0<κ (eD (κ b)):=by grind [hY]
  grind [mM,lf,dz,gk,ar]
 ·have aD:i<κ (mM P.st ats b (k+1)).1:=by grind [lf]
  have he:(mM P.st ats b (k+1)).1[i].2=dG (hR (ff (lf P.st ats b k) i)):=by simp[AL,hh]
  have:=hg (k+1) hk _ (cm aD);rw[he]at this;have hl:(lf P.st ats b (k+1))[i]=ar P.st (mM P.st ats b (k+1)).1[i]:=by simp[lf]
  rw[hl];unfold node8;rw[this,ql];have hgd:=n2 (b:=b) has aF k;obtain⟨L8,GA⟩:=az (o0 (p:=ff (lf P.st ats b k) i) (by grind [lG])) (Aw (λp hp=>(hgd p hp).2) i);obtain⟨v1,v2,v3⟩:=rE L8 GA;rw[v1,v3,xO L8 (JC (λp hp=>(hgd p hp).1) i) GA];rfl
theorem JK:∀W:af,(Ab9 211).run Aag W=.ok (.agg noBits) W:=(lb (P:=Aag) (t:=211) (v:=.agg noBits) (n:=4096) al).1
theorem TB:(prog.info? 211).map (·.size)=some 4096:=al
theorem Qm(C:Array ah)(f:Nat->Bool)(hc:∀i,i<4096->C[i]?=some (.bool (f i)))(k:Nat)(h:k<4096)(W:af):(Ac0 211 (.agg C) (i6 (k:Int))).run Aag W=.ok (.bool (f k)) W:=by
 have aR:(sizeOf 4).run Aag W=.ok 1 W:=al
 have hg:(isAgg 4).run Aag W=.ok false W:=al
 have hc:=hc k h;simp[Ac0,asIntOf,run_underlying (P:=Aag) underlying211,ae,aR,part,hg,hc];omega
theorem P8{l:List Int}(hs:l.Pairwise (· < ·)){pre:List Int}{x:Int}(h:pre++[x] <+:l):x ∉ pre:=λhx=>by have:=(hs.sublist h.sublist);rw[A3]at this;have:=this.2.2 x hx x aq;omega
theorem Jo{l:List bJ}(h:k<κ l){z n:Int}(hp:l[k]=⟨z,n⟩)(hj:j<n.toNat):hE l k j z++[z+(j:Int)] <+:cU l:=by rw[<-k1];grind [wX]
def Lr(f:Nat->Bool)(k:Nat):List Int:=((Aal k).filter f).map (λi:Nat=>(i:Int))
theorem VJ(f:Nat->Bool)(k:Nat):Lr f (k+1)=Lr f k++(if f k=true then [(k:Int)] else []):=by unfold Lr;rw[Ab0,kh,Aao];cases h:f k<;>simp[h]
theorem Ls(f:Nat->Bool)(k:Nat):κ (Lr f k)<=k:=by grind [Lr]
theorem LP(w:af)(v:ah)(ms:List bJ)(hv:tL w v (ms.map dD))(hr:cj (-1) ms=true)(hs:(cU ms).Pairwise (· < ·)):Aaf Aag 188 #[nl,v] w λe w'=>∃u,e=rt #[u,i6 0]/\hV w' w.heap.size u (jT (Lr (r7 (cU ms)) 4096))/\Up w w':=by
 obtain⟨HV,HR⟩:=aw hv hr;have aS:κ ms<=9223372036854775807:=by have:=hv.length_le;simpa using this
 have HS:=an hs;have RT:=gw w _ _ (aG.nil _ _);rw[show cj (-1) []=true from rfl]at RT;obtain⟨a1,au,rfl⟩:=hv.slice;rw[Aac]at *;clear hr;go_in;go_wp2_with fail;refine RT.mono ?_;rintro e w1⟨rfl,u1⟩;go_wp2_with refine bH 211 JK ?_;refine((λW=>vD W _ _ (aG.nil _ _) (λa m c h=>gn)) _).mono ?_;rintro e w3⟨vl,rfl,ol,u3⟩;obtain⟨la,lc,aL⟩:=ol.cv.slice;rw[show(cI []).length=0 from rfl]at aL;subst aL;go_wp2;go_loopw [22] (λi wr=>i=i6 0/\wr=w3) (λ_ _=>0)
 case atStart=>exact⟨rfl,rfl⟩
 case round=>
  obtain⟨rfl,rfl⟩:=hrel;go_wp2;obtain⟨w9,ar⟩:=bE (wr);subst ar;go_loopw [31] (λi wr=>∃k:Nat,k<=κ ms/\i=i6 k/\a7 wr w1.heap.size 4096 211 (λn=>.bool (r7 (cU (ms.take k)) n))/\Up w wr) (λi _=>κ ms-(Aaq i).toNat)
  case atStart=>exact⟨0,bG _,rfl,a7.congr ((a7.new _ _ _ _).up u3) (λi _=>by simp[r7,cU]),((u1.trans (ai _ _)).trans u3)⟩
  case round=>
   obtain⟨k,hk,rfl,aa,upr⟩:=hrel;obtain⟨HB,ag⟩:=aw aa upr;by_cases hlt:k<κ ms
   ·obtain⟨b,off,rfl,hbs,ba,hc⟩:=(HV.up ag).range OJ l8;have hc:=hc k (by rw[Aac];exact hlt);rw[Adl]at hc;have RC:=an hc;have b2:((k:Int)<(κ ms:Int))=True:=by simp;omega
    have SB:=o7 HR hlt rfl;obtain⟨z,n,hp⟩:∃z n:Nat,ms[k]=⟨z,n⟩/\z<4096/\1<=n/\z+n<=4096:=by generalize ms[k]=p at SB;obtain⟨s,l⟩:=p;have:=(dZ s l).1 SB;exact⟨s.toNat,l.toNat,ao,ae,ae,ae⟩
    obtain⟨hp,hz,aK,hn⟩:=hp;have RG:=an (λW=>qv W (dD ms[k]));rw[show gH (dD ms[k]).sp=true from SB]at RG;rw[hp]at RG RC;have HP:=an hp;clear SB hp;obtain⟨BX,U4⟩:=aw (aI.new wr 326 (ig (dD ⟨z,n⟩))) (ai wr (.cells (ig (dD ⟨z,n⟩)) 326));go_wp2_with(first
     | refine cM 326 33 (ig (dD ⟨z,n⟩)) RC ?_
     | refine bH 326 vV ?_
     | refine dX 326 10 34 wr (ig (dD ⟨z,n⟩)) 326 (ig ⟨false,0,0⟩) ?_
     | refine db 326 10 BX ?_)
    refine(RG _).mono ?_;rintro e w5⟨rfl,u5⟩;obtain⟨B5,aD⟩:=aw (BX.up u5) HB.lt;have x2:w5.cell? (ad wr.heap.size 2)=some (i6 (n:Int)):=B5.cell 2;clear RG;go_wp2;clear x2;obtain⟨aV,aj⟩:=bE (wr.heap.size);rw[<-aj]at B5 aD;simp only[<-aj];clear aj;go_loopw [41] (λi wr=>∃j:Nat,j<=n/\i=i6 j/\a7 wr w1.heap.size 4096 211 (λm=>.bool (r7 (hE ms k j z) m))/\aI wr aV 326 (ig (dD ⟨z,n⟩))/\Up w wr) (λi _=>n-(Aaq i).toNat)
    case atStart=>exact⟨0,bG _,rfl,by rw[xU];exact((HB.up U4).up u5),B5,((ag.trans U4).trans u5)⟩
    case round=>
     obtain⟨j,hj,rfl,aa,hblk,upr⟩:=hrel;by_cases aM:j<n
     ·have hx:z+j<4096:=by omega
      have NF:r7 (hE ms k j z) (z+j)=false:=by have:=P8 HS (Jo hlt HP (j:=j) (by simpa using aM));unfold r7;simpa using this
      have c0:=aa.cell hx;rw[NF]at c0;have f0:=aa.free (z+j);have d0:wr.cell? (ad aV 0)=some (.bool true):=hblk.cell 0;have d1:wr.cell? (ad aV 1)=some (i6 (z:Int)):=hblk.cell 1;have d2:wr.cell? (ad aV 2)=some (i6 (n:Int)):=hblk.cell 2;obtain⟨x0,x1⟩:=az (di c0) (di d0);have b3:((j:Int)<(n:Int))=True:=ao
      clear NF;have e1:(z:Int)+(j:Int)=((z+j:Nat):Int):=ae
      obtain⟨E1,NX⟩:=aw e1 (show hE ms k (j+1) z=hE ms k j z++[((z+j:Nat):Int)] by rw[k1,e1]);clear e1;go_wp2;rw[E1.out];refine u' ?_;repeat(go_big_quiet_step (fail))
      refine yJ ?_;intro w6 av;obtain⟨⟨d,os⟩,hw4⟩:=av;have aJ:Up wr w6:=FW
      clear hw4 x0 x1;have aB:=an (aa.up aJ);replace c0:=aJ.cell c0;replace d0:=aJ.cell d0;replace f0:=aB.free (z+j);clear d1 d2;go_wp2;obtain⟨C6,aH,ak,aN⟩:=aB.out;exact⟨⟨j+1,ae,aq,a7.congr (aB.set hx (.bool true)) (λi hi=>by rw[NX.out,AA];by_cases e:i=z+j<;>simp[e];intro h;omega),(hblk.up aJ).grown (bX aH _ _) (λe=>by have:=dC e;have:=aD.out;omega),(upr.trans aJ).setCell u1.size _⟩,by simp[Aaq];omega⟩
     ·obtain rfl:j=n:=by omega
      have NX:=an (show hE ms k j z=cU (ms.take (k+1))from by have:=o' hlt HP;simpa using this);go_wp2;go_roundw
      case rel=>exact⟨k+1,ae,aq,by rw[<-NX.out];exact aa,upr⟩
      case measure=>simp[Aaq];omega
   ·obtain rfl:k=κ ms:=by omega
    have hb:=HB.out;rw[dk (aE _)]at hb;obtain⟨f,hf⟩:=bE (r7 (cU ms));rw[<-hf]at hb;have HF:=an hf;obtain⟨C,hC,hz,hc⟩:=hb;clear hf;go_wp2_with(first
     | refine db 211 6 hC (hi:=(by rw[TB,hz])) ?_)
    obtain⟨w9,ar⟩:=bE (wr);subst ar;go_loopw [13,62] (λv i wr=>∃m:Nat,m<=4096/\i=i6 m/\Own bA 3 wr w.heap.size v (Lr f m)/\Up w wr) (λ_ i _=>4096-(Aaq i).toNat)
    case atStart=>exact⟨0,bG _,rfl,Own.nil _ _ _ _,ag⟩
    case round=>
     obtain⟨m,hm,rfl,hown,upr⟩:=hrel;by_cases hlt:m<4096
     ·obtain⟨IX,SU⟩:=az ((Qm C f hc) m hlt) (VJ f m);have b2:((m:Int)<4096)=True:=by simp;omega
      have LL:=Ls f m;cases ay:f m
      ·rw[ay]at IX;have NX:=an (show Lr f (m+1)=Lr f m by rw[SU,ay];simp);clear SU ay;go_wp2;go_roundw
       case rel=>exact⟨m+1,ae,aq,by rw[NX.out];exact hown,upr⟩
       case measure=>simp[Aaq];omega
      ·rw[ay]at IX;have NX:=an (show Lr f (m+1)=Lr f m++[(m:Int)] by rw[SU,ay];simp);clear SU ay;obtain⟨ol,aY⟩:=bE (Lr f m);rw[<-aY]at hown NX LL;clear aY;obtain⟨va,vc,rfl⟩:=(Own.cv hown).slice;have U8:=an (ai wr (.cells #[i6 (m:Int)] 3));have UU:=an (upr.trans U8);go_wp2_with(at_builtin;refine bf bA p' rfl (.tmp 67) (.tmp 69) 41 rfl w.heap.size 3 (i6 0) 8 underlying41 q7 rfl _ ol rfl (hown.up U8) _ [(m:Int)] rfl (aC.er (f:=bA) wr wr.heap.size rfl #[i6 (m:Int)] 3 (0,0) [(m:Int)] 1 rfl dy rfl) ao ao UU.size ?_);intro v9 w9 ax aA ab;go_wp2;go_roundw
       case rel=>exact⟨m+1,ae,aq,by rw[NX.out];exact ax,(UU.aF ab (aE _))⟩
       case measure=>simp[Aaq];omega
     ·obtain rfl:m=4096:=by omega
      have SO:=an (tz _ _ _ (Own.cv hown));have b2:((4096:Nat):Int)=4096:=rfl;obtain⟨va,vc,al⟩:=(Own.cv hown).slice;rw[al]at SO hown;subst al;go_wp2_with fail;refine SO.mono ?_;rintro e bU⟨u,rfl,own,aO⟩;go_wp2_with fail;go_ret2;exact⟨_,rfl,by rw[<-HF.out];exact own.mono upr.size,upr.trans aO⟩
theorem kO{f g:Nat->Bool}:∀{n:Nat},(∀i,i<n->f i=g i)->aB f n=aB g n
 | 0,_=>rfl
 | n+1,h=>by unfold aB;rw[kO (n:=n) (λi hi=>h i ae),h n ae]
theorem G9(n:Nat):aB (λ_=>false) n=[]:=by
 induction n with
 | zero=>rfl
 | succ n ih=>assumption
theorem KK(f:Nat->Bool)(i:Nat)(h:i<4096):r7 (cI (aB f 4096)) i=f i:=by grind [qc,r7]
theorem og(f:Nat->Bool):cj (-1) (aB f 4096)=true:=by simp[jt]
theorem Iq{l:List bJ}(h:cj (-1) l=true):cI l=cU l:=by grind [cI]
theorem Xm(f:Nat->Bool):HQ [] (aB f 4096)=(aB f 4096).map dD:=by unfold HQ;rw[show aB (oB (cI []) (cI (aB f 4096))) 4096=[] from(kO (g:=λ_=>false) (λi _=>aA)).trans (G9 _)];rw[show aB (oB (cI (aB f 4096)) (cI [])) 4096=aB f 4096 from kO (λi hi=>by unfold oB;rw[KK f i hi,show cI []=[] from rfl];simp[r7])];rfl
theorem Z9(f:Nat->Bool)(i:Nat)(h:i<4096):r7 (Lr f 4096) i=f i:=by rw[show Lr f 4096=cI (aB f 4096)from(qc f).symm];grind [KK]
theorem Rf(f:Nat->Bool):jT (Lr (r7 (cU (aB f 4096))) 4096)=aB f 4096:=by unfold jT;refine kO (λi hi=>?_);rw[Z9 _ i hi,<-Iq (og f),KK f i hi]
theorem Jz(f:Nat->Bool):∀m∈(aB f 4096).map dD,zu m:=by intro m hm;obtain⟨s,hs,rfl⟩:=Abb.1 hm;obtain⟨k,hk,rfl⟩:=List.mem_iff_getElem.1 hs;exact o7 (og f) hk rfl
theorem RS(f:Nat->Bool):(cU (aB f 4096)).Pairwise (· < ·):=by grind [Iq,og,uu]
def cJ(n:Nat):Nat:=if 64<=n/\n<=1024 then 2+5*((n+1)/2)else 0
theorem lL(w:af)(n:Nat)(hn:n<=1000000):Aaf Aag 186 #[i6 (n:Int)] w λe w'=>e=.returned (i6 (cJ n:Int))/\w'=w:=by
 by_cases h1:n<64
 ·have b1:((n:Int)<64)=True:=by simp;omega
  exact M3
 have b1:((n:Int)<64)=False:=ao
 by_cases h2:1024<n
 ·have b2:((n:Int)>1024)=True:=by simp;omega
  exact M3
 have b2:((n:Int)>1024)=False:=ao
 have HE:=an (show cJ n=2+5*((n+1)/2)by unfold cJ;rw[bp ae]);have e1:((n:Int)+1).tdiv 2=(((n+1)/2:Nat):Int):=aA
 have hq:(n+1)/2<=1000:=ae
 generalize(n+1)/2=q at *;go_in;go_wp2;go_ret;exact⟨by rw[HE.out];simp,rfl⟩
theorem vE{f:Nat->Bool}{t:Nat}(h:∀i,t<=i->f i=false):∀n,t<=n->aB f n=aB f t
 | 0,hn=>by
  obtain rfl:t=0:=ae
  rfl
 | n+1,hn=>by
  rcases jE n t with h'|h'
  ·obtain rfl:t=n+1:=by omega
   rfl
  ·unfold aB;rw[h n h',aO aq,vE h n h'];cases t<;>rfl
theorem ET{l:List bJ}(hl:gE (-1) l<=n)(h:2*(κ l:Int)<=gE (-1) l+1)(h0:l=[]\/0<=gE (-1) l):2*(κ (r2 l n):Int)<=gE (-1) (r2 l n)+1/\0<=gE (-1) (r2 l n):=by
 rcases Fp l with rfl|⟨m,s,rfl⟩
 ·show 2*(1:Int)<=((n:Int)+1)+1/\0<=(n:Int)+1;omega
 ·rw[Fq]at *;rw[fZ]at hl h h0;rw[C2];split
  ·rename_i he;rw[fZ];grind
  ·rename_i he;rw[fZ];grind
theorem xW(f:Nat->Bool):∀n,n<=4096->2*(κ (aB f n):Int)<=gE (-1) (aB f n)+1/\(aB f n=[]\/0<=gE (-1) (aB f n))
 | 0,_=>by simp[aB,gE]
 | n+1,h=>by
  obtain⟨a,c⟩:=xW f n ae;have:=(jt f n ae).2.1;unfold aB;split
  ·have:=ET this a c;exact⟨this.1,.inr this.2⟩
  ·exact⟨a,c⟩
def ox(f:Nat->Bool)(t:Nat):Prop:=∀i,f i=true->4<=i/\i<t
theorem xy{f:Nat->Bool}(h:ox f t)(ht:t<=4096):aB f 4096=aB f t:=vE (λi hi=>by cases hf:f i with|false=>rfl|true=>have:=(h i hf).2;omega) 4096 ht
theorem sK{f:Nat->Bool}(h:ox f t)(ht:t<=4096):2*κ (aB f 4096)<=t+1:=by rw[xy h ht];have:=(xW f t ht).1;grind [jt]
theorem Ic{f:Nat->Bool}(h:ox f t)(ht:t<=4096):∀s∈aB f 4096,4<=s.st/\1<=s.len/\s.st+s.len<=(t:Int):=λs hs=>by
 have h1:=nA f t s (by grind [xy]);refine⟨?_,h1.2.1,h1.2.2⟩;have hm:s.st∈cU (aB f 4096):=by unfold cU;exact List.mem_flatMap.2 ⟨s,hs,Abb.2 ⟨0,yV.2 ae,aq⟩⟩
 rw[(jt f 4096 ae).2.2]at hm;obtain⟨i,hi,he⟩:=Abb.1 hm;have:=(h i (wy.1 hi).2).1;omega
theorem Lx{l:List aj}(h:aI w g 5 (l.map aH).toArray)(hb:base<=g)(hl:κ l<=9223372036854775807):Own aH 5 w base (cC g (κ l) (κ l)) l:=by refine⟨aq,.inr ⟨g,κ l,(l.map aH).toArray,rfl,hb,h,aE _,cq,aq,?_⟩⟩;rw[dk aq]
theorem B2(f:α->β)(l:List α)(off:Nat)(ys:List α):Abz (l.map f) off (ys.map f)=(Abz l off ys).map f:=by unfold Abz;simp
theorem Mv(n:Nat):j1 (.int .u8 0) n=((Aad n (0:aj)).map aH).toArray:=by apply hn.1;rw[R5 (.int .u8 0) rfl];simp[aH]
def iK(t:Nat)(l:List bJ):List aj:=aX [2] [κ l]++iq (l.map dD)++Aad (cJ t-(2+5*κ l)) 0
theorem h5(n:Nat):κ (aX [2] [n])=2:=aA
theorem G6{c m:List aj}(hc:κ c=2)(hn:2+κ m<=n):Abz (Abz (Aad n (0:aj)) 0 c) 2 m=c++m++Aad (n-(2+κ m)) 0:=by unfold Abz;rw[Abl,Aa0,hc,yY,h0 hc,Fi,hc,sO ae,Aa0,yY];simp;omega
theorem ON(h:n<65536):nr [2] [n]:=uQ
theorem D'(w:af)(t:Nat)(ht:64<=t/\t<=1024)(f:Nat->Bool)(hf:ox f t)(v:ah)(hv:dV w v (aB f 4096))(hb:∀a m c,v=.slice (some a) m c->a.block<w.heap.size):Aaf Aag 189 #[i6 (t:Int),v] w λe w'=>∃u,e=rt #[u,i6 0]/\Own aH 5 w' w.heap.size u (iK t (aB f 4096))/\Up w w':=by
 have aa:=sK hf ae;have aT:=an (Ic hf ae);have SN:cJ t=2+5*((t+1)/2):=by unfold cJ;rw[bp ae]
 obtain⟨ab,RT⟩:=aw (lL w t ae) (gw w v _ hv);rw[og f]at RT;have CD:=an (λW (u:Up w W)=>Ez W v _ (hv.up u) (λa m c e=>eh (hb a m c e) u.size) (og f));rw[Xm f]at CD;obtain⟨HST,LB,SB,HV⟩:=bS (show iK t (aB f 4096)=aX [2] [κ (aB f 4096)]++iq ((aB f 4096).map dD)++Aad (cJ t-(2+5*κ (aB f 4096))) 0 from rfl) (show(iq ((aB f 4096).map dD)).length=5*κ (aB f 4096) by rw[jj,Aac]) (λW (vm:ah) (hm:tL W vm ((aB f 4096).map dD))=>LW W vm _ hm l8 (Jz f)) hv;obtain⟨va,vc,rfl⟩:=hv.slice;generalize aB f 4096=l at *;obtain⟨n,hn⟩:=bE (cJ t);have aK:2+5*κ l<=n:=ae
 have al:n<=3000:=ae
 have aO:100<=n:=ae
 have aR:κ l<=600:=ae
 rw[<-hn]at ab HST;clear hb SN hn aa;have bn:((n:Int)==0)=false:=ao
 by_cases h0:κ l=0
 ·have b1:((κ l:Int)>0)=False:=cG ae;have av:(0<κ l)=False:=cG ae;have H0:=an h0;clear h0;go_in;go_wp2_with fail;refine ab.mono ?_;refine oQ ?_;intro w2;go_wp2_with fail;refine RT.mono ?_;rintro e w3⟨rfl,u3⟩;have U3:=an u3;go_wp2_with fail;refine(CD _ U3).mono ?_;rintro e w4⟨vm,rfl,om,u4⟩;obtain⟨U4,OM⟩:=aw (U3.trans u4) (ak.row om OJ);obtain⟨ma,mc,a7⟩:=(ak.row om OJ).slice;rw[Aac]at a7;subst a7;go_wp2_with fail;refine(SB _ _ OM).mono ?_;rintro e w5⟨vl,rfl,ol,u5⟩;obtain⟨U5,OL⟩:=aw (U4.trans u5) ol;obtain⟨la,lc,a1⟩:=ol.cv.slice;rw[LB.out]at a1;subst a1;refine UH ?_;intro b5 wl UA sza UB i1 i2 PT U6;have OL6:=an ((OL.up UA).up UB);exact Zb
 ·obtain⟨b,off,rfl,hbs,ba,hc⟩:=qL HV ae;obtain⟨m,hm⟩:∃m,m+1=κ l:=⟨κ l-1,ae⟩;have b1:=dU ae;have av:=dU ae;have e1:(κ l:Int)-1=(m:Int):=by omega
  have aS:m<κ l:=ae
  obtain⟨C0,CM⟩:=aw ((hc 0 ae).1) (hc m aS);obtain⟨q0,qm⟩:=az (aT _ (cm (show 0<κ l from ae))) (aT _ (cm aS));generalize l[0]=s0 at *;generalize l[m]=sm at *;obtain⟨aP,aQ⟩:=s0;obtain⟨ms,ml⟩:=sm;simp only at C0 CM q0 qm;obtain⟨q1,_,_⟩:=q0;obtain⟨q4,q5,q6⟩:=qm;have b6:(aP<4)=False:=cG ae;have b7:(ms+ml>(t:Int))=False:=cG ae;have RM:=an (show w.rangeAt b (off+m*2) (k7 ⟨ms,ml⟩).toList from λj v hj=>by
   match j,hj with
   | 0,hj=>simp[k7]at hj;subst hj;exact CM.1
   | 1,hj=>simp[k7]at hj;subst hj;exact CM.2)
  clear hc hm h0 aT;go_in;go_wp2_with fail;refine ab.mono ?_;refine oQ ?_;intro w2;go_wp2_with fail;refine RT.mono ?_;rintro e w3⟨rfl,u3⟩;have B3:=aI.new w3 139 (k7 ⟨ms,ml⟩);have U3:=an (u3.trans (ai w3 (.cells (k7 ⟨ms,ml⟩) 139)));have x0:=U3.cell C0;rw[Nat.zero_mul,Nat.add_zero]at x0;have x1:(w3.alloc (.cells (k7 ⟨ms,ml⟩) 139)).cell? (ad w3.heap.size 0)=some (i6 ms):=B3.cell 0;have x2:(w3.alloc (.cells (k7 ⟨ms,ml⟩) 139)).cell? (ad w3.heap.size 1)=some (i6 ml):=B3.cell 1;clear C0 CM;go_wp2_with(first
   | refine cM 139 29 (k7 ⟨ms,ml⟩) (λj v hj=>u3.cell (RM j v hj)) ?_
   | refine bH 139 zD ?_
   | refine dX 139 7 30 w3 (k7 ⟨ms,ml⟩) 139 (k7 ⟨0,0⟩) ?_)
  clear x0 x1 x2;refine(CD _ U3).mono ?_;rintro e w4⟨vm,rfl,om,u4⟩;obtain⟨U4,OM⟩:=aw (U3.trans u4) (ak.row om OJ);obtain⟨ma,mc,a7⟩:=(ak.row om OJ).slice;rw[Aac]at a7;subst a7;go_wp2_with fail;refine(SB _ _ OM).mono ?_;rintro e w5⟨vl,rfl,ol,u5⟩;have U5:=an (U4.trans u5);obtain⟨la,lc,a1⟩:=ol.cv.slice;rw[LB.out]at a1;subst a1;refine UH ?_;intro b5 wl UA sza UB i1 i2 PT U6;have OL6:=an ((ol.up UA).up UB);exact Zb
theorem L'(w:af)(t:Nat)(ht:64<=t/\t<=1024)(f:Nat->Bool)(hf:ox f t)(v:ah)(hv:aY w v (iK t (aB f 4096))):Aaf Aag 117 #[i6 (t:Int),v] w λe w'=>∃u,e=rt #[u,i6 0]/\hV w' w.heap.size u (aB f 4096)/\Up w w':=by
 have aa:=sK hf ae;have SN:cJ t=2+5*((t+1)/2):=by unfold cJ;rw[bp ae]
 have ab:=an (lL w t ae);have hT:κ (iK t (aB f 4096))=cJ t:=by unfold iK;exact Oi
 obtain⟨b6,ar⟩:=aw (λW vs (h:dV W vs (aB f 4096)) (hb:∀a m c,vs=.slice (some a) m c->a.block<W.heap.size)=>D' W t ht f hf vs h hb) (λW vm (h:tL W vm ((aB f 4096).map dD))=>LP W vm _ h (og f) (RS f));rw[Rf f]at ar;have LB:κ (iq ((aB f 4096).map dD))=5*κ (aB f 4096):=by rw[jj,Aac]
 have au:=an (λW vb (h:aY W vb (iq ((aB f 4096).map dD)))=>RA W vb _ h ao (Jz f));have HST:iK t (aB f 4096)=aX [2] [κ (aB f 4096)]++(iq ((aB f 4096).map dD)++Aad (cJ t-(2+5*κ (aB f 4096))) 0):=aA
 have HV:=an hv;obtain⟨va,vc,rfl⟩:=hv.slice;have aR:=me hv;rw[hT]at aR;have D1:=aC.piece hv (lo:=0) (hi:=2) ae ae;have D2:=aC.piece hv (lo:=2) (hi:=2+5*κ (aB f 4096)) ae ae;rw[Aaw,HST,h0 (h5 _)]at D1;rw[HST,List.take_append,h5,dk (by rw[h5];omega),lh (h5 _),show 2+5*κ (aB f 4096)-2=5*κ (aB f 4096) from ae,<-LB,h0 rfl,LB]at D2;rw[hT]at HV;rw[hT];generalize a8:iK t (aB f 4096)=tx at *;generalize aB f 4096=l at *;obtain⟨n,hn⟩:=bE (cJ t);obtain⟨q,hq⟩:=bE ((t+1)/2);have aK:n=2+5*q:=ae
 have ax:κ l<=q:=ae
 have aj:q<=512:=ae
 rw[<-hn]at ab HV aR ⊢;obtain⟨aE,az⟩:=aw aK ax;have bn:((n:Int)==0)=false:=ao
 have wl:=bc (κ l) ae;have al:100<=n/\n<=3000:=ae
 have bb:∀W,(Aav 30 (.slice va n vc) none (some (i6 2)) none).run Aag W=.ok (bW va 0 2 vc) W:=λW=>hj (P:=Aag) 30 dA dB va n vc 2 ae W;have bd:∀W,(Aav 30 (.slice va n vc) (some (i6 2)) (some (i6 (2+5*(κ l:Int)))) none).run Aag W=.ok (bW va 2 (2+5*κ l) vc) W:=λW=>by have:=DY (P:=Aag) 30 dA dB va n vc 2 (2+5*κ l) ae ae W;assumption
 obtain⟨p1,aD⟩:=bE (bW va 0 2 vc);obtain⟨p2,aL⟩:=bE (bW va 2 (2+5*κ l) vc);rw[<-aD]at bb D1;rw[<-aL]at bd D2;have UA:=an (ai w (.cells #[i6 2] 3));have ag:=an (ED (w.alloc (.cells #[i6 2] 3)) (cC w.heap.size 1 1) [2] (aC.er (f:=bA) w w.heap.size rfl #[i6 2] 3 (0,0) [2] 1 rfl av rfl) aq p1 _ (D1.up UA) ⟨av,aA⟩);rw[q5 [2] [κ l] rfl (ON ae).2.2]at ag;clear aa SN hT LB HST a8 hn hq aK ax aD aL;go_in;go_wp2_with fail;refine ab.mono ?_;refine oQ ?_;intro w2;go_wp2_with fail;refine ag.mono ?_;rintro e w3⟨vn,rfl,on,u3⟩;have U3:=an (UA.trans u3);obtain⟨g,cap,rfl,_,_,hc,_,_⟩:=Own.row on aq;have c0:w3.cell? (ad g 0)=some (u6 (κ l:Int)):=hc 0 aq;clear hc;go_wp2_with fail;all_goals(try(exfalso;have:=aE.out;have:=az.out;omega))
 refine(au _ _ (D2.up U3)).mono ?_;rintro e w4⟨vm,rfl,om,u4⟩;have U4:=an (U3.trans u4);obtain⟨ma,mc,a7⟩:=(ak.row om OJ).slice;rw[Aac]at a7;subst a7;clear c0 bd bb;go_wp2_with fail;refine(ar _ _ (ak.row om OJ)).mono ?_;rintro e w5⟨vs,rfl,os,u5⟩;obtain⟨OS,aG⟩:=aw (os.mono (base':=w.heap.size) U4.size) (b6 w5 vs (ak.row os Ca) (λa m c e=>(os.aJ a.block sY).2));obtain⟨sa,sc,ba⟩:=(ak.row os Ca).slice;subst ba;clear b6 ar au;go_wp2_with fail;refine aG.mono ?_;rintro e w6⟨vt,rfl,ot,u6⟩;obtain⟨U6,aF⟩:=aw ((U4.trans u5).trans u6) (OS.up u6);have BE:=zJ w6 vt (.slice va n vc) _ _ ot.cv (HV.up U6);rw[fm rfl]at BE;obtain⟨ta,tc,ay⟩:=ot.cv.slice;obtain⟨tn,aM⟩:=bE (κ tx);rw[<-aM]at ay;subst ay;clear aM;go_wp2_with fail;refine BE.mono ?_;rintro e w7⟨rfl,rfl⟩;go_wp2;go_ret2;exact⟨_,rfl,aF,U6⟩

theorem MS(w:af)(H:aS)(P:bz)(A:PA w H P)(root:au)(hw:root.wf)(hg:cw root=true)(b:List aj)(lv:Nat->List au)(B:iE P.C root b lv)(v:ah)(hv:aY w v (bM root++aX [4] [κ b])):Aaf Aag 114 #[pz H.pb,v] w λe w'=>∃v u,e=rt #[v,u,i6 0]/\aY w' v b/\(∀k,v.ownBlock=some k->w.heap.size<=k)/\a8 w' w.heap.size u (dW b lv)/\PG w H P w':=by
 obtain⟨h1,h2⟩:=B.len;have hl:κ (bM root++aX [4] [κ b])=20:=by rw[Aae,fA,jq]
 obtain⟨va,vc,rfl⟩:=hv.slice;have aR:=me hv;have D1:=aC.piece hv (lo:=0) (hi:=16) ae ae;have D2:=aC.piece hv (lo:=16) (hi:=20) ae ae;rw[Aaw,h0 (fA root)]at D1;rw[dk ae,lh (fA root)]at D2;rw[hl]at aR ⊢;have bb:∀W,(Aav 30 (.slice va 20 vc) none (some (i6 16)) none).run Aag W=.ok (bW va 0 16 vc) W:=λW=>hj (P:=Aag) 30 dA dB va 20 vc 16 ae W;have bd:∀W,(Aav 30 (.slice va 20 vc) (some (i6 16)) none none).run Aag W=.ok (bW va 16 20 vc) W:=λW=>df (P:=Aag) 30 dA dB va 20 vc 16 ae W;obtain⟨p1,aD⟩:=bE (bW va 0 16 vc);obtain⟨p2,aL⟩:=bE (bW va 16 20 vc);rw[<-aD]at bb D1;rw[<-aL]at bd D2;obtain⟨ab,RB,HA,HB⟩:=bS D2 (nv root hw hg) A B;obtain⟨n,hn⟩:=bE (κ b);rw[<-hn]at ab h1 h2;have HN:=an hn;have wn:=bc n ae;clear hl aD aL hg hn;go_in;go_wp2_with fail;refine(qB w p1 _ D1 aA).mono ?_;rintro e w2(⟨p,av,rfl,u2⟩|⟨ay,_⟩)
 case inr=>rw[RB.out]at ay;cases ay
 obtain rfl:root=p:=by rw[RB.out]at av;exact dC av
 show _;rw[show fQ root=.agg (a6 root)from rfl];obtain⟨U3,UA⟩:=aw (u2.trans (ai w2 (.cells (a6 root) 87))) (ai (w2.alloc (.cells (a6 root) 87)) (.cells #[i6 4] 3));have ag:=an (ED ((w2.alloc (.cells (a6 root) 87)).alloc (.cells #[i6 4] 3)) (cC (w2.heap.size+1) 1 1) [4] (aC.er (f:=bA) (w2.alloc (.cells (a6 root) 87)) (w2.heap.size+1) (by rw[aN]) #[i6 4] 3 (0,0) [4] 1 rfl dy rfl) aq p2 _ ((ab.up U3).up UA) ⟨by unfold yg;intro w hw;simp at hw;omega,by rw[jq];rfl⟩);rw[q5 [4] [n] rfl (GH ae).2.2]at ag;clear av RB;go_wp2_with(refine arm ?_);refine ag.mono ?_;rintro e w4⟨vn,rfl,on,u4⟩;obtain⟨g,cap,rfl,aP,_,hc,_,_⟩:=Own.row on aq;clear bb bd;go_wp2;refine e8 (S:=λW=>aI W w2.heap.size 87 (a6 root)/\W.cell? (ad g 0)=some (u6 (n:Int))) al ?_;change Acp _ _ _ _ _ 13 _ _ (w4.drew);have UD:=an (Up.drew (Up.refl w4));obtain⟨F5,U5⟩:=aw (show aI w4.drew w2.heap.size 87 (a6 root)/\w4.drew.cell? (ad g 0)=some (u6 (n:Int))from⟨(((aI.new w2 87 (a6 root)).up UA).up u4).up UD,UD.cell (hc 0 aq)⟩) (((U3.trans UA).trans u4).trans UD);generalize w4.drew=w5 at *;have BL:=an (q6 w5 H P (HA.up U5) root b lv HB);rw[<-HN.out]at BL;refine ta 0 ?_;refine tb 1 rfl (WU (λW hS=>hS.1.range)) ?_;refine ni ?_;refine tb 4 rfl (yc (λW hS=>hS.2)) ?_;refine ta 5 ?_;refine ok 6 ?_;intro K hK;go_simp;refine BL.mono ?_;rintro e w6⟨x,y,rfl,hx,bf,hy,aa⟩;have S6:=an (show aI w6 w2.heap.size 87 (a6 root)/\w6.cell? (ad g 0)=some (u6 (n:Int))from⟨F5.1.ax aa.2 (λhf=>by have:=HA.lt _ hf;have:=u2.size;omega),fC F5.2 aa.2 (λhf=>by have:=HA.lt _ hf;have:=U3.size;have:=UA.size;omega)⟩);refine hK _ _ S6 ?_;refine UL ?_;clear hK K;refine uX ?_;refine ta 11 ?_;refine bx ?_;refine ta 12 ?_;refine ng ?_;go_wp2;go_ret3;exact⟨_,_,rfl,hx,(λk hk=>bO U5.size (bf k hk)),(hy.mono (base':=w.heap.size) U5.size),((PG.of HA U5).trans aa)⟩
def e2(k t:Nat):Nat:=1+dF k+dF (cJ t)
theorem DC(w:af)(v:ah)(b:List aj)(hv:aY w v b)(hb:κ b<=1000000)(t:Nat)(ht:t<=1000000):Aaf Aag 212 #[v,i6 (t:Int)] w λe w'=>e=.returned (i6 (e2 (κ b) t:Int))/\Up w w':=by
 obtain⟨va,vc,rfl⟩:=hv.slice;have N1:=an (vf w (κ b) hb);have hs:cJ t<=1000000:=by unfold cJ;split<;>omega
 obtain⟨SL,N2⟩:=aw (λW=>lL W t ht) (λW=>vf W (cJ t) hs);obtain⟨B1,B2⟩:=az ((jk (κ b)).2) ((jk (cJ t)).2);have h1:dF (κ b)<=1024:=B1;have h2:dF (cJ t)<=1024:=B2;have HC:=an (show e2 (κ b) t=1+dF (κ b)+dF (cJ t)from rfl);clear B1 B2;generalize dF (κ b)=n1 at *;generalize dF (cJ t)=n2 at *;generalize cJ t=sp at *;go_in;go_wp2_with fail;refine N1.mono ?_;rintro e w1⟨rfl,u1⟩;go_wp2_with fail;refine(SL _).mono ?_;refine oQ ?_;intro w2;go_wp2_with fail;refine(N2 _).mono ?_;rintro e w3⟨rfl,u3⟩;go_wp2;go_ret;exact⟨by rw[HC.out];simp,u1.trans u3⟩
def aQ(next:Nat)(v:ah):Array ah:=#[.int .u64 (next:Int),v]
def e3(next:Nat)(l:List ab):Option (List aj):=(lx next l).bind λm=>if (κ m)<=65535 then some m else none
theorem xP(w:af)(next:Nat)(hn:next<18446744073709551616)(v:ah)(l:List ab)(hv:cy w v l)(aK:∀x∈l,x.wf):Aaf Aag 211 #[.agg (aQ next v)] w λe w'=>Es (e3 next l) w e w':=by
 have U1:=an (ai w (.cells (aQ next v) 73));have EB:=an (sf _ next hn v l (hv.up U1) aK);have c0:(w.alloc (.cells (aQ next v) 73)).cell? (ad w.heap.size 0)=some (u6 (next:Int)):=(aI.new w 73 (aQ next v)).cell 0;have c1:(w.alloc (.cells (aQ next v) 73)).cell? (ad w.heap.size 1)=some v:=(aI.new w 73 (aQ next v)).cell 1;obtain⟨va,vc,aU⟩:=hv.slice;obtain⟨n,aS⟩:=bE (κ l);rw[<-aS]at aU;subst aU;have HR:=an (show e3 next l=(lx next l).bind λm=>if (κ m)<=65535 then some m else none from rfl);clear aK aS hn;go_in;go_wp2_with(refine arm ?_);refine EB.mono ?_;rintro e w2(⟨ho,rfl,u2⟩|⟨m,u,ho,rfl,om,u2⟩)
 ·rw[ho]at HR;have U2:=an (U1.trans u2);clear c0 c1 ho;go_wp2;go_ret2;exact .inl ⟨HR,rfl,U2⟩
 ·rw[ho]at HR;obtain⟨U2,OM⟩:=aw (U1.trans u2) (om.mono (base':=w.heap.size) U1.size);obtain⟨ua,uc,rfl⟩:=om.cv.slice;clear c0 c1 ho;by_cases hm:κ m<=65535
  ·have HS:=an (show e3 next l=some m by rw[HR.out,ql,bp hm]);have b1:((κ m:Int)>65535)=False:=cG ae;go_wp2;go_ret2;exact .inr ⟨m,_,HS,rfl,OM,U2⟩
  ·have HS:=an (show e3 next l=none by rw[HR.out,ql,aO hm]);have b1:((κ m:Int)>65535)=True:=dU ae;clear hm;go_wp2;go_ret2;exact .inl ⟨HS,rfl,U2⟩
def e0(next:Nat)(l:List ab)(t:Nat):Nat:=match e3 next l with
 | some m=>if cJ t=0 then 0 else e2 (κ m) t
 | none=>0
theorem vz{next:Nat}{l:List ab}(h:e3 next l=some m):κ m<=65535:=by unfold e3 at h;obtain⟨m',h1,h2⟩:=E1.1 h;grind
theorem Qy(w:af)(next:Nat)(hn:next<18446744073709551616)(v:ah)(l:List ab)(hv:cy w v l)(aK:∀x∈l,x.wf)(t:Nat)(ht:t<=1000000):Aaf Aag 151 #[.agg (aQ next v),i6 (t:Int)] w λe w'=>e=.returned (i6 (e0 next l t:Int))/\Up w w':=by
 obtain⟨U1,SL,HB⟩:=aW (ai w (.cells (aQ next v) 73)) (λW=>lL W t ht) (show e0 next l t=(match e3 next l with|some m=>if cJ t=0 then 0 else e2 (κ m) t|none=>0)from rfl);go_in;go_wp2_with(refine arm ?_);refine(xP _ next hn v l (hv.up U1) aK).mono ?_;rintro e w2(⟨ho,rfl,u2⟩|⟨m,u,ho,rfl,om,u2⟩)
 ·rw[ho]at HB;have U2:=an (U1.trans u2);clear ho;go_wp2;go_ret;exact⟨by rw[HB.out];rfl,U2⟩
 ·have hm:=vz ho;rw[ho]at HB;obtain⟨U2,MC⟩:=aw (U1.trans u2) (DC w2 u m om.cv ae t ht);obtain⟨ua,uc,hu⟩:=om.cv.slice;obtain⟨n,hn⟩:=bE (κ m);rw[<-hn]at hu MC;subst hu;have HN:=an hn;clear ho hn hm;by_cases h0:cJ t=0
  ·have HZ:=an (show e0 next l t=0 by rw[HB.out];exact bp h0);rw[h0]at SL;clear h0;go_wp2_with fail;refine(SL _).mono ?_;rintro e w3⟨rfl,aa⟩;rw[aa];clear aa;go_wp2;go_ret;exact⟨y5,U2⟩
  ·have HZ:=an (show e0 next l t=e2 n t by rw[HB.out,HN.out];exact aO h0);have b0:(((cJ t:Nat):Int)==0)=false:=by simp;omega
   generalize cJ t=sp at *;clear h0;go_wp2_with fail;refine(SL _).mono ?_;rintro e w3⟨rfl,aa⟩;rw[aa];clear aa;go_wp2_with fail;refine MC.mono ?_;rintro e w4⟨rfl,u4⟩;go_wp2;go_ret;exact⟨y5,U2.trans u4⟩
def sc(x:au × Nat):Array ah:=#[.int .i64 x.1.loc,.int .u64 (x.1.aV:Int),.int .u32 (x.1.sum:Int),.int .i64 (x.2:Int)]
def zv(x:au × Nat):List ah:=(sc x).toList
theorem pnw:gi zv 4:=⟨ae,λ_=>rfl,λx u hu=>by simp[zv,sc]at hu;rcases hu with rfl|rfl|rfl|rfl<;>rfl⟩
theorem Yg(x:au × Nat):(sc x).all (·.oneCell')=true:=by simp[sc,Ac9]
theorem Pe:∀W:af,(Ab9 354).run Aag W=.ok (.agg (sc (hole,0))) W:=by simp[sc,hole]
theorem HF(x:au × Nat):prog.built 354 [(0,.agg (a6 x.1)),(1,i6 (x.2:Int))]=some (sc x):=al
def gN(x:au × Nat):List aj:=bM x.1++aX [4] [x.2]
theorem wN(x:au × Nat):κ (gN x)=20:=aA
def fI(p:au)(n:Nat)(q:au)(m:Nat):List aj:=[(p,n),(q,m)].flatMap gN
theorem iW(p:au)(n:Nat)(q:au)(m:Nat):κ (fI p n q m)=40:=aA
theorem GZ(w:af)(x y:au × Nat):(Acf 355 2 #[(0,.agg (sc x)),(1,.agg (sc y))]).run Aag w=.ok (cC w.heap.size 2 2) (w.alloc (.cells (sc x++sc y) 354)):=al
theorem R1{op:Abi}{a:Act}(hgd:op.guard=none)(t:Aab)(x y:bR)(ho:op.op=.buildSlice t 2 #[(0,x),(1,y)])(X Y:Array ah)(hx:a.eval x=.agg X)(hy:a.eval y=.agg Y)(v:ah)(w':af)(hr:(Acf t 2 #[(0,.agg X),(1,.agg Y)]).run P w=.ok v w')(h:Aam P ops Q rest (a.put op.dst v) w'):Aam P ops Q (op::rest) a w:=by refine uW ?_;intro K hK;simp[ho,hx,hy,hr,Aar];exact hK _ _ h
theorem Jr(w:af)(p:au)(hp:p.wf)(gp:cw p=true)(n:Nat)(hn:n<=65535)(q:au)(hq:q.wf)(gq:cw q=true)(m:Nat)(hm:m<=65535):Aaf Aag 259 #[.agg (a6 p),i6 (n:Int),.agg (a6 q),i6 (m:Int)] w λe w'=>∃v,e=rt #[v,i6 0]/\Own aH 5 w' w.heap.size v (fI p n q m)/\Up w w':=by
 have U2:=an (ai (w.alloc (.cells (a6 p) 87)) (.cells (a6 q) 87));have b2:=aI.new (w.alloc (.cells (a6 p) 87)) 87 (a6 q);rw[aN]at b2;obtain⟨B2,XQ,RB⟩:=aW b2 (HF (q,m)) (λW=>GZ W (p,n) (q,m));obtain⟨ps,bc⟩:∃l:List (au × Nat),l=[(p,n),(q,m)]:=⟨_,rfl⟩;obtain⟨al,HW,HL⟩:=aW bc (show ∀x∈ps,x.1.wf/\cw x.1=true/\x.2<=65535 by rw[bc];simp[hp,gp,hn,hq,gq,hm]) (show κ ps=2 by rw[bc];rfl);clear gp hn gq hm bc;go_in;go_wp2_with(first
  | refine arm ?_
  | ((with_reducible refine eR 354 #[(0,.tmp 16),(1,.tmp 17)] ?_);refine kG rfl 354 0 1 (.tmp 16) (.tmp 17) rfl _ _ (sc (p,n)) (HF (p,n)) rfl rfl ?_)
  | ((with_reducible refine eR 354 #[(0,.tmp 19),(1,.tmp 20)] ?_);refine kG rfl 354 0 1 (.tmp 19) (.tmp 20) rfl _ _ (sc (q,m)) XQ rfl rfl ?_)
  | ((with_reducible refine dS 355 2 _ ?_);refine R1 rfl 355 (.tmp 18) (.tmp 21) rfl (sc (p,n)) (sc (q,m)) rfl rfl _ _ (RB _) ?_))
 obtain⟨aj,U3⟩:=aw (show aG zv (((w.alloc (.cells (a6 p) 87)).alloc (.cells (a6 q) 87)).alloc (.cells (sc (p,n)++sc (q,m)) 354)) (cC (((w.alloc (.cells (a6 p) 87)).alloc (.cells (a6 q) 87)).heap.size) 2 2) ps from aG.er _ _ rfl (sc (p,n)++sc (q,m)) 354 (0,0) ps 2 HL.symm dy (by rw[al.out];simp[zv])) (((ai w (.cells (a6 p) 87)).trans U2).trans (ai ((w.alloc (.cells (a6 p) 87)).alloc (.cells (a6 q) 87)) (.cells (sc (p,n)++sc (q,m)) 354)));rw[aN,aN]at aj;clear XQ RB;obtain⟨w3,aa⟩:=bE ((((w.alloc (.cells (a6 p) 87)).alloc (.cells (a6 q) 87)).alloc (.cells (sc (p,n)++sc (q,m)) 354)));go_loopw [10,24] (λtv i wr=>∃k:Nat,k<=2/\i=i6 k/\Own aH 5 wr w3.heap.size tv ((ps.take k).flatMap gN)/\Up w3 wr) (λ_ i _=>2-(Aaq i).toNat)
 case atStart=>exact⟨0,ae,rfl,Own.nil _ _ _ _,by rw[aa];exact Up.refl _⟩
 case round=>
  obtain⟨k,hk,rfl,ho,ur⟩:=hrel;obtain⟨OR,UR⟩:=aw ho ur;rw[<-aa]at aj U3;clear aa;by_cases hlt:k<2
  ·have b2:((k:Int)<2)=True:=by simp;omega
   obtain⟨x,hx⟩:=bE (ps[k]' FE);obtain⟨b,off,ar,_,_,hc⟩:=aG.get (aG.up aj UR) pnw (by rw[HL.out];omega);simp only[Aai,Abm,and_true]at ar;obtain⟨hb,rfl⟩:=ar;subst hb;have RC:=an (show wr.rangeAt (w.heap.size+1+1) (0+k*4) (sc x).toList from λj u hj=>by have:=hc k FE j u (by rw[<-hx];exact hj);rw[show 0+k*4+j=0+(k*4+j)from ae];exact this)
   rw[Abn]at RC;obtain⟨xw,xg,xl⟩:=HW x (by rw[hx];exact cm _);have TK:=an (show(ps.take (k+1)).flatMap gN=(ps.take k).flatMap gN++gN x from by rw[eo FE,gl,List.flatMap_singleton,<-hx]);have LK:=an (show((ps.take k).flatMap gN).length<=40 from by
    have:∀l:List (au × Nat),κ (l.flatMap gN)=κ l*20:=λl=>by
     induction l with
     | nil=>rfl
     | cons y l ih=>rw[Abd,Aae,ih,wN,Aaj];omega
    rw[this,ey];omega)
   obtain⟨tb,bq⟩:=bE ((ps.take k).flatMap gN);rw[<-bq]at OR LK TK;clear hc hx bq;have BX:=an (aI.new wr 354 (sc x));have RP:=an (show(wr.alloc (.cells (sc x) 354)).rangeAt wr.heap.size 0 (a6 x.1).toList from λj u hj=>by
    rw[Abn,BX.out.cell];match j,hj with
    | 0,hj=>exact hj
    | 1,hj=>exact hj
    | 2,hj=>exact hj
    | (n+3),hj=>simp[a6]at hj)
   obtain⟨N3,UX,PB,XG,ao⟩:=eQ (show(wr.alloc (.cells (sc x) 354)).cell? (ad wr.heap.size 3)=some (i6 (x.2:Int))from by rw[BX.out.cell];rfl) (ai wr (.cells (sc x) 354)) (nV (wr.alloc (.cells (sc x) 354)) x.1 xw) xg xw;have wn:=dP x.2 ae;clear xg;obtain⟨xp,xn⟩:=x;simp only at *;obtain⟨ta,tc,rfl⟩:=OR.cv.slice;go_wp2_with(first
    | refine cM 354 26 (sc (xp,xn)) RC ?_
    | refine bH 354 Pe ?_
    | refine dX 354 12 27 wr (sc (xp,xn)) 354 (sc (hole,0)) ?_
    | refine cM 87 29 (a6 xp) RP ?_)
   refine PB.mono ?_;rintro e w4(⟨_,v4,rfl,o4,u4⟩|⟨ay,_⟩)
   case inr=>rw[XG.out]at ay;cases ay
   obtain⟨pa,pc,ag⟩:=o4.cv.slice;rw[fA]at ag;subst ag;have U4:=an (UX.trans u4);have n3:=u4.cell N3;have UA:=an (ai w4 (.cells #[i6 4] 3));have c3:=UA.cell n3;obtain⟨aP,U5,cO⟩:=aW (ys ((w4.alloc (.cells #[i6 4] 3)).alloc (.cells #[u6 (xn:Int)] 70)) (cC w4.heap.size 1 1) [4] ((aC.er (f:=bA) w4 w4.heap.size rfl #[i6 4] 3 (0,0) [4] 1 rfl dy rfl).up (ai _ _)) aq (cC (w4.heap.size+1) 1 1) [xn] (aC.er (f:=cu) (w4.alloc (.cells #[i6 4] 3)) (w4.heap.size+1) (by rw[aN]) #[u6 (xn:Int)] 70 (0,0) [xn] 1 rfl dy rfl) (by intro k hk;simp at hk;omega) (GH ae)) ((U4.trans UA).trans (ai (w4.alloc (.cells #[i6 4] 3)) (.cells #[u6 (xn:Int)] 70))) (UA.trans (ai (w4.alloc (.cells #[i6 4] 3)) (.cells #[u6 (xn:Int)] 70)));clear n3 N3;go_wp2_with fail;refine aP.mono ?_;rintro e w6⟨v6,rfl,o6,u6⟩;obtain⟨qa,qc,ak⟩:=o6.cv.slice;rw[jq]at ak;subst ak;have U6:=an (U5.trans u6);obtain⟨T6,P6,S6⟩:=aW (OR.up U6) (((o4.up cO).up u6).cv) (show w3.heap.size<=w6.heap.size from bO UR.size U6.size);have lk:=LK.out;obtain⟨LP,LQ⟩:=aw (show(bM xp).length=16 from fA _) (jq xn);clear c3;obtain⟨n1,n2⟩:=aw (show(κ tb+κ (bM xp))*1<=140737488355328 by rw[LP.out];omega) (show κ tb+κ (bM xp)<=9223372036854775807 by rw[LP.out];omega);go_wp2_with(first
    | (at_builtin;refine bf aH cg rfl (.tmp 49) (.tmp 50) 30 rfl w3.heap.size 5 (.int .u8 0) 1 Aau ew rfl _ tb rfl T6 (.slice pa 16 pc) (bM xp) rfl P6 n1 n2 S6 ?_))
   intro v7 w7 aL a1 bj;obtain⟨K7,U7,S7,n3,n4⟩:=eQ ((o6.wk (OR.up U5) (aE _) a1).cv) ((UR.trans U6).aF bj (aE _)) (show w3.heap.size<=w7.heap.size from bO S6 bj.size) (show(κ (tb++bM xp)+κ (aX [4] [xn]))*1<=140737488355328 from Ua) (show(tb++bM xp).length+κ (aX [4] [xn])<=9223372036854775807 from Ua);go_wp2_with(first
    | (at_builtin;refine bf aH cg rfl (.tmp 51) (.tmp 52) 30 rfl w3.heap.size 5 (.int .u8 0) 1 Aau ew rfl _ (tb++bM xp) rfl aL (.slice qa 4 qc) (aX [4] [xn]) rfl K7 n3 n4 S7 ?_))
   intro v8 w8 ab ax av;have U8:=an (U7.aF av (aE _));go_wp2;go_roundw
   case rel=>exact⟨k+1,ae,aq,by rw[TK.out];exact ab,U8⟩
   case measure=>simp only[Aaq];omega
  ·obtain rfl:k=2:=by omega
   have b2:((2:Int)<2)=False:=aq
   have FIN:=an (show(ps.take 2).flatMap gN=fI p n q m from by rw[al.out];rfl);go_wp2_with fail;go_ret2;exact⟨_,rfl,by rw[<-FIN.out];exact OR.mono U3.size,U3.trans UR⟩
theorem Tr(w:af)(n:Nat)(h0:0<n)(hn:n<=100000):Aaf Aag 190 #[nl,i6 (n:Int)] w λe w'=>∃v,e=.returned v/\a8 w' w.heap.size v []/\Up w w':=by
 obtain⟨i,hi,hz0,hz1,ar⟩:=jC cF;obtain⟨AP,aa⟩:=aw (λ(ty:Aab)=>Lib.run_append_nil_zeros (P:=Aag) w 88 3 ty 87 i _ .i64 .i64 Aas aA hi hz0 n h0 ae ae aP) (show n<=grownCap w n 0 87/\grownCap w n 0 87<=maxLen from⟨grownCap_ge _ _ _ _,grownCap_le_maxLen _ _ _ _ dy⟩);have b1:((n:Int)<0)=False:=aq
 have b2:((n:Int)>0)=True:=ao
 generalize grownCap w n 0 87=gc at *;go_in;go_wp2_with(first
  | (at_builtin;refine Lib.wpList_append_run _ rfl (.tmp 20) (.tmp 21) 88 3 rfl _ _ rfl rfl _ _ (AP _) ?_))
 go_ret;refine⟨_,rfl,⟨rfl,.inr ⟨w.heap.size,gc,_,rfl,aE _,(aI.new w 87 (Abg #[Acd IntKind.i64 0,Acd IntKind.u64 0,Acd IntKind.u32 0] n++Abg #[Acd IntKind.i64 0,Acd IntKind.u64 0,Acd IntKind.u32 0] (gc-n))).up (Up.drew (Up.refl _)),bG _,aa.2,?_,aq⟩⟩,(ai w _).trans (Up.drew (Up.refl _))⟩;have:=aa.1;simp[Abg];omega
def kI(w:af)(v:ah)(ls:List (List au)):Prop:=∃us:List W4,aC gv w v us/\(κ us)=κ ls/\∀i(a:i<κ us)(b:i<κ ls),c9 w (gv us[i]) ls[i]
theorem kI.slice{v:ah}{ls:List (List au)}(h:kI w v ls):∃a cap,v=.slice a (κ ls) cap:=by obtain⟨us,h1,h2,_⟩:=h;rw[<-h2];exact h1.slice
theorem kI.up{w w':af}{v:ah}{ls:List (List au)}(h:kI w v ls)(u:Up w w'):kI w' v ls:=by obtain⟨us,h1,h2,h3⟩:=h;exact⟨us,h1.up u,h2,λi a b=>aG.up (h3 i a b) u⟩
theorem kI.get{ls:List (List au)}(h:kI w (.slice a n cap) ls)(hk:k<κ ls):∃b off va vc,a=some ⟨b,off,none⟩/\n=κ ls/\w.cell? (ad b (off+k))=some (.slice va ls[k].length vc)/\c9 w (.slice va ls[k].length vc) ls[k]:=by
 obtain⟨us,h1,h2,h3⟩:=h;obtain⟨va,vc,hv⟩:=aG.slice (h3 k ae hk);rcases h1 with⟨rfl,_⟩|⟨b,off,al,h4,_,_,_,hc⟩
 ·grind
 grind
def gQ(ls:List (List au)):Nat:=(ls.map List.length).sum
theorem xY{ls:List (List au)}(h:k<κ ls):gQ (ls.take (k+1))=gQ (ls.take k)+ls[k].length:=by unfold gQ;rw[eo h,Aao,wD];rfl
theorem RF(ls:List (List au))(k:Nat):gQ (ls.take k)<=gQ ls:=by
 have h:gQ ls=gQ (ls.take k)+gQ (ls.drop k):=by unfold gQ;rw[<-wD,<-Aao,fO]
 omega
theorem P5{ls:List (List au)}(h:k<κ ls):(ls.take (k+1)).flatten=(ls.take k).flatten++ls[k]:=by rw[eo h,List.flatten_append];simp
theorem H2(ls:List (List au)):κ ls.flatten=gQ ls:=by simp[gQ]
theorem zU(w:af)(v:ah)(ls:List (List au))(hv:kI w v ls)(h0:0<gQ ls)(hn:gQ ls<=100000)(hl:κ ls<=1000):Aaf Aag 118 #[v] w λe w'=>∃v,e=.returned v/\a8 w' w.heap.size v ls.flatten/\Up w w':=by
 obtain⟨a,cap,rfl⟩:=hv.slice;obtain⟨HV,SL⟩:=aw hv (RF ls);go_in;go_wp2;go_loopw [3,11] (λs i wr=>∃k:Nat,k<=κ ls/\i=i6 k/\s=i6 (gQ (ls.take k):Int)/\wr=w) (λ_ i _=>κ ls-(Aaq i).toNat)
 case atStart=>exact⟨0,bG _,rfl,aA,rfl⟩
 case round=>
  obtain⟨k,hk,rfl,rfl,rfl⟩:=hrel;by_cases hlt:k<κ ls
  ·have b2:((k:Int)<(κ ls:Int))=True:=by simp;omega
   obtain⟨b,off,va,vc,rfl,_,hc,_⟩:=HV.get hlt;have ST:=an (xY hlt);have:=SL k;have:=SL (k+1);rw[ST.out]at this;generalize gQ (ls.take k)=s0 at *;generalize ls[k].length=lk at *;have e1:IntKind.i64.wrap ((s0:Int)+(lk:Int))=((s0+lk:Nat):Int):=by rw[show(s0:Int)+(lk:Int)=((s0+lk:Nat):Int)from ae];exact bc _ ae
   have b4:(((s0+lk:Nat):Int)<0)=False:=ao
   go_wp2;go_roundw
   case rel=>exact⟨k+1,ae,aq,by rw[ST.out];rfl,trivial⟩
   case measure=>simp only[Aaq];omega
  ·obtain rfl:k=κ ls:=by omega
   have b2:((κ ls:Int)<(κ ls:Int))=False:=aq
   rw[fj];obtain⟨sl,aJ⟩:=bE (gQ ls);rw[<-aJ]at h0 hn SL ⊢;have HS:=an aJ;obtain⟨w0,ay⟩:=bE (wr);subst ay;clear aJ;go_wp2_with fail;refine(Tr w0 sl h0 hn).mono ?_;rintro e w2⟨v2,rfl,o2,u2⟩;obtain⟨O2,U2⟩:=aw o2 u2;go_wp2;go_loopw [6,27] (λs i w3=>∃k:Nat,k<=κ ls/\i=i6 k/\a8 w3 w0.heap.size s (ls.take k).flatten/\Up w0 w3) (λ_ i _=>κ ls-(Aaq i).toNat)
   case atStart=>exact⟨0,bG _,rfl,O2,U2⟩
   case round=>
    obtain⟨k,aa,rfl,ho,hu⟩:=hrel;obtain⟨OO,UU⟩:=aw ho hu;by_cases hlt:k<κ ls
    ·have b2:((k:Int)<(κ ls:Int))=True:=by simp;omega
     obtain⟨b,off,va,vc,rfl,_,hc,hp⟩:=(HV.up UU).get hlt;obtain⟨HP,FT⟩:=aw hp (P5 hlt);have FL:=an (show(ls.take k).flatten.length+ls[k].length<=100000 from by rw[H2,<-xY hlt];exact bO (SL _) hn)
     generalize ls[k]=lk at *;generalize(ls.take k).flatten=acc at *;obtain⟨ta,tc,rfl⟩:=(ak.row OO pw).slice;go_wp2_with(first
      | (at_builtin;refine bI pw rfl (.tmp 31) (.tmp 32) 88 rfl w0.heap.size 87 _ 24 Aas cF rfl _ acc rfl OO _ lk rfl HP cr cr UU.size ?_))
     intro v4 w4 ab ag ad;have U4:=an (UU.aF ad (aE _));go_wp2;go_roundw
     case rel=>exact⟨k+1,ae,aq,by rw[FT.out];exact ab,U4⟩
     case measure=>simp only[Aaq];omega
    ·obtain rfl:k=κ ls:=by omega
     have oo:=OO.out;rw[fj]at oo;go_wp2;go_ret;exact⟨_,rfl,oo,UU⟩
theorem lZ{C C':List cQ}{q:au}(h:C'[q.loc.toNat]?=C[q.loc.toNat]?):fM C' q=fM C q:=by grind [fM]
theorem nn{C C':List cQ}{q:au}(h:C'[q.loc.toNat]?=C[q.loc.toNat]?):node8 C' q=node8 C q:=by grind [node8,lZ]
theorem Dz{lv:Nat->List au}{t:Nat}:∀d,d<=t->∀k,t-d<=k->k<t->∀x∈lv k,x∈iN lv t d
 | 0,_,k,h1,h2,x,_=>ae
 | d+1,hd,k,h1,h2,x,hx=>by
  unfold iN;by_cases h:k=t-(d+1)
  ·subst h;exact oJ _ hx
  ·exact nK _ (Dz d ae k ae h2 x hx)
theorem w4{lv:Nat->List au}(hk:k<κ (eD (κ b))){x:au}(hx:x∈lv k):x∈dW b lv:=Dz _ (aE _) k ae hk x hx
theorem iE.congr{C C':List cQ}{root:au}{lv:Nat->List au}(B:iE C root b lv)(h:∀p∈dW b lv,C'[p.loc.toNat]?=C[p.loc.toNat]?):iE C' root b lv:=by exact⟨B.len,B.sz,B.top,B.nh,λi hi=>by rw[lZ (h _ (w4 (by rw[hY B.len.1 B.len.2];simp) (cm hi)))];exact B.Zp i hi,λk hk i hi=>by rw[nn (h _ (w4 hk (cm hi)))];exact B.nod k hk i hi⟩
theorem AX(lv:Nat->List au)(t:Nat):∀d,d<=t->(iN lv t d).Perm ((List.range' (t-d) d).flatMap lv)
 | 0,_=>by simp[iN]
 | d+1,hd=>by unfold iN;rw[List.range'_succ,Abd,show t-(d+1)+1=t-d from ae];exact((AX lv t d ae).append_right _).trans List.perm_append_comm
theorem AN(st:Nat)(ats:List Nat)(b:List aj):∀k,(fF st ats b k).map (ar st)=(Aal k).flatMap (lf st ats b)
 | 0=>rfl
 | k+1=>by show(fF st ats b k++(mM st ats b k).1).map _=_;rw[Aao,AN st ats b k,Ab0,gl,List.flatMap_singleton];rfl
theorem tM(st:Nat)(ats:List Nat)(b:List aj):(dW b (lf st ats b)).Perm ((fF st ats b (κ (eD (κ b)))).map (ar st)):=by rw[AN];have:=AX (lf st ats b) (κ (eD (κ b))) _ (aE _);rw[Nat.sub_self,<-List.range_eq_range']at this;exact this
theorem lz(h1:1<=κ b)(h2:κ b<=65535)(hn:κ ats=dF (κ b)):((dW b (lf st ats b)).map (·.loc)).Perm (ats.map (λk:Nat=>(k:Int))):=by
 have:=(tM st ats b).map (·.loc);rw[nI]at this;have e:(fF st ats b (κ (eD (κ b)))).map ((·.loc) ∘ ar st)=ats.map (λk:Nat=>(k:Int)):=by rw[<-kf (st:=st) h1 h2 hn,nI,kf h1 h2 hn];rfl
 simp_all
theorem CA:∀p∈dW b (lf st ats b),p.aV=st:=λp hp=>by obtain⟨x,_,rfl⟩:=Abb.1 ((tM st ats b).mem_iff.1 hp);rfl
structure k9(C:List cQ)(q:au)(b sp:List aj)(ps:List au):Prop where
 ex:∃(r1 r2:au)(lv1 lv2 lvq:Nat->List au),iE C q (fI r1 (κ b) r2 (κ sp)) lvq/\iE C r1 b lv1/\iE C r2 sp lv2/\(r1.wf/\cw r1=true)/\(r2.wf/\cw r2=true)/\ps=q::(dW b lv1++dW sp lv2)/\dW (fI r1 (κ b) r2 (κ sp)) lvq=[q]
theorem k9.congr{C C':List cQ}{q:au}{b sp:List aj}{ps:List au}(M:k9 C q b sp ps)(h:∀p∈ps,C'[p.loc.toNat]?=C[p.loc.toNat]?):k9 C' q b sp ps:=by
 obtain⟨r1,r2,lv1,lv2,lvq,a,b',c,d,e,f,g⟩:=M.ex;subst f;refine⟨r1,r2,lv1,lv2,lvq,a.congr (λp hp=>h p ?_),b'.congr (λp hp=>h p ?_),c.congr (λp hp=>h p ?_),d,e,rfl,g⟩
 ·simp_all
 ·simp_all
 ·simp_all
theorem MX(h1:1<=n)(h2:n<=128):eD n=[1]:=by grind [hY,ly,hf]
theorem SG(h1:1<=κ b)(h2:κ b<=128)(hi:4<=i)(hc:C[i]?=some (eV b h2)):iE C ⟨i,st,eP (eV b h2)⟩ b (λ_=>[⟨i,st,eP (eV b h2)⟩])/\dW b (λ_=>[⟨i,st,eP (eV b h2)⟩])=[⟨i,st,eP (eV b h2)⟩]:=by
 have hl:=MX h1 h2;have ab:(⟨i,st,eP (eV b h2)⟩:au)≠hole:=λe=>by have:=ct au.loc e;simp[hole]at this;omega
 refine⟨⟨⟨h1,ae⟩,λk hk=>?_,rfl,λk hk x hx=>aa,λj hj=>?_,λk hk=>aa⟩,?_⟩
 ·simp_all
 ·obtain rfl:j=0:=by simp_all
  show fM C ⟨i,st,eP (eV b h2)⟩=_;unfold fM;rw[aO ab,bp aq];show(C[((i:Nat):Int).toNat]?).bind _=_;rw[Abr,hc,ql,bp rfl];have:nu b 0=b:=by unfold nu;rw[Nat.mul_zero,Aaw,dk h2]
  grind [dz,eV]
 ·unfold dW;rw[hl];rfl
def gy(s:Nat->Nat):Nat->Bool:=λi=>decide (i<1024/\s i=2)
def W0(P:bz):List aj:=iK (κ P.C) (aB (gy P.s) 4096)
structure ME(P P':bz)(ats:List Nat)(ps:List au):Prop where
 s:P'.s=P.s
 st:P'.st=P.st
 ba:P'.ba=P.ba
 len:κ P'.C=κ P.C
 m:P'.m=P.m+κ ats
 other:∀i,i ∉ ats->P'.C[i]?=P.C[i]?
 AV:(ps.map (·.loc)).Perm (ats.map (λk:Nat=>(k:Int)))
 aV:∀p∈ps,p.aV=P.st
def MB(P:bz)(H:aS)(b:List aj)(ats:List Nat)(w:af)(e:Ab3)(w':af):Prop:=∃q v ps P',e=.returned (.tuple #[.agg (a6 q),v,.int .i64 0])/\a8 w' w.heap.size v ps/\PT w H P' w'/\k9 P'.C q b (W0 P) ps/\ME P P' ats ps/\q.wf/\cw q=true
theorem WO{P:bz}{b sp T:List aj}{ats a1 a2:List Nat}{last:Nat}(h1:1<=κ b)(h2:κ b<=65535)(ag:1<=κ sp)(ak:κ sp<=65535)(ha:ats=a1++(a2++[last]))(hd:ats.Nodup)(aK:κ a1=dF (κ b))(al:κ a2=dF (κ sp))(has:∀i∈ats,4<=i/\i<1024/\P.s i=2/\i<κ P.C)(aF:1<=P.st/\P.st<=281474976710655){r1 r2:au}(bF:lf P.st a1 b (κ (eD (κ b))-1)=[r1])(aU:lf P.st a2 sp (κ (eD (κ sp))-1)=[r2])(hT:T=fI r1 (κ b) r2 (κ sp))(bp:κ T<=128){P1 P2 P3:bz}(a7:P1=bQ P (fF P.st a1 b (κ (eD (κ b)))))(bK:P2=bQ P1 (fF P.st a2 sp (κ (eD (κ sp)))))(bD:P3={P2 with C:=P2.C.set last (eV T bp),m:=P2.m+1,fl:=false}){q:au}(hq:q=⟨last,P.st,eP (eV T bp)⟩):iE P3.C r1 b (lf P.st a1 b)/\iE P3.C r2 sp (lf P.st a2 sp)/\k9 P3.C q b sp (q::(dW b (lf P.st a1 b)++dW sp (lf P.st a2 sp)))/\
  ME P P3 ats (q::(dW b (lf P.st a1 b)++dW sp (lf P.st a2 sp)))/\q.wf/\cw q=true:=by
 subst ha;obtain⟨ao,ad⟩:=az ((uB.1 hd).2.1) ((uB.1 hd).2.2);have m2:∀i∈a2,i∈a1++(a2++[last]):=λi h=>oJ _ (nK _ h);have m3:last∈a1++(a2++[last]):=oJ _ (oJ _ aq);have aB:∀i∈a1,i≠last:=λi h e=>ad i h last aq e;have ay:∀i∈a1,i ∉ a2:=λi h h'=>ad i h i (nK _ h') rfl;have aD:∀i∈a2,i≠last:=λi h e=>(uB.1 ao).2.2 i h last aq e;obtain⟨p1,p2,p3,p4,p5⟩:=gp P (fF P.st a1 b (κ (eD (κ b))));obtain⟨q1,q2,q3,q4,q5⟩:=gp P1 (fF P.st a2 sp (κ (eD (κ sp))));rw[<-a7]at p1 p2 p3 p4 p5;rw[<-bK]at q1 q2 q3 q4 q5;obtain⟨S,hS⟩:=bE (eV T bp);have e3:P3.C=P2.C.set last S/\P3.m=P2.m+1/\P3.s=P2.s/\P3.st=P2.st/\P3.ba=P2.ba:=aa
 clear bD;obtain⟨i1,i2⟩:=az (kf (st:=P.st) h1 h2 aK) (kf (st:=P.st) ag ak al);have B1:iE P1.C r1 b (lf P.st a1 b):=by grind [DZ]
 have B2:iE P2.C r2 sp (lf P.st a2 sp):=by grind [DZ]
 obtain⟨L1,L2⟩:=az (lz (st:=P.st) h1 h2 aK) (lz (st:=P.st) ag ak al);have ZS:∀p∈dW b (lf P.st a1 b),p.loc.toNat∈a1:=λp hp=>by have:=L1.mem_iff.1 (Abb.2 ⟨p,hp,rfl⟩);exact Oj
 have in2:∀p∈dW sp (lf P.st a2 sp),p.loc.toNat∈a2:=λp hp=>by have:=L2.mem_iff.1 (Abb.2 ⟨p,hp,rfl⟩);exact Oj
 have an:∀i,i≠last->P3.C[i]?=P2.C[i]?:=λi h=>by rw[e3.1];exact Ft (λe=>h e.symm)
 have av:∀i,i ∉ a2->P2.C[i]?=P1.C[i]?:=λi h=>by rw[bK];exact jP _ P1 i aa
 have aw:∀i,i ∉ a1->P1.C[i]?=P.C[i]?:=λi h=>by rw[a7];exact jP _ P i aa
 have ab:=has last m3;have bh:last<κ P2.C:=ae
 have C1:iE P3.C r1 b (lf P.st a1 b):=B1.congr (λp hp=>by have:=ZS p hp;rw[an _ (aB _ this),av _ (ay _ this)])
 have C2:iE P3.C r2 sp (lf P.st a2 sp):=B2.congr (λp hp=>an _ (aD _ (in2 p hp)));have aE:P3.C[last]?=some S:=aP
 obtain⟨BQ,AQ⟩:=SG (C:=P3.C) (i:=last) (st:=P.st) (b:=T) (by grind [iW]) bp ab.1 aP;rw[<-hq]at BQ AQ;have g1:=n2 (b:=b) (λi h=>has i ((λi h=>nK _ h) i h)) aF (κ (eD (κ b))-1) r1 aP;obtain⟨g2,gq⟩:=az (n2 (P:=P) (b:=sp) (λi h=>has i (m2 i h)) aF (κ (eD (κ sp))-1) r2 aP) (mh ab.1 ab.2.1 aF.1 aF.2 (eV T bp));rw[<-hq]at gq;refine⟨C1,C2,⟨r1,r2,lf P.st a1 b,lf P.st a2 sp,_,by rw[<-hT];exact BQ,C1,C2,g1,g2,rfl,aP⟩,⟨e3.2.2.1.trans (q1.trans p1),e3.2.2.2.1.trans (q2.trans p2),e3.2.2.2.2.trans (q3.trans p3),?_,?_,λi hi=>?_,?_,λp hp=>?_⟩,gq.1,gq.2⟩
 ·grind
 ·grind
 ·grind
 ·simp only[Ab8,Aao,List.map_nil];refine(List.Perm.cons _ (L1.append L2)).trans ?_;rw[hq];grind
 ·grind [CA]
section
variable {P:bu} {o:Abi} {a:Act} {w:af} {K:Act->af->Prop} {Q:Exit->Act->af->Prop}
theorem iA(ty:Aab)(x y:bR)(ho:o.op=.store ty x y)(g:Nat)(C':Array ah)(hx:a.eval x=pz g)(hy:a.eval y=.agg C')(t:Aab)(C:Array ah)(hb:aI w g t C)(hi:(P.info? ty).map (·.size)=some C'.size)(hold:C.size=C'.size)(h1:C'.all (·.oneCell')=true)(h:∀w',aI w' g t C'->w.grownBy w' (some g)->K (a.put o.dst Aat) w'):o.wp P a w K Q:=by
 have hfit:0+C'.size<=C.size:=ae
 have aF:=wq (P:=P) g 0 t C'.toList 0 C w hb ae (λv hv=>(wu.1 h1) v aP);have ba:(storeVar ty ⟨g,0,none⟩ (.agg C')).run P w=.ok () (w.setRow g (Abz C.toList 0 C'.toList).toArray):=by
  cases hq:P.info? ty with
  | none=>grind
  | some i=>
   have hs:C'.size=i.size:=aP
   simp[storeVar,sizeOf,typeInfo,hq,Value.cells,hs];assumption
 have a8:(Abz C.toList 0 C'.toList).toArray=C':=Ue
 rw[a8]at ba;unfold Ace Abt;simp[ho,hx,hy,Instr.storeAt,Adg,Aa1,ba,Aar];exact h _ (hb.set C') (cR w g C')
theorem R3(t:Aab)(x y z:bR)(ho:o.op=.buildSlice t 3 #[(0,x),(1,y),(2,z)])(X Y Z:ah)(hx:a.eval x=X)(hy:a.eval y=Y)(hz:a.eval z=Z)(v:ah)(w':af)(hr:(Acf t 3 #[(0,X),(1,Y),(2,Z)]).run P w=.ok v w')(h:K (a.put o.dst v) w'):o.wp P a w K Q:=by unfold Ace Abt;simp[ho,hx,hy,hz,hr,Aar];exact h
end
theorem L8{P:bz}(ht:64<=κ P.C/\(κ P.C)<=1024)(hf:ox (gy P.s) (κ P.C)):κ (W0 P)=cJ (κ P.C):=by
 unfold W0 iK;have SN:cJ (κ P.C)=2+5*((κ P.C+1)/2):=by grind [cJ]
 have:=sK hf ae;exact Oi
theorem Lz{H:aS}{P:bz}(A:PA w H P){v:ah}{xs:List aj}(h:Own aH 5 w base v xs):∀k,v.ownBlock=some k->¬PF H k:=λk hk=>by
 obtain⟨_,h2⟩:=h;rcases h2 with⟨h3,_⟩|⟨g,cap,cur,h3,_,h5,_⟩
 ·rw[h3]at hk;cases hk
 ·rw[h3]at hk;simp only[Aan,Aai]at hk;subst hk;exact A.b' (t:=5) (C:=cur) h5 av
theorem Jb(w:af)(a1 a2 a3:Option Addr)(n1 c1 n2 c2 n3 c3:Nat):(Acf 275 3 #[(0,.slice a1 n1 c1),(1,.slice a2 n2 c2),(2,.slice a3 n3 c3)]).run Aag w=.ok (cC w.heap.size 3 3) (w.alloc (.cells #[.slice a1 n1 c1,.slice a2 n2 c2,.slice a3 n3 c3] 88)):=al
theorem L9(h:64<=t/\t<=1024):1<=cJ t/\cJ t<=65535:=by grind [cJ]
theorem Le(w:af)(H:aS)(P:bz)(A:PA w H P)(vt:ah)(b:List aj)(hb:aY w vt b)(aX:∀k,vt.ownBlock=some k->¬PF H k)(h1:1<=κ b)(h2:κ b<=65535)(va:ah)(ats:List Nat)(ha:aC bA w va (ats.map (λk:Nat=>(k:Int))))(han:∀k,va.ownBlock=some k->¬PF H k)(ht:64<=κ P.C/\(κ P.C)<=1024)(aO:κ ats=e2 (κ b) (κ P.C))(hd:ats.Nodup)(has:∀i∈ats,4<=i/\i<1024/\P.s i=2/\i<κ P.C)(aF:1<=P.st/\P.st<=281474976710655)(hm:P.m<=800000)(hf:ox (gy P.s) (κ P.C)):Aaf Aag 214 #[pz H.pb,vt,va] w λe w'=>MB P H b ats w e w':=by
 obtain⟨ca,spn⟩:=az (L8 ht hf) (L9 ht);have N1:dF (κ b)<=1024:=(jk (κ b)).2;have N2:dF (cJ (κ P.C))<=1024:=(jk (cJ (κ P.C))).2;obtain⟨sp,a8⟩:=bE (W0 P);rw[<-a8]at ca;have cQ:dF (κ sp)=dF (cJ (κ P.C)):=by rw[ca]
 obtain⟨n,hn⟩:=bE (dF (κ b));obtain⟨m,aP⟩:=bE (dF (κ sp));have cp:κ ats=n+m+1:=by rw[aO];unfold e2;rw[hn,aP,cQ];omega
 obtain⟨a1,b8⟩:=bE (ats.take n);obtain⟨a2,b9⟩:=bE ((ats.drop n).take m);have aR:n+m<κ ats:=ae
 obtain⟨last,aK⟩:=bE (ats[n+m]);have ay:ats=a1++(a2++[last]):=by
  rw[b8,b9,aK];conv=>lhs;rw[<-fO n ats]
  congr 1;rw[<-fO m (ats.drop n)];congr 1
  ·rw[fO]
  ·rw[Ac4,qi aR,sO ae]
 have l1:κ a1=n:=by rw[b8,ey];omega
 have l2:κ a2=m:=by rw[b9,ey,hA];omega
 have m1:∀i∈a1,i∈ats:=λi h=>by rw[ay];exact nK _ h
 have m2:∀i∈a2,i∈ats:=λi h=>by rw[ay];exact oJ _ (nK _ h)
 have m3:last∈ats:=by rw[aK];exact cm _
 obtain⟨ta,tc,rfl⟩:=hb.slice;obtain⟨aa,ac,rfl⟩:=ha.slice;rw[Aac]at ha han ⊢;have dD:=me ha;have bb:∀W,(Aav 41 (.slice aa (κ ats) ac) none (some (i6 (n:Int))) none).run Aag W=.ok (bW aa 0 n ac) W:=λW=>hj (P:=Aag) 41 q' ra aa _ ac n ae W;have bd:∀W,(Aav 41 (.slice aa (κ ats) ac) (some (i6 (n:Int))) (some (i6 ((n:Int)+(m:Int)))) none).run Aag W=.ok (bW aa n (n+m) ac) W:=λW=>by have:=DY (P:=Aag) 41 q' ra aa (κ ats) ac n (n+m) ae ae W;rw[Int.natCast_add]at this;exact this
 have bP:=an (show aC bA w (bW aa 0 n ac) (a1.map (λk:Nat=>(k:Int)))from by have:=aC.piece ha (lo:=0) (hi:=n) ae l8;rw[Aaw,<-wA,<-b8]at this;exact this)
 have bM:=an (show aC bA w (bW aa n (n+m) ac) (a2.map (λk:Nat=>(k:Int)))from by have:=aC.piece ha (lo:=n) (hi:=n+m) ae l8;rw[<-wA,<-qj]at this;rw[b9];rw[List.drop_take,Fo]at this;exact this)
 obtain⟨p1,aD⟩:=bE (bW aa 0 n ac);obtain⟨p2,aL⟩:=bE (bW aa n (n+m) ac);obtain⟨cz,cb⟩:=aw (show ∀k,p1.ownBlock=some k->¬PF H k from λk hk=>han k (by rw[aD]at hk;exact rI hk)) (show ∀k,p2.ownBlock=some k->¬PF H k from λk hk=>han k (by rw[aL]at hk;exact rI hk));obtain⟨ab,ao,ar,_,b3⟩:=cf ha FH l8;subst ar;have LC:=an (show w.cell? (ad ab (ao+(n+m)))=some (i6 (last:Int))from by have:=b3 (n+m) (by rw[Aac];exact aR);rw[Adl,<-aK]at this;exact this)
 have LN:=an (han ab rfl);rw[<-aD]at bb bP;rw[<-aL]at bd bM;obtain⟨lb,bL⟩:=bE (κ b);rw[<-bL]at hb aX;have aQ:n<=1024:=by rw[hn];exact N1
 have dE:m<=1024:=by rw[aP,cQ];exact N2
 obtain⟨HA,HB,bX,bT,bV,bH,b2⟩:=vL A hb aX (λi h=>has i (m1 i h)) (λi h=>has i (m2 i h)) (has last m3) (show ats=a1++(a2++[last])/\ats.Nodup/\(κ a1)=dF (κ b)/\(κ a2)=dF (κ sp)/\(∀i∈ats,4<=i/\i<1024/\P.s i=2/\i<κ P.C)from⟨ay,hd,l1.trans hn,l2.trans aP,has⟩);obtain⟨nA,cR⟩:=bE (κ ats);rw[<-cR]at bb bd ⊢;have cr:nA=n+m+1:=ae
 obtain⟨cg,ND⟩:=aw bL (vf (w.alloc (.cells (a6 hole) 87)) (κ b) ae);rw[<-hn]at ND;rw[<-bL]at ND ⊢;obtain⟨HN,HM,aT,SPL,U1,B1,bY,bw,H1⟩:=Zn hn aP a8 ca (ai w (.cells (a6 hole) 87)) (aI.new w 87 (a6 hole)) l1 l2 (show 1<=κ b/\(κ b)<=65535 from⟨h1,h2⟩);clear aX han aO cp has m1 m2 m3 ay l1 l2 hn aP a8 ca aD aL b3 cR aK b8 b9 bL h1 h2;subst cr;go_in;go_wp2_with(refine arm ?_);refine ND.mono ?_;rintro e w2⟨rfl,u2⟩;obtain⟨U2,B2⟩:=aw (U1.trans u2) (B1.up u2);have cX:=an (C5 w2 H P (HA.up U2) (.slice ta lb tc) b (HB.up U2) bX H1.1 H1.2 p1 a1 (bP.up U2) cz (bY.trans HN) bT aF ae);have wl:IntKind.i64.wrap ((n:Int)+(m:Int))=((n+m:Nat):Int):=by rw[show(n:Int)+(m:Int)=((n+m:Nat):Int)from ae];exact bc _ ae
 go_wp2_with fail;clear bb;refine cX.mono ?_;rintro e w3⟨r1,bF,rfl,d3⟩;obtain⟨R1,D3⟩:=aw bF (PT.pre U2 d3);obtain⟨bs,A3,T3,O3⟩:=d3;obtain⟨B3,U4⟩:=aw (B2.ax T3 ((HA.up U2).b' B2 av)) (ai w3 (.cells (a6 r1) 87));obtain⟨D4,B4,E4⟩:=aW (D3.up U4) (B3.up U4) (aI.new w3 87 (a6 r1));clear bF O3 cz;go_wp2_with(refine arm ?_);generalize w3.alloc (.cells (a6 r1) 87)=w4 at *;obtain⟨P1,a7⟩:=bE (bQ P (fF P.st a1 b (κ (eD (κ b)))));obtain⟨q1,q2,q3,q4,q5⟩:=gp P (fF P.st a1 b (κ (eD (κ b))));have dG:P1.m<=P.m+2000:=by have:=ct List.length (kf (st:=P.st) H1.1 H1.2 (bY.trans HN));rw[Aac,bY.out]at this;rw[a7,q4,this];omega
 rw[<-a7]at D4 q1 q2 q3 q5;have ch:=an a7;clear a7 q4;obtain⟨Q1,Q2,Q5⟩:=aW q1 q2 q5;have cu:1<=P1.st/\P1.st<=281474976710655:=by rw[q2];exact aF
 have⟨bs,A4,T4,O4⟩:=D4;obtain⟨dx,PD,LE⟩:=aW A4 (kV w4 (H.at bs) P1 A4) (kK _ _ _ _ _ A4.dev);rw[q5]at LE;obtain⟨PM,TK⟩:=aw (ob w4 (H.at bs) P1 A4) (Cb _ _ _ A4.map);have cT:qK P1.s 2=aB (gy P.s) 4096:=by rw[q1,rT];rfl
 rw[cT]at TK;clear q1 q2 q3 q5 O4 cT;refine zg ?_;intro wx;go_wp2_with fail;refine zh ?_;intro wx;go_wp2_with fail;refine PM.mono ?_;refine f' ?_;intro wx;go_wp2_with fail;refine TK.mono ?_;rintro e w5⟨vs,rfl,os,u5⟩;have b6:=an (D' w5 (κ P.C) ht (gy P.s) hf vs (ak.row os Ca) (λa k c h=>by subst h;exact(ak.aJ os a.block rfl).2))
 obtain⟨D5,B5,E5,cO⟩:=bS (D4.up u5) (B4.up u5) (E4.up u5) u5;go_wp2_with fail;refine b6.mono ?_;rintro e w6⟨du,rfl,dj,u6⟩;have cn:=an (show Own aH 5 w6 w5.heap.size du sp from by rw[aT.out];exact dj);obtain⟨sa,sc,ba⟩:=cn.cv.slice;rw[SPL.out]at ba;subst ba;obtain⟨D6,B6,E6⟩:=aW (D5.up u6) (B5.up u6) (E5.up u6);have⟨ds,A6,T6,O6⟩:=D6;have cY:=an (C5 w6 (H.at ds) P1 A6 (.slice sa (cJ (κ P.C)) sc) sp (by have:=cn.cv;exact this) (Lz A6 cn) wF A5 p2 a2 (bM.ax T6 cb) (λk hk=>qw HA O6 (by
  by_cases h0:0<κ a2
  ·exact th bM (by rw[Aac];exact h0) k hk
  ·exfalso;have:=hY (n:=κ sp) wF A5;have h9:0<dF (κ sp):=by unfold dF;rw[this,Acm];have:=xd (b:=128) (n:=κ sp) ae wF;omega
   rw[bw.out,HM.out]at h0;omega) (cb k hk)) (bw.trans HM) (λi hi=>by
  have:=bV i hi;exact⟨this.1,this.2.1,by rw[Q1.out];exact this.2.2.1,by rw[Q5.out];exact this.2.2.2⟩) cu ae)
 go_wp2_with fail;clear bd;refine cY.mono ?_;rintro e w7⟨r2,aU,rfl,d7⟩;obtain⟨R2,D7⟩:=aw (show lf P.st a2 sp (κ (eD (κ sp))-1)=[r2] from by rw[<-Q2.out];exact aU) (PT.then T6 O6 d7);obtain⟨bm,A7,T7,O7⟩:=d7;obtain⟨B7,E7,U8⟩:=aW (B6.ax T7 (A6.b' B6 av)) (E6.ax T7 (A6.b' E6 av)) (ai w7 (.cells (a6 r2) 87));obtain⟨D8,B8,E8,F8⟩:=bS (D7.up U8) (B7.up U8) (E7.up U8) (aI.new w7 87 (a6 r2));clear aU O7 cb O6;obtain⟨P2,bK⟩:=bE (bQ P1 (fF P1.st a2 sp (κ (eD (κ sp)))));obtain⟨q1,q2,q3,q4,q5⟩:=gp P1 (fF P1.st a2 sp (κ (eD (κ sp))));have dp:P2.m<=P1.m+2000:=by have:=ct List.length (kf (st:=P1.st) wF A5 (bw.trans HM));rw[Aac,bw.out]at this;rw[bK,q4,this];omega
 rw[<-bK]at D8 q1 q2 q3 q5;have bB:=an (show P2=bQ P1 (fF P.st a2 sp (κ (eD (κ sp))))from by rw[bK,Q2.out]);have dd:=an (q1.trans Q1);have de:=an (q2.trans Q2);have df:=an (q5.trans Q5);clear bK q1 q2 q3 q4 q5;obtain⟨G1,G2⟩:=aw (n2 (b:=b) bT aF (κ (eD (κ b))-1) r1 (by rw[R1.out];simp)) (n2 (P:=P) (b:=sp) bV aF (κ (eD (κ sp))-1) r2 (by rw[R2.out];simp));have TO:=an (Jr (w7.alloc (.cells (a6 r2) 87)) r1 G1.1 G1.2 lb (by have:=H1.out;rw[cg.out];omega) r2 G2.1 G2.2 (cJ (κ P.C)) spn.2);go_wp2_with(refine arm ?_);generalize w7.alloc (.cells (a6 r2) 87)=w8 at *;refine TO.mono ?_;rintro e w9⟨cy,rfl,cw,u9⟩;obtain⟨OT,D9,B9,E9,F9⟩:=eQ cw (D8.up u9) (B8.up u9) (E8.up u9) (F8.up u9);have⟨dt,A9,T9,O9⟩:=D9;have c':=fC LC T9 LN;obtain⟨T,hT⟩:=bE (fI r1 lb r2 (cJ (κ P.C)));rw[<-hT]at OT;have bp:κ T=40:=by rw[hT];exact iW _ _ _ _
 have HT:=an (show T=fI r1 (κ b) r2 (κ sp) from by rw[hT,cg.out,SPL.out]);have aN:κ T<=128:=ae
 have dc:=an (tq w9 (H.at dt) P2 A9 last bH.2.1 (by rw[dd.out];exact bH.2.2.1) (by rw[df.out];exact bH.2.2.2) cy T OT.cv aN ae);obtain⟨dI,dL,bq⟩:=OT.cv.slice;rw[bp]at bq;have dB:=an bp;clear hT bp;subst bq;have bl:((n:Int)+(m:Int)<(n:Int)+(m:Int)+1)=True:=dU ae;have dC:(0<=(n:Int)+(m:Int))=True:=dU ae;have tn:((n:Int)+(m:Int)).toNat=n+m:=ae
 go_wp2_with fail;refine dc.mono ?_;rintro e aV⟨rfl,d10⟩;obtain⟨P3,bD⟩:∃x:bz,x={P2 with C:=P2.C.set last (eV T aN),m:=P2.m+1,fl:=false}:=⟨_,rfl⟩;rw[<-bD]at d10;obtain⟨q,hq⟩:∃q:au,q=⟨last,P.st,eP (eV T aN)⟩:=⟨_,rfl⟩;rw[show(a6 ⟨(last:Int),P2.st,eP (eV T aN)⟩)=a6 q from by rw[hq,de.out]];obtain⟨WR,cZ⟩:=aw (WO (b:=b) (sp:=sp) H1.1 H1.2 wF A5 b2.1 b2.2.1 b2.2.2.1 b2.2.2.2.1 b2.2.2.2.2 aF R1 R2 HT aN ch bB bD hq) (PT.then T9 O9 d10);obtain⟨dq,dw,bC,ck⟩:=d10;obtain⟨bt,dz,c7,bN⟩:=bS (B9.ax bC (A9.b' B9 av)) (E9.ax bC (A9.b' E9 av)) (F9.ax bC (A9.b' F9 av)) (ai aV (.cells (a6 q) 87));obtain⟨c0,cA,cH,cM,IQ,OQ,c9⟩:=vL (cZ.up bN) (bt.up bN) (c7.up bN) (aI.new aV 87 (a6 q)) (hU q) (kM q) bt.lt;have⟨cx,b4,dg,bJ⟩:=c0;have cE:=an (q6 _ _ P3 b4 r1 b _ WR.1);rw[<-cg.out]at cE;clear bD hq ck O9 c';go_wp2_with(refine arm ?_);generalize aV.alloc (.cells (a6 q) 87)=w11 at *;refine cE.mono ?_;rintro e bU⟨x1,v1,rfl,_,_,dk,g12⟩;obtain⟨cd,cj,bZ,cB,dA,cN,b7⟩:=vL g12 dg bJ (cA.ax g12.2 (b4.b' cA av)) (cH.ax g12.2 (b4.b' cH av)) (cM.ax g12.2 (b4.b' cM av)) dk;have b5:=g12.1;have cG:=an (q6 bU (H.at cx) P3 b5 r2 sp _ WR.2.1);rw[SPL.out]at cG;clear bJ;go_wp2_with(refine arm ?_);refine cG.mono ?_;rintro e bo⟨x2,v2,rfl,_,_,dm,g13⟩;have gg:=cd.trans g13;obtain⟨c3,cD,c8,b1,cP⟩:=eQ (PT.then cj bZ (PT.same gg.1 gg.2)) (cB.ax g13.2 (b5.b' cB av)) (cN.ax g13.2 (b5.b' cN av)) (ak.ax b7 g13.2 (eC b5 b7)) dm;clear bZ;go_wp2;have MA:=an WR.2.2;have da:=an (show(dW b (lf P.st a1 b)).length<=1024 from by have:=(lz (st:=P.st) H1.1 H1.2 (bY.trans HN)).length_eq;rw[Aac,Aac,bY.out]at this;omega)
 have db:=an (show(dW sp (lf P.st a2 sp)).length<=1024 from by have:=(lz (st:=P.st) wF A5 (bw.trans HM)).length_eq;rw[Aac,Aac,bw.out]at this;omega)
 generalize dW b (lf P.st a1 b)=L1 at *;generalize dW sp (lf P.st a2 sp)=L2 at *;obtain⟨bg,bj,rfl⟩:=(ak.row b1 pw).slice;obtain⟨bh,bk,rfl⟩:=(ak.row cP pw).slice;refine e8 (S:=λW=>aI W aV.heap.size 87 (a6 q)) al ?_;change Acp _ _ _ _ _ 10 _ _ (bo.drew);have UD:=an (Up.drew (Up.refl bo));obtain⟨cc,c4,cV,dh,di,SZ⟩:=iC (c8.up UD) (c3.up UD) (cD.up UD) (ak.row (ak.up b1 UD) pw) (ak.row (ak.up cP UD) pw) (show w.heap.size<bo.drew.heap.size from eh cD.lt UD.size);generalize bo.drew=bf at *;refine tb 0 rfl (WU (λW hS=>aI.range hS)) ?_;refine bx ?_;refine tb 1 rfl (WU (λW hS=>aI.range hS)) ?_;refine bx ?_;refine tk 3 (.slice bg (κ L1) bj) rfl ya (cc) ?_;refine bx ?_;refine tk 4 (.slice bh (κ L2) bk) rfl ya (cc) ?_;refine bx ?_;refine ok 2 ?_;intro K hK;refine mI 88 87 (.tmp 123) rfl _ 3 24 (a6 q) rfl Aas cF ae ae rfl ?_;have bO:=an (ai bf (.cells (a6 q) 87));have cI:=an (cc.up bO);refine hK _ _ cI ?_;refine gF ?_;clear hK K;refine ok 5 ?_;intro K hK;refine R3 275 (.tmp 124) (.tmp 125) (.tmp 126) rfl _ _ _ rfl rfl rfl _ _ (Jb _ _ _ _ _ _ _ _ _ _) ?_;have bI:=an (ai (bf.alloc (.cells (a6 q) 87)) (.cells #[cC bf.heap.size 1 1,.slice bg (κ L1) bj,.slice bh (κ L2) bk] 88));have cK:=an (cI.up bI);have IL:=an (show kI ((bf.alloc (.cells (a6 q) 87)).alloc (.cells #[cC bf.heap.size 1 1,.slice bg (κ L1) bj,.slice bh (κ L2) bk] 88)) (cC ((bf.alloc (.cells (a6 q) 87)).heap.size) 3 3) [[q],L1,L2] from
  ⟨[⟨some ⟨bf.heap.size,0,none⟩,1,1⟩,⟨bg,κ L1,bj⟩,⟨bh,κ L2,bk⟩],aC.er _ _ rfl _ _ (0,0) _ 3 rfl dy rfl,rfl,λi hi _=>by
   match i,hi with
   | 0,_=>exact aG.up (aG.er bf _ rfl (a6 q) 87 (0,0) [q] 1 rfl dy (by simp[dK,a6])) bI
   | 1,_=>exact aG.up dh (bO.trans bI)
   | 2,_=>exact aG.up di (bO.trans bI)
   | (k+3),hi=>exact absurd hi aq⟩)
 have CC:=an (zU _ _ [[q],L1,L2] IL (by simp[gQ];omega) (by have:=da.out;have:=db.out;simp[gQ];omega) aq);have FL:[[q],L1,L2].flatten=q::(L1++L2):=aq
 rw[FL]at CC;obtain⟨c5,cW,b0⟩:=aW (c4.up (bO.trans bI)) (cV.up (bO.trans bI)) (eh SZ (bO.trans bI).size);clear FL SZ;refine hK _ _ cK ?_;refine gF ?_;clear hK K;generalize bf.alloc (.cells (a6 q) 87)=cU at *;generalize cU.alloc (.cells #[cC bf.heap.size 1 1,.slice bg (κ L1) bj,.slice bh (κ L2) bk] 88)=dM at *;refine ok 6 ?_;intro K hK;go_simp;refine CC.mono ?_;rintro e dv⟨v17,rfl,ov,bG⟩;obtain⟨cL,c6,br⟩:=aW (cK.up bG) (c5.up bG) (cW.up bG);refine hK _ _ cL ?_;refine gF ?_;clear hK K;refine ok 7 ?_;intro K hK;refine iA 87 (.tmp 6) (.tmp 122) rfl w.heap.size (a6 q) rfl rfl 87 (a6 hole) br IQ rfl OQ ?_;intro wz hbz ag;obtain⟨DZ,VZ,FZ⟩:=aW (c6.grow br av ag (aE _)) ((ak.kept ov ag (.inr (λe=>by have:=(ov.aJ _ e).1;have:=b0.out;omega))).mono (base':=w.heap.size) (oI b0)) (show aI wz aV.heap.size 87 (a6 q)from cL.ax (Touch.be (F:=(·=w.heap.size)) ag (λk hk=>oN)) (by have:=c9.out;omega));refine hK _ _ FZ ?_;refine gF ?_;clear hK K;refine tk 8 (v17) rfl ya (FZ) ?_;refine bx ?_;refine tk 9 (i6 0) rfl ya (FZ) ?_;refine ng ?_;go_wp2;(try simp only[exi]);exact kk (v:=.tuple #[.agg (a6 q),v17,i6 0]) (se rfl _ _ _ w.heap.size 87 _ _ _ rfl rfl rfl hbz _ underlying87 rfl IQ) rfl ⟨q,v17,_,P3,rfl,VZ,DZ,by rw[<-aT.out];exact MA.1,MA.2.1,MA.2.2.1,MA.2.2.2⟩
theorem kbR{F0:Nat->Prop}{x0 w:af}{a:Act}{id l n:Nat}(s:Fr F0 x0 L w)(h:∀w,Fr F0 x0 L w->RK P ops Q F0 x0 L L [] 0 a w)(hm:P.follows .mixedOrders=true:=by kernel_rfl)(hd:rD ops=true:=by kernel_rfl)(ay:¬LetsOut Q:=by exact λ⟨_,_,h⟩=>h):(Code.region id ops true).wpIn (Fence.wide.inRound l) n P Q a w:=by have u:Up w w.drew:=Up.drew (Up.refl w);refine gR (S:=Sv F0 x0 L) hm hd ay ?_;have:=h w.drew (s.up u) (λ_ h=>h) [] w.drew (Up.refl _) (s.up u) ⟨.nil,λ_ h=>gn,λ_ h=>gn⟩;exact NK
def bpN(n:Nat)(P:bu)(fn:Func)(R:Ab3->af->Prop):Exit->Act->af->Prop
 | .panic _,_,_=>False
 | e,a,w=>bodyPostM Abw n P fn R e a w
theorem ZG{f:FuncId}{c:Code}{args:Array ah}(n:Nat)(hf:P.funcs[f]?=some fn)(h:c.wp P (bpN n P fn R) {tmps:=args++Array.replicate (fn.ntmps-args.size) undef,defers:=[]} w)(hb:fn.body=some c:=by rfl):Calls P f args w R:=fG.1 (oK hf hb trivial (wpIn_wide.2 (wp_mono h λe a w q=>by cases e<;>first|exact q|exact q.elim)) rfl)
theorem EH{F0:Nat->Prop}{x0:af}{a:Act}{rs:List ResultVar}{vs:List ah}{v:ah}(s:Fr F0 x0 L w)(hR:R (.returned v) w)(hf:fn.results=⟨rs⟩:=by first|exact(rfl:_=(⟨[_,_,_]⟩:Array ResultVar))|exact(rfl:_=(⟨[_,_]⟩:Array ResultVar))|exact(rfl:_=(⟨[_]⟩:Array ResultVar))|rfl)(hr:Rs P L a.tmps rs vs:=by first|exact .tmp .nil|exact .tmp (.tmp .nil)|exact .tmp (.tmp (.tmp .nil)))(hv:rv vs=v:=by rfl)(hd:a.defers=[]:=by rfl):bpN n P fn R .ret a w:=by obtain⟨v',h1,h2⟩:=(p3 s hR hf hr hv hd).2;show LeavesInM _ _ _ _ _ _ a.defers _ _;rw[hd];exact⟨v',h1,h2⟩
def PW(l:List au):Prop:=l.Pairwise (λx y=>dx x y=true)
theorem rO{l:List au}:PW l↔q3 l:=by unfold PW q3;rw[List.pairwise_iff_getElem];grind
theorem s8:∀(n:Nat)(a b:List au),κ a+κ b<=n->PW a->PW b->((∃x,x∈a/\x∈b)/\ei a b=none)\/((∀x,x∈a->x ∉ b)/\∃m,ei a b=some m/\PW m/\∀x,x∈m↔x∈a\/x∈b)
 | n,[],b,_,_,hb=>.inr ⟨aq,b,rA b,hb,aq⟩
 | n,x::a,[],_,ha,_=>.inr ⟨aq,x::a,Bd _,ha,aq⟩
 | 0,x::a,y::b,h,_,_=>by simp at h
 | n+1,x::a,y::b,h,ha,hb=>by
  have aE:=ha;have aB:=hb;unfold PW at aE aB;rw[fk]at aE aB;rw[Be (x::a) (y::b) aq aq];simp only[Aby,Abv,Aaw];cases h1:dx x y
  ·cases h2:dx y x
   ·have e:=Ip h1 h2;subst e;exact .inl ⟨⟨x,aq,aq⟩,aq⟩
   ·have ah:∀z∈x::a,dx y z=true:=λz hz=>by
     rcases Aak.1 hz with e|hz
     ·rw[e];exact h2
     ·exact kg h2 (aE.1 z hz)
    rcases s8 n (x::a) b (by simp at h ⊢;omega) ha aB.2 with⟨⟨z,z1,z2⟩,hm⟩|⟨hd,m,hm,hp,ag⟩
    ·exact .inl ⟨⟨z,z1,bn _ z2⟩,by simp[hm]⟩
    ·refine .inr ⟨λz hz aa=>?_,y::m,by simp[hm],?_,λz=>?_⟩
     ·rcases Aak.1 aa with e|aa
      ·have:=ah z hz;rw[e,ur]at this;cases this
      ·exact hd z hz aa
     ·unfold PW;rw[fk];refine⟨λz hz=>?_,hp⟩;rcases(ag z).1 hz with h3|h3
      ·exact ah z h3
      ·exact aB.1 z h3
     ·rw[Aak,ag,Aak (a:=z) (b:=y)];constructor
      ·exact Nr
      ·exact Nr
  ·have aD:∀z∈y::b,dx x z=true:=λz hz=>by
    rcases Aak.1 hz with e|hz
    ·rw[e];exact h1
    ·exact kg h1 (aB.1 z hz)
   rcases s8 n a (y::b) (by simp at h ⊢;omega) aE.2 hb with⟨⟨z,z1,z2⟩,hm⟩|⟨hd,m,hm,hp,ag⟩
   ·exact .inl ⟨⟨z,bn _ z1,z2⟩,by simp[hm]⟩
   ·refine .inr ⟨λz hz aa=>?_,x::m,by simp[hm],?_,λz=>?_⟩
    ·rcases Aak.1 hz with e|hz
     ·have:=aD z aa;rw[e,ur]at this;cases this
     ·exact hd z hz aa
    ·unfold PW;rw[fk];refine⟨λz hz=>?_,hp⟩;rcases(ag z).1 hz with h3|h3
     ·exact aE.1 z h3
     ·exact aD z h3
    ·rw[Aak,ag,Aak (a:=z) (b:=x)];constructor
     ·rintro(h|h|h)
      ·exact .inl (.inl h)
      ·exact .inl (.inr h)
      ·exact .inr h
     ·rintro((h|h)|h)
      ·exact .inl h
      ·exact .inr (.inl h)
      ·exact .inr (.inr h)
theorem Hw(l:List au)(q:au)(hl:PW l)(hf:nF q=true):(q∈l/\vY l q=none)\/(q ∉ l/\∃m,vY l q=some m/\PW m/\∀x,x∈m↔x=q\/x∈l):=by
 by_cases hm:q∈l
 ·grind [vY]
 ·refine .inr ⟨hm,_,by unfold vY;rw[bp ⟨hf,hm⟩],?_,λx=>?_⟩
  ·have hs:=rO.1 hl;unfold PW;rw[A3];have aa:=hl;unfold PW at aa;refine⟨aa.sublist (List.take_sublist _ _),?_,?_⟩
   ·rw[fk];refine⟨λz hz=>?_,aa.sublist (List.drop_sublist _ _)⟩;obtain⟨j,hj,rfl⟩:=jD hz;rw[hA]at hj;rw[List.getElem_drop];have h1:=IU l q ae;have h3:dx q l[ho l q]=true:=by
     cases h4:dx q l[ho l q]
     ·grind [Ip]
     ·rfl
    by_cases e:j=0
    ·simp_all
    ·exact kg h3 (hs (ho l q) (ho l q+j) ae ae)
   ·intro y hy z hz;obtain⟨i,hi,rfl⟩:=jD hy;rw[ey]at hi;rw[List.getElem_take];have h1:dx l[i] q=true:=OT i ae ae;rcases Aak.1 hz with e|hz
    ·simp_all
    ·obtain⟨j,hj,rfl⟩:=jD hz;rw[hA]at hj;rw[List.getElem_drop];exact hs i (ho l q+j) ae ae
  ·rw[Aa3,Aak];have:x∈l↔x∈l.take (ho l q)\/x∈l.drop (ho l q):=by rw[<-Aa3,fO]
   grind
def ca(C:List cQ)(q:au):List au:=(node8 C q).getD eg
def e5(C:List cQ)(root:au)(a:Nat):au:=if a=0 then root else if a<9 then bB (ca C root) (a-1)else bB (ca C (bB (ca C root) ((a-9)/8))) ((a-9)%8)
def Bz(a:Nat):Nat:=if a<9 then 0 else 1+(a-9)/8
structure eH(C:List cQ)(root:au):Prop where
 p5:root.wf/\cw root=true
 node:∀a,a<9->(node8 C (e5 C root a)).isSome=true
 e6:∀a,9<=a->a<73->(fM C (e5 C root a)).isSome=true
 aV:∀a,0<a->a<73->(e5 C root a).aV<=(e5 C root (Bz a)).aV
 inj:∀a b,a<73->b<73->e5 C root a=e5 C root b->e5 C root a≠hole->a=b
def gC(C:List cQ)(root p:au):Prop:=p≠hole/\∃a,a<73/\e5 C root a=p
theorem oY(C:List cQ):node8 C hole=some eg:=aA
theorem o1(C:List cQ):ca C hole=eg:=aA
theorem kW(k:Nat):bB eg k=hole:=by grind [bB,eg]
theorem eN(C:List cQ)(root:au)(hk:k<8):e5 C root (1+k)=bB (ca C root) k:=by grind [e5]
theorem lA(C:List cQ)(root:au)(hi:i<64):e5 C root (9+i)=bB (ca C (e5 C root (1+i/8))) (i%8):=by grind [eN,e5]
theorem lY(C:List cQ)(a:Nat):e5 C hole a=hole:=by simp[e5,o1,kW]
theorem td{q:au}{l:List au}(h:node8 C q=some l):ca C q=l:=by grind [ca]
theorem Lk(C:List cQ)(q:au)(k:Nat):(bB (ca C q) k).wf/\cw (bB (ca C q) k)=true:=by
 unfold ca;cases h:node8 C q with
 | none=>simp[kW,lP]
 | some l=>grind [bB,lP,l']
theorem SC{root:au}(h:root.wf/\cw root=true)(a:Nat):(e5 C root a).wf/\cw (e5 C root a)=true:=by grind [e5,Lk]
theorem Tp{p:au}(h:cw p=true)(hn:p≠hole):4<=p.loc/\p.loc<1024/\1<=p.aV/\p.aV<=281474976710655:=by grind [cw]
section
variable {C C':List cQ} {root:au}
theorem eH.nodeAt(T:eH C root){a:Nat}(ha:a<9):node8 C (e5 C root a)=some (ca C (e5 C root a)):=by obtain⟨l,hl⟩:=Option.isSome_iff_exists.mp (T.node a ha);grind [td]
theorem eH.F(T:eH C root):node8 C root=some (ca C root):=T.nodeAt (a:=0) ae
theorem eH.S(T:eH C root){k:Nat}(hk:k<8):node8 C (bB (ca C root) k)=some (ca C (bB (ca C root) k)):=by have:=T.nodeAt (a:=1+k) ae;grind [eN]
def GC(T:eH C root):κ (ca C root)=8:=dm T.F
theorem eH.get(T:eH C root){i:Nat}(hi:i<64):∃s,Tn C root i=some s/\fM C (e5 C root (9+i))=some s:=by obtain⟨s,hs⟩:=Option.isSome_iff_exists.mp (T.e6 (9+i) ae ae);refine⟨s,?_,hs⟩;unfold Tn;rw[T.F,ql,T.S ae,ql];grind [lA,eN]
theorem gC.p5(T:root.wf/\cw root=true){p:au}(h:gC C root p):p.wf/\cw p=true:=by obtain⟨_,a,_,rfl⟩:=h;exact SC T a
def gC.loc(T:eH C root){p:au}(h:gC C root p):4<=p.loc/\p.loc<1024/\1<=p.aV/\p.aV<=281474976710655:=Tp (h.p5 T.p5).2 h.1
theorem eH.abK(T:eH C root){a:Nat}(ha:a<73):(e5 C root a).aV<=root.aV:=by
 by_cases h0:a=0
 ·subst h0;exact aE _
 ·have h1:=T.aV a ae ha;by_cases h9:a<9
  ·unfold Bz at h1;rw[bp h9]at h1;exact h1
  ·unfold Bz at h1;rw[aO h9]at h1;have h2:=T.aV (1+(a-9)/8) ae ae;unfold Bz at h2;rw[bp ae]at h2;exact bO h1 h2
theorem Pm(h:∀a,a<9->e5 C root a≠hole->C'[(e5 C root a).loc.toNat]?=C[(e5 C root a).loc.toNat]?)(a:Nat)(ha:a<73):e5 C' root a=e5 C root a:=by
 have N:∀a,a<9->node8 C' (e5 C root a)=node8 C (e5 C root a):=λa h9=>by grind [e5,hole,oY,nn]
 have O:∀a,a<9->ca C' (e5 C root a)=ca C (e5 C root a):=λa h9=>by unfold ca;rw[N a h9]
 have e0:ca C' root=ca C root:=O 0 ae;by_cases h0:a=0
 ·subst h0;rfl
 ·by_cases h9:a<9
  ·have e:a=1+(a-1):=by omega
   grind [eN]
  ·have e:a=9+(a-9):=by omega
   grind [e5,eN,lA]
theorem eH.congr(T:eH C root)(h:∀p,gC C root p->C'[p.loc.toNat]?=C[p.loc.toNat]?):eH C' root/\(∀a,a<73->e5 C' root a=e5 C root a)/\(∀a,a<73->fM C' (e5 C root a)=fM C (e5 C root a)):=by
 have H:∀a,a<73->e5 C root a≠hole->C'[(e5 C root a).loc.toNat]?=C[(e5 C root a).loc.toNat]?:=λa ha hh=>h _ ⟨hh,a,ha,rfl⟩;have E:=Pm (C:=C) (C':=C') (root:=root) (λa h9=>H a ae);have B:∀a,a<73->fM C' (e5 C root a)=fM C (e5 C root a):=λa ha=>by grind [e5,hole,j6,lZ]
 refine⟨⟨T.p5,λa ha=>?_,λa h9 ha=>?_,λa h0 ha=>?_,λa b ha hb=>?_⟩,E,B⟩
 ·rw[E a ae];by_cases hh:e5 C root a=hole
  ·grind [oY]
  ·rw[nn (H a ae hh)];exact T.node a ha
 ·rw[E a ha,B a ha];exact T.e6 a h9 ha
 ·rw[E a ha,E (Bz a) (by grind [Bz])];exact T.aV a h0 ha
 ·rw[E a ha,E b hb];exact T.inj a b ha hb
theorem gC.congr{p:au}(E:∀a,a<73->e5 C' root a=e5 C root a):gC C' root p↔gC C root p:=by grind [gC]
theorem Qi(C:List cQ):eH C hole:=by
 refine⟨lP,λa _=>?_,λa _ _=>?_,λa _ _=>?_,λa b _ _ _ hn=>absurd (lY C a) hn⟩
 ·rw[lY,oY];rfl
 ·rw[lY,j6];rfl
 ·simp[lY]
theorem Ay(C:List cQ)(p:au):¬gC C hole p:=λ⟨hn,a,_,h⟩=>hn (by grind [lY])
theorem DF{C:List cQ}{i st sm:Nat}{L:List au}(hi:4<=i)(hc:C[i]?=some (dG L))(hl:κ L=8)(hw:∀x∈L,x.wf)(hg:jy L=true)(aa:sm=eP (dG L)):node8 C ⟨(i:Int),st,sm⟩=some L:=by
 have hh:(⟨(i:Int),st,sm⟩:au)≠hole:=λe=>by have:(i:Int)=0:=ct au.loc e;omega
 obtain⟨hlt,ab⟩:=List.getElem?_eq_some_iff.mp hc;have hb:fM C ⟨(i:Int),st,sm⟩=some (dG L):=by unfold fM;simp_all
 grind [node8,rE,xO]
theorem Xd{C:List cQ}{i st sm:Nat}{b:cQ}(hi:4<=i)(hc:C[i]?=some b)(aa:sm=eP b):fM C ⟨(i:Int),st,sm⟩=some b:=by
 have hh:(⟨(i:Int),st,sm⟩:au)≠hole:=λe=>by have:(i:Int)=0:=ct au.loc e;omega
 unfold fM;simp_all
end
def w7(C:List cQ)(root:au)(i:Nat)(t m b:au)(a:Nat):au:=if a=0 then t else if a=1+i/8 then m else if a=9+i then b else e5 C root a
structure Hu(C C':List cQ)(root:au)(i st:Nat)(t m b:au):Prop where
 at_:∀a,a<73->e5 C' t a=w7 C root i t m b a
 node:∀a,a<9->(node8 C' (w7 C root i t m b a)).isSome=true
 e6:(fM C' b).isSome=true
 TH:∀p,gC C root p->C'[p.loc.toNat]?=C[p.loc.toNat]?
 p5:t.wf/\cw t=true
 nt:t≠hole->t.aV=st/\¬gC C root t
 nm:m≠hole->m.aV=st/\¬gC C root m
 nb:b≠hole->b.aV=st/\¬gC C root b
 hm:t=hole->m=hole
 hb:m=hole->b=hole
 tm:t≠hole->t≠m
 tb:t≠hole->t≠b
 mb:m≠hole->m≠b
 top:t=hole->∀a,a<73->a≠0->a≠1+i/8->a≠9+i->e5 C root a=hole
 mid:m=hole->∀a,9<=a->a<73->(a-9)/8=i/8->a≠9+i->e5 C root a=hole
section
variable {C C':List cQ} {root t m b:au} {i st:Nat}
theorem Hu.tree(U:Hu C C' root i st t m b)(T:eH C root)(hi:i<64)(aF:∀p,gC C root p->p.aV<=st):eH C' t:=by
 have B:∀a,a<73->(e5 C root a).aV<=st:=λa ha=>by
  by_cases h:e5 C root a=hole
  ·rw[h];exact bG _
  ·exact aF _ ⟨h,a,ha,rfl⟩
 have aa:hole.aV=0:=rfl;refine⟨U.p5,λa ha=>?_,λa h9 ha=>?_,λa h0 ha=>?_,λa c ha hc e hn=>?_⟩
 ·rw[U.at_ a ae];exact U.node a ha
 ·rw[U.at_ a ha];unfold w7;rw[aO ae,aO ae];split
  ·exact U.e6
  ·by_cases h:e5 C root a=hole
   ·grind [j6]
   ·rw[lZ (U.TH _ ⟨h,a,ha,rfl⟩)];exact T.e6 a h9 ha
 ·rw[U.at_ a ha,U.at_ (Bz a) (by grind [Bz])];by_cases hu:w7 C root i t m b a=hole
  ·simp_all
  have ht:t≠hole:=λe=>by
   apply hu;unfold w7;rw[aO ae];split
   ·exact U.hm e
   ·split
    ·exact U.hb (U.hm e)
    ·exact U.top e a ha ae ae ae
  have le:(w7 C root i t m b a).aV<=st:=by
   unfold w7 at hu ⊢;rw[aO ae]at hu ⊢;split at hu
   ·rename_i h;rw[bp h];exact y3 (U.nm hu).1
   ·rename_i h;rw[aO h];split at hu
    ·rename_i h;rw[bp h];exact y3 (U.nb hu).1
    ·simp_all
  by_cases h9:a<9
  ·have e:Bz a=0:=bp h9;rw[e,show w7 C root i t m b 0=t from bp rfl,(U.nt ht).1];exact le
  ·have e:Bz a=1+(a-9)/8:=aO h9;rw[e];by_cases hq:(a-9)/8=i/8
   ·have e2:w7 C root i t m b (1+(a-9)/8)=m:=by grind [w7]
    have hm:m≠hole:=λe3=>by
     apply hu;unfold w7;rw[aO ae,aO ae];split
     ·exact U.hb e3
     ·exact U.mid e3 a ae ha hq ae
    rw[e2,(U.nm hm).1];exact le
   ·have e2:w7 C root i t m b (1+(a-9)/8)=e5 C root (1+(a-9)/8):=by grind [w7]
    have e3:w7 C root i t m b a=e5 C root a:=by grind [w7]
    rw[e2,e3];have:=T.aV a h0 ha;simp_all
 ·rw[U.at_ a ha]at e hn;rw[U.at_ c hc]at e;have I:∀a,a<73->a≠0->a≠1+i/8->a≠9+i->e5 C root a≠hole->gC C root (e5 C root a):=λa ha _ _ _ h=>⟨h,a,ha,rfl⟩;obtain⟨J,It,Im,Ib,h1,h2⟩:=sk (T.inj a c ha hc) U.nt U.nm U.nb U.tm U.tb;have h3:=U.mb;grind [w7]
theorem Hu.mem(U:Hu C C' root i st t m b)(T:eH C root)(hi:i<64)(p:au):gC C' t p↔p≠hole/\(p=t\/p=m\/p=b\/(gC C root p/\p≠root/\p≠e5 C root (1+i/8)/\p≠e5 C root (9+i))):=by
 constructor
 ·rintro⟨hn,a,ha,e⟩;rw[U.at_ a ha]at e;refine⟨hn,?_⟩;by_cases h0:a=0
  ·subst h0;exact .inl (e.symm.trans (bp rfl))
  by_cases h1:a=1+i/8
  ·grind [w7]
  by_cases h2:a=9+i
  ·grind [w7]
  have e3:e5 C root a=p:=by grind [w7]
  refine .inr (.inr (.inr ⟨⟨hn,a,ha,e3⟩,λe4=>h0 ?_,λe4=>h1 ?_,λe4=>h2 ?_⟩))
  ·exact T.inj a 0 ha ae (e3.trans e4) aa
  ·exact T.inj a _ ha ae (e3.trans e4) aa
  ·exact T.inj a _ ha ae (e3.trans e4) aa
 ·rintro⟨hn,h⟩;refine⟨hn,?_⟩;rcases h with rfl|rfl|rfl|⟨⟨_,a,ha,e⟩,n0,n1,n2⟩
  ·exact⟨0,ae,rfl⟩
  ·exact⟨1+i/8,ae,by rw[U.at_ _ ae];unfold w7;rw[aO ae,bp rfl]⟩
  ·exact⟨9+i,ae,by rw[U.at_ _ ae];unfold w7;rw[aO ae,aO ae,bp rfl]⟩
  ·refine⟨a,ha,?_⟩;rw[U.at_ a ha];unfold w7;rw[aO (λe0=>n0 (by rw[<-e,e0];rfl)),aO (λe0=>n1 aa),aO (λe0=>n2 aa)];exact e
theorem Hu.read(U:Hu C C' root i st t m b)(hi:i<64){j:Nat}(hj:j<64):fM C' (e5 C' t (9+j))=if j=i then fM C' b else fM C (e5 C root (9+j)):=by
 rw[U.at_ _ ae];unfold w7;rw[aO ae,aO ae];by_cases h:j=i
 ·simp_all
 ·rw[aO ae,aO h];by_cases hh:e5 C root (9+j)=hole
  ·grind [j6]
  ·exact lZ (U.TH _ ⟨hh,_,ae,rfl⟩)
end
structure ss(P:bz)(root:au):Prop where
 ok:eH P.C root
 tk:∀p,gC P.C root p->P.s p.loc.toNat=2
structure Ep(P:bz):Prop where
 free:∀j,P.s j=1->4<=j/\j<κ P.C
 len:κ P.C<=1024
 st:1<=P.st/\P.st<=281474976710655
theorem DU{l:List au}(hk:k<κ l)(p:au)(j:Nat):bB (l.set k p) j=if j=k then p else bB l j:=by grind [bB]
section
variable {P:bz} {root:au} {i:Nat}
theorem new_ne{p:au}(I:ss P root){k:Nat}(hk:P.s k=1)(h:gC P.C root p):p.loc.toNat≠k:=λe=>by have:=I.tk p h;rw[e,hk]at this;omega
theorem Vx{k st sm:Nat}(h4:4<=k):(⟨(k:Int),st,sm⟩:au)≠hole:=λe=>by have:(k:Int)=0:=ct au.loc e;omega
theorem GB(I:ss P root){k st sm:Nat}(hk:P.s k=1):¬gC P.C root ⟨(k:Int),st,sm⟩:=λh=>by have:=new_ne I hk h;exact this (Abr k)
theorem JW(C:List cQ)(root:au){i a:Nat}(h9:9<=a)(ha:a<73)(hq:(a-9)/8=i/8):e5 C root a=bB (ca C (bB (ca C root) (i/8))) ((a-9)%8):=by have:=lA C root (i:=a-9) ae;grind [eN]
theorem Ys(I:ss P root)(K:Ep P)(hi:i<64)(b:cQ){i1 i2 i3:Nat}(h1:P.s i1=1)(h2:fW P.s i1 2 i2=1)(h3:fW (fW P.s i1 2) i2 2 i3=1){F S F' S':List au}(hF:F=ca P.C root)(hS:S=ca P.C (bB F (i/8))){p1 p2 p3:au}(e1:p1=⟨(i1:Int),P.st,eP b⟩)(eS:S'=S.set (i%8) p1)(e2:p2=⟨(i2:Int),P.st,eP (dG S')⟩)(eF:F'=F.set (i/8) p2)(e3:p3=⟨(i3:Int),P.st,eP (dG F')⟩):Hu P.C (((P.put i1 b).put i2 (dG S')).put i3 (dG F')).C root i P.st p3 p2 p1/\i1≠i2/\i1≠i3/\i2≠i3/\P.s i2=1/\P.s i3=1/\fM (((P.put i1 b).put i2 (dG S')).put i3 (dG F')).C p1=some b:=by
 have n12:i1≠i2:=λe=>by unfold fW at h2;rw[bp e.symm]at h2;omega
 have s2:P.s i2=1:=by grind [fW]
 have n23:i2≠i3:=λe=>by unfold fW at h3;rw[bp e.symm]at h3;omega
 have n13:i1≠i3:=λe=>by unfold fW at h3;rw[aO (λe2=>n23 e2.symm),bp e.symm]at h3;omega
 have s3:P.s i3=1:=by grind [fW]
 obtain⟨a1,b1⟩:=K.free i1 h1;obtain⟨a2,b2⟩:=K.free i2 s2;obtain⟨a3,b3⟩:=K.free i3 s3;have hl:=K.len;obtain⟨C',ab⟩:∃C',C'=(((P.put i1 b).put i2 (dG S')).put i3 (dG F')).C:=⟨_,rfl⟩;have hC:C'=((P.C.set i1 b).set i2 (dG S')).set i3 (dG F'):=ab;have c1:C'[i1]?=some b:=aP
 have c2:C'[i2]?=some (dG S'):=aP
 have c3:C'[i3]?=some (dG F'):=aP
 have co:∀k,k≠i1->k≠i2->k≠i3->C'[k]?=P.C[k]?:=λk x1 x2 x3=>aP
 rw[<-ab];clear hC ab;have g1:=mh a1 ae K.st.1 K.st.2 b;have g2:=mh a2 ae K.st.1 K.st.2 (dG S');have g3:=mh a3 ae K.st.1 K.st.2 (dG F');rw[<-e1]at g1;rw[<-e2]at g2;rw[<-e3]at g3;have lF:κ F=8:=by rw[hF];exact GC I.ok
 have nS:=I.ok.S (k:=i/8) ae;rw[<-hF,<-hS]at nS;have lS:κ S=8:=dm nS;have nF:=I.ok.F;rw[<-hF]at nF;obtain⟨gS,gF⟩:=az (nc (l' nS) g1 (i%8)) (nc (l' nF) g2 (i/8));rw[<-eS]at gS;rw[<-eF]at gF;have ag:κ S'=8:=aa
 have ad:κ F'=8:=aa
 have N3:node8 C' p3=some F':=by grind [DF]
 have N2:node8 C' p2=some S':=by grind [DF]
 have B1:fM C' p1=some b:=by grind [Xd]
 have TH:∀p,gC P.C root p->C'[p.loc.toNat]?=P.C[p.loc.toNat]?:=λp hp=>co _ (new_ne I h1 hp) (new_ne I s2 hp) (new_ne I s3 hp);have NK:∀k,k<8->node8 C' (bB F k)=node8 P.C (bB F k):=λk hk=>by
  have e:e5 P.C root (1+k)=bB F k:=by grind [eN]
  by_cases hh:bB F k=hole
  ·grind [oY]
  ·exact nn (TH _ ⟨hh,1+k,ae,e⟩)
 have A1:∀k,k<8->e5 C' p3 (1+k)=if k=i/8 then p2 else bB F k:=λk hk=>by grind [eN,td,DU]
 have A:∀a,a<73->e5 C' p3 a=w7 P.C root i p3 p2 p1 a:=λa ha=>by
  unfold w7;by_cases h0:a=0
  ·rw[bp h0,h0];rfl
  rw[aO h0];by_cases h9:a<9
  ·have:=A1 (a-1) ae;grind [eN]
  ·have:=lA C' p3 (i:=a-9) ae;rw[show 9+(a-9)=a from ae,A1 _ ae]at this;rw[this,aO (show ¬a=1+i/8 from ae)];by_cases hq:(a-9)/8=i/8
   ·grind [td,DU,JW]
   ·rw[aO hq,aO (show ¬a=9+i from λh=>hq ae)];have e:=lA P.C root (i:=a-9) ae;grind [eN,ca]
 have aR:p1≠hole:=rk
 have aJ:p2≠hole:=rk
 have aN:p3≠hole:=rk
 refine⟨⟨A,λa ha=>?_,aa,TH,g3,λ_=>⟨aa,by grind [GB]⟩,λ_=>⟨aa,by grind [GB]⟩,λ_=>⟨aa,by grind [GB]⟩,λh=>absurd h aN,λh=>absurd h aJ,λ_ e=>?_,λ_ e=>?_,λ_ e=>?_,λh=>absurd h aN,λh=>absurd h aJ⟩,n12,n13,n23,s2,s3,B1⟩
 ·unfold w7;by_cases h0:a=0
  ·simp_all
  rw[aO h0];by_cases hq:a=1+i/8
  ·simp_all
  rw[aO hq,aO ae];have e:=eN P.C root (k:=a-1) ae;rw[show 1+(a-1)=a from ae,<-hF]at e;rw[e,NK _ ae,<-e];exact I.ok.node a ha
 ·grind
 ·grind
 ·grind
end
section
variable {P:bu} {ops:Array Abi} {S:af->Prop} {md:Ab1} {Q:Exit->Act->af->Prop} {t1 t2:Aab} {C1 C2:Array ah} {Ok:Nat->Prop} {r:Nat} {x:af} {o o1 o2:Abi}
end
section
open Go.Maps
abbrev pM:=au × Bool
def Cw(x:pM):Array ah:=#[.int .i64 x.1.loc,.int .u64 (x.1.aV:Int),.int .u32 (x.1.sum:Int),.bool x.2]
theorem X2(x:pM):(Cw x).all (·.oneCell')=true:=by simp[Cw,Ac9]
theorem vU:∀W:af,(Ab9 134).run Aag W=.ok (.agg (Cw (hole,false))) W:=by simp[Cw,hole]
theorem SM(q:au)(b:Bool):prog.built 134 [(0,.agg (a6 q)),(1,.bool b)]=some (Cw (q,b)):=al
abbrev Ss:=Int × Int × Int × Bool
def aah(c:Ss):Array ah:=#[.int .i64 c.1,.int .u64 c.2.1,.int .u32 c.2.2.1,.bool c.2.2.2]
def Aj(c:Ss):DataW Unit:=.agg [.lit (.int .i64 c.1),.lit (.int .u64 c.2.1),.lit (.int .u32 c.2.2.1),.lit (.bool c.2.2.2)]
def BK(x:pM):Ss:=(x.1.loc,((x.1.aV:Int),((x.1.sum:Int),x.2)))
def RM:ah->Option (DataW Unit × List MemPlace)
 | .agg ⟨[.int .i64 a,.int .u64 b,.int .u32 c,.bool d]⟩=>some (Aj (a,b,c,d),[])
 | _=>none
theorem Er{v:ah}{y:DataW Unit × List MemPlace}(h:RM v=some y):∃c,v=.agg (aah c)/\y=(Aj c,[]):=by
 unfold RM at h;split at h
 ·cases h;exact⟨(_,_,_,_),rfl,rfl⟩
 ·cases h
theorem Ak{c d:Ss}(h:Aj c=Aj d):c=d:=by grind [Aj]
def nZ:Keyed Aag 3:=int_keyed underlying3
theorem ZU{i:Int}(h:0<=i/\i<=4096):(Lit.int .i64 i).wf=true:=WalkArith.wf_i64 ae
def EX{i:Int}(h:0<=i/\i<=4096):keyOf Aag 3 (.int .i64 i)=some (.int .i64 i):=keyOf_int_mk underlying3 (ZU h)
theorem Il(j:Int):WideAt.IsKeyLit (.int .i64 j):=by unfold WideAt.IsKeyLit;trivial
structure Marks(w:af)(b n:Nat)(L:List pM):Prop where
 nd:(L.map (·.1.loc)).Nodup
 rg:∀x∈L,0<=x.1.loc/\x.1.loc<=4096
 ex:∃D:DataW Unit,w.ownsMap Aag 3 RM b n D/\(∀i:Int,has D (.int .i64 i)=decide (∃x∈L,x.1.loc=i))/\∀x∈L,∀zd,D.atKey (.int .i64 x.1.loc) zd=Aj (BK x)
section
variable {w w':af} {b n:Nat} {L:List pM}
theorem Marks.made(w:af):Marks (w.alloc (.map #[] 0)) w.heap.size 0 []:=⟨Abx,aq,.map [],Fu w _ _ _,λi=>aA,aq⟩
theorem Marks.lt(h:Marks w b n L):b<w.heap.size:=by obtain⟨D,h,_⟩:=h.ex;exact h.lt
theorem Marks.heap(h:Marks w b n L)(e:w'.heap[b]?=w.heap[b]?):Marks w' b n L:=by obtain⟨D,⟨es,clock,hb,F,hs,hD⟩,h1,h2⟩:=h.ex;exact⟨h.nd,h.rg,D,⟨es,clock,e.trans hb,F,hs,hD⟩,h1,h2⟩
theorem Marks.ax{F:Nat->Prop}(h:Marks w b n L)(T:Touch F w w')(hF:¬F b):Marks w' b n L:=h.heap (T.block b h.lt hF)
def Marks.up(h:Marks w b n L)(u:Up w w'):Marks w' b n L:=h.heap (oH u b h.lt)
theorem Marks.map(h:Marks w b n L):∃es c,w.heap[b]?=some (.map es c):=by obtain⟨D,⟨es,clock,hb,_⟩,_⟩:=h.ex;simp_all
theorem Marks.mono{n':Nat}(h:Marks w b n L)(hn:n<=n'):Marks w b n' L:=by obtain⟨D,ho,h1,h2⟩:=h.ex;exact⟨h.nd,h.rg,D,ho.mono hn,h1,h2⟩
theorem Vk{w:af}{g:Nat}{t:Aab}{x:pM}(h:aI w g t (Cw x)):w.rangeAt g 0 (a6 x.1).toList:=λj v hj=>by
 rw[h.cell,Abn];match j,hj with
 | 0,hj=>exact hj
 | 1,hj=>exact hj
 | 2,hj=>exact hj
 | (k+3),hj=>simp[a6]at hj
theorem Marks.add(h:Marks w b n L)(hn:n<maxLen)(q:pM)(hq:∀x∈L,x.1.loc≠q.1.loc)(hr:0<=q.1.loc/\q.1.loc<=4096):∃w',(Instr.mapUpdate 129 (.map (some b)) (.int .i64 q.1.loc) (.agg (Cw q))).run Aag w=.ok () w'/\Marks w' b (n+1) (L++[q])/\w.grownBy w' (some b):=by
 obtain⟨D,ho,h1,h2⟩:=h.ex;obtain⟨w',ay,av,hg⟩:=ho.update nZ underlying129 hn (EX hr) (val:=.agg (Cw q)) (d:=Aj (BK q)) (ps:=[]) rfl;have ne:∀i:Int,i≠q.1.loc->(Lit.int .i64 i)≠.int .i64 q.1.loc:=λi hi e=>hi aa;refine⟨w',ay,⟨?_,?_,_,av,λi=>?_,λx hx zd=>?_⟩,hg⟩
 ·rw[Aao];refine List.nodup_append.mpr ⟨h.nd,aq,λa ha c hc e=>?_⟩;grind
 ·intro x hx;rcases List.mem_append.mp hx with h3|h3
  ·exact h.rg x h3
  ·simp_all
 ·by_cases e:i=q.1.loc
  ·subst e;rw[has_put_same ho.isMap (Il _)];simp
  ·rw[has_put_other (ne i e),h1 i];simp;omega
 ·rcases List.mem_append.mp hx with h3|h3
  ·rw[atKey_put_other (ne _ (hq x h3)),h2 x h3]
  ·rw[show x=q from aa];exact atKey_put_same ho.isMap (Il _) _ _
variable {ops:Array Abi} {rest:List Abi} {o:Abi} {a:Act} {Q:Exit->Act->af->Prop}
theorem RZ(hg:o.guard=none)(m x:bR)(hop:o.op=Op.lookup 129 m x true)(hm:a.eval m=.map (some b))(h:Marks w b n L)(q:pM)(hq:q∈L)(hx:a.eval x=i6 q.1.loc)(hK:Aam Aag ops Q rest (a.put o.dst (.tuple #[.agg (Cw q),.bool true])) w):Aam Aag ops Q (o::rest) a w:=by obtain⟨D,ho,h1,h2⟩:=h.ex;refine wpList_lookup_own_ok w hg m x _ hop _ _ nZ underlying129 RM (vU w) (Aj (BK (hole,false))) [] rfl b n D hm ho _ _ hx (EX (h.rg q hq)) (λv ps hv=>?_);obtain⟨c,rfl,hc⟩:=Er hv;rw[h2 q hq]at hc;simp only[Adh]at hc;rw[<-Ak hc.1,h1,fm ⟨q,hq,rfl⟩];exact hK
theorem RY(hg:o.guard=none)(m x:bR)(hop:o.op=Op.lookup 129 m x true)(hm:a.eval m=.map (some b))(h:Marks w b n L)(i:Int)(hi:0<=i/\i<=4096)(hn:∀x∈L,x.1.loc≠i)(hx:a.eval x=.int .i64 i)(hK:Aam Aag ops Q rest (a.put o.dst (.tuple #[.agg (Cw (hole,false)),.bool false])) w):Aam Aag ops Q (o::rest) a w:=by
 obtain⟨D,ho,h1,h2⟩:=h.ex;have hf:has D (.int .i64 i)=false:=aP
 refine wpList_lookup_own_ok w hg m x _ hop _ _ nZ underlying129 RM (vU w) (Aj (BK (hole,false))) [] rfl b n D hm ho _ _ hx (EX hi) (λv ps hv=>?_);obtain⟨c,rfl,hc⟩:=Er hv;rw[atKey_of_not_has hf]at hc;simp only[Adh]at hc;rw[<-Ak hc.1,hf];exact hK
theorem YS(hg:o.guard=none)(m x v:bR)(hop:o.op=Op.mapUpdate 129 m x v)(hm:a.eval m=.map (some b))(h:Marks w b n L)(hn:n<maxLen)(q:pM)(hq:∀x∈L,x.1.loc≠q.1.loc)(hr:0<=q.1.loc/\q.1.loc<=4096)(hx:a.eval x=i6 q.1.loc)(hv:a.eval v=.agg (Cw q))(hK:∀w',Marks w' b (n+1) (L++[q])->w.grownBy w' (some b)->Aam Aag ops Q rest (a.put o.dst Aat) w'):Aam Aag ops Q (o::rest) a w:=by refine h' hg λK' hK'=>?_;obtain⟨w',hrun,r1,r2⟩:=h.add hn q hq hr;exact N1
end
def nk(own:Bool)(L:List pM)(q:au):List pM:=if ∃x∈L,x.1.loc=q.loc then L else L++[(q,own)]
def h3(own:Bool)(L:List pM)(ps:List au):List pM:=ps.foldl (nk own) L
theorem Iv(own:Bool)(L:List pM)(ps:List au)(q:au):h3 own L (ps++[q])=nk own (h3 own L ps) q:=by simp[h3]
theorem oU{own:Bool}:∀{ps:List au}{L:List pM}{x:pM},x∈h3 own L ps->x∈L\/(x.1∈ps/\x.2=own)
 | [],_,_,h=>.inl h
 | q::ps,L,x,h=>by
  rcases oU (ps:=ps) (L:=nk own L q) h with h|⟨h,h2⟩
  ·unfold nk at h;split at h
   ·exact .inl h
   ·rcases List.mem_append.mp h with h|h
    ·exact .inl h
    ·have:x=(q,own):=by simpa using h
     rw[this];exact .inr ⟨aq,rfl⟩
  ·exact .inr ⟨bn _ h,h2⟩
theorem kT{own:Bool}:∀{ps:List au}{L:List pM}{x:pM},x∈L->x∈h3 own L ps
 | [],_,_,h=>h
 | q::ps,L,x,h=>kT (ps:=ps) (L:=nk own L q) (by unfold nk;split;exact h;exact nK _ h)
theorem s6{own:Bool}:∀{ps:List au}{L:List pM}{q:au},q∈ps->∃x∈h3 own L ps,x.1.loc=q.loc
 | p::ps,L,q,h=>by
  rcases List.mem_cons.mp h with rfl|h
  ·by_cases hc:∃x∈L,x.1.loc=q.loc
   ·obtain⟨x,hx,e⟩:=hc;exact⟨x,kT (ps:=q::ps) hx,e⟩
   ·have:(q,own)∈nk own L q:=by unfold nk;rw[aO hc];simp
    exact⟨(q,own),kT (ps:=ps) this,rfl⟩
  ·exact s6 (ps:=ps) (L:=nk own L p) h
structure Sk(L:List pM)(ps:List au):Prop where
 old:∀x∈L,∀q∈ps,x.1.loc=q.loc->x.1=q
 new:∀p∈ps,∀q∈ps,p.loc=q.loc->p=q
 rg:∀q∈ps,0<=q.loc/\q.loc<=4096
theorem Sk.at{L:List pM}{ps:List au}(F:Sk L ps){own:Bool}(hk:k<κ ps){x:pM}(hx:x∈h3 own L (ps.take k))(e:x.1.loc=ps[k].loc):x.1=ps[k]:=by
 rcases oU hx with h|⟨h,_⟩
 ·exact F.old x h _ (cm hk) e
 ·exact F.new _ (sN h) _ (cm hk) e
end
section
open Go.Maps
theorem DV(w:af)(b n:Nat)(L:List pM)(A:Marks w b n L)(v:ah)(ps:List au)(hv:c9 w v ps)(hn:n+κ ps<=1000000)(F:Sk L ps)(own:Bool):Aaf Aag 59 #[.map (some b),v,.bool own] w λe w'=>e=.returned (.bool false)/\Marks w' b (n+κ ps) (h3 own L ps)/\Touch (·=b) w w':=by
 obtain⟨a,cap,rfl⟩:=hv.slice;obtain⟨HA,HV,HF,HN⟩:=bS A hv F hn;have aH:κ ps<=1000000:=ae
 clear A hv F hn;go_in;go_wp2_with fail;go_loopw [7,14] (λtw i wr=>∃k:Nat,k<=κ ps/\i=.int .i64 k/\tw=.bool false/\Marks wr b (n+k) (h3 own L (ps.take k))/\Touch (·=b) w wr) (λ_ i _=>κ ps-(Aaq i).toNat)
 case atStart=>exact⟨0,bG _,rfl,rfl,HA,Touch.refl _ _⟩
 case round=>
  obtain⟨k,hk,rfl,rfl,mr,tr⟩:=hrel;obtain⟨MR,TR⟩:=aw mr tr;clear mr tr;by_cases hlt:k<κ ps
  ·have b3:((k:Int)<(κ ps:Int))=True:=by simp;omega
   have NB:=an (show ∀c,Aan (.slice a (κ ps) cap)=some c->c≠b from λc hc e=>by subst e;obtain⟨bb,off,rfl,hbs,_,hx⟩:=HV.range pw ae;have h0:=hx k hlt;obtain⟨es,cl,hb⟩:=HA.map;have:=h0 0 (.int .i64 ps[k].loc) rfl;simp only[Aan,Aai]at hc;subst hc;simp[Aco,hb]at this)
   obtain⟨bb,off,rfl,hbs,_,hc⟩:=(aG.nP HV TR (λc hc e=>NB c hc e)).range pw ae;obtain⟨RC,TK,FA,RG,UX,BX⟩:=iC (hc k hlt) (show h3 own L (ps.take (k+1))=nk own (h3 own L (ps.take k)) ps[k] from by rw[eo hlt,Iv]) (λx (hx:x∈h3 own L (ps.take k)) (e:x.1.loc=ps[k].loc)=>HF.at hlt hx e) (HF.rg _ (cm hlt)) (ai wr (.cells (a6 ps[k]) 87)) (aI.new wr 87 (a6 ps[k]));generalize ps[k]=q at *;generalize aj:h3 own L (ps.take k)=LL at *;have c0:(wr.alloc (.cells (a6 q) 87)).cell? ⟨wr.heap.size,0,none⟩=some (.int .i64 q.loc):=BX.cell 0;clear hc aj;by_cases hm:∃x∈LL,x.1.loc=q.loc
   ·obtain⟨x,hx,ag⟩:=hm;have ad:=FA x hx ag;obtain⟨q',aa⟩:=x;have ad:q'=q:=ad;subst ad;obtain⟨HX,TM,MX,UY,BY⟩:=eQ hx (show nk own LL q'=LL from by unfold nk;rw[bp ⟨_,hx,rfl⟩]) (MR.up UX) (ai (wr.alloc (.cells (a6 q') 87)) (.cells (Cw (q',aa)) 134)) (aI.new (wr.alloc (.cells (a6 q') 87)) 134 (Cw (q',aa)));have EQ:∀W:af,(Ac3 10000 87 (.agg (a6 q')) (.agg (a6 q'))).run Aag W=.ok true W:=λW=>by have:=GP 9998 q' q' W;rw[fm rfl]at this;exact this
    obtain⟨w1,ay⟩:=bE (wr.alloc (.cells (a6 q') 87));have HW1:=an ay;rw[<-ay]at UX BX c0 MX UY BY;obtain⟨ab,SZ⟩:=aw (BX.up UY) (show w1.heap.size=wr.heap.size+1 from by rw[ay,aN]);clear hx ag ay;go_wp2_with(first
     | refine cM 87 16 (a6 q') RC ?_
     | refine bH 87 fh ?_
     | refine dX 87 9 17 wr (a6 q') 87 (a6 hole) ?_
     | ((with_reducible refine rY 3 (.tmp 20) ?_);refine ix ?_))
    rw[<-HW1.out];refine an ?_;go_wp2_with(first
     | (at_lookup;refine RZ rfl (.tmp 19) (.tmp 21) rfl rfl MX (q',aa) HX rfl ?_)
     | refine bH 134 vU ?_
     | refine dX 134 10 23 w1 (Cw (q',aa)) 134 (Cw (hole,false)) ?_
     | refine cM 87 33 (a6 q') (Vk BY) ?_
     | refine db 87 9 ab ?_)
    go_roundw
    case rel=>exact⟨k+1,ae,aq,rfl,by rw[TK.out,TM.out];exact(MX.up UY).mono ae,TR.iD (UX.trans UY)⟩
    case measure=>simp only[Aaq];omega
   ·obtain⟨HX,TM,MX,UY⟩:=bS (show ∀x∈LL,x.1.loc≠q.loc from λx hx e=>hm ⟨x,hx,e⟩) (show nk own LL q=LL++[(q,own)] from by unfold nk;rw[aO hm]) (MR.up UX) (ai (wr.alloc (.cells (a6 q) 87)) (.cells (Cw (hole,false)) 134));obtain⟨w1,ay⟩:=bE (wr.alloc (.cells (a6 q) 87));have HW1:=an ay;rw[<-ay]at UX BX c0 MX UY;obtain⟨MY,ab,SZ,BM⟩:=bS (MX.up UY) (BX.up UY) (show w1.heap.size=wr.heap.size+1 from by rw[ay,aN]) (SM q own);have c1:=UY.cell c0;clear hm ay;go_wp2_with(first
     | refine cM 87 16 (a6 q) RC ?_
     | refine bH 87 fh ?_
     | refine dX 87 9 17 wr (a6 q) 87 (a6 hole) ?_
     | ((with_reducible refine rY 3 (.tmp 20) ?_);refine ix ?_))
    rw[<-HW1.out];refine an ?_;go_wp2_with(first
     | (at_lookup;refine RY rfl (.tmp 19) (.tmp 21) rfl rfl MX q.loc RG HX rfl ?_)
     | refine bH 134 vU ?_
     | refine dX 134 10 23 w1 (Cw (hole,false)) 134 (Cw (hole,false)) ?_
     | refine db 87 9 ab ?_
     | ((with_reducible refine eR 134 #[(0,.tmp 30),(1,.tmp 31)] ?_);refine kG rfl 134 0 1 (.tmp 30) (.tmp 31) rfl _ _ (Cw (q,own)) BM rfl rfl ?_)
     | (at_mapUpdate;refine YS rfl (.tmp 27) (.tmp 29) (.tmp 32) rfl rfl MY (by have:=HN.out;unfold maxLen;omega) (q,own) HX RG rfl rfl ?_))
    intro w7 m7 g7;obtain⟨M7,T7⟩:=aw m7 ((TR.iD (UX.trans UY)).trans (Touch.be (F:=(·=b)) g7 (λkk aB=>by cases aB;rfl)) (λ_ h _=>h));clear m7 g7;go_wp2_with fail;go_roundw
    case rel=>exact⟨k+1,ae,aq,rfl,by rw[TK.out,TM.out];exact M7,T7⟩
    case measure=>simp only[Aaq];omega
  ·obtain rfl:k=κ ps:=by omega
   have b3:((κ ps:Int)<(κ ps:Int))=False:=aq
   go_wp2_with fail;go_ret;have:=MR.out;rw[fj]at this;exact⟨rfl,this,TR⟩
end
section
open Go.Maps
structure jw(w:af)(b r n:Nat)(D:DataW Unit)(L:List pM)(ks:List Int)(mL:Nat):Prop where
 rg:∃left,w.ranges Aag 3 RM b r n D left mL/\∀i:Int,left (.int .i64 i)=(has D (.int .i64 i) && !decide (i∈ks))
 nd:ks.Nodup
 sub:∀k∈ks,∃x∈L,x.1.loc=k
 hD:∀i:Int,has D (.int .i64 i)=decide (∃x∈L,x.1.loc=i)
 CF:∀x∈L,∀zd,D.atKey (.int .i64 x.1.loc) zd=Aj (BK x)
section
variable {w w':af} {b r n mL:Nat} {D:DataW Unit} {L:List pM} {ks:List Int}
theorem jw.left_eq(h:jw w b r n D L ks mL):w.rangeLeft b r=mL:=by obtain⟨left,h1,h2⟩:=h.rg;exact h1.left_eq
variable {ops:Array Abi} {rest:List Abi} {o:Abi} {a:Act} {Q:Exit->Act->af->Prop}
theorem R0(hg:o.guard=none)(m:bR)(hop:o.op=Op.range 129 m)(hm:a.eval m=.map (some b))(h:Marks w b n L)(hK:∀w' D mL,jw w' b w.heap.size n D L [] mL->w.grownBy w' none->w'.heap.size=w.heap.size+1->Aam Aag ops Q rest (a.put o.dst (pz w.heap.size)) w'):Aam Aag ops Q (o::rest) a w:=by obtain⟨D,ho,h1,h2⟩:=h.ex;refine wpList_range_own w hg m _ hop _ _ nZ underlying129 RM b n D hm ho (λw' hr aa hs=>?_);exact hK w' D _ ⟨⟨_,hr,λi=>aq⟩,Abx,aq,h1,h2⟩ aa hs
def Y2(w:af)(b r n:Nat)(D:DataW Unit)(L:List pM)(ks:List Int)(mL:Nat)(K:pM->af->Prop):Prop:=∀q∈L,q.1.loc ∉ ks->∀w' ab,jw w' b r n D L (ks++[q.1.loc]) ab->ab<mL->w.grownBy w' (some r)->w'.heap.size=w.heap.size->(Instr.entry (.pointer (some ⟨r,0,none⟩))).run Aag w'=.ok (.tuple #[.int .i64 q.1.loc,.agg (Cw q)]) w'->K q w'
theorem WM(hg:o.guard=none)(it:bR)(hop:o.op=Op.next it false)(ag:a.eval it=pz r)(h:jw w b r n D L ks mL)(aa:(∀k,k∈ks↔∃x∈L,x.1.loc=k)->Aam Aag ops Q rest (a.put o.dst (.tuple #[.bool false])) w)(ad:Y2 w b r n D L ks mL (λq w'=>Aam Aag ops Q rest (a.put o.dst (.tuple #[.bool true,.int .i64 q.1.loc,.agg (Cw q)])) w')):Aam Aag ops Q (o::rest) a w:=by
 obtain⟨left,h1,h2⟩:=h.rg;refine wpList_next_ranges w hg it hop _ nZ RM (Acd .i64) (λc:Ss=>.agg (aah c)) (λkey kl hk=>by obtain⟨x,e,_⟩:=keyOf_int_inv underlying3 hk;exact⟨x,e⟩) (λv y hv=>by grind [Er]) b r n D left mL ag h1 (λ_ hl=>?_) (λx c kl y w' ab hk hl hv CF hr hlt hgr hs ay=>?_)
 ·refine aa (λk=>⟨h.sub k,λhx=>?_⟩);have:=h2 k;rw[hl,h.hD,fm hx]at this;grind
 ·obtain⟨x',e,rfl,_⟩:=keyOf_int_inv underlying3 hk;cases e;have h3:=h2 x;rw[hl]at h3;have h5:=(Bool.and_eq_true_iff.mp h3.symm).1;rw[h.hD]at h5;obtain⟨q,hq,rfl⟩:=ia h5;have h6:q.1.loc ∉ ks:=by grind
  have hc:c=BK q:=by
   obtain⟨c',e1,e2⟩:=Er hv;have e3:y.1=Aj (BK q):=by rw[<-CF .nil,h.CF q hq]
   grind [aah,Ak]
  subst hc;refine ad q hq h6 w' ab ⟨⟨_,hr,λi=>?_⟩,?_,?_,h.hD,h.CF⟩ hlt hgr hs ay
  ·simp only[h2 i];by_cases hi:i=q.1.loc
   ·subst hi;simp[h6,Lit.sameKey]
   ·have e:(Lit.int .i64 i).sameKey (.int .i64 q.1.loc)=false:=by simp[Lit.sameKey,hi]
    grind
  ·exact List.nodup_append.mpr ⟨h.nd,aq,λa ha c hc e=>by
    have:c=q.1.loc:=by simpa using hc
    rw[this]at e;rw[e]at ha;exact h6 ha⟩
  ·intro k hk;rcases List.mem_append.mp hk with h7|h7
   ·exact h.sub k h7
   ·grind
end
end
def iX(s:Nat->Nat)(l:List Int):Nat->Nat:=l.foldl (λs i=>sB s i 1 2) s
theorem Hd(s:Nat->Nat)(l:List Int)(i:Int):iX s (l++[i])=sB (iX s l) i 1 2:=by simp[iX]
theorem B6{j:Nat}:∀(l:List Int)(s:Nat->Nat),(∀i∈l,0<=i/\i<1024)->iX s l j=if(j:Int)∈l/\s j=1 then 2 else s j
 | [],s,_=>by simp[iX]
 | i::l,s,h=>by
  show iX (sB s i 1 2) l j=_;rw[B6 l _ (λx hx=>h x (bn _ hx))];have hi:=h i aq;obtain⟨n,rfl⟩:∃n:Nat,i=(n:Int):=⟨i.toNat,ae⟩;by_cases hs:s n=1
  ·rw[Xh ae hs];unfold fW;by_cases hj:j=n
   ·subst hj;simp[hs]
   ·have:¬((j:Int)=(n:Int)):=by omega
    simp[hj,this]
  ·have e:sB s (n:Int) 1 2=s:=by unfold sB;rw[rb s n 1 ae];simp[hs]
   rw[e];by_cases hj:j=n
   ·subst hj;simp[hs]
   ·have:¬((j:Int)=(n:Int)):=by omega
    simp[this]
theorem Mg(w:af)(v:ah)(l:List bJ)(hv:dV w v l)(hb:∀a m c,v=.slice (some a) m c->a.block<w.heap.size)(mb:Nat)(s:Nat->Nat)(S:cb w mb s):Aaf Aag 106 #[v,.func (.func 107) #[pz mb] #[]] w λe w'=>e=rt #[]/\cb w' mb (iX s (cI l))/\Touch (·=mb) w w':=by
 have HS:=an S;go_in;go_wp2_with fail;refine(vD w v l hv hb).mono ?_;rintro e w1⟨u,rfl,ou,u1⟩;obtain⟨xs,au⟩:=bE (cI l);have hxl:κ xs<=4097:=(by rw[au];exact Ir l);rw[<-au]at ou;have HX:=an au;have ui:=ou.cv;obtain⟨a,cap,rfl⟩:=ui.slice;obtain⟨OU,NB,U1,S1⟩:=bS ui (show ∀c,Aan (.slice a (κ xs) cap)=some c->c≠mb from λc hc e=>by have:=(ou.aJ c hc).1;have:=S.lt;omega) u1 (HS.up u1);clear au;go_wp2;go_loopw [9] (λi wr=>∃k:Nat,k<=κ xs/\i=i6 k/\cb wr mb (iX s (xs.take k))/\Touch (·=mb) w1 wr) (λi _=>κ xs-(Aaq i).toNat)
 case atStart=>exact⟨0,bG _,rfl,S1,Touch.refl _ _⟩
 case round=>
  obtain⟨k,hk,rfl,sr,tr⟩:=hrel;obtain⟨SR,TR⟩:=aw sr tr;by_cases hlt:k<κ xs
  ·have b3:((k:Int)<(κ xs:Int))=True:=by simp;omega
   obtain⟨b,off,rfl,hbs,hx⟩:=cf (OU.ax TR (λc hc e=>NB c hc e)) rfl ae;have c0:=hx k hlt;obtain⟨TK,TA⟩:=aw (show iX s (xs.take (k+1))=sB (iX s (xs.take k)) xs[k] 1 2 from by rw[eo hlt,Hd]) (Wn wr mb (iX s (xs.take k)) SR xs[k]);clear hx;generalize xs[k]=x at *;unfold bA at c0;go_wp2_with fail;refine TA.mono ?_;rintro e w4⟨rfl,s4,t4⟩;have T4:=an (TR.trans t4 (λ_ h _=>h));go_wp2;go_roundw
   case rel=>exact⟨k+1,ae,aq,by rw[TK.out];exact s4,T4⟩
   case measure=>simp only[Aaq];omega
  ·obtain rfl:k=κ xs:=by omega
   have b3:((κ xs:Int)<(κ xs:Int))=False:=aq
   go_wp2;go_end0;have h:=SR.out;rw[fj,HX.out]at h;exact⟨rfl,h,(Touch.bV (F:=(·=mb)) U1).trans TR (λ_ h _=>h)⟩
end Go.Proofs.YtkpjfnbbkohciaaGreat
