import Derived.Test.YtkpjfnbbkohciaaGreatCb
set_option maxRecDepth 100000
set_option maxHeartbeats 16000000
set_option linter.all false
open Go renaming Ending->Ab1,Oper->Abn,Calls->Aae,TypeId->Aab,wpList->Aak,madeCells->Acv,splice->Aby,undef->Aar,yielded->Aa1,zeroValue->Ab9,wpAnyH->Acp,YieldsIf->Ace,execOp->Abs
open List renaming length_map->Aad,getElem_map->Adp,map_append->Aao,map_cons->Acf,length_cons->Aal,append_assoc->Aa8,length_set->Aaz,range->Aaj,range_succ->Abz,length_append->Aaf,flatMap_cons->Abg,drop_zero->Aax,take_zero->Abk,size_toArray->Abh,length_nil->Aa5,push_toArray->Abj,append_toArray->Aa9,nil_append->Aay,cons_append->Aa2,sum_cons->Acg,append_nil->Ab5,sum_nil->Ac4,replicate->Aac,getElem_cons_succ->Adh,getElem_cons_zero->Abx,length_range->Acx,drop_drop->Ac3,mem_map->Abf,mem_cons->Aam,drop_succ_cons->Abv,length->κ
open Go.Proofs.Tryz renaming prog->Aag,underlying88->Aaq,underlying270->Acw,underlying30->Aa0
open Go.RowKit renaming intOf->Aat
open Go.Value renaming ownBlock->Aan,oneCell'->Ac8,slice->Acl,int->Acj
open Option.some renaming injEq->Aai
open Go.Instr renaming buildSlice->Acd,index->Abi,slice->Aav,sliceAt->Abo,makeSlice->Ach,sureAddr->Adf
open Go.Result renaming andThen->Aap,andThen_ok->Aau
open Go.World renaming size_alloc->Aa3,cell?->Aco
open Go.Sem renaming run_bind->Aaw,run_pure->Acq
open Go.Value.slice renaming injEq->Abp
open Go.Region renaming wanted->Aaa,Mode->Ab0
open Int renaming toNat_natCast->Abq
open Go.Fence renaming wide->Abw
open Array renaming replicate_succ->Aa6,replicate_zero->Aa7
open Go.Addr.mk renaming injEq->Abd
open Go.KeepsOthers renaming of_grownBy->Ado
open Go.Oper renaming wp->Acb
open Bool renaming and_eq_true->Abc
open Nat renaming zero_add->Abr
open Go.Builtin renaming zeroCells->Abe
open List.Pairwise renaming nil->Ab6
open Go.Op renaming equalIn->Ack
namespace Go.Proofs.YtkpjfnbbkohciaaGreat
open Go.Proofs.Tryz Go.RowKit Go.Sort
variable{base base' c cap g i j k n off st t:Nat}{R:Ab1->af->Prop}{ops:Array Abn}{fn:Func}{C:List cN}{P:bu}{H:aP}{b m:List aj}{α β:Type}{Q:Exit->Act->af->Prop}{a:Option Addr}{rest:List Abn}{ats:List Nat}{L:List As}{w:af}
structure gM where
 d:al
 a:Option Addr
 n:Nat
 c:Nat
def gM.v(y:gM):ah:=.slice y.a y.n y.c
def c9(y:gM):List ah:=(cf y.d y.v).toList
theorem mw:hL c9 11:=⟨ae,λ_=>rfl,λy u hu=>by have:=mq y.d y.a y.n y.c;unfold c9 gM.v at hu;rw[Array.all_eq_true']at this;exact this u aa⟩
def cB(w:af)(v:ah)(l:List al):Prop:=∃ys:List gM,ys.map (·.d)=l/\aI c9 w v ys/\∀y∈ys,cX w y.v y.d.dead
theorem cB.up{w w':af}{v:ah}{l:List al}(h:cB w v l)(hu:Up w w'):cB w' v l:=by obtain⟨ys,h1,h2,h3⟩:=h;exact⟨ys,h1,aI.up h2 hu,λy hy=>aI.up (h3 y hy) hu⟩
theorem cB.slice{v:ah}{l:List al}(h:cB w v l):∃a cap,v=.slice a (κ l) cap:=by obtain⟨ys,rfl,h2,_⟩:=h;rw[Aad];exact h2.slice
theorem cB.length_le{v:ah}{l:List al}(h:cB w v l):κ l<=9223372036854775807:=by obtain⟨ys,rfl,h2,_⟩:=h;rw[Aad];exact h2.length_le
theorem vg{l:List al}(h:cB w (.slice a n cap) l)(h0:0<κ l):∃b off,a=some ⟨b,off,none⟩/\b<w.heap.size/\∀i(hi:i<κ l),∃da dn dc,w.rangeAt b (off+i*11) (cf l[i] (.slice da dn dc)).toList/\cX w (.slice da dn dc) l[i].dead:=by
 obtain⟨ys,rfl,h2,h3⟩:=h;rw[Aad]at h0;obtain⟨b,off,h4,h5,_,h6⟩:=aI.get h2 mw h0;refine⟨b,off,h4,h5,λi hi=>?_⟩;rw[Aad]at hi;refine⟨ys[i].a,ys[i].n,ys[i].c,λj v hj=>?_,?_⟩
 ·rw[Adp]at hj;have:=h6 i hi j v hj;grind
 ·rw[Adp];exact h3 _ (cJ hi)
def fM(next:Nat):List aj:=aX [8] [next]
def ej(next:Nat)(l:List al):List (List aj):=fM next::l.map e1
def lC(next:Nat)(l:List al):Option (List aj):=if next<=281474976710655/\(κ l)<=32/\(∀x∈l,cD x=true)then some (ey (ej next l))else none
theorem gz(next:Nat):κ (fM next)=8:=ay
theorem nW(a b c:List aj):κ (ey [a,b,c])=8+κ a+κ b+κ c:=by grind [ey,c8,tX,bA]
theorem BC{x:al}(h:cD x=true):κ (e1 x)<=65535:=by obtain⟨_,_,_,_,h5,_,h7,_⟩:=(bH x).1 h;grind [oO,e1,nW,h9,dZ]
theorem xr{next:Nat}{l:List al}(hl:κ l<=32)(hr:∀x∈l,cD x=true):sW (ej next l):=by refine⟨by grind [ej],λt ht=>?_⟩;grind [ej,gz,BC]
theorem KL{next:Nat}(h:next<=281474976710655):nq [8] [next]:=uz
theorem K'{next:Nat}{l:List al}{x:al}(hx:x∈l)(h:cD x=false):lC next l=none:=by grind [lC]
theorem eG.one(w:af)(base:Nat)(hb:base<=w.heap.size)(a:Option Addr)(n c:Nat)(t:List aj)(h:Own aF 5 w base (.slice a n c) t):eG (w.alloc (.cells #[.slice a n c] 30)) base (cv w.heap.size 1 1) [t]:=by
 refine⟨[⟨a,n,c⟩],rfl,?_,λi hi _=>?_⟩
 ·exact yA (base:=base) (e:=30) (size:=1) w #[.slice a n c] 1 hb ax rfl
 ·match i,hi with
  | 0,_=>exact h.up (ai w _)
  | (k+1),hi=>simp at hi
theorem r1(w:af)(next:Nat)(hn:next<18446744073709551616)(v:ah)(l:List al)(hv:cB w v l)(aT:∀x∈l,x.wf):Aae Aag 180 #[u6 (next:Int),v] w λe w'=>D5 (lC next l) w e w':=by
 have aR:=hv.length_le;obtain⟨la,lc,rfl⟩:=hv.slice;obtain⟨HV,aY⟩:=aw hv aT;clear aT;by_cases aC:281474976710655<next
 ·have b1:((281474976710655:Int)<(next:Int))=True:=by simp;omega
  exact Ml
 have b1:((281474976710655:Int)<(next:Int))=False:=ab
 by_cases hlen:32<κ l
 ·have b2:((32:Int)<(κ l:Int))=True:=by simp;omega
  exact Ml
 have b2:((32:Int)<(κ l:Int))=False:=ab
 obtain⟨UA,UB,sza⟩:=db (ai w (.cells #[i6 8] 3)) (ai (w.alloc (.cells #[i6 8] 3)) (.cells #[u6 (next:Int)] 70)) (mB w (.cells #[i6 8] 3));have aQ:=an (show Aae Aag 240 #[cv w.heap.size 1 1,cv (w.heap.size+1) 1 1] ((w.alloc (.cells #[i6 8] 3)).alloc (.cells #[u6 (next:Int)] 70)) (λe w'=>∃v,e=rt #[v,i6 0]/\Own aF 5 w' w.heap.size v (fM next)/\Up w w')from by have i1:aD bz _ (cv w.heap.size 1 1) [8]:=(aD.er (f:=bz) w w.heap.size rfl #[i6 8] 3 (0,0) [8] 1 rfl dE rfl).up UB;have i2:aD cM _ (cv (w.heap.size+1) 1 1) [next]:=aD.er (f:=cM) (w.alloc (.cells #[i6 8] 3)) (w.heap.size+1) uy #[u6 (next:Int)] 70 (0,0) [next] 1 rfl dE rfl;refine(oV _ _ [8] i1 aq _ _ i2 AT (KL ae)).mono λe w' h=>?_;obtain⟨v,rfl,ho,hu⟩:=h;exact⟨v,rfl,ho.mono (UA.trans UB).size,(UA.trans UB).trans hu⟩)
 clear sza;go_in;go_wp2_with fail;refine aQ.mono ?_;rintro e w2⟨v6,rfl,O6,U2⟩;obtain⟨ha,hc,rfl⟩:=O6.cC.slice;obtain⟨OT,U3⟩:=aw (eG.one w2 w.heap.size U2.size ha _ hc _ O6) (U2.trans (ai w2 (.cells #[.slice ha (κ (fM next)) hc] 30)));generalize(fM next).length=aO at *;go_wp2;go_loopw [8,34] (λtv i wr=>∃k:Nat,k<=κ l/\i=i6 k/\eG wr w.heap.size tv (fM next::(l.take k).map e1)/\Up w wr/\∀x∈l.take k,cD x=true) (λ_ i _=>κ l-(Aat i).toNat)
 case atStart=>exact⟨0,bE _,rfl,OT,U3,λx hx=>by simp at hx⟩
 case round=>
  obtain⟨k,hk,rfl,ot,ur,rt⟩:=hrel;obtain⟨OR,UR,RT⟩:=aW ot ur rt;clear rt;by_cases hlt:k<κ l
  ·refine oL ?_;intro b3;obtain⟨sb,so,rfl,_,sg⟩:=vg (HV.up UR) ae;obtain⟨da,dn,dc,rg,dp⟩:=sg k hlt;obtain⟨SG,DP,WX,aL,TK⟩:=eI rg dp (aY l[k] (cJ hlt)) (cJ hlt) (show l.take (k+1)=l.take k++[l[k]] from en hlt);clear sg;generalize l[k]=x at *;obtain⟨aj,H1⟩:=aw (ke x (.slice da dn dc)) (mq x da dn dc);have UX:=ai wr (.cells (cf x (.slice da dn dc)) 90);obtain⟨BX,RC,O4,U4⟩:=bR (aH.new wr 90 (cf x (.slice da dn dc))) (K0 _ x WX _ (aI.up DP UX)) (OR.up UX) (UR.trans UX);generalize cf x (.slice da dn dc)=C at *;go_wp2_with(first
    | refine arm ?_
    | ((with_reducible refine cu 90 (.tmp 10) (.tmp 37) ?_);refine fC wr rfl 90 (.tmp 10) (.tmp 37) rfl C 90 b6 rfl rfl rfl aj (by have:=aj.out;rw[show(prog.info? 90).map (·.size)=some 11 from av]at this;exact dB this) H1 ?_))
   refine RC.mono ?_;rintro e w5 aa;rcases aa with⟨ao,rfl,U5⟩|⟨bs,v11,ag,rfl,O5,U5⟩
   ·have HF:=an (show lC next l=none from K' aL (by
     unfold KZ at ao;by_cases hh:cD x=true
     ·rw[bo hh]at ao;cases ao
     ·simpa using hh))
    have U6:=an (U4.trans U5);clear ao;go_wp2;go_ret2;exact .inl ⟨HF,rfl,U6⟩
   have az:cD x=true/\e1 x=bs:=by
    unfold KZ at ag;by_cases hh:cD x=true
    ·rw[bo hh]at ag;exact⟨hh,dB ag⟩
    ·rw[aM hh]at ag;cases ag
   have RX:=an az;obtain⟨ra,rc,rfl⟩:=O5.cC.slice;obtain⟨o5,ot⟩:=aA (O5.mono U4.size) (O4.up U5);have U6:=an (U4.trans U5);clear ag az;obtain⟨vs,aP,hvo,aJ⟩:=ot;have aK:=an aP;have UY:=ai w5 (.cells #[.slice ra (κ bs) rc] 30);obtain⟨O5,ax,ad,ak⟩:=bR (show Own aF 5 (w5.alloc (.cells #[.slice ra (κ bs) rc] 30)) w.heap.size (fZ ⟨ra,κ bs,rc⟩) bs from o5.up UY) (hvo.up UY) (λi a b=>(aJ i a b).up UY) (aD.lit (f:=fZ) w5 #[.slice ra (κ bs) rc] 30 (0,0) [⟨ra,κ bs,rc⟩] 1 rfl dE rfl);have au:κ vs<=33:=by have:=aP;simp at this;omega
   obtain⟨hb1,hb2,U7⟩:=aW (show(κ vs + [(⟨ra,κ bs,rc⟩:Wl)].length)*24<=140737488355328 from ab) (show κ vs + [(⟨ra,κ bs,rc⟩:Wl)].length<=9223372036854775807 from ab) (U6.trans UY);have ar:=an U7.size;clear aP aJ au;generalize (κ bs)=bl at *;go_wp2_with(first
    | (at_builtin;refine bc fZ BP rfl (.tmp 46) (.tmp 48) 40 rfl w.heap.size 30 (nl) 24 underlying40 ss rfl _ vs rfl ax (cv w5.heap.size 1 1) [⟨ra,bl,rc⟩] rfl ak hb1 hb2 ar ?_))
   intro v' w7 hown hg aB;obtain⟨aN,U8⟩:=aw (eG.snoc aK ax ad O5 hown hg) (U7.aE aB (aG _));clear ad hb1 hb2 ar;go_wp2;refine⟨⟨k+1,hlt,aq,?_,U8,?_⟩,?_⟩
   ·rw[TK.out,Aao,Acf,List.map_nil,RX.out.2];exact aN
   ·rw[TK.out];intro y hy;rcases eT.1 hy with hy|hy
    ·exact RT y hy
    ·simp at hy;subst hy;exact RX.1
   ·simp only[Aat];omega
  ·obtain rfl:k=κ l:=by omega
   have b3:((κ l:Int)<(κ l:Int))=False:=aq
   obtain⟨rt,ot⟩:=aA RT.out OR.out;rw[fx]at rt ot;obtain⟨OKJ,HT⟩:=aw (show sW (ej next l)from xr ae rt) (show lC next l=some (ey (ej next l))by unfold lC;rw[bo ⟨ae,ae,rt⟩]);have JN:=an (AE _ _ (ej next l) ot.texts OKJ);clear rt RT;go_wp2_with fail;refine JN.mono ?_;rintro e w8⟨vj,rfl,OJ,UJ⟩;go_wp2_with fail;go_ret2;exact .inr ⟨_,_,HT,rfl,OJ.mono UR.size,UR.trans UJ⟩
theorem zA(w:af)(v u:ah)(a b:List aj)(hv:a8 w v a)(hu:a8 w u b):Aae Aag 181 #[v,u] w λe w'=>e=.returned (.bool (decide (a=b)))/\w=w':=by obtain⟨c1,c2⟩:=aA (toStr w v a hv) (toStr w u b hu);have ST:=an (BZ a b);generalize strOf a=x at *;generalize strOf b=y at *;go_in;go_wp2;go_ret;exact⟨by rw[<-ST.out]<;>rfl,rfl⟩
theorem j':(prog.info? 90).map (λi=>(i.zero,i.size,i.bytes))=some (some (.agg b6),11,112):=av
theorem Lq:prog.underlying 40=some (.slice (prog.elem 40)):=av
theorem Lr:∀W:af,(sizeOf (prog.elem 40)).run Aag W=.ok 1 W:=λW=>by rw[show prog.elem 40=30 from ay];obtain⟨i,hi,_,hz1,_⟩:=jF ss;simp[sizeOf,typeInfo,hi,hz1]
theorem gB:(prog.info? 90).map (·.size)=some b6.size:=av
def gL:b6.all (·.oneCell')=true:=mq tn none 0 0
def fD:al:=⟨1,[118],false,1,0,0,8,hole,[]⟩


theorem ig{f:α->List ah}{f2:β->List ah}{k k2:Nat}{e e2:Aab}{b b2:Nat}{v v2:ah}{xs:List α}{ys:List β}(hne:e≠e2)(h:ak f k e w b v xs)(h2:ak f2 k2 e2 w b2 v2 ys):v.ownBlock=none\/v.ownBlock≠v2.ownBlock:=by
 obtain⟨_,h⟩:=h;obtain⟨_,h2⟩:=h2;rcases h with⟨rfl,_⟩|⟨g,cap,cur,rfl,_,hh,_⟩
 ·exact .inl rfl
 ·refine .inr ?_;rcases h2 with⟨rfl,_⟩|⟨g2,az,aa,rfl,_,ab,_⟩
  ·simp[Aan]
  ·simp only[Aan,ne_eq,Aai];grind
def bq(w:af)(base:Nat)(v:ah)(l:List al):Prop:=∃ys:List gM,ys.map (·.d)=l/\ak c9 11 90 w base v ys/\∀y∈ys,bf w base y.v y.d.dead
theorem bq.mono{v:ah}{l:List al}(h:bq w base v l)(hb:base'<=base):bq w base' v l:=by obtain⟨ys,h1,h2,h3⟩:=h;exact⟨ys,h1,ak.mono h2 hb,λy hy=>ak.mono (h3 y hy) hb⟩
theorem bq.cE{v:ah}{l:List al}(h:bq w base v l):cB w v l:=by obtain⟨ys,h1,h2,h3⟩:=h;exact⟨ys,h1,ak.row h2 mw,λy hy=>ak.row (h3 y hy) pw⟩
theorem bq.up{w w':af}{v:ah}{l:List al}(h:bq w base v l)(hu:Up w w'):bq w' base v l:=by obtain⟨ys,h1,h2,h3⟩:=h;exact⟨ys,h1,ak.up h2 hu,λy hy=>ak.up (h3 y hy) hu⟩
def GF(l:List ah)(o:Nat)(m:List ah):List ah:=l.take o++(m++l.drop (o+κ m))
theorem xd:∀(l:List ah)(k off:Nat)(cs:Array ah),off+k+κ l<=cs.size->((l.zipIdx k).foldl (λ(cs:Array ah) p=>cs.setIfInBounds (off+p.2) p.1) cs).toList=cs.toList.take (off+k)++(l++cs.toList.drop (off+k+κ l))
 | [],k,off,cs,_=>aq
 | v::l,k,off,cs,hc=>by simp only[Aal]at hc;rw[List.zipIdx_cons,yr];have ih:=xd l (k+1) off (cs.setIfInBounds (off+k) v) ab;exact UH
theorem JS(V cs:Array ah)(off:Nat)(h:off+V.size<=cs.size):V.zipIdx.foldl (λ(cs:Array ah) (p:ah × Nat)=>cs.setIfInBounds (off+p.2) p.1) cs=(GF cs.toList off V.toList).toArray:=by apply hS.1;rw[<-Array.foldl_toList,Array.toList_zipIdx,xd V.toList 0 off cs ae];rfl
theorem wK{P:bx}(w:af)(t e:Aab)(z:ah)(k bytes:Nat)(C:Array ah)(ht:P.underlying t=some (.slice e))(hinfo:(P.info? e).map (λi=>(i.zero,i.size,i.bytes))=some (some z,k,bytes))(h0:0<k)(hk:k<=16777216)(hC:C.size=k):(Acd t 1 #[(0,.agg C)]).run P w=.ok (cv w.heap.size 1 1) (w.alloc (.cells C e)):=by
 obtain⟨i,hi,hz0,hz1,_⟩:=jF hinfo;have hf:=JS C ((Array.range k).map (z.cells[· % z.cells.size]!)) 0 ab;have hs:(GF ((Array.range k).map (z.cells[· % z.cells.size]!)).toList 0 C.toList).toArray=C:=by unfold GF;exact Ns
 exact T8
theorem bU{P:bx}{op:Abn}{a:Act}(hgd:op.guard=none)(t e:Aab)(x:bO)(ho:op.op=.buildSlice t 1 #[(0,x)])(z:ah)(k bytes:Nat)(C:Array ah)(hx:a.eval x=.agg C)(ht:P.underlying t=some (.slice e))(hinfo:(P.info? e).map (λi=>(i.zero,i.size,i.bytes))=some (some z,k,bytes))(h0:0<k)(hk:k<=16777216)(hC:C.size=k)(h:Aak P ops Q rest (a.put op.dst (cv w.heap.size 1 1)) (w.alloc (.cells C e))):Aak P ops Q (op::rest) a w:=by refine uH ?_;intro K hK;simp[ho,hx,(wK (P:=P) w t e z k bytes C ht hinfo h0 hk hC),Aap];exact hK _ _ h
def pl(x:af)(H:aP)(vp:ah)(P:bu):As:=⟨PF (H.at vp),λw=>PA w (H.at vp) P/\∀b,vp.ownBlock=some b->H.h.vp.ownBlock=some b\/x.heap.size<=b,λh T hf=>⟨h.1.az T hf,h.2⟩⟩
section
variable {w w' x:af} {H:aP} {P P':bu} {vp:ah} {F0:Nat->Prop} {L L':List As}
def Fr.n4(A:PA w H P):Fr (PF H) w [pl w H H.h.vp P] w:=Fr.from (A:=pl w H H.h.vp P) ⟨A,λ_ h=>.inl h⟩ A.lt
theorem Fr.pa(s:Fr F0 x L w)(h:pl x H vp P∈L:=by exact gR):PA w (H.at vp) P:=(s.p _ h).1
theorem Fr.pt{L':ah->List As}(s:Fr F0 x L w)(d:PT w (H.at vp) P' w')(hU:∀aa,mQ L (pl x H vp P) (pl x H aa P') (L' aa):=by intro _;exact vH):∃aa,Fr F0 x (L' aa) w':=by
 obtain⟨aa,A,T,O⟩:=d;refine⟨aa,s.zK (hU aa) T ⟨A,λb h=>?_⟩ (λn h=>⟨A.lt n h,?_⟩)⟩
 ·rcases O b h with h|h
  ·exact(s.p _ (hU vp).mem).2 b h
  ·exact .inr (bN s.t.size h)
 ·rcases h with h|h|h|h|h|h
  ·exact .inl (.inl h)
  ·exact .inl (.inr (.inl h))
  ·exact .inl (.inr (.inr (.inl h)))
  ·exact .inl (.inr (.inr (.inr (.inl h))))
  ·exact .inl (.inr (.inr (.inr (.inr (.inl h)))))
  ·rcases O n h with h|h
   ·exact F1
   ·exact .inr h
theorem Fr.pg(s:Fr F0 x L w)(d:PG w (H.at vp) P w')(hU:mQ L (pl x H vp P) (pl x H vp P) L':=by exact vH):Fr F0 x L' w':=s.zK hU d.2 ⟨d.1,(s.p _ hU.mem).2⟩ (λn h=>⟨d.1.lt n h,.inl h⟩)
theorem Fr.ePG(s:Fr (PF H) x L w)(h:pl x H H.h.vp P∈L:=by exact gR):PG x H P w:=⟨(s.p _ h).1,s.t⟩
theorem Fr.ePT(s:Fr (PF H) x L w)(h:pl x H vp P∈L:=by exact gR):PT x H P w:=⟨vp,(s.p _ h).1,s.t,(s.p _ h).2⟩
end
def jy(l:List au):List au:=l.filter (λx=>decide (x≠hole))
theorem Pr(l:List au)(k:Nat)(h:k<κ l)(hx:l[k]≠hole):jy (l.take (k+1))=jy (l.take k)++[l[k]]:=by exact M'
theorem SL(l:List au)(k:Nat)(h:k<κ l)(hx:l[k]=hole):jy (l.take (k+1))=jy (l.take k):=by exact M'
def tO(l:List au):κ (jy l)<=κ l:=p5 _ _
theorem Sj(a b c:au):prog.built 239 [(0,.agg (be a)),(1,.agg (be b)),(2,.agg (be c))]=some (aO [a,b,c]):=av
theorem SZ(l:List au)(hl:κ l=3)(k:Nat)(h:k<κ l)(W:af):(Abi 239 (.agg (aO l)) (i6 (k:Int))).run Aag W=.ok (.agg (be l[k])) W:=by
 have h8:(0:Int)<=(k:Int)/\(k:Int)<((3:Nat):Int):=ae
 have hp:=wA l k h;refine FX ?_;intro hs hg;simp[Abi,asIntOf,run_underlying (P:=Aag) underlying239,h8,hs,part,hg,hp];omega
theorem u'(w:af)(b:Nat)(hb:b=w.heap.size)(p:au):cX (w.alloc (.cells (be p) 87)) (cv b 1 1) [p]:=aI.er w b hb (be p) 87 (0,0) [p] 1 rfl ax ay
theorem r2(w:af)(F S:List au)(lF:κ F=8)(lS:κ S=8)(p root:au)(i:Nat)(hi:i<64):Aae Aag 103 #[.agg (aO (fi F S p)),.agg (be root),i6 (i:Int)] w λe w'=>∃v,e=.returned v/\bf w' w.heap.size v (jy [p,a6 F (i/8),root])/\Up w w':=by
 obtain⟨U1,U2⟩:=aA (ai w (.cells (aO (fi F S p)) 178)) (ai (w.alloc (.cells (aO (fi F S p)) 178)) (.cells (be root) 87));obtain⟨b1,b2⟩:=aA ((aH.new w 178 (aO (fi F S p))).up U2) (aH.new (w.alloc (.cells (aO (fi F S p)) 178)) 87 (be root));rw[aL]at b2;obtain⟨q,hq⟩:=bK (i/8);have ao:q<8:=ae
 have ar:((i:Int)/8)=(q:Int):=ae
 rw[<-hq];clear hq;have UD:=an (Up.drew (Up.refl ((w.alloc (.cells (aO (fi F S p)) 178)).alloc (.cells (be root) 87))));obtain⟨aj,az,B2,IB,IF,IR,UU,BT⟩:=Oo (Up.range UD ((mF b1 lF lS))) (Up.range UD ((Cd b1 lF q ao))) (b2.up UD) (hU p) (hU (a6 F q)) (hU root) ((U1.trans U2).trans UD) (Sj p (a6 F q) root);have b8:((q:Int)<8)=True:=ab
 have wq:IntKind.i64.wrap (q:Int)=(q:Int):=aY q ae;clear lF lS;generalize a6 F q=pf at *;go_in;go_wp2;refine wp_region_still_lit av av ?_;repeat(first
  | (refine fS rfl 87 (.tmp 10) rfl w.heap.size 48 rfl _ aj _ underlying87 rfl IB ?_)
  | (refine fS rfl 87 (.tmp 15) rfl w.heap.size (q*3) rfl _ az _ underlying87 rfl IF ?_)
  | (refine ik rfl 87 (.tmp 4) rfl (w.heap.size+1) rfl 87 _ B2 _ underlying87 rfl IR ?_)
  | (refine D0 rfl 239 0 1 2 (.tmp 11) (.tmp 16) (.tmp 17) rfl _ _ _ _ BT rfl rfl rfl ?_)
  | still_step)
 refine hA ?_;show Exit.then _ _ _ _ (World.drew _);generalize((w.alloc (.cells (aO (fi F S p)) 178)).alloc (.cells (be root) 87)).drew=w3 at *;clear IB IF IR BT;have ag:[p,pf,root].length=3:=rfl;generalize al:[p,pf,root]=ls at *;obtain⟨ax,ad⟩:=aw al ag;clear ag al wq b8 ar;go_wp2;go_loopw [7,19] (λv i wr=>∃k:Nat,k<=3/\i=i6 k/\bf wr w.heap.size v (jy (ls.take k))/\Up w wr) (λ_ i _=>3-(Aat i).toNat)
 case atStart=>exact⟨0,ae,rfl,ak.nil _ _ _ _ _,UU⟩
 case round=>
  obtain⟨k,hk,rfl,hown,upr⟩:=hrel;obtain⟨HOWN,UR⟩:=aw hown upr;by_cases hlt:k<3
  ·have hkl:k<κ ls:=by rw[ad.out];exact hlt
   have IX:=SZ ls ad k hkl;obtain⟨FY,FN⟩:=aw (Pr ls k hkl) (SL ls k hkl);have aD:κ (jy (ls.take k))<=3:=bN (tO _) (by rw[ev];omega);have b2:((k:Int)<3)=True:=ab
   generalize ls[k]=x at *;generalize jy (ls.take k)=fl at *;have EQ:=DB x;obtain⟨UA,BX⟩:=aw (ai wr (.cells (be x) 87)) (aH.new wr 87 (be x));have aB:=IX;by_cases hx:x=hole
   ·rw[gD hx]at EQ;have FN:=an (FN hx);clear hx FY;go_wp2_with(refine arm ?_);go_roundw
    case rel=>exact⟨k+1,ae,aq,by rw[FN.out];exact HOWN.up UA,UR.trans UA⟩
    case measure=>simp[Aat];omega
   ·rw[iY hx]at EQ;obtain⟨FY,n1,n2,n3,OW,PR⟩:=im (FY hx) (show(κ fl + [x].length)*24<=140737488355328 from ab) (show κ fl + [x].length<=9223372036854775807 from ab) (show w.heap.size<=((wr.alloc (.cells (be x) 87)).alloc (.cells (be x) 87)).heap.size by rw[Aa3,Aa3];have:=UR.size;omega) (HOWN.up (UA.trans (ai _ (.cells (be x) 87)))) (u' (wr.alloc (.cells (be x) 87)) _ rfl x);obtain⟨va,vc,rfl⟩:=(ak.row HOWN pw).slice;clear hx FN;go_wp2_with(first
     | refine arm ?_
     | ((with_reducible refine dJ 88 1 _ ?_);refine bU rfl 88 87 (.tmp 26) rfl _ 3 24 (be x) rfl Aaq cy ae ae rfl ?_)
     | (at_builtin;refine bI pw rfl (.tmp 25) (.tmp 27) 88 rfl w.heap.size 87 _ 24 Aaq cy rfl _ fl rfl OW _ [x] rfl PR n1 n2 n3 ?_))
    intro v6 w6 aa aT aU;have U6:=an ((UR.trans (UA.trans (ai _ _))).aE aU (aG _));go_wp2;go_roundw
    case rel=>exact⟨k+1,ae,aq,by rw[FY.out];exact aa,U6⟩
    case measure=>simp[Aat];omega
  ·obtain rfl:k=3:=by omega
   have b2:((3:Nat):Int)=3:=rfl;have ho:=HOWN.out;rw[dh (by rw[ad.out];exact aG _)]at ho;go_wp2;go_ret;exact⟨_,rfl,by rw[ax.out];exact ho,UR⟩
def SM(C:List cN)(root:au)(i:Nat):Option cN:=(node8 C root).bind λF=>(node8 C (a6 F (i/8))).bind λS=>fE C (a6 S (i%8))
theorem Ps{root:au}{s:cN}(h:SM C root i=some s):∃F S,node8 C root=some F/\node8 C (a6 F (i/8))=some S/\fE C (a6 S (i%8))=some s:=by
 unfold SM at h;cases hF:node8 C root with
 | none=>simp_all
 | some F=>
  rw[hF,p8]at h;cases hS:node8 C (a6 F (i/8))with
  | none=>simp_all
  | some S=>simp_all
theorem VL(w:af)(H:aP)(P:bu)(A:PA w H P)(root:au)(i:Nat)(hi:i<64)(s:cN)(hs:SM P.C root i=some s):Aae Aag 52 #[pz H.pb,.agg (be root),i6 (i:Int)] w λe w'=>e=rt #[.agg (aC s.val),i6 0]/\PG w H P w':=by
 obtain⟨F,S,hF,hS,hb⟩:=Ps hs;obtain⟨lF,lS⟩:=aA (cH hF) (cH hS);obtain⟨IW,OW⟩:=aw (qT (fi F S (a6 S (i%8))) (fh lF lS _)) (jK (fi F S (a6 S (i%8))));have aa:Hid ((aO jZ).size=(aO (fi F S (a6 S (i%8)))).size):=an (by rw[b7,b7,fh lF lS];rfl);have IS:=an (dD s);obtain⟨U2,b2⟩:=aA (ai (w.alloc (.cells (be root) 87)) (.cells (aC aK) 60)) (aH.new (w.alloc (.cells (be root) 87)) 60 (aC aK));rw[aL]at b2;obtain⟨B2,UU,HA⟩:=aW b2 ((ai w (.cells (be root) 87)).trans U2) A;have TW:=an (wR _ H P (A.up UU) root i hi F S hF hS);have ad:=an (λW (AW:PA W H P)=>uU W H P AW (a6 S (i%8)) s hb);have WI:=th ((w.alloc (.cells (be root) 87)).alloc (.cells (aC aK) 60)) (i:Int);rw[show decide (0<=(i:Int)/\(i:Int)<64)=true from ab]at WI;obtain⟨LF,LS,NS⟩:=aW lF lS (show ¬PF H (w.heap.size+1)from λhf=>by have:=HA.lt _ hf;omega);clear hF hS hb hs lF lS;generalize a6 S (i%8)=p at *;go_in;go_wp2_with(refine arm ?_);refine WI.mono ?_;rintro e w3⟨rfl,rfl⟩;go_wp2_with(refine arm ?_);refine TW.mono ?_;rintro e w3⟨rfl,g3⟩;have U4:=an (ai w3 (.cells (aO (fi F S p)) 178));obtain⟨G4,R4⟩:=aw (((PG.of HA UU).trans g3).up U4) (mF (aH.new w3 178 (aO (fi F S p))) LF LS);go_wp2_with(first
  | refine arm ?_
  | ((with_reducible refine cu 178 (.tmp 8) (.tmp 19) ?_);refine fC w3 rfl 178 (.tmp 8) (.tmp 19) rfl (aO (fi F S p)) 178 (aO jZ) rfl rfl rfl IW aa OW ?_))
 refine(ad _ G4.1).mono ?_;rintro e w5⟨rfl,g5⟩;go_wp2_with(first
  | refine cZ 60 6 29 (aC s.val) (((B2.az g3.2 NS).up U4).az g5.2 NS) (hi:=IS) (hold:=(an p')) ?_)
 intro w7 ag aB;go_wp2;exact bS (hi:=IS) (.tuple #[.agg (aC s.val),i6 0]) ag ⟨rfl,((G4.trans g5).grown aB NS ae)⟩


theorem n0(n:Nat)(h:n<=65535)(r:List aj):bn ((aZ n 2++r).take 2)=n:=by grind [bA,ha]
theorem pF(n:Nat)(r:List aj):(aZ n 2++r).drop 2=r:=ay
theorem Cs(t:List aj)(ts:List (List aj)):c8 (t::ts)=aZ (κ t) 2++(t++c8 ts):=ay
theorem xJ:∀(ts:List (List aj))(r:List aj),k9 ts->qw (κ ts) (c8 ts++r)=if r=[] then some ts else none
 | [],r,_=>by by_cases h:r=[]<;>simp[qw,c8,h]
 | t::ts,r,h=>by have ht:κ t<=65535:=h t (cV ..);have ih:=xJ ts r (λx hx=>h x (bt _ hx));rw[Cs,Aa8,Aa8,Aal,qw,n0 _ ht,pF,aM (by simp[bA]),aM (by simp[bA]),List.take_left,List.drop_left,ih];by_cases hr:r=[]<;>simp[hr]
theorem BU(ts:List (List aj))(h:sW ts)(r:List aj):mz (ey ts++r)=if r=[] then some ts else none:=by unfold mz ey;rw[aM (by simp[bA]),Aa8,n0 _ h.1,pF,xJ ts r h.2]
theorem KW(b:List aj)(k:Nat):(b.drop (16*k)).drop 16=b.drop (16*(k+1)):=ab
theorem J'(w:af)(v:ah)(b:List aj)(hv:a8 w v b)(l:List au)(hl:Oh b=some l):Aae Aag 239 #[v] w λe w'=>∃u,e=.returned (.tuple #[u,.int .i64 0])/\bf w' w.heap.size u l/\Up w w':=by
 have NO:Oh b≠none:=by rw[hl];exact nofun
 obtain⟨a7,h4⟩:κ b%16=0/\(κ b)<=64000:=yt λh=>NO (aM h);have hlen:=hv.length_le;obtain⟨a,cap,rfl⟩:=hv.slice;have t1:((κ b:Int)%16 != 0)=false:=ab
 have t2:decide ((64000:Int)<(κ b:Int))=false:=ab
 have t3:decide (64000<κ b)=false:=ab
 obtain⟨T,hT⟩:=bK (κ b/16);have HN:=an (show some l=BD (eU b T)by rw[<-hl,hT];exact bo ⟨a7,h4⟩);refine NQ ?_;intro MK;have RM:=an (λW (B:Nat) (hB:B<=W.heap.size)=>ak.room dG 3 87 W (.agg #[i6 0,.int .u64 0,.int .u32 0]) B T hB ae);generalize Acv (Value.agg #[i6 0,.int .u64 0,.int .u32 0]).cells (T*3)=zr at *;have wt:(κ b:Int)/16=(T:Int):=ae
 have al:κ b=16*T:=ae
 have ay:=an al;obtain⟨n0,aB⟩:=bK (κ b);rw[<-aB]at t1 t2 t3 wt ⊢;have aR:=hv;rw[<-aB]at aR;have aS:=an aB;have aI:n0<=64000:=ae
 have aV:T<=4000:=ae
 clear hT a7 al aB h4 hlen;go_in;go_wp2;have aH:=RM w w.heap.size (aG _);obtain⟨g,hg⟩:=bK (w.heap.size);have HG:=an hg;go_loopw [0,4] (λs u wr=>∃(k n ka:Nat)(pa:Option Addr)(out:List au),s=.slice pa n ka/\a8 w (.slice pa n ka) (b.drop (16*k))/\n+16*k=n0/\eU b k=some out/\u=cv g k T/\bf wr w.heap.size (cv g k T) out/\Up w wr) (λs _ _=>Tc s)
 case atStart=>exact⟨0,n0,cap,a,[],rfl,aR,rfl,rfl,aq,aQ,ai _ _⟩
 case round=>
  obtain⟨k,n,ka,pa,out,rfl,hs,aN,aL,rfl,hown,upr⟩:=hrel;clear MK wt hg t1 t2 t3;have aX:k<=T:=dL
  have av:=an aL;have aK:n=κ (b.drop (16*k)):=by rw[hP];have:=aS.out;omega
  obtain⟨aW,a1⟩:=aw aK (kQ aL);clear aL aK;by_cases h0:0<n
  ·have a7:16<=n:=by simp only[Hid]at *;omega
   have aO:k<T:=dL
   have ar:n<=ka:=by
    rcases hs with⟨_,_,_,hx,_,_⟩|⟨_,_,_,hx,_,h1,_⟩
    ·grind
    ·grind
   obtain⟨n',ag⟩:∃x,x=n-16:=⟨_,rfl⟩;obtain⟨v1,aC⟩:=bK (b8 pa 0 16 ka);obtain⟨aP,aF⟩:∃p:Option Addr,p=(if ka=16 then pa else pa.map (·.add (16*1))):=⟨_,rfl⟩;obtain⟨aJ,aU⟩:∃x,x=ka-16:=⟨_,rfl⟩;have PT:∀W,(Aav 30 (.slice pa n ka) none (some (i6 16)) none).run Aag W=.ok v1 W:=λW=>by rw[aC];exact hj (P:=Aag) 30 dr du pa n ka 16 ae W
   have PF:∀W,(Aav 30 (.slice pa n ka) (some (i6 16)) none none).run Aag W=.ok (.slice aP n' aJ) W:=λW=>by have:=di (P:=Aag) 30 dr du pa n ka 16 ae W;rw[aF,ag,aU];exact this
   have V1:=an (show a8 w v1 (jO b k)by have:=aD.piece hs (lo:=0) (hi:=16) ae dL;rw[aC];simpa[jO]using this)
   have V2:=an (show a8 w (.slice aP n' aJ) (b.drop (16*(k+1)))by have:=aD.piece hs (lo:=16) (hi:=n) ae dL;rw[aF,ag,aU,<-KW];rw[dh dL]at this;exact this)
   have aT:=an (show n'+16=n from ae);have t3:decide ((0:Int)<(n:Int))=true:=ab
   have t4:decide (0<n)=true:=ab
   obtain⟨RD,NX⟩:=aw (λW (up:Up w W)=>qk W v1 (jO b k) (V1.up up) (by rw[jO,ev,hP];have:=ay.out;omega)) (nv av);clear aF ag aC aU;unfold RU at RD;go_wp2_with fail;refine(RD _ upr).mono ?_;rintro e w2(⟨p,hp,rfl,ao⟩|⟨hp,rfl,ao⟩)
   case inr=>have h:=HN.out;rw[qj b (k+1) (by rw[NX.out,hp];rfl) T ae]at h;cases h
   case inl=>
    have HF:=an (show eU b (k+1)=some (out++[p])by rw[NX.out,hp];rfl);clear hp;obtain⟨pl,pb,ps⟩:=p;unfold fA;simp only;obtain⟨az,o3⟩:=aA ((upr.trans ao).trans (ai w2 (.cells #[i6 pl,.int .u64 (pb:Int),.int .u32 (ps:Int)] 87))) ((hown.up ao).up (ai w2 (.cells #[i6 pl,.int .u64 (pb:Int),.int .u32 (ps:Int)] 87)));have y0:(w2.alloc (.cells #[i6 pl,.int .u64 pb,.int .u32 ps] 87)).cell? (ad w2.heap.size 0)=some (i6 pl):=dg w2 _ _ _ 0 _ rfl;have y1:(w2.alloc (.cells #[i6 pl,.int .u64 pb,.int .u32 ps] 87)).cell? (ad w2.heap.size 1)=some (.int .u64 pb):=dg w2 _ _ _ 1 _ rfl;have y2:(w2.alloc (.cells #[i6 pl,.int .u64 pb,.int .u32 ps] 87)).cell? (ad w2.heap.size 2)=some (.int .u32 ps):=dg w2 _ _ _ 2 _ rfl;go_wp2_with(at_builtin;refine eM pw rfl (.tmp 33) (.tmp 35) 88 rfl w.heap.size 87 (.agg #[i6 0,.int .u64 0,.int .u32 0]) 24 Aaq hy g T k out a1.symm rfl (o3.up (ai _ _)) (cv (w2.heap.size+1) 1 1) [⟨pl,pb,ps⟩] rfl (rl _ _ (Aa3 _ _).symm pl pb ps) (k+1) (by rw[a1.out];rfl) ae (bN az.size (ai _ _).size) ?_);intro w5 aa _ ax;go_wp2;go_roundw
    case rel=>exact⟨k+1,n',aJ,aP,out++[⟨pl,pb,ps⟩],rfl,V2,dL,HF.out,rfl,aa,(az.alloc _).aE ax (aG _)⟩
    case measure=>have:=aT.out;show n'<n;omega
  ·have aO:k=T:=by simp only[Hid]at *;omega
   subst aO;have t3:decide ((0:Int)<(n:Int))=false:=ab
   have t4:decide (0<n)=false:=ab
   have HF:=HN.out;rw[av.out]at HF;cases hR:hn out
   ·simp only[BD,hR]at HF;cases HF
   ·simp only[BD,hR]at HF;obtain rfl:=dB HF;have LR:=an (λW u (h:cX W u l)=>sx W u l h);rw[hR]at LR;clear hR HF;go_wp2_with fail;refine(LR _ _ (ak.row hown pw)).mono ?_;rintro e w3⟨rfl,az⟩;go_wp2;go_ret2;exact⟨_,rfl,ak.up hown az,upr.trans az⟩
theorem xq{s:List aj}{l:List au}(h:eU s 8=some l):lA s=(l,0):=by grind [lA]
theorem xx{l:List au}(hl:κ l=8)(hw:∀x∈l,x.wf)(hg:jz l=true):lA (cT l)=(l,0):=by grind [xq,oW,m']
theorem uV(s:List aj):∀k l,eU s k=some l->∀x∈l,x.wf/\cw x=true
 | 0,l,h=>by simp[eU]at h;subst h;simp
 | k+1,l,h=>by
  rw[eU]at h;cases h1:eU s k with
  | none=>rw[h1]at h;cases h
  | some m=>
   rw[h1]at h;simp only[Option.map_eq_some_iff]at h;obtain⟨p,hp,rfl⟩:=h;obtain⟨h4,h5,_⟩:=Hf _ _ hp;intro x hx;rcases eT.1 hx with h|h
   ·exact uV s k m h1 x h
   ·simp at h;subst h;exact⟨h4,h5⟩
theorem fW{q:au}{l:List au}(h:node8 C q=some l):∀x∈l,x.wf/\cw x=true:=by grind [oR,eU,lA,xq,uV]
theorem mu(l:List au)(k:Nat)(hk:k<κ l)(p:au):(Aby (aO l).toList (k*3) (be p).toList).toArray=aO (l.set k p):=by have:=nn l [p] k hk;rw[Ib]at this;rw[this];congr 1;rw[Mg,bo hk];simp
theorem ff{l:List au}(h:∀x∈l,x.wf/\cw x=true){p:au}(hp:p.wf/\cw p=true)(k:Nat):(∀x∈l.set k p,x.wf)/\jz (l.set k p)=true:=by grind [cw,m']
theorem h5(h4:4<=i)(hi:i<1024)(s1:1<=st)(s2:st<=281474976710655)(s:cN):(⟨(i:Int),st,dO s⟩:au).wf/\cw ⟨(i:Int),st,dO s⟩=true:=by refine⟨⟨ab,ab,JB _ _⟩,?_⟩;grind [vS]
def sd{s:cN}(hi:i<1024)(h:P.s i=1):bp (P.put i s).s+1=bp P.s:=zM hi h
theorem qh{s:cN}(h:∀j,P.s j=1->4<=j/\j<κ P.C):∀j,(P.put i s).s j=1->4<=j/\j<κ (P.put i s).C:=λj hj=>by
 have aa:e7 P.s i 2 j=1:=hj;unfold e7 at aa;split at aa
 ·cases aa
 ·have:=h j aa;refine⟨this.1,?_⟩;show j<κ (P.C.set i s);rw[Aaz];exact this.2
def YZ(P:bu)(H:aP)(root:au)(i:Nat)(b:cN)(F S:List au)(w:af)(e:Ab1)(w':af):Prop:=(bp P.s<3/\e=.returned (.tuple #[.agg (be root),.slice none 0 0,.int .i64 71])/\PG w H P w')\/(3<=bp P.s/\∃(i1 i2 i3:Nat)(v:ah),i1<1024/\i2<1024/\i3<1024/\P.s i1=1/\e7 P.s i1 2 i2=1/\e7 (e7 P.s i1 2) i2 2 i3=1/\e=.returned (.tuple #[.agg (be ⟨i3,P.st,dO (bL (F.set (i/8) ⟨i2,P.st,dO (bL (S.set (i%8) ⟨i1,P.st,dO b⟩))⟩))⟩),v,.int .i64 0])/\bf w' w.heap.size v (jy [a6 S (i%8),a6 F (i/8),root])/\PT w H (((P.put i1 b).put i2 (bL (S.set (i%8) ⟨i1,P.st,dO b⟩))).put i3 (bL (F.set (i/8) ⟨i2,P.st,dO (bL (S.set (i%8) ⟨i1,P.st,dO b⟩))⟩))) w')
theorem r3{p u v:Tmp}{ty:Aab}(h:fn.results=#[.cell p ty,.tmp u,.tmp v])(tmps:Array ah)(P:bx)(w:af)(g:Nat)(t:Aab)(C:Array ah)(x y:ah)(hp:tmps.getD p Aar=pz g)(hu:tmps.getD u Aar=x)(hv:tmps.getD v Aar=y)(hb:aH w g t C)(d:eJ)(hd:P.underlying ty=some d)(hr:d.isRow=true)(hi:(P.info? ty).map (·.size)=some C.size):(results fn tmps).run P w=.ok (.tuple #[.agg C,x,y]) w:=by
 simp only[results,h];have aJ:tmps[p]?.getD Aar=pz g:=aa
 have ab:tmps[u]?.getD Aar=x:=aa
 have ao:tmps[v]?.getD Aar=y:=aa
 simp[Aaw,Aap,hp,aJ,hu,ab,hv,ao,asAddr,ij (P:=P) ty g t C hb d hd hr hi]
theorem abe:zc Aag 178=aO jZ:=av
theorem abd:zc Aag 176=aO dK:=av
theorem KE{l m:List au}(h':κ m=n)(h:κ l=n):(aO l).size=(aO m).size:=by rw[b7,b7,h,h']
theorem VN(w:af)(H:aP)(P:bu)(A:PA w H P)(root:au)(i:Nat)(hi:i<64)(F S:List au)(hF:node8 P.C root=some F)(hS:node8 P.C (a6 F (i/8))=some S)(vb:ah)(b:List aj)(hb:∀w',Touch (PF H) w w'->a8 w' vb b)(aa:κ b<=128)(hm:P.m<=800000)(hf:∀j,P.s j=1->4<=j/\j<κ P.C)(s1:1<=P.st)(s2:P.st<=281474976710655):Aae Aag 47 #[pz H.pb,.agg (be root),i6 (i:Int),vb] w (YZ P H root i (eK b aa) F S w):=by
 obtain⟨lF,lS,gF,gS⟩:=iJ (cH hF) (cH hS) (fW hF) (fW hS);obtain⟨va,vc,rfl⟩:=(hb w (Touch.refl _ _)).slice;obtain⟨q,hq⟩:=bK (i/8);obtain⟨r,hr⟩:=bK (i%8);have lW:=fh lF lS (a6 S r);obtain⟨IW,s,TW,TR⟩:=iJ (qT (fi F S (a6 S r)) lW) (Fr.n4 A) (λW (B:PA W H P)=>wR W H P B root i hi F S hF hS) (λW=>r2 W F S lF lS (a6 S (i%8)) root i hi);have b0:((i:Int)<64)=True:=ab
 refine FW ?_;intro t1 t2;rw[<-hr]at TW TR;rw[<-hq]at TR;refine Ua ?_;intro ao ak ar al b8 b9 wq wr;replace hq:=an hq;replace hr:=an hr;replace hf:=an hf;go_in;go_wp2_with(refine fw s ?_;intro _ w s);refine(th w i).mono ?_;rintro e w⟨rfl,rfl⟩;go_wp2_with(refine fw s ?_;intro _ w s);refine(TW w s.pa).mono ?_;rintro e w⟨rfl,g3⟩;have s:=s.pg g3;go_wp2_with(refine fw s ?_;intro _ w s);refine(k2 _ H P s.pa).mono ?_;rintro e _⟨rfl,rfl⟩;go_wp2_with fail;refine(jc _ H.mb P.s s.pa.map).mono ?_;rintro e _⟨rfl,rfl⟩;go_wp2_with(refine fw s ?_;intro _ w s)
 ·refine bB ?_;exact .inl ⟨ae,rfl,s.ePG⟩
 have h3:3<=bp P.s:=ae
 refine(Iq w H P s.pa _ b (λw' T=>hb w' (s.t.trans T (λn h _=>h))) aa ae (λj h=>(hf j h).2) ae).mono ?_;rintro e w⟨i1,ad,f1,rfl,d⟩;obtain⟨vp,s⟩:=s.pt d;have GG:=ff gS (h5 (hf i1 f1).1 ad s1 s2 (eK b aa)) r;have Q2:=an (mu S r ae ⟨(i1:Int),P.st,dO (eK b aa)⟩);have aB:r*3+(be ⟨(i1:Int),P.st,dO (eK b aa)⟩).size<=(aO S).size:=by rw[b7,lS];show r*3+3<=24;omega
 have L2:κ (S.set r ⟨(i1:Int),P.st,dO (eK b aa)⟩)=8:=by rw[Aaz];exact lS
 have h1:=sd (P:=P) (s:=eK b aa) ad f1;replace f1:=an f1;go_wp2_with(refine fw s ?_;intro _ w s);refine(n' _ (H.at vp) _ s.pa _ L2 GG.1 GG.2 (show P.m+1<=900000 from ae) (λj h=>(qh hf j h).2) ae).mono ?_;rintro e w⟨i2,ai,f2,rfl,d⟩;obtain⟨vp,s⟩:=s.pt d;have ag:=ff gF (h5 (qh hf i2 f2).1 ai s1 s2 (bL (S.set r ⟨(i1:Int),P.st,dO (eK b aa)⟩))) q;have Q3:=an (mu F q ae ⟨(i2:Int),P.st,dO (bL (S.set r ⟨(i1:Int),P.st,dO (eK b aa)⟩))⟩);have aC:q*3+(be ⟨(i2:Int),P.st,dO (bL (S.set r ⟨(i1:Int),P.st,dO (eK b aa)⟩))⟩).size<=(aO F).size:=by rw[b7,lF];show q*3+3<=24;omega
 have L3:κ (F.set q ⟨(i2:Int),P.st,dO (bL (S.set r ⟨(i1:Int),P.st,dO (eK b aa)⟩))⟩)=8:=Kg
 have h2:=sd (P:=P.put i1 (eK b aa)) (s:=bL (S.set r ⟨(i1:Int),P.st,dO (eK b aa)⟩)) ai f2;replace f2:=an f2;go_wp2_with(refine fw s ?_;intro _ w s);refine(n' _ (H.at vp) _ s.pa _ L3 ag.1 ag.2 (show P.m+1+1<=900000 from ae) (λj h=>(qh (qh hf) j h).2) ae).mono ?_;rintro e w⟨i3,av,f3,rfl,d⟩;obtain⟨vp,s⟩:=s.pt d;replace f3:=an f3;go_wp2_with(refine fw s ?_;intro _ w s);refine kw 5 s (λw s=>?_);repeat refine kt ?_
 refine Df (λw _ _=>TR w) ?_;rintro w _ s _ w'⟨v,rfl,ov,u⟩;refine⟨_,_,rfl,.q ov u s.t.size,?_⟩;refine ks (λw s=>?_);repeat refine kt ?_
 refine kd (λw u s=>?_);go_wp2_with fail;refine bB ?_;exact .inr ⟨h3,i1,i2,i3,v,ad,ai,av,f1,f2,f3,by rw[<-hq.out,<-hr.out];rfl,by rw[<-hq.out,<-hr.out];exact s.Cy,by rw[<-hq.out,<-hr.out];exact s.ePT⟩
def qd(F S:List au):Nat:=if fT S=true/\fT F=true then 0 else if fT S=true then 1 else 2
def R0(P:bu)(H:aP)(root:au)(q r:Nat)(F S:List au)(w:af)(e:Ab1)(w':af):Prop:=(a6 S r=hole/\e=.returned (.tuple #[.agg (be root),.slice none 0 0,.int .i64 0])/\PG w H P w')\/(a6 S r≠hole/\bp P.s<qd (F.set q hole) (S.set r hole)/\e=.returned (.tuple #[.agg (be root),.slice none 0 0,.int .i64 71])/\PG w H P w')\/(a6 S r≠hole/\∃v,bf w' w.heap.size v (jy [a6 S r,a6 F q,root])/\((qd (F.set q hole) (S.set r hole)=0/\e=.returned (.tuple #[.agg (be hole),v,.int .i64 0])/\PG w H P w')\/(qd (F.set q hole) (S.set r hole)=1/\∃i1:Nat,i1<1024/\P.s i1=1/\e=.returned (.tuple #[.agg (be ⟨i1,P.st,dO (bL (F.set q hole))⟩),v,.int .i64 0])/\PT w H (P.put i1 (bL (F.set q hole))) w')\/(qd (F.set q hole) (S.set r hole)=2/\∃i1 i2:Nat,i1<1024/\i2<1024/\P.s i1=1/\e7 P.s i1 2 i2=1/\e=.returned (.tuple #[.agg (be ⟨i2,P.st,dO (bL (F.set q ⟨i1,P.st,dO (bL (S.set r hole))⟩))⟩),v,.int .i64 0])/\PT w H ((P.put i1 (bL (S.set r hole))).put i2 (bL (F.set q ⟨i1,P.st,dO (bL (S.set r hole))⟩))) w')))
theorem gA:hole.wf/\cw hole=true:=by refine⟨⟨ax,ax,ax⟩,ax⟩
theorem Q'(w:af)(H:aP)(P:bu)(A:PA w H P)(root:au)(i q r:Nat)(hi:i<64)(hq:q=i/8)(hr:r=i%8)(F S:List au)(hF:node8 P.C root=some F)(hS:node8 P.C (a6 F q)=some S)(hm:P.m<=800000)(hf:∀j,P.s j=1->4<=j/\j<κ P.C)(s1:1<=P.st)(s2:P.st<=281474976710655):Aae Aag 125 #[.pointer (some ⟨H.pb,0,none⟩),.agg (be root),.int .i64 (i:Int)] w (R0 P H root q r F S w):=by
 obtain⟨lF,lS,gF,gS⟩:=iJ (cH hF) (cH hS) (fW hF) (fW hS);have lW:=fh lF lS (a6 S r);obtain⟨IW,s⟩:=aA (qT (fi F S (a6 S r)) lW) (Fr.n4 A);have b0:((i:Int)<64)=True:=ab
 have EQ:=DB (a6 S r);have TW:=λW (B:PA W H P)=>wR W H P B root i hi F S hF (by rw[<-hq];exact hS);rw[<-hr]at TW;refine Ua ?_;intro ao ak ar al b8 b9 wq wr;obtain⟨Q1,Q2⟩:=aw (mu F q ae hole) (mu S r ae hole);have aE:q*3+(be hole).size<=(aO F).size:=by rw[b7,lF];show q*3+3<=24;omega
 have aB:r*3+(be hole).size<=(aO S).size:=by rw[b7,lS];show r*3+3<=24;omega
 have aj:κ (F.set q hole)=8:=Kg
 have az:κ (S.set r hole)=8:=by rw[Aaz];exact lS
 obtain⟨aq,ax,ES,EF,TR⟩:=xN (ff gF gA q) (ff gS gA r) (λW=>C4 W (S.set r hole) az) (λW=>C4 W (F.set q hole) aj) (λW=>r2 W F S lF lS (a6 S r) root i hi);rw[<-hq]at TR;have ND:=an (show qd (F.set q hole) (S.set r hole)=if fT (S.set r hole)=true/\fT (F.set q hole)=true then 0 else if fT (S.set r hole)=true then 1 else 2 from rfl);replace hf:=an hf;replace hq:=an hq;replace hr:=an hr;go_in;go_wp2_with(refine fw s ?_;intro _ w s);refine(th w i).mono ?_;rintro e w⟨rfl,rfl⟩;go_wp2_with(refine fw s ?_;intro _ w s);refine(TW w s.pa).mono ?_;rintro e w⟨rfl,g3⟩;have s:=s.pg g3;go_wp2_with(refine fw s ?_;intro _ w s)
 ·refine bB ?_;exact .inl ⟨cm,rfl,s.ePG⟩
 have HH:=an (show a6 S r≠hole from cm);refine kb s (λw s=>?_);repeat refine kt ?_
 refine kn (λ_ w u s=>?_);refine kn (λ_ w u s=>?_);refine ks (λw s=>?_);refine ks (λw s=>?_);refine kd (λw u s=>?_);go_wp2_with(refine fw s ?_;intro _ w s);refine(ES w).mono ?_;refine eE ?_;intro w u s;cases ag:fT (S.set r hole);case' false=>have HN:=an (show qd (F.set q hole) (S.set r hole)=2 by rw[ND.out,ag];rfl);go_wp2_with(refine fw s ?_;intro _ w s);refine(ES w).mono ?_;refine eE ?_;intro w u s;rw[ag];go_wp2_with fail
 case' true=>go_wp2_with(refine fw s ?_;intro _ w s);refine(EF w).mono ?_;refine eE ?_;intro w u s;by_cases aa:fT (F.set q hole)=true
 case' neg=>rw[wb]at aa;have HN:=an (show qd (F.set q hole) (S.set r hole)=1 by rw[ND.out,ag,aa];rfl);rw[aa];go_wp2_with(refine fw s ?_;intro _ w s);refine(ES w).mono ?_;refine eE ?_;intro w u s;rw[ag];go_wp2_with fail
 case' pos=>have HN:=an (show qd (F.set q hole) (S.set r hole)=0 by rw[ND.out,ag,aa];rfl);rw[aa];go_wp2_with fail
 all_goals
  refine(k2 _ H P s.pa).mono ?_;rintro e _⟨rfl,rfl⟩;go_wp2_with fail;refine(jc _ H.mb P.s s.pa.map).mono ?_;rintro e _⟨rfl,rfl⟩;go_wp2_with(refine fw s ?_;intro _ w s)
 rotate_left
 ·refine bB ?_;exact .inr (.inl ⟨HH,by rw[HN.out];omega,rfl,s.ePG⟩)
 refine(n' _ H P s.pa _ aj aq.1 aq.2 ae (λj h=>(hf j h).2) ae).mono ?_;rintro e w⟨i1,ad,f1,rfl,d⟩;obtain⟨vp,s⟩:=s.pt d;replace f1:=an f1;go_wp2_with(refine fw s ?_;intro _ w s);rotate_left
 ·refine bB ?_;exact .inr (.inl ⟨HH,by rw[HN.out];omega,rfl,s.ePG⟩)
 refine(n' _ H P s.pa _ az ax.1 ax.2 ae (λj h=>(hf j h).2) ae).mono ?_;rintro e w⟨i1,ad,f1,rfl,d⟩;obtain⟨vp,s⟩:=s.pt d;have av:=ff gF (h5 (hf i1 f1).1 ad s1 s2 (bL (S.set r hole))) q;have Q3:=an ((mu (F.set q hole) q ae ⟨(i1:Int),P.st,dO (bL (S.set r hole))⟩).trans (by rw[wk]));have aC:q*3+(be ⟨(i1:Int),P.st,dO (bL (S.set r hole))⟩).size<=(aO (F.set q hole)).size:=by rw[b7,aj];show q*3+3<=24;omega
 have aD:κ (F.set q ⟨(i1:Int),P.st,dO (bL (S.set r hole))⟩)=8:=Kg
 have h1:=sd (P:=P) (s:=bL (S.set r hole)) ad f1;replace f1:=an f1;go_wp2_with(refine fw s ?_;intro _ w s);refine(n' _ (H.at vp) _ s.pa _ aD av.1 av.2 (show P.m+1<=900000 from ae) (λj h=>(qh hf j h).2) ae).mono ?_;rintro e w⟨i2,ai,f2,rfl,d⟩;obtain⟨vp,s⟩:=s.pt d;replace f2:=an f2;go_wp2_with(refine fw s ?_;intro _ w s);all_goals
  refine kw 5 s (λw s=>?_);repeat refine kt ?_
  refine Df (λw _ _=>TR w) ?_;rintro w _ s _ w'⟨v,rfl,ov,u⟩;refine⟨_,_,rfl,.q ov u s.t.size,?_⟩;refine ks (λw s=>?_);repeat refine kt ?_
  refine kd (λw u s=>?_);go_wp2_with fail;refine bB ?_;refine .inr (.inr ⟨HH,v,s.Cy,?_⟩);first
  | exact .inl ⟨HN,rfl,s.ePG⟩
  | exact .inr (.inl ⟨HN,i1,ad,f1,rfl,s.ePT⟩)
  | exact .inr (.inr ⟨HN,i1,i2,ad,ai,f1,f2,rfl,s.ePT⟩)
def xi(F:List au)(SS:Nat->List au)(st k:Nat):List au:=if e6 (a6 F k) st=true then a6 F k::(SS k).filter (λx=>e6 x st)else []
def jC(F:List au)(SS:Nat->List au)(st k:Nat):List au:=(Aaj k).flatMap (xi F SS st)
def xU(root:au)(F:List au)(SS:Nat->List au)(st:Nat):List au:=if e6 root st=true then root::jC F SS st 8 else []
theorem xj(F:List au)(SS:Nat->List au)(st k:Nat):jC F SS st (k+1)=jC F SS st k++xi F SS st k:=by unfold jC;rw[Abz,gC];simp
theorem Ev{F:List au}{SS:Nat->List au}(h:κ (SS k)=8):κ (xi F SS st k)<=9:=by grind [xi,e6]
theorem nF{F:List au}{SS:Nat->List au}{st:Nat}:∀k,(∀j,j<k->κ (SS j)=8)->κ (jC F SS st k)<=9*k
 | 0,_=>by simp[jC]
 | k+1,h=>by rw[xj,Aaf];have h1:=nF (F:=F) (SS:=SS) (st:=st) k (λj hj=>h j ae);have h2:=Ev (F:=F) (SS:=SS) (st:=st) (h k ae);omega
theorem JQ(p:α->Bool)(l:List α)(k:Nat)(h:k<κ l)(hp:p l[k]=true):(l.take (k+1)).filter p=(l.take k).filter p++[l[k]]:=by rw[en h,ki];simp[hp]
theorem Ph(p:α->Bool)(l:List α)(k:Nat)(h:k<κ l)(hp:p l[k]=false):(l.take (k+1)).filter p=(l.take k).filter p:=by rw[en h,ki];simp[hp]
def Vs(w:af)(p:au)(n:Nat):Aae Aag 119 #[.agg (be p),u6 (n:Int)] w λe w'=>j7 (e6 p n) w e w':=DI w p n
theorem Gh(w:af)(base:Nat)(hb:base<=w.heap.size)(p:au):bf (w.alloc (.cells (be p) 87)) base (cv w.heap.size 1 1) [p]:=by have:=yA (base:=base) (e:=87) (size:=3) w (be p) 1 hb ax rfl;exact this
theorem rr(l:List au)(k:Nat)(h:k<κ l):a6 l k=l[k]:=by grind [a6]
theorem pW(l:List au)(hl:κ l=8)(k:Nat)(h:k<8)(W:af):(Abi 176 (.agg (aO l)) (i6 (k:Int))).run Aag W=.ok (.agg (be (a6 l k))) W:=by grind [rr,Aq]
def abf(l:List au)(H:aP)(P:bu)(w:af)(e:Ab1)(w':af):Prop:=∃v,e=.returned (.tuple #[v,.int .i64 0])/\bf w' w.heap.size v l/\PG w H P w'
theorem IU(w:af)(H:aP)(P:bu)(A:PA w H P)(root:au)(st:Nat)(F:List au)(SS:Nat->List au)(hF:node8 P.C root=some F)(hS:∀k,k<8->node8 P.C (a6 F k)=some (SS k)):Aae Aag 60 #[pz H.pb,.agg (be root),u6 (st:Int)] w (abf (xU root F SS st) H P w):=by
 have lF:=cH hF;obtain⟨U1,HA,SN,LS,aE,LF⟩:=im (ai w (.cells (be root) 87)) A (λW p=>Vs W p st) (show ∀k,k<8->κ (SS k)=8 from λk hk=>cH (hS k hk)) (gX F lF) lF;refine F4 ?_;intro ag;cases hs:e6 root st
 case false=>have HL:=an (show xU root F SS st=[] by unfold xU;rw[hs];rfl);go_in;go_wp2;go_step3;go_wp2_with(refine arm ?_);refine(SN _ root).mono ?_;rintro e w2⟨rfl,u2⟩;rw[hs];clear hs;go_wp2;go_ret2;exact⟨_,rfl,by rw[HL.out];exact ak.nil _ _ _ _ _,PG.of HA (U1.trans u2)⟩
 have HL:=an (show xU root F SS st=root::jC F SS st 8 by unfold xU;rw[hs];rfl);go_in;go_wp2;go_step3;go_wp2_with(refine arm ?_);refine(SN _ root).mono ?_;rintro e w2⟨rfl,u2⟩;obtain⟨B2,G2⟩:=aw ((aH.new w 87 (be root)).up u2) (PG.of HA (U1.trans u2));rw[hs];clear hs;go_wp2_with(refine arm ?_);refine((λW (AW:PA W H P)=>rG W H P AW _ F hF) _ G2.1).mono ?_;rintro e w3⟨rfl,g3⟩;obtain⟨G3,U4,U5⟩:=aW (G2.trans g3) (ai w3 (.cells (aO F) 176)) (ai (w3.alloc (.cells (aO F) 176)) (.cells (be root) 87));clear SN;have SN:=an (λW p=>Vs W p st);go_wp2_with(first
  | refine bD 176 o7 ?_
  | ((with_reducible refine cu _ _ _ ?_);refine fC _ rfl _ (.tmp 8) (.tmp 25) rfl _ _ (aO dK) rfl rfl rfl aE (an (by rw[b7,b7,lF];rfl)) (jK F) ?_)
  | refine cU 87 4 ((B2.az g3.2 (ag _ (aG _))).up U4) ?_
  | ((with_reducible refine dJ _ 1 _ ?_);refine bU rfl 88 _ (.tmp 30) rfl _ 3 _ _ rfl Aaq cy ae ae rfl ?_)
  | refine cU 176 8 ((aH.new _ _ _).up U5) (hi:=aE) ?_)
 go_step3;go_wp2_with(refine arm ?_);clear aE;have a7:=an (show bf ((w3.alloc (.cells (aO F) 176)).alloc (.cells (be root) 87)) w.heap.size (cv (w3.heap.size+1) 1 1) (root::jC F SS st 0)from by have:=(Gh (w3.alloc (.cells (aO F) 176)) w.heap.size (by rw[Aa3];have:=G3.2.size;omega) root);rw[aL]at this;exact this)
 go_loopw [10,33] (λv i wr=>∃k:Nat,k<=8/\i=i6 k/\bf wr w.heap.size v (root::jC F SS st k)/\PG w H P wr) (λ_ i _=>8-(Aat i).toNat)
 case atStart=>exact⟨0,ae,rfl,a7,((G3.up U4).up U5)⟩
 case round=>
  obtain⟨k,hk,rfl,hown,hg⟩:=hrel;obtain⟨HOWN,GR⟩:=aw hown hg;by_cases hlt:k<8
  ·have IX:=pW F LF k hlt;obtain⟨aM,IT,TK,LK⟩:=bR (xj F SS st k) (show xi F SS st k=if e6 (a6 F k) st=true then a6 F k::(SS k).filter (λx=>e6 x st)else [] from rfl) (λW AW=>(λW (AW:PA W H P) k hk=>rG W H P AW _ _ (hS k hk)) W AW k hlt) (LS k hlt);have aI:=nF (F:=F) (SS:=SS) (st:=st) k (λj hj=>LS j ae);have b2:((k:Int)<8)=True:=by simp;omega
   obtain⟨sk,aF⟩:=bK (SS k);have bb:=an aF;rw[<-aF]at IT TK LK;clear aF;generalize a6 F k=x at *;generalize ad:jC F SS st k=il at *;have aK:=an ad;clear ad;have UX:=an (ai wr (.cells (be x) 87));obtain⟨va,vc,rfl⟩:=(ak.row HOWN pw).slice;cases hs:e6 x st
   case false=>
    have NX:=an (show jC F SS st (k+1)=il by rw[aM.out,IT.out,hs];simp);go_wp2_with(refine arm ?_);go_step3;go_wp2_with(refine arm ?_);refine(SN _ x).mono ?_;rintro e w6⟨rfl,u6⟩;obtain⟨G6,O6⟩:=aw (GR.up (UX.trans u6)) (HOWN.up (UX.trans u6));rw[hs];clear hs;go_wp2;rw[Exit.noGoto_exit];go_wp2;go_roundw
    case rel=>exact⟨k+1,ae,aq,by rw[NX.out];exact O6,G6⟩
    case measure=>simp[Aat];omega
   case true=>
    have NX:=an (show jC F SS st (k+1)=il++x::sk.filter (λx=>e6 x st)by rw[aM.out,IT.out,hs];simp);go_wp2_with(refine arm ?_);go_step3;go_wp2_with(refine arm ?_);refine(SN _ x).mono ?_;rintro e w6⟨rfl,u6⟩;obtain⟨G6,O6,B6⟩:=aW (GR.up (UX.trans u6)) (HOWN.up (UX.trans u6)) ((aH.new wr 87 (be x)).up u6);rw[hs];clear hs;go_wp2_with(refine arm ?_);refine(TK _ G6.1).mono ?_;rintro e w7⟨rfl,g7⟩;obtain⟨aQ,U8,U9⟩:=aW (gX sk LK) (ai w7 (.cells (aO sk) 176)) (ai (w7.alloc (.cells (aO sk) 176)) (.cells (be x) 87));obtain⟨Y9,O9,G9,n1,n2⟩:=eI ((aH.new w7 176 (aO sk)).up U9) (((ak.az O6 g7.2 (λb hb=>ag b (O6.aN b hb).1)).up U8).up U9) (((G6.trans g7).up U8).up U9) (show(κ (root::il) + [x].length)*24<=140737488355328 from ab) (show(root::il).length + [x].length<=9223372036854775807 from ab);obtain⟨n3,PR⟩:=aw (show w.heap.size<=((w7.alloc (.cells (aO sk) 176)).alloc (.cells (be x) 87)).heap.size by have:=G9.2.size;omega) (u' (w7.alloc (.cells (aO sk) 176)) _ rfl x);clear TK;go_wp2_with(first
     | refine bD 176 o7 ?_
     | ((with_reducible refine cu _ (.tmp 13) (.tmp 44) ?_);refine fC w7 rfl 176 (.tmp 13) (.tmp 44) rfl (aO sk) 176 (aO dK) rfl rfl rfl aQ (an (by rw[b7,b7,LK.out];rfl)) (jK sk) ?_)
     | refine cU 87 12 ((B6.az g7.2 (ag _ GR.2.size)).up U8) ?_
     | ((with_reducible refine dJ 88 1 _ ?_);refine bU rfl 88 87 (.tmp 50) rfl _ 3 24 (be x) rfl Aaq cy ae ae rfl ?_)
     | (at_builtin;refine bI pw rfl (.tmp 49) (.tmp 51) 88 rfl w.heap.size 87 _ 24 Aaq cy rfl _ (root::il) rfl O9 _ [x] rfl PR n1 n2 n3 ?_))
    intro v6 aV aa aT aU;have cn:=an aa;have aS:=λkk ao=>(O9.aN kk ao).1;have bc:=an (Y9.grown aT (λe=>by
     obtain⟨_,h2⟩:=O9.out;rcases h2 with⟨h3,_⟩|⟨g',av,aB,h3,_,h5,_⟩
     ·simp at h3
     ·simp only[Abp]at h3;rw[h3.1]at e;simp only[Aan,Aai]at e;subst e;have:=Y9.symm.trans h5;simp at this))
    clear n1 n2 n3;go_wp2_with(refine arm ?_);go_step3;go_wp2_with(refine arm ?_);clear aQ;go_loopw [10,54] (λv i wr=>∃j:Nat,j<=8/\i=i6 j/\bf wr w.heap.size v (root::il++x::(sk.take j).filter (λx=>e6 x st))/\PG w H P wr) (λ_ i _=>8-(Aat i).toNat)
    case atStart=>exact⟨0,ae,rfl,(by simpa using cn.out),⟨G9.1.az (Touch.bg (F:=λn=>w.heap.size<=n) aT (λkk ao=>aS kk ao)) (λb hb=>λhle=>ag b hle hb),G9.2.gW aT aS⟩⟩
    case round=>
     obtain⟨j,hj,rfl,hown,hg⟩:=hrel;obtain⟨HOWN,GR⟩:=aw hown hg;by_cases bo:j<8
     ·have IX:=pW sk LK j bo;have aC:j<κ sk:=by rw[LK.out];exact bo
      obtain⟨FY,FN⟩:=aw (JQ (λx=>e6 x st) sk j aC) (Ph (λx=>e6 x st) sk j aC);have aD:=p5 (λx=>e6 x st) (sk.take j);have aj:κ (sk.take j)<=8:=by rw[ev];omega
      rw[<-rr sk j aC]at FY FN;have b3:((j:Int)<8)=True:=ab
      generalize a6 sk j=y at *;generalize(sk.take j).filter (λx=>e6 x st)=fl at *;have aR:κ (root::il++x::fl)<=90:=ab
      obtain⟨ls,al⟩:=bK (root::il++x::fl);have ax:=an al;rw[<-al]at HOWN aR;clear al;obtain⟨UY,BY⟩:=aw (ai wr (.cells (be y) 87)) (aH.new wr 87 (be y));obtain⟨a8,ba,rfl⟩:=(ak.row HOWN pw).slice;clear aC;cases hs:e6 y st
      case false=>
       have FN:=an (FN hs);clear FY;go_wp2_with(refine arm ?_);refine(SN _ y).mono ?_;rintro e bp⟨rfl,ar⟩;rw[hs];clear hs;go_wp2;go_roundw
       case rel=>exact⟨j+1,ae,aq,by rw[FN.out,<-ax.out];exact(HOWN.up (UY.trans ar)),(GR.up (UY.trans ar))⟩
       case measure=>simp[Aat];omega
      case true=>
       have FY:=an (FY hs);clear FN;go_wp2_with(refine arm ?_);refine(SN _ y).mono ?_;rintro e bp⟨rfl,ar⟩;have a1:=an (ai bp (.cells (be y) 87));obtain⟨aA,aX⟩:=aw ((GR.up (UY.trans ar)).up a1) ((HOWN.up (UY.trans ar)).up a1);rw[hs];clear hs;obtain⟨n1,n2,n3,PR⟩:=bR (show(κ ls + [y].length)*24<=140737488355328 from ab) (show κ ls + [y].length<=9223372036854775807 from ab) (show w.heap.size<=(bp.alloc (.cells (be y) 87)).heap.size by have:=aA.2.size;omega) (u' bp _ rfl y);go_wp2_with(first
        | refine arm ?_
        | ((with_reducible refine dJ 88 1 _ ?_);refine bU rfl 88 87 (.tmp 62) rfl _ 3 24 (be y) rfl Aaq cy ae ae rfl ?_)
        | (at_builtin;refine bI pw rfl (.tmp 61) (.tmp 63) 88 rfl w.heap.size 87 _ 24 Aaq cy rfl _ ls rfl aX _ [y] rfl PR n1 n2 n3 ?_))
       intro v7 cT aJ aY bk;have aS:=λkk ao=>(aX.aN kk ao).1;go_wp2;go_roundw
       case rel=>exact⟨j+1,ae,aq,by rw[FY.out];have:=aJ;rw[ax.out]at this;simpa using this,⟨aA.1.az (Touch.bg (F:=λn=>w.heap.size<=n) aY (λkk ao=>aS kk ao)) (λb hb=>λhle=>ag b hle hb),aA.2.gW aY aS⟩⟩
       case measure=>simp[Aat];omega
     ·obtain rfl:j=8:=by omega
      have b3:((8:Nat):Int)=8:=rfl;have ho:=HOWN.out;rw[dh (by rw[LK.out];exact aG _)]at ho;go_wp2;rw[Exit.noGoto_normal];go_wp2;go_roundw
      case rel=>exact⟨k+1,ae,aq,by rw[NX.out];simpa using ho,GR⟩
      case measure=>simp[Aat];omega
  ·obtain rfl:k=8:=by omega
   have b2:((8:Nat):Int)=8:=rfl;go_wp2;try rw[Exit.noGoto_ret]
   go_ret2;exact⟨_,rfl,by rw[HL.out];exact HOWN,GR⟩
structure gv where
 take:Bool
 st:Int
 len:Int
deriving DecidableEq
def gv.sp(m:gv):bM:=⟨m.st,m.len⟩
def uM(m:gv):List ah:=[.bool m.take,.int .i64 m.st,.int .i64 m.len]
def h4(m:gv):Array ah:=#[.bool m.take,.int .i64 m.st,.int .i64 m.len]
def lg(m:bM):Array ah:=#[.int .i64 m.st,.int .i64 m.len]
theorem N3:hL uM 3 where
 pos:=ax
 len:=λ_=>rfl;one:=by intro x u hu;simp[uM]at hu;rcases hu with rfl|rfl|rfl<;>rfl
abbrev tq(w:af)(v:ah)(l:List gv):Prop:=aI uM w v l
abbrev nQ(w:af)(base:Nat)(v:ah)(l:List gv):Prop:=ak uM 3 326 w base v l
theorem j9:(prog.info? 326).map (λi=>(i.zero,i.size,i.bytes))=some (some (.agg #[.bool false,i6 0,i6 0]),3,24):=av
theorem S4(m:gv):(prog.info? 326).map (·.size)=some (h4 m).size:=av
theorem S5(m:bM):(prog.info? 139).map (·.size)=some (lg m).size:=av
theorem Ky(w:af)(m:gv):tq (w.alloc (.cells (h4 m) 326)) (cv w.heap.size 1 1) [m]:=aI.er w _ rfl _ _ _ _ 1 rfl ax rfl
theorem X1(w:af)(m:bM):dS (w.alloc (.cells (lg m) 139)) (cv w.heap.size 1 1) [m]:=aI.er w _ rfl _ _ _ _ 1 rfl ax rfl
theorem QC(s:bM):cq (-1) [s]=gu s:=by grind [cq,gu,dW]
theorem qc(w:af)(m:gv):Aae Aag 246 #[.agg (h4 m)] w λe w'=>LJ (gu m.sp) w e w':=by
 have R1:=an (show(w.alloc (.cells (h4 m) 326)).rangeAt w.heap.size 1 (lg m.sp).toList from λj v hj=>by
  rw[(aH.new w 326 (h4 m)).cell];match j,hj with
  | 0,hj=>exact hj
  | 1,hj=>exact hj)
 have S1:=an (f' _ _ [m.sp] (X1 (w.alloc (.cells (h4 m) 326)) m.sp));rw[QC,aL]at S1;go_in;go_wp2_with(first
  | refine arm ?_
  | ((with_reducible refine dJ 63 1 _ ?_);refine bU rfl 63 139 (.tmp 4) rfl _ 2 16 (lg m.sp) rfl underlying63 vU ae ae rfl ?_))
 refine S1.mono ?_;rintro e w1⟨rfl,u1⟩;go_wp2;go_ret;exact⟨rfl,((ai w (.cells (h4 m) 326)).trans (ai (w.alloc (.cells (h4 m) 326)) (.cells (lg m.sp) 139))).trans u1⟩
theorem OR(s:bM):prog.built 326 [(1,.agg (lg s))]=some (h4 ⟨false,s.st,s.len⟩):=av
theorem OS(s:bM):prog.built 326 [(0,.bool true),(1,.agg (lg s))]=some (h4 ⟨true,s.st,s.len⟩):=av
section
variable {P:bx}
theorem wV{ops:Array Abn}{rest:List Abn}{o:Abn}{a:Act}{w:af}{Q:Exit->Act->af->Prop}(hw:Aaa o (Aa1 ops a.tmps)=true)(t:Aab)(i0:Nat)(x0:bO)(ho:o.op=.build t #[(i0,x0)])(v0:ah)(C:Array ah)(hb:P.built t [(i0,v0)]=some C)(h0:a.eval x0=v0)(h:Aak P ops Q rest (a.put o.dst (.agg C)) w):Aak P ops Q (o::rest) a w:=p3 hw λ_ hK=>wp_build t #[(i0,x0)] ho aQ (hK _ _ (by simpa[hb,h0]using h))
theorem kK{ops:Array Abn}{rest:List Abn}{o:Abn}{a:Act}{w:af}{Q:Exit->Act->af->Prop}(hw:Aaa o (Aa1 ops a.tmps)=true)(t:Aab)(i0 i1:Nat)(x0 x1:bO)(ho:o.op=.build t #[(i0,x0),(i1,x1)])(v0 v1:ah)(C:Array ah)(hb:P.built t [(i0,v0),(i1,v1)]=some C)(h0:a.eval x0=v0)(h1:a.eval x1=v1)(h:Aak P ops Q rest (a.put o.dst (.agg C)) w):Aak P ops Q (o::rest) a w:=p3 hw λ_ hK=>wp_build t #[(i0,x0),(i1,x1)] ho aQ (hK _ _ (by simpa[hb,h0,h1]using h))
end
theorem aI.range{f:α->List ah}{l:List α}(h:aI f w (.slice a n cap) l)(hw:hL f k)(h0:0<κ l):∃b off,a=some ⟨b,off,none⟩/\b<w.heap.size/\n<=cap/\∀i(hi:i<κ l),w.rangeAt b (off+i*k) (f l[i]):=by obtain⟨b,off,h1,h2,h3,h4⟩:=aI.get h hw h0;exact⟨b,off,h1,h2,h3,λi hi j v hj=>aQ⟩
theorem XZ(s:bM):(lg s).all (·.oneCell')=true:=by simp[lg,Ac8]
theorem N4(s:gv):(h4 s).all (·.oneCell')=true:=by simp[h4,Ac8]
theorem zr:∀W:af,(Ab9 139).run Aag W=.ok (.agg (lg ⟨0,0⟩)) W:=by simp[lg]
theorem Du{f:α->List ah}{f':β->List ah}{k k':Nat}{e e':Aab}{v v':ah}{xs:List α}{ys:List β}(h:ak f k e w base v xs)(h':ak f' k' e' w base' v' ys)(he:e≠e'):v.ownBlock=none\/v.ownBlock≠v'.ownBlock:=by exact Mo
def h0(s:bM):gv:=⟨false,s.st,s.len⟩
def dC(s:bM):gv:=⟨true,s.st,s.len⟩
def Hn(a b:List bM):List gv:=(aB (ot (cx a) (cx b)) 4096).map h0++(aB (ot (cx b) (cx a)) 4096).map dC
theorem St(w:af)(va vb:ah)(la lb:List bM)(ha:dS w va la)(aC:∀a m c,va=.slice (some a) m c->a.block<w.heap.size)(hv:dS w vb lb)(hb:∀a m c,vb=.slice (some a) m c->a.block<w.heap.size)(ra:cq (-1) la=true)(rb:cq (-1) lb=true):Aae Aag 276 #[va,vb] w λe w'=>∃u,e=.returned u/\nQ w' w.heap.size u (Hn la lb)/\Up w w':=by
 obtain⟨a1,ao,rfl⟩:=ha.slice;obtain⟨a2,az,rfl⟩:=hv.slice;obtain⟨R1,R2,C1,C2⟩:=bR (λW (u:Up w W)=>f' W _ la (ha.up u)) (λW (u:Up w W)=>f' W _ lb (hv.up u)) (λW (u:Up w W)=>xH W _ _ la lb (ha.up u) (λa m c e=>eg (aC a m c e) u.size) (hv.up u) (λa m c e=>eg (hb a m c e) u.size)) (λW (u:Up w W)=>xH W _ _ lb la (hv.up u) (λa m c e=>eg (hb a m c e) u.size) (ha.up u) (λa m c e=>eg (aC a m c e) u.size));obtain⟨L1,L2⟩:=aA (gG (ot (cx la) (cx lb)) 4096) (gG (ot (cx lb) (cx la)) 4096);have DD:=an (show Hn la lb=(aB (ot (cx la) (cx lb)) 4096).map h0++(aB (ot (cx lb) (cx la)) 4096).map dC from rfl);rw[ra]at R1;rw[rb]at R2;generalize aB (ot (cx la) (cx lb)) 4096=ls at *;generalize aB (ot (cx lb) (cx la)) 4096=ms at *;clear aC hb ra rb;go_in;go_wp2_with fail;refine(R1 _ (Up.refl _)).mono ?_;rintro e w1⟨rfl,u1⟩;go_wp2_with fail;refine(R2 _ u1).mono ?_;rintro e w2⟨rfl,u2⟩;go_wp2_with fail;refine(C1 _ (u1.trans u2)).mono ?_;rintro e w3⟨vx,rfl,av,u3⟩;obtain⟨U3,OX⟩:=aw ((u1.trans u2).trans u3) (av.mono (u1.trans u2).size);obtain⟨xa,xc,rfl⟩:=(av.row BV).slice;go_wp2;go_loopw [5,22] (λv i wr=>∃k:Nat,k<=κ ls/\i=i6 k/\nQ wr w.heap.size v ((ls.take k).map h0)/\hV wr w.heap.size (.slice xa (κ ls) xc) ls/\Up w wr) (λ_ i _=>κ ls-(Aat i).toNat)
 case atStart=>exact⟨0,bE _,rfl,ak.nil _ _ _ _ _,OX,U3⟩
 case round=>
  obtain⟨k,hk,rfl,hown,aF,upr⟩:=hrel;obtain⟨HOWN,au,ag⟩:=aW hown aF upr;by_cases hlt:k<κ ls
  ·obtain⟨b,off,rfl,hbs,bd,hc⟩:=(au.row BV).range BV ae;have b2:((k:Int)<(κ ls:Int))=True:=by simp;omega
   obtain⟨NX,RC⟩:=aw (show(ls.take (k+1)).map h0=(ls.take k).map h0++[h0 ls[k]] by rw[en hlt,Aao];rfl) (hc k hlt);have al:κ ((ls.take k).map h0)<=4096:=ab
   clear hc;generalize ls[k]=p at *;generalize(ls.take k).map h0=il at *;obtain⟨va,vc,rfl⟩:=(ak.row HOWN N3).slice;obtain⟨BX,BD,U4,U5⟩:=bR (aH.new wr 139 (lg p)) (OR p) (ai wr (.cells (lg p) 139)) (ai (wr.alloc (.cells (lg p) 139)) (.cells (h4 (h0 p)) 326));obtain⟨O5,X5,UU,PR,n1,n2⟩:=im ((HOWN.up U4).up U5) ((au.up U4).up U5) ((ag.trans U4).trans U5) (Ky (wr.alloc (.cells (lg p) 139)) (h0 p)) (show(κ il + [h0 p].length)*24<=140737488355328 from ab) (show κ il + [h0 p].length<=9223372036854775807 from ab);have n3:=an (show w.heap.size<=((wr.alloc (.cells (lg p) 139)).alloc (.cells (h4 (h0 p)) 326)).heap.size from UU.size);go_wp2_with(first
    | refine cK 139 24 (lg p) RC ?_
    | refine bD 139 zr ?_
    | refine ed 139 7 25 wr (lg p) 139 (lg ⟨0,0⟩) ?_
    | refine cU 139 7 BX ?_
    | (refine wV rfl 326 _ _ rfl _ (h4 (h0 p)) BD rfl ?_)
    | ((with_reducible refine dJ 270 1 _ ?_);refine bU rfl 270 326 (.tmp 28) rfl _ 3 24 (h4 (h0 p)) rfl Acw j9 ae ae rfl ?_)
    | (at_builtin;refine bI N3 rfl (.tmp 26) (.tmp 29) 270 rfl w.heap.size 326 _ 24 Acw j9 rfl _ il rfl O5 _ [h0 p] rfl PR n1 n2 n3 ?_))
   intro v6 w6 aa aT aU;obtain⟨U6,O6,X6⟩:=aW (Up.aE UU aU (aG _)) aa (ak.kept X5 aT (Du X5 O5 ax));go_wp2;go_roundw
   case rel=>exact⟨k+1,ae,aq,by rw[NX.out];exact O6,X6,U6⟩
   case measure=>simp[Aat];omega
  ·obtain rfl:k=κ ls:=by omega
   refine y7 ?_;intro ho;have HO:=an ho;go_wp2_with fail;refine(C2 _ ag).mono ?_;rintro e w4⟨vy,rfl,aj,u4⟩;obtain⟨U4,OX⟩:=aw (ag.trans u4) (aj.mono ag.size);obtain⟨ya,yc,rfl⟩:=(aj.row BV).slice;generalize ar:ls.map h0=fs at *;have aD:κ fs<=4096:=by rw[<-ar];simp;omega
   have HF:=an ar;clear ar;go_wp2;go_loopw [5,36] (λv i wr=>∃k:Nat,k<=κ ms/\i=i6 k/\nQ wr w.heap.size v (fs++(ms.take k).map dC)/\hV wr w.heap.size (.slice ya (κ ms) yc) ms/\Up w wr) (λ_ i _=>κ ms-(Aat i).toNat)
   case atStart=>exact⟨0,bE _,rfl,by simpa using(HO.up u4),OX,U4⟩
   case round=>
    obtain⟨k,hk,rfl,hown,aF,upr⟩:=hrel;obtain⟨HOWN,au,ag⟩:=aW hown aF upr;by_cases hlt:k<κ ms
    ·obtain⟨b,off,rfl,hbs,bd,hc⟩:=(au.row BV).range BV ae;have b2:((k:Int)<(κ ms:Int))=True:=by simp;omega
     obtain⟨NX,RC⟩:=aw (show fs++(ms.take (k+1)).map dC=fs++(ms.take k).map dC++[dC ms[k]] by rw[en hlt,Aao,Aa8];rfl) (hc k hlt);have al:κ (fs++(ms.take k).map dC)<=8192:=ab
     clear hc;generalize ms[k]=p at *;generalize fs++(ms.take k).map dC=il at *;obtain⟨va,vc,rfl⟩:=(ak.row HOWN N3).slice;obtain⟨BX,BD,U4,U5⟩:=bR (aH.new wr 139 (lg p)) (OS p) (ai wr (.cells (lg p) 139)) (ai (wr.alloc (.cells (lg p) 139)) (.cells (h4 (dC p)) 326));obtain⟨O5,X5,UU,PR,n1,n2⟩:=im ((HOWN.up U4).up U5) ((au.up U4).up U5) ((ag.trans U4).trans U5) (Ky (wr.alloc (.cells (lg p) 139)) (dC p)) (show(κ il + [dC p].length)*24<=140737488355328 from ab) (show κ il + [dC p].length<=9223372036854775807 from ab);have n3:=an (show w.heap.size<=((wr.alloc (.cells (lg p) 139)).alloc (.cells (h4 (dC p)) 326)).heap.size from UU.size);go_wp2_with(first
      | refine cK 139 38 (lg p) RC ?_
      | refine bD 139 zr ?_
      | refine ed 139 9 39 wr (lg p) 139 (lg ⟨0,0⟩) ?_
      | refine cU 139 9 BX ?_
      | (refine kK rfl 326 _ _ _ _ rfl _ _ (h4 (dC p)) BD rfl rfl ?_)
      | ((with_reducible refine dJ 270 1 _ ?_);refine bU rfl 270 326 (.tmp 42) rfl _ 3 24 (h4 (dC p)) rfl Acw j9 ae ae rfl ?_)
      | (at_builtin;refine bI N3 rfl (.tmp 40) (.tmp 43) 270 rfl w.heap.size 326 _ 24 Acw j9 rfl _ il rfl O5 _ [dC p] rfl PR n1 n2 n3 ?_))
     intro v6 w6 aa aT aU;obtain⟨U6,X6⟩:=aw (Up.aE UU aU (aG _)) (ak.kept X5 aT (Du X5 O5 ax));go_wp2;go_roundw
     case rel=>exact⟨k+1,ae,aq,by rw[NX.out];exact aa,X6,U6⟩
     case measure=>simp[Aat];omega
    ·obtain rfl:k=κ ms:=by omega
     refine y7 ?_;intro ho;go_wp2;go_ret;exact⟨_,rfl,by rw[DD.out];exact ho,ag⟩
def sS:List Int:=[1,2,2]
def Zz(m:gv):List Nat:=[if m.take=true then 1 else 0,m.st.toNat,m.len.toNat]
def iQ(m:gv):List aj:=aX sS (Zz m)
def ie(l:List gv):List aj:=l.flatMap iQ
def zd(m:gv):Prop:=gu m.sp=true
theorem jJ(m:gv):κ (iQ m)=5:=ay
theorem ji(l:List gv):κ (ie l)=5*κ l:=by
 induction l with
 | nil=>rfl
 | cons m l ih=>grind [ie,iQ,jJ]
theorem PQ{l:List gv}(h:k<κ l):ie (l.take (k+1))=ie (l.take k)++iQ l[k]:=by unfold ie;rw[en h,gC];simp
theorem xl{m:gv}(h:zd m):∃x y:Nat,m=⟨m.take,x,y⟩/\x<4096/\1<=y/\y<=4096:=by obtain⟨aa,s,l⟩:=m;have:=(dW s l).1 h;exact⟨s.toNat,l.toNat,ab,ae,ae,ae⟩
theorem Bl{n x y:Nat}(hn:n<=1)(hx:x<4096)(hy:y<=4096):nq sS [n,x,y]:=by refine⟨rfl,ax,?_⟩;grind [sS,fits]
def yf(w:af)(v:ah)(ws:List Int)(hv:aD bz w v ws)(hlen:κ ws*8<=140737488351232)(u:ah)(ns:List Nat)(hu:aD cM w u ns)(al:∀n∈ns,n<18446744073709551616)(ak:nq ws ns):Aae Aag 240 #[v,u] w λe w'=>∃v,e=rt #[v,i6 0]/\Own aF 5 w' w.heap.size v (aX ws ns)/\Up w w':=oV w v ws hv hlen u ns hu al ak
theorem vC:∀W:af,(Ab9 326).run Aag W=.ok (.agg (h4 ⟨false,0,0⟩)) W:=by simp[h4]
theorem k1(w:af):Aae Aag 245 #[] w λe w'=>∃v,e=.returned v/\Own bz 3 w' w.heap.size v sS/\Up w w':=by go_in;go_wp2;go_ret;exact⟨_,rfl,(yA (base:=w.heap.size) (e:=3) (size:=1) w #[i6 1,i6 2,i6 2] 3 (aG _) ax rfl),ai _ _⟩
theorem Ed(w:af)(va:ah)(la:List bM)(ha:dS w va la)(aC:∀a m c,va=.slice (some a) m c->a.block<w.heap.size)(ra:cq (-1) la=true):Aae Aag 248 #[va] w λe w'=>∃u,e=.returned u/\nQ w' w.heap.size u (Hn [] la)/\Up w w':=by have D:=an (St w (nl) va [] la (aI.nil _ _) (λa m c h=>aQ) ha aC rfl ra);obtain⟨a1,ao,rfl⟩:=ha.slice;clear aC;go_in;go_wp2_with fail;refine D.mono ?_;rintro e w1⟨u,rfl,own,up⟩;go_wp2;go_ret;exact⟨u,rfl,own,up⟩
theorem K5(w:af)(v:ah)(l:List gv)(hv:tq w v l)(hl:κ l<=4096)(hr:∀m∈l,zd m):Aae Aag 249 #[v] w λe w'=>∃u,e=rt #[u,i6 0]/\Own aF 5 w' w.heap.size u (ie l)/\Up w w':=by
 obtain⟨HV,aI⟩:=aw hv hr;obtain⟨a1,ao,rfl⟩:=hv.slice;have HM:=kH (P:=Aag) 30 5 (.int .u8 0) 1 Aa0 eu (5*κ l) ae ae;rw[show((5*κ l:Nat):Int)=5*(κ l:Int)from ae]at HM;have b1:((κ l:Int)>4096)=False:=ab
 clear hr;go_in;go_wp2;clear HM;go_loopw [4,19] (λv i wr=>∃k:Nat,k<=κ l/\i=i6 k/\Own aF 5 wr w.heap.size v (ie (l.take k))/\Up w wr) (λ_ i _=>κ l-(Aat i).toNat)
 case atStart=>exact⟨0,bE _,rfl,by simpa[ie]using(Own.room aF 5 w (.int .u8 0) w.heap.size (5*κ l) (aG _) ae),(ai w (.cells (j2 (.int .u8 0) (5*κ l)) 5))⟩
 case round=>
  obtain⟨k,hk,rfl,hown,upr⟩:=hrel;obtain⟨HOWN,ag⟩:=aw hown upr;by_cases hlt:k<κ l
  ·obtain⟨b,off,rfl,hbs,bd,hc⟩:=(HV.up ag).range N3 ae;refine iP ?_;intro b2;obtain⟨NX,RC⟩:=aw (PQ hlt) (hc k hlt);obtain⟨RM,LL⟩:=aA (aI _ (cJ hlt)) (ji (l.take k));have LT:κ (l.take k)<=4096:=by rw[ev];omega
   clear hc;generalize l[k]=p at *;obtain⟨x,y,hp,hx,au,hy⟩:=xl RM;have BB:=an (show iQ p=aX sS [if p.take=true then 1 else 0,x,y] by rw[hp];unfold iQ Zz;simp);have aR:κ (ie (l.take k))<=20480:=ae
   clear LL LT;generalize ie (l.take k)=il at *;have RG:=an (λW=>qc W p);rw[show gu p.sp=true from RM]at RG;generalize aj:iQ p=bb at *;have HBL:=an (show κ bb=5 by rw[<-aj,jJ]);clear aj;generalize aY:p.take=aa at *;subst hp;clear aY;obtain⟨BX,U2⟩:=aw (aH.new wr 326 (h4 ⟨aa,x,y⟩)) (ai wr (.cells (h4 ⟨aa,x,y⟩) 326));cases aa
   ·go_wp2_with(first
     | refine cK 326 21 (h4 ⟨false,(x:Int),(y:Int)⟩) RC ?_
     | refine bD 326 vC ?_
     | refine ed 326 6 22 wr (h4 ⟨false,(x:Int),(y:Int)⟩) 326 (h4 ⟨false,0,0⟩) ?_
     | refine cU 326 6 BX ?_)
    refine(RG _).mono ?_;rintro e w3⟨rfl,u3⟩;obtain⟨U3,B3,O3⟩:=aW ((ag.trans U2).trans u3) (BX.up u3) ((HOWN.up U2).up u3);clear RG;have d0:w3.cell? (ad wr.heap.size 0)=some (.bool false):=B3.cell 0;go_wp2;clear d0;refine e3 (S:=λW=>aH W wr.heap.size 326 (h4 ⟨false,(x:Int),(y:Int)⟩)) av ?_;change Acp _ _ _ _ _ 17 _ _ (w3.drew);have UD:=an (Up.drew (Up.refl w3));obtain⟨B3,O3,U3⟩:=aW (B3.up UD) (O3.up UD) (U3.trans UD);generalize w3.drew=w4 at *;have wx:=dP x ae;have wy:=dP y ae;refine ta 1 ?_;refine nf ?_;refine tb 4 rfl (yc (λW hS=>hS.cell 1)) ?_;refine uF ?_;refine tb 8 rfl (yc (λW hS=>hS.cell 2)) ?_;refine ta 9 ?_;have F4:=an (show aH w4 wr.heap.size 326 (h4 ⟨false,(x:Int),(y:Int)⟩)/\Up w4 w4 from⟨B3,Up.refl _⟩);refine so 0 10 av rfl rfl rfl rfl ?_ ?_
    ·intro K hK;go_simp;refine(k1 _).mono ?_;rintro e w5⟨vw,rfl,ow,u5⟩;obtain⟨OW,F5⟩:=aw (ow.mono (F4.2.size)) (show aH w5 wr.heap.size 326 (h4 ⟨false,(x:Int),(y:Int)⟩)/\Up w4 w5 from⟨F4.1.up u5,F4.2.trans u5⟩);refine hK _ _ F5.1 ?_;clear hK K;refine ok 10 ?_;intro K hK;go_simp;have IN:=an (aD.er (f:=cM) w5 w5.heap.size rfl #[.int .u64 0,.int .u64 (x:Int),.int .u64 (y:Int)] 70 (0,0) [0,x,y] 3 rfl dE rfl);have u6:=ai w5 (.cells #[.int .u64 0,.int .u64 (x:Int),.int .u64 (y:Int)] 70);obtain⟨F6,OW⟩:=aw (show aH (w5.alloc (.cells #[.int .u64 0,.int .u64 (x:Int),.int .u64 (y:Int)] 70)) wr.heap.size 326 (h4 ⟨false,(x:Int),(y:Int)⟩)/\Up w4 (w5.alloc (.cells #[.int .u64 0,.int .u64 (x:Int),.int .u64 (y:Int)] 70))from⟨F5.1.up u6,F5.2.trans u6⟩) (OW.up u6);refine hK _ _ F6.1 ?_;clear hK K;generalize w5.alloc (.cells #[.int .u64 0,.int .u64 (x:Int),.int .u64 (y:Int)] 70)=w6 at *;refine ok 11 ?_;intro K hK;obtain⟨va,vc,rfl⟩:=(Own.cC OW).slice;go_simp;refine Na ?_;intro w7 vp op u7 OP;refine TE ?_;clear hK K F4 F5 F6 BB wx wy aI;intro OP OZ UZ ar za zc ak;subst ak;refine y8 ?_;intro n1 n2;go_wp2_with(at_builtin;refine bc aF cp rfl (.tmp 45) (.tmp 46) 30 rfl w.heap.size 5 (.int .u8 0) 1 Aa0 eu rfl _ _ rfl OZ (.slice za 5 zc) bb rfl ar n1 n2 UZ.size ?_);intro v8 w8 al az ax;obtain⟨U8,O8⟩:=aw (UZ.aE ax (aG _)) al;go_wp2;go_roundw
     case rel=>exact⟨k+1,ae,aq,by rw[NX.out];exact O8,U8⟩
     case measure=>simp[Aat];omega
    ·intro K hK;go_simp;have IN:=an (aD.er (f:=cM) w4 w4.heap.size rfl #[.int .u64 0,.int .u64 (x:Int),.int .u64 (y:Int)] 70 (0,0) [0,x,y] 3 rfl dE rfl);have u5:=ai w4 (.cells #[.int .u64 0,.int .u64 (x:Int),.int .u64 (y:Int)] 70);have F5:=an (show aH (w4.alloc (.cells #[.int .u64 0,.int .u64 (x:Int),.int .u64 (y:Int)] 70)) wr.heap.size 326 (h4 ⟨false,(x:Int),(y:Int)⟩)/\Up w4 (w4.alloc (.cells #[.int .u64 0,.int .u64 (x:Int),.int .u64 (y:Int)] 70))from⟨F4.1.up u5,F4.2.trans u5⟩);refine hK _ _ F5.1 ?_;clear hK K;generalize w4.alloc (.cells #[.int .u64 0,.int .u64 (x:Int),.int .u64 (y:Int)] 70)=w5 at *;refine ok 0 ?_;intro K hK;go_simp;refine(k1 _).mono ?_;rintro e w6⟨vw,rfl,ow,u6⟩;obtain⟨OW,F6,IN⟩:=aW (ow.mono (F5.2.size)) (show aH w6 wr.heap.size 326 (h4 ⟨false,(x:Int),(y:Int)⟩)/\Up w4 w6 from⟨F5.1.up u6,F5.2.trans u6⟩) (IN.up u6);refine hK _ _ F6.1 ?_;clear hK K;refine ok 11 ?_;intro K hK;obtain⟨va,vc,rfl⟩:=(Own.cC OW).slice;go_simp;refine Na ?_;intro w7 vp op u7 OP;refine TE ?_;clear hK K F4 F5 F6 BB wx wy aI;intro OP OZ UZ ar za zc ak;subst ak;refine y8 ?_;intro n1 n2;go_wp2_with(at_builtin;refine bc aF cp rfl (.tmp 45) (.tmp 46) 30 rfl w.heap.size 5 (.int .u8 0) 1 Aa0 eu rfl _ _ rfl OZ (.slice za 5 zc) bb rfl ar n1 n2 UZ.size ?_);intro v8 w8 al az ax;have U8:=an (UZ.aE ax (aG _));go_wp2;go_roundw
     case rel=>exact⟨k+1,ae,aq,by rw[NX.out];exact al,U8⟩
     case measure=>simp[Aat];omega
   ·go_wp2_with(first
     | refine cK 326 21 (h4 ⟨true,(x:Int),(y:Int)⟩) RC ?_
     | refine bD 326 vC ?_
     | refine ed 326 6 22 wr (h4 ⟨true,(x:Int),(y:Int)⟩) 326 (h4 ⟨false,0,0⟩) ?_
     | refine cU 326 6 BX ?_)
    refine(RG _).mono ?_;rintro e w3⟨rfl,u3⟩;obtain⟨U3,B3,O3⟩:=aW ((ag.trans U2).trans u3) (BX.up u3) ((HOWN.up U2).up u3);clear RG;have d0:w3.cell? (ad wr.heap.size 0)=some (.bool true):=B3.cell 0;go_wp2;clear d0;refine e3 (S:=λW=>aH W wr.heap.size 326 (h4 ⟨true,(x:Int),(y:Int)⟩)) av ?_;change Acp _ _ _ _ _ 17 _ _ (w3.drew);have UD:=an (Up.drew (Up.refl w3));obtain⟨B3,O3,U3⟩:=aW (B3.up UD) (O3.up UD) (U3.trans UD);generalize w3.drew=w4 at *;have wx:=dP x ae;have wy:=dP y ae;refine ta 1 ?_;refine nf ?_;refine tb 4 rfl (yc (λW hS=>hS.cell 1)) ?_;refine uF ?_;refine tb 8 rfl (yc (λW hS=>hS.cell 2)) ?_;refine ta 9 ?_;have F4:=an (show aH w4 wr.heap.size 326 (h4 ⟨true,(x:Int),(y:Int)⟩)/\Up w4 w4 from⟨B3,Up.refl _⟩);refine so 0 10 av rfl rfl rfl rfl ?_ ?_
    ·intro K hK;go_simp;refine(k1 _).mono ?_;rintro e w5⟨vw,rfl,ow,u5⟩;obtain⟨OW,F5⟩:=aw (ow.mono (F4.2.size)) (show aH w5 wr.heap.size 326 (h4 ⟨true,(x:Int),(y:Int)⟩)/\Up w4 w5 from⟨F4.1.up u5,F4.2.trans u5⟩);refine hK _ _ F5.1 ?_;clear hK K;refine ok 10 ?_;intro K hK;go_simp;have IN:=an (aD.er (f:=cM) w5 w5.heap.size rfl #[.int .u64 1,.int .u64 (x:Int),.int .u64 (y:Int)] 70 (0,0) [1,x,y] 3 rfl dE rfl);have u6:=ai w5 (.cells #[.int .u64 1,.int .u64 (x:Int),.int .u64 (y:Int)] 70);obtain⟨F6,OW⟩:=aw (show aH (w5.alloc (.cells #[.int .u64 1,.int .u64 (x:Int),.int .u64 (y:Int)] 70)) wr.heap.size 326 (h4 ⟨true,(x:Int),(y:Int)⟩)/\Up w4 (w5.alloc (.cells #[.int .u64 1,.int .u64 (x:Int),.int .u64 (y:Int)] 70))from⟨F5.1.up u6,F5.2.trans u6⟩) (OW.up u6);refine hK _ _ F6.1 ?_;clear hK K;generalize w5.alloc (.cells #[.int .u64 1,.int .u64 (x:Int),.int .u64 (y:Int)] 70)=w6 at *;refine ok 11 ?_;intro K hK;obtain⟨va,vc,rfl⟩:=(Own.cC OW).slice;go_simp;refine Nb ?_;intro w7 vp op u7 OP;refine TF ?_;clear hK K F4 F5 F6 BB wx wy aI;intro OP OZ UZ ar za zc ak;subst ak;refine y8 ?_;intro n1 n2;go_wp2_with(at_builtin;refine bc aF cp rfl (.tmp 45) (.tmp 46) 30 rfl w.heap.size 5 (.int .u8 0) 1 Aa0 eu rfl _ _ rfl OZ (.slice za 5 zc) bb rfl ar n1 n2 UZ.size ?_);intro v8 w8 al az ax;obtain⟨U8,O8⟩:=aw (UZ.aE ax (aG _)) al;go_wp2;go_roundw
     case rel=>exact⟨k+1,ae,aq,by rw[NX.out];exact O8,U8⟩
     case measure=>simp[Aat];omega
    ·intro K hK;go_simp;have IN:=an (aD.er (f:=cM) w4 w4.heap.size rfl #[.int .u64 1,.int .u64 (x:Int),.int .u64 (y:Int)] 70 (0,0) [1,x,y] 3 rfl dE rfl);have u5:=ai w4 (.cells #[.int .u64 1,.int .u64 (x:Int),.int .u64 (y:Int)] 70);have F5:=an (show aH (w4.alloc (.cells #[.int .u64 1,.int .u64 (x:Int),.int .u64 (y:Int)] 70)) wr.heap.size 326 (h4 ⟨true,(x:Int),(y:Int)⟩)/\Up w4 (w4.alloc (.cells #[.int .u64 1,.int .u64 (x:Int),.int .u64 (y:Int)] 70))from⟨F4.1.up u5,F4.2.trans u5⟩);refine hK _ _ F5.1 ?_;clear hK K;generalize w4.alloc (.cells #[.int .u64 1,.int .u64 (x:Int),.int .u64 (y:Int)] 70)=w5 at *;refine ok 0 ?_;intro K hK;go_simp;refine(k1 _).mono ?_;rintro e w6⟨vw,rfl,ow,u6⟩;obtain⟨OW,F6,IN⟩:=aW (ow.mono (F5.2.size)) (show aH w6 wr.heap.size 326 (h4 ⟨true,(x:Int),(y:Int)⟩)/\Up w4 w6 from⟨F5.1.up u6,F5.2.trans u6⟩) (IN.up u6);refine hK _ _ F6.1 ?_;clear hK K;refine ok 11 ?_;intro K hK;obtain⟨va,vc,rfl⟩:=(Own.cC OW).slice;go_simp;refine Nb ?_;intro w7 vp op u7 OP;refine TF ?_;clear hK K F4 F5 F6 BB wx wy aI;intro OP OZ UZ ar za zc ak;subst ak;refine y8 ?_;intro n1 n2;go_wp2_with(at_builtin;refine bc aF cp rfl (.tmp 45) (.tmp 46) 30 rfl w.heap.size 5 (.int .u8 0) 1 Aa0 eu rfl _ _ rfl OZ (.slice za 5 zc) bb rfl ar n1 n2 UZ.size ?_);intro v8 w8 al az ax;have U8:=an (UZ.aE ax (aG _));go_wp2;go_roundw
     case rel=>exact⟨k+1,ae,aq,by rw[NX.out];exact al,U8⟩
     case measure=>simp[Aat];omega
  ·obtain rfl:k=κ l:=by omega
   refine y7 ?_;intro ho;go_wp2;go_ret2;exact⟨_,rfl,ho,ag⟩
def Ei(w:af)(v:ah)(ws:List Int)(hv:aD bz w v ws)(hlen:κ ws*8<=140737488351232)(u:ah)(b:List aj)(hu:a8 w u b)(ak:Bj ws b):Aae Aag 177 #[v,u] w λe w'=>∃v,e=rt #[v,i6 0]/\Own cM 70 w' w.heap.size v (cW ws b)/\Up w w':=tR w v ws hv hlen u b hu ak
theorem mf{f:α->ah}{l:List α}(h:aD f w (.slice a n cap) l):n<=cap:=by
 rcases h with⟨rfl,a',av,hv,hm,hn⟩|⟨b,off,av,hv,h0,hl,hm,hc⟩
 ·simp_all
 ·simp_all
def Ol(v:ah):Nat:=match v with | .slice _ n _=>n|_=>0
theorem U3(m:gv):Bj sS (iQ m):=⟨ax,ay⟩
def Zf{n x y:Nat}(hn:n<=1)(hx:x<4096)(hy:y<=4096):cW sS (aX sS [n,x,y])=[n,x,y]:=qP _ _ rfl (Bl hn hx hy).2.2
theorem PO{l:List gv}(h:k<κ l):ie (l.drop k)=iQ l[k]++ie (l.drop (k+1)):=by unfold ie;rw[wc h,Abg]
section
variable {P:bx} {ops:Array Abn} {S:af->Prop} {o:Abn} {v:ah} {a:Act}
theorem wY(hw:Aaa o (Aa1 ops a.tmps)=true)(t:Aab)(i0 i1:Nat)(x0 x1:bO)(ho:o.op=.build t #[(i0,x0),(i1,x1)])(v0 v1:ah)(C:Array ah)(hb:P.built t [(i0,v0),(i1,v1)]=some C)(h0:a.eval x0=v0)(h1:a.eval x1=v1):Ace P ops S o (.agg C) a:=.inl ⟨hw,λw _=>by
  unfold Abs;simp only[ho,List.map_toArray,Acf,List.map_nil,h0,h1,Aaw,run_build w t _ C hb,Aau,Acq]⟩
end
theorem OV(x y:Nat):prog.built 139 [(0,i6 (x:Int)),(1,i6 (y:Int))]=some (lg ⟨x,y⟩):=av
theorem OT(aa:Bool)(x y:Nat):prog.built 326 [(0,.bool aa),(1,.agg (lg ⟨x,y⟩))]=some (h4 ⟨aa,x,y⟩):=av
theorem QU(w:af)(v:ah)(l:List gv)(hv:a8 w v (ie l))(hl:κ l<=4096)(hr:∀m∈l,zd m):Aae Aag 187 #[v] w λe w'=>∃u,e=rt #[u,i6 0]/\nQ w' w.heap.size u l/\Up w w':=by
 obtain⟨HV,aI⟩:=aw hv hr;obtain⟨a1,ao,rfl⟩:=hv.slice;have HM:=mo (P:=Aag) 270 326 _ 3 24 Acw j9 (κ l) ae ae;have r1:((5*(κ l:Int)).tmod 5)=0:=by rw[Int.tmod_eq_emod_of_nonneg ae];omega
 have r2:((5*(κ l:Int)).tdiv 5)=κ l:=by rw[Int.tdiv_eq_ediv_of_nonneg ae];omega
 have b1:((5*(κ l:Int))>20480)=False:=ab
 have q5:((κ (ie l):Nat):Int)=5*(κ l:Int):=by rw[(ji l)];omega
 clear hr;go_in;go_wp2;clear HM r1 r2 b1;go_loopw [0,4] (λu v wr=>∃k:Nat,k<=κ l/\a8 w u (ie (l.drop k))/\nQ wr w.heap.size v (l.take k)/\Up w wr) (λu _ _=>Ol u)
 case atStart=>exact⟨0,bE _,by rw[Aax];exact HV,by rw[Abk];exact(ak.room uM 3 326 w (.agg #[.bool false,i6 0,i6 0]) w.heap.size (κ l) (aG _) ae),(ai w (.cells (Acv (Value.agg #[.bool false,i6 0,i6 0]).cells (κ l*3)) 326))⟩
 case round=>
  obtain⟨k,hk,hu,hown,upr⟩:=hrel;obtain⟨HOWN,ag,HU⟩:=aW hown upr hu;clear q5;have hN:=ji (l.drop k);rw[hP]at hN;obtain⟨za,zc,rfl⟩:=hu.slice;by_cases hlt:k<κ l
  ·obtain⟨NX,DP⟩:=aw (en hlt) (PO hlt);have RM:=aI _ (cJ hlt);have LT:κ (l.take k)<=4096:=by rw[ev];omega
   generalize l[k]=p at *;obtain⟨x,y,hp,hx,au,hy⟩:=xl RM;have RG:=an (λW=>qc W p);rw[show gu p.sp=true from RM]at RG;obtain⟨v1,aC⟩:=bK (b8 za 0 5 zc);obtain⟨v3,aF⟩:=bK (b8 za 5 (κ (ie (l.drop k))) zc);have V1:=an (show a8 w v1 (iQ p)by have:=aD.piece HU (lo:=0) (hi:=5) ae ae;rw[aC];rw[DP.out,Aax,hY (jJ p)]at this;exact this)
   have V3:=an (show a8 w v3 (ie (l.drop (k+1)))by have:=aD.piece HU (lo:=5) (hi:=κ (ie (l.drop k))) ae ae;rw[aF];rw[dh (aG _)]at this;rw[DP.out,lr (jJ p),<-DP.out]at this;exact this)
   have PT:∀W,(Aav 30 (.slice za (κ (ie (l.drop k))) zc) none (some (i6 5)) none).run Aag W=.ok v1 W:=λW=>by rw[aC];exact hj (P:=Aag) 30 dr du za _ zc 5 (by have:=(mf hu);omega) W
   have PF:∀W,(Aav 30 (.slice za (κ (ie (l.drop k))) zc) (some (i6 5)) none none).run Aag W=.ok v3 W:=λW=>by rw[aF];exact di (P:=Aag) 30 dr du za _ zc 5 ae W
   have MS:=an (show Ol v3<κ (ie (l.drop k)) from by rw[aF];show(ie (l.drop k)).length-5<_;omega)
   have b2:((κ (ie (l.drop k)):Nat):Int)>0:=ae
   clear aC aF DP hN;generalize aj:iQ p=bb at *;have aL:=an (U3 p);have GB:=an (show cW sS bb=[if p.take=true then 1 else 0,x,y] by rw[<-aj,hp];unfold iQ Zz;simp only[Abq];exact Zf (by split<;>omega) hx hy)
   rw[aj]at aL;clear aj;generalize aK:p.take=aa at *;subst hp;clear aK;obtain⟨n0,aB⟩:∃n0:Nat,n0=(if aa=true then 1 else 0):=⟨_,rfl⟩;have E0:=an (show decide ((n0:Int)=1)=aa by rw[aB];cases aa<;>simp);have b3:((n0:Int)>1)=False:=by
    have:n0<=1:=by rw[aB];split<;>omega
    simp;omega
   rw[<-aB]at GB;clear aB;have wx:=aY x ae;have wy:=aY y ae;generalize(ie (l.drop k)).length=nn at *;go_wp2;refine e3 (S:=λ_=>True) av ?_;change Acp _ _ _ _ _ 9 _ _ (wr.drew);have UD:=an (Up.drew (Up.refl wr));generalize wr.drew=w4 at *;refine ta 1 ?_;refine ta 2 ?_;refine ok 0 ?_;intro K hK;go_simp;refine(k1 _).mono ?_;rintro e w5⟨vw,rfl,ow,u5⟩;obtain⟨OW,U5⟩:=aw ow (UD.trans u5);refine hK _ _ trivial ?_;clear hK K;refine ok 3 ?_;intro K hK;obtain⟨va,vc,rfl⟩:=(Own.cC OW).slice;go_simp;refine(Ei _ _ sS OW.cC (by simp[sS]) _ bb (V1.up (ag.trans U5)) aL).mono ?_;rintro e w6⟨vn,rfl,on,u6⟩;rw[GB.out]at on;obtain⟨ON,U6⟩:=aw on (U5.trans u6);refine hK _ _ trivial ?_;clear hK K;refine ta 4 ?_;refine uF ?_;refine ta 8 ?_;refine dn ?_;obtain⟨g,az,rfl,aR,hg,hc,_,_⟩:=Own.row ON aq;have c0:w6.cell? (ad g 0)=some (.int .u64 (n0:Int)):=hc 0 aq;obtain⟨C1,C2⟩:=aw (show w6.cell? (ad g 1)=some (.int .u64 (x:Int))from hc 1 aq) (show w6.cell? (ad g 2)=some (.int .u64 (y:Int))from hc 2 aq);clear hc GB PT;go_wp2;have C0:=an c0;clear c0 b3;refine e3 (S:=λW=>W.cell? (ad g 0)=some (.int .u64 (n0:Int))/\W.cell? (ad g 1)=some (.int .u64 (x:Int))/\W.cell? (ad g 2)=some (.int .u64 (y:Int))) av ?_;change Acp _ _ _ _ _ 16 _ _ (w6.drew);have UD:=an (Up.drew (Up.refl w6));obtain⟨F7,U7,aM,HZ⟩:=bR (show w6.drew.cell? (ad g 0)=some (.int .u64 (n0:Int))/\w6.drew.cell? (ad g 1)=some (.int .u64 (x:Int))/\w6.drew.cell? (ad g 2)=some (.int .u64 (y:Int))from⟨UD.cell C0,UD.cell C1,UD.cell C2⟩) ((ag.trans U6).trans UD) (U6.trans UD) UD.size;clear C0 C1 C2;generalize w6.drew=w7 at *;refine ta 0 ?_;refine ta 1 ?_;refine tb 2 rfl (yc (λW hS=>hS.1)) ?_;refine tk 3 (.bool aa) rfl (qI rfl (λ_=>by go_simp;rw[<-E0.out];rfl)) (F7) ?_;refine ta 4 ?_;refine ta 5 ?_;refine tb 6 rfl (yc (λW hS=>hS.2.1)) ?_;refine ta 7 ?_;refine ta 8 ?_;refine ta 9 ?_;refine br ?_;refine tb 10 rfl (yc (λW hS=>hS.2.2)) ?_;refine br ?_;refine ta 11 ?_;refine br ?_;refine tb 12 rfl (wY rfl _ _ _ _ _ rfl _ _ _ (OV x y) rfl rfl) ?_;refine br ?_;refine tb 13 rfl (wY rfl _ _ _ _ _ rfl _ _ _ (OT aa x y) rfl rfl) ?_;refine br ?_;obtain⟨IS,OS⟩:=aw (S4 ⟨aa,x,y⟩) (N4 ⟨aa,x,y⟩);refine ok 14 ?_;intro K hK;refine hB 326 rfl (h4 ⟨false,0,0⟩) vC ?_;have u8:=ai w7 (.cells (h4 ⟨false,0,0⟩) 326);obtain⟨F8,B8⟩:=aw (show(w7.alloc (.cells (h4 ⟨false,0,0⟩) 326)).cell? (ad g 0)=some (.int .u64 (n0:Int))/\(w7.alloc (.cells (h4 ⟨false,0,0⟩) 326)).cell? (ad g 1)=some (.int .u64 (x:Int))/\(w7.alloc (.cells (h4 ⟨false,0,0⟩) 326)).cell? (ad g 2)=some (.int .u64 (y:Int))from⟨u8.cell F7.1,u8.cell F7.2.1,u8.cell F7.2.2⟩) (aH.new w7 326 (h4 ⟨false,0,0⟩));have aS:w6.heap.size<=w7.heap.size:=HZ;refine hK _ _ F8 ?_;refine gq ?_;clear hK K;generalize aJ:w7.alloc (.cells (h4 ⟨false,0,0⟩) 326)=w8 at *;refine ok 15 ?_;intro K hK;refine sE 326 (.tmp 7) (.tmp 54) rfl w7.heap.size (h4 ⟨aa,(x:Int),(y:Int)⟩) rfl rfl 326 (h4 ⟨false,0,0⟩) B8 IS rfl OS ?_;have al:=below_setRow (eZ w7.heap.size w8) (aG _) (h4 ⟨aa,(x:Int),(y:Int)⟩);obtain⟨U9,W9,B9⟩:=aW ((U7.trans u8).aE al U7.size) (show Up wr (w8.setRow w7.heap.size (h4 ⟨aa,(x:Int),(y:Int)⟩))from(aM.trans u8).aE al aM.size) (B8.set (h4 ⟨aa,(x:Int),(y:Int)⟩));obtain⟨UW,g9⟩:=aA (u8.aE al (aG _)) (cQ w8 w7.heap.size (h4 ⟨aa,(x:Int),(y:Int)⟩));have F9:=an (show(w8.setRow w7.heap.size (h4 ⟨aa,(x:Int),(y:Int)⟩)).cell? (ad g 0)=some (.int .u64 (n0:Int))/\(w8.setRow w7.heap.size (h4 ⟨aa,(x:Int),(y:Int)⟩)).cell? (ad g 1)=some (.int .u64 (x:Int))/\(w8.setRow w7.heap.size (h4 ⟨aa,(x:Int),(y:Int)⟩)).cell? (ad g 2)=some (.int .u64 (y:Int))from⟨UW.cell F7.1,UW.cell F7.2.1,UW.cell F7.2.2⟩);refine hK _ _ F9 ?_;clear hK K F8 F7;refine br ?_;generalize w8.setRow w7.heap.size (h4 ⟨aa,(x:Int),(y:Int)⟩)=w9 at *;refine dn ?_;clear F9;go_wp2_with(refine arm ?_);refine(RG _).mono ?_;rintro e aV⟨rfl,aQ⟩;have bN:=an (ai aV (.cells (h4 ⟨aa,x,y⟩) 326));obtain⟨aT,aN⟩:=aw ((W9.trans aQ).trans bN) ((U9.trans aQ).trans bN);obtain⟨bH,PR,n1,n2⟩:=bR (HOWN.up aT) (Ky aV ⟨aa,x,y⟩) (show(κ (l.take k) + [(⟨aa,x,y⟩:gv)].length)*24<=140737488355328 from ab) (show(l.take k).length + [(⟨aa,x,y⟩:gv)].length<=9223372036854775807 from ab);clear RG OS aI HZ;obtain⟨lk,aP⟩:=bK (l.take k);rw[<-aP]at bH n1 n2 NX;clear aP LT;obtain⟨ma,mc,ba⟩:=(ak.row bH N3).slice;rw[ba]at bH;subst ba;go_wp2_with(first
    | refine arm ?_
    | ((with_reducible refine dJ 270 1 _ ?_);refine bU rfl 270 326 (.tmp 59) rfl _ 3 24 (h4 ⟨aa,(x:Int),(y:Int)⟩) rfl Acw j9 ae ae rfl ?_)
    | (at_builtin;refine bI N3 rfl (.tmp 58) (.tmp 60) 270 rfl w.heap.size 326 _ 24 Acw j9 rfl _ lk rfl bH _ [⟨aa,x,y⟩] rfl PR n1 n2 aN.size ?_))
   intro v12 bT ar aU ax;have aO:=an (aN.aE ax (aG _));go_wp2;go_roundw
   case rel=>exact⟨k+1,ae,V3,by rw[NX.out];exact ar,aO⟩
   case measure=>exact MS
  ·obtain rfl:k=κ l:=by omega
   refine y7 ?_;intro ho;have b2:κ (ie (l.drop (κ l)))=0:=by rw[List.drop_length];rfl
   go_wp2;go_ret2;exact⟨_,rfl,ho,ag⟩
section
open Go.Shelf
attribute [local go_sem] kr
def gx(k b off n c j:Nat):ah:=.slice (some ⟨b,off+(c*j)*k,none⟩) (min c (n-c*j)) (min c (n-c*j))
def bj(n c:Nat):Nat:=(n+c-1)/c
theorem fL(hc:0<c):j<bj n c↔c*j<n:=by unfold bj;rw[Nat.lt_iff_add_one_le,Nat.le_div_iff_mul_le hc,Nat.add_mul,Nat.one_mul,uc j c];omega
abbrev rO(m:Nat):={j:Nat // j<m}
def om(Bs:Nat)(b:Nat)(t:Aab):Prop:=b=Bs\/b=Bs+1
theorem Jq(w:af)(a:Option Addr)(n cap:Nat):Aae Aag 290 #[.slice a n cap,i6 128] w λe w'=> e=.returned (.func (.func 296) #[] #[pz w.heap.size,pz (w.heap.size+1)])/\w'=(w.alloc (.cells #[.slice a n cap] 30)).alloc (.cells #[i6 128] 3):=by have c0:=(de (w.alloc (.cells #[.slice a n cap] 30)) (i6 128) 3).1;rw[aL]at c0;go_in;exact eW
theorem Jp(n:Nat)(hn:1<=n)(lp Bs b off nn cap:Nat)(ao:nn<=1000000)(ar:nn<=cap)(J Jx:List Nat->af->Prop)(W:af)(hJ:AbidesFrom W.heap.size J)(hY:∀pre x W1,J pre W1->pre++[x] <+:Aaj (bj nn 128)->YieldAt Abw (n-1) Aag lp #[gx 1 b off nn 128 x] W1 λe W'=>
  (e=.returned (.bool true)/\J (pre++[x]) W'/\cY (om Bs) W1 W')\/(e=.returned (.bool false)/\Jx (pre++[x]) W'))
 (ak:W.cell? (ad Bs 0)=some (sq b off nn cap)) (ai:W.cell? (ad (Bs+1) 0)=some (i6 128)) (h0:J [] W):
 CallsIn Abw n Aag 296 #[.func (.yield lp) #[] #[],pz Bs,pz (Bs+1)] W λe W'=>(∃v,e=.returned v)/\
  ((∃ys,ys=Aaj (bj nn 128)/\J ys W')\/(∃pre,pre <+:Aaj (bj nn 128)/\Jx pre W')):=by
 refine ue func296 rfl trivial ?_ rfl;simp only[ntmps296,Abh,Aal,Aa5,Nat.reduceAdd,Nat.reduceSub,Aa6,Aa7,Abj,Aa9,Aay,Aa2];gi_wp2;gi_loopw [4] (λi wr=>∃j:Nat,j<=bj nn 128/\i=i6 (128*(j:Int))/\J (Aaj j) wr/\cY (om Bs) W wr) (λi _=>nn-(Aat i).toNat)
 case atStart=>exact⟨0,bE _,rfl,h0,cY.refl _⟩
 case round=>
  obtain⟨j,hj,rfl,ax,al⟩:=hrel;obtain⟨x0,x1⟩:=aA (al.cell (a:=⟨Bs,0,none⟩) (λt=>.inl rfl) ak) (al.cell (a:=⟨Bs+1,0,none⟩) (λt=>.inr rfl) ai);obtain⟨HK,HJ⟩:=aw al ax;by_cases hlt:128*j<nn
  ·have b2:(128*(j:Int)<(nn:Int))=True:=by simp;omega
   obtain⟨y0,y1⟩:=aA (dR x0) (dR x1);gi_wp2;clear y0 y1;refine wpIn_wide.2 ?_;refine e3 (S:=λW=>W.cell? (ad Bs 0)=some (sq b off nn cap)/\W.cell? (ad (Bs+1) 0)=some (i6 128)) av ?_;change Acp _ _ _ _ _ 7 _ _ (wr.drew);have UD:=an (Up.drew (Up.refl wr));have F4:=an (show wr.drew.cell? (ad Bs 0)=some (sq b off nn cap)/\wr.drew.cell? (ad (Bs+1) 0)=some (i6 128)from⟨UD.cell x0,UD.cell x1⟩);generalize wr.drew=w4 at *;have PF:∀W,(Aav 30 (sq b off nn cap) (some (i6 (128*(j:Int)))) none none).run Aag W=.ok (partOf 1 (some ⟨b,off,none⟩) (128*j) nn cap) W:=λW=>by have:=fY (P:=Aag) 30 1 av (λW=>av) (some ⟨b,off,none⟩) nn cap (128*j) ae W;rw[show((128*j:Nat):Int)=128*(j:Int)from ae]at this;exact this
   refine tb 0 rfl (yc (λW hS=>hS.2)) ?_;refine tb 1 rfl (yc (λW hS=>hS.1)) ?_;refine nf ?_;refine tk 4 (i6 ((nn-128*j:Nat):Int)) rfl (qI rfl (λ_=>by unfold partOf;go_simp)) (F4) ?_;refine tk 5 (i6 ((min 128 (nn-128*j):Nat):Int)) rfl (qI rfl (λ_=>by go_simp;split<;>omega)) (F4) ?_;refine ta 6 ?_;refine dn ?_;obtain⟨z0,z1,aq⟩:=db F4.1 F4.2 UD;have aQ:=(fL (n:=nn) (c:=128) ae).2 hlt;have aj:Aaj j++[j] <+:Aaj (bj nn 128):=by rw[<-Abz];have:=List.take_prefix (j+1) (Aaj (bj nn 128));rw[List.take_range,Nat.min_eq_left ae]at this;exact this
   clear x0 x1 PF F4;have SL:∀W,(Aav 30 (sq b off nn cap) (some (i6 (128*(j:Int)))) (some (i6 (128*(j:Int)+((min 128 (nn-128*j):Nat):Int)))) (some (i6 (128*(j:Int)+((min 128 (nn-128*j):Nat):Int))))).run Aag W=.ok (gx 1 b off nn 128 j) W:=λW=>by
    rw[run_slice_lhm W 30 (some ⟨b,off,none⟩) nn cap av .i64 .i64 .i64 (128*(j:Int)) (128*(j:Int)+((min 128 (nn-128*j):Nat):Int)) (128*(j:Int)+((min 128 (nn-128*j):Nat):Int)) ae ae ae ae];have e1:(128*(j:Int)).toNat=128*j:=ae
    have e2:(128*(j:Int)+((min 128 (nn-128*j):Nat):Int)).toNat=128*j+min 128 (nn-128*j):=ae
    rw[show(sizeOf (prog.elem 30)).run Aag W=.ok 1 W from av];exact MF
   obtain⟨mm,aU⟩:=bK (min 128 (nn-128*j));rw[<-aU]at SL;have bJ:1<=mm/\mm<=128:=ae
   simp only[<-aU];obtain⟨fn,tmps,assign,body,hy,hR⟩:=(hY _ j _ ((λs A B hs hu=>hJ s A B none hs (l6 hu) (λr e=>by cases e)) _ _ _ HJ aq) aj);clear aU hY;gi_wp2;refine hR.mono ?_;rintro e W3(⟨rfl,hJ3,ag⟩|⟨rfl,aa⟩)
   ·have y1:=ag.cell (a:=⟨Bs+1,0,none⟩) (λt=>.inr rfl) z1;clear z0 z1 SL;gi_wp2;go_roundw
    case rel=>exact⟨j+1,ae,fJ,by rw[Abz];exact hJ3,((HK.trans (jh aq)).trans ag)⟩
    case measure=>simp[Aat];omega
   ·exact MG
  ·have aQ:¬j<bj nn 128:=λh=>hlt ((fL ae).1 h);obtain rfl:j=bj nn 128:=by omega
   have b2:(128*((bj nn 128:Nat):Int)<(nn:Int))=False:=ab
   clear hY;gi_wp2;go_end0;exact⟨⟨_,rfl⟩,.inl ⟨_,rfl,HJ⟩⟩
theorem D8(n:Nat)(hn:1<=n)(Bs b off nn cap:Nat)(ao:nn<=1000000)(ar:nn<=cap)(w:af)(au:Bs+1<w.heap.size)(ak:w.cell? (ad Bs 0)=some (sq b off nn cap))(ai:w.cell? (ad (Bs+1) 0)=some (i6 128)):SeqStopsK Abw n Aag 296 #[pz Bs,pz (Bs+1)] (λx:rO (bj nn 128)=>#[gx 1 b off nn 128 x.1]) (cY (om Bs)) (λys=>ys.map (·.1)=Aaj (bj nn 128)) (λpre=>pre.map (·.1) <+:Aaj (bj nn 128)) (bj nn 128) w:=λl' J Jx W hW hJ _ hY h0=>by
 refine(Jp n hn l' Bs b off nn cap ao ar (λpre W=>∃ps:List (rO (bj nn 128)),ps.map (·.1)=pre/\J ps W) (λpre W=>∃ps:List (rO (bj nn 128)),ps.map (·.1)=pre/\Jx ps W) W (λs A B row hs hg hr=>Fy) ?_ ((hW.cell (p:=⟨Bs,0,none⟩) (show Bs<_ from ae)).trans ak) ((hW.cell (p:=⟨Bs+1,0,none⟩) au).trans ai) ⟨[],rfl,h0⟩).mono ?_
 ·exact Mp
 ·exact y2
theorem Js(w:af)(a:Option Addr)(n cap:Nat):Aae Aag 291 #[.slice a n cap,i6 8] w λe w'=> e=.returned (.func (.func 297) #[] #[pz w.heap.size,pz (w.heap.size+1)])/\w'=(w.alloc (.cells #[.slice a n cap] 88)).alloc (.cells #[i6 8] 3):=by have c0:=(de (w.alloc (.cells #[.slice a n cap] 88)) (i6 8) 3).1;rw[aL]at c0;go_in;exact eW
theorem Jr(n:Nat)(hn:1<=n)(lp Bs b off nn cap:Nat)(ao:nn<=1000000)(ar:nn<=cap)(J Jx:List Nat->af->Prop)(W:af)(hJ:AbidesFrom W.heap.size J)(hY:∀pre x W1,J pre W1->pre++[x] <+:Aaj (bj nn 8)->YieldAt Abw (n-1) Aag lp #[gx 3 b off nn 8 x] W1 λe W'=>
  (e=.returned (.bool true)/\J (pre++[x]) W'/\cY (om Bs) W1 W')\/(e=.returned (.bool false)/\Jx (pre++[x]) W'))
 (ak:W.cell? (ad Bs 0)=some (sq b off nn cap)) (ai:W.cell? (ad (Bs+1) 0)=some (i6 8)) (h0:J [] W):
 CallsIn Abw n Aag 297 #[.func (.yield lp) #[] #[],pz Bs,pz (Bs+1)] W λe W'=>(∃v,e=.returned v)/\
  ((∃ys,ys=Aaj (bj nn 8)/\J ys W')\/(∃pre,pre <+:Aaj (bj nn 8)/\Jx pre W')):=by
 refine ue func297 rfl trivial ?_ rfl;simp only[ntmps297,Abh,Aal,Aa5,Nat.reduceAdd,Nat.reduceSub,Aa6,Aa7,Abj,Aa9,Aay,Aa2];gi_wp2;gi_loopw [4] (λi wr=>∃j:Nat,j<=bj nn 8/\i=i6 (8*(j:Int))/\J (Aaj j) wr/\cY (om Bs) W wr) (λi _=>nn-(Aat i).toNat)
 case atStart=>exact⟨0,bE _,rfl,h0,cY.refl _⟩
 case round=>
  obtain⟨j,hj,rfl,ax,al⟩:=hrel;obtain⟨x0,x1⟩:=aA (al.cell (a:=⟨Bs,0,none⟩) (λt=>.inl rfl) ak) (al.cell (a:=⟨Bs+1,0,none⟩) (λt=>.inr rfl) ai);obtain⟨HK,HJ⟩:=aw al ax;by_cases hlt:8*j<nn
  ·have b2:(8*(j:Int)<(nn:Int))=True:=by simp;omega
   obtain⟨y0,y1⟩:=aA (dR x0) (dR x1);gi_wp2;clear y0 y1;refine wpIn_wide.2 ?_;refine e3 (S:=λW=>W.cell? (ad Bs 0)=some (sq b off nn cap)/\W.cell? (ad (Bs+1) 0)=some (i6 8)) av ?_;change Acp _ _ _ _ _ 7 _ _ (wr.drew);have UD:=an (Up.drew (Up.refl wr));have F4:=an (show wr.drew.cell? (ad Bs 0)=some (sq b off nn cap)/\wr.drew.cell? (ad (Bs+1) 0)=some (i6 8)from⟨UD.cell x0,UD.cell x1⟩);generalize wr.drew=w4 at *;have PF:∀W,(Aav 88 (sq b off nn cap) (some (i6 (8*(j:Int)))) none none).run Aag W=.ok (partOf 3 (some ⟨b,off,none⟩) (8*j) nn cap) W:=λW=>by have:=fY (P:=Aag) 88 3 av (λW=>av) (some ⟨b,off,none⟩) nn cap (8*j) ae W;rw[show((8*j:Nat):Int)=8*(j:Int)from ae]at this;exact this
   refine tb 0 rfl (yc (λW hS=>hS.2)) ?_;refine tb 1 rfl (yc (λW hS=>hS.1)) ?_;refine nf ?_;refine tk 4 (i6 ((nn-8*j:Nat):Int)) rfl (qI rfl (λ_=>by unfold partOf;go_simp)) (F4) ?_;refine tk 5 (i6 ((min 8 (nn-8*j):Nat):Int)) rfl (qI rfl (λ_=>by go_simp;split<;>omega)) (F4) ?_;refine ta 6 ?_;refine dn ?_;obtain⟨z0,z1,aq⟩:=db F4.1 F4.2 UD;have aQ:=(fL (n:=nn) (c:=8) ae).2 hlt;have aj:Aaj j++[j] <+:Aaj (bj nn 8):=by rw[<-Abz];have:=List.take_prefix (j+1) (Aaj (bj nn 8));rw[List.take_range,Nat.min_eq_left ae]at this;exact this
   clear x0 x1 PF F4;have SL:∀W,(Aav 88 (sq b off nn cap) (some (i6 (8*(j:Int)))) (some (i6 (8*(j:Int)+((min 8 (nn-8*j):Nat):Int)))) (some (i6 (8*(j:Int)+((min 8 (nn-8*j):Nat):Int))))).run Aag W=.ok (gx 3 b off nn 8 j) W:=λW=>by
    rw[run_slice_lhm W 88 (some ⟨b,off,none⟩) nn cap av .i64 .i64 .i64 (8*(j:Int)) (8*(j:Int)+((min 8 (nn-8*j):Nat):Int)) (8*(j:Int)+((min 8 (nn-8*j):Nat):Int)) ae ae ae ae];have e1:(8*(j:Int)).toNat=8*j:=ae
    have e2:(8*(j:Int)+((min 8 (nn-8*j):Nat):Int)).toNat=8*j+min 8 (nn-8*j):=ae
    rw[show(sizeOf (prog.elem 88)).run Aag W=.ok 3 W from av];exact MF
   obtain⟨mm,aU⟩:=bK (min 8 (nn-8*j));rw[<-aU]at SL;have bJ:1<=mm/\mm<=8:=ae
   simp only[<-aU];obtain⟨fn,tmps,assign,body,hy,hR⟩:=(hY _ j _ ((λs A B hs hu=>hJ s A B none hs (l6 hu) (λr e=>by cases e)) _ _ _ HJ aq) aj);clear aU hY;gi_wp2;refine hR.mono ?_;rintro e W3(⟨rfl,hJ3,ag⟩|⟨rfl,aa⟩)
   ·have y1:=ag.cell (a:=⟨Bs+1,0,none⟩) (λt=>.inr rfl) z1;clear z0 z1 SL;gi_wp2;go_roundw
    case rel=>exact⟨j+1,ae,fJ,by rw[Abz];exact hJ3,((HK.trans (jh aq)).trans ag)⟩
    case measure=>simp[Aat];omega
   ·exact MG
  ·have aQ:¬j<bj nn 8:=λh=>hlt ((fL ae).1 h);obtain rfl:j=bj nn 8:=by omega
   have b2:(8*((bj nn 8:Nat):Int)<(nn:Int))=False:=ab
   clear hY;gi_wp2;go_end0;exact⟨⟨_,rfl⟩,.inl ⟨_,rfl,HJ⟩⟩
theorem D9(n:Nat)(hn:1<=n)(Bs b off nn cap:Nat)(ao:nn<=1000000)(ar:nn<=cap)(w:af)(au:Bs+1<w.heap.size)(ak:w.cell? (ad Bs 0)=some (sq b off nn cap))(ai:w.cell? (ad (Bs+1) 0)=some (i6 8)):SeqStopsK Abw n Aag 297 #[pz Bs,pz (Bs+1)] (λx:rO (bj nn 8)=>#[gx 3 b off nn 8 x.1]) (cY (om Bs)) (λys=>ys.map (·.1)=Aaj (bj nn 8)) (λpre=>pre.map (·.1) <+:Aaj (bj nn 8)) (bj nn 8) w:=λl' J Jx W hW hJ _ hY h0=>by
 refine(Jr n hn l' Bs b off nn cap ao ar (λpre W=>∃ps:List (rO (bj nn 8)),ps.map (·.1)=pre/\J ps W) (λpre W=>∃ps:List (rO (bj nn 8)),ps.map (·.1)=pre/\Jx ps W) W (λs A B row hs hg hr=>Fy) ?_ ((hW.cell (p:=⟨Bs,0,none⟩) (show Bs<_ from ae)).trans ak) ((hW.cell (p:=⟨Bs+1,0,none⟩) au).trans ai) ⟨[],rfl,h0⟩).mono ?_
 ·exact Mp
 ·exact y2
end
def lR(n b:Nat):Nat:=(n+b-1)/b
theorem wU{n b:Nat}(hb:0<b)(h:1<=n):1<=lR n b:=by unfold lR;exact(Nat.le_div_iff_mul_le hb).2 ae
theorem GQ{s:Nat}(h:1<s):lR s 8<s:=by grind [lR]
def l'(s:Nat):List Nat:=if h:s<=1 then [] else lR s 8::l' (lR s 8)
termination_by s
decreasing_by exact GQ ae
theorem hi{s:Nat}(h:s<=1):l' s=[]:=by grind [l']
theorem kh{s:Nat}(h:1<s):l' s=lR s 8::l' (lR s 8):=by grind [l']
def eB(n:Nat):List Nat:=if 1<=n/\n<=65535 then lR n 128::l' (lR n 128)else []
def dM(n:Nat):Nat:=(eB n).sum
theorem AM:∀(k s:Nat),s<=8 ^ k->κ (l' s)<=k/\(l' s).sum<=s
 | 0,s,h=>by
  have:s<=1:=jG
  rw[hi this];simp
 | k+1,s,h=>by
  by_cases h1:s<=1
  ·rw[hi h1];simp
  ·have h8:lR s 8<=8 ^ k:=by
    unfold lR;have:8 ^ (k+1)=8*8 ^ k:=by rw[yu];omega
    omega
   obtain⟨a,b⟩:=AM k (lR s 8) h8;rw[kh ae];simp only[Aal,Acg];refine⟨ae,?_⟩;unfold lR at *;omega
theorem jj(n:Nat):κ (eB n)<=4/\(eB n).sum<=1024:=by
 unfold eB;split
 ·rename_i h;have h1:lR n 128<=8 ^ 3:=by grind [lR]
  obtain⟨a,b⟩:=AM 3 _ h1;simp;omega
 ·simp
theorem Z2(w:af)(n b:Nat)(hb:1<=b)(hn:n<=1000000)(hb2:b<=1000):Aae Aag 234 #[i6 (n:Int),i6 (b:Int)] w λe w'=>e=.returned (i6 ((lR n b:Nat):Int))/\w'=w:=by
 have e1:((n:Int)+(b:Int)-1).tdiv (b:Int)=((lR n b:Nat):Int):=by unfold lR;grind
 have b0:((b:Int)=0)=False:=ab
 have E1:=an e1;have hq:(lR n b:Int)<=1000000+1000:=by have:lR n b<=n+b-1:=Nat.div_le_self _ _;omega
 go_in;exact eW
theorem AK(w:af)(n:Nat)(hn:n<=1000000):Aae Aag 173 #[.int .i64 (n:Int)] w λe w'=>∃v,e=.returned v/\Own bz 3 w' w.heap.size v ((eB n).map (λk:Nat=>(k:Int)))/\Up w w':=by
 have UA:=an (λW (a b:Nat) (h1:1<=b) (h2:a<=1000000) (h3:b<=1000)=>Z2 W a b h1 h2 h3);by_cases h1:n<1
 ·have HL:=an (show eB n=[] by unfold eB;rw[aM ae]);have b1:((n:Int)<1)=True:=by simp;omega
  exact MH
 have b1:((n:Int)<1)=False:=ab
 by_cases h2:n<=65535
 case neg=>
  have HL:=an (show eB n=[] by unfold eB;rw[aM ae]);have b2:((n:Int)>65535)=True:=ab
  exact MH
 have b2:((n:Int)>65535)=False:=ab
 have aR:=wU (b:=128) ae (show 1<=n from ae);have av:lR n 128<=512:=by unfold lR;omega
 obtain⟨HL,C1,IN,U1⟩:=bR (show eB n=lR n 128::l' (lR n 128)by unfold eB;rw[bo ae]) (UA w n 128 ae ae ae) (show Own bz 3 (w.alloc (.cells #[.int .i64 ((lR n 128:Nat):Int)] 3)) w.heap.size (.slice (some ⟨w.heap.size,0,none⟩) 1 1) [((lR n 128:Nat):Int)] from yA (base:=w.heap.size) (e:=3) (size:=1) w #[.int .i64 ((lR n 128:Nat):Int)] 1 (aG _) dE rfl) (ai w (.cells #[.int .i64 ((lR n 128:Nat):Int)] 3));generalize lR n 128=s0 at *;go_in;go_wp2_with fail;refine C1.mono ?_;rintro e w1⟨rfl,rfl⟩;go_wp2_with fail;obtain⟨w9,aY⟩:=bK (w1);go_loopw [3,4] (λs v wr=>∃k:Nat,∃pre:List Int,1<=k/\k<=512/\s=.int .i64 k/\(κ pre)+k<=1024/\pre++(l' k).map (λk:Nat=>(k:Int))=(eB n).map (λk:Nat=>(k:Int))/\Own bz 3 wr w1.heap.size v pre/\Up w1 wr) (λs _ _=>(Aat s).toNat)
 case atStart=>exact⟨s0,[(s0:Int)],aR,av,rfl,ab,by rw[HL.out];rfl,IN,U1⟩
 case round=>
  obtain⟨k,pre,aj,ar,rfl,aU,ad,hown,upr⟩:=hrel;obtain⟨HOWN,aa,HU⟩:=aW hown ad upr;clear hown ad upr IN U1 aY;by_cases hlt:1<k
  ·have b3:((k:Int)>1)=True:=by simp;omega
   have C2:=an (UA wr k 8 ae ae ae);have ah:=GQ hlt;have ag:=wU (b:=8) ae aj;have LM:=an (kh hlt);generalize lR k 8=k8 at *;obtain⟨va,vc,rfl⟩:=(Own.cC HOWN).slice;have U8:=an (ai wr (.cells #[.int .i64 (k8:Int)] 3));obtain⟨O8,IN,UU⟩:=aW (HOWN.up U8) (aD.er (f:=bz) wr wr.heap.size rfl #[.int .i64 (k8:Int)] 3 (0,0) [(k8:Int)] 1 rfl dE rfl) (HU.trans U8);go_wp2_with fail;refine C2.mono ?_;rintro e w2⟨rfl,rfl⟩;go_wp2_with(at_builtin;refine bc bz pX rfl (.tmp 19) (.tmp 21) 41 rfl w1.heap.size 3 (.int .i64 0) 8 underlying41 qQ rfl _ pre rfl O8 _ [(k8:Int)] rfl IN ab ab UU.size ?_);intro v9 w9 ax az al;obtain⟨U9,O9⟩:=aw (UU.aE al (aG _)) ax;clear ax az al;go_wp2_with fail;go_roundw
   case rel=>exact⟨k8,pre++[(k8:Int)],ag,ae,rfl,ab,by rw[<-aa.out,LM.out];simp,O9,U9⟩
   case measure=>simp[Aat];omega
  ·obtain rfl:k=1:=by omega
   have b3:(((1:Nat):Int)>1)=False:=aq
   have HA:=aa.out;rw[hi (aG _)]at HA;simp only[List.map_nil,Ab5]at HA;have HP:=an HA;clear HA;go_wp2_with fail;go_ret;exact⟨_,rfl,by rw[<-HP.out];exact HOWN,HU⟩
theorem uN(w:af)(n:Nat)(hn:n<=1000000):Aae Aag 256 #[.int .i64 (n:Int)] w λe w'=>e=.returned (.int .i64 (dM n:Int))/\Up w w':=by
 have L:=an (AK w n hn);obtain⟨B1,B2⟩:=jj n;have HN:=an (show dM n=(eB n).sum from rfl);generalize eB n=l at *;go_in;go_wp2_with fail;refine L.mono ?_;rintro e w1⟨v,rfl,ow,up⟩;obtain⟨OW,U1⟩:=aw ow up;obtain⟨va,vc,rfl⟩:=ow.cC.slice;clear ow up;have aR:κ (l.map (λk:Nat=>(k:Int)))=κ l:=aq
 rw[aR];go_wp2_with fail;go_loopw [3,9] (λs i wr=>∃k:Nat,k<=κ l/\i=.int .i64 k/\s=.int .i64 ((l.take k).sum:Nat)/\wr=w1) (λ_ i _=>κ l-(Aat i).toNat)
 case atStart=>exact⟨0,bE _,rfl,rfl,rfl⟩
 case round=>
  obtain⟨k,hk,rfl,rfl,rfl⟩:=hrel;by_cases hlt:k<κ l
  ·obtain⟨b,off,aO,hbs,hc⟩:=cg (Own.cC OW) rfl (by simpa using Nat.lt_of_le_of_lt (bE _) hlt);have x0:=hc k (by simpa using hlt);rw[Adp]at x0;refine oL ?_;intro b3;have SU:(l.take (k+1)).sum=(l.take k).sum+l[k]:=by rw[en hlt,wm];simp only[Acg,Ac4];omega
   have SL:(l.take (k+1)).sum<=1024:=by
    have:=fH (k+1) l;have h2:l.sum=(l.take (k+1)).sum+(l.drop (k+1)).sum:=by rw[<-wm,this]
    omega
   have aa:=an SU;rw[SU]at SL;generalize l[k]=y at *;generalize(l.take k).sum=sm at *;unfold bz at x0;subst aO;clear hc SU;go_wp2_with fail;go_roundw
   case rel=>exact⟨k+1,ae,aq,by rw[aa.out];go_num,trivial⟩
   case measure=>simp[Aat];omega
  ·obtain rfl:k=κ l:=by omega
   have HT:=an (show(l.take (κ l)).sum=l.sum by rw[dh (aG _)]);go_wp2_with fail;go_ret;exact⟨by rw[HN.out,<-HT.out];rfl,U1⟩
section
variable {w w':af} {H:aP} {P:bu}
def mM(w:af)(k:Nat):Prop:=∃C t fr,w.heap[k]?=some (.cells C t fr)
def aH.cellsOf{g:Nat}{t:Aab}{C:Array ah}(h:aH w g t C):mM w g:=⟨_,_,_,h⟩
theorem nr{α:Type}{f:α->List ah}{k:Nat}{e:Aab}{base:Nat}{v:ah}{xs:List α}(h:ak f k e w base v xs){b:Nat}(hb:v.ownBlock=some b):mM w b:=by
 obtain⟨_,h2⟩:=h;rcases h2 with⟨h3,_⟩|⟨g,cap,cur,h3,_,h5,_⟩
 ·rw[h3]at hb;cases hb
 ·rw[h3]at hb;simp only[Aan,Aai]at hb;subst hb;exact⟨_,_,_,h5⟩
theorem PA.cellsOf(A:PA w H P){k:Nat}(h:PF H k):mM w k:=by
 rcases h with rfl|rfl|hf
 ·exact A.e5.cellsOf
 ·obtain⟨C,h1,_⟩:=A.map;exact h1.cellsOf
 ·obtain⟨v,d,_⟩:=A.dev;rcases hf with rfl|rfl|rfl|e
  ·exact d.dev.cellsOf
  ·exact d.b1.cellsOf
  ·exact d.b2.cellsOf
  ·exact nr d.bP e
theorem Touch.others{F:Nat->Prop}(T:Touch F w w')(hF:∀k,F k->mM w k):KeepsOthers w w':=⟨T.size,λk o hk ho=>by
 rw[T.block k ((p2.1 hk).1) (λhf=>?_)]
 ·exact hk
 ·obtain⟨C,t,fr,h⟩:=hF k hf;rw[h]at hk;cases hk;cases ho⟩
theorem Touch.vV{F:Nat->Prop}{p:Nat->Aab->Prop}(T:Touch F w w')(hF:∀b t,p b t->¬F b):cY p w w':=λb cs t fr hb hp=>by rw[T.block b (p2.1 hb).1 (hF b t hp)];exact hb
def zs(w:af)(B:Nat)(row:Option Nat):Prop:=∀r,row=some r->B<=r/\∃o:Obj,w.heap[r]?=some o/\o.isCells=false
theorem mM.ne{k B:Nat}{row:Option Nat}(h:mM w k)(hr:zs w B row):row≠some k:=λe=>by obtain⟨o,h1,h2⟩:=(hr k e).2;obtain⟨C,t,fr,h⟩:=h;rw[h]at h1;cases h1;cases h2
def PA.HF{B:Nat}{row:Option Nat}(A:PA w H P)(hg:w.grownBy w' row)(hr:zs w B row):PA w' H P:=A.az (F:=λk=>row=some k) (Touch.bg hg (λk hk=>hk)) (λb hb e=>(A.cellsOf hb).ne hr e)
end
def bV(P:bu):List (Nat × cN)->bu
 | []=>P
 | (i,s)::l=>bV {P with C:=P.C.set i s,m:=P.m+1,fl:=false} l
theorem r0(P:bu)(l:List (Nat × cN))(i:Nat)(s:cN):bV P (l++[(i,s)])={bV P l with C:=(bV P l).C.set i s,m:=(bV P l).m+1,fl:=false}:=by
 induction l generalizing P with
 | nil=>rfl
 | cons x l ih=>obtain⟨j,u⟩:=x;exact ih _
theorem fX(P:bu)(l:List (Nat × cN)):(bV P l).s=P.s/\(bV P l).st=P.st/\(bV P l).ba=P.ba/\(bV P l).m=P.m+κ l/\(κ (bV P l).C)=κ P.C:=by
 induction l generalizing P with
 | nil=>exact⟨rfl,rfl,rfl,rfl,rfl⟩
 | cons x l ih=>grind [bV]
def ao(st:Nat)(x:Nat × cN):au:=⟨x.1,st,dO x.2⟩
def ns(b:List aj)(j:Nat):List aj:=(b.drop (128*j)).take 128
theorem uS(b:List aj)(j:Nat):κ (ns b j)<=128:=by grind [ns]
def dp(b:List aj)(j:Nat):cN:=eK (ns b j) (uS b j)
theorem Hh(h:a8 w (sq g off (κ b) cap) b)(j:Nat)(hj:128*j<κ b):a8 w (gx 1 g off (κ b) 128 j) (ns b j):=by
 rcases h with⟨h0,_⟩|⟨g',ak,av,hv,h0,hl,hm,hc⟩
 ·simp_all
 ·simp only[Abp,Aai,Abd]at hv;obtain⟨⟨rfl,ab,_⟩,_,rfl⟩:=hv;have hlen:κ (ns b j)=min 128 (κ b-128*j):=by simp[ns]
  refine .inr ⟨g,off+(128*j)*1,min 128 (κ b-128*j),by grind [gx],ae,ae,ae,λi hi=>?_⟩;grind [ns]
section
open Go.Shelf
attribute [local go_sem] kr
def fU(ats:List Nat)(b:List aj)(pre:List Nat):List (Nat × cN):=(ats.take (κ pre)).zip (pre.map (dp b))
theorem rW{ats:List Nat}{b:List aj}{pre:List Nat}(h:κ pre<=κ ats):κ (fU ats b pre)=κ pre:=by grind [fU]
theorem HO{ats:List Nat}{b:List aj}{pre:List Nat}(x:Nat)(h:κ pre<κ ats):fU ats b (pre++[x])=fU ats b pre++[(ats[κ pre],dp b x)]:=by unfold fU;exact NC
theorem VD(w:af)(t1 t2 t3 t4 t5 t6 t7:Aab)(A1 A2 A3 A4 A5 A6 A7:Array ah):let W:=((((((w.alloc (.cells A1 t1)).alloc (.cells A2 t2)).alloc (.cells A3 t3)).alloc (.cells A4 t4)).alloc (.cells A5 t5)).alloc (.cells A6 t6)).alloc (.cells A7 t7);Up w W/\aH W w.heap.size t1 A1/\aH W (w.heap.size+1) t2 A2/\aH W (w.heap.size+1+1) t3 A3/\aH W (w.heap.size+1+1+1) t4 A4/\aH W (w.heap.size+1+1+1+1) t5 A5/\aH W (w.heap.size+1+1+1+1+1) t6 A6/\aH W (w.heap.size+1+1+1+1+1+1) t7 A7:=by
 intro W;have b1:=aH.new w t1 A1;obtain⟨w1,al⟩:=bK (w.alloc (.cells A1 t1));have s1:w1.heap.size=w.heap.size+1:=by rw[al,aL]
 have b2:=aH.newAt w1 _ s1.symm t2 A2;obtain⟨w2,hw2⟩:=bK (w1.alloc (.cells A2 t2));have s2:w2.heap.size=w.heap.size+1+1:=by rw[hw2,aL,s1]
 have b3:=aH.newAt w2 _ s2.symm t3 A3;obtain⟨w3,aa⟩:=bK (w2.alloc (.cells A3 t3));have s3:w3.heap.size=w.heap.size+1+1+1:=by rw[aa,aL,s2]
 have b4:=aH.newAt w3 _ s3.symm t4 A4;obtain⟨w4,hw4⟩:=bK (w3.alloc (.cells A4 t4));have s4:w4.heap.size=w.heap.size+1+1+1+1:=by rw[hw4,aL,s3]
 have b5:=aH.newAt w4 _ s4.symm t5 A5;obtain⟨w5,aJ⟩:=bK (w4.alloc (.cells A5 t5));have s5:w5.heap.size=w.heap.size+1+1+1+1+1:=by rw[aJ,aL,s4]
 have b6:=aH.newAt w5 _ s5.symm t6 A6;obtain⟨w6,ab⟩:=bK (w5.alloc (.cells A6 t6));have s6:w6.heap.size=w.heap.size+1+1+1+1+1+1:=by rw[ab,aL,s5]
 have hW:W=w6.alloc (.cells A7 t7):=by rw[ab,aJ,hw4,aa,hw2,al]
 rw[hW];have u1:Up w w1:=by rw[al];exact ai _ _
 have u2:Up w1 w2:=by rw[hw2];exact ai _ _
 have u3:Up w2 w3:=by rw[aa];exact ai _ _
 have u4:Up w3 w4:=by rw[hw4];exact ai _ _
 have u5:Up w4 w5:=by rw[aJ];exact ai _ _
 have u6:Up w5 w6:=by rw[ab];exact ai _ _
 have u7:=ai w6 (.cells A7 t7);rw[<-al]at b1;rw[<-hw2]at b2;rw[<-aa]at b3;rw[<-hw4]at b4;rw[<-aJ]at b5;rw[<-ab]at b6;exact⟨(((((u1.trans u2).trans u3).trans u4).trans u5).trans u6).trans u7,(((((b1.up u2).up u3).up u4).up u5).up u6).up u7,((((b2.up u3).up u4).up u5).up u6).up u7,(((b3.up u4).up u5).up u6).up u7,((b4.up u5).up u6).up u7,(b5.up u6).up u7,b6.up u7,(aH.newAt w6 _ s6.symm t7 A7)⟩
structure il(tc:Aab)(cn:Int)(w:af)(H:aP)(P:bu)(va vb:ah)(its:List (Nat × cN))(outs:List au)(vp ab:ah)(W:af):Prop where
 ht:uW tc=false/\tc≠87
 pa:PA W (H.at vp) (bV P its)
 t:Touch (PF H) w W
 o:∀k,vp.ownBlock=some k->H.h.vp.ownBlock=some k\/w.heap.size<=k
 x3:aH W w.heap.size 94 #[.pointer (some ⟨H.pb,0,none⟩)]
 x5:aH W (w.heap.size+1) 41 #[va]
 x6:aH W (w.heap.size+1+1) 88 #[.slice none 0 0]
 x7:aH W (w.heap.size+1+1+1) 50 #[.int .i64 0]
 x8:aH W (w.heap.size+1+1+1+1) 88 #[ab]
 c1:aH W (w.heap.size+1+1+1+1+1) tc #[vb]
 c2:aH W (w.heap.size+1+1+1+1+1+1) 3 #[.int .i64 cn]
 ov:bf W w.heap.size ab outs
def il.up{tc:Aab}{cn:Int}{w:af}{H:aP}{P:bu}{va vb:ah}{its:List (Nat × cN)}{outs:List au}{vp ab:ah}{W W':af}(J:il tc cn w H P va vb its outs vp ab W)(u:Up W W'):il tc cn w H P va vb its outs vp ab W':=⟨J.ht,J.pa.up u,J.t.iK u,J.o,J.x3.up u,J.x5.up u,J.x6.up u,J.x7.up u,J.x8.up u,J.c1.up u,J.c2.up u,J.ov.up u⟩
theorem il.put{tc:Aab}{cn:Int}{w:af}{H:aP}{P:bu}{va vb:ah}{its ae:List (Nat × cN)}{outs:List au}{vp ab:ah}{W W':af}(J:il tc cn w H P va vb its outs vp ab W)(D:PT W (H.at vp) (bV P ae) W'):(∃aa,il tc cn w H P va vb ae outs aa ab W')/\Touch (PF (H.at vp)) W W':=by
 have⟨bj,A1,T1,O1⟩:=D;obtain⟨ao,A2,T2,O2⟩:=PT.then J.t J.o D;have no:∀{g:Nat}{t:Aab}{C:Array ah},aH W g t C->uW t=false->¬PF (H.at vp) g:=λh1 h2=>J.pa.cc h1 h2;exact⟨⟨ao,J.ht,A2,T2,O2,J.x3.az T1 (no J.x3 ax),J.x5.az T1 (no J.x5 ax),J.x6.az T1 (no J.x6 ax),J.x7.az T1 (no J.x7 ax),J.x8.az T1 (no J.x8 ax),J.c1.az T1 (no J.c1 J.ht.1),J.c2.az T1 (no J.c2 ax),
  ak.az J.ov T1 (λk hk=>by
   obtain⟨_,h2⟩:=J.ov
   rcases h2 with⟨h3,_⟩|⟨g,cap,cur,h3,_,h5,_⟩
   ·
    rw[h3]at hk;cases hk
   ·
    rw[h3]at hk
    simp only[Aan,Aai]at hk
    subst hk
    exact J.pa.cc (t:=87) (C:=cur) h5 ax)⟩,T1⟩
theorem il.grow{tc:Aab}{cn:Int}{w:af}{H:aP}{P:bu}{va vb:ah}{its:List (Nat × cN)}{outs:List au}{vp ab:ah}{W W':af}(J:il tc cn w H P va vb its outs vp ab W){g:Nat}(hg:W.grownBy W' (some g))(hn:¬PF (H.at vp) g)(h0:w.heap.size+7<=g)(hv:ab.ownBlock≠some g):il tc cn w H P va vb its outs vp ab W':=⟨J.ht,J.pa.grown hg hn,J.t.gW hg (λk hk=>aQ),J.o,J.x3.grown hg (λe=>aQ),J.x5.grown hg (λe=>aa),J.x6.grown hg (λe=>aQ),J.x7.grown hg (λe=>aQ),J.x8.grown hg (λe=>aQ),J.c1.grown hg (λe=>aQ),J.c2.grown hg (λe=>aQ),ak.kept J.ov hg (.inr hv)⟩
theorem il.push{tc:Aab}{cn:Int}{w:af}{H:aP}{P:bu}{va vb:ah}{its:List (Nat × cN)}{outs ad:List au}{vp ab v':ah}{W W1:af}(J:il tc cn w H P va vb its outs vp ab W)(hg:W.grownBy W1 ab.ownBlock)(own:bf W1 w.heap.size v' ad):il tc cn w H P va vb its ad vp v' (W1.setCell ⟨w.heap.size+1+1+1+1,0,none⟩ v')/\aH W1 (w.heap.size+1+1+1+1) 88 #[ab]/\KeepsOthers W W1:=by
 have ne:∀{b:Nat}{t:Aab}{C:Array ah},aH W b t C->t≠87->ab.ownBlock≠some b:=λh1 h2=>i' h2 h1 J.ov;have y8:=J.x8.grown hg (ne J.x8 ax);have g2:=b0 y8 0 v';have A1:PA W1 (H.at vp) (bV P its):=J.pa.az (F:=λk=>ab.ownBlock=some k) (Touch.bg hg (λk hk=>hk)) (λk hk e=>by
  obtain⟨_,h2⟩:=J.ov;rcases h2 with⟨h3,_⟩|⟨g,cap,cur,h3,_,h5,_⟩
  ·rw[h3]at e;cases e
  ·rw[h3]at e;simp only[Aan,Aai]at e;subst e;exact J.pa.cc (t:=87) (C:=cur) h5 ax hk)
 refine⟨⟨J.ht,A1.grown g2 (A1.cc y8 ax),(J.t.gW hg (λk hk=>(J.ov.aN k hk).1)).gW g2 (λk hk=>aQ),J.o,?_,?_,?_,?_,?_,?_,?_,?_⟩,y8,?_⟩
 ·exact(J.x3.grown hg (ne J.x3 ax)).grown g2 (λe=>aQ)
 ·exact(J.x5.grown hg (ne J.x5 ax)).grown g2 (λe=>aQ)
 ·exact(J.x6.grown hg (ne J.x6 ax)).grown g2 (λe=>aQ)
 ·exact(J.x7.grown hg (ne J.x7 ax)).grown g2 (λe=>aa)
 ·exact y8.setCell 0 v'
 ·exact(J.c1.grown hg (ne J.c1 J.ht.2)).grown g2 (λe=>aa)
 ·exact(J.c2.grown hg (ne J.c2 ax)).grown g2 (λe=>aa)
 ·exact ak.kept own g2 (.inr (i' ax y8 own))
 ·exact Ado hg (λj o e h=>by obtain⟨C,t,fr,hc⟩:=nr J.ov e;rw[hc]at h;cases h;rfl)
theorem il.vV{tc:Aab}{cn:Int}{w:af}{H H':aP}{P P':bu}{va vb:ah}{its ae:List (Nat × cN)}{outs ad:List au}{vp ab aa ag:ah}{W W':af}(J:il tc cn w H P va vb its outs vp ab W)(J':il tc cn w H' P' va vb ae ad aa ag W'):cY (om (w.heap.size+1+1+1+1+1)) W W':=λb cs t fr hb hp=>by
 rcases hp with rfl|rfl
 ·rw[<-hb,show W.heap[_]?=_ from J.c1];exact J'.c1
 ·rw[<-hb,show W.heap[_]?=_ from J.c2];exact J'.c2
theorem il.fin{tc:Aab}{cn:Int}{w:af}{H:aP}{P:bu}{va vb:ah}{its:List (Nat × cN)}{outs:List au}{vp ab:ah}{W:af}(J:il tc cn w H P va vb its outs vp ab W)(v6 v7:ah)(D:Nat)(hD:w.heap.size<=D)(hK:W.heap[D]?=some (.deferred (some []))):let W1:=(W.setCell ⟨w.heap.size+1+1,0,none⟩ v6).setCell ⟨w.heap.size+1+1+1,0,none⟩ v7;W1.heap[D]?=some (.deferred (some []))/\(W1.putObj D (.deferred none)).cell? (ad (w.heap.size+1+1) 0)=some v6/\(W1.putObj D (.deferred none)).cell? (ad (w.heap.size+1+1+1) 0)=some v7/\bf (W1.putObj D (.deferred none)) w.heap.size ab outs/\PT w H (bV P its) (W1.putObj D (.deferred none)):=by
 intro W1;have g1:=b0 J.x6 0 v6;have y6:aH (W.setCell ⟨w.heap.size+1+1,0,none⟩ v6) (w.heap.size+1+1) 88 #[v6]:=J.x6.setCell 0 v6;have y7:=J.x7.grown g1 (λe=>by have:=dB e;omega);obtain⟨g2,z7⟩:=aA (b0 y7 0 v7) (y7.setCell 0 v7);have z6:=y6.grown g2 (λe=>by have:=dB e;omega);have A1:=J.pa.grown g1 (J.pa.cc J.x6 ax);have o1:=ak.kept J.ov g1 (.inr (i' ax J.x6 J.ov));have o2:=ak.kept o1 g2 (.inr (i' ax y7 o1));have aq:W1.heap[D]?=some (.deferred (some [])):=((p7 W _ _).trans (p7 _ _ _)).same D _ hK rfl;have g3:=yE W1 D (.deferred none);have hr:zs W1 w.heap.size (some D):=λr e=>by cases e;exact⟨hD,_,aq,rfl⟩
 exact⟨aq,((z6.grown g3 (z6.cellsOf.ne hr)).cell 0),((z7.grown g3 (z7.cellsOf.ne hr)).cell 0),ak.kept o2 g3 (by
  cases hv:ab.ownBlock with
  | none=>exact .inl rfl
  | some k=>exact .inr (λe=>(nr o2 hv).ne hr e.symm)),vp,(A1.grown g2 (A1.cc y7 ax)).HF g3 hr,((J.t.gW g1 (λk hk=>by cases hk;omega)).gW g2 (λk hk=>by cases hk;omega)).gW g3 (λk hk=>by cases hk;exact hD),J.o⟩
def rH{W W':af}(u:Up W W'):KeepsOthers W W':=(Touch.bW (F:=λ_=>False) u).others (λ_ h=>h.elim)
theorem jA{W W':af}{g:Nat}(hg:W.grownBy W' (some g))(hc:mM W g):KeepsOthers W W':=Ado hg (λj o e h=>by cases e;obtain⟨C,t,fr,hc⟩:=hc;rw[hc]at h;cases h;rfl)
def RZ(tc:Aab)(cn:Int)(w:af)(H:aP)(P:bu)(va vb:ah)(its:List (Nat × cN))(W:af):Prop:=∃vp ab,il tc cn w H P va vb its (its.map (ao P.st)) vp ab W
section
variable {F:Fence} {n:Nat} {P:bx} {ops:Array Abn} {a:Act} {w:af} {Q:Exit->Act->af->Prop} {rest:List Abn} {dst:Option Tmp} {type:Aab} {pos:String} {after:Array Edge} {guard:Option (Nat × Bool)}
def yg(ty:TypeId)(x:bO)(h:wpListIn F n P ops Q ({dst:=dst,op:=.load ty x,type:=type,pos:=pos,after:=after,guard:=guard}::rest) a w):wpListIn F n P ops Q ({dst:=dst,op:=.load ty x,type:=type,pos:=pos,after:=after,guard:=guard}::rest) a w:=h
def mZ{l:Nat}(ao:¬LetsOut Q){os:List Abn}(hd:ri os.toArray=true)(h:Hid (Aak P ops Q os a w)):wpListIn (Fence.wide.inRound l) n P ops Q os a w:=EC ao os a w (H9 hd) h
end
theorem DS(tc:Aab)(cn:Int)(w:af)(H:aP)(P:bu)(va vb:ah)(f:List α->List (Nat × cN))(B:Nat)(hB:w.heap.size<=B):OwnFrom B (λpre W=>RZ tc cn w H P va vb (f pre) W):=by
 rintro pre W W' row⟨vp,ab,⟨ht,A,T,O,X3,X5,X6,X7,X8,C1,C2,OV⟩⟩hg hr;exact⟨vp,ab,ht,A.HF hg hr,T.gW hg (λk hk=>bN hB (hr k hk).1),O,X3.grown hg (X3.cellsOf.ne hr),X5.grown hg (X5.cellsOf.ne hr),X6.grown hg (X6.cellsOf.ne hr),X7.grown hg (X7.cellsOf.ne hr),X8.grown hg (X8.cellsOf.ne hr),C1.grown hg (C1.cellsOf.ne hr),C2.grown hg (C2.cellsOf.ne hr),
  ak.kept OV hg (by
   cases hv:ab.ownBlock with
   | none=>exact .inl rfl
   | some k=>exact .inr (λe=>(nr OV hv).ne hr e.symm))⟩
theorem Gu(w:af)(H:aP)(P:bu)(A:PA w H P)(vb:ah)(b:List aj)(hb:a8 w vb b)(aX:∀k,vb.ownBlock=some k->¬PF H k)(h1:1<=κ b)(aB:κ b<=65535)(va:ah)(ats:List Nat)(ha:aD bz w va (ats.map (λk:Nat=>(k:Int))))(han:∀k,va.ownBlock=some k->¬PF H k)(aM:bj (κ b) 128<=κ ats)(has:∀i∈ats,i<1024/\P.s i=2/\i<κ P.C)(hm:P.m+1024<=900000):Aae Aag 278 #[pz H.pb,vb,va] w λe w'=>∃v,e=rt #[v,i6 0]/\
  bf w' w.heap.size v ((fU ats b (Aaj (bj (κ b) 128))).map (ao P.st))/\PT w H (bV P (fU ats b (Aaj (bj (κ b) 128)))) w':=by
 obtain⟨ba,bc,rfl⟩:=hb.slice;obtain⟨aa,ac,rfl⟩:=ha.slice;rw[Aad]at ha han ⊢;refine(fy (n:=6)).1 ?_;have a7:1<=6:=ae
 refine oD func278 rfl trivial ?_ rfl;simp only[ntmps278,Abh,Aal,Aa5,Nat.reduceAdd,Nat.reduceSub,Aa6,Aa7,Abj,Aa9,Aay,Aa2];gi_wp2_with(refine⟨trivial,?_⟩;gi_at_call 290;refine(fy.2 ((λW=>Jq W ba (κ b) bc) _)).mono ?_;rintro e w' ⟨rfl,rfl⟩);obtain⟨g,off,rfl,bd,_⟩:=cg hb rfl h1;obtain⟨U0,X3,X5,X6,X7,X8,C1,C2⟩:=VD w 94 41 88 50 88 30 3 #[pz H.pb] #[.slice aa (κ ats) ac] #[nl] #[i6 0] #[nl] #[sq g off (κ b) bc] #[i6 128];obtain⟨w0,aF⟩:=bK (((((((w.alloc (.cells #[pz H.pb] 94)).alloc (.cells #[.slice aa (κ ats) ac] 41)).alloc (.cells #[nl] 88)).alloc (.cells #[i6 0] 50)).alloc (.cells #[nl] 88)).alloc (.cells #[sq g off (κ b) bc] 30)).alloc (.cells #[i6 128] 3));rw[<-aF]at U0 X3 X5 X6 X7 X8 C1 C2;rw[<-aF];clear aF;have bb:bj (κ b) 128<=512:=A1
 have ar:κ b<=bc:=mf hb;have HA0:=A;refine E1 (F:=Abw) rfl a7 (gf:=296) (lb:=#[pz (w.heap.size+1+1+1+1+1),pz (w.heap.size+1+1+1+1+1+1)]) rfl trivial (enters_of func296 av rfl) (D8 5 ae (w.heap.size+1+1+1+1+1) g off (κ b) bc ae ar w0 C2.lt (C1.cell 0) (C2.cell 0)) cY.trans jD (eZ _ _) (λ_=>rfl) (λpre W=>RZ 30 128 w H P (.slice aa (κ ats) ac) (sq g off (κ b) bc) (fU ats b (pre.map (·.1))) W) (λ_ _ _=>False) (DS 30 128 w H P _ _ (λpre:List (rO (bj (κ b) 128))=>fU ats b (pre.map (·.1))) _ U0.size) (λ_ _ _ _ _ hs _ _=>hs) ⟨H.h.vp,nl,⟨ax,ax⟩,A.up U0,Touch.bW U0,λ_ h=>.inl h,X3,X5,X6,X7,X8,C1,C2,ak.nil _ _ _ _ _⟩ (λx=>{tmps:=#[pz H.pb,sq g off (κ b) bc,.slice aa (κ ats) ac,pz w.heap.size,Aar,pz (w.heap.size+1),pz (w.heap.size+1+1),pz (w.heap.size+1+1+1),pz (w.heap.size+1+1+1+1),gx 1 g off (κ b) 128 x.1,Aar,Aar,sq g off (κ b) bc,.func (.func 296) #[] #[pz (w.heap.size+1+1+1+1+1),pz (w.heap.size+1+1+1+1+1+1)],gx 1 g off (κ b) 128 x.1,Aar,Aar,Aar,Aar,Aar,Aar,Aar,Aar,Aar,Aar,Aar,Aar,Aar,Aar,Aar,Aar,Aar,Aar,Aar],defers:=[]}) ?assign ?body ?done ?stop
 case assign=>exact lH
 case stop=>rintro D c pre W _ _ h _;exact h.elim
 case done=>rintro D ys W hD aE⟨vp,ab,J⟩hK;have HJ:=an (show il 30 128 w H P _ _ (fU ats b (Aaj (bj (κ b) 128))) ((fU ats b (Aaj (bj (κ b) 128))).map (ao P.st)) vp ab W from by rw[<-aE];exact J);refine Ub ?_;clear aE;intro f6 f7 c8 c6 c7 za zc hz;obtain⟨zn,hzn⟩:=bK (κ ((fU ats b (Aaj (bj (κ b) 128))).map (ao P.st)));rw[<-hzn]at hz;clear hzn;subst hz;have FIN:=an (HJ.fin (.slice za zn zc) (i6 0) D (by have:=U0.size;omega) hK);gi_wp2;refine MI ?_;intro h6 h7;simp[results,Tryz.f278,go_sem,h6,h7]
 case body=>
  rintro l pre x W⟨vp,ab,J⟩hlt;obtain⟨j,hj⟩:=x;have aU:κ pre<κ ats:=ae
  obtain⟨its,ag⟩:=bK (fU ats b (pre.map (·.1)));have IL:κ its=κ pre:=by rw[ag];exact(rW (ats:=ats) (b:=b) (pre:=pre.map (λx=>x.1)) me).trans (Aad _)
  have SN:fU ats b ((pre++[(⟨j,hj⟩:rO (bj (κ b) 128))]).map (λx=>x.1))=its++[(ats[κ pre],dp b j)]:=by rw[Aao,yH,HO (b:=b) (pre:=pre.map (λx=>x.1)) j me,<-ag];simp
  rw[<-ag]at J;clear ag;obtain⟨i1,i2,i3⟩:=has _ (cJ aU);have aL:=ha.az J.t han;obtain⟨ga,offa,rfl,bt,hca⟩:=cg aL Fm me;refine Nc ?_;intro ca hga;have bm:=Hh (hb.az J.t aX) j ((fL ae).1 hj);have bw:¬PF (H.at vp) g:=qe HA0 J.o bd (aX g rfl);obtain⟨e1,e2,e3,e4,e5⟩:=fX P its;generalize ats[κ pre]=i at *;have aQ:=an (show ∀W',il 30 128 w H P (sq ga offa (κ ats) ac) (sq g off (κ b) bc) its (its.map (ao P.st)) vp ab W'->a8 W' (gx 1 g off (κ b) 128 j) (ns b j)->Aae Aag 260 #[pz H.pb,i6 (i:Int),gx 1 g off (κ b) 128 j] W' λe W2=>e=rt #[.agg (be (ao P.st (i,dp b j))),i6 0]/\PT W' (H.at vp) (bV P (its++[(i,dp b j)])) W2 from λW' J' aG=>by rw[r0];refine(sZ W' (H.at vp) (bV P its) J'.pa i i1 (by rw[e1];exact i2) (by rw[e5];exact i3) _ (ns b j) aG (uS b j) (by rw[e4,IL];omega)).mono ?_;rintro e W2⟨rfl,D⟩;exact⟨by rw[show ao P.st (i,dp b j)=⟨i,(bV P its).st,dO (dp b j)⟩ from by rw[e2];rfl];rfl,D⟩)
  obtain⟨JJ,a1,bp⟩:=aW J bm SN;obtain⟨vd,vc,hvo⟩:=(ak.row J.ov pw).slice;rw[Aad,IL]at hvo;subst hvo;clear SN e1 e2 e3 e4 e5 i1 i2 i3 hca has;generalize bh:gx 1 g off (κ b) 128 j=cv at *;clear bh;gi_wp2;refine gI (S:=λW'=>aH W' w.heap.size 94 #[pz H.pb]/\aH W' (w.heap.size+1) 41 #[sq ga offa (κ ats) ac]/\aH W' (w.heap.size+1+1+1+1) 88 #[.slice vd (κ pre) vc]/\W'.cell? (ad ga (offa+κ pre))=some (i6 (i:Int))) av av (λ⟨_,_,h⟩=>h) ?_;change Acp _ _ _ _ _ 14 _ _ (W.drew);have UD:=an (Up.drew (Up.refl W));obtain⟨J4,HB4,CA4,KW⟩:=bR (JJ.up UD) (a1.up UD) (UD.cell ca) (yK W);generalize hw4:W.drew=w4 at *;refine NU ?_;intro S4;refine tb 0 rfl (yc (λW hS=>hS.1.cell 0)) ?_;refine tb 1 rfl (yc (λW hS=>hS.2.1.cell 0)) ?_;refine tb 2 rfl (yc (λW hS=>hS.2.2.1.cell 0)) ?_;refine ta 3 ?_;refine ta 4 ?_;refine tb 5 rfl (yc (λW hS=>hS.2.2.2)) ?_;refine ta 6 ?_;refine so 7 11 av rfl rfl rfl rfl ?_ ?_
  ·intro K hK;go_simp;refine(aQ w4 J4 HB4).mono ?_;refine Uc ?_;clear hK K;intro w5 D7 bn j7 T7 J5 CA5 K7 S7;refine ta 8 ?_;refine ta 9 ?_;refine uI ?_;obtain⟨IQ,OQ⟩:=aw (hU (ao P.st (i,dp b j))) (jN (ao P.st (i,dp b j)));refine TJ ?_;intro G7 GV GL u8 J6 aq B8 K8 S8;generalize w5.alloc (.cells (be hole) 87)=w6 at *;refine ok 12 ?_;intro K hK;refine sE 87 (.tmp 10) (.tmp 24) rfl w5.heap.size (be (ao P.st (i,dp b j))) rfl rfl 87 (be hole) B8 IQ rfl OQ ?_;have g9:=cQ w6 w5.heap.size (be (ao P.st (i,dp b j)));obtain⟨B9,J9⟩:=aw (B8.set (be (ao P.st (i,dp b j)))) (J6.grow g9 (J6.pa.cc B8 ax) G7 GV);have aY:=an (show(w6.setRow w5.heap.size (be (ao P.st (i,dp b j)))).cell? (ad ga (offa+κ pre))=some (i6 (i:Int))from by have hlt:=uh GL;rw[nG (show(w6.setRow w5.heap.size (be (ao P.st (i,dp b j)))).heap[ga]?=w6.heap[ga]? from g9.block ga (hX w6 _ aq.out) (λe=>hlt (dB e)))];exact aq)
   have K9:=an (jA g9 B8.cellsOf);obtain⟨KK,S9⟩:=aw ((K7.trans K8).trans K9) (show aH (w6.setRow w5.heap.size (be (ao P.st (i,dp b j)))) w.heap.size 94 #[pz H.pb]/\aH (w6.setRow w5.heap.size (be (ao P.st (i,dp b j)))) (w.heap.size+1) 41 #[sq ga offa (κ ats) ac]/\aH (w6.setRow w5.heap.size (be (ao P.st (i,dp b j)))) (w.heap.size+1+1+1+1) 88 #[.slice vd (κ pre) vc]/\(w6.setRow w5.heap.size (be (ao P.st (i,dp b j)))).cell? (ad ga (offa+κ pre))=some (i6 (i:Int))from⟨J9.x3,J9.x5,J9.x8,aY⟩);refine hK _ _ S9 ?_;refine gq ?_;clear hK K;generalize w6.setRow w5.heap.size (be (ao P.st (i,dp b j)))=w9 at *;refine TR ?_;intro U10 J10 PR LO n1 n2 c8;gi_wp2_with((with_reducible refine yg 88 (.tmp 8) ?_);refine mZ (λ⟨_,_,h⟩=>h) av ?_);refine an ?_;go_wp2_with(first
    | refine arm ?_
    | ((with_reducible refine dJ 88 1 _ ?_);refine bU rfl 88 87 (.tmp 30) rfl _ 3 24 (be (ao P.st (i,dp b j))) rfl Aaq cy ae ae rfl ?_)
    | (at_builtin;refine bI pw rfl (.tmp 29) (.tmp 31) 88 rfl w.heap.size 87 _ 24 Aaq cy rfl _ (its.map (ao P.st)) rfl J10.ov _ [(ao P.st (i,dp b j))] rfl PR n1 n2 J10.t.size ?_))
   intro v11 w11 own11 gr11 a6;obtain⟨za,zc,hz⟩:=(ak.row own11 pw).slice;obtain⟨zn,hzn⟩:=bK (κ (its.map (ao P.st)++[(ao P.st (i,dp b j))]));exact TP
  ·intro K hK;obtain⟨IQ,OQ⟩:=aw (hU (ao P.st (i,dp b j))) (jN (ao P.st (i,dp b j)));refine TL ?_;clear hK K;intro G7 GV GL aR u8 J5 CA5 B8 K8 S8;generalize w4.alloc (.cells (be hole) 87)=w5 at *;refine ok 7 ?_;intro K hK;go_simp;refine(aQ w5 J5 aR).mono ?_;refine TM ?_;clear hK K;intro w6 D7 bn j7 T7 J6 aq K7 B8 S7;refine br ?_;refine ta 9 ?_;refine br ?_;refine uI ?_;refine ok 12 ?_;intro K hK;refine sE 87 (.tmp 10) (.tmp 24) rfl w4.heap.size (be (ao P.st (i,dp b j))) rfl rfl 87 (be hole) B8 IQ rfl OQ ?_;have g9:=cQ w6 w4.heap.size (be (ao P.st (i,dp b j)));obtain⟨B9,J9⟩:=aw (B8.set (be (ao P.st (i,dp b j)))) (J6.grow g9 (J6.pa.cc B8 ax) G7 GV);have aY:=an (show(w6.setRow w4.heap.size (be (ao P.st (i,dp b j)))).cell? (ad ga (offa+κ pre))=some (i6 (i:Int))from by have hlt:=uh GL;rw[nG (show(w6.setRow w4.heap.size (be (ao P.st (i,dp b j)))).heap[ga]?=w6.heap[ga]? from g9.block ga (hX w6 _ aq.out) (λe=>hlt (dB e)))];exact aq)
   have K9:=an (jA g9 B8.cellsOf);obtain⟨KK,S9⟩:=aw ((K8.trans K7).trans K9) (show aH (w6.setRow w4.heap.size (be (ao P.st (i,dp b j)))) w.heap.size 94 #[pz H.pb]/\aH (w6.setRow w4.heap.size (be (ao P.st (i,dp b j)))) (w.heap.size+1) 41 #[sq ga offa (κ ats) ac]/\aH (w6.setRow w4.heap.size (be (ao P.st (i,dp b j)))) (w.heap.size+1+1+1+1) 88 #[.slice vd (κ pre) vc]/\(w6.setRow w4.heap.size (be (ao P.st (i,dp b j)))).cell? (ad ga (offa+κ pre))=some (i6 (i:Int))from⟨J9.x3,J9.x5,J9.x8,aY⟩);refine hK _ _ S9 ?_;refine gq ?_;clear hK K;generalize w6.setRow w4.heap.size (be (ao P.st (i,dp b j)))=w9 at *;refine TR ?_;intro U10 J10 PR LO n1 n2 c8;gi_wp2_with((with_reducible refine yg 88 (.tmp 8) ?_);refine mZ (λ⟨_,_,h⟩=>h) av ?_);refine an ?_;go_wp2_with(first
    | refine arm ?_
    | ((with_reducible refine dJ 88 1 _ ?_);refine bU rfl 88 87 (.tmp 30) rfl _ 3 24 (be (ao P.st (i,dp b j))) rfl Aaq cy ae ae rfl ?_)
    | (at_builtin;refine bI pw rfl (.tmp 29) (.tmp 31) 88 rfl w.heap.size 87 _ 24 Aaq cy rfl _ (its.map (ao P.st)) rfl J10.ov _ [(ao P.st (i,dp b j))] rfl PR n1 n2 J10.t.size ?_))
   intro v11 w11 own11 gr11 a6;obtain⟨za,zc,hz⟩:=(ak.row own11 pw).slice;obtain⟨zn,hzn⟩:=bK (κ (its.map (ao P.st)++[(ao P.st (i,dp b j))]));exact TS
end
section
open Go.Shelf
attribute [local go_sem] kr
section
variable {P:bx}
def zo{ops:Array Oper}{Q:Exit->Act->af->Prop}{rest:List Oper}{a:Act}{w:af}{dst:Option Tmp}{type:TypeId}{pos:String}{after:Array Edge}{guard:Option (Nat × Bool)}(d s:bO)(dT sT:TypeId)(h:wpList P ops Q ({dst:=dst,op:=.call {callee:=.builtin .copy,args:=#[d,s],argTypes:=#[dT,sT]},type:=type,pos:=pos,after:=after,guard:=guard}::rest) a w):wpList P ops Q ({dst:=dst,op:=.call {callee:=.builtin .copy,args:=#[d,s],argTypes:=#[dT,sT]},type:=type,pos:=pos,after:=after,guard:=guard}::rest) a w:=h
theorem vx{α:Type}{f:α->List ah}{k:Nat}(hw:hL f k){ops:Array Oper}{rest:List Oper}{op:Oper}{a:Act}{w:af}{Q:Exit->Act->af->Prop}(hgd:op.guard=none)(d s:bO)(dT sT:TypeId)(ho:op.op=.call {callee:=.builtin .copy,args:=#[d,s],argTypes:=#[dT,sT]})(elem:TypeId)(hu:P.underlying dT=some (.slice elem))(aL:(P.info? elem).map (·.size)=some k)(g n m:Nat)(sa:Option Addr)(sc:Nat)(hd:a.eval d=cv g n n)(hs:a.eval s=.slice sa m sc)(ys:List α)(hm:m=κ ys)(al:aI f w (.slice sa m sc) ys)(h0:0<κ ys)(hn:κ ys<=n)(t:TypeId)(C:Array ah)(hb:aH w g t C)(hC:C.size=n*k)(h:∀w',aH w' g t (ys.flatMap f++C.toList.drop (κ ys*k)).toArray->w.grownBy w' (some g)->wpList P ops Q rest (a.put op.dst (goInt (κ ys))) w'):wpList P ops Q (op::rest) a w:=by
 subst hm;obtain⟨b,off,rfl,hbs,bd,hc⟩:=aI.get al hw h0;refine gZ hgd λK hK=>?_;have aD:κ (ys.flatMap f)=κ ys*k:=hw.flat ys;have hle:κ ys*k<=n*k:=Nat.mul_le_mul_right k hn;have hl:=run_loadCells_list (P:=P) w ⟨b,off,none⟩ (ys.flatMap f) (λj v hj=>by
  rw[add_plain];have ak:=hw.pos;have hi:j/k<κ ys:=(Nat.div_lt_iff_lt_mul ak).2 (by rw[<-aD];exact(lp.1 hj).1);have e:j/k*k+j%k=j:=by rw[uc];exact Nat.div_add_mod j k
  have:=hw.at ys (j/k) hi (j%k) (Nat.mod_lt _ ak);rw[e,hj]at this;have h2:=hc (j/k) hi (j%k) v this.symm;rw[e]at h2;exact h2)
 have aE:=v7 (P:=P) g 0 t (ys.flatMap f) 0 C w hb ae (λv hv=>hw.cC ys v hv);have ag:(C.toList.take (0+0)++ys.flatMap f++C.toList.drop (0+0+κ (ys.flatMap f))).toArray=(ys.flatMap f++C.toList.drop (κ ys*k)).toArray:=aa
 rw[ag]at aE;cases hq:P.info? elem with
 | none=>simp_all
 | some i=>
  have hi:i.size=k:=aa
  rw[aD]at hl;have hrun:(Builtin.copy_ #[dT,sT] op.type #[cv g n n,sq b off (κ ys) sc]).run P w=.ok (goInt (κ ys)) (w.setRow g (ys.flatMap f++C.toList.drop (κ ys*k)).toArray):=by simp[Builtin.copy_,run_underlying hu,Builtin.lenOf,Builtin.firstCells,sizeOf,typeInfo,hq,hi,(Nat.min_eq_left hn),hl,aE]
  unfold Acb;simp[Abs,ho,resolve,invoke,builtin,hd,hs,hrun,Aap];exact hK _ _ (h _ (hb.set _) (cQ w g _))
end
def e0(l:List au)(j:Nat):List au:=(l.drop (8*j)).take 8
def hR(p:List au):List au:=p++Aac (8-κ p) hole
theorem lL(l:List au)(j:Nat):κ (e0 l j)=min 8 (κ l-8*j):=by simp[e0]
theorem oS{p:List au}(h:κ p<=8):κ (hR p)=8:=by grind [hR]
theorem H'{p:List au}(h:κ p<=8):(p.flatMap dG++(aO dK).toList.drop (κ p*3)).toArray=aO (hR p):=by
 apply hS.1;show p.flatMap dG++(aO dK).toList.drop (κ p*3)=(aO (hR p)).toList;rw[fz,fz,hR,gC];congr 1;have:dK=Aac (κ p) hole++Aac (8-κ p) hole:=by rw[List.replicate_append_replicate];grind [dK]
 rw[this,gC,lr (by rw[pw.flat,wh])]
theorem Jt{l:List au}(h:cX w (sq g off (κ l) cap) l)(j:Nat)(hj:8*j<κ l):cX w (gx 3 g off (κ l) 8 j) (e0 l j):=by
 obtain⟨b,o,e,hbs,bd,hc⟩:=aI.get h pw ae;simp only[Aai,Abd]at e;obtain⟨rfl,rfl,_⟩:=e;have hlen:=lL l j;refine .inr ⟨g,off+(8*j)*3,min 8 (κ l-8*j),by grind [gx],ae,ae,dE,λq u hq=>?_⟩;have aa:q<κ (e0 l j)*3:=by rw[<-pw.flat];exact(lp.1 hq).1
 have hi:q/3<κ (e0 l j):=ae
 have:=pw.at (e0 l j) (q/3) hi (q%3) ae;rw[show q/3*3+q%3=q from ae,hq]at this;have h2:=hc (8*j+q/3) ae (q%3) u (by grind [e0]);grind
def gY(ats:List Nat)(l:List au)(pre:List Nat):List (Nat × cN):=(ats.take (κ pre)).zip (pre.map (λj=>bL (hR (e0 l j))))
theorem rV{l:List au}{pre:List Nat}(h:κ pre<=κ ats):κ (gY ats l pre)=κ pre:=by grind [gY]
theorem HN{l:List au}{pre:List Nat}(x:Nat)(h:κ pre<κ ats):gY ats l (pre++[x])=gY ats l pre++[(ats[κ pre],bL (hR (e0 l x)))]:=by unfold gY;exact NC
theorem Qk(s:cN)(h:κ s.val<=128):eK s.val h=s:=by apply Subtype.ext;show e2 s.val=s.val;unfold e2;simp;omega
theorem Al{l:List au}(hg:∀p∈l,cw p=true)(j:Nat):jz (hR (e0 l j))=true:=by
 unfold jz hR;simp only[List.all_append,Abc,List.all_eq_true];refine⟨λp hp=>hg p ?_,λp hp=>?_⟩
 ·grind [e0]
 ·rw[List.eq_of_mem_replicate hp];decide
theorem II(g:Nat)(W:af):(Abo 176 (pz g) none none none).run Aag W=.ok (cv g 8 8) W:=ay
theorem PJ:(prog.info? 87).map (·.size)=some 3:=av
theorem aI.tf{f:α->List ah}{w w':af}{v:ah}{l:List α}{F:Nat->Prop}(h:aI f w v l)(T:Touch F w w')(hF:∀b,v.ownBlock=some b->¬F b):aI f w' v l:=by
 rcases h with h|⟨b,off,cap,h1,h2,h3,h4,h5⟩
 ·exact .inl h
 ·exact .inr ⟨b,off,cap,h1,h2,h3,h4,λj u hj=>fk (h5 j u hj) T (hF b uo)⟩
theorem I3{l:List au}(hg:∀p∈l,p.wf)(j:Nat):∀p∈hR (e0 l j),p.wf:=by grind [hR,e0,au.wf,hole]
theorem CD(w:af)(H:aP)(P:bu)(A:PA w H P)(vb:ah)(b:List au)(hb:cX w vb b)(aX:∀k,vb.ownBlock=some k->¬PF H k)(h1:1<=κ b)(aB:κ b<=1000)(hgd:∀p∈b,cw p=true)(aT:∀p∈b,p.wf)(va:ah)(ats:List Nat)(ha:aD bz w va (ats.map (λk:Nat=>(k:Int))))(han:∀k,va.ownBlock=some k->¬PF H k)(aM:bj (κ b) 8<=κ ats)(has:∀i∈ats,i<1024/\P.s i=2/\i<κ P.C)(hm:P.m+1024<=900000):Aae Aag 279 #[pz H.pb,vb,va] w λe w'=>∃v,e=rt #[v,i6 0]/\
  bf w' w.heap.size v ((gY ats b (Aaj (bj (κ b) 8))).map (ao P.st))/\PT w H (bV P (gY ats b (Aaj (bj (κ b) 8)))) w':=by
 obtain⟨ba,bc,rfl⟩:=hb.slice;obtain⟨aa,ac,rfl⟩:=ha.slice;rw[Aad]at ha han ⊢;refine(fy (n:=6)).1 ?_;have a7:1<=6:=ae
 refine oD func279 rfl trivial ?_ rfl;simp only[ntmps279,Abh,Aal,Aa5,Nat.reduceAdd,Nat.reduceSub,Aa6,Aa7,Abj,Aa9,Aay,Aa2];gi_wp2_with(refine⟨trivial,?_⟩;gi_at_call 291;refine(fy.2 ((λW=>Js W ba (κ b) bc) _)).mono ?_;rintro e w' ⟨rfl,rfl⟩);obtain⟨g,off,rfl,bd,bA,_⟩:=aI.get hb pw h1;obtain⟨U0,X3,X5,X6,X7,X8,C1,C2⟩:=VD w 94 41 88 50 88 88 3 #[pz H.pb] #[.slice aa (κ ats) ac] #[nl] #[i6 0] #[nl] #[sq g off (κ b) bc] #[i6 8];obtain⟨w0,aF⟩:=bK (((((((w.alloc (.cells #[pz H.pb] 94)).alloc (.cells #[.slice aa (κ ats) ac] 41)).alloc (.cells #[nl] 88)).alloc (.cells #[i6 0] 50)).alloc (.cells #[nl] 88)).alloc (.cells #[sq g off (κ b) bc] 88)).alloc (.cells #[i6 8] 3));rw[<-aF]at U0 X3 X5 X6 X7 X8 C1 C2;rw[<-aF];clear aF;have bb:bj (κ b) 8<=512:=A1
 have ar:κ b<=bc:=bA;have HA0:=A;refine E1 (F:=Abw) rfl a7 (gf:=297) (lb:=#[pz (w.heap.size+1+1+1+1+1),pz (w.heap.size+1+1+1+1+1+1)]) rfl trivial (enters_of func297 av rfl) (D9 5 ae (w.heap.size+1+1+1+1+1) g off (κ b) bc ae ar w0 C2.lt (C1.cell 0) (C2.cell 0)) cY.trans jD (eZ _ _) (λ_=>rfl) (λpre W=>RZ 88 8 w H P (.slice aa (κ ats) ac) (sq g off (κ b) bc) (gY ats b (pre.map (·.1))) W) (λ_ _ _=>False) (DS 88 8 w H P _ _ (λpre:List (rO (bj (κ b) 8))=>gY ats b (pre.map (·.1))) _ U0.size) (λ_ _ _ _ _ hs _ _=>hs) ⟨H.h.vp,nl,⟨ax,ax⟩,A.up U0,Touch.bW U0,λ_ h=>.inl h,X3,X5,X6,X7,X8,C1,C2,ak.nil _ _ _ _ _⟩ (λx=>{tmps:=#[pz H.pb,sq g off (κ b) bc,.slice aa (κ ats) ac,pz w.heap.size,Aar,pz (w.heap.size+1),pz (w.heap.size+1+1),pz (w.heap.size+1+1+1),pz (w.heap.size+1+1+1+1),gx 3 g off (κ b) 8 x.1,Aar,Aar,Aar,Aar,sq g off (κ b) bc,.func (.func 297) #[] #[pz (w.heap.size+1+1+1+1+1),pz (w.heap.size+1+1+1+1+1+1)],gx 3 g off (κ b) 8 x.1,Aar,Aar,Aar,Aar,Aar,Aar,Aar,Aar,Aar,Aar,Aar,Aar,Aar,Aar,Aar,Aar,Aar,Aar,Aar,Aar,Aar,Aar,Aar,Aar,Aar,Aar,Aar,Aar,Aar,Aar],defers:=[]}) ?assign ?body ?done ?stop
 case assign=>exact lH
 case stop=>rintro D c pre W _ _ h _;exact h.elim
 case done=>rintro D ys W hD aE⟨vp,ab,J⟩hK;have HJ:=an (show il 88 8 w H P _ _ (gY ats b (Aaj (bj (κ b) 8))) ((gY ats b (Aaj (bj (κ b) 8))).map (ao P.st)) vp ab W from by rw[<-aE];exact J);refine Ub ?_;clear aE;intro f6 f7 c8 c6 c7 za zc hz;obtain⟨zn,hzn⟩:=bK (κ ((gY ats b (Aaj (bj (κ b) 8))).map (ao P.st)));rw[<-hzn]at hz;clear hzn;subst hz;have FIN:=an (HJ.fin (.slice za zn zc) (i6 0) D (by have:=U0.size;omega) hK);gi_wp2;refine MI ?_;intro h6 h7;simp[results,Tryz.f279,go_sem,h6,h7]
 case body=>
  rintro l pre x W⟨vp,ab,J⟩hlt;obtain⟨j,hj⟩:=x;have aU:κ pre<κ ats:=ae
  obtain⟨its,ag⟩:=bK (gY ats b (pre.map (·.1)));have IL:κ its=κ pre:=by rw[ag];exact(rV (ats:=ats) (l:=b) (pre:=pre.map (λx=>x.1)) me).trans (Aad _)
  have SN:gY ats b ((pre++[(⟨j,hj⟩:rO (bj (κ b) 8))]).map (λx=>x.1))=its++[(ats[κ pre],bL (hR (e0 b j)))]:=by rw[Aao,yH,HN (l:=b) (pre:=pre.map (λx=>x.1)) j me,<-ag];simp
  rw[<-ag]at J;clear ag;obtain⟨i1,i2,i3⟩:=has _ (cJ aU);have aL:=ha.az J.t han;obtain⟨ga,offa,rfl,bt,hca⟩:=cg aL Fm me;refine Nc ?_;intro ca hga;have bm:=Jt (aI.tf hb J.t aX) j ((fL ae).1 hj);have bw:¬PF (H.at vp) g:=qe HA0 J.o bd (aX g rfl);obtain⟨e1,e2,e3,e4,e5⟩:=fX P its;generalize ats[κ pre]=i at *;have aS:=lL b j;have bg:=(fL (n:=κ b) (c:=8) ae).1 hj;obtain⟨m,hm⟩:=bK (κ (e0 b j));have bF:1<=m/\m<=8:=ae
  have bh:gx 3 g off (κ b) 8 j=sq g (off+(8*j)*3) m m:=by unfold gx;rw[hm,aS]
  rw[bh];rw[bh]at bm;have NL:=oS (p:=e0 b j) ae;obtain⟨NC,GA⟩:=aA (H' (p:=e0 b j) ae) (Al hgd j);obtain⟨v1,v2,v3⟩:=rj NL GA;have NB:=λW'=>Bd W' (hR (e0 b j)) NL (I3 aT j);unfold Jf at NB;rw[v2,<-v1]at NB;obtain⟨NB,IN⟩:=aw NB (gX (hR (e0 b j)) NL);generalize hsn:bL (hR (e0 b j))=sn at *;generalize bl:e0 b j=pp at *;have aQ:=an (show ∀W' gs,il 88 8 w H P (sq ga offa (κ ats) ac) (sq g off (κ b) bc) its (its.map (ao P.st)) vp ab W'->a8 W' (cv gs 128 128) sn.val->Aae Aag 260 #[pz H.pb,i6 (i:Int),cv gs 128 128] W' λe W2=>e=rt #[.agg (be (ao P.st (i,sn))),i6 0]/\PT W' (H.at vp) (bV P (its++[(i,sn)])) W2 from λW' gs J' aG=>by rw[r0];have:=sZ W' (H.at vp) (bV P its) J'.pa i i1 (by rw[e1];exact i2) (by rw[e5];exact i3) _ sn.val aG Fg (by rw[e4,IL];omega);rw[Qk]at this;refine this.mono ?_;rintro e W2⟨rfl,D⟩;exact⟨by rw[show ao P.st (i,sn)=⟨i,(bV P its).st,dO sn⟩ from by rw[e2];rfl],D⟩)
  obtain⟨JJ,a1,CA,bp⟩:=bR J bm (show W.cell? (ad ga (offa+κ pre))=some (i6 (i:Int))from ca) SN;obtain⟨vd,vc,hvo⟩:=(ak.row J.ov pw).slice;rw[Aad,IL]at hvo;subst hvo;clear ca SN e1 e2 e3 e4 e5 i1 i2 i3 hca has;obtain⟨aj,aV⟩:=aA II hm.symm;rw[aV]at NC;obtain⟨bs,U10⟩:=aw (aH.new W 176 (aO dK)) (ai W (.cells (aO dK) 176));clear hm bh v1 v2 v3 NL GA aS hsn bl;gi_wp2_with(refine mZ (λ⟨_,_,h⟩=>h) av ?_);refine an ?_;go_wp2_with(refine arm ?_);gi_wp2_with(refine mZ (λ⟨_,_,h⟩=>h) av ?_);refine an ?_;go_wp2_with((with_reducible refine zo (.tmp 17) (.tmp 18) 88 88 ?_);refine vx pw rfl (.tmp 17) (.tmp 18) 88 88 rfl 87 Aaq PJ W.heap.size 8 m _ m rfl rfl pp aV.symm (a1.up U10) ae ae 176 (aO dK) bs (by rw[b7];decide) ?_);intro w2 hb2 bk;have B2:=an hb2;have bD:=an (show w2.cell? (ad ga (offa+κ pre))=some (i6 (i:Int))from by obtain⟨al,hlt⟩:=aA (U10.cell CA) (uh (hX W _ CA));rw[nG (show w2.heap[ga]?=_ from bk.block ga (hX _ _ al) (λe=>hlt (dB e)))];exact al)
  clear aj CA NC;go_wp2;gi_wp2_with(refine mZ (λ⟨_,_,h⟩=>h) av ?_);refine an ?_;go_wp2_with(refine arm ?_);refine(NB _).mono ?_;rintro e w3⟨rfl,u3⟩;have U4:=an (u3.trans (ai w3 (.cells (aC sn.val) 60)));clear NB IN;go_wp2_with(first
   | refine arm ?_
   | ((with_reducible refine cu 60 (.tmp 11) (.tmp 23) ?_);refine fC w3 rfl 60 (.tmp 11) (.tmp 23) rfl (aC sn.val) 60 (aC aK) rfl rfl rfl (dD sn) (an p') (dj sn.val) ?_))
  have bE:=an (show a8 (w3.alloc (.cells (aC sn.val) 60)) (cv w3.heap.size 128 128) sn.val from by have:=h8 (aH.new w3 60 (aC sn.val)) 0 128 128 Fg ae ae ae;rw[Aax,dh Fg]at this;exact this)
  have bG:=my;generalize aJ:w3.alloc (.cells (aC sn.val) 60)=w5 at *;clear aJ;generalize w3.heap.size=gs at *;gi_wp2;refine gI (S:=λW'=>aH W' w.heap.size 94 #[pz H.pb]/\aH W' (w.heap.size+1) 41 #[sq ga offa (κ ats) ac]/\aH W' (w.heap.size+1+1+1+1) 88 #[.slice vd (κ pre) vc]/\W'.cell? (ad ga (offa+κ pre))=some (i6 (i:Int))) av av (λ⟨_,_,h⟩=>h) ?_;change Acp _ _ _ _ _ 14 _ _ (w5.drew);have UD:=an (Up.drew (Up.refl w5));obtain⟨J4,HB4,CA4,KW⟩:=bR ((((JJ.up U10).grow bk ((JJ.pa.up U10).cc bs ax) (by have:=JJ.c2.lt;omega) (λe=>by have:=(JJ.ov.aN _ e).2;omega)).up U4).up UD) (bE.up UD) (UD.cell (U4.cell bD)) ((((rH U10).trans (jA bk bs.cellsOf)).trans (rH U4)).trans (yK w5));generalize hw4:w5.drew=w4 at *;refine NU ?_;intro S4;refine tb 0 rfl (yc (λW hS=>hS.1.cell 0)) ?_;refine tb 1 rfl (yc (λW hS=>hS.2.1.cell 0)) ?_;refine tb 2 rfl (yc (λW hS=>hS.2.2.1.cell 0)) ?_;refine ta 3 ?_;refine ta 4 ?_;refine tb 5 rfl (yc (λW hS=>hS.2.2.2)) ?_;refine ta 6 ?_;refine br ?_;refine so 7 11 av rfl rfl rfl rfl ?_ ?_
  ·intro K hK;go_simp;refine(aQ w4 gs J4 HB4).mono ?_;refine Uc ?_;clear hK K;intro w5 D7 bn j7 T7 J5 CA5 K7 S7;refine br ?_;refine ta 8 ?_;refine ta 9 ?_;refine uI ?_;obtain⟨IQ,OQ⟩:=aw (hU (ao P.st (i,sn))) (jN (ao P.st (i,sn)));refine TJ ?_;intro G7 GV GL u8 J6 aq B8 K8 S8;generalize w5.alloc (.cells (be hole) 87)=w6 at *;refine ok 12 ?_;intro K hK;refine sE 87 (.tmp 13) (.tmp 37) rfl w5.heap.size (be (ao P.st (i,sn))) rfl rfl 87 (be hole) B8 IQ rfl OQ ?_;have g9:=cQ w6 w5.heap.size (be (ao P.st (i,sn)));obtain⟨B9,J9⟩:=aw (B8.set (be (ao P.st (i,sn)))) (J6.grow g9 (J6.pa.cc B8 ax) G7 GV);have aY:=an (show(w6.setRow w5.heap.size (be (ao P.st (i,sn)))).cell? (ad ga (offa+κ pre))=some (i6 (i:Int))from by have hlt:=uh GL;rw[nG (show(w6.setRow w5.heap.size (be (ao P.st (i,sn)))).heap[ga]?=w6.heap[ga]? from g9.block ga (hX w6 _ aq.out) (λe=>hlt (dB e)))];exact aq)
   have K9:=an (jA g9 B8.cellsOf);obtain⟨KK,S9⟩:=aw ((K7.trans K8).trans K9) (show aH (w6.setRow w5.heap.size (be (ao P.st (i,sn)))) w.heap.size 94 #[pz H.pb]/\aH (w6.setRow w5.heap.size (be (ao P.st (i,sn)))) (w.heap.size+1) 41 #[sq ga offa (κ ats) ac]/\aH (w6.setRow w5.heap.size (be (ao P.st (i,sn)))) (w.heap.size+1+1+1+1) 88 #[.slice vd (κ pre) vc]/\(w6.setRow w5.heap.size (be (ao P.st (i,sn)))).cell? (ad ga (offa+κ pre))=some (i6 (i:Int))from⟨J9.x3,J9.x5,J9.x8,aY⟩);refine hK _ _ S9 ?_;refine gq ?_;clear hK K;generalize w6.setRow w5.heap.size (be (ao P.st (i,sn)))=w9 at *;refine TT ?_;intro U10 J10 PR LO n1 n2 c8;gi_wp2_with((with_reducible refine yg 88 (.tmp 8) ?_);refine mZ (λ⟨_,_,h⟩=>h) av ?_);refine an ?_;go_wp2_with(first
    | refine arm ?_
    | ((with_reducible refine dJ 88 1 _ ?_);refine bU rfl 88 87 (.tmp 43) rfl _ 3 24 (be (ao P.st (i,sn))) rfl Aaq cy ae ae rfl ?_)
    | (at_builtin;refine bI pw rfl (.tmp 42) (.tmp 44) 88 rfl w.heap.size 87 _ 24 Aaq cy rfl _ (its.map (ao P.st)) rfl J10.ov _ [(ao P.st (i,sn))] rfl PR n1 n2 J10.t.size ?_))
   intro v11 w11 own11 gr11 a6;obtain⟨za,zc,hz⟩:=(ak.row own11 pw).slice;obtain⟨zn,hzn⟩:=bK (κ (its.map (ao P.st)++[(ao P.st (i,sn))]));exact TP
  ·intro K hK;obtain⟨IQ,OQ⟩:=aw (hU (ao P.st (i,sn))) (jN (ao P.st (i,sn)));refine TL ?_;clear hK K;intro G7 GV GL aR u8 J5 CA5 B8 K8 S8;generalize w4.alloc (.cells (be hole) 87)=w5 at *;refine ok 7 ?_;intro K hK;go_simp;refine(aQ w5 gs J5 aR).mono ?_;refine TM ?_;clear hK K;intro w6 D7 bn j7 T7 J6 aq K7 B8 S7;refine ta 9 ?_;refine uI ?_;refine ok 12 ?_;intro K hK;refine sE 87 (.tmp 13) (.tmp 37) rfl w4.heap.size (be (ao P.st (i,sn))) rfl rfl 87 (be hole) B8 IQ rfl OQ ?_;have g9:=cQ w6 w4.heap.size (be (ao P.st (i,sn)));obtain⟨B9,J9⟩:=aw (B8.set (be (ao P.st (i,sn)))) (J6.grow g9 (J6.pa.cc B8 ax) G7 GV);have aY:=an (show(w6.setRow w4.heap.size (be (ao P.st (i,sn)))).cell? (ad ga (offa+κ pre))=some (i6 (i:Int))from by have hlt:=uh GL;rw[nG (show(w6.setRow w4.heap.size (be (ao P.st (i,sn)))).heap[ga]?=w6.heap[ga]? from g9.block ga (hX w6 _ aq.out) (λe=>hlt (dB e)))];exact aq)
   have K9:=an (jA g9 B8.cellsOf);obtain⟨KK,S9⟩:=aw ((K8.trans K7).trans K9) (show aH (w6.setRow w4.heap.size (be (ao P.st (i,sn)))) w.heap.size 94 #[pz H.pb]/\aH (w6.setRow w4.heap.size (be (ao P.st (i,sn)))) (w.heap.size+1) 41 #[sq ga offa (κ ats) ac]/\aH (w6.setRow w4.heap.size (be (ao P.st (i,sn)))) (w.heap.size+1+1+1+1) 88 #[.slice vd (κ pre) vc]/\(w6.setRow w4.heap.size (be (ao P.st (i,sn)))).cell? (ad ga (offa+κ pre))=some (i6 (i:Int))from⟨J9.x3,J9.x5,J9.x8,aY⟩);refine hK _ _ S9 ?_;refine gq ?_;clear hK K;generalize w6.setRow w4.heap.size (be (ao P.st (i,sn)))=w9 at *;refine TT ?_;intro U10 J10 PR LO n1 n2 c8;gi_wp2_with((with_reducible refine yg 88 (.tmp 8) ?_);refine mZ (λ⟨_,_,h⟩=>h) av ?_);refine an ?_;go_wp2_with(first
    | refine arm ?_
    | ((with_reducible refine dJ 88 1 _ ?_);refine bU rfl 88 87 (.tmp 43) rfl _ 3 24 (be (ao P.st (i,sn))) rfl Aaq cy ae ae rfl ?_)
    | (at_builtin;refine bI pw rfl (.tmp 42) (.tmp 44) 88 rfl w.heap.size 87 _ 24 Aaq cy rfl _ (its.map (ao P.st)) rfl J10.ov _ [(ao P.st (i,sn))] rfl PR n1 n2 J10.t.size ?_))
   intro v11 w11 own11 gr11 a6;obtain⟨za,zc,hz⟩:=(ak.row own11 pw).slice;obtain⟨zn,hzn⟩:=bK (κ (its.map (ao P.st)++[(ao P.st (i,sn))]));exact TS
end
def vm(b:List aj)(k:Nat):List aj:=(Aaj k).flatMap (λi=>(dp b i).val)
theorem td(b:List aj)(k:Nat):vm b (k+1)=vm b k++(dp b k).val:=by unfold vm;rw[Abz,gC];simp
theorem GJ(b:List aj)(k:Nat):κ (vm b k)=128*k:=by
 induction k with
 | zero=>rfl
 | succ k ih=>grind [td,dp]
theorem IV(b:List aj):∀k,k<=bj (κ b) 128->vm b k=b.take (128*k)++Aac (128*k-κ b) 0
 | 0,_=>by simp[vm]
 | k+1,h=>by
  have hk:=(fL (n:=κ b) (c:=128) ae).1 (show k<_ from ae);rw[td,IV b k ae,show 128*k-κ b=0 from ae,List.replicate_zero,Ab5];show _++e2 (ns b k)=_;unfold e2;rw[<-Aa8];congr 1
  ·unfold ns;rw[show 128*(k+1)=128*k+128 from ae,List.take_add]
  ·congr 1;unfold ns;rw[ev,hP];omega
theorem Q2(b:List aj):vm b (bj (κ b) 128)=b++Aac (128*bj (κ b) 128-κ b) 0:=by rw[IV b _ (aG _),dh];grind [bj,fL]
theorem ED(w:af)(H:aP)(P:bu)(A:PA w H P)(vl:ah)(ps:List au)(hv:cX w vl ps)(aE:∀k,vl.ownBlock=some k->¬PF H k)(b:List aj)(h1:1<=κ b)(aB:κ b<=65535)(hl:κ ps=bj (κ b) 128)(hb:∀k(h:k<κ ps),fE P.C ps[k]=some (dp b k)):Aae Aag 175 #[pz H.pb,vl,i6 (κ b:Int)] w λe w'=>∃v,e=rt #[v,i6 0]/\a8 w' v b/\(∀k,v.ownBlock=some k->w.heap.size<=k)/\PG w H P w':=by
 have bb:bj (κ b) 128<=512:=A1
 have aX:κ b<=128*bj (κ b) 128:=by have:¬bj (κ b) 128<bj (κ b) 128:=yB _;rw[fL ae]at this;omega
 obtain⟨va,vc,rfl⟩:=hv.slice;obtain⟨HV,aL,HA,HB⟩:=bR hv aE A hb;refine F4 ?_;intro ag;have MK:∀W:af,(Ach 30 (i6 0) (i6 ((κ ps:Int)*128))).run Aag W=.ok (cv W.heap.size 0 (κ ps*128)) (W.alloc (.cells (j2 (.int .u8 0) (κ ps*128)) 5)):=λW=>by have:=kH (P:=Aag) 30 5 (.int .u8 0) 1 Aa0 eu (κ ps*128) ae ae W;assumption
 have HL:=an hl;have a1:κ ps<=512:=ae
 clear aE hb hl;go_in;go_wp2;clear MK;go_loopw [8,21] (λv i wr=>∃k:Nat,k<=κ ps/\i=i6 k/\Own aF 5 wr w.heap.size v (vm b k)/\PG w H P wr) (λ_ i _=>κ ps-(Aat i).toNat)
 case atStart=>exact⟨0,bE _,rfl,(Own.room aF 5 w (.int .u8 0) w.heap.size (κ ps*128) (aG _) ae),(PG.of A (ai w (.cells (j2 (.int .u8 0) (κ ps*128)) 5)))⟩
 case round=>
  obtain⟨k,hk,rfl,hown,hg⟩:=hrel;obtain⟨HOWN,GR⟩:=aw hown hg;by_cases hlt:k<κ ps
  ·obtain⟨b0,off,rfl,hbs,bd,hc⟩:=(aI.tf HV GR.2 aL).range pw ae;have RC:=an (hc k hlt);have b2:((k:Int)<(κ ps:Int))=True:=by simp;omega
   obtain⟨TS,aA,av⟩:=aW (td b k) ((GJ b) k) (λW (AW:PA W H P)=>uU W H P AW ps[k] (dp b k) (HB k hlt));generalize ps[k]=p at *;generalize dp b k=s at *;generalize vm b k=tb at *;have bs:κ tb<=65536:=dL
   clear hc;obtain⟨ta,tc,rfl⟩:=(Own.cC HOWN).slice;obtain⟨SP,BX,G2,O2⟩:=bR s.property (aH.new wr 87 (be p)) (GR.up (ai wr (.cells (be p) 87))) (HOWN.up (ai wr (.cells (be p) 87)));go_wp2_with(first
    | refine cK 87 23 (be p) RC ?_
    | refine bD 87 e8 ?_
    | refine ed 87 10 24 wr (be p) 87 (be hole) ?_
    | refine cU 87 10 BX ?_)
   refine(av _ G2.1).mono ?_;rintro e w3⟨rfl,g3⟩;have U4:=an (ai w3 (.cells (aC s.val) 60));obtain⟨G4,O4⟩:=aw ((G2.trans g3).up U4) ((Own.az O2 g3.2 (λk hk=>ag _ (by have:=(O2.aN k hk).1;omega))).up U4);have SI:=an (show a8 (w3.alloc (.cells (aC s.val) 60)) (cv w3.heap.size 128 128) s.val from by have:=h8 (aH.new w3 60 (aC s.val)) 0 128 128 ae ae ae ae;rw[Aax,dh ae]at this;exact this)
   have bG:=my;clear av;go_wp2_with(first
    | refine arm ?_
    | ((with_reducible refine cu 60 (.tmp 11) (.tmp 29) ?_);refine fC w3 rfl 60 (.tmp 11) (.tmp 29) rfl (aC s.val) 60 (aC aK) rfl rfl rfl (dD s) (an p') (dj s.val) ?_)
    | (at_builtin;refine bc aF cp rfl (.tmp 34) (.tmp 35) 30 rfl w.heap.size 5 (.int .u8 0) 1 Aa0 eu rfl _ tb rfl O4 _ s.val ay SI ae ae G4.2.size ?_))
   intro v6 w6 aa aT aU;have aS:=λkk ao=>(O4.aN kk ao).1;go_wp2;go_roundw
   case rel=>exact⟨k+1,ae,aq,by rw[TS.out];exact aa,⟨G4.1.az (Touch.bg (F:=λn=>w.heap.size<=n) aT (λkk ao=>aS kk ao)) (λb hb=>λhle=>ag b hle hb),G4.2.gW aT aS⟩⟩
   case measure=>simp[Aat];omega
  ·obtain rfl:k=κ ps:=by omega
   have ho:=HOWN.out;rw[HL.out,(Q2 b)]at ho;obtain⟨z,hz⟩:=bK (128*bj (κ b) 128-κ b);rw[<-hz]at ho;have a6:z<=65536:=ae
   clear hz;obtain⟨g,cap,aO,aR,ak,hc,_,_⟩:=Own.row ho ab;have bB:=an hc;have ar:κ b+z<=cap:=by have:=mf (aO ▸ ho.cC);grind
   subst aO;clear hc;rw[show(b++Aac z (0:aj)).length=κ b+z from aq];have PC:=aD.piece (lo:=κ b) (hi:=κ b+z) (show a8 wr (cv g (κ b+z) cap) (b++Aac z 0)from by have:=ho.cC;simpa using this) ae aq;rw[dh aq,lr rfl]at PC;have aQ:∀W,(Aav 30 (cv g (κ b+z) cap) (some (i6 (κ b:Int))) none none).run Aag W=.ok (b8 (some ⟨g,0,none⟩) (κ b) (κ b+z) cap) W:=λW=>di (P:=Aag) 30 dr du _ _ cap (κ b) ae W;obtain⟨pa,pc,bl⟩:=PC.slice;rw[wh]at bl;rw[bl]at aQ PC;clear bl;have ax:∀W,(Aav 30 (cv g (κ b+z) cap) none (some (i6 (κ b:Int))) (some (i6 (κ b:Int)))).run Aag W=.ok (cv g (κ b) (κ b)) W:=λW=>by rw[run_slice_hm W 30 (some ⟨g,0,none⟩) (κ b+z) cap dr .i64 .i64 (κ b:Int) (κ b:Int) ae ae ae,du];simp only[Aau,sliced,Abq];rw[aM ae];rfl
   obtain⟨w9,aY⟩:=bK (wr);subst aY;go_wp2;go_loopw [42] (λi wr=>∃k:Nat,k<=z/\i=i6 k/\wr=w9) (λi _=>z-(Aat i).toNat)
   case atStart=>exact⟨0,bE _,rfl,rfl⟩
   case round=>
    obtain⟨k,hk,rfl,rfl⟩:=hrel;by_cases aJ:k<z
    ·obtain⟨pb,po,rfl,al,aV⟩:=cg PC aq ab;have x0:=aV k ab;rw[List.getElem_replicate]at x0;replace x0:wr.cell? (ad pb (po+k))=some (.int .u8 0):=x0;have b3:((k:Int)<(z:Int))=True:=by simp;omega
     clear aV;go_wp2;go_roundw
     case rel=>exact⟨k+1,ae,fJ,trivial⟩
     case measure=>simp[Aat];omega
    ·obtain rfl:k=z:=by omega
     go_wp2;go_ret2;refine⟨_,rfl,?_,λk hk=>by cases hk;exact aR,GR⟩;refine .inr ⟨g,0,κ b,rfl,h1,aG _,dE,λi hi=>?_⟩;have:=bB i ab;rw[yz hi]at this;simp;omega
theorem KH{p:List au}(h:aH w g 176 (aO (hR p)))(h0:0<κ p)(h8:κ p<=8):cX w (cv g (κ p) 8) p:=by refine .inr ⟨g,0,8,rfl,h0,h8,ax,λj u hj=>?_⟩;rw[h.cell,Abr];rw[<-oB,fz,hR,gC,yn ((lp.1 hj).1)];exact hj
theorem IJ(g hi:Nat)(h1:hi<=8)(W:af):(Abo 176 (pz g) none (some (i6 (hi:Int))) none).run Aag W=.ok (cv g hi 8) W:=by
 have aM:prog.arrayLen 176=8:=av
 have hs:(sizeOf (prog.elem 176)).run Aag W=.ok 3 W:=av
 rw[run_sliceAt_array_h W 176 ⟨g,0,none⟩ ay .i64 (hi:Int) ae ae,hs,aM];rfl
theorem UY{p:List au}(h:∀x∈p,x≠hole)(i:Nat)(hi:i<8):decide (a6 (hR p) i=hole)=!decide (i<κ p):=by grind [a6,hR]
theorem QZ(l:List au)(k:Nat):l.take (8*(k+1))=l.take (8*k)++e0 l k:=by grind [e0]
theorem Cu(w:af)(H:aP)(P:bu)(A:PA w H P)(vl:ah)(ps:List au)(hv:cX w vl ps)(aE:∀k,vl.ownBlock=some k->¬PF H k)(L:List au)(h1:1<=κ L)(aB:κ L<=1000)(hl:κ ps=bj (κ L) 8)(hn:∀k(h:k<κ ps),node8 P.C ps[k]=some (hR (e0 L k)))(hh:∀x∈L,x≠hole):Aae Aag 174 #[pz H.pb,vl,i6 (κ L:Int)] w λe w'=>∃v,e=rt #[v,i6 0]/\bf w' w.heap.size v L/\PG w H P w':=by
 have bb:bj (κ L) 8<=1000:=A1
 have a1:κ ps<=1000:=ae
 obtain⟨va,vc,rfl⟩:=hv.slice;obtain⟨HV,aL,HA,HB,HL,HH⟩:=im hv aE A hn hl hh;refine F4 ?_;intro ag;have GE:=an (show κ L<=8*κ ps from by have:¬bj (κ L) 8<bj (κ L) 8:=yB _;rw[fL ae]at this;rw[HL.out];omega)
 have MK:=λW=>mo (P:=Aag) 88 87 _ 3 24 Aaq cy (κ L) ae ae W;clear aE hn hl hh;go_in;go_wp2;clear MK;go_loopw [8,21] (λv i wr=>∃k:Nat,k<=κ ps/\i=i6 k/\bf wr w.heap.size v (L.take (8*k))/\PG w H P wr) (λ_ i _=>κ ps-(Aat i).toNat)
 case atStart=>exact⟨0,bE _,rfl,(ak.room dG 3 87 w (.agg #[i6 0,u6 0,.int .u32 0]) w.heap.size (κ L) (aG _) ae),(PG.of A (ai w (.cells (Acv (Value.agg #[i6 0,u6 0,.int .u32 0]).cells (κ L*3)) 87)))⟩
 case round=>
  obtain⟨k,hk,rfl,hown,hg⟩:=hrel;obtain⟨HOWN,GR⟩:=aw hown hg;by_cases hlt:k<κ ps
  ·obtain⟨b0,off,rfl,hbs,bd,hc⟩:=(aI.tf HV GR.2 aL).range pw ae;have RC:=an (hc k hlt);have b2:((k:Int)<(κ ps:Int))=True:=by simp;omega
   obtain⟨s,hs,al⟩:=oR (HB k hlt);obtain⟨bh,aU⟩:=aA ((λk (h:k<κ ps)=>(fL (n:=κ L) (c:=8) ae).1 (by rw[<-HL.out];exact h)) k hlt) (lL L k);have TP:=an (QZ L k);have aT:∀x∈e0 L k,x≠hole:=λx hx=>HH x (by unfold e0 at hx;exact yL (sA hx));obtain⟨m,hm⟩:=bK (κ (e0 L k));obtain⟨r,hr⟩:=bK (κ L-8*k);obtain⟨ol,aF⟩:=bK (L.take (8*k));have a7:κ ol=8*k:=by rw[aF,ev];omega
   rw[<-aF]at HOWN TP;have bF:1<=m/\m<=8:=ae
   have ab:m=if r<8 then r else 8:=by split<;>omega
   obtain⟨on,aa⟩:=bK (κ ol);have aV:on<=1000:=ae
   have e5:(κ L:Int)-(on:Int)=(r:Int):=ae
   obtain⟨av,ad,aj⟩:=aW (λW (AW:PA W H P)=>uU W H P AW ps[k] s hs) al (λi hi=>UY aT i hi);have LN:=oS (p:=e0 L k) ae;have NF:=an (λW g (h:aH W g 176 (aO (hR (e0 L k))))=>KH h ae ae);rw[<-hm]at aj NF;generalize e0 L k=pp at *;generalize ps[k]=p at *;obtain⟨aQ,HM⟩:=aw aa hm;obtain⟨l,aR⟩:=bK (hR pp);rw[<-aR]at aj NF LN ad;clear hc hs al aT aF a7 hm aU bh hr aR;obtain⟨ta,tc,aX⟩:=(ak.row HOWN pw).slice;rw[<-aa]at aX;subst aX;clear aa;obtain⟨IS,IN,a8,BX,G2,O2⟩:=im (dD s) (gX l LN) LN (aH.new wr 87 (be p)) (GR.up (ai wr (.cells (be p) 87))) (HOWN.up (ai wr (.cells (be p) 87)));go_wp2_with(first
    | refine cK 87 23 (be p) RC ?_
    | refine bD 87 e8 ?_
    | refine ed 87 10 24 wr (be p) 87 (be hole) ?_
    | refine cU 87 10 BX ?_)
   refine(av _ G2.1).mono ?_;rintro e w3⟨rfl,g3⟩;have U4:=an (ai w3 (.cells (aC s.val) 60));clear av;go_wp2_with(first
    | refine arm ?_
    | ((with_reducible refine cu 60 (.tmp 11) (.tmp 29) ?_);refine fC w3 rfl 60 (.tmp 11) (.tmp 29) rfl (aC s.val) 60 (aC aK) rfl rfl rfl IS (an p') (dj s.val) ?_))
   refine((λW=>Dq W s.val s.property (by rw[ad.out])) _).mono ?_;rintro e w5⟨rfl,u5⟩;rw[ad.out];obtain⟨U6,N6⟩:=aw (u5.trans (ai w5 (.cells (aO l) 176))) (aH.new w5 176 (aO l));clear ad IS;have bc:(r<8/\m=r)\/(¬r<8/\m=8):=by
    by_cases h:r<8
    ·rw[bo h]at ab;exact .inl ⟨h,ab⟩
    ·rw[aM h]at ab;exact .inr ⟨h,ab⟩
   clear ab;obtain⟨mv,ba⟩:∃mv:Int,mv=(m:Int):=⟨_,rfl⟩;have b4:(if(r:Int)<8 then(r:Int)else 8)=mv:=by rw[ba];split<;>omega
   clear bc;go_wp2_with(first
    | refine arm ?_
    | ((with_reducible refine cu 176 (.tmp 13) (.tmp 37) ?_);refine fC w5 rfl 176 (.tmp 13) (.tmp 37) rfl (aO l) 176 (aO dK) rfl rfl rfl IN (an (by rw[b7,b7,LN];rfl)) (jK l) ?_))
   go_loopw [47] (λi wr=>∃k:Nat,k<=8/\i=i6 k/\bf wr w.heap.size (.slice ta on tc) ol/\PG w H P wr/\aH wr w5.heap.size 176 (aO l)) (λi _=>8-(Aat i).toNat)
   case atStart=>exact⟨0,bE _,rfl,(((ak.az O2 g3.2 (λk hk=>ag _ (by have:=(O2.aN k hk).1;omega))).up U4).up U6),(((G2.trans g3).up U4).up U6),N6⟩
   case round=>
    obtain⟨i,hi,rfl,hown,hg,hblk⟩:=hrel;obtain⟨HOWN,GR,NB⟩:=aW hown hg hblk;by_cases ar:i<8
    ·obtain⟨IX,EQ⟩:=aA (pW l a8 i ar) (DB (a6 l i));rw[aj.out i ar]at EQ;have b3:((i:Int)<8)=True:=by simp;omega
     generalize a6 l i=x at *;obtain⟨UA,BX⟩:=aw (ai wr (.cells (be x) 87)) (aH.new wr 87 (be x));by_cases aD:i<m
     ·have b5:((i:Int)<mv)=True:=by rw[ba];simp;omega
      rw[gD aD]at EQ;simp only[Bool.not_true]at EQ;go_wp2_with(refine arm ?_);go_roundw
      case rel=>exact⟨i+1,ae,aq,HOWN.up UA,GR.up UA,NB.up UA⟩
      case measure=>simp[Aat];omega
     ·have b5:((i:Int)<mv)=False:=by rw[ba];simp;omega
      rw[iY aD]at EQ;simp only[Bool.not_false]at EQ;go_wp2_with(refine arm ?_);go_roundw
      case rel=>exact⟨i+1,ae,aq,HOWN.up UA,GR.up UA,NB.up UA⟩
      case measure=>simp[Aat];omega
    ·obtain rfl:i=8:=by omega
     have b3:(((8:Nat):Int)<8)=False:=aq
     have ax:=IJ w5.heap.size m bF.2;go_wp2_with(first
      | (at_builtin;refine bI pw rfl (.tmp 59) (.tmp 61) 88 rfl w.heap.size 87 _ 24 Aaq cy rfl _ ol rfl HOWN _ pp rfl (NF wr w5.heap.size NB) (by rw[<-aQ.out,<-HM.out];omega) (by rw[<-aQ.out,<-HM.out];omega) GR.2.size ?_))
     intro v7 w7 aJ aY bk;have aS:=λkk ao=>(HOWN.aN kk ao).1;go_wp2;go_roundw
     case rel=>exact⟨k+1,ae,aq,by rw[TP.out];exact aJ,⟨GR.1.az (Touch.bg (F:=λn=>w.heap.size<=n) aY (λkk ao=>aS kk ao)) (λb hb=>λhle=>ag b hle hb),GR.2.gW aY aS⟩⟩
     case measure=>simp[Aat];omega
  ·obtain rfl:k=κ ps:=by omega
   have ho:=HOWN.out;rw[dh GE.out]at ho;go_wp2;go_ret2;exact⟨_,rfl,ho,GR⟩
theorem Di:∀(n s k:Nat)(h:k+1<κ (s::l' s)),s<=n->(s::l' s)[k+1]=lR ((s::l' s)[k]' ae) 8
 | 0,s,k,h,hs=>by rw[show l' s=[] from hi ae]at h;simp at h
 | n+1,s,k,h,hs=>by
  by_cases h1:s<=1
  ·rw[hi h1]at h;simp at h
  ·have e:=kh (s:=s) ae;have h8:=GQ (s:=s) ae;cases k with
   | zero=>simp only[e,Adh,Abx]
   | succ k=>
    have h':k+1<κ (lR s 8::l' (lR s 8)):=by rw[e]at h;simpa using h
    have:=Di n (lR s 8) k h' ae;simp only[e,Adh]at this ⊢;exact this
theorem hW(h1:1<=n)(h2:n<=65535):eB n=lR n 128::l' (lR n 128):=by grind [eB]
theorem p1(h1:1<=n)(h2:n<=65535)(h:k+1<κ (eB n)):(eB n)[k+1]=bj ((eB n)[k]' ae) 8:=by simp only[(hW h1 h2)]at h ⊢;exact Di _ _ k h (aG _)
theorem EG{n:Nat}(h1:1<=n)(h2:n<=65535):∀k(h:k<κ (eB n)),1<=(eB n)[k]/\(eB n)[k]<=512
 | 0,h=>by have e:=hW h1 h2;simp only[e,Abx];exact⟨wU ae h1,by unfold lR;omega⟩
 | k+1,h=>by have⟨a,b⟩:=EG h1 h2 k ae;rw[p1 h1 h2 h];exact⟨wU ae a,A1⟩
theorem KS{f:α->ah}{f':β->List ah}{k':Nat}{e e':Aab}{v v':ah}{xs:List α}{ys:List β}(h:Own f e w base v xs)(h':ak f' k' e' w base' v' ys)(he:e≠e'):v.ownBlock=none\/v.ownBlock≠v'.ownBlock:=by exact Mo
structure iq(C:List cN)(root:au)(b:List aj)(lv:Nat->List au):Prop where
 len:1<=κ b/\(κ b)<=65535
 sz:∀k(h:k<κ (eB (κ b))),κ (lv k)=(eB (κ b))[k]
 top:lv (κ (eB (κ b))-1)=[root]
 nh:∀k,k<κ (eB (κ b))->∀x∈lv k,x≠hole
 YN:∀i(h:i<κ (lv 0)),fE C (lv 0)[i]=some (dp b i)
 nod:∀k,k+1<κ (eB (κ b))->∀i(h:i<κ (lv (k+1))),node8 C (lv (k+1))[i]=some (hR (e0 (lv k) i))
def iG(lv:Nat->List au)(t:Nat):Nat->List au
 | 0=>[]
 | d+1=>iG lv t d++lv (t-(d+1))
theorem ua{lv:Nat->List au}{t:Nat}(h:∀k,k<t->κ (lv k)<=512):∀d,d<=t->κ (iG lv t d)<=512*d
 | 0,_=>by simp[iG]
 | d+1,hd=>by unfold iG;have:=ua h d ae;have:=h (t-(d+1)) ae;rw[Aaf];omega
def dT(b:List aj)(lv:Nat->List au):List au:=iG lv (κ (eB (κ b))) (κ (eB (κ b)))
theorem qL(w:af)(H:aP)(P:bu)(A:PA w H P)(root:au)(b:List aj)(lv:Nat->List au)(B:iq P.C root b lv):Aae Aag 112 #[pz H.pb,.agg (be root),i6 (κ b:Int)] w λe w'=>∃v u,e=rt #[v,u,i6 0]/\a8 w' v b/\(∀k,v.ownBlock=some k->w.heap.size<=k)/\bf w' w.heap.size u (dT b lv)/\PG w H P w':=by
 obtain⟨h1,h2⟩:=B.len;have aG:=(jj (κ b)).1;have aF:=an (show dT b lv=iG lv (κ (eB (κ b))) (κ (eB (κ b))) from rfl);have LC:=hW h1 h2;have bh:1<=κ (eB (κ b)):=aQ
 have S0:=an (show(lv 0).length=bj (κ b) 128 by rw[B.sz 0 ae];simp only[LC];rfl);clear LC;obtain⟨SZ,SN,LV,ba,av⟩:=eI (show ∀k,k<κ (eB (κ b))->1<=κ (lv k)/\(κ (lv k))<=512 from λk hk=>by rw[B.sz k hk];exact(EG h1 h2) k hk) (show ∀k,k+1<κ (eB (κ b))->κ (lv (k+1))=bj (κ (lv k)) 8 from λk hk=>by rw[B.sz (k+1) hk,B.sz k ae];exact(λk h=>p1 (k:=k) h1 h2 h) k hk) (λW=>AK W (κ b) ae) (λk (h:k<κ (eB (κ b)))=>B.sz k h) B.top;obtain⟨ll,aR⟩:=bK (eB (κ b));obtain⟨t,ht⟩:=bK (κ ll);have ag:=an (show ∀g,w.heap.size<=g->¬PF H g from λg hg hf=>wu);have EQ:=DB root;rw[iY (B.nh (κ (eB (κ b))-1) ae root (by rw[B.top];simp))]at EQ;have bm:=an (show(ll.map (λk:Nat=>(k:Int))).length=t from ab);rw[<-aR]at aG bh ba aF SZ SN av LV;rw[<-ht]at aG bh aF SZ SN av;obtain⟨aD,a7⟩:=aw aR ht;clear aR ht;go_in;go_wp2_with(refine arm ?_);refine(LV _).mono ?_;rintro e w2⟨vs,rfl,os,us⟩;obtain⟨B2,U2⟩:=aw ((aH.new w 87 (be root)).up us) ((ai w (.cells (be root) 87)).trans us);obtain⟨sa,sc,aK⟩:=os.cC.slice;rw[bm.out]at aK;subst aK;obtain⟨U3,U4⟩:=aw (ai w2 (.cells (be root) 87)) (ai (w2.alloc (.cells (be root) 87)) (.cells (be root) 87));have bt:((t:Int)==0)=false:=ab
 clear LV;go_wp2_with(first
  | refine arm ?_
  | ((with_reducible refine dJ _ 1 _ ?_);refine bU rfl 88 _ (.tmp 26) rfl _ 3 _ _ rfl Aaq cy ae ae rfl ?_)
  | ((with_reducible refine dJ 88 1 _ ?_);refine bU rfl 88 87 (.tmp 28) rfl _ 3 24 (be root) rfl Aaq cy ae ae rfl ?_))
 have bo:=an (show bf ((w2.alloc (.cells (be root) 87)).alloc (.cells (be root) 87)) w.heap.size (cv (w2.heap.size+1) 1 1) (iG lv t 1)from by have:=(Gh (w2.alloc (.cells (be root) 87)) w.heap.size (by have:=U2.size;have:=U3.size;omega) root);rw[aL]at this;unfold iG;rw[show iG lv t 0=[] from rfl,Aay,show t-(0+1)=t-1 from rfl,av.out];exact this)
 go_loopw [10,11,12] (λbE all i wr=>∃j:Nat,∃z:Int,j+1<=t/\i=i6 z/\z=(j:Int)-1/\bf wr w.heap.size bE (lv j)/\bf wr w.heap.size all (iG lv t (t-j))/\pk bE all/\Own bz 3 wr w.heap.size (.slice sa t sc) (ll.map (λk:Nat=>(k:Int)))/\PG w H P wr) (λ_ _ i _=>(Aat i+1).toNat)
 case atStart=>exact⟨t-1,(t:Int)-2,ae,rfl,ae,(by rw[av.out];exact((Gh _ _ U2.size _).up U4)),by rw[show t-(t-1)=1 from ae];exact bo,.inr wq,((os.up U3).up U4).mono aq,(PG.of A ((U2.trans U3).trans U4))⟩
 case round=>
  obtain⟨j,z,hj,rfl,hz,ar,ad,aV,bc,hg⟩:=hrel;have GR:=an hg;obtain⟨la,lc,rfl⟩:=(ak.row ar pw).slice;have bp:=(ak.row ad pw).slice;obtain⟨aa,ac,rfl⟩:=bp;have AL:=an (ua (lv:=lv) (t:=t) (λk hk=>(SZ k hk).2) (t-j) ae);cases j with
  | zero=>
   have b3:(z>=0)=False:=ab
   obtain⟨bl,LT⟩:=aw (show iG lv t (t-0)=dT b lv by rw[aF.out];rfl) (ED _ H P GR.1 _ _ (ak.row ar pw) (λk hk=>ag _ (ar.aN k hk).1) b h1 h2 S0 B.YN);clear hz;obtain⟨n0,aB⟩:=bK (κ (lv 0));obtain⟨n1,aT⟩:=bK (κ (iG lv t (t-0)));rw[<-aB]at LT ⊢;rw[<-aT]at ad ⊢;clear aB aT;go_wp2_with fail;refine LT.mono ?_;rintro e w3⟨v,rfl,hb,aX,hg⟩;obtain⟨bn,bd,bX⟩:=aW (GR.trans hg) (ak.az ad hg.2 (λk hk=>ag _ (ad.aN k hk).1)) (show ∀k,v.ownBlock=some k->w.heap.size<=k from λk hk=>bN GR.2.size (aX k hk));clear aX;go_wp2;go_ret3;exact⟨_,_,rfl,hb,bX,by rw[<-bl.out];exact bd,bn⟩
  | succ j=>
   obtain rfl:z=(j:Int):=ae
   have b3:((j:Int)>=0)=True:=aq
   have bb:j<t:=ae
   obtain⟨g,cap,a6,_,_,hc,_,_⟩:=Own.row bc dL;have aC:j<κ ll:=dL
   have x0:=hc j ab;rw[Adp]at x0;have aE:ll[j]=κ (lv j):=by have:=aD.out;subst this;exact(ba j aC).symm
   rw[aE]at x0;have aA:=bc;rw[a6,bm.out]at aA;rw[bm.out]at a6;simp only[Abp]at a6;obtain⟨rfl,_,rfl⟩:=a6;have hz1:=SZ j bb;have aI:=an (Cu _ H P GR.1 _ _ (ak.row ar pw) (λk hk=>ag _ (ar.aN k hk).1) _ hz1.1 ae (SN j ae) (B.nod j (by rw[<-aD.out,<-a7.out];omega)) (B.nh j (by rw[<-aD.out,<-a7.out];omega)));have NX:=an (show iG lv t (t-j)=iG lv t (t-(j+1))++lv j by obtain⟨d,hd⟩:∃d,t-j=d+1:=⟨t-j-1,ae⟩;rw[hd,show t-(j+1)=d from ae];show iG lv t d++lv (t-(d+1))=_;rw[show t-(d+1)=j from ae])
   obtain⟨L0,aU⟩:=bK (lv j);rw[<-aU]at aI NX x0 hz1;have bG:=an aU;obtain⟨n0,aB⟩:=bK (κ (lv (j+1)));rw[<-aB]at aI ⊢;obtain⟨al,aM⟩:=bK (iG lv t (t-(j+1)));rw[<-aM]at ad NX AL ⊢;clear aB aM hc aE hz aU;unfold bz at x0;go_wp2_with fail;refine aI.mono ?_;rintro e w3⟨v,rfl,hv,hg⟩;obtain⟨V3,G3,A3,S3⟩:=bR (hv.mono (base':=w.heap.size) GR.2.size) (GR.trans hg) (ak.az ad hg.2 (λk hk=>ag _ (ad.aN k hk).1)) (Own.az aA hg.2 (λk hk=>ag _ (aA.aN k hk).1));have a1:=an (show pk v (.slice aa (κ al) ac)from by
    cases h:v.ownBlock with
    | none=>exact .inl h
    | some k=>refine .inr (λe=>?_);have h1:=(hv.aN k h).1;have h2:=(ad.aN k (by rw[<-e];exact h)).2;omega)
   obtain⟨va,vc,aO⟩:=(ak.row hv pw).slice;obtain⟨m0,aZ⟩:=bK (κ L0);rw[<-aZ]at aO;subst aO;obtain⟨br,n1⟩:=aw aZ (show(κ al+κ L0)*24<=140737488355328 from dL);clear x0 aZ;go_wp2_with(first
    | (at_builtin;refine eN pw rfl (.tmp 50) (.tmp 51) 88 rfl _ _ _ _ Aaq cy rfl _ _ rfl A3 _ _ rfl (ak.row V3 pw) n1 dL G3.2.size ?_))
   intro v7 w7 aJ aY bk bq;have aS:=λkk ao=>(A3.aN kk ao).1;go_wp2;go_roundw
   case rel=>exact⟨j,(j:Int)-1,ae,fJ,rfl,by rw[<-bG.out];exact(ak.kept V3 aY a1),by rw[NX.out];exact aJ,(a1.grown bq (λk hk=>(V3.aN k hk).2)),(sy S3 aY (KS S3 A3 ax)),⟨G3.1.az (Touch.bg (F:=λn=>w.heap.size<=n) aY (λkk ao=>aS kk ao)) (λb hb=>λhle=>ag b hle hb),G3.2.gW aY aS⟩⟩
   case measure=>simp[Aat]
def mK(st:Nat)(ats:List Nat)(b:List aj):Nat->List (Nat × cN) × List Nat
 | 0=>(fU ats b (Aaj (bj (κ b) 128)),ats.drop (bj (κ b) 128))
 | k+1=>(gY (mK st ats b k).2 ((mK st ats b k).1.map (ao st)) (Aaj (bj (κ (mK st ats b k).1) 8)),(mK st ats b k).2.drop (bj (κ (mK st ats b k).1) 8))
def ll(st:Nat)(ats:List Nat)(b:List aj)(k:Nat):List au:=(mK st ats b k).1.map (ao st)
def fu(st:Nat)(ats:List Nat)(b:List aj):Nat->List (Nat × cN)
 | 0=>[]
 | k+1=>fu st ats b k++(mK st ats b k).1
theorem l9{l:List Nat}(h:k<κ l):(l.take (k+1)).sum=(l.take k).sum+l[k]:=by rw[en h,wm];simp only[Acg,Ac4];omega
theorem EF{l:List Nat}(k:Nat):(l.take k).sum<=l.sum:=by
 have h2:l.sum=(l.take k).sum+(l.drop k).sum:=by rw[<-wm,fH]
 omega
theorem AB{st:Nat}{ats:List Nat}{b:List aj}(h1:1<=κ b)(h2:κ b<=65535)(hn:κ ats=dM (κ b)):∀k(h:k<κ (eB (κ b))),κ (mK st ats b k).1=(eB (κ b))[k]/\(mK st ats b k).2=ats.drop ((eB (κ b)).take (k+1)).sum
 | 0,h=>by
  have e:=hW h1 h2;have e0:(eB (κ b))[0]=bj (κ b) 128:=by simp only[e,Abx];rfl
  have hs:=l9 h;rw[Abk,Ac4,Abr]at hs;have hle:=EF (l:=eB (κ b)) 1;rw[e0]at hs;refine⟨?_,?_⟩
  ·show(fU ats b _).length=_;rw[rW (by rw[Acx,hn];unfold dM;omega),Acx,e0]
  ·show ats.drop _=_;rw[hs,Abr]
 | k+1,h=>by
  obtain⟨a,c⟩:=AB (st:=st) h1 h2 hn k ae;obtain⟨aC,hs,hle⟩:=db (p1 h1 h2 h) (l9 h) (EF (l:=eB (κ b)) (k+1+1));have aa:bj (κ (mK st ats b k).1) 8=(eB (κ b))[k+1]:=by rw[a,aC]
  refine⟨?_,?_⟩
  ·show(gY _ _ _).length=_;rw[rV (by rw[Acx,c,hP,hn,aa];unfold dM;omega),Acx,aa]
  ·show(mK st ats b k).2.drop _=_;rw[c,Ac3,aa,hs]
theorem Dh:∀(n s k:Nat)(h:k<κ (s::l' s)),s<=n->((s::l' s)[k]<=1↔k+1=κ (s::l' s))
 | 0,s,k,h,hs=>by have e:=hi (s:=s) ae;exact Nd
 | n+1,s,k,h,hs=>by
  by_cases h1:s<=1
  ·have e:=hi h1;exact Nd
  ·have e:=kh (s:=s) ae;have h8:=GQ (s:=s) ae;cases k with
   | zero=>simp only[e,Abx,Aal];omega
   | succ k=>
    have h':k<κ (lR s 8::l' (lR s 8)):=by rw[e]at h;simpa using h
    have:=Dh n (lR s 8) k h' ae;simp only[e,Adh,Aal]at this ⊢;rw[this];omega
theorem Tg(h1:1<=n)(h2:n<=65535)(h:k<κ (eB n)):((eB n)[k]<=1↔k+1=κ (eB n)):=by simp only[(hW h1 h2)]at h ⊢;exact Dh _ _ k h (aG _)
theorem qV:prog.underlying 41=some (.slice (prog.elem 41)):=av
theorem qW(W:af):(sizeOf (prog.elem 41)).run Aag W=.ok 1 W:=av
theorem AA(st:Nat)(ats:List Nat)(b:List aj)(k:Nat):(mK st ats b (k+1)).1=gY (mK st ats b k).2 (ll st ats b k) (Aaj (bj (κ (ll st ats b k)) 8))/\(mK st ats b (k+1)).2=(mK st ats b k).2.drop (bj (κ (ll st ats b k)) 8):=by unfold ll;rw[Aad];exact⟨rfl,rfl⟩
def Eu(st:Nat)(ats:List Nat)(b:List aj):∀k,∀i∈(mK st ats b k).2,i∈ats
 | 0,i,h=>yL h
 | k+1,i,h=>Eu st ats b k i (yL h)
theorem Et(st:Nat)(ats:List Nat)(b:List aj):∀k,∀x∈(mK st ats b k).1,x.1∈ats
 | 0,x,h=>sA (List.of_mem_zip h).1
 | k+1,x,h=>Eu st ats b k _ (sA (List.of_mem_zip h).1)
theorem nX(has:∀i∈ats,4<=i/\i<1024/\P.s i=2/\i<κ P.C)(aE:1<=P.st/\P.st<=281474976710655)(k:Nat):∀p∈ll P.st ats b k,p.wf/\cw p=true:=λp hp=>by obtain⟨x,hx,rfl⟩:=Abf.1 hp;have:=has _ (Et _ _ _ k x hx);exact h5 this.1 this.2.1 aE.1 aE.2 x.2
theorem tW{st:Nat}{ats:List Nat}{b:List aj}(h1:1<=κ b)(h2:κ b<=65535)(hn:κ ats=dM (κ b)):∀k,k<=κ (eB (κ b))->κ (fu st ats b k)=((eB (κ b)).take k).sum
 | 0,_=>rfl
 | k+1,h=>by show(fu st ats b k++(mK st ats b k).1).length=_;rw[Aaf,tW h1 h2 hn k ae,(AB h1 h2 hn k ae).1,l9]
theorem xY(P:bu)(l m:List (Nat × cN)):bV P (l++m)=bV (bV P l) m:=by
 induction l generalizing P with
 | nil=>rfl
 | cons x l ih=>obtain⟨i,s⟩:=x;exact ih _
theorem ez(A:PA w H P){v:ah}{xs:List au}(h:bf w base v xs):∀k,v.ownBlock=some k->¬PF H k:=λk hk=>by
 obtain⟨_,h2⟩:=h;rcases h2 with⟨h3,_⟩|⟨g,cap,cur,h3,_,h5,_⟩
 ·rw[h3]at hk;cases hk
 ·rw[h3]at hk;simp only[Aan,Aai]at hk;subst hk;exact A.cc (t:=87) (C:=cur) h5 ax
theorem rp{lo hi cap n c:Nat}(h:(b8 a lo hi cap).ownBlock=some k):(Acl a n c).ownBlock=some k:=by
 cases a with
 | none=>unfold b8 at h;simp[Aan]at h
 | some a=>
  unfold b8 at h;split at h
  ·exact h
  ·simp only[Option.map_some,Aan,Aai]at h;rw[show(a.add (lo*1)).block=a.block from by unfold Addr.add;split<;>rfl]at h;simp only[Aan,h]
theorem Bn{f:α->ah}{v:ah}{l:List α}(h:aD f w v l)(h0:0<κ l):∀k,v.ownBlock=some k->k<w.heap.size:=λk hk=>by
 rcases h with⟨rfl,_⟩|⟨b,off,cap,h1,h2,h3,h4,h5⟩
 ·simp at h0
 ·rw[h1]at hk;simp only[Aan,Aai]at hk;subst hk;exact hX w _ (h5 0 h0)
theorem CR(w:af)(H:aP)(P:bu)(A:PA w H P)(vb:ah)(b:List aj)(hb:a8 w vb b)(aX:∀k,vb.ownBlock=some k->¬PF H k)(h1:1<=κ b)(h2:κ b<=65535)(va:ah)(ats:List Nat)(ha:aD bz w va (ats.map (λk:Nat=>(k:Int))))(han:∀k,va.ownBlock=some k->¬PF H k)(aM:κ ats=dM (κ b))(has:∀i∈ats,4<=i/\i<1024/\P.s i=2/\i<κ P.C)(aE:1<=P.st/\P.st<=281474976710655)(hm:P.m+4096<=900000):Aae Aag 257 #[pz H.pb,vb,va] w λe w'=>∃root,ll P.st ats b (κ (eB (κ b))-1)=[root]/\e=rt #[.agg (be root),i6 0]/\PT w H (bV P (fu P.st ats b (κ (eB (κ b))))) w':=by
 obtain⟨T4,N1⟩:=jj (κ b);have LC:=hW h1 h2;have bh:1<=κ (eB (κ b)):=aQ
 have aT:1<=dM (κ b):=by unfold dM;rw[LC,Acg];have:=wU (b:=128) ae h1;omega
 have aS:dM (κ b)<=1024:=N1;obtain⟨bH,LM,a6,bN⟩:=bR (AB (st:=P.st) h1 h2 aM) (EG h1 h2) han has;have e0:(eB (κ b))[0]' ae=bj (κ b) 128:=by simp only[LC,Abx];rfl
 have aJ:bj (κ b) 128<=κ ats:=by have:=l9 (l:=eB (κ b)) (k:=0) ae;have h3:=EF (l:=eB (κ b)) (0+1);rw[Abk,Ac4,e0]at this;rw[aM];unfold dM;omega
 have ND:=an (uN (w.alloc (.cells (be hole) 87)) (κ b) ae);obtain⟨ba,bc,rfl⟩:=hb.slice;obtain⟨aa,ac,rfl⟩:=ha.slice;rw[Aad,aM]at ha a6;have ST:=an (λW (u:Up w W)=>Gu W H P (A.up u) _ b (hb.up u) aX h1 h2 _ _ (ha.up u) a6 aJ (λi hi=>(has i hi).2) ae);have bm:κ (ats.map (λk:Nat=>(k:Int)))=κ ats:=aq
 rw[bm,aM];obtain⟨bB,HAL,E0⟩:=aW aJ aM e0;have L0:(fu P.st ats b 1)=fU ats b (Aaj (bj (κ b) 128)):=ay
 have bG:=an L0;clear aX han has aJ LC e0 L0 bm;obtain⟨nd,aY⟩:=bK (dM (κ b));rw[<-aY]at ND ST ha a6 aT aS ⊢;have HND:=an aY;clear aY N1;have bn:((nd:Int)==0)=false:=ab
 go_in;go_wp2_with(refine arm ?_);refine ND.mono ?_;rintro e w2⟨rfl,u2⟩;obtain⟨U2,B2⟩:=aw ((ai w (.cells (be hole) 87)).trans u2) ((aH.new w 87 (be hole)).up u2);go_wp2_with fail;refine(ST _ U2).mono ?_;rintro e w3⟨v,rfl,hv,D3⟩;obtain⟨t,ht⟩:=bK (κ (eB (κ b)));have HT:=an ht;have⟨bw,A3,T3,O3⟩:=D3;have a1:=(bH 0 ae).1;have bt:κ (ll P.st ats b 0)=bj (κ b) 128:=by unfold ll;rw[Aad,a1];exact E0
 obtain⟨vv,vc,aO⟩:=(ak.row hv pw).slice;obtain⟨n0,aB⟩:=bK (bj (κ b) 128);have aN:κ ((fU ats b (Aaj (bj (κ b) 128))).map (ao P.st))=n0:=by rw[aB];exact bt
 rw[aN]at aO;subst aO;have bk:n0<=nd:=dL
 have AT:=aD.piece ha (lo:=n0) (hi:=nd) bk Tt;rw[dh Tt,<-p4]at AT;have bO:∀W,(Aav 41 (.slice aa nd ac) (some (i6 (n0:Int))) none none).run Aag W=.ok (b8 aa n0 nd ac) W:=λW=>di (P:=Aag) 41 qV qW aa nd ac n0 bk W;have br:=an (show aD bz w (b8 aa n0 nd ac) ((mK P.st ats b 0).2.map (λk:Nat=>(k:Int)))from by rw[show(mK P.st ats b 0).2=ats.drop n0 from by rw[aB];rfl];exact AT)
 have bl:=an (show ∀k,(b8 aa n0 nd ac).ownBlock=some k->¬PF H k from λk hk=>a6 k (rp hk));obtain⟨bW,aK⟩:=bK (b8 aa n0 nd ac);rw[<-aK]at bO br bl;clear O3 ST a1 bt aN aB bk aK ht;have b0:1<=t:=dL
 go_wp2;clear bO;go_loopw [2,9,10] (λbC bE err wr=>∃j:Nat,j<t/\err=i6 0/\bf wr w.heap.size bE (ll P.st ats b j)/\aD bz w bC ((mK P.st ats b j).2.map (λk:Nat=>(k:Int)))/\(∀k,bC.ownBlock=some k->¬PF H k)/\PT w H (bV P (fu P.st ats b (j+1))) wr/\aH wr w.heap.size 87 (be hole)) (λbC _ _ _=>Ol bC)
 case atStart=>exact⟨0,ae,rfl,(hv.mono U2.size),br,bl,(by rw[bG.out];exact PT.pre U2 D3),(B2.az T3 ((A.up U2).cc B2 ax))⟩
 case round=>
  obtain⟨j,hj,rfl,ar,Cr,bs,hd,hblk⟩:=hrel;have aL:=an bs;have bb:j<κ (eB (κ b)):=dL
  obtain⟨bq,bM⟩:=bH j bb;have bo:κ (ll P.st ats b j)=(eB (κ b))[j]:=by unfold ll;rw[Aad,bq]
  obtain⟨bQ,ad⟩:=aA (LM j bb) ((λk h=>Tg (k:=k) h1 h2 h) j bb);obtain⟨la,lc,aU⟩:=(ak.row ar pw).slice;obtain⟨xa,xc,bp⟩:=Cr.slice;rw[Aad]at bp;rw[bo]at aU;clear bs bl;by_cases bI:1<(eB (κ b))[j]
  ·have bg:j+1<κ (eB (κ b)):=by omega
   have⟨vp,A5,T5,O5⟩:=hd;obtain⟨aC,aR,av,al⟩:=iJ ((λk h=>p1 (k:=k) h1 h2 h) j bg) (l9 bb) (l9 bg) (EF (l:=eB (κ b)) (j+1+1));have bL:(eB (κ b)).sum=nd:=by rw[HND.out];rfl
   have aF:κ (mK P.st ats b j).2=nd-((eB (κ b)).take (j+1)).sum:=by rw[bM,hP,HAL.out,<-HND.out]
   have bX:bj (κ (ll P.st ats b j)) 8=(eB (κ b))[j+1]:=aQ
   have bJ:=LM (j+1) bg;obtain⟨q1,q2,q3,q4,q5⟩:=fX P (fu P.st ats b (j+1));have aI:=(tW (st:=P.st) h1 h2 aM) (j+1) ae;obtain⟨k1,k2⟩:=AA P.st ats b j;have hgd:=nX (P:=P) (b:=b) bN aE j;have bP:=CD wr (H.at vp) (bV P (fu P.st ats b (j+1))) A5 u9 (ll P.st ats b j) (ak.row ar pw) (ez A5 ar) ae ae (λp hp=>(hgd p hp).2) (λp hp=>(hgd p hp).1)
    u2 (mK P.st ats b j).2 (Cr.az T5 aL) (λk hk=>qe A O5 (Bn Cr ab k hk) (aL k hk)) ae (λi hi=>by
     have:=bN i (Eu _ _ _ j i hi)
     exact⟨this.2.1,aQ,ae⟩) (by rw[q4,aI];omega)
   rw[q2,<-k1]at bP;have AT:=aD.piece (a:=xa) (n:=κ (mK P.st ats b j).2) (cap:=xc) (bp ▸ Cr) (lo:=(eB (κ b))[j+1]) (hi:=κ (mK P.st ats b j).2) ae aq;rw[dh aq,<-p4]at AT;have a7:∀W,(Aav 41 (.slice xa (κ (mK P.st ats b j).2) xc) (some (i6 (((eB (κ b))[j+1]:Nat):Int))) none none).run Aag W=.ok (b8 xa (eB (κ b))[j+1] (κ (mK P.st ats b j).2) xc) W:=λW=>di (P:=Aag) _ qV qW _ _ _ _ ae W;obtain⟨br,bl⟩:=aw (show aD bz w (b8 xa (eB (κ b))[j+1] (κ (mK P.st ats b j).2) xc) ((mK P.st ats b (j+1)).2.map (λk:Nat=>(k:Int)))from aQ) (show ∀k,(b8 xa (eB (κ b))[j+1] (κ (mK P.st ats b j).2) xc).ownBlock=some k->¬PF H k from λk hk=>aL k (by rw[bp];exact rp hk));have MS:=an (show Ol (b8 xa (eB (κ b))[j+1] (κ (mK P.st ats b j).2) xc)<κ (mK P.st ats b j).2 from by show(mK P.st ats b j).2.length-(eB (κ b))[j+1]<_;omega)
   have NL:=an (show((mK P.st ats b (j+1)).1.map (ao P.st)).length=(eB (κ b))[j+1] from by rw[Aad];exact(bH (j+1) bg).1);have bU:=an (show ∀w6,PT wr (H.at vp) (bV (bV P (fu P.st ats b (j+1))) (mK P.st ats b (j+1)).1) w6->PT w H (bV P (fu P.st ats b (j+1+1))) w6 from λw6 D6=>by have:=PT.then T5 O5 D6;rw[<-xY]at this;exact this)
   obtain⟨bW,aK⟩:=bK (b8 xa (eB (κ b))[j+1] (κ (mK P.st ats b j).2) xc);rw[<-aK]at a7 br bl MS;obtain⟨m1,bA⟩:=bK ((eB (κ b))[j+1]);rw[<-bA]at a7 NL;obtain⟨nj,bT⟩:=bK ((eB (κ b))[j]);rw[<-bT]at aU bI bQ;obtain⟨xn,bD⟩:=bK (κ (mK P.st ats b j).2);rw[<-bD]at a7 MS bp;clear aK bA bT bD aC aR av al bL aF bX bJ q1 q2 q3 q4 q5 aI k1 k2 hgd O5 ad bo bq bM bb aL;have b5:((nj:Int)>1)=True:=ab
   subst aU bp;go_wp2_with fail;refine bP.mono ?_;rintro e w6⟨v,rfl,hv,D6⟩;have⟨_,_,T6,_⟩:=D6;obtain⟨va,vc,aO⟩:=(ak.row hv pw).slice;rw[NL.out]at aO;subst aO;clear NL;go_wp2;go_roundw
   case rel=>exact⟨j+1,dL,rfl,(hv.mono T5.size),br,bl,(bU _ D6),(hblk.az T6 (A5.cc hblk ax))⟩
   case measure=>exact MS
  ·have bg:=ad.1 ae;obtain⟨root,au⟩:=List.length_eq_one_iff.1 (show(ll P.st ats b j).length=1 from ae);have aV:(eB (κ b))[j]=1:=by omega
   rw[aV]at aU;subst aU;rw[au]at ar;obtain⟨g,off,rfl,bd,bZ,hc⟩:=(ak.row ar pw).range pw aq;obtain⟨RC,bF⟩:=aw (show wr.rangeAt g off (dG root)from by have:=hc 0 aq;simpa using this) bg;clear hc aV bI ad bQ bo bq bM bb;subst bp;go_wp2_with(first
    | refine cK 87 57 (be root) RC ?_
    | refine cZ 87 6 58 (be root) hblk ?_)
   intro wz hbz ag;go_wp2;exact bS (.tuple #[.agg (be root),i6 0]) hbz ⟨root,(by rw[<-bg,Nat.add_sub_cancel];exact au),rfl,by rw[<-bF.out];exact(hd.grow hblk ax ag (aG _))⟩
theorem Wj{L L':List As}(h:L.Sublist L':=by repeat(first|exact List.Sublist.slnil|(with_reducible refine List.Sublist.cons₂ _ ?_)|refine List.Sublist.cons _ ?_)):L.Sublist L':=h
section
variable {P:bx} {ops:Array Abn} {Q:Exit->Act->af->Prop} {F0:Nat->Prop} {x0 x w w':af} {L0 L L':List As} {a:Act} {o:Abn} {J:List Nat} {k b:Nat} {A B D:As}
theorem Yu{f:FuncId}{args:Array ah}{a':ah->Act}{R:af->Ending->af->Prop}(C:∀w,Up x w->Fr F0 x0 L w->Calls P f args w (R w))(h:∀w,Up x w->Fr F0 x0 L w->∀e w',R w e w'->∃v L',e=.returned v/\xS F0 x0 L w L' w'/\L0.Sublist L'/\RK P ops Q F0 x0 L0 L' J (k+1) (a' v) w')(hJ:J.contains k=false:=by rfl)(hi:ops[k]?=some o:=by rfl)(ha:∀v,a.put o.dst v=a' v:=by intro _;first|(simp only[Act.put,gh];rfl)|rfl)(he:∀w,(execOp a.eval o).run P w=.ok (.enter f args) w:=by intro _;kernel_rfl)(hw:Region.wanted o (yielded ops a.tmps)=true:=by rfl)(hc:(LZ P ops (ml ops.size J k) k && Region.noSelect ops)=true:=by kernel_rfl)(hQ:∀c a w b,a.defers=b.defers->Q (.panic c) a w->Q (.panic c) b w:=by intro _ ⟨_,_⟩ _ ⟨_,_⟩ e h;cases e;exact h):RK P ops Q F0 x0 L0 L J k a x:=ko (λw u s K hK=>by
  unfold Acb;rw[he];refine(C w u s).mono λe w' hR=>?_;obtain⟨v,L',rfl,n,hl,r⟩:=h w u s e w' hR;exact hK v w' _ n (λA hA _=>hl.subset hA) (by rw[ha];exact r)) hJ hi hw hc hQ
theorem xS.zK(s:Fr F0 x0 L w)(hU:mQ L A B L')(T:Touch A.F w w')(hB:B.P w')(hF:∀n,B.F n->n<w'.heap.size/\(A.F n\/w.heap.size<=n)):xS F0 x0 L w L' w':=⟨s.zK hU T hB hF,λq t C f bq=>⟨⟨f.1,λE h hq=>by
 have:=bq.lt;rcases hU.sub E h with rfl|h
 ·rcases(hF q hq).2 with h|h
  ·exact f.2 A hU.mem h
  ·omega
 ·exact f.2 E h hq⟩,bq.az T (f.2 A hU.mem)⟩⟩
theorem xS.add(s:Fr F0 x0 L w)(n:xS F0 x0 L w L' w')(hD:D.P w')(fD:∀n,D.F n->w.heap.size<=n/\n<w'.heap.size)(d:∀E∈L',∀n,D.F n->¬E.F n):xS F0 x0 L w (D::L') w':=by
 refine⟨⟨n.s.t,λE h=>?_,λE h n' hn=>?_,fV.2 ⟨d,n.s.d⟩⟩,λq t C f bq=>⟨⟨f.1,λE h hq=>?_⟩,(n.k q t C f bq).2⟩⟩
 ·rcases Aam.1 h with rfl|h
  ·exact hD
  ·exact n.s.p E h
 ·rcases Aam.1 h with rfl|h
  ·exact⟨(fD _ hn).2,.inr (bN s.t.size (fD _ hn).1)⟩
  ·exact n.s.f E h _ hn
 ·rcases Aam.1 h with rfl|h
  ·have:=(fD q hq).1;have:=bq.lt;omega
  ·exact(n.k q t C f bq).1.2 E h hq
theorem xS.pg{H:aP}{vp:ah}{P:bu}(s:Fr F0 x L w)(d:PG w (H.at vp) P w')(hU:mQ L (pl x H vp P) (pl x H vp P) L':=by exact vH):xS F0 x L w L' w':=.zK s hU d.2 ⟨d.1,(s.p _ hU.mem).2⟩ (λn h=>⟨d.1.lt n h,.inl h⟩)
theorem xS.pt{H:aP}{vp aa v:ah}{P P':bu}{l:List au}(s:Fr F0 x L w)(hA:PA w' (H.at aa) P')(T:Touch (PF (H.at vp)) w w')(O:∀b,aa.ownBlock=some b->vp.ownBlock=some b\/w.heap.size<=b)(ov:bf w' w.heap.size v l)(hU:mQ L (pl x H vp P) (pl x H aa P') L':=by exact vH):xS F0 x L w (op x.heap.size v l::L') w':=xS.add s (.zK s hU T ⟨hA,λb h=>by
  rcases O b h with h|h
  ·exact(s.p _ hU.mem).2 b h
  ·exact .inr (bN s.t.size h)⟩ (λn h=>⟨hA.lt n h,by
  rcases h with h|h|h|h|h|h
  ·exact .inl (.inl h)
  ·exact .inl (.inr (.inl h))
  ·exact .inl (.inr (.inr (.inl h)))
  ·exact .inl (.inr (.inr (.inr (.inl h))))
  ·exact .inl (.inr (.inr (.inr (.inr (.inl h)))))
  ·rcases O n h with h|h
   ·exact F1
   ·exact .inr h⟩)) (ov.mono s.t.size) (λn h=>ov.aN n h) (λE hE n h he=>by
  rcases hU.sub E hE with rfl|hE
  ·exact ez hA ov n h he
  ·have:=(s.f E hE n he).1;have:=(ov.aN n h).1;omega)
theorem kwg{id:Nat}(g:Nat){t:TypeId}{C:Array ah}(s:Fr F0 x0 L w)(h:∀w,Fr F0 x0 L w->RK P ops Q F0 x0 L0 L [] 0 a w)(hr:xT L (bk g t C) L0:=by exact RE)(hm:P.follows .mixedOrders=true:=by kernel_rfl):(Code.region id ops true).wp P Q a w:=ka L0 s hr.sub h hm
theorem ksp{m g off:Nat}{y:bO}{ty t:TypeId}{V C C':Array ah}{a':Act}(h:∀w',Fr F0 x0 L' w'->RK P ops Q F0 x0 L0 L' J (k+1) a' w')(hJ:J.contains k=false:=by rfl)(hi:ops[k]?=some o:=by rfl)(ho:o.op=.store ty (.tmp m) y:=by rfl)(hx:a.eval (.tmp m)=.pointer (some ⟨g,off,none⟩):=by rfl)(hy:(a.eval y).cells=V:=by exact zcv)(hm:bk g t C∈L:=by exact gR)(hV:(splice C.toList off V.toList).toArray=C':=by assumption)(hU:mQ L (bk g t C) (bk g t C') L':=by exact vH)(hfit:off+V.size<=C.size:=by exact EP ay)(aL:(P.info? ty).map (·.size)=some V.size:=by exact Rx)(h1:V.all (·.oneCell')=true:=by exact zoa)(hl:L0.Sublist L':=by exact Wj)(hw:Region.wanted o (yielded ops a.tmps)=true:=by rfl)(ha:a.put o.dst undef=a':=by first|(simp only[Act.put,gh];rfl)|rfl)(hc:(LZ P ops (ml ops.size J k) k && Region.noSelect ops)=true:=by kernel_rfl)(hQ:∀c a w b,a.defers=b.defers->Q (.panic c) a w->Q (.panic c) b w:=by intro _ ⟨_,_⟩ _ ⟨_,_⟩ e h;cases e;exact h):RK P ops Q F0 x0 L0 L J k a x:=kp (A:=bk g t C) (B:=bk g t C') (λw s=>⟨t,C,s.e5 hU.mem,hfit,rfl,λw' hb _=>⟨by rw[hV]at hb;exact hb,λ_ h=>h⟩⟩) (λ_ h=>h) h hU hJ hi ho hx hy aL h1 hl hw ha hc hQ
theorem Fr.own{g:Nat}{t:Aab}{C:Array ah}(s:Fr F0 x0 L w)(h:aH x0 g t C)(hn:¬F0 g):Fr (λk=>F0 k\/k=g) x0 (bk g t C::L) w:=by
 have hb:aH w g t C:=h.az s.t hn;refine⟨s.t.mono λ_ h=>.inl h,λD hD=>?_,λD hD n hd=>?_,fV.2 ⟨λD hD n ag hd=>?_,s.d⟩⟩
 ·rcases Aam.1 hD with rfl|hD
  ·exact hb
  ·exact s.p D hD
 ·rcases Aam.1 hD with rfl|hD
  ·have hd:n=g:=hd;exact⟨by rw[hd];exact hb.lt,.inl (.inr hd)⟩
  ·exact⟨(s.f D hD n hd).1,(s.f D hD n hd).2.imp .inl (λh=>h)⟩
 ·have e:n=g:=ag;rcases(s.f D hD n hd).2 with h1|h1
  ·exact hn (e ▸ h1)
  ·have:=h.lt;omega
theorem kpl{id:Nat}{H:aP}{vp:ah}{P':bu}(s:Fr F0 x0 L w)(h:∀w,Fr F0 x0 L w->RK P ops Q F0 x0 L0 L [] 0 a w)(hr:xT L (pl x H vp P') L0:=by exact RE)(hm:P.follows .mixedOrders=true:=by kernel_rfl):(Code.region id ops true).wp P Q a w:=ka L0 s hr.sub h hm
end
theorem jS:∀(l:List (Nat × cN))(P:bu)(i:Nat),i ∉ l.map (·.1)->(bV P l).C[i]?=P.C[i]?
 | [],_,_,_=>rfl
 | (j,s)::l,P,i,h=>by simp only[Acf,Aam,not_or]at h;have:=jS l {P with C:=P.C.set j s,m:=P.m+1,fl:=false} i h.2;show(bV _ l).C[i]?=_;rw[this];exact E5 (λe=>h.1 e.symm)
theorem vb:∀(l:List (Nat × cN))(P:bu),(l.map (·.1)).Nodup->∀x∈l,x.1<κ P.C->(bV P l).C[x.1]?=some x.2
 | [],_,_,x,h,_=>fI
 | (j,s)::l,P,hn,x,hx,hl=>by
  simp only[List.map_cons,List.nodup_cons]at hn;show(bV {P with C:=P.C.set j s,m:=P.m+1,fl:=false} l).C[x.1]?=_;rcases List.mem_cons.1 hx with rfl|hx
  ·rw[jS l _ _ hn.1];show(P.C.set j s)[j]?=_;rw[ui hl]
  ·exact vb l _ hn.2 x hx (by show x.1<κ (P.C.set j s);rw[List.length_set];exact hl)
theorem De{st:Nat}{ats:List Nat}{b:List aj}{k:Nat}{x:Nat × cN}(hx:x∈(mK st ats b k).1):∀{t:Nat},k<t->x∈fu st ats b t
 | 0,h=>ae
 | t+1,h=>by
  show x∈fu st ats b t++_;rcases ma k t with h'|h'
  ·exact oG _ (De hx h')
  ·obtain rfl:k=t:=by omega
   exact p6 _ hx
theorem W0(h1:1<=κ b)(h2:κ b<=65535)(hn:κ ats=dM (κ b))(k:Nat)(h:k<κ (eB (κ b))):(mK st ats b k).1.map (·.1)=(ats.drop ((eB (κ b)).take k).sum).take (eB (κ b))[k]:=by
 cases k with
 | zero=>
  have e0:(eB (κ b))[0]=bj (κ b) 128:=by simp only[(hW h1 h2),Abx];rfl
  show(fU ats b _).map _=_;unfold fU;rw[List.map_fst_zip ab,Acx,e0,Abk,Ac4,Aax]
 | succ k=>
  obtain⟨k1,_⟩:=AA st ats b k;obtain⟨a,c⟩:=AB (st:=st) h1 h2 hn k ae;have aC:=p1 h1 h2 h;have aa:bj (κ (ll st ats b k)) 8=(eB (κ b))[k+1]:=by grind [ll]
  rw[k1];unfold gY;rw[List.map_fst_zip ab,Acx,aa,c]
theorem Dd{st:Nat}{ats:List Nat}{b:List aj}(h1:1<=κ b)(h2:κ b<=65535)(hn:κ ats=dM (κ b)):∀k,k<=κ (eB (κ b))->(fu st ats b k).map (·.1)=ats.take ((eB (κ b)).take k).sum
 | 0,_=>by simp[fu]
 | k+1,h=>by show(fu st ats b k++_).map _=_;rw[Aao,Dd h1 h2 hn k ae,W0 h1 h2 hn k ae,l9 ae,List.take_add]
theorem kf(h1:1<=κ b)(h2:κ b<=65535)(hn:κ ats=dM (κ b)):(fu st ats b (κ (eB (κ b)))).map (·.1)=ats:=by rw[Dd h1 h2 hn _ (aG _),dh (aG _),show(eB (κ b)).sum=κ ats by rw[hn];rfl,fx]
theorem DG(h1:1<=κ b)(h2:κ b<=65535)(hn:κ ats=dM (κ b))(hd:ats.Nodup)(has:∀i∈ats,4<=i/\i<1024/\P.s i=2/\i<κ P.C)(aE:1<=P.st/\P.st<=281474976710655){root:au}(hr:ll P.st ats b (κ (eB (κ b))-1)=[root]):iq (bV P (fu P.st ats b (κ (eB (κ b))))).C root b (ll P.st ats b):=by
 have hg:∀k,k<κ (eB (κ b))->∀x∈(mK P.st ats b k).1,fE (bV P (fu P.st ats b (κ (eB (κ b))))).C (ao P.st x)=some x.2:=λk hk x hx=>by have:=has _ (Et _ _ _ k x hx);unfold fE;rw[aM (λe=>by grind [ao,hole])];rw[bo (by show(0:Int)<=(x.1:Int);omega)];show((bV P _).C[((x.1:Nat):Int).toNat]?).bind _=_;rw[Abq,(vb _ P (by grind [kf]) x (De hx hk) this.2.2.2),p8];simp[dO,ao]
 refine⟨⟨h1,h2⟩,λk hk=>?_,hr,λk hk p hp=>?_,λi hi=>?_,λk hk i hi=>?_⟩
 ·grind [ll,AB]
 ·obtain⟨x,hx,rfl⟩:=Abf.1 hp;grind [Et,ao,hole]
 ·have ht:0<κ (eB (κ b)):=by grind [hW]
  grind [mK,ll,dp,fU,ao]
 ·have ag:i<κ (mK P.st ats b (k+1)).1:=by grind [ll]
  have he:(mK P.st ats b (k+1)).1[i].2=bL (hR (e0 (ll P.st ats b k) i)):=by simp[AA,gY]
  have:=hg (k+1) hk _ (cJ ag);rw[he]at this;have hl:(ll P.st ats b (k+1))[i]=ao P.st (mK P.st ats b (k+1)).1[i]:=by simp[ll]
  rw[hl];unfold node8;rw[this,p8];have hgd:=nX (b:=b) has aE k;obtain⟨L8,GA⟩:=aA (oS (p:=e0 (ll P.st ats b k) i) (by grind [lL])) (Al (λp hp=>(hgd p hp).2) i);obtain⟨v1,v2,v3⟩:=rj L8 GA;rw[v1,v3,xx L8 (I3 (λp hp=>(hgd p hp).1) i) GA];rfl
theorem Ja:∀W:af,(Ab9 211).run Aag W=.ok (.agg noBits) W:=(lq (P:=Aag) (t:=211) (v:=.agg noBits) (n:=4096) av).1
theorem S2:(prog.info? 211).map (·.size)=some 4096:=av
theorem PD(C:Array ah)(f:Nat->Bool)(hc:∀i,i<4096->C[i]?=some (.bool (f i)))(k:Nat)(h:k<4096)(W:af):(Abi 211 (.agg C) (i6 (k:Int))).run Aag W=.ok (.bool (f k)) W:=by
 have aR:(sizeOf 4).run Aag W=.ok 1 W:=av
 have hg:(isAgg 4).run Aag W=.ok false W:=av
 have hc:=hc k h;simp[Abi,asIntOf,run_underlying (P:=Aag) underlying211,ae,aR,part,hg,hc];omega
theorem Pp{l:List Int}(hs:l.Pairwise (· < ·)){pre:List Int}{x:Int}(h:pre++[x] <+:l):x ∉ pre:=λhx=>by have:=(hs.sublist h.sublist);rw[AS]at this;have:=this.2.2 x hx x aq;omega
theorem IN{l:List bM}(h:k<κ l){z n:Int}(hp:l[k]=⟨z,n⟩)(hj:j<n.toNat):hq l k j z++[z+(j:Int)] <+:cR l:=by rw[<-k'];grind [wO]
def KM(f:Nat->Bool)(k:Nat):List Int:=((Aaj k).filter f).map (λi:Nat=>(i:Int))
theorem U5(f:Nat->Bool)(k:Nat):KM f (k+1)=KM f k++(if f k=true then [(k:Int)] else []):=by unfold KM;rw[Abz,ki,Aao];cases h:f k<;>simp[h]
theorem KN(f:Nat->Bool)(k:Nat):κ (KM f k)<=k:=by grind [KM]
theorem K1(w:af)(v:ah)(ms:List bM)(hv:tq w v (ms.map dC))(hr:cq (-1) ms=true)(hs:(cR ms).Pairwise (· < ·)):Aae Aag 188 #[nl,v] w λe w'=>∃u,e=rt #[u,i6 0]/\hV w' w.heap.size u (jV (KM (rU (cR ms)) 4096))/\Up w w':=by
 obtain⟨HV,HR⟩:=aw hv hr;have aj:κ ms<=9223372036854775807:=by have:=hv.length_le;simpa using this
 have HS:=an hs;have RT:=f' w _ _ (aI.nil _ _);rw[show cq (-1) []=true from rfl]at RT;obtain⟨a1,ao,rfl⟩:=hv.slice;rw[Aad]at *;clear hr;go_in;go_wp2_with fail;refine RT.mono ?_;rintro e w1⟨rfl,u1⟩;go_wp2_with refine bD 211 Ja ?_;refine((λW=>vj W _ _ (aI.nil _ _) (λa m c h=>fI)) _).mono ?_;rintro e w3⟨vl,rfl,ol,u3⟩;obtain⟨la,lc,aP⟩:=ol.cC.slice;rw[show(cx []).length=0 from rfl]at aP;subst aP;go_wp2;go_loopw [22] (λi wr=>i=i6 0/\wr=w3) (λ_ _=>0)
 case atStart=>exact⟨rfl,rfl⟩
 case round=>
  obtain⟨rfl,rfl⟩:=hrel;go_wp2;obtain⟨w9,aY⟩:=bK (wr);subst aY;go_loopw [31] (λi wr=>∃k:Nat,k<=κ ms/\i=i6 k/\a7 wr w1.heap.size 4096 211 (λn=>.bool (rU (cR (ms.take k)) n))/\Up w wr) (λi _=>κ ms-(Aat i).toNat)
  case atStart=>exact⟨0,bE _,rfl,a7.congr ((a7.new _ _ _ _).up u3) (λi _=>by simp[rU,cR]),((u1.trans (ai _ _)).trans u3)⟩
  case round=>
   obtain⟨k,hk,rfl,aa,upr⟩:=hrel;obtain⟨HB,ag⟩:=aw aa upr;by_cases hlt:k<κ ms
   ·obtain⟨b,off,rfl,hbs,bd,hc⟩:=(HV.up ag).range N3 me;have hc:=hc k (by rw[Aad];exact hlt);rw[Adp]at hc;have RC:=an hc;have b2:((k:Int)<(κ ms:Int))=True:=by simp;omega
    have SB:=oX HR hlt rfl;obtain⟨z,n,hp⟩:∃z n:Nat,ms[k]=⟨z,n⟩/\z<4096/\1<=n/\z+n<=4096:=by generalize ms[k]=p at SB;obtain⟨s,l⟩:=p;have:=(dW s l).1 SB;exact⟨s.toNat,l.toNat,ab,ae,ae,ae⟩
    obtain⟨hp,hz,aT,hn⟩:=hp;have RG:=an (λW=>qc W (dC ms[k]));rw[show gu (dC ms[k]).sp=true from SB]at RG;rw[hp]at RG RC;have HP:=an hp;clear SB hp;obtain⟨BX,U4⟩:=aw (aH.new wr 326 (h4 (dC ⟨z,n⟩))) (ai wr (.cells (h4 (dC ⟨z,n⟩)) 326));go_wp2_with(first
     | refine cK 326 33 (h4 (dC ⟨z,n⟩)) RC ?_
     | refine bD 326 vC ?_
     | refine ed 326 10 34 wr (h4 (dC ⟨z,n⟩)) 326 (h4 ⟨false,0,0⟩) ?_
     | refine cU 326 10 BX ?_)
    refine(RG _).mono ?_;rintro e w5⟨rfl,u5⟩;obtain⟨B5,aC⟩:=aw (BX.up u5) HB.lt;have x2:w5.cell? (ad wr.heap.size 2)=some (i6 (n:Int)):=B5.cell 2;clear RG;go_wp2;clear x2;obtain⟨aV,au⟩:=bK (wr.heap.size);rw[<-au]at B5 aC;simp only[<-au];clear au;go_loopw [41] (λi wr=>∃j:Nat,j<=n/\i=i6 j/\a7 wr w1.heap.size 4096 211 (λm=>.bool (rU (hq ms k j z) m))/\aH wr aV 326 (h4 (dC ⟨z,n⟩))/\Up w wr) (λi _=>n-(Aat i).toNat)
    case atStart=>exact⟨0,bE _,rfl,by rw[xG];exact((HB.up U4).up u5),B5,((ag.trans U4).trans u5)⟩
    case round=>
     obtain⟨j,hj,rfl,aa,hblk,upr⟩:=hrel;by_cases aL:j<n
     ·have hx:z+j<4096:=by omega
      have NF:rU (hq ms k j z) (z+j)=false:=by have:=Pp HS (IN hlt HP (j:=j) (by simpa using aL));unfold rU;simpa using this
      have c0:=aa.cell hx;rw[NF]at c0;have f0:=aa.free (z+j);have d0:wr.cell? (ad aV 0)=some (.bool true):=hblk.cell 0;have d1:wr.cell? (ad aV 1)=some (i6 (z:Int)):=hblk.cell 1;have d2:wr.cell? (ad aV 2)=some (i6 (n:Int)):=hblk.cell 2;obtain⟨x0,x1⟩:=aA (dR c0) (dR d0);have b3:((j:Int)<(n:Int))=True:=ab
      clear NF;have e1:(z:Int)+(j:Int)=((z+j:Nat):Int):=ae
      obtain⟨E1,NX⟩:=aw e1 (show hq ms k (j+1) z=hq ms k j z++[((z+j:Nat):Int)] by rw[k',e1]);clear e1;go_wp2;rw[E1.out];refine uK ?_;repeat(go_big_quiet_step (fail))
      refine yy ?_;intro w6 ay;obtain⟨⟨d,os⟩,hw4⟩:=ay;have aJ:Up wr w6:=FB
      clear hw4 x0 x1;have aB:=an (aa.up aJ);replace c0:=aJ.cell c0;replace d0:=aJ.cell d0;replace f0:=aB.free (z+j);clear d1 d2;go_wp2;obtain⟨C6,aK,ak,aM⟩:=aB.out;exact⟨⟨j+1,ae,aq,a7.congr (aB.set hx (.bool true)) (λi hi=>by rw[NX.out,Ap];by_cases e:i=z+j<;>simp[e];intro h;omega),(hblk.up aJ).grown (b0 aK _ _) (λe=>by have:=dB e;have:=aC.out;omega),(upr.trans aJ).setCell u1.size _⟩,by simp[Aat];omega⟩
     ·obtain rfl:j=n:=by omega
      have NX:=an (show hq ms k j z=cR (ms.take (k+1))from by have:=oZ hlt HP;simpa using this);go_wp2;go_roundw
      case rel=>exact⟨k+1,ae,aq,by rw[<-NX.out];exact aa,upr⟩
      case measure=>simp[Aat];omega
   ·obtain rfl:k=κ ms:=by omega
    have hb:=HB.out;rw[dh (aG _)]at hb;obtain⟨f,hf⟩:=bK (rU (cR ms));rw[<-hf]at hb;have HF:=an hf;obtain⟨C,hC,hz,hc⟩:=hb;clear hf;go_wp2_with(first
     | refine cU 211 6 hC (hi:=(by rw[S2,hz])) ?_)
    obtain⟨w9,aY⟩:=bK (wr);subst aY;go_loopw [13,62] (λv i wr=>∃m:Nat,m<=4096/\i=i6 m/\Own bz 3 wr w.heap.size v (KM f m)/\Up w wr) (λ_ i _=>4096-(Aat i).toNat)
    case atStart=>exact⟨0,bE _,rfl,Own.nil _ _ _ _,ag⟩
    case round=>
     obtain⟨m,hm,rfl,hown,upr⟩:=hrel;by_cases hlt:m<4096
     ·obtain⟨IX,SU⟩:=aA ((PD C f hc) m hlt) (U5 f m);have b2:((m:Int)<4096)=True:=by simp;omega
      have LL:=KN f m;cases av:f m
      ·rw[av]at IX;have NX:=an (show KM f (m+1)=KM f m by rw[SU,av];simp);clear SU av;go_wp2;go_roundw
       case rel=>exact⟨m+1,ae,aq,by rw[NX.out];exact hown,upr⟩
       case measure=>simp[Aat];omega
      ·rw[av]at IX;have NX:=an (show KM f (m+1)=KM f m++[(m:Int)] by rw[SU,av];simp);clear SU av;obtain⟨ol,aF⟩:=bK (KM f m);rw[<-aF]at hown NX LL;clear aF;obtain⟨va,vc,rfl⟩:=(Own.cC hown).slice;have U8:=an (ai wr (.cells #[i6 (m:Int)] 3));have UU:=an (upr.trans U8);go_wp2_with(at_builtin;refine bc bz pX rfl (.tmp 67) (.tmp 69) 41 rfl w.heap.size 3 (i6 0) 8 underlying41 qQ rfl _ ol rfl (hown.up U8) _ [(m:Int)] rfl (aD.er (f:=bz) wr wr.heap.size rfl #[i6 (m:Int)] 3 (0,0) [(m:Int)] 1 rfl dE rfl) ab ab UU.size ?_);intro v9 w9 ax az al;go_wp2;go_roundw
       case rel=>exact⟨m+1,ae,aq,by rw[NX.out];exact ax,(UU.aE al (aG _))⟩
       case measure=>simp[Aat];omega
     ·obtain rfl:m=4096:=by omega
      have SO:=an (s' _ _ _ (Own.cC hown));have b2:((4096:Nat):Int)=4096:=rfl;obtain⟨va,vc,ar⟩:=(Own.cC hown).slice;rw[ar]at SO hown;subst ar;go_wp2_with fail;refine SO.mono ?_;rintro e bT⟨u,rfl,own,aO⟩;go_wp2_with fail;go_ret2;exact⟨_,rfl,by rw[<-HF.out];exact own.mono upr.size,upr.trans aO⟩
theorem kR{f g:Nat->Bool}:∀{n:Nat},(∀i,i<n->f i=g i)->aB f n=aB g n
 | 0,_=>rfl
 | n+1,h=>by unfold aB;rw[kR (n:=n) (λi hi=>h i ae),h n ae]
theorem GD(n:Nat):aB (λ_=>false) n=[]:=by
 induction n with
 | zero=>rfl
 | succ n ih=>assumption
theorem J3(f:Nat->Bool)(i:Nat)(h:i<4096):rU (cx (aB f 4096)) i=f i:=by grind [p0,rU]
theorem oa(f:Nat->Bool):cq (-1) (aB f 4096)=true:=by simp[jr]
theorem HW{l:List bM}(h:cq (-1) l=true):cx l=cR l:=by grind [cx]
theorem WG(f:Nat->Bool):Hn [] (aB f 4096)=(aB f 4096).map dC:=by unfold Hn;rw[show aB (ot (cx []) (cx (aB f 4096))) 4096=[] from(kR (g:=λ_=>false) (λi _=>ay)).trans (GD _)];rw[show aB (ot (cx (aB f 4096)) (cx [])) 4096=aB f 4096 from kR (λi hi=>by unfold ot;rw[J3 f i hi,show cx []=[] from rfl];simp[rU])];rfl
theorem ZE(f:Nat->Bool)(i:Nat)(h:i<4096):rU (KM f 4096) i=f i:=by rw[show KM f 4096=cx (aB f 4096)from(p0 f).symm];grind [J3]
theorem QB(f:Nat->Bool):jV (KM (rU (cR (aB f 4096))) 4096)=aB f 4096:=by unfold jV;refine kR (λi hi=>?_);rw[ZE _ i hi,<-HW (oa f),J3 f i hi]
theorem IZ(f:Nat->Bool):∀m∈(aB f 4096).map dC,zd m:=by intro m hm;obtain⟨s,hs,rfl⟩:=Abf.1 hm;obtain⟨k,hk,rfl⟩:=List.mem_iff_getElem.1 hs;exact oX (oa f) hk rfl
theorem Rc(f:Nat->Bool):(cR (aB f 4096)).Pairwise (· < ·):=by grind [HW,oa,t']
def cF(n:Nat):Nat:=if 64<=n/\n<=1024 then 2+5*((n+1)/2)else 0
theorem lP(w:af)(n:Nat)(hn:n<=1000000):Aae Aag 186 #[i6 (n:Int)] w λe w'=>e=.returned (i6 (cF n:Int))/\w'=w:=by
 by_cases h1:n<64
 ·have b1:((n:Int)<64)=True:=by simp;omega
  exact Mq
 have b1:((n:Int)<64)=False:=ab
 by_cases h2:1024<n
 ·have b2:((n:Int)>1024)=True:=by simp;omega
  exact Mq
 have b2:((n:Int)>1024)=False:=ab
 have HE:=an (show cF n=2+5*((n+1)/2)by unfold cF;rw[bo ae]);have e1:((n:Int)+1).tdiv 2=(((n+1)/2:Nat):Int):=ay
 have hq:(n+1)/2<=1000:=ae
 generalize(n+1)/2=q at *;go_in;go_wp2;go_ret;exact⟨by rw[HE.out];simp,rfl⟩
theorem vk{f:Nat->Bool}{t:Nat}(h:∀i,t<=i->f i=false):∀n,t<=n->aB f n=aB f t
 | 0,hn=>by
  obtain rfl:t=0:=ae
  rfl
 | n+1,hn=>by
  rcases ma n t with h'|h'
  ·obtain rfl:t=n+1:=by omega
   rfl
  ·unfold aB;rw[h n h',aM aq,vk h n h'];cases t<;>rfl
theorem EA{l:List bM}(hl:gp (-1) l<=n)(h:2*(κ l:Int)<=gp (-1) l+1)(h0:l=[]\/0<=gp (-1) l):2*(κ (rL l n):Int)<=gp (-1) (rL l n)+1/\0<=gp (-1) (rL l n):=by
 rcases E3 l with rfl|⟨m,s,rfl⟩
 ·show 2*(1:Int)<=((n:Int)+1)+1/\0<=(n:Int)+1;omega
 ·rw[E4]at *;rw[fR]at hl h h0;rw[CN];split
  ·rename_i he;rw[fR];grind
  ·rename_i he;rw[fR];grind
theorem xI(f:Nat->Bool):∀n,n<=4096->2*(κ (aB f n):Int)<=gp (-1) (aB f n)+1/\(aB f n=[]\/0<=gp (-1) (aB f n))
 | 0,_=>by simp[aB,gp]
 | n+1,h=>by
  obtain⟨a,c⟩:=xI f n ae;have:=(jr f n ae).2.1;unfold aB;split
  ·have:=EA this a c;exact⟨this.1,.inr this.2⟩
  ·exact⟨a,c⟩
def oh(f:Nat->Bool)(t:Nat):Prop:=∀i,f i=true->4<=i/\i<t
theorem xh{f:Nat->Bool}(h:oh f t)(ht:t<=4096):aB f 4096=aB f t:=vk (λi hi=>by cases hf:f i with|false=>rfl|true=>have:=(h i hf).2;omega) 4096 ht
theorem su{f:Nat->Bool}(h:oh f t)(ht:t<=4096):2*κ (aB f 4096)<=t+1:=by rw[xh h ht];have:=(xI f t ht).1;grind [jr]
theorem HK{f:Nat->Bool}(h:oh f t)(ht:t<=4096):∀s∈aB f 4096,4<=s.st/\1<=s.len/\s.st+s.len<=(t:Int):=λs hs=>by
 have h1:=ny f t s (by grind [xh]);refine⟨?_,h1.2.1,h1.2.2⟩;have hm:s.st∈cR (aB f 4096):=by unfold cR;exact List.mem_flatMap.2 ⟨s,hs,Abf.2 ⟨0,uf.2 ae,aq⟩⟩
 rw[(jr f 4096 ae).2.2]at hm;obtain⟨i,hi,he⟩:=Abf.1 hm;have:=(h i (wa.1 hi).2).1;omega
theorem KP{l:List aj}(h:aH w g 5 (l.map aF).toArray)(hb:base<=g)(hl:κ l<=9223372036854775807):Own aF 5 w base (cv g (κ l) (κ l)) l:=by refine⟨aq,.inr ⟨g,κ l,(l.map aF).toArray,rfl,hb,h,aG _,cm,aq,?_⟩⟩;rw[dh aq]
theorem BT(f:α->β)(l:List α)(off:Nat)(ys:List α):Aby (l.map f) off (ys.map f)=(Aby l off ys).map f:=by unfold Aby;simp
theorem LI(n:Nat):j2 (.int .u8 0) n=((Aac n (0:aj)).map aF).toArray:=by apply hS.1;rw[Ru (.int .u8 0) rfl];simp[aF]
def iB(t:Nat)(l:List bM):List aj:=aX [2] [κ l]++ie (l.map dC)++Aac (cF t-(2+5*κ l)) 0
theorem h2(n:Nat):κ (aX [2] [n])=2:=ay
theorem Gz{c m:List aj}(hc:κ c=2)(hn:2+κ m<=n):Aby (Aby (Aac n (0:aj)) 0 c) 2 m=c++m++Aac (n-(2+κ m)) 0:=by unfold Aby;rw[Abk,Aay,hc,yJ,hY hc,EX,hc,v' ae,Aay,yJ];simp;omega
theorem N9(h:n<65536):nq [2] [n]:=uz
theorem DN(w:af)(t:Nat)(ht:64<=t/\t<=1024)(f:Nat->Bool)(hf:oh f t)(v:ah)(hv:dS w v (aB f 4096))(hb:∀a m c,v=.slice (some a) m c->a.block<w.heap.size):Aae Aag 189 #[i6 (t:Int),v] w λe w'=>∃u,e=rt #[u,i6 0]/\Own aF 5 w' w.heap.size u (iB t (aB f 4096))/\Up w w':=by
 have aa:=su hf ae;have bb:=an (HK hf ae);have SN:cF t=2+5*((t+1)/2):=by unfold cF;rw[bo ae]
 obtain⟨ag,RT⟩:=aw (lP w t ae) (f' w v _ hv);rw[oa f]at RT;have CD:=an (λW (u:Up w W)=>Ed W v _ (hv.up u) (λa m c e=>eg (hb a m c e) u.size) (oa f));rw[WG f]at CD;obtain⟨HST,LB,SB,HV⟩:=bR (show iB t (aB f 4096)=aX [2] [κ (aB f 4096)]++ie ((aB f 4096).map dC)++Aac (cF t-(2+5*κ (aB f 4096))) 0 from rfl) (show(ie ((aB f 4096).map dC)).length=5*κ (aB f 4096) by rw[ji,Aad]) (λW (vm:ah) (hm:tq W vm ((aB f 4096).map dC))=>K5 W vm _ hm me (IZ f)) hv;obtain⟨va,vc,rfl⟩:=hv.slice;generalize aB f 4096=l at *;obtain⟨n,hn⟩:=bK (cF t);have aT:2+5*κ l<=n:=ae
 have aS:n<=3000:=ae
 have ao:100<=n:=ae
 have aR:κ l<=600:=ae
 rw[<-hn]at ag HST;clear hb SN hn aa;have bn:((n:Int)==0)=false:=ab
 by_cases h0:κ l=0
 ·have b1:((κ l:Int)>0)=False:=cz ae;have ax:(0<κ l)=False:=cz ae;have H0:=an h0;clear h0;go_in;go_wp2_with fail;refine ag.mono ?_;refine oK ?_;intro w2;go_wp2_with fail;refine RT.mono ?_;rintro e w3⟨rfl,u3⟩;have U3:=an u3;go_wp2_with fail;refine(CD _ U3).mono ?_;rintro e w4⟨vm,rfl,om,u4⟩;obtain⟨U4,OM⟩:=aw (U3.trans u4) (ak.row om N3);obtain⟨ma,mc,ba⟩:=(ak.row om N3).slice;rw[Aad]at ba;subst ba;go_wp2_with fail;refine(SB _ _ OM).mono ?_;rintro e w5⟨vl,rfl,ol,u5⟩;obtain⟨U5,OL⟩:=aw (U4.trans u5) ol;obtain⟨la,lc,aU⟩:=ol.cC.slice;rw[LB.out]at aU;subst aU;refine T3 ?_;intro b5 wl UA sza UB i1 i2 PT U6;have OL6:=an ((OL.up UA).up UB);exact Yy
 ·obtain⟨b,off,rfl,hbs,bd,hc⟩:=qv HV ae;obtain⟨m,hm⟩:∃m,m+1=κ l:=⟨κ l-1,ae⟩;have b1:=eo ae;have ax:=eo ae;have e1:(κ l:Int)-1=(m:Int):=by omega
  have aj:m<κ l:=ae
  obtain⟨C0,CM⟩:=aw ((hc 0 ae).1) (hc m aj);obtain⟨q0,qm⟩:=aA (bb _ (cJ (show 0<κ l from ae))) (bb _ (cJ aj));generalize l[0]=s0 at *;generalize l[m]=sm at *;obtain⟨aO,aP⟩:=s0;obtain⟨ms,ml⟩:=sm;simp only at C0 CM q0 qm;obtain⟨q1,_,_⟩:=q0;obtain⟨q4,q5,q6⟩:=qm;have b6:(aO<4)=False:=cz ae;have b7:(ms+ml>(t:Int))=False:=cz ae;have RM:=an (show w.rangeAt b (off+m*2) (lg ⟨ms,ml⟩).toList from λj v hj=>by
   match j,hj with
   | 0,hj=>simp[lg]at hj;subst hj;exact CM.1
   | 1,hj=>simp[lg]at hj;subst hj;exact CM.2)
  clear hc hm h0 bb;go_in;go_wp2_with fail;refine ag.mono ?_;refine oK ?_;intro w2;go_wp2_with fail;refine RT.mono ?_;rintro e w3⟨rfl,u3⟩;have B3:=aH.new w3 139 (lg ⟨ms,ml⟩);have U3:=an (u3.trans (ai w3 (.cells (lg ⟨ms,ml⟩) 139)));have x0:=U3.cell C0;rw[Nat.zero_mul,Nat.add_zero]at x0;have x1:(w3.alloc (.cells (lg ⟨ms,ml⟩) 139)).cell? (ad w3.heap.size 0)=some (i6 ms):=B3.cell 0;have x2:(w3.alloc (.cells (lg ⟨ms,ml⟩) 139)).cell? (ad w3.heap.size 1)=some (i6 ml):=B3.cell 1;clear C0 CM;go_wp2_with(first
   | refine cK 139 29 (lg ⟨ms,ml⟩) (λj v hj=>u3.cell (RM j v hj)) ?_
   | refine bD 139 zr ?_
   | refine ed 139 7 30 w3 (lg ⟨ms,ml⟩) 139 (lg ⟨0,0⟩) ?_)
  clear x0 x1 x2;refine(CD _ U3).mono ?_;rintro e w4⟨vm,rfl,om,u4⟩;obtain⟨U4,OM⟩:=aw (U3.trans u4) (ak.row om N3);obtain⟨ma,mc,ba⟩:=(ak.row om N3).slice;rw[Aad]at ba;subst ba;go_wp2_with fail;refine(SB _ _ OM).mono ?_;rintro e w5⟨vl,rfl,ol,u5⟩;have U5:=an (U4.trans u5);obtain⟨la,lc,aU⟩:=ol.cC.slice;rw[LB.out]at aU;subst aU;refine T3 ?_;intro b5 wl UA sza UB i1 i2 PT U6;have OL6:=an ((ol.up UA).up UB);exact Yy
theorem Lj(w:af)(t:Nat)(ht:64<=t/\t<=1024)(f:Nat->Bool)(hf:oh f t)(v:ah)(hv:a8 w v (iB t (aB f 4096))):Aae Aag 117 #[i6 (t:Int),v] w λe w'=>∃u,e=rt #[u,i6 0]/\hV w' w.heap.size u (aB f 4096)/\Up w w':=by
 have aa:=su hf ae;have SN:cF t=2+5*((t+1)/2):=by unfold cF;rw[bo ae]
 have ag:=an (lP w t ae);have hT:κ (iB t (aB f 4096))=cF t:=by unfold iB;exact ND
 obtain⟨b5,ao⟩:=aw (λW vs (h:dS W vs (aB f 4096)) (hb:∀a m c,vs=.slice (some a) m c->a.block<W.heap.size)=>DN W t ht f hf vs h hb) (λW vm (h:tq W vm ((aB f 4096).map dC))=>K1 W vm _ h (oa f) (Rc f));rw[QB f]at ao;have LB:κ (ie ((aB f 4096).map dC))=5*κ (aB f 4096):=by rw[ji,Aad]
 have au:=an (λW vb (h:a8 W vb (ie ((aB f 4096).map dC)))=>QU W vb _ h ab (IZ f));have HST:iB t (aB f 4096)=aX [2] [κ (aB f 4096)]++(ie ((aB f 4096).map dC)++Aac (cF t-(2+5*κ (aB f 4096))) 0):=ay
 have HV:=an hv;obtain⟨va,vc,rfl⟩:=hv.slice;have ar:=mf hv;rw[hT]at ar;have D1:=aD.piece hv (lo:=0) (hi:=2) ae ae;have D2:=aD.piece hv (lo:=2) (hi:=2+5*κ (aB f 4096)) ae ae;rw[Aax,HST,hY (h2 _)]at D1;rw[HST,List.take_append,h2,dh (by rw[h2];omega),lr (h2 _),show 2+5*κ (aB f 4096)-2=5*κ (aB f 4096) from ae,<-LB,hY rfl,LB]at D2;rw[hT]at HV;rw[hT];generalize bf:iB t (aB f 4096)=tx at *;generalize aB f 4096=l at *;obtain⟨n,hn⟩:=bK (cF t);obtain⟨q,hq⟩:=bK ((t+1)/2);have aT:n=2+5*q:=ae
 have av:κ l<=q:=ae
 have aj:q<=512:=ae
 rw[<-hn]at ag HV ar ⊢;obtain⟨aC,aA⟩:=aw aT av;have bn:((n:Int)==0)=false:=ab
 have wl:=aY (κ l) ae;have aS:100<=n/\n<=3000:=ae
 have a7:∀W,(Aav 30 (.slice va n vc) none (some (i6 2)) none).run Aag W=.ok (b8 va 0 2 vc) W:=λW=>hj (P:=Aag) 30 dr du va n vc 2 ae W;have aQ:∀W,(Aav 30 (.slice va n vc) (some (i6 2)) (some (i6 (2+5*(κ l:Int)))) none).run Aag W=.ok (b8 va 2 (2+5*κ l) vc) W:=λW=>by have:=DF (P:=Aag) 30 dr du va n vc 2 (2+5*κ l) ae ae W;assumption
 obtain⟨p1,aK⟩:=bK (b8 va 0 2 vc);obtain⟨p2,aJ⟩:=bK (b8 va 2 (2+5*κ l) vc);rw[<-aK]at a7 D1;rw[<-aJ]at aQ D2;have UA:=an (ai w (.cells #[i6 2] 3));have al:=an (Ei (w.alloc (.cells #[i6 2] 3)) (cv w.heap.size 1 1) [2] (aD.er (f:=bz) w w.heap.size rfl #[i6 2] 3 (0,0) [2] 1 rfl ax rfl) aq p1 _ (D1.up UA) ⟨ax,ay⟩);rw[qP [2] [κ l] rfl (N9 ae).2.2]at al;clear aa SN hT LB HST bf hn hq aT av aK aJ;go_in;go_wp2_with fail;refine ag.mono ?_;refine oK ?_;intro w2;go_wp2_with fail;refine al.mono ?_;rintro e w3⟨vn,rfl,on,u3⟩;have U3:=an (UA.trans u3);obtain⟨g,cap,rfl,_,_,hc,_,_⟩:=Own.row on aq;have c0:w3.cell? (ad g 0)=some (u6 (κ l:Int)):=hc 0 aq;clear hc;go_wp2_with fail;all_goals(try(exfalso;have:=aC.out;have:=aA.out;omega))
 refine(au _ _ (D2.up U3)).mono ?_;rintro e w4⟨vm,rfl,om,u4⟩;have U4:=an (U3.trans u4);obtain⟨ma,mc,ba⟩:=(ak.row om N3).slice;rw[Aad]at ba;subst ba;clear c0 aQ a7;go_wp2_with fail;refine(ao _ _ (ak.row om N3)).mono ?_;rintro e w5⟨vs,rfl,os,u5⟩;obtain⟨OS,aF⟩:=aw (os.mono (base':=w.heap.size) U4.size) (b5 w5 vs (ak.row os BV) (λa m c e=>(os.aN a.block sL).2));obtain⟨sa,sc,a6⟩:=(ak.row os BV).slice;subst a6;clear b5 ao au;go_wp2_with fail;refine aF.mono ?_;rintro e w6⟨vt,rfl,ot,u6⟩;obtain⟨U6,aE⟩:=aw ((U4.trans u5).trans u6) (OS.up u6);have BE:=zA w6 vt (.slice va n vc) _ _ ot.cC (HV.up U6);rw[gD rfl]at BE;obtain⟨ta,tc,az⟩:=ot.cC.slice;obtain⟨tn,aL⟩:=bK (κ tx);rw[<-aL]at az;subst az;clear aL;go_wp2_with fail;refine BE.mono ?_;rintro e w7⟨rfl,rfl⟩;go_wp2;go_ret2;exact⟨_,rfl,aE,U6⟩

theorem L7(w:af)(H:aP)(P:bu)(A:PA w H P)(root:au)(hw:root.wf)(hg:cw root=true)(b:List aj)(lv:Nat->List au)(B:iq P.C root b lv)(v:ah)(hv:a8 w v (bQ root++aX [4] [κ b])):Aae Aag 114 #[pz H.pb,v] w λe w'=>∃v u,e=rt #[v,u,i6 0]/\a8 w' v b/\(∀k,v.ownBlock=some k->w.heap.size<=k)/\bf w' w.heap.size u (dT b lv)/\PG w H P w':=by
 obtain⟨h1,h2⟩:=B.len;have hl:κ (bQ root++aX [4] [κ b])=20:=by rw[Aaf,fg,jm]
 obtain⟨va,vc,rfl⟩:=hv.slice;have ar:=mf hv;have D1:=aD.piece hv (lo:=0) (hi:=16) ae ae;have D2:=aD.piece hv (lo:=16) (hi:=20) ae ae;rw[Aax,hY (fg root)]at D1;rw[dh ae,lr (fg root)]at D2;rw[hl]at ar ⊢;have a7:∀W,(Aav 30 (.slice va 20 vc) none (some (i6 16)) none).run Aag W=.ok (b8 va 0 16 vc) W:=λW=>hj (P:=Aag) 30 dr du va 20 vc 16 ae W;have aQ:∀W,(Aav 30 (.slice va 20 vc) (some (i6 16)) none none).run Aag W=.ok (b8 va 16 20 vc) W:=λW=>di (P:=Aag) 30 dr du va 20 vc 16 ae W;obtain⟨p1,aK⟩:=bK (b8 va 0 16 vc);obtain⟨p2,aJ⟩:=bK (b8 va 16 20 vc);rw[<-aK]at a7 D1;rw[<-aJ]at aQ D2;obtain⟨ab,RB,HA,HB⟩:=bR D2 (nu root hw hg) A B;obtain⟨n,hn⟩:=bK (κ b);rw[<-hn]at ab h1 h2;have HN:=an hn;have wn:=aY n ae;clear hl aK aJ hg hn;go_in;go_wp2_with fail;refine(qk w p1 _ D1 ay).mono ?_;rintro e w2(⟨p,ax,rfl,u2⟩|⟨ao,_⟩)
 case inr=>rw[RB.out]at ao;cases ao
 obtain rfl:root=p:=by rw[RB.out]at ax;exact dB ax
 show _;rw[show fA root=.agg (be root)from rfl];obtain⟨U3,UA⟩:=aw (u2.trans (ai w2 (.cells (be root) 87))) (ai (w2.alloc (.cells (be root) 87)) (.cells #[i6 4] 3));have al:=an (Ei ((w2.alloc (.cells (be root) 87)).alloc (.cells #[i6 4] 3)) (cv (w2.heap.size+1) 1 1) [4] (aD.er (f:=bz) (w2.alloc (.cells (be root) 87)) (w2.heap.size+1) (by rw[aL]) #[i6 4] 3 (0,0) [4] 1 rfl dE rfl) aq p2 _ ((ab.up U3).up UA) ⟨by unfold xX;intro w hw;simp at hw;omega,by rw[jm];rfl⟩);rw[qP [4] [n] rfl (Ge ae).2.2]at al;clear ax RB;go_wp2_with(refine arm ?_);refine al.mono ?_;rintro e w4⟨vn,rfl,on,u4⟩;obtain⟨g,cap,rfl,aR,_,hc,_,_⟩:=Own.row on aq;clear a7 aQ;go_wp2;refine e3 (S:=λW=>aH W w2.heap.size 87 (be root)/\W.cell? (ad g 0)=some (u6 (n:Int))) av ?_;change Acp _ _ _ _ _ 13 _ _ (w4.drew);have UD:=an (Up.drew (Up.refl w4));obtain⟨F5,U5⟩:=aw (show aH w4.drew w2.heap.size 87 (be root)/\w4.drew.cell? (ad g 0)=some (u6 (n:Int))from⟨(((aH.new w2 87 (be root)).up UA).up u4).up UD,UD.cell (hc 0 aq)⟩) (((U3.trans UA).trans u4).trans UD);generalize w4.drew=w5 at *;have BL:=an (qL w5 H P (HA.up U5) root b lv HB);rw[<-HN.out]at BL;refine ta 0 ?_;refine tb 1 rfl (Wb (λW hS=>hS.1.range)) ?_;refine nf ?_;refine tb 4 rfl (yc (λW hS=>hS.2)) ?_;refine ta 5 ?_;refine ok 6 ?_;intro K hK;go_simp;refine BL.mono ?_;rintro e w6⟨x,y,rfl,hx,bD,hy,aa⟩;have S6:=an (show aH w6 w2.heap.size 87 (be root)/\w6.cell? (ad g 0)=some (u6 (n:Int))from⟨F5.1.az aa.2 (λhf=>by have:=HA.lt _ hf;have:=u2.size;omega),fk F5.2 aa.2 (λhf=>by have:=HA.lt _ hf;have:=U3.size;have:=UA.size;omega)⟩);refine hK _ _ S6 ?_;refine T' ?_;clear hK K;refine uI ?_;refine ta 11 ?_;refine br ?_;refine ta 12 ?_;refine nc ?_;go_wp2;go_ret3;exact⟨_,_,rfl,hx,(λk hk=>bN U5.size (bD k hk)),(hy.mono (base':=w.heap.size) U5.size),((PG.of HA U5).trans aa)⟩
def dU(k t:Nat):Nat:=1+dM k+dM (cF t)
theorem Dl(w:af)(v:ah)(b:List aj)(hv:a8 w v b)(hb:κ b<=1000000)(t:Nat)(ht:t<=1000000):Aae Aag 212 #[v,i6 (t:Int)] w λe w'=>e=.returned (i6 (dU (κ b) t:Int))/\Up w w':=by
 obtain⟨va,vc,rfl⟩:=hv.slice;have N1:=an (uN w (κ b) hb);have hs:cF t<=1000000:=by unfold cF;split<;>omega
 obtain⟨SL,N2⟩:=aw (λW=>lP W t ht) (λW=>uN W (cF t) hs);obtain⟨B1,B2⟩:=aA ((jj (κ b)).2) ((jj (cF t)).2);have h1:dM (κ b)<=1024:=B1;have h2:dM (cF t)<=1024:=B2;have HC:=an (show dU (κ b) t=1+dM (κ b)+dM (cF t)from rfl);clear B1 B2;generalize dM (κ b)=n1 at *;generalize dM (cF t)=n2 at *;generalize cF t=sp at *;go_in;go_wp2_with fail;refine N1.mono ?_;rintro e w1⟨rfl,u1⟩;go_wp2_with fail;refine(SL _).mono ?_;refine oK ?_;intro w2;go_wp2_with fail;refine(N2 _).mono ?_;rintro e w3⟨rfl,u3⟩;go_wp2;go_ret;exact⟨by rw[HC.out];simp,u1.trans u3⟩
def aS(next:Nat)(v:ah):Array ah:=#[.int .u64 (next:Int),v]
def eV(next:Nat)(l:List al):Option (List aj):=(lC next l).bind λm=>if (κ m)<=65535 then some m else none
theorem xy(w:af)(next:Nat)(hn:next<18446744073709551616)(v:ah)(l:List al)(hv:cB w v l)(aT:∀x∈l,x.wf):Aae Aag 211 #[.agg (aS next v)] w λe w'=>D5 (eV next l) w e w':=by
 have U1:=an (ai w (.cells (aS next v) 73));have EB:=an (r1 _ next hn v l (hv.up U1) aT);have c0:(w.alloc (.cells (aS next v) 73)).cell? (ad w.heap.size 0)=some (u6 (next:Int)):=(aH.new w 73 (aS next v)).cell 0;have c1:(w.alloc (.cells (aS next v) 73)).cell? (ad w.heap.size 1)=some v:=(aH.new w 73 (aS next v)).cell 1;obtain⟨va,vc,aO⟩:=hv.slice;obtain⟨n,aN⟩:=bK (κ l);rw[<-aN]at aO;subst aO;have HR:=an (show eV next l=(lC next l).bind λm=>if (κ m)<=65535 then some m else none from rfl);clear aT aN hn;go_in;go_wp2_with(refine arm ?_);refine EB.mono ?_;rintro e w2(⟨ho,rfl,u2⟩|⟨m,u,ho,rfl,om,u2⟩)
 ·rw[ho]at HR;have U2:=an (U1.trans u2);clear c0 c1 ho;go_wp2;go_ret2;exact .inl ⟨HR,rfl,U2⟩
 ·rw[ho]at HR;obtain⟨U2,OM⟩:=aw (U1.trans u2) (om.mono (base':=w.heap.size) U1.size);obtain⟨ua,uc,rfl⟩:=om.cC.slice;clear c0 c1 ho;by_cases hm:κ m<=65535
  ·have HS:=an (show eV next l=some m by rw[HR.out,p8,bo hm]);have b1:((κ m:Int)>65535)=False:=cz ae;go_wp2;go_ret2;exact .inr ⟨m,_,HS,rfl,OM,U2⟩
  ·have HS:=an (show eV next l=none by rw[HR.out,p8,aM hm]);have b1:((κ m:Int)>65535)=True:=eo ae;clear hm;go_wp2;go_ret2;exact .inl ⟨HS,rfl,U2⟩
def eR(next:Nat)(l:List al)(t:Nat):Nat:=match eV next l with
 | some m=>if cF t=0 then 0 else dU (κ m) t
 | none=>0
theorem ve{next:Nat}{l:List al}(h:eV next l=some m):κ m<=65535:=by unfold eV at h;obtain⟨m',h1,h2⟩:=Option.bind_eq_some_iff.1 h;grind
theorem PS(w:af)(next:Nat)(hn:next<18446744073709551616)(v:ah)(l:List al)(hv:cB w v l)(aT:∀x∈l,x.wf)(t:Nat)(ht:t<=1000000):Aae Aag 151 #[.agg (aS next v),i6 (t:Int)] w λe w'=>e=.returned (i6 (eR next l t:Int))/\Up w w':=by
 obtain⟨U1,SL,HB⟩:=aW (ai w (.cells (aS next v) 73)) (λW=>lP W t ht) (show eR next l t=(match eV next l with|some m=>if cF t=0 then 0 else dU (κ m) t|none=>0)from rfl);go_in;go_wp2_with(refine arm ?_);refine(xy _ next hn v l (hv.up U1) aT).mono ?_;rintro e w2(⟨ho,rfl,u2⟩|⟨m,u,ho,rfl,om,u2⟩)
 ·rw[ho]at HB;have U2:=an (U1.trans u2);clear ho;go_wp2;go_ret;exact⟨by rw[HB.out];rfl,U2⟩
 ·have hm:=ve ho;rw[ho]at HB;obtain⟨U2,MC⟩:=aw (U1.trans u2) (Dl w2 u m om.cC ae t ht);obtain⟨ua,uc,hu⟩:=om.cC.slice;obtain⟨n,hn⟩:=bK (κ m);rw[<-hn]at hu MC;subst hu;have HN:=an hn;clear ho hn hm;by_cases h0:cF t=0
  ·have HZ:=an (show eR next l t=0 by rw[HB.out];exact bo h0);rw[h0]at SL;clear h0;go_wp2_with fail;refine(SL _).mono ?_;rintro e w3⟨rfl,aa⟩;rw[aa];clear aa;go_wp2;go_ret;exact⟨yR,U2⟩
  ·have HZ:=an (show eR next l t=dU n t by rw[HB.out,HN.out];exact aM h0);have b0:(((cF t:Nat):Int)==0)=false:=by simp;omega
   generalize cF t=sp at *;clear h0;go_wp2_with fail;refine(SL _).mono ?_;rintro e w3⟨rfl,aa⟩;rw[aa];clear aa;go_wp2_with fail;refine MC.mono ?_;rintro e w4⟨rfl,u4⟩;go_wp2;go_ret;exact⟨yR,U2.trans u4⟩
def rZ(x:au × Nat):Array ah:=#[.int .i64 x.1.loc,.int .u64 (x.1.aT:Int),.int .u32 (x.1.sum:Int),.int .i64 (x.2:Int)]
def ze(x:au × Nat):List ah:=(rZ x).toList
theorem pnw:hL ze 4:=⟨ae,λ_=>rfl,λx u hu=>by simp[ze,rZ]at hu;rcases hu with rfl|rfl|rfl|rfl<;>rfl⟩
theorem XC(x:au × Nat):(rZ x).all (·.oneCell')=true:=by simp[rZ,Ac8]
theorem OE:∀W:af,(Ab9 354).run Aag W=.ok (.agg (rZ (hole,0))) W:=by simp[rZ,hole]
theorem Hd(x:au × Nat):prog.built 354 [(0,.agg (be x.1)),(1,i6 (x.2:Int))]=some (rZ x):=av
def gF(x:au × Nat):List aj:=bQ x.1++aX [4] [x.2]
theorem wC(x:au × Nat):κ (gF x)=20:=ay
def fB(p:au)(n:Nat)(q:au)(m:Nat):List aj:=[(p,n),(q,m)].flatMap gF
theorem iR(p:au)(n:Nat)(q:au)(m:Nat):κ (fB p n q m)=40:=ay
theorem Gt(w:af)(x y:au × Nat):(Acd 355 2 #[(0,.agg (rZ x)),(1,.agg (rZ y))]).run Aag w=.ok (cv w.heap.size 2 2) (w.alloc (.cells (rZ x++rZ y) 354)):=av
theorem Rq{P:bx}{op:Abn}{a:Act}(hgd:op.guard=none)(t:Aab)(x y:bO)(ho:op.op=.buildSlice t 2 #[(0,x),(1,y)])(X Y:Array ah)(hx:a.eval x=.agg X)(hy:a.eval y=.agg Y)(v:ah)(w':af)(hr:(Acd t 2 #[(0,.agg X),(1,.agg Y)]).run P w=.ok v w')(h:Aak P ops Q rest (a.put op.dst v) w'):Aak P ops Q (op::rest) a w:=by refine uH ?_;intro K hK;simp[ho,hx,hy,hr,Aap];exact hK _ _ h
theorem IS(w:af)(p:au)(hp:p.wf)(gp:cw p=true)(n:Nat)(hn:n<=65535)(q:au)(hq:q.wf)(gq:cw q=true)(m:Nat)(hm:m<=65535):Aae Aag 259 #[.agg (be p),i6 (n:Int),.agg (be q),i6 (m:Int)] w λe w'=>∃v,e=rt #[v,i6 0]/\Own aF 5 w' w.heap.size v (fB p n q m)/\Up w w':=by
 have U2:=an (ai (w.alloc (.cells (be p) 87)) (.cells (be q) 87));have b2:=aH.new (w.alloc (.cells (be p) 87)) 87 (be q);rw[aL]at b2;obtain⟨B2,XQ,RB⟩:=aW b2 (Hd (q,m)) (λW=>Gt W (p,n) (q,m));obtain⟨ps,a1⟩:∃l:List (au × Nat),l=[(p,n),(q,m)]:=⟨_,rfl⟩;obtain⟨ab,HW,HL⟩:=aW a1 (show ∀x∈ps,x.1.wf/\cw x.1=true/\x.2<=65535 by rw[a1];simp[hp,gp,hn,hq,gq,hm]) (show κ ps=2 by rw[a1];rfl);clear gp hn gq hm a1;go_in;go_wp2_with(first
  | refine arm ?_
  | ((with_reducible refine dI 354 #[(0,.tmp 16),(1,.tmp 17)] ?_);refine kK rfl 354 0 1 (.tmp 16) (.tmp 17) rfl _ _ (rZ (p,n)) (Hd (p,n)) rfl rfl ?_)
  | ((with_reducible refine dI 354 #[(0,.tmp 19),(1,.tmp 20)] ?_);refine kK rfl 354 0 1 (.tmp 19) (.tmp 20) rfl _ _ (rZ (q,m)) XQ rfl rfl ?_)
  | ((with_reducible refine dJ 355 2 _ ?_);refine Rq rfl 355 (.tmp 18) (.tmp 21) rfl (rZ (p,n)) (rZ (q,m)) rfl rfl _ _ (RB _) ?_))
 obtain⟨ag,U3⟩:=aw (show aI ze (((w.alloc (.cells (be p) 87)).alloc (.cells (be q) 87)).alloc (.cells (rZ (p,n)++rZ (q,m)) 354)) (cv (((w.alloc (.cells (be p) 87)).alloc (.cells (be q) 87)).heap.size) 2 2) ps from aI.er _ _ rfl (rZ (p,n)++rZ (q,m)) 354 (0,0) ps 2 HL.symm dE (by rw[ab.out];simp[ze])) (((ai w (.cells (be p) 87)).trans U2).trans (ai ((w.alloc (.cells (be p) 87)).alloc (.cells (be q) 87)) (.cells (rZ (p,n)++rZ (q,m)) 354)));rw[aL,aL]at ag;clear XQ RB;obtain⟨w3,aa⟩:=bK ((((w.alloc (.cells (be p) 87)).alloc (.cells (be q) 87)).alloc (.cells (rZ (p,n)++rZ (q,m)) 354)));go_loopw [10,24] (λtv i wr=>∃k:Nat,k<=2/\i=i6 k/\Own aF 5 wr w3.heap.size tv ((ps.take k).flatMap gF)/\Up w3 wr) (λ_ i _=>2-(Aat i).toNat)
 case atStart=>exact⟨0,ae,rfl,Own.nil _ _ _ _,by rw[aa];exact Up.refl _⟩
 case round=>
  obtain⟨k,hk,rfl,ho,ur⟩:=hrel;obtain⟨OR,UR⟩:=aw ho ur;rw[<-aa]at ag U3;clear aa;by_cases hlt:k<2
  ·have b2:((k:Int)<2)=True:=by simp;omega
   obtain⟨x,hx⟩:=bK (ps[k]' Fj);obtain⟨b,off,aC,_,_,hc⟩:=aI.get (aI.up ag UR) pnw (by rw[HL.out];omega);simp only[Aai,Abd,and_true]at aC;obtain⟨hb,rfl⟩:=aC;subst hb;have RC:=an (show wr.rangeAt (w.heap.size+1+1) (0+k*4) (rZ x).toList from λj u hj=>by have:=hc k Fj j u (by rw[<-hx];exact hj);rw[show 0+k*4+j=0+(k*4+j)from ae];exact this)
   rw[Abr]at RC;obtain⟨xw,xg,xl⟩:=HW x (by rw[hx];exact cJ _);have TK:=an (show(ps.take (k+1)).flatMap gF=(ps.take k).flatMap gF++gF x from by rw[en Fj,gC,List.flatMap_singleton,<-hx]);have LK:=an (show((ps.take k).flatMap gF).length<=40 from by
    have:∀l:List (au × Nat),κ (l.flatMap gF)=κ l*20:=λl=>by
     induction l with
     | nil=>rfl
     | cons y l ih=>rw[Abg,Aaf,ih,wC,Aal];omega
    rw[this,ev];omega)
   obtain⟨tb,bs⟩:=bK ((ps.take k).flatMap gF);rw[<-bs]at OR LK TK;clear hc hx bs;have BX:=an (aH.new wr 354 (rZ x));have RP:=an (show(wr.alloc (.cells (rZ x) 354)).rangeAt wr.heap.size 0 (be x.1).toList from λj u hj=>by
    rw[Abr,BX.out.cell];match j,hj with
    | 0,hj=>exact hj
    | 1,hj=>exact hj
    | 2,hj=>exact hj
    | (n+3),hj=>simp[be]at hj)
   obtain⟨N3,UX,PB,XG,ak⟩:=eI (show(wr.alloc (.cells (rZ x) 354)).cell? (ad wr.heap.size 3)=some (i6 (x.2:Int))from by rw[BX.out.cell];rfl) (ai wr (.cells (rZ x) 354)) (nS (wr.alloc (.cells (rZ x) 354)) x.1 xw) xg xw;have wn:=dP x.2 ae;clear xg;obtain⟨xp,xn⟩:=x;simp only at *;obtain⟨ta,tc,rfl⟩:=OR.cC.slice;go_wp2_with(first
    | refine cK 354 26 (rZ (xp,xn)) RC ?_
    | refine bD 354 OE ?_
    | refine ed 354 12 27 wr (rZ (xp,xn)) 354 (rZ (hole,0)) ?_
    | refine cK 87 29 (be xp) RP ?_)
   refine PB.mono ?_;rintro e w4(⟨_,v4,rfl,o4,u4⟩|⟨ao,_⟩)
   case inr=>rw[XG.out]at ao;cases ao
   obtain⟨pa,pc,ar⟩:=o4.cC.slice;rw[fg]at ar;subst ar;have U4:=an (UX.trans u4);have n3:=u4.cell N3;have UA:=an (ai w4 (.cells #[i6 4] 3));have c3:=UA.cell n3;obtain⟨aQ,U5,cO⟩:=aW (yf ((w4.alloc (.cells #[i6 4] 3)).alloc (.cells #[u6 (xn:Int)] 70)) (cv w4.heap.size 1 1) [4] ((aD.er (f:=bz) w4 w4.heap.size rfl #[i6 4] 3 (0,0) [4] 1 rfl dE rfl).up (ai _ _)) aq (cv (w4.heap.size+1) 1 1) [xn] (aD.er (f:=cM) (w4.alloc (.cells #[i6 4] 3)) (w4.heap.size+1) (by rw[aL]) #[u6 (xn:Int)] 70 (0,0) [xn] 1 rfl dE rfl) (by intro k hk;simp at hk;omega) (Ge ae)) ((U4.trans UA).trans (ai (w4.alloc (.cells #[i6 4] 3)) (.cells #[u6 (xn:Int)] 70))) (UA.trans (ai (w4.alloc (.cells #[i6 4] 3)) (.cells #[u6 (xn:Int)] 70)));clear n3 N3;go_wp2_with fail;refine aQ.mono ?_;rintro e w6⟨v6,rfl,o6,u6⟩;obtain⟨qa,qc,aj⟩:=o6.cC.slice;rw[jm]at aj;subst aj;have U6:=an (U5.trans u6);obtain⟨T6,P6,S6⟩:=aW (OR.up U6) (((o4.up cO).up u6).cC) (show w3.heap.size<=w6.heap.size from bN UR.size U6.size);have lk:=LK.out;obtain⟨LP,LQ⟩:=aw (show(bQ xp).length=16 from fg _) (jm xn);clear c3;obtain⟨n1,n2⟩:=aw (show(κ tb+κ (bQ xp))*1<=140737488355328 by rw[LP.out];omega) (show κ tb+κ (bQ xp)<=9223372036854775807 by rw[LP.out];omega);go_wp2_with(first
    | (at_builtin;refine bc aF cp rfl (.tmp 49) (.tmp 50) 30 rfl w3.heap.size 5 (.int .u8 0) 1 Aa0 eu rfl _ tb rfl T6 (.slice pa 16 pc) (bQ xp) rfl P6 n1 n2 S6 ?_))
   intro v7 w7 aJ aY bk;obtain⟨K7,U7,S7,n3,n4⟩:=eI ((o6.vW (OR.up U5) (aG _) aY).cC) ((UR.trans U6).aE bk (aG _)) (show w3.heap.size<=w7.heap.size from bN S6 bk.size) (show(κ (tb++bQ xp)+κ (aX [4] [xn]))*1<=140737488355328 from Tx) (show(tb++bQ xp).length+κ (aX [4] [xn])<=9223372036854775807 from Tx);go_wp2_with(first
    | (at_builtin;refine bc aF cp rfl (.tmp 51) (.tmp 52) 30 rfl w3.heap.size 5 (.int .u8 0) 1 Aa0 eu rfl _ (tb++bQ xp) rfl aJ (.slice qa 4 qc) (aX [4] [xn]) rfl K7 n3 n4 S7 ?_))
   intro v8 w8 al az ax;have U8:=an (U7.aE ax (aG _));go_wp2;go_roundw
   case rel=>exact⟨k+1,ae,aq,by rw[TK.out];exact al,U8⟩
   case measure=>simp only[Aat];omega
  ·obtain rfl:k=2:=by omega
   have b2:((2:Int)<2)=False:=aq
   have FIN:=an (show(ps.take 2).flatMap gF=fB p n q m from by rw[ab.out];rfl);go_wp2_with fail;go_ret2;exact⟨_,rfl,by rw[<-FIN.out];exact OR.mono U3.size,U3.trans UR⟩
theorem SP(w:af)(n:Nat)(h0:0<n)(hn:n<=100000):Aae Aag 190 #[nl,i6 (n:Int)] w λe w'=>∃v,e=.returned v/\bf w' w.heap.size v []/\Up w w':=by
 obtain⟨i,hi,hz0,hz1,az⟩:=jF cy;obtain⟨AP,aa⟩:=aw (λ(ty:Aab)=>Lib.run_append_nil_zeros (P:=Aag) w 88 3 ty 87 i _ .i64 .i64 Aaq ay hi hz0 n h0 ae ae aQ) (show n<=grownCap w n 0 87/\grownCap w n 0 87<=maxLen from⟨grownCap_ge _ _ _ _,grownCap_le_maxLen _ _ _ _ dE⟩);have b1:((n:Int)<0)=False:=aq
 have b2:((n:Int)>0)=True:=ab
 generalize grownCap w n 0 87=gc at *;go_in;go_wp2_with(first
  | (at_builtin;refine Lib.wpList_append_run _ rfl (.tmp 20) (.tmp 21) 88 3 rfl _ _ rfl rfl _ _ (AP _) ?_))
 go_ret;refine⟨_,rfl,⟨rfl,.inr ⟨w.heap.size,gc,_,rfl,aG _,(aH.new w 87 (Abe #[Acj IntKind.i64 0,Acj IntKind.u64 0,Acj IntKind.u32 0] n++Abe #[Acj IntKind.i64 0,Acj IntKind.u64 0,Acj IntKind.u32 0] (gc-n))).up (Up.drew (Up.refl _)),bE _,aa.2,?_,aq⟩⟩,(ai w _).trans (Up.drew (Up.refl _))⟩;have:=aa.1;simp[Abe];omega
def kM(w:af)(v:ah)(ls:List (List au)):Prop:=∃us:List Wl,aD fZ w v us/\(κ us)=κ ls/\∀i(a:i<κ us)(b:i<κ ls),cX w (fZ us[i]) ls[i]
theorem kM.slice{v:ah}{ls:List (List au)}(h:kM w v ls):∃a cap,v=.slice a (κ ls) cap:=by obtain⟨us,h1,h2,_⟩:=h;rw[<-h2];exact h1.slice
theorem kM.up{w w':af}{v:ah}{ls:List (List au)}(h:kM w v ls)(u:Up w w'):kM w' v ls:=by obtain⟨us,h1,h2,h3⟩:=h;exact⟨us,h1.up u,h2,λi a b=>aI.up (h3 i a b) u⟩
theorem kM.get{ls:List (List au)}(h:kM w (.slice a n cap) ls)(hk:k<κ ls):∃b off va vc,a=some ⟨b,off,none⟩/\n=κ ls/\w.cell? (ad b (off+k))=some (.slice va ls[k].length vc)/\cX w (.slice va ls[k].length vc) ls[k]:=by
 obtain⟨us,h1,h2,h3⟩:=h;obtain⟨va,vc,hv⟩:=aI.slice (h3 k ae hk);rcases h1 with⟨rfl,_⟩|⟨b,off,av,h4,_,_,_,hc⟩
 ·grind
 grind
def gH(ls:List (List au)):Nat:=(ls.map List.length).sum
theorem xK{ls:List (List au)}(h:k<κ ls):gH (ls.take (k+1))=gH (ls.take k)+ls[k].length:=by unfold gH;rw[en h,Aao,wm];rfl
theorem QY(ls:List (List au))(k:Nat):gH (ls.take k)<=gH ls:=by
 have h:gH ls=gH (ls.take k)+gH (ls.drop k):=by unfold gH;rw[<-wm,<-Aao,fH]
 omega
theorem Pm{ls:List (List au)}(h:k<κ ls):(ls.take (k+1)).flatten=(ls.take k).flatten++ls[k]:=by rw[en h,List.flatten_append];simp
theorem Hx(ls:List (List au)):κ ls.flatten=gH ls:=by simp[gH]
theorem zL(w:af)(v:ah)(ls:List (List au))(hv:kM w v ls)(h0:0<gH ls)(hn:gH ls<=100000)(hl:κ ls<=1000):Aae Aag 118 #[v] w λe w'=>∃v,e=.returned v/\bf w' w.heap.size v ls.flatten/\Up w w':=by
 obtain⟨a,cap,rfl⟩:=hv.slice;obtain⟨HV,SL⟩:=aw hv (QY ls);go_in;go_wp2;go_loopw [3,11] (λs i wr=>∃k:Nat,k<=κ ls/\i=i6 k/\s=i6 (gH (ls.take k):Int)/\wr=w) (λ_ i _=>κ ls-(Aat i).toNat)
 case atStart=>exact⟨0,bE _,rfl,ay,rfl⟩
 case round=>
  obtain⟨k,hk,rfl,rfl,rfl⟩:=hrel;by_cases hlt:k<κ ls
  ·have b2:((k:Int)<(κ ls:Int))=True:=by simp;omega
   obtain⟨b,off,va,vc,rfl,_,hc,_⟩:=HV.get hlt;have ST:=an (xK hlt);have:=SL k;have:=SL (k+1);rw[ST.out]at this;generalize gH (ls.take k)=s0 at *;generalize ls[k].length=lk at *;have e1:IntKind.i64.wrap ((s0:Int)+(lk:Int))=((s0+lk:Nat):Int):=by rw[show(s0:Int)+(lk:Int)=((s0+lk:Nat):Int)from ae];exact aY _ ae
   have b4:(((s0+lk:Nat):Int)<0)=False:=ab
   go_wp2;go_roundw
   case rel=>exact⟨k+1,ae,aq,by rw[ST.out];rfl,trivial⟩
   case measure=>simp only[Aat];omega
  ·obtain rfl:k=κ ls:=by omega
   have b2:((κ ls:Int)<(κ ls:Int))=False:=aq
   rw[fx];obtain⟨sl,ag⟩:=bK (gH ls);rw[<-ag]at h0 hn SL ⊢;have HS:=an ag;obtain⟨w0,aF⟩:=bK (wr);subst aF;clear ag;go_wp2_with fail;refine(SP w0 sl h0 hn).mono ?_;rintro e w2⟨v2,rfl,o2,u2⟩;obtain⟨O2,U2⟩:=aw o2 u2;go_wp2;go_loopw [6,27] (λs i w3=>∃k:Nat,k<=κ ls/\i=i6 k/\bf w3 w0.heap.size s (ls.take k).flatten/\Up w0 w3) (λ_ i _=>κ ls-(Aat i).toNat)
   case atStart=>exact⟨0,bE _,rfl,O2,U2⟩
   case round=>
    obtain⟨k,aa,rfl,ho,hu⟩:=hrel;obtain⟨OO,UU⟩:=aw ho hu;by_cases hlt:k<κ ls
    ·have b2:((k:Int)<(κ ls:Int))=True:=by simp;omega
     obtain⟨b,off,va,vc,rfl,_,hc,hp⟩:=(HV.up UU).get hlt;obtain⟨HP,FT⟩:=aw hp (Pm hlt);have FL:=an (show(ls.take k).flatten.length+ls[k].length<=100000 from by rw[Hx,<-xK hlt];exact bN (SL _) hn)
     generalize ls[k]=lk at *;generalize(ls.take k).flatten=acc at *;obtain⟨ta,tc,rfl⟩:=(ak.row OO pw).slice;go_wp2_with(first
      | (at_builtin;refine bI pw rfl (.tmp 31) (.tmp 32) 88 rfl w0.heap.size 87 _ 24 Aaq cy rfl _ acc rfl OO _ lk rfl HP dL dL UU.size ?_))
     intro v4 w4 aj ai ad;have U4:=an (UU.aE ad (aG _));go_wp2;go_roundw
     case rel=>exact⟨k+1,ae,aq,by rw[FT.out];exact aj,U4⟩
     case measure=>simp only[Aat];omega
    ·obtain rfl:k=κ ls:=by omega
     have oo:=OO.out;rw[fx]at oo;go_wp2;go_ret;exact⟨_,rfl,oo,UU⟩
theorem l2{C C':List cN}{q:au}(h:C'[q.loc.toNat]?=C[q.loc.toNat]?):fE C' q=fE C q:=by grind [fE]
theorem nk{C C':List cN}{q:au}(h:C'[q.loc.toNat]?=C[q.loc.toNat]?):node8 C' q=node8 C q:=by grind [node8,l2]
theorem Dj{lv:Nat->List au}{t:Nat}:∀d,d<=t->∀k,t-d<=k->k<t->∀x∈lv k,x∈iG lv t d
 | 0,_,k,h1,h2,x,_=>ae
 | d+1,hd,k,h1,h2,x,hx=>by
  unfold iG;by_cases h:k=t-(d+1)
  ·subst h;exact p6 _ hx
  ·exact oG _ (Dj d ae k ae h2 x hx)
theorem w1{lv:Nat->List au}(hk:k<κ (eB (κ b))){x:au}(hx:x∈lv k):x∈dT b lv:=Dj _ (aG _) k ae hk x hx
theorem iq.congr{C C':List cN}{root:au}{lv:Nat->List au}(B:iq C root b lv)(h:∀p∈dT b lv,C'[p.loc.toNat]?=C[p.loc.toNat]?):iq C' root b lv:=by exact⟨B.len,B.sz,B.top,B.nh,λi hi=>by rw[l2 (h _ (w1 (by rw[hW B.len.1 B.len.2];simp) (cJ hi)))];exact B.YN i hi,λk hk i hi=>by rw[nk (h _ (w1 hk (cJ hi)))];exact B.nod k hk i hi⟩
theorem AN(lv:Nat->List au)(t:Nat):∀d,d<=t->(iG lv t d).Perm ((List.range' (t-d) d).flatMap lv)
 | 0,_=>by simp[iG]
 | d+1,hd=>by unfold iG;rw[List.range'_succ,Abg,show t-(d+1)+1=t-d from ae];exact((AN lv t d ae).append_right _).trans List.perm_append_comm
theorem AD(st:Nat)(ats:List Nat)(b:List aj):∀k,(fu st ats b k).map (ao st)=(Aaj k).flatMap (ll st ats b)
 | 0=>rfl
 | k+1=>by show(fu st ats b k++(mK st ats b k).1).map _=_;rw[Aao,AD st ats b k,Abz,gC,List.flatMap_singleton];rfl
theorem ts(st:Nat)(ats:List Nat)(b:List aj):(dT b (ll st ats b)).Perm ((fu st ats b (κ (eB (κ b)))).map (ao st)):=by rw[AD];have:=AN (ll st ats b) (κ (eB (κ b))) _ (aG _);rw[Nat.sub_self,<-List.range_eq_range']at this;exact this
theorem lE(h1:1<=κ b)(h2:κ b<=65535)(hn:κ ats=dM (κ b)):((dT b (ll st ats b)).map (·.loc)).Perm (ats.map (λk:Nat=>(k:Int))):=by
 have:=(ts st ats b).map (·.loc);rw[vY]at this;have e:(fu st ats b (κ (eB (κ b)))).map ((·.loc) ∘ ao st)=ats.map (λk:Nat=>(k:Int)):=by rw[<-kf (st:=st) h1 h2 hn,vY,kf h1 h2 hn];rfl
 simp_all
theorem Cn:∀p∈dT b (ll st ats b),p.aT=st:=λp hp=>by obtain⟨x,_,rfl⟩:=Abf.1 ((ts st ats b).mem_iff.1 hp);rfl
structure lh(C:List cN)(q:au)(b sp:List aj)(ps:List au):Prop where
 ex:∃(r1 r2:au)(lv1 lv2 lvq:Nat->List au),iq C q (fB r1 (κ b) r2 (κ sp)) lvq/\iq C r1 b lv1/\iq C r2 sp lv2/\(r1.wf/\cw r1=true)/\(r2.wf/\cw r2=true)/\ps=q::(dT b lv1++dT sp lv2)/\dT (fB r1 (κ b) r2 (κ sp)) lvq=[q]
theorem lh.congr{C C':List cN}{q:au}{b sp:List aj}{ps:List au}(M:lh C q b sp ps)(h:∀p∈ps,C'[p.loc.toNat]?=C[p.loc.toNat]?):lh C' q b sp ps:=by
 obtain⟨r1,r2,lv1,lv2,lvq,a,b',c,d,e,f,g⟩:=M.ex;subst f;refine⟨r1,r2,lv1,lv2,lvq,a.congr (λp hp=>h p ?_),b'.congr (λp hp=>h p ?_),c.congr (λp hp=>h p ?_),d,e,rfl,g⟩
 ·simp_all
 ·simp_all
 ·simp_all
theorem Mc(h1:1<=n)(h2:n<=128):eB n=[1]:=by grind [hW,lR,hi]
theorem R'(h1:1<=κ b)(h2:κ b<=128)(hi:4<=i)(hc:C[i]?=some (eK b h2)):iq C ⟨i,st,dO (eK b h2)⟩ b (λ_=>[⟨i,st,dO (eK b h2)⟩])/\dT b (λ_=>[⟨i,st,dO (eK b h2)⟩])=[⟨i,st,dO (eK b h2)⟩]:=by
 have hl:=Mc h1 h2;have ab:(⟨i,st,dO (eK b h2)⟩:au)≠hole:=λe=>by have:=cb au.loc e;simp[hole]at this;omega
 refine⟨⟨⟨h1,ae⟩,λk hk=>?_,rfl,λk hk x hx=>aa,λj hj=>?_,λk hk=>aa⟩,?_⟩
 ·simp_all
 ·obtain rfl:j=0:=by simp_all
  show fE C ⟨i,st,dO (eK b h2)⟩=_;unfold fE;rw[aM ab,bo aq];show(C[((i:Nat):Int).toNat]?).bind _=_;rw[Abq,hc,p8,bo rfl];have:ns b 0=b:=by unfold ns;rw[Nat.mul_zero,Aax,dh h2]
  grind [dp,eK]
 ·unfold dT;rw[hl];rfl
def gf(s:Nat->Nat):Nat->Bool:=λi=>decide (i<1024/\s i=2)
def Wi(P:bu):List aj:=iB (κ P.C) (aB (gf P.s) 4096)
structure LR(P P':bu)(ats:List Nat)(ps:List au):Prop where
 s:P'.s=P.s
 st:P'.st=P.st
 ba:P'.ba=P.ba
 len:κ P'.C=κ P.C
 m:P'.m=P.m+κ ats
 other:∀i,i ∉ ats->P'.C[i]?=P.C[i]?
 AL:(ps.map (·.loc)).Perm (ats.map (λk:Nat=>(k:Int)))
 aT:∀p∈ps,p.aT=P.st
def LM(P:bu)(H:aP)(b:List aj)(ats:List Nat)(w:af)(e:Ab1)(w':af):Prop:=∃q v ps P',e=.returned (.tuple #[.agg (be q),v,.int .i64 0])/\bf w' w.heap.size v ps/\PT w H P' w'/\lh P'.C q b (Wi P) ps/\LR P P' ats ps/\q.wf/\cw q=true
theorem V8{b sp T:List aj}{ats a1 a2:List Nat}{last:Nat}(h1:1<=κ b)(h2:κ b<=65535)(ai:1<=κ sp)(ak:κ sp<=65535)(ha:ats=a1++(a2++[last]))(hd:ats.Nodup)(aT:κ a1=dM (κ b))(aS:κ a2=dM (κ sp))(has:∀i∈ats,4<=i/\i<1024/\P.s i=2/\i<κ P.C)(aE:1<=P.st/\P.st<=281474976710655){r1 r2:au}(bF:ll P.st a1 b (κ (eB (κ b))-1)=[r1])(aO:ll P.st a2 sp (κ (eB (κ sp))-1)=[r2])(hT:T=fB r1 (κ b) r2 (κ sp))(bo:κ T<=128){P1 P2 P3:bu}(bc:P1=bV P (fu P.st a1 b (κ (eB (κ b)))))(bJ:P2=bV P1 (fu P.st a2 sp (κ (eB (κ sp)))))(bE:P3={P2 with C:=P2.C.set last (eK T bo),m:=P2.m+1,fl:=false}){q:au}(hq:q=⟨last,P.st,dO (eK T bo)⟩):iq P3.C r1 b (ll P.st a1 b)/\iq P3.C r2 sp (ll P.st a2 sp)/\lh P3.C q b sp (q::(dT b (ll P.st a1 b)++dT sp (ll P.st a2 sp)))/\
  LR P P3 ats (q::(dT b (ll P.st a1 b)++dT sp (ll P.st a2 sp)))/\q.wf/\cw q=true:=by
 subst ha;obtain⟨an,ag⟩:=aA ((ug.1 hd).2.1) ((ug.1 hd).2.2);have m2:∀i∈a2,i∈a1++(a2++[last]):=λi h=>p6 _ (oG _ h);have m3:last∈a1++(a2++[last]):=p6 _ (p6 _ aq);have ax:∀i∈a1,i≠last:=λi h e=>ag i h last aq e;have aw:∀i∈a1,i ∉ a2:=λi h h'=>ag i h i (oG _ h') rfl;have aD:∀i∈a2,i≠last:=λi h e=>(ug.1 an).2.2 i h last aq e;obtain⟨p1,p2,p3,p4,p5⟩:=fX P (fu P.st a1 b (κ (eB (κ b))));obtain⟨q1,q2,q3,q4,q5⟩:=fX P1 (fu P.st a2 sp (κ (eB (κ sp))));rw[<-bc]at p1 p2 p3 p4 p5;rw[<-bJ]at q1 q2 q3 q4 q5;obtain⟨S,hS⟩:=bK (eK T bo);have e3:P3.C=P2.C.set last S/\P3.m=P2.m+1/\P3.s=P2.s/\P3.st=P2.st/\P3.ba=P2.ba:=aa
 clear bE;obtain⟨i1,i2⟩:=aA (kf (st:=P.st) h1 h2 aT) (kf (st:=P.st) ai ak aS);have B1:iq P1.C r1 b (ll P.st a1 b):=by grind [DG]
 have B2:iq P2.C r2 sp (ll P.st a2 sp):=by grind [DG]
 obtain⟨L1,L2⟩:=aA (lE (st:=P.st) h1 h2 aT) (lE (st:=P.st) ai ak aS);have Zk:∀p∈dT b (ll P.st a1 b),p.loc.toNat∈a1:=λp hp=>by have:=L1.mem_iff.1 (Abf.2 ⟨p,hp,rfl⟩);exact NF
 have in2:∀p∈dT sp (ll P.st a2 sp),p.loc.toNat∈a2:=λp hp=>by have:=L2.mem_iff.1 (Abf.2 ⟨p,hp,rfl⟩);exact NF
 have al:∀i,i≠last->P3.C[i]?=P2.C[i]?:=λi h=>by rw[e3.1];exact E5 (λe=>h e.symm)
 have ar:∀i,i ∉ a2->P2.C[i]?=P1.C[i]?:=λi h=>by rw[bJ];exact jS _ P1 i aa
 have av:∀i,i ∉ a1->P1.C[i]?=P.C[i]?:=λi h=>by rw[bc];exact jS _ P i aa
 have ad:=has last m3;have aB:last<κ P2.C:=ae
 have C1:iq P3.C r1 b (ll P.st a1 b):=B1.congr (λp hp=>by have:=Zk p hp;rw[al _ (ax _ this),ar _ (aw _ this)])
 have C2:iq P3.C r2 sp (ll P.st a2 sp):=B2.congr (λp hp=>al _ (aD _ (in2 p hp)));have aF:P3.C[last]?=some S:=aQ
 obtain⟨BQ,AQ⟩:=R' (C:=P3.C) (i:=last) (st:=P.st) (b:=T) (by grind [iR]) bo ad.1 aQ;rw[<-hq]at BQ AQ;have g1:=nX (b:=b) (λi h=>has i ((λi h=>oG _ h) i h)) aE (κ (eB (κ b))-1) r1 aQ;obtain⟨g2,gq⟩:=aA (nX (P:=P) (b:=sp) (λi h=>has i (m2 i h)) aE (κ (eB (κ sp))-1) r2 aQ) (h5 ad.1 ad.2.1 aE.1 aE.2 (eK T bo));rw[<-hq]at gq;refine⟨C1,C2,⟨r1,r2,ll P.st a1 b,ll P.st a2 sp,_,by rw[<-hT];exact BQ,C1,C2,g1,g2,rfl,aQ⟩,⟨e3.2.2.1.trans (q1.trans p1),e3.2.2.2.1.trans (q2.trans p2),e3.2.2.2.2.trans (q3.trans p3),?_,?_,λi hi=>?_,?_,λp hp=>?_⟩,gq.1,gq.2⟩
 ·grind
 ·grind
 ·grind
 ·simp only[Acf,Aao,List.map_nil];refine(List.Perm.cons _ (L1.append L2)).trans ?_;rw[hq];grind
 ·grind [Cn]
section
variable {P:bx} {o:Abn} {a:Act} {w:af} {K:Act->af->Prop} {Q:Exit->Act->af->Prop}
theorem lS(ty:Aab)(x y:bO)(ho:o.op=.store ty x y)(g:Nat)(C':Array ah)(hx:a.eval x=pz g)(hy:a.eval y=.agg C')(t:Aab)(C:Array ah)(hb:aH w g t C)(hi:(P.info? ty).map (·.size)=some C'.size)(hold:C.size=C'.size)(h1:C'.all (·.oneCell')=true)(h:∀w',aH w' g t C'->w.grownBy w' (some g)->K (a.put o.dst Aar) w'):o.wp P a w K Q:=by
 have hfit:0+C'.size<=C.size:=ae
 have aE:=v7 (P:=P) g 0 t C'.toList 0 C w hb ae (λv hv=>(v8.1 h1) v aQ);have a6:(storeVar ty ⟨g,0,none⟩ (.agg C')).run P w=.ok () (w.setRow g (Aby C.toList 0 C'.toList).toArray):=by
  cases hq:P.info? ty with
  | none=>grind
  | some i=>
   have hs:C'.size=i.size:=aQ
   simp[storeVar,sizeOf,typeInfo,hq,Value.cells,hs];assumption
 have bf:(Aby C.toList 0 C'.toList).toArray=C':=Mj
 rw[bf]at a6;unfold Acb Abs;simp[ho,hx,hy,Instr.storeAt,Adf,Aaw,a6,Aap];exact h _ (hb.set C') (cQ w g C')
theorem Rr(t:Aab)(x y z:bO)(ho:o.op=.buildSlice t 3 #[(0,x),(1,y),(2,z)])(X Y Z:ah)(hx:a.eval x=X)(hy:a.eval y=Y)(hz:a.eval z=Z)(v:ah)(w':af)(hr:(Acd t 3 #[(0,X),(1,Y),(2,Z)]).run P w=.ok v w')(h:K (a.put o.dst v) w'):o.wp P a w K Q:=by unfold Acb Abs;simp[ho,hx,hy,hz,hr,Aap];exact h
end
theorem Lh(ht:64<=κ P.C/\(κ P.C)<=1024)(hf:oh (gf P.s) (κ P.C)):κ (Wi P)=cF (κ P.C):=by
 unfold Wi iB;have SN:cF (κ P.C)=2+5*((κ P.C+1)/2):=by grind [cF]
 have:=su hf ae;exact ND
theorem KT(A:PA w H P){v:ah}{xs:List aj}(h:Own aF 5 w base v xs):∀k,v.ownBlock=some k->¬PF H k:=λk hk=>by
 obtain⟨_,h2⟩:=h;rcases h2 with⟨h3,_⟩|⟨g,cap,cur,h3,_,h5,_⟩
 ·rw[h3]at hk;cases hk
 ·rw[h3]at hk;simp only[Aan,Aai]at hk;subst hk;exact A.cc (t:=5) (C:=cur) h5 ax
theorem IC(w:af)(a1 a2 a3:Option Addr)(n1 c1 n2 c2 n3 c3:Nat):(Acd 275 3 #[(0,.slice a1 n1 c1),(1,.slice a2 n2 c2),(2,.slice a3 n3 c3)]).run Aag w=.ok (cv w.heap.size 3 3) (w.alloc (.cells #[.slice a1 n1 c1,.slice a2 n2 c2,.slice a3 n3 c3] 88)):=av
theorem Li(h:64<=t/\t<=1024):1<=cF t/\cF t<=65535:=by grind [cF]
theorem Kz(w:af)(H:aP)(P:bu)(A:PA w H P)(vt:ah)(b:List aj)(hb:a8 w vt b)(aX:∀k,vt.ownBlock=some k->¬PF H k)(h1:1<=κ b)(h2:κ b<=65535)(va:ah)(ats:List Nat)(ha:aD bz w va (ats.map (λk:Nat=>(k:Int))))(han:∀k,va.ownBlock=some k->¬PF H k)(ht:64<=κ P.C/\(κ P.C)<=1024)(aM:κ ats=dU (κ b) (κ P.C))(hd:ats.Nodup)(has:∀i∈ats,4<=i/\i<1024/\P.s i=2/\i<κ P.C)(aE:1<=P.st/\P.st<=281474976710655)(hm:P.m<=800000)(hf:oh (gf P.s) (κ P.C)):Aae Aag 214 #[pz H.pb,vt,va] w λe w'=>LM P H b ats w e w':=by
 obtain⟨b',spn⟩:=aA (Lh ht hf) (Li ht);have N1:dM (κ b)<=1024:=(jj (κ b)).2;have N2:dM (cF (κ P.C))<=1024:=(jj (cF (κ P.C))).2;obtain⟨sp,bf⟩:=bK (Wi P);rw[<-bf]at b';have cQ:dM (κ sp)=dM (cF (κ P.C)):=by rw[b']
 obtain⟨n,hn⟩:=bK (dM (κ b));obtain⟨m,aU⟩:=bK (dM (κ sp));have cq:κ ats=n+m+1:=by rw[aM];unfold dU;rw[hn,aU,cQ];omega
 obtain⟨a1,b7⟩:=bK (ats.take n);obtain⟨a2,b9⟩:=bK ((ats.drop n).take m);have aR:n+m<κ ats:=ae
 obtain⟨last,ar⟩:=bK (ats[n+m]);have al:ats=a1++(a2++[last]):=by
  rw[b7,b9,ar];conv=>lhs;rw[<-fH n ats]
  congr 1;rw[<-fH m (ats.drop n)];congr 1
  ·rw[fH]
  ·rw[Ac3,wc aR,v' ae]
 have l1:κ a1=n:=by rw[b7,ev];omega
 have l2:κ a2=m:=by rw[b9,ev,hP];omega
 have m1:∀i∈a1,i∈ats:=λi h=>by rw[al];exact oG _ h
 have m2:∀i∈a2,i∈ats:=λi h=>by rw[al];exact p6 _ (oG _ h)
 have m3:last∈ats:=by rw[ar];exact cJ _
 obtain⟨ta,tc,rfl⟩:=hb.slice;obtain⟨aa,ac,rfl⟩:=ha.slice;rw[Aad]at ha han ⊢;have dF:=mf ha;have a7:∀W,(Aav 41 (.slice aa (κ ats) ac) none (some (i6 (n:Int))) none).run Aag W=.ok (b8 aa 0 n ac) W:=λW=>hj (P:=Aag) 41 qV qW aa _ ac n ae W;have aQ:∀W,(Aav 41 (.slice aa (κ ats) ac) (some (i6 (n:Int))) (some (i6 ((n:Int)+(m:Int)))) none).run Aag W=.ok (b8 aa n (n+m) ac) W:=λW=>by have:=DF (P:=Aag) 41 qV qW aa (κ ats) ac n (n+m) ae ae W;rw[Int.natCast_add]at this;exact this
 have bQ:=an (show aD bz w (b8 aa 0 n ac) (a1.map (λk:Nat=>(k:Int)))from by have:=aD.piece ha (lo:=0) (hi:=n) ae me;rw[Aax,<-we,<-b7]at this;exact this)
 have bM:=an (show aD bz w (b8 aa n (n+m) ac) (a2.map (λk:Nat=>(k:Int)))from by have:=aD.piece ha (lo:=n) (hi:=n+m) ae me;rw[<-we,<-p4]at this;rw[b9];rw[List.drop_take,E2]at this;exact this)
 obtain⟨p1,aK⟩:=bK (b8 aa 0 n ac);obtain⟨p2,aJ⟩:=bK (b8 aa n (n+m) ac);obtain⟨cz,ca⟩:=aw (show ∀k,p1.ownBlock=some k->¬PF H k from λk hk=>han k (by rw[aK]at hk;exact rp hk)) (show ∀k,p2.ownBlock=some k->¬PF H k from λk hk=>han k (by rw[aJ]at hk;exact rp hk));obtain⟨ab,ao,aC,_,b2⟩:=cg ha Fm me;subst aC;have LC:=an (show w.cell? (ad ab (ao+(n+m)))=some (i6 (last:Int))from by have:=b2 (n+m) (by rw[Aad];exact aR);rw[Adp,<-ar]at this;exact this)
 have LN:=an (han ab rfl);rw[<-aK]at a7 bQ;rw[<-aJ]at aQ bM;obtain⟨lb,bL⟩:=bK (κ b);rw[<-bL]at hb aX;have aS:n<=1024:=by rw[hn];exact N1
 have dH:m<=1024:=by rw[aU,cQ];exact N2
 obtain⟨HA,HB,bX,bS,bU,aT,b1⟩:=xO A hb aX (λi h=>has i (m1 i h)) (λi h=>has i (m2 i h)) (has last m3) (show ats=a1++(a2++[last])/\ats.Nodup/\(κ a1)=dM (κ b)/\(κ a2)=dM (κ sp)/\(∀i∈ats,4<=i/\i<1024/\P.s i=2/\i<κ P.C)from⟨al,hd,l1.trans hn,l2.trans aU,has⟩);obtain⟨nA,cR⟩:=bK (κ ats);rw[<-cR]at a7 aQ ⊢;have cr:nA=n+m+1:=ae
 obtain⟨ch,ND⟩:=aw bL (uN (w.alloc (.cells (be hole) 87)) (κ b) ae);rw[<-hn]at ND;rw[<-bL]at ND ⊢;obtain⟨HN,HM,bb,SPL,U1,B1,bW,bB,H1⟩:=aa4 hn aU bf b' (ai w (.cells (be hole) 87)) (aH.new w 87 (be hole)) l1 l2 (show 1<=κ b/\(κ b)<=65535 from⟨h1,h2⟩);clear aX han aM cq has m1 m2 m3 al l1 l2 hn aU bf b' aK aJ b2 cR ar b7 b9 bL h1 h2;subst cr;go_in;go_wp2_with(refine arm ?_);refine ND.mono ?_;rintro e w2⟨rfl,u2⟩;obtain⟨U2,B2⟩:=aw (U1.trans u2) (B1.up u2);have cX:=an (CR w2 H P (HA.up U2) (.slice ta lb tc) b (HB.up U2) bX H1.1 H1.2 p1 a1 (bQ.up U2) cz (bW.trans HN) bS aE ae);have wl:IntKind.i64.wrap ((n:Int)+(m:Int))=((n+m:Nat):Int):=by rw[show(n:Int)+(m:Int)=((n+m:Nat):Int)from ae];exact aY _ ae
 go_wp2_with fail;clear a7;refine cX.mono ?_;rintro e w3⟨r1,bF,rfl,d3⟩;obtain⟨R1,D3⟩:=aw bF (PT.pre U2 d3);obtain⟨bw,A3,T3,O3⟩:=d3;obtain⟨B3,U4⟩:=aw (B2.az T3 ((HA.up U2).cc B2 ax)) (ai w3 (.cells (be r1) 87));obtain⟨D4,B4,E4⟩:=aW (D3.up U4) (B3.up U4) (aH.new w3 87 (be r1));clear bF O3 cz;go_wp2_with(refine arm ?_);generalize w3.alloc (.cells (be r1) 87)=w4 at *;obtain⟨P1,bc⟩:=bK (bV P (fu P.st a1 b (κ (eB (κ b)))));obtain⟨q1,q2,q3,q4,q5⟩:=fX P (fu P.st a1 b (κ (eB (κ b))));have dI:P1.m<=P.m+2000:=by have:=cb List.length (kf (st:=P.st) H1.1 H1.2 (bW.trans HN));rw[Aad,bW.out]at this;rw[bc,q4,this];omega
 rw[<-bc]at D4 q1 q2 q3 q5;have cj:=an bc;clear bc q4;obtain⟨Q1,Q2,Q5⟩:=aW q1 q2 q5;have ct:1<=P1.st/\P1.st<=281474976710655:=by rw[q2];exact aE
 have⟨bw,A4,T4,O4⟩:=D4;obtain⟨dx,PD,LE⟩:=aW A4 (k7 w4 (H.at bw) P1 A4) (kO _ _ _ _ _ A4.dev);rw[q5]at LE;obtain⟨PM,TK⟩:=aw (k2 w4 (H.at bw) P1 A4) (BX _ _ _ A4.map);have cS:qu P1.s 2=aB (gf P.s) 4096:=by rw[q1,rD];rfl
 rw[cS]at TK;clear q1 q2 q3 q5 O4 cS;refine uD ?_;intro wx;go_wp2_with fail;refine y1 ?_;intro wx;go_wp2_with fail;refine PM.mono ?_;refine eO ?_;intro wx;go_wp2_with fail;refine TK.mono ?_;rintro e w5⟨vs,rfl,os,u5⟩;have b5:=an (DN w5 (κ P.C) ht (gf P.s) hf vs (ak.row os BV) (λa k c h=>by subst h;exact(ak.aN os a.block rfl).2))
 obtain⟨D5,B5,E5,cO⟩:=bR (D4.up u5) (B4.up u5) (E4.up u5) u5;go_wp2_with fail;refine b5.mono ?_;rintro e w6⟨du,rfl,dk,u6⟩;have cp:=an (show Own aF 5 w6 w5.heap.size du sp from by rw[bb.out];exact dk);obtain⟨sa,sc,a6⟩:=cp.cC.slice;rw[SPL.out]at a6;subst a6;obtain⟨D6,B6,E6⟩:=aW (D5.up u6) (B5.up u6) (E5.up u6);have⟨ds,A6,T6,O6⟩:=D6;have cY:=an (CR w6 (H.at ds) P1 A6 (.slice sa (cF (κ P.C)) sc) sp (by have:=cp.cC;exact this) (KT A6 cp) wo AV p2 a2 (bM.az T6 ca) (λk hk=>qe HA O6 (by
  by_cases h0:0<κ a2
  ·exact Bn bM (by rw[Aad];exact h0) k hk
  ·exfalso;have:=hW (n:=κ sp) wo AV;have h9:0<dM (κ sp):=by unfold dM;rw[this,Acg];have:=wU (b:=128) (n:=κ sp) ae wo;omega
   rw[bB.out,HM.out]at h0;omega) (ca k hk)) (bB.trans HM) (λi hi=>by
  have:=bU i hi;exact⟨this.1,this.2.1,by rw[Q1.out];exact this.2.2.1,by rw[Q5.out];exact this.2.2.2⟩) ct ae)
 go_wp2_with fail;clear aQ;refine cY.mono ?_;rintro e w7⟨r2,aO,rfl,d7⟩;obtain⟨R2,D7⟩:=aw (show ll P.st a2 sp (κ (eB (κ sp))-1)=[r2] from by rw[<-Q2.out];exact aO) (PT.then T6 O6 d7);obtain⟨bn,A7,T7,O7⟩:=d7;obtain⟨B7,E7,U8⟩:=aW (B6.az T7 (A6.cc B6 ax)) (E6.az T7 (A6.cc E6 ax)) (ai w7 (.cells (be r2) 87));obtain⟨D8,B8,E8,F8⟩:=bR (D7.up U8) (B7.up U8) (E7.up U8) (aH.new w7 87 (be r2));clear aO O7 ca O6;obtain⟨P2,bJ⟩:=bK (bV P1 (fu P1.st a2 sp (κ (eB (κ sp)))));obtain⟨q1,q2,q3,q4,q5⟩:=fX P1 (fu P1.st a2 sp (κ (eB (κ sp))));have dq:P2.m<=P1.m+2000:=by have:=cb List.length (kf (st:=P1.st) wo AV (bB.trans HM));rw[Aad,bB.out]at this;rw[bJ,q4,this];omega
 rw[<-bJ]at D8 q1 q2 q3 q5;have bC:=an (show P2=bV P1 (fu P.st a2 sp (κ (eB (κ sp))))from by rw[bJ,Q2.out]);have dd:=an (q1.trans Q1);have de:=an (q2.trans Q2);have df:=an (q5.trans Q5);clear bJ q1 q2 q3 q4 q5;obtain⟨G1,G2⟩:=aw (nX (b:=b) bS aE (κ (eB (κ b))-1) r1 (by rw[R1.out];simp)) (nX (P:=P) (b:=sp) bU aE (κ (eB (κ sp))-1) r2 (by rw[R2.out];simp));have TO:=an (IS (w7.alloc (.cells (be r2) 87)) r1 G1.1 G1.2 lb (by have:=H1.out;rw[ch.out];omega) r2 G2.1 G2.2 (cF (κ P.C)) spn.2);go_wp2_with(refine arm ?_);generalize w7.alloc (.cells (be r2) 87)=w8 at *;refine TO.mono ?_;rintro e w9⟨cx,rfl,cu,u9⟩;obtain⟨OT,D9,B9,E9,F9⟩:=eI cu (D8.up u9) (B8.up u9) (E8.up u9) (F8.up u9);have⟨dt,A9,T9,O9⟩:=D9;have c':=fk LC T9 LN;obtain⟨T,hT⟩:=bK (fB r1 lb r2 (cF (κ P.C)));rw[<-hT]at OT;have bo:κ T=40:=by rw[hT];exact iR _ _ _ _
 have HT:=an (show T=fB r1 (κ b) r2 (κ sp) from by rw[hT,ch.out,SPL.out]);have aL:κ T<=128:=ae
 have dc:=an (sZ w9 (H.at dt) P2 A9 last aT.2.1 (by rw[dd.out];exact aT.2.2.1) (by rw[df.out];exact aT.2.2.2) cx T OT.cC aL ae);obtain⟨dJ,dK,bs⟩:=OT.cC.slice;rw[bo]at bs;have dC:=an bo;clear hT bo;subst bs;have bl:((n:Int)+(m:Int)<(n:Int)+(m:Int)+1)=True:=eo ae;have dD:(0<=(n:Int)+(m:Int))=True:=eo ae;have tn:((n:Int)+(m:Int)).toNat=n+m:=ae
 go_wp2_with fail;refine dc.mono ?_;rintro e aV⟨rfl,d10⟩;obtain⟨P3,bE⟩:∃x:bu,x={P2 with C:=P2.C.set last (eK T aL),m:=P2.m+1,fl:=false}:=⟨_,rfl⟩;rw[<-bE]at d10;obtain⟨q,hq⟩:∃q:au,q=⟨last,P.st,dO (eK T aL)⟩:=⟨_,rfl⟩;rw[show(be ⟨(last:Int),P2.st,dO (eK T aL)⟩)=be q from by rw[hq,de.out]];obtain⟨WR,cZ⟩:=aw (V8 (b:=b) (sp:=sp) H1.1 H1.2 wo AV b1.1 b1.2.1 b1.2.2.1 b1.2.2.2.1 b1.2.2.2.2 aE R1 R2 HT aL cj bC bE hq) (PT.then T9 O9 d10);obtain⟨dr,dw,bD,cn⟩:=d10;obtain⟨bq,dy,c7,bN⟩:=bR (B9.az bD (A9.cc B9 ax)) (E9.az bD (A9.cc E9 ax)) (F9.az bD (A9.cc F9 ax)) (ai aV (.cells (be q) 87));obtain⟨c0,cA,cH,cM,IQ,OQ,c9⟩:=xO (cZ.up bN) (bq.up bN) (c7.up bN) (aH.new aV 87 (be q)) (hU q) (jN q) bq.lt;have⟨cw,b3,dg,bH⟩:=c0;have cE:=an (qL _ _ P3 b3 r1 b _ WR.1);rw[<-ch.out]at cE;clear bE hq cn O9 c';go_wp2_with(refine arm ?_);generalize aV.alloc (.cells (be q) 87)=w11 at *;refine cE.mono ?_;rintro e bT⟨x1,v1,rfl,_,_,dm,g12⟩;obtain⟨cf,ck,bY,cB,dB,cN,b6⟩:=xO g12 dg bH (cA.az g12.2 (b3.cc cA ax)) (cH.az g12.2 (b3.cc cH ax)) (cM.az g12.2 (b3.cc cM ax)) dm;have b4:=g12.1;have cG:=an (qL bT (H.at cw) P3 b4 r2 sp _ WR.2.1);rw[SPL.out]at cG;clear bH;go_wp2_with(refine arm ?_);refine cG.mono ?_;rintro e bp⟨x2,v2,rfl,_,_,dp,g13⟩;have gg:=cf.trans g13;obtain⟨c3,cD,c8,b0,cP⟩:=eI (PT.then ck bY (PT.same gg.1 gg.2)) (cB.az g13.2 (b4.cc cB ax)) (cN.az g13.2 (b4.cc cN ax)) (ak.az b6 g13.2 (ez b4 b6)) dp;clear bY;go_wp2;have MA:=an WR.2.2;have da:=an (show(dT b (ll P.st a1 b)).length<=1024 from by have:=(lE (st:=P.st) H1.1 H1.2 (bW.trans HN)).length_eq;rw[Aad,Aad,bW.out]at this;omega)
 have db:=an (show(dT sp (ll P.st a2 sp)).length<=1024 from by have:=(lE (st:=P.st) wo AV (bB.trans HM)).length_eq;rw[Aad,Aad,bB.out]at this;omega)
 generalize dT b (ll P.st a1 b)=L1 at *;generalize dT sp (ll P.st a2 sp)=L2 at *;obtain⟨ba,bk,rfl⟩:=(ak.row b0 pw).slice;obtain⟨bj,bm,rfl⟩:=(ak.row cP pw).slice;refine e3 (S:=λW=>aH W aV.heap.size 87 (be q)) av ?_;change Acp _ _ _ _ _ 10 _ _ (bp.drew);have UD:=an (Up.drew (Up.refl bp));obtain⟨cd,c4,cU,dh,di,SZ⟩:=im (c8.up UD) (c3.up UD) (cD.up UD) (ak.row (ak.up b0 UD) pw) (ak.row (ak.up cP UD) pw) (show w.heap.size<bp.drew.heap.size from eg cD.lt UD.size);generalize bp.drew=bh at *;refine tb 0 rfl (Wb (λW hS=>aH.range hS)) ?_;refine br ?_;refine tb 1 rfl (Wb (λW hS=>aH.range hS)) ?_;refine br ?_;refine tk 3 (.slice ba (κ L1) bk) rfl ya (cd) ?_;refine br ?_;refine tk 4 (.slice bj (κ L2) bm) rfl ya (cd) ?_;refine br ?_;refine ok 2 ?_;intro K hK;refine mH 88 87 (.tmp 123) rfl _ 3 24 (be q) rfl Aaq cy ae ae rfl ?_;have bP:=an (ai bh (.cells (be q) 87));have cI:=an (cd.up bP);refine hK _ _ cI ?_;refine gq ?_;clear hK K;refine ok 5 ?_;intro K hK;refine Rr 275 (.tmp 124) (.tmp 125) (.tmp 126) rfl _ _ _ rfl rfl rfl _ _ (IC _ _ _ _ _ _ _ _ _ _) ?_;have bI:=an (ai (bh.alloc (.cells (be q) 87)) (.cells #[cv bh.heap.size 1 1,.slice ba (κ L1) bk,.slice bj (κ L2) bm] 88));have cK:=an (cI.up bI);have IL:=an (show kM ((bh.alloc (.cells (be q) 87)).alloc (.cells #[cv bh.heap.size 1 1,.slice ba (κ L1) bk,.slice bj (κ L2) bm] 88)) (cv ((bh.alloc (.cells (be q) 87)).heap.size) 3 3) [[q],L1,L2] from
  ⟨[⟨some ⟨bh.heap.size,0,none⟩,1,1⟩,⟨ba,κ L1,bk⟩,⟨bj,κ L2,bm⟩],aD.er _ _ rfl _ _ (0,0) _ 3 rfl dE rfl,rfl,λi hi _=>by
   match i,hi with
   | 0,_=>exact aI.up (aI.er bh _ rfl (be q) 87 (0,0) [q] 1 rfl dE (by simp[dG,be])) bI
   | 1,_=>exact aI.up dh (bP.trans bI)
   | 2,_=>exact aI.up di (bP.trans bI)
   | (k+3),hi=>exact absurd hi aq⟩)
 have CC:=an (zL _ _ [[q],L1,L2] IL (by simp[gH];omega) (by have:=da.out;have:=db.out;simp[gH];omega) aq);have FL:[[q],L1,L2].flatten=q::(L1++L2):=aq
 rw[FL]at CC;obtain⟨c5,cW,bZ⟩:=aW (c4.up (bP.trans bI)) (cU.up (bP.trans bI)) (eg SZ (bP.trans bI).size);clear FL SZ;refine hK _ _ cK ?_;refine gq ?_;clear hK K;generalize bh.alloc (.cells (be q) 87)=cT at *;generalize cT.alloc (.cells #[cv bh.heap.size 1 1,.slice ba (κ L1) bk,.slice bj (κ L2) bm] 88)=dL at *;refine ok 6 ?_;intro K hK;go_simp;refine CC.mono ?_;rintro e dv⟨v17,rfl,ov,bG⟩;obtain⟨cL,c6,bA⟩:=aW (cK.up bG) (c5.up bG) (cW.up bG);refine hK _ _ cL ?_;refine gq ?_;clear hK K;refine ok 7 ?_;intro K hK;refine lS 87 (.tmp 6) (.tmp 122) rfl w.heap.size (be q) rfl rfl 87 (be hole) bA IQ rfl OQ ?_;intro wz hbz ag;obtain⟨DZ,VZ,FZ⟩:=aW (c6.grow bA ax ag (aG _)) ((ak.kept ov ag (.inr (λe=>by have:=(ov.aN _ e).1;have:=bZ.out;omega))).mono (base':=w.heap.size) (oC bZ)) (show aH wz aV.heap.size 87 (be q)from cL.az (Touch.bg (F:=(·=w.heap.size)) ag (λk hk=>oI)) (by have:=c9.out;omega));refine hK _ _ FZ ?_;refine gq ?_;clear hK K;refine tk 8 (v17) rfl ya (FZ) ?_;refine br ?_;refine tk 9 (i6 0) rfl ya (FZ) ?_;refine nc ?_;go_wp2;(try simp only[exi]);exact kk (v:=.tuple #[.agg (be q),v17,i6 0]) (r3 rfl _ _ _ w.heap.size 87 _ _ _ rfl rfl rfl hbz _ underlying87 rfl IQ) rfl ⟨q,v17,_,P3,rfl,VZ,DZ,by rw[<-bb.out];exact MA.1,MA.2.1,MA.2.2.1,MA.2.2.2⟩
theorem kbR{P:bx}{F0:Nat->Prop}{x0 w:af}{a:Act}{id l n:Nat}(s:Fr F0 x0 L w)(h:∀w,Fr F0 x0 L w->RK P ops Q F0 x0 L L [] 0 a w)(hm:P.follows .mixedOrders=true:=by kernel_rfl)(hd:ri ops=true:=by kernel_rfl)(ao:¬LetsOut Q:=by exact λ⟨_,_,h⟩=>h):(Code.region id ops true).wpIn (Fence.wide.inRound l) n P Q a w:=by have u:Up w w.drew:=Up.drew (Up.refl w);refine gI (S:=Sv F0 x0 L) hm hd ao ?_;have:=h w.drew (s.up u) (λ_ h=>h) [] w.drew (Up.refl _) (s.up u) ⟨.nil,λ_ h=>fI,λ_ h=>fI⟩;exact M0
def bpN(n:Nat)(P:bx)(fn:Func)(R:Ab1->af->Prop):Exit->Act->af->Prop
 | .panic _,_,_=>False
 | e,a,w=>bodyPostM Abw n P fn R e a w
theorem Y5{P:bx}{f:FuncId}{c:Code}{args:Array ah}(n:Nat)(hf:P.funcs[f]?=some fn)(h:c.wp P (bpN n P fn R) {tmps:=args++Array.replicate (fn.ntmps-args.size) undef,defers:=[]} w)(hb:fn.body=some c:=by rfl):Calls P f args w R:=fy.1 (oD hf hb trivial (wpIn_wide.2 (wp_mono h λe a w q=>by cases e<;>first|exact q|exact q.elim)) rfl)
theorem En{P:bx}{F0:Nat->Prop}{x0:af}{a:Act}{rs:List ResultVar}{vs:List ah}{v:ah}(s:Fr F0 x0 L w)(hR:R (.returned v) w)(hf:fn.results=⟨rs⟩:=by first|exact(rfl:_=(⟨[_,_,_]⟩:Array ResultVar))|exact(rfl:_=(⟨[_,_]⟩:Array ResultVar))|exact(rfl:_=(⟨[_]⟩:Array ResultVar))|rfl)(hr:Rs P L a.tmps rs vs:=by first|exact .tmp .nil|exact .tmp (.tmp .nil)|exact .tmp (.tmp (.tmp .nil)))(hv:rv vs=v:=by rfl)(hd:a.defers=[]:=by rfl):bpN n P fn R .ret a w:=by obtain⟨v',h1,h2⟩:=(l5 s hR hf hr hv hd).2;show LeavesInM _ _ _ _ _ _ a.defers _ _;rw[hd];exact⟨v',h1,h2⟩
def PW(l:List au):Prop:=l.Pairwise (λx y=>dm x y=true)
theorem rz{l:List au}:PW l↔qJ l:=by unfold PW qJ;rw[List.pairwise_iff_getElem];grind
theorem sR:∀(n:Nat)(a b:List au),κ a+κ b<=n->PW a->PW b->((∃x,x∈a/\x∈b)/\ea a b=none)\/((∀x,x∈a->x ∉ b)/\∃m,ea a b=some m/\PW m/\∀x,x∈m↔x∈a\/x∈b)
 | n,[],b,_,_,hb=>.inr ⟨aq,b,rb b,hb,aq⟩
 | n,x::a,[],_,ha,_=>.inr ⟨aq,x::a,A4 _,ha,aq⟩
 | 0,x::a,y::b,h,_,_=>by simp at h
 | n+1,x::a,y::b,h,ha,hb=>by
  have aL:=ha;have aG:=hb;unfold PW at aL aG;rw[fV]at aL aG;rw[A5 (x::a) (y::b) aq aq];simp only[Abx,Abv,Aax];cases h1:dm x y
  ·cases h2:dm y x
   ·have e:=HV h1 h2;subst e;exact .inl ⟨⟨x,aq,aq⟩,aq⟩
   ·have ad:∀z∈x::a,dm y z=true:=λz hz=>by
     rcases Aam.1 hz with e|hz
     ·rw[e];exact h2
     ·exact kg h2 (aL.1 z hz)
    rcases sR n (x::a) b (by simp at h ⊢;omega) ha aG.2 with⟨⟨z,z1,z2⟩,hm⟩|⟨hd,m,hm,hp,ag⟩
    ·exact .inl ⟨⟨z,z1,bt _ z2⟩,by simp[hm]⟩
    ·refine .inr ⟨λz hz aa=>?_,y::m,by simp[hm],?_,λz=>?_⟩
     ·rcases Aam.1 aa with e|aa
      ·have:=ad z hz;rw[e,tZ]at this;cases this
      ·exact hd z hz aa
     ·unfold PW;rw[fV];refine⟨λz hz=>?_,hp⟩;rcases(ag z).1 hz with h3|h3
      ·exact ad z h3
      ·exact aG.1 z h3
     ·rw[Aam,ag,Aam (a:=z) (b:=y)];constructor
      ·exact ML
      ·exact ML
  ·have aC:∀z∈y::b,dm x z=true:=λz hz=>by
    rcases Aam.1 hz with e|hz
    ·rw[e];exact h1
    ·exact kg h1 (aG.1 z hz)
   rcases sR n a (y::b) (by simp at h ⊢;omega) aL.2 hb with⟨⟨z,z1,z2⟩,hm⟩|⟨hd,m,hm,hp,ag⟩
   ·exact .inl ⟨⟨z,bt _ z1,z2⟩,by simp[hm]⟩
   ·refine .inr ⟨λz hz aa=>?_,x::m,by simp[hm],?_,λz=>?_⟩
    ·rcases Aam.1 hz with e|hz
     ·have:=aC z aa;rw[e,tZ]at this;cases this
     ·exact hd z hz aa
    ·unfold PW;rw[fV];refine⟨λz hz=>?_,hp⟩;rcases(ag z).1 hz with h3|h3
     ·exact aL.1 z h3
     ·exact aC z h3
    ·rw[Aam,ag,Aam (a:=z) (b:=x)];constructor
     ·rintro(h|h|h)
      ·exact .inl (.inl h)
      ·exact .inl (.inr h)
      ·exact .inr h
     ·rintro((h|h)|h)
      ·exact .inl h
      ·exact .inr (.inl h)
      ·exact .inr (.inr h)
theorem G3(l:List au)(q:au)(hl:PW l)(hf:nD q=true):(q∈l/\vK l q=none)\/(q ∉ l/\∃m,vK l q=some m/\PW m/\∀x,x∈m↔x=q\/x∈l):=by
 by_cases hm:q∈l
 ·grind [vK]
 ·refine .inr ⟨hm,_,by unfold vK;rw[bo ⟨hf,hm⟩],?_,λx=>?_⟩
  ·have hs:=rz.1 hl;unfold PW;rw[AS];have aa:=hl;unfold PW at aa;refine⟨aa.sublist (List.take_sublist _ _),?_,?_⟩
   ·rw[fV];refine⟨λz hz=>?_,aa.sublist (List.drop_sublist _ _)⟩;obtain⟨j,hj,rfl⟩:=ls hz;rw[hP]at hj;rw[List.getElem_drop];have h1:=Ip l q ae;have h3:dm q l[ho l q]=true:=by
     cases h4:dm q l[ho l q]
     ·grind [HV]
     ·rfl
    by_cases e:j=0
    ·simp_all
    ·exact kg h3 (hs (ho l q) (ho l q+j) ae ae)
   ·intro y hy z hz;obtain⟨i,hi,rfl⟩:=ls hy;rw[ev]at hi;rw[List.getElem_take];have h1:dm l[i] q=true:=Od i ae ae;rcases Aam.1 hz with e|hz
    ·simp_all
    ·obtain⟨j,hj,rfl⟩:=ls hz;rw[hP]at hj;rw[List.getElem_drop];exact hs i (ho l q+j) ae ae
  ·rw[eT,Aam];have:x∈l↔x∈l.take (ho l q)\/x∈l.drop (ho l q):=by rw[<-eT,fH]
   grind
def bF(C:List cN)(q:au):List au:=(node8 C q).getD dK
def eD(C:List cN)(root:au)(a:Nat):au:=if a=0 then root else if a<9 then a6 (bF C root) (a-1)else a6 (bF C (a6 (bF C root) ((a-9)/8))) ((a-9)%8)
def Br(a:Nat):Nat:=if a<9 then 0 else 1+(a-9)/8
structure eC(C:List cN)(root:au):Prop where
 pR:root.wf/\cw root=true
 node:∀a,a<9->(node8 C (eD C root a)).isSome=true
 e5:∀a,9<=a->a<73->(fE C (eD C root a)).isSome=true
 aT:∀a,0<a->a<73->(eD C root a).aT<=(eD C root (Br a)).aT
 inj:∀a b,a<73->b<73->eD C root a=eD C root b->eD C root a≠hole->a=b
def gb(C:List cN)(root p:au):Prop:=p≠hole/\∃a,a<73/\eD C root a=p
theorem kC(C:List cN):node8 C hole=some dK:=ay
theorem kD(C:List cN):bF C hole=dK:=ay
theorem gP(k:Nat):a6 dK k=hole:=by grind [a6,dK]
theorem df(C:List cN)(root:au)(hk:k<8):eD C root (1+k)=a6 (bF C root) k:=by grind [eD]
theorem h7(C:List cN)(root:au)(hi:i<64):eD C root (9+i)=a6 (bF C (eD C root (1+i/8))) (i%8):=by grind [df,eD]
theorem kV(C:List cN)(a:Nat):eD C hole a=hole:=by simp[eD,kD,gP]
theorem oT{q:au}{l:List au}(h:node8 C q=some l):bF C q=l:=by grind [bF]
theorem KF(C:List cN)(q:au)(k:Nat):(a6 (bF C q) k).wf/\cw (a6 (bF C q) k)=true:=by
 unfold bF;cases h:node8 C q with
 | none=>simp[gP,gA]
 | some l=>grind [a6,gA,fW]
theorem R6{root:au}(h:root.wf/\cw root=true)(a:Nat):(eD C root a).wf/\cw (eD C root a)=true:=by grind [eD,KF]
theorem SN{p:au}(h:cw p=true)(hn:p≠hole):4<=p.loc/\p.loc<1024/\1<=p.aT/\p.aT<=281474976710655:=by grind [cw]
section
variable {C C':List cN} {root:au}
theorem eC.nodeAt(T:eC C root){a:Nat}(ha:a<9):node8 C (eD C root a)=some (bF C (eD C root a)):=by obtain⟨l,hl⟩:=Option.isSome_iff_exists.mp (T.node a ha);grind [oT]
theorem eC.F(T:eC C root):node8 C root=some (bF C root):=T.nodeAt (a:=0) ae
theorem eC.S(T:eC C root){k:Nat}(hk:k<8):node8 C (a6 (bF C root) k)=some (bF C (a6 (bF C root) k)):=by have:=T.nodeAt (a:=1+k) ae;grind [df]
def uP(T:eC C root):κ (bF C root)=8:=cH T.F
theorem eC.get(T:eC C root){i:Nat}(hi:i<64):∃s,SM C root i=some s/\fE C (eD C root (9+i))=some s:=by obtain⟨s,hs⟩:=Option.isSome_iff_exists.mp (T.e5 (9+i) ae ae);refine⟨s,?_,hs⟩;unfold SM;rw[T.F,p8,T.S ae,p8];grind [h7,df]
theorem gb.pR(T:root.wf/\cw root=true){p:au}(h:gb C root p):p.wf/\cw p=true:=by obtain⟨_,a,_,rfl⟩:=h;exact R6 T a
def gb.loc(T:eC C root){p:au}(h:gb C root p):4<=p.loc/\p.loc<1024/\1<=p.aT/\p.aT<=281474976710655:=SN (h.pR T.pR).2 h.1
theorem eC.aba(T:eC C root){a:Nat}(ha:a<73):(eD C root a).aT<=root.aT:=by
 by_cases h0:a=0
 ·subst h0;exact aG _
 ·have h1:=T.aT a ae ha;by_cases h9:a<9
  ·unfold Br at h1;rw[bo h9]at h1;exact h1
  ·unfold Br at h1;rw[aM h9]at h1;have h2:=T.aT (1+(a-9)/8) ae ae;unfold Br at h2;rw[bo ae]at h2;exact bN h1 h2
theorem OK(h:∀a,a<9->eD C root a≠hole->C'[(eD C root a).loc.toNat]?=C[(eD C root a).loc.toNat]?)(a:Nat)(ha:a<73):eD C' root a=eD C root a:=by
 have N:∀a,a<9->node8 C' (eD C root a)=node8 C (eD C root a):=λa h9=>by grind [eD,hole,kC,nk]
 have O:∀a,a<9->bF C' (eD C root a)=bF C (eD C root a):=λa h9=>by unfold bF;rw[N a h9]
 have e0:bF C' root=bF C root:=O 0 ae;by_cases h0:a=0
 ·subst h0;rfl
 ·by_cases h9:a<9
  ·have e:a=1+(a-1):=by omega
   grind [df]
  ·have e:a=9+(a-9):=by omega
   grind [eD,df,h7]
theorem eC.congr(T:eC C root)(h:∀p,gb C root p->C'[p.loc.toNat]?=C[p.loc.toNat]?):eC C' root/\(∀a,a<73->eD C' root a=eD C root a)/\(∀a,a<73->fE C' (eD C root a)=fE C (eD C root a)):=by
 have H:∀a,a<73->eD C root a≠hole->C'[(eD C root a).loc.toNat]?=C[(eD C root a).loc.toNat]?:=λa ha hh=>h _ ⟨hh,a,ha,rfl⟩;have E:=OK (C:=C) (C':=C') (root:=root) (λa h9=>H a ae);have B:∀a,a<73->fE C' (eD C root a)=fE C (eD C root a):=λa ha=>by grind [eD,hole,je,l2]
 refine⟨⟨T.pR,λa ha=>?_,λa h9 ha=>?_,λa h0 ha=>?_,λa b ha hb=>?_⟩,E,B⟩
 ·rw[E a ae];by_cases hh:eD C root a=hole
  ·grind [kC]
  ·rw[nk (H a ae hh)];exact T.node a ha
 ·rw[E a ha,B a ha];exact T.e5 a h9 ha
 ·rw[E a ha,E (Br a) (by grind [Br])];exact T.aT a h0 ha
 ·rw[E a ha,E b hb];exact T.inj a b ha hb
theorem gb.congr{p:au}(E:∀a,a<73->eD C' root a=eD C root a):gb C' root p↔gb C root p:=by grind [gb]
theorem PB(C:List cN):eC C hole:=by
 refine⟨gA,λa _=>?_,λa _ _=>?_,λa _ _=>?_,λa b _ _ _ hn=>absurd (kV C a) hn⟩
 ·rw[kV,kC];rfl
 ·rw[kV,je];rfl
 ·simp[kV]
theorem An(C:List cN)(p:au):¬gb C hole p:=λ⟨hn,a,_,h⟩=>hn (by grind [kV])
theorem Qb{C:List cN}{i st sm:Nat}{L:List au}(hi:4<=i)(hc:C[i]?=some (bL L))(hl:κ L=8)(hw:∀x∈L,x.wf)(hg:jz L=true)(aa:sm=dO (bL L)):node8 C ⟨(i:Int),st,sm⟩=some L:=by
 have hh:(⟨(i:Int),st,sm⟩:au)≠hole:=λe=>by have:(i:Int)=0:=cb au.loc e;omega
 obtain⟨hlt,ad⟩:=List.getElem?_eq_some_iff.mp hc;have hb:fE C ⟨(i:Int),st,sm⟩=some (bL L):=by unfold fE;simp_all
 grind [node8,rj,xx]
theorem Wy{C:List cN}{i st sm:Nat}{b:cN}(hi:4<=i)(hc:C[i]?=some b)(aa:sm=dO b):fE C ⟨(i:Int),st,sm⟩=some b:=by
 have hh:(⟨(i:Int),st,sm⟩:au)≠hole:=λe=>by have:(i:Int)=0:=cb au.loc e;omega
 unfold fE;simp_all
end
def rP(C:List cN)(root:au)(i:Nat)(t m b:au)(a:Nat):au:=if a=0 then t else if a=1+i/8 then m else if a=9+i then b else eD C root a
structure zw(C C':List cN)(root:au)(i st:Nat)(t m b:au):Prop where
 at_:∀a,a<73->eD C' t a=rP C root i t m b a
 node:∀a,a<9->(node8 C' (rP C root i t m b a)).isSome=true
 e5:(fE C' b).isSome=true
 Ew:∀p,gb C root p->C'[p.loc.toNat]?=C[p.loc.toNat]?
 pR:t.wf/\cw t=true
 nt:t≠hole->t.aT=st/\¬gb C root t
 nm:m≠hole->m.aT=st/\¬gb C root m
 nb:b≠hole->b.aT=st/\¬gb C root b
 hm:t=hole->m=hole
 hb:m=hole->b=hole
 tm:t≠hole->t≠m
 tb:t≠hole->t≠b
 mb:m≠hole->m≠b
 top:t=hole->∀a,a<73->a≠0->a≠1+i/8->a≠9+i->eD C root a=hole
 mid:m=hole->∀a,9<=a->a<73->(a-9)/8=i/8->a≠9+i->eD C root a=hole
section
variable {C C':List cN} {root t m b:au} {i st:Nat}
theorem zw.tree(U:zw C C' root i st t m b)(T:eC C root)(hi:i<64)(aE:∀p,gb C root p->p.aT<=st):eC C' t:=by
 have B:∀a,a<73->(eD C root a).aT<=st:=λa ha=>by
  by_cases h:eD C root a=hole
  ·rw[h];exact bE _
  ·exact aE _ ⟨h,a,ha,rfl⟩
 have aa:hole.aT=0:=rfl;refine⟨U.pR,λa ha=>?_,λa h9 ha=>?_,λa h0 ha=>?_,λa c ha hc e hn=>?_⟩
 ·rw[U.at_ a ae];exact U.node a ha
 ·rw[U.at_ a ha];unfold rP;rw[aM ae,aM ae];split
  ·exact U.e5
  ·by_cases h:eD C root a=hole
   ·grind [je]
   ·rw[l2 (U.Ew _ ⟨h,a,ha,rfl⟩)];exact T.e5 a h9 ha
 ·rw[U.at_ a ha,U.at_ (Br a) (by grind [Br])];by_cases hu:rP C root i t m b a=hole
  ·simp_all
  have ht:t≠hole:=λe=>by
   apply hu;unfold rP;rw[aM ae];split
   ·exact U.hm e
   ·split
    ·exact U.hb (U.hm e)
    ·exact U.top e a ha ae ae ae
  have le:(rP C root i t m b a).aT<=st:=by
   unfold rP at hu ⊢;rw[aM ae]at hu ⊢;split at hu
   ·rename_i h;rw[bo h];exact Nat.le_of_eq (U.nm hu).1
   ·rename_i h;rw[aM h];split at hu
    ·rename_i h;rw[bo h];exact Nat.le_of_eq (U.nb hu).1
    ·simp_all
  by_cases h9:a<9
  ·have e:Br a=0:=bo h9;rw[e,show rP C root i t m b 0=t from bo rfl,(U.nt ht).1];exact le
  ·have e:Br a=1+(a-9)/8:=aM h9;rw[e];by_cases hq:(a-9)/8=i/8
   ·have e2:rP C root i t m b (1+(a-9)/8)=m:=by grind [rP]
    have hm:m≠hole:=λe3=>by
     apply hu;unfold rP;rw[aM ae,aM ae];split
     ·exact U.hb e3
     ·exact U.mid e3 a ae ha hq ae
    rw[e2,(U.nm hm).1];exact le
   ·have e2:rP C root i t m b (1+(a-9)/8)=eD C root (1+(a-9)/8):=by grind [rP]
    have e3:rP C root i t m b a=eD C root a:=by grind [rP]
    rw[e2,e3];have:=T.aT a h0 ha;simp_all
 ·rw[U.at_ a ha]at e hn;rw[U.at_ c hc]at e;have I:∀a,a<73->a≠0->a≠1+i/8->a≠9+i->eD C root a≠hole->gb C root (eD C root a):=λa ha _ _ _ h=>⟨h,a,ha,rfl⟩;obtain⟨J,It,Im,Ib,h1,h2⟩:=qA (T.inj a c ha hc) U.nt U.nm U.nb U.tm U.tb;have h3:=U.mb;grind [rP]
theorem zw.mem(U:zw C C' root i st t m b)(T:eC C root)(hi:i<64)(p:au):gb C' t p↔p≠hole/\(p=t\/p=m\/p=b\/(gb C root p/\p≠root/\p≠eD C root (1+i/8)/\p≠eD C root (9+i))):=by
 constructor
 ·rintro⟨hn,a,ha,e⟩;rw[U.at_ a ha]at e;refine⟨hn,?_⟩;by_cases h0:a=0
  ·subst h0;exact .inl (e.symm.trans (bo rfl))
  by_cases h1:a=1+i/8
  ·grind [rP]
  by_cases h2:a=9+i
  ·grind [rP]
  have e3:eD C root a=p:=by grind [rP]
  refine .inr (.inr (.inr ⟨⟨hn,a,ha,e3⟩,λe4=>h0 ?_,λe4=>h1 ?_,λe4=>h2 ?_⟩))
  ·exact T.inj a 0 ha ae (e3.trans e4) aa
  ·exact T.inj a _ ha ae (e3.trans e4) aa
  ·exact T.inj a _ ha ae (e3.trans e4) aa
 ·rintro⟨hn,h⟩;refine⟨hn,?_⟩;rcases h with rfl|rfl|rfl|⟨⟨_,a,ha,e⟩,n0,n1,n2⟩
  ·exact⟨0,ae,rfl⟩
  ·exact⟨1+i/8,ae,by rw[U.at_ _ ae];unfold rP;rw[aM ae,bo rfl]⟩
  ·exact⟨9+i,ae,by rw[U.at_ _ ae];unfold rP;rw[aM ae,aM ae,bo rfl]⟩
  ·refine⟨a,ha,?_⟩;rw[U.at_ a ha];unfold rP;rw[aM (λe0=>n0 (by rw[<-e,e0];rfl)),aM (λe0=>n1 aa),aM (λe0=>n2 aa)];exact e
theorem zw.read(U:zw C C' root i st t m b)(hi:i<64){j:Nat}(hj:j<64):fE C' (eD C' t (9+j))=if j=i then fE C' b else fE C (eD C root (9+j)):=by
 rw[U.at_ _ ae];unfold rP;rw[aM ae,aM ae];by_cases h:j=i
 ·simp_all
 ·rw[aM ae,aM h];by_cases hh:eD C root (9+j)=hole
  ·grind [je]
  ·exact l2 (U.Ew _ ⟨hh,_,ae,rfl⟩)
end
structure jw(P:bu)(root:au):Prop where
 ok:eC P.C root
 tk:∀p,gb P.C root p->P.s p.loc.toNat=2
structure oi(P:bu):Prop where
 free:∀j,P.s j=1->4<=j/\j<κ P.C
 len:κ P.C<=1024
 st:1<=P.st/\P.st<=281474976710655
theorem kF{l:List au}(hk:k<κ l)(p:au)(j:Nat):a6 (l.set k p) j=if j=k then p else a6 l j:=by grind [a6]
theorem jQ{l:List au}(hl:κ l=8)(h:fT l=true)(k:Nat):a6 l k=hole:=by have:l=dK:=iy h;rw[this,gP]
section
variable {P:bu} {root:au} {i:Nat}
theorem new_ne{p:au}(I:jw P root){k:Nat}(hk:P.s k=1)(h:gb P.C root p):p.loc.toNat≠k:=λe=>by have:=I.tk p h;rw[e,hk]at this;omega
theorem UT{k st sm:Nat}(h4:4<=k):(⟨(k:Int),st,sm⟩:au)≠hole:=λe=>by have:(k:Int)=0:=cb au.loc e;omega
theorem Xq(I:jw P root){k st sm:Nat}(hk:P.s k=1):¬gb P.C root ⟨(k:Int),st,sm⟩:=λh=>by have:=new_ne I hk h;exact this (Abq k)
theorem r8(C:List cN)(root:au){i a:Nat}(h9:9<=a)(ha:a<73)(hq:(a-9)/8=i/8):eD C root a=a6 (bF C (a6 (bF C root) (i/8))) ((a-9)%8):=by have:=h7 C root (i:=a-9) ae;grind [df]
theorem XP(I:jw P root)(K:oi P)(hi:i<64)(b:cN){i1 i2 i3:Nat}(h1:P.s i1=1)(h2:e7 P.s i1 2 i2=1)(h3:e7 (e7 P.s i1 2) i2 2 i3=1){F S F' S':List au}(hF:F=bF P.C root)(hS:S=bF P.C (a6 F (i/8))){p1 p2 p3:au}(e1:p1=⟨(i1:Int),P.st,dO b⟩)(eS:S'=S.set (i%8) p1)(e2:p2=⟨(i2:Int),P.st,dO (bL S')⟩)(eF:F'=F.set (i/8) p2)(e3:p3=⟨(i3:Int),P.st,dO (bL F')⟩):zw P.C (((P.put i1 b).put i2 (bL S')).put i3 (bL F')).C root i P.st p3 p2 p1/\i1≠i2/\i1≠i3/\i2≠i3/\P.s i2=1/\P.s i3=1/\fE (((P.put i1 b).put i2 (bL S')).put i3 (bL F')).C p1=some b:=by
 have n12:i1≠i2:=λe=>Tz
 have s2:P.s i2=1:=by grind [e7]
 have n23:i2≠i3:=λe=>by unfold e7 at h3;rw[bo e.symm]at h3;omega
 have n13:i1≠i3:=λe=>by unfold e7 at h3;rw[aM (λe2=>n23 e2.symm),bo e.symm]at h3;omega
 have s3:P.s i3=1:=by grind [e7]
 obtain⟨a1,b1⟩:=K.free i1 h1;obtain⟨a2,b2⟩:=K.free i2 s2;obtain⟨a3,b3⟩:=K.free i3 s3;have hl:=K.len;obtain⟨C',ad⟩:∃C',C'=(((P.put i1 b).put i2 (bL S')).put i3 (bL F')).C:=⟨_,rfl⟩;have hC:C'=((P.C.set i1 b).set i2 (bL S')).set i3 (bL F'):=ad;have c1:C'[i1]?=some b:=aQ
 have c2:C'[i2]?=some (bL S'):=aQ
 have c3:C'[i3]?=some (bL F'):=aQ
 have co:∀k,k≠i1->k≠i2->k≠i3->C'[k]?=P.C[k]?:=λk x1 x2 x3=>aQ
 rw[<-ad];clear hC ad;have g1:=h5 a1 ae K.st.1 K.st.2 b;have g2:=h5 a2 ae K.st.1 K.st.2 (bL S');have g3:=h5 a3 ae K.st.1 K.st.2 (bL F');rw[<-e1]at g1;rw[<-e2]at g2;rw[<-e3]at g3;refine Kp ?_;intro lF nS lS nF;obtain⟨gS,gF⟩:=aA (ff (fW nS) g1 (i%8)) (ff (fW nF) g2 (i/8));rw[<-eS]at gS;rw[<-eF]at gF;have ag:κ S'=8:=aa
 have ab:κ F'=8:=aa
 have N3:node8 C' p3=some F':=ux
 have N2:node8 C' p2=some S':=ux
 have B1:fE C' p1=some b:=by grind [Wy]
 have Ew:∀p,gb P.C root p->C'[p.loc.toNat]?=P.C[p.loc.toNat]?:=λp hp=>co _ (new_ne I h1 hp) (new_ne I s2 hp) (new_ne I s3 hp);refine NG ?_;intro NK A1;have A:∀a,a<73->eD C' p3 a=rP P.C root i p3 p2 p1 a:=λa ha=>by exact Ut
 have aR:p1≠hole:=lu
 have av:p2≠hole:=lu
 have al:p3≠hole:=lu
 refine⟨⟨A,λa ha=>?_,aa,Ew,g3,λ_=>⟨aa,q2⟩,λ_=>⟨aa,q2⟩,λ_=>⟨aa,q2⟩,λh=>absurd h al,λh=>absurd h av,λ_ e=>?_,λ_ e=>?_,λ_ e=>?_,λh=>absurd h al,λh=>absurd h av⟩,n12,n13,n23,s2,s3,B1⟩
 ·exact TV
 ·grind
 ·grind
 ·grind
theorem Q9(I:jw P root)(K:oi P)(hi:i<64){i1 i2:Nat}(h1:P.s i1=1)(h2:e7 P.s i1 2 i2=1){F S F' S':List au}(hF:F=bF P.C root)(hS:S=bF P.C (a6 F (i/8))){p2 p3:au}(eS:S'=S.set (i%8) hole)(e2:p2=⟨(i1:Int),P.st,dO (bL S')⟩)(eF:F'=F.set (i/8) p2)(e3:p3=⟨(i2:Int),P.st,dO (bL F')⟩):zw P.C ((P.put i1 (bL S')).put i2 (bL F')).C root i P.st p3 p2 hole/\i1≠i2/\P.s i2=1:=by
 have n12:i1≠i2:=λe=>Tz
 have s2:P.s i2=1:=by grind [e7]
 obtain⟨a1,b1⟩:=K.free i1 h1;obtain⟨a2,b2⟩:=K.free i2 s2;have hl:=K.len;obtain⟨C',ad⟩:∃C',C'=((P.put i1 (bL S')).put i2 (bL F')).C:=⟨_,rfl⟩;have hC:C'=(P.C.set i1 (bL S')).set i2 (bL F'):=ad;have c2:C'[i1]?=some (bL S'):=aQ
 have c3:C'[i2]?=some (bL F'):=aQ
 have co:∀k,k≠i1->k≠i2->C'[k]?=P.C[k]?:=λk x1 x2=>aQ
 rw[<-ad];clear hC ad;have g2:=h5 a1 ae K.st.1 K.st.2 (bL S');have g3:=h5 a2 ae K.st.1 K.st.2 (bL F');rw[<-e2]at g2;rw[<-e3]at g3;refine Kp ?_;intro lF nS lS nF;obtain⟨gS,gF⟩:=aA (ff (fW nS) gA (i%8)) (ff (fW nF) g2 (i/8));rw[<-eS]at gS;rw[<-eF]at gF;have ag:κ S'=8:=aa
 have ab:κ F'=8:=aa
 have N3:node8 C' p3=some F':=ux
 have N2:node8 C' p2=some S':=ux
 have Ew:∀p,gb P.C root p->C'[p.loc.toNat]?=P.C[p.loc.toNat]?:=λp hp=>co _ (new_ne I h1 hp) (new_ne I s2 hp);refine NG ?_;intro NK A1;have A:∀a,a<73->eD C' p3 a=rP P.C root i p3 p2 hole a:=λa ha=>by exact Ut
 have av:p2≠hole:=lu
 have al:p3≠hole:=lu
 refine⟨⟨A,λa ha=>?_,ay,Ew,g3,λ_=>⟨aa,q2⟩,λ_=>⟨aa,q2⟩,λh=>absurd rfl h,λh=>absurd h al,λh=>absurd h av,λ_ e=>?_,λh=>h,λh=>h,λh=>absurd h al,λh=>absurd h av⟩,n12,s2⟩
 ·exact TV
 ·grind
theorem Q8(I:jw P root)(K:oi P)(hi:i<64){i1:Nat}(h1:P.s i1=1){F S F':List au}(hF:F=bF P.C root)(hS:S=bF P.C (a6 F (i/8))){p3:au}(eS:fT (S.set (i%8) hole)=true)(eF:F'=F.set (i/8) hole)(e3:p3=⟨(i1:Int),P.st,dO (bL F')⟩):zw P.C (P.put i1 (bL F')).C root i P.st p3 hole hole:=by
 obtain⟨a1,b1⟩:=K.free i1 h1;have hl:=K.len;obtain⟨C',ad⟩:∃C',C'=(P.put i1 (bL F')).C:=⟨_,rfl⟩;have hC:C'=P.C.set i1 (bL F'):=ad;have c3:C'[i1]?=some (bL F'):=aQ
 have co:∀k,k≠i1->C'[k]?=P.C[k]?:=λk x1=>aQ
 rw[<-ad];clear hC ad;have g3:=h5 a1 ae K.st.1 K.st.2 (bL F');rw[<-e3]at g3;refine Kp ?_;intro lF nS lS nF;have gF:=ff (fW nF) gA (i/8);rw[<-eF]at gF;have N3:node8 C' p3=some F':=ux
 have Ew:∀p,gb P.C root p->C'[p.loc.toNat]?=P.C[p.loc.toNat]?:=λp hp=>co _ (new_ne I h1 hp);have NK:∀k,k<8->node8 C' (a6 F k)=node8 P.C (a6 F k):=λk hk=>by exact Mx
 have HS:∀j,j≠i%8->a6 S j=hole:=λj hj=>by have:=jQ ab eS j;grind [kF]
 have A1:∀k,k<8->eD C' p3 (1+k)=if k=i/8 then hole else a6 F k:=λk hk=>by grind [df,oT,kF]
 have ag:∀a,9<=a->a<73->(a-9)/8=i/8->a≠9+i->eD P.C root a=hole:=λa h9 ha hq hr=>by grind [r8]
 have A:∀a,a<73->eD C' p3 a=rP P.C root i p3 hole hole a:=λa ha=>by
  unfold rP;by_cases h0:a=0
  ·rw[bo h0,h0];rfl
  rw[aM h0];by_cases h9:a<9
  ·have:=A1 (a-1) ae;grind [df]
  ·have:=h7 C' p3 (i:=a-9) ae;grind [kD,gP,h7,df,bF]
 have al:p3≠hole:=lu
 refine⟨A,λa ha=>?_,ay,Ew,g3,λ_=>⟨aa,q2⟩,λh=>absurd rfl h,λh=>absurd rfl h,λh=>absurd h al,λh=>h,λh=>h,λh=>h,λh=>absurd rfl h,λh=>absurd h al,λ_=>ag⟩;unfold rP;by_cases h0:a=0
 ·simp_all
 rw[aM h0];by_cases hq:a=1+i/8
 ·grind [kC]
 rw[aM hq,aM ae];have e:=df P.C root (k:=a-1) ae;rw[show 1+(a-1)=a from ae,<-hF]at e;rw[e,NK _ ae,<-e];exact I.ok.node a ha
theorem Q7(I:jw P root)(hi:i<64){F S:List au}(hF:F=bF P.C root)(hS:S=bF P.C (a6 F (i/8)))(eS:fT (S.set (i%8) hole)=true)(eF:fT (F.set (i/8) hole)=true):zw P.C P.C root i P.st hole hole hole:=by
 have lF:κ F=8:=by rw[hF];exact uP I.ok
 have nS:=I.ok.S (k:=i/8) ae;rw[<-hF,<-hS]at nS;have lS:κ S=8:=cH nS;have HS:∀j,j≠i%8->a6 S j=hole:=λj hj=>by have:=jQ ab eS j;grind [kF]
 have HF:∀j,j≠i/8->a6 F j=hole:=λj hj=>by have:=jQ ab eF j;grind [kF]
 have ag:∀a,9<=a->a<73->(a-9)/8=i/8->a≠9+i->eD P.C root a=hole:=λa h9 ha hq hr=>by grind [r8]
 have aa:∀a,a<73->a≠0->a≠1+i/8->a≠9+i->eD P.C root a=hole:=λa ha h0 h1 h2=>by
  by_cases h9:a<9
  ·have e:=df P.C root (k:=a-1) ae;grind
  ·by_cases hq:(a-9)/8=i/8
   ·simp_all
   ·have e:=h7 P.C root (i:=a-9) ae;grind [df,kD,gP]
 have A:∀a,a<73->rP P.C root i hole hole hole a=hole:=λa ha=>by grind [rP]
 refine⟨λa ha=>by grind [kV],λa ha=>by grind [kC],ay,λ_ _=>rfl,gA,λh=>absurd rfl h,λh=>absurd rfl h,λh=>absurd rfl h,λh=>h,λh=>h,λh=>h,λh=>h,λh=>h,λ_=>aa,λ_=>ag⟩
end
section
variable {P:bx} {ops:Array Abn} {S:af->Prop} {md:Ab0} {Q:Exit->Act->af->Prop} {t1 t2:Aab} {C1 C2:Array ah} {Ok:Nat->Prop} {r:Nat} {x:af} {o o1 o2:Abn}
end
section
open Go.Maps
abbrev py:=au × Bool
def Ck(x:py):Array ah:=#[.int .i64 x.1.loc,.int .u64 (x.1.aT:Int),.int .u32 (x.1.sum:Int),.bool x.2]
theorem Xo(x:py):(Ck x).all (·.oneCell')=true:=by simp[Ck,Ac8]
theorem vB:∀W:af,(Ab9 134).run Aag W=.ok (.agg (Ck (hole,false))) W:=by simp[Ck,hole]
theorem Sf(q:au)(b:Bool):prog.built 134 [(0,.agg (be q)),(1,.bool b)]=some (Ck (q,b)):=av
abbrev RV:=Int × Int × Int × Bool
def ZO(c:RV):Array ah:=#[.int .i64 c.1,.int .u64 c.2.1,.int .u32 c.2.2.1,.bool c.2.2.2]
def z6(c:RV):DataW Unit:=.agg [.lit (.int .i64 c.1),.lit (.int .u64 c.2.1),.lit (.int .u32 c.2.2.1),.lit (.bool c.2.2.2)]
def BB(x:py):RV:=(x.1.loc,((x.1.aT:Int),((x.1.sum:Int),x.2)))
def RM:ah->Option (DataW Unit × List MemPlace)
 | .agg ⟨[.int .i64 a,.int .u64 b,.int .u32 c,.bool d]⟩=>some (z6 (a,b,c,d),[])
 | _=>none
theorem D4{v:ah}{y:DataW Unit × List MemPlace}(h:RM v=some y):∃c,v=.agg (ZO c)/\y=(z6 c,[]):=by
 unfold RM at h;split at h
 ·cases h;exact⟨(_,_,_,_),rfl,rfl⟩
 ·cases h
theorem z7{c d:RV}(h:z6 c=z6 d):c=d:=by grind [z6]
def nV:Keyed Aag 3:=int_keyed underlying3
theorem Zm{i:Int}(h:0<=i/\i<=4096):(Lit.int .i64 i).wf=true:=WalkArith.wf_i64 ae
def EE{i:Int}(h:0<=i/\i<=4096):keyOf Aag 3 (.int .i64 i)=some (.int .i64 i):=keyOf_int_mk underlying3 (Zm h)
theorem HS(j:Int):WideAt.IsKeyLit (.int .i64 j):=by unfold WideAt.IsKeyLit;trivial
structure Marks(w:af)(b n:Nat)(L:List py):Prop where
 nd:(L.map (·.1.loc)).Nodup
 rg:∀x∈L,0<=x.1.loc/\x.1.loc<=4096
 ex:∃D:DataW Unit,w.ownsMap Aag 3 RM b n D/\(∀i:Int,has D (.int .i64 i)=decide (∃x∈L,x.1.loc=i))/\∀x∈L,∀zd,D.atKey (.int .i64 x.1.loc) zd=z6 (BB x)
section
variable {w w':af} {b n:Nat} {L:List py}
theorem Marks.made(w:af):Marks (w.alloc (.map #[] 0)) w.heap.size 0 []:=⟨Ab6,aq,.map [],E6 w _ _ _,λi=>ay,aq⟩
theorem Marks.lt(h:Marks w b n L):b<w.heap.size:=by obtain⟨D,h,_⟩:=h.ex;exact h.lt
theorem Marks.heap(h:Marks w b n L)(e:w'.heap[b]?=w.heap[b]?):Marks w' b n L:=by obtain⟨D,⟨es,clock,hb,F,hs,hD⟩,h1,h2⟩:=h.ex;exact⟨h.nd,h.rg,D,⟨es,clock,e.trans hb,F,hs,hD⟩,h1,h2⟩
theorem Marks.az{F:Nat->Prop}(h:Marks w b n L)(T:Touch F w w')(hF:¬F b):Marks w' b n L:=h.heap (T.block b h.lt hF)
def Marks.up(h:Marks w b n L)(u:Up w w'):Marks w' b n L:=h.heap (oA u b h.lt)
theorem Marks.map(h:Marks w b n L):∃es c,w.heap[b]?=some (.map es c):=by obtain⟨D,⟨es,clock,hb,_⟩,_⟩:=h.ex;simp_all
theorem Marks.mono{n':Nat}(h:Marks w b n L)(hn:n<=n'):Marks w b n' L:=by obtain⟨D,ho,h1,h2⟩:=h.ex;exact⟨h.nd,h.rg,D,ho.mono hn,h1,h2⟩
theorem UI{w:af}{g:Nat}{t:Aab}{x:py}(h:aH w g t (Ck x)):w.rangeAt g 0 (be x.1).toList:=λj v hj=>by
 rw[h.cell,Abr];match j,hj with
 | 0,hj=>exact hj
 | 1,hj=>exact hj
 | 2,hj=>exact hj
 | (k+3),hj=>simp[be]at hj
theorem Marks.add(h:Marks w b n L)(hn:n<maxLen)(q:py)(hq:∀x∈L,x.1.loc≠q.1.loc)(hr:0<=q.1.loc/\q.1.loc<=4096):∃w',(Instr.mapUpdate 129 (.map (some b)) (.int .i64 q.1.loc) (.agg (Ck q))).run Aag w=.ok () w'/\Marks w' b (n+1) (L++[q])/\w.grownBy w' (some b):=by
 obtain⟨D,ho,h1,h2⟩:=h.ex;obtain⟨w',ar,av,hg⟩:=ho.update nV underlying129 hn (EE hr) (val:=.agg (Ck q)) (d:=z6 (BB q)) (ps:=[]) rfl;have ne:∀i:Int,i≠q.1.loc->(Lit.int .i64 i)≠.int .i64 q.1.loc:=λi hi e=>hi aa;refine⟨w',ar,⟨?_,?_,_,av,λi=>?_,λx hx zd=>?_⟩,hg⟩
 ·rw[Aao];refine List.nodup_append.mpr ⟨h.nd,aq,λa ha c hc e=>?_⟩;grind
 ·intro x hx;rcases List.mem_append.mp hx with h3|h3
  ·exact h.rg x h3
  ·simp_all
 ·by_cases e:i=q.1.loc
  ·subst e;rw[has_put_same ho.isMap (HS _)];simp
  ·rw[has_put_other (ne i e),h1 i];simp;omega
 ·rcases List.mem_append.mp hx with h3|h3
  ·rw[atKey_put_other (ne _ (hq x h3)),h2 x h3]
  ·rw[show x=q from aa];exact atKey_put_same ho.isMap (HS _) _ _
variable {ops:Array Abn} {rest:List Abn} {o:Abn} {a:Act} {Q:Exit->Act->af->Prop}
theorem Ro(hg:o.guard=none)(m x:bO)(hop:o.op=Op.lookup 129 m x true)(hm:a.eval m=.map (some b))(h:Marks w b n L)(q:py)(hq:q∈L)(hx:a.eval x=i6 q.1.loc)(hK:Aak Aag ops Q rest (a.put o.dst (.tuple #[.agg (Ck q),.bool true])) w):Aak Aag ops Q (o::rest) a w:=by obtain⟨D,ho,h1,h2⟩:=h.ex;refine wpList_lookup_own_ok w hg m x _ hop _ _ nV underlying129 RM (vB w) (z6 (BB (hole,false))) [] rfl b n D hm ho _ _ hx (EE (h.rg q hq)) (λv ps hv=>?_);obtain⟨c,rfl,hc⟩:=D4 hv;rw[h2 q hq]at hc;simp only[Prod.mk.injEq]at hc;rw[<-z7 hc.1,h1,gD ⟨q,hq,rfl⟩];exact hK
theorem Rn(hg:o.guard=none)(m x:bO)(hop:o.op=Op.lookup 129 m x true)(hm:a.eval m=.map (some b))(h:Marks w b n L)(i:Int)(hi:0<=i/\i<=4096)(hn:∀x∈L,x.1.loc≠i)(hx:a.eval x=.int .i64 i)(hK:Aak Aag ops Q rest (a.put o.dst (.tuple #[.agg (Ck (hole,false)),.bool false])) w):Aak Aag ops Q (o::rest) a w:=by
 obtain⟨D,ho,h1,h2⟩:=h.ex;have hf:has D (.int .i64 i)=false:=aQ
 refine wpList_lookup_own_ok w hg m x _ hop _ _ nV underlying129 RM (vB w) (z6 (BB (hole,false))) [] rfl b n D hm ho _ _ hx (EE hi) (λv ps hv=>?_);obtain⟨c,rfl,hc⟩:=D4 hv;rw[atKey_of_not_has hf]at hc;simp only[Prod.mk.injEq]at hc;rw[<-z7 hc.1,hf];exact hK
theorem Ye(hg:o.guard=none)(m x v:bO)(hop:o.op=Op.mapUpdate 129 m x v)(hm:a.eval m=.map (some b))(h:Marks w b n L)(hn:n<maxLen)(q:py)(hq:∀x∈L,x.1.loc≠q.1.loc)(hr:0<=q.1.loc/\q.1.loc<=4096)(hx:a.eval x=i6 q.1.loc)(hv:a.eval v=.agg (Ck q))(hK:∀w',Marks w' b (n+1) (L++[q])->w.grownBy w' (some b)->Aak Aag ops Q rest (a.put o.dst Aar) w'):Aak Aag ops Q (o::rest) a w:=by refine gZ hg λK' hK'=>?_;obtain⟨w',hrun,r1,r2⟩:=h.add hn q hq hr;exact Nl
end
def ng(own:Bool)(L:List py)(q:au):List py:=if ∃x∈L,x.1.loc=q.loc then L else L++[(q,own)]
def h3(own:Bool)(L:List py)(ps:List au):List py:=ps.foldl (ng own) L
theorem H2(own:Bool)(L:List py)(ps:List au)(q:au):h3 own L (ps++[q])=ng own (h3 own L ps) q:=by simp[h3]
theorem oN{own:Bool}:∀{ps:List au}{L:List py}{x:py},x∈h3 own L ps->x∈L\/(x.1∈ps/\x.2=own)
 | [],_,_,h=>.inl h
 | q::ps,L,x,h=>by
  rcases oN (ps:=ps) (L:=ng own L q) h with h|⟨h,h2⟩
  ·unfold ng at h;split at h
   ·exact .inl h
   ·rcases List.mem_append.mp h with h|h
    ·exact .inl h
    ·have:x=(q,own):=by simpa using h
     rw[this];exact .inr ⟨aq,rfl⟩
  ·exact .inr ⟨bt _ h,h2⟩
theorem kZ{own:Bool}:∀{ps:List au}{L:List py}{x:py},x∈L->x∈h3 own L ps
 | [],_,_,h=>h
 | q::ps,L,x,h=>kZ (ps:=ps) (L:=ng own L q) (by unfold ng;split;exact h;exact oG _ h)
theorem sP{own:Bool}:∀{ps:List au}{L:List py}{q:au},q∈ps->∃x∈h3 own L ps,x.1.loc=q.loc
 | p::ps,L,q,h=>by
  rcases List.mem_cons.mp h with rfl|h
  ·by_cases hc:∃x∈L,x.1.loc=q.loc
   ·obtain⟨x,hx,e⟩:=hc;exact⟨x,kZ (ps:=q::ps) hx,e⟩
   ·have:(q,own)∈ng own L q:=by unfold ng;rw[aM hc];simp
    exact⟨(q,own),kZ (ps:=ps) this,rfl⟩
  ·exact sP (ps:=ps) (L:=ng own L p) h
structure RO(L:List py)(ps:List au):Prop where
 old:∀x∈L,∀q∈ps,x.1.loc=q.loc->x.1=q
 new:∀p∈ps,∀q∈ps,p.loc=q.loc->p=q
 rg:∀q∈ps,0<=q.loc/\q.loc<=4096
theorem RO.at{L:List py}{ps:List au}(F:RO L ps){own:Bool}(hk:k<κ ps){x:py}(hx:x∈h3 own L (ps.take k))(e:x.1.loc=ps[k].loc):x.1=ps[k]:=by
 rcases oN hx with h|⟨h,_⟩
 ·exact F.old x h _ (cJ hk) e
 ·exact F.new _ (sA h) _ (cJ hk) e
end
section
open Go.Maps
theorem DC(w:af)(b n:Nat)(L:List py)(A:Marks w b n L)(v:ah)(ps:List au)(hv:cX w v ps)(hn:n+κ ps<=1000000)(F:RO L ps)(own:Bool):Aae Aag 59 #[.map (some b),v,.bool own] w λe w'=>e=.returned (.bool false)/\Marks w' b (n+κ ps) (h3 own L ps)/\Touch (·=b) w w':=by
 obtain⟨a,cap,rfl⟩:=hv.slice;obtain⟨HA,HV,HF,HN⟩:=bR A hv F hn;have aU:κ ps<=1000000:=ae
 clear A hv F hn;go_in;go_wp2_with fail;go_loopw [7,14] (λtw i wr=>∃k:Nat,k<=κ ps/\i=.int .i64 k/\tw=.bool false/\Marks wr b (n+k) (h3 own L (ps.take k))/\Touch (·=b) w wr) (λ_ i _=>κ ps-(Aat i).toNat)
 case atStart=>exact⟨0,bE _,rfl,rfl,HA,Touch.refl _ _⟩
 case round=>
  obtain⟨k,hk,rfl,rfl,mr,tr⟩:=hrel;obtain⟨MR,TR⟩:=aw mr tr;clear mr tr;by_cases hlt:k<κ ps
  ·have b3:((k:Int)<(κ ps:Int))=True:=by simp;omega
   have NB:=an (show ∀c,Aan (.slice a (κ ps) cap)=some c->c≠b from λc hc e=>by subst e;obtain⟨bb,off,rfl,hbs,_,hx⟩:=HV.range pw ae;have h0:=hx k hlt;obtain⟨es,cl,hb⟩:=HA.map;have:=h0 0 (.int .i64 ps[k].loc) rfl;simp only[Aan,Aai]at hc;subst hc;simp[Aco,hb]at this)
   obtain⟨bb,off,rfl,hbs,_,hc⟩:=(aI.tf HV TR (λc hc e=>NB c hc e)).range pw ae;obtain⟨RC,TK,FA,RG,UX,BX⟩:=im (hc k hlt) (show h3 own L (ps.take (k+1))=ng own (h3 own L (ps.take k)) ps[k] from by rw[en hlt,H2]) (λx (hx:x∈h3 own L (ps.take k)) (e:x.1.loc=ps[k].loc)=>HF.at hlt hx e) (HF.rg _ (cJ hlt)) (ai wr (.cells (be ps[k]) 87)) (aH.new wr 87 (be ps[k]));generalize ps[k]=q at *;generalize ak:h3 own L (ps.take k)=LL at *;have c0:(wr.alloc (.cells (be q) 87)).cell? ⟨wr.heap.size,0,none⟩=some (.int .i64 q.loc):=BX.cell 0;clear hc ak;by_cases hm:∃x∈LL,x.1.loc=q.loc
   ·obtain⟨x,hx,aj⟩:=hm;have ag:=FA x hx aj;obtain⟨q',aa⟩:=x;have ag:q'=q:=ag;subst ag;obtain⟨HX,TM,MX,UY,BY⟩:=eI hx (show ng own LL q'=LL from by unfold ng;rw[bo ⟨_,hx,rfl⟩]) (MR.up UX) (ai (wr.alloc (.cells (be q') 87)) (.cells (Ck (q',aa)) 134)) (aH.new (wr.alloc (.cells (be q') 87)) 134 (Ck (q',aa)));have EQ:∀W:af,(Ack 10000 87 (.agg (be q')) (.agg (be q'))).run Aag W=.ok true W:=λW=>by have:=zf 9998 q' q' W;rw[gD rfl]at this;exact this
    obtain⟨w1,al⟩:=bK (wr.alloc (.cells (be q') 87));have ab:=an al;rw[<-al]at UX BX c0 MX UY BY;obtain⟨ad,SZ⟩:=aw (BX.up UY) (show w1.heap.size=wr.heap.size+1 from by rw[al,aL]);clear hx aj al;go_wp2_with(first
     | refine cK 87 16 (be q') RC ?_
     | refine bD 87 e8 ?_
     | refine ed 87 9 17 wr (be q') 87 (be hole) ?_
     | ((with_reducible refine vu 3 (.tmp 20) ?_);refine kS ?_))
    rw[<-ab.out];refine an ?_;go_wp2_with(first
     | (at_lookup;refine Ro rfl (.tmp 19) (.tmp 21) rfl rfl MX (q',aa) HX rfl ?_)
     | refine bD 134 vB ?_
     | refine ed 134 10 23 w1 (Ck (q',aa)) 134 (Ck (hole,false)) ?_
     | refine cK 87 33 (be q') (UI BY) ?_
     | refine cU 87 9 ad ?_)
    go_roundw
    case rel=>exact⟨k+1,ae,aq,rfl,by rw[TK.out,TM.out];exact(MX.up UY).mono ae,TR.iK (UX.trans UY)⟩
    case measure=>simp only[Aat];omega
   ·obtain⟨HX,TM,MX,UY⟩:=bR (show ∀x∈LL,x.1.loc≠q.loc from λx hx e=>hm ⟨x,hx,e⟩) (show ng own LL q=LL++[(q,own)] from by unfold ng;rw[aM hm]) (MR.up UX) (ai (wr.alloc (.cells (be q) 87)) (.cells (Ck (hole,false)) 134));obtain⟨w1,al⟩:=bK (wr.alloc (.cells (be q) 87));have ab:=an al;rw[<-al]at UX BX c0 MX UY;obtain⟨MY,ad,SZ,BM⟩:=bR (MX.up UY) (BX.up UY) (show w1.heap.size=wr.heap.size+1 from by rw[al,aL]) (Sf q own);have c1:=UY.cell c0;clear hm al;go_wp2_with(first
     | refine cK 87 16 (be q) RC ?_
     | refine bD 87 e8 ?_
     | refine ed 87 9 17 wr (be q) 87 (be hole) ?_
     | ((with_reducible refine vu 3 (.tmp 20) ?_);refine kS ?_))
    rw[<-ab.out];refine an ?_;go_wp2_with(first
     | (at_lookup;refine Rn rfl (.tmp 19) (.tmp 21) rfl rfl MX q.loc RG HX rfl ?_)
     | refine bD 134 vB ?_
     | refine ed 134 10 23 w1 (Ck (hole,false)) 134 (Ck (hole,false)) ?_
     | refine cU 87 9 ad ?_
     | ((with_reducible refine dI 134 #[(0,.tmp 30),(1,.tmp 31)] ?_);refine kK rfl 134 0 1 (.tmp 30) (.tmp 31) rfl _ _ (Ck (q,own)) BM rfl rfl ?_)
     | (at_mapUpdate;refine Ye rfl (.tmp 27) (.tmp 29) (.tmp 32) rfl rfl MY (by have:=HN.out;unfold maxLen;omega) (q,own) HX RG rfl rfl ?_))
    intro w7 m7 g7;obtain⟨M7,T7⟩:=aw m7 ((TR.iK (UX.trans UY)).trans (Touch.bg (F:=(·=b)) g7 (λkk ao=>by cases ao;rfl)) (λ_ h _=>h));clear m7 g7;go_wp2_with fail;go_roundw
    case rel=>exact⟨k+1,ae,aq,rfl,by rw[TK.out,TM.out];exact M7,T7⟩
    case measure=>simp only[Aat];omega
  ·obtain rfl:k=κ ps:=by omega
   have b3:((κ ps:Int)<(κ ps:Int))=False:=aq
   go_wp2_with fail;go_ret;have:=MR.out;rw[fx]at this;exact⟨rfl,this,TR⟩
end
end Go.Proofs.YtkpjfnbbkohciaaGreat
