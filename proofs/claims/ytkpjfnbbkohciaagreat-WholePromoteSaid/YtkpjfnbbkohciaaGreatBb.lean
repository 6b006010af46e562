import Derived.Test.YtkpjfnbbkohciaaGreatBa
set_option maxRecDepth 100000
set_option maxHeartbeats 16000000
set_option linter.all false
open Go renaming TypeId->Aab,Oper->Abi,Calls->Aaf,wpStill->Adq,wpList->Aam,zeroValue->Ab9,madeCells->Acu,execOp->Abt,yielded->Aaz,Ending->Ab3,undef->Aat,splice->Abz,YieldsIf->Ach,wpAnyH->Acp,ResultVar->Ac8
open List renaming mem_append->Aa3,length_set->Aax,take_zero->Abl,replicate->Aad,mem_map->Abb,append_nil->Ab4,takeWhile_cons->Ab7,length_append->Aae,range->Aal,cons_append->Aa2,range_succ->Ab0,map_append->Aao,append_assoc->Abe,mem_cons->Aak,size_toArray->Abj,length_cons->Aaj,length_nil->Aa5,push_toArray->Abk,append_toArray->Abc,nil_append->Aa0,length_map->Aac,drop_zero->Aaw,map_cons->Ab8,toList_toArray->Acz,getElem_map->Adl,drop_drop->Ac4,flatMap_cons->Abd,getElem_cons_zero->Aby,length->κ
open Go.Proofs.Tryz renaming prog->Aag,underlying60->Acr,underlying88->Aas,underlying30->Aau
open Go.Act renaming put->Aap
open Go.RowKit renaming intOf->Aaq
open Go.Value.slice renaming injEq->Abh
open Nat renaming zero_add->Abn
open Go.Instr renaming makeSlice->Aci,slice->Aav,sliceAt->Abq,sureAddr->Adg,index->Ac0
open Go.Oper renaming wp->Ace
open Go.Sem renaming run_bind->Aa1,run_pure->Ac7
open Go.Result renaming andThen_ok->Aay,andThen->Aar
open Go.Value renaming int->Acd,oneCell'->Ac9,ownBlock->Aan
open Go.Region renaming wanted->Aaa,ready->Abf,free->Adr,noSelect->Aa7,Mode->Ab1
open Go.Op renaming equalIn->Ac3
open Go.World renaming size_alloc->Aa4
open Bool renaming and_eq_true->Aa8,false_eq_true->Ab2,or_eq_true->Adk
open Array renaming replicate_succ->Aa9,replicate_zero->Aba,toList_setIfInBounds->Abo,getElem?_eq_none->Ade
open Go.Fence renaming wide->Abw
open Option.some renaming injEq->Aai
open Int renaming toNat_natCast->Abr
open Go.Utf8 renaming decode->Abu
open Go.ByteArray renaming toList_eq->Ado
open UInt8 renaming ofNat->Ab6
namespace Go.Proofs.YtkpjfnbbkohciaaGreat
open Go.Proofs.Tryz Go.RowKit Go.Sort
variable{base g i j k m n:Nat}{K:Act->af->Prop}{a:Act}{h:iM}{C:Array ah}{vp x:ah}{W w:af}{acc:List (List aj)}{Q:Exit->Act->af->Prop}{b r:List aj}{l:List au}{α:Type}{e t ty:Aab}{o:Abi}{P:bu}{ops:Array Abi}{E:List (Nat × Nat)}{p:au}
def bD.put(v:bD)(n:Nat)(s:cQ):bD:={v with bL:=v.bL++[⟨n,s⟩],cx:=v.cx.set n s}
def bD.written(v:bD)(i:Int)(s:cQ):bD:=if v.hasB i=true then(if v.hv=true then v.bb.eO.put i.toNat s else v.bb.eO)else v.bb
def bD.pr(v:bD)(i:Int):Int:=if v.hasB i=true then(if v.hv=true then 0 else 42)else 41
theorem pd(v:bD):v.eO.bL=v.bL/\v.eO.aR=v.aR/\v.eO.cx=v.cx:=by grind [bD.eO]
theorem Dv.push{w4 w6:af}{v:bD}{ob:Obj}(D:Dv w4 h v)(x:C0)(hx:x.loc<κ v.aR)(v':ah)(hown:ak qW 129 116 w6 0 v' (v.bL++[x]))(hg:(w4.alloc ob).grownBy w6 h.vp.ownBlock):Dv (w6.setCell ⟨h.d,2,none⟩ v') {h with vp:=v'} {v with bL:=v.bL++[x]}:=by
 have D5:=D.up (ai w4 ob);have aa:=D5.dev.grown hg (jd av D5.dev D5.bL);have hb1:=D5.b1.grown hg (jd av D5.b1 D5.bL);obtain⟨hb2,G⟩:=az (D5.b2.grown hg (jd av D5.b2 D5.bL)) (bX aa 2 v');refine⟨aa.setCell 2 v',hb1.grown G (λe=>D.yr (dC e)),hb2.grown G (λe=>D.tW (dC e)),D.len,D.max,D.ne,hown.kept G (.inr (jd av aa hown)),λy hy=>?_,D.ops,D.left⟩;rcases Aa3.1 hy with hy|hy
 ·exact D.AV y hy
 ·simp_all
theorem Dv.aal{w w':af}{v:bD}(D:Dv w h v)(n:Nat)(s:cQ)(hb:aI w' h.g2 60 (gz (v.cx.set n s)))(hg:w.grownBy w' (some h.g2)):Dv w' h {v with cx:=v.cx.set n s}:=⟨D.dev.grown hg (λe=>D.tW (dC e).symm),D.b1.grown hg (λe=>D.ne (dC e).symm),hb,by show(v.cx.set n s).length=_;rw[Aax];exact D.len,D.max,D.ne,D.bL.kept hg (.inr (jd av D.b2 D.bL)),D.AV,D.ops,D.left⟩
theorem Af(w:af)(h:iM)(v:bD)(D:Dv w h v)(i:Int)(hi:-9223372036854775808<=i/\i<=9223372036854775807)(s:cQ)(hr:κ v.bL<=1000000)(hb:v.hasB i=true)(aE:v.hv=true):Aaf Aag 217 #[pz h.d,i6 i,.agg (aD s.val)] w λe w'=>e=.returned (i6 (v.pr i))/\iY w h (v.written i s) w':=by
 have upa:=ai w (.cells (aD s.val) 60);obtain⟨aO,aV,CT,aC,HS⟩:=eQ (aI.new w 60 (aD s.val)) (D.up upa) (λW (DD:Dv W h v)=>v7 W h v DD) (λW (DD:Dv W h v.bb)=>Ea W h v.bb DD) (λW (DD:Dv W h v.bb)=>MT W h v.bb DD i hi);have HH:v.bb.hasB i=v.hasB i:=rfl;rw[HH]at HS;have HP:v.bb.hv=v.hv:=rfl;rw[HP]at aC;obtain⟨HL,HF,aT⟩:=aW (Touch.bV (F:=cK h) upa) (show ¬cK h w.heap.size from λhf=>ux _ (D.oG _ hf)) (nY v i);rw[hb]at HS;have aU:=aT.1 hb;obtain⟨n,rfl⟩:∃n:Nat,i=n:=⟨i.toNat,ae⟩;have aS:n<κ v.aR:=ae
 rw[aE]at aC;obtain⟨aN,E⟩:=aw (show v.bb.eO.bL=v.bL/\v.bb.eO.aR=v.aR/\v.bb.eO.cx=v.cx from pd v.bb) (show v.written n s=v.bb.eO.put n s/\v.pr n=0 by unfold bD.written bD.pr;rw[hb,aE];simp);clear hb aE aU;go_in;go_wp2_with fail;refine(CT _ aV).mono ?_;rintro e w2⟨rfl,D2,T2⟩;obtain⟨aQ,aa⟩:=aw D2 T2;go_wp2_with fail;refine(HS _ aQ).mono ?_;rintro e w3⟨rfl,rfl⟩;go_wp2_with fail;refine(aC _ aQ).mono ?_;rintro e w4⟨rfl,D4,T4⟩;obtain⟨aF,HB4,au⟩:=aW ((HL.trans aa (λn hn _=>hn)).trans T4 (λn hn _=>hn)) (((aO.ax aa HF)).ax T4 HF) D4;go_wp2;have fW:=(Up.refl w4).drew;obtain⟨D5,B5,T5⟩:=aW (au.up fW) (HB4.up fW) (aF.trans (Touch.bV (F:=cK h) fW) (λn hn _=>hn));obtain⟨pa,pc,ab⟩:=(D5.bL.row ww).slice;have ay:=an ab;have c2:=D5.cells.2.2.1;rw[ab]at c2;clear ab;refine wp_region_any al ?_;change wpAny _ _ _ _ 13 _ _ w4.drew;generalize w4.drew=w5 at *;refine yk 0 (pz h.d) rfl ?_;refine yk 1 (pz h.d) rfl ?_;refine yk 2 (pz h.d) rfl ?_;refine yk 3 (pq h.d 2) rfl ?_;refine yk 5 (i6 (n:Int)) rfl ?_;simp only[Aap,fL];have aP:=(ai w5 (.cells (j5 ⟨n,s⟩) 116)).cell c2;have aK:κ v.bb.eO.bL<=1000000:=by rw[aN.out.1];exact hr
 have ar:=ak.up D5.bL (ai w5 (.cells (j5 ⟨n,s⟩) 116));rw[ay.out]at ar;have RW:=aaB w5 w5.heap.size rfl ⟨n,s⟩;refine xa 4 6 _ _ al rfl rfl rfl rfl ?_ ?_;refine po 112 (.tmp 19) rfl ⟨h.d,2,none⟩ rfl _ c2 al ?_;refine iy 6 _ al rfl rfl ?_;refine N9 ?_;refine N' ?_;rotate_left;refine N9 ?_;refine xa 4 8 _ _ al rfl rfl rfl rfl ?_ ?_;refine po 112 (.tmp 19) rfl ⟨h.d,2,none⟩ rfl _ c2 al ?_;refine N' ?_;rotate_left;refine mI 112 116 (.tmp 23) rfl _ 129 136 (j5 ⟨n,s⟩) rfl underlying112 uj ae ae (oo _) ?_;refine iy 4 _ al rfl rfl ?_;refine po 112 (.tmp 19) rfl ⟨h.d,2,none⟩ rfl _ aP al ?_;all_goals
  simp only[Aap,fL];refine iy 9 _ al rfl rfl ?_;refine mH ww (.tmp 20) (.tmp 24) 112 rfl 0 116 _ 136 underlying112 uj (oo _) (.slice pa (κ v.bb.eO.bL) pc) v.bb.eO.bL rfl ar (cC w5.heap.size 1 1) [⟨n,s⟩] rfl RW ao ao (bG _) ?_;intro v' w6 aj aG _ aJ;refine yk 10 (pz h.d) rfl ?_;refine yk 11 (pq h.d 2) rfl ?_;simp only[Aap,fL];refine iy 12 _ al rfl rfl ?_;have az:=aG;rw[<-ay.out]at az aJ;have aL:=D5.up (ai w5 (.cells (j5 ⟨n,s⟩) 116));have aq:=aL.dev.grown az (jd av aL.dev aL.bL);obtain⟨D7,T7⟩:=aw (Dv.push D5 ⟨n,s⟩ (show n<κ v.bb.eO.aR by rw[aN.out.2.1];exact aS) v' aj az) ((T5.trans (Touch.bV (F:=cK h) (ai w5 (.cells (j5 ⟨n,s⟩) 116))) (λn hn _=>hn)).trans ((Touch.be (F:=cK h) az (λk hk=>.inr (.inr (.inr hk)))).trans (Touch.be (F:=cK h) (bX aq 2 v') (λk hk=>FX)) (λn hn _=>hn)) (λn hn _=>hn));have W7:=an (show ∀b,v'.ownBlock=some b->h.vp.ownBlock=some b\/w.heap.size<=b from λb hb=>by
   rcases aJ with hh|⟨g,hh,aX⟩
   ·exact .inl (by rw[<-hh];exact hb)
   ·rw[hb]at hh;cases hh;exact .inr (bO (bO T5.size (ai w5 _).size) aX))
  have S7:=an (((B5.up (ai w5 (.cells (j5 ⟨n,s⟩) 116))).grown az (jd av (B5.up (ai w5 (.cells (j5 ⟨n,s⟩) 116))) aL.bL)).grown (bX aq 2 v') (λe=>HF (.inl (dC e).symm)));have oc:v'.cells=#[v']/\v'.oneCell'=true:=by obtain⟨va,vc,rfl⟩:=(aj.row ww).slice;exact⟨rfl,rfl⟩
  refine CY 112 (.tmp 27) (.tmp 25) rfl ⟨h.d,2,none⟩ rfl v' rfl oc.1 oc.2 h.vp (aq.cell 2) (aq.free 2) al ?_;refine⟨al,?_⟩;simp only[Aap];clear c2 aP oc;generalize w6.setCell ⟨h.d,2,none⟩ v'=w7 at *;go_wp2;have fW:=(Up.refl w7).drew;obtain⟨D8,S8,T8⟩:=aW (D7.up fW) (S7.up fW) (T7.trans (Touch.bV (F:=cK h) fW) (λn hn _=>hn));have c1:=D8.cells.2.1;have aA:w7.drew.cell? (ad h.d 1)=some (cC h.g2 (κ v.bb.eO.aR) (κ v.bb.eO.aR)):=c1;rw[aN.out.2.1]at aA;have hm:=D8.max;have aB:κ v.aR<=1024:=by rw[<-aN.out.2.1];exact hm
  clear c1 hm;refine uy 6 al al ?_;refine ve ?_;change Adq _ _ w7.drew (λa'=>Aam _ _ _ _ a' w7.drew) _ _;generalize w7.drew=w8 at *;repeat(first
   | (refine iz rfl 60 (.tmp 5) rfl w.heap.size rfl 60 _ S8 _ Acr rfl (dE s) ?_)
   | still_step)
  refine hT ?_;have ag:n<κ v.bb.eO.cx:=by have:=D8.len;rw[show({v.bb.eO with bL:=v.bb.eO.bL++[⟨n,s⟩]}:bD).cx=v.bb.eO.cx from rfl]at this;rw[this];show n<κ v.bb.eO.aR;rw[aN.out.2.1];exact aS
  obtain⟨FT,SS,G2⟩:=aW (G1 v.bb.eO.cx n ag s) (Jg v.bb.eO.cx n ag s) (show aI w8 h.g2 60 (gz v.bb.eO.cx)from D8.b2);have b2:((n:Int)<(κ v.aR:Int))=True:=ao
  clear ag;go_wp2_with(refine cc rfl 60 (.tmp 34) (.tmp 33) rfl h.g2 (n*128) (aD s.val) rfl rfl 60 _ G2 (dE s) FT (dr _) ?_);intro w9 aM aH;rw[SS.out]at aM;obtain⟨D9,T9⟩:=aw (Dv.aal D8 n s aM aH) (T8.trans (Touch.be (F:=cK h) aH (λk hk=>by cases hk;exact .inr (.inr (.inl rfl)))) (λn hn _=>hn));clear aA;go_wp2;go_ret;exact⟨by rw[E.out.2];rfl,v',by rw[E.out.1];exact D9,T9,W7⟩
def dh(l:List cQ)(ws:List C0):List cQ:=ws.foldl (λl x=>l.set x.loc x.s) l
theorem nC(ws:List C0):∀l:List cQ,κ (dh l ws)=κ l:=by
 induction ws with
 | nil=>intro l;rfl
 | cons x ws ih=>intro l;show(dh (l.set x.loc x.s) ws).length=_;rw[ih,Aax]
theorem HB(l:List cQ)(ws:List C0)(k:Nat)(hk:k<κ ws):dh l (ws.take (k+1))=(dh l (ws.take k)).set ws[k].loc ws[k].s:=by unfold dh;rw[eo hk,Fj];rfl
def bD.cN(v:bD):bD:=if v.hv=true then {v.bb.eO with aR:=dh v.aR v.bL,bL:=[]} else v.bb.eO
def bD.pZ(v:bD):Int:=if v.hv=true then 0 else 42
theorem vW:∀W:af,(Ab9 116).run Aag W=.ok (.agg (j5 JQ)) W:=λW=>by obtain⟨i,hi,hz0,_,_⟩:=jC uj;simp[Ab9,typeInfo,hi,hz0]
theorem Dv.Rt{w w':af}{v:bD}(D:Dv w h v)(n:Nat)(s:cQ)(hb:aI w' h.g1 60 (gz (v.aR.set n s)))(hg:w.grownBy w' (some h.g1)):Dv w' h {v with aR:=v.aR.set n s}:=by
 have e:Aa h {v with aR:=v.aR.set n s}=Aa h v:=by simp[Aa]
 exact⟨by rw[e];exact D.dev.grown hg (λe=>D.yr (dC e).symm),hb,D.b2.grown hg (λe=>D.ne (dC e)),by show _=κ (v.aR.set n s);rw[Aax];exact D.len,by show(v.aR.set n s).length<=_;rw[Aax];exact D.max,D.ne,D.bL.kept hg (.inr (jd av D.b1 D.bL)),λx hx=>by show x.loc<κ (v.aR.set n s);rw[Aax];exact D.AV x hx,D.ops,D.left⟩
theorem Dv.clear{v:bD}(D:Dv w h v):Dv (w.setCell ⟨h.d,2,none⟩ (nl)) {h with vp:=nl} {v with bL:=[]}:=by have G:=bX D.dev 2 (nl);exact⟨D.dev.setCell 2 _,D.b1.grown G (λe=>D.yr (dC e)),D.b2.grown G (λe=>D.tW (dC e)),D.len,D.max,D.ne,ak.nil _ _ _ _ _,(λx hx=>aa),D.ops,D.left⟩
theorem uk(x:C0):(j5 JQ).size=(j5 x).size:=by simp[oo]
theorem WN{b:Nat}{x:C0}(h:aI w b t (j5 x)):w.cell? (ad b 0)=some (i6 (x.loc:Int))/\w.rangeAt b 1 (aD x.s.val).toList:=by refine⟨jH,λj v hj=>?_⟩;rw[h.cell];grind [kY,j5,qW]
theorem Ab(w:af)(h:iM)(v:bD)(D:Dv w h v)(hr:κ v.bL<=1000000)(aE:v.hv=true):Aaf Aag 216 #[pz h.d] w λe w'=>e=.returned (i6 v.pZ)/\iY w h v.cN w':=by
 obtain⟨CT,aC⟩:=aw (v7 w h v D) (λW (DD:Dv W h v.bb)=>Ea W h v.bb DD);have HP:v.bb.hv=v.hv:=rfl;rw[HP]at aC;rw[aE]at aC;obtain⟨aN,E⟩:=aw (pd v.bb) (show v.cN={v.bb.eO with aR:=dh v.aR v.bL,bL:=[]}/\v.pZ=0 by unfold bD.cN bD.pZ;rw[aE];simp);go_in;go_wp2_with fail;refine CT.mono ?_;rintro e w2⟨rfl,D2,T2⟩;obtain⟨aQ,aa⟩:=aw D2 T2;go_wp2_with fail;refine(aC _ aQ).mono ?_;rintro e w4⟨rfl,D4,T4⟩;obtain⟨au,aF⟩:=aw D4 (aa.trans T4 (λn hn _=>hn));obtain⟨pa,pc,ab⟩:=(au.bL.row ww).slice;have c2:=au.cells.2.2.1;rw[ab,aN.out.1]at c2;have ay:=an ab;have aH:κ v.bb.bL<=1000000:=hr;obtain⟨P,hP⟩:=bE (v.bb.eO);obtain⟨EP,ag⟩:=aw (show P.bL=v.bL/\P.aR=v.aR/\P.cx=v.cx by rw[hP];exact aN) hP;rw[<-hP]at au;have al:w4.cell? (ad h.d 2)=some (.slice pa (κ v.bL) pc):=c2;have ax:κ v.bL<=1000000:=hr;go_wp2;go_loopw [15] (λi wr=>∃k:Nat,k<=κ v.bL/\i=i6 k/\Dv wr h {P with aR:=dh v.aR (v.bL.take k)}/\Touch (cK h) w wr) (λi _=>κ v.bL-(Aaq i).toNat)
 case atStart=>exact⟨0,bG _,rfl,by have:=au.out;rw[show({P with aR:=dh v.aR (v.bL.take 0)}:bD)=P from by rw[Abl];show({P with aR:=v.aR}:bD)=P;rw[<-EP.out.2.1]];exact this,aF⟩
 case round=>
  obtain⟨k,hk,rfl,DR,TR⟩:=hrel;obtain⟨HDR,HTR⟩:=aw DR TR;clear DR TR al;by_cases hlt:k<κ v.bL
  ·have ak:k<κ P.bL:=by rw[EP.out.1];exact hlt
   have own:=HDR.bL;obtain⟨g,cap,hg,ar⟩:=JH (l:=P.bL) own k ak;have ab:=ay.out;have aX:(.slice (some ⟨g,0,none⟩) (κ P.bL) cap:ah)=.slice pa (κ v.bb.eO.bL) pc:=aP
   simp only[Abh]at aX;obtain⟨rfl,_,rfl⟩:=aX;have RG:=an ar;have loc:=HDR.AV P.bL[k] (cm ak);have SN:=an (HB v.aR v.bL k hlt);have ae:P.bL[k]=v.bL[k]:=by simp only[EP.out.1]
   rw[ae]at RG loc;have aO:κ (dh v.aR (v.bL.take k))=κ v.aR:=nC _ _;have HAL:=an aO;have aJ:v.bL[k].loc<κ v.aR:=cr
   have b2:((k:Int)<(κ v.bL:Int))=True:=ao
   have sI:κ v.aR<=1024:=by have:=HDR.max;rw[show({P with aR:=dh v.aR (v.bL.take k)}:bD).aR=dh v.aR (v.bL.take k)from rfl,aO]at this;exact this
   clear own ar hg ab ae ak loc aO;generalize v.bL[k]=x at *;have upa:=ai wr (.cells (j5 x) 116);refine U4 ?_;intro fW D5 X5 T5 av c0;have aj:(wr.alloc (.cells (j5 x) 116)).drew.cell? (ad h.d 0)=some (.slice (some ⟨h.g1,0,none⟩) (κ (dh v.aR (v.bL.take k))) (κ (dh v.aR (v.bL.take k)))):=c0;rw[HAL.out]at aj;clear c0 upa fW;go_wp2_with(first
    | (refine gS rfl 116 (.tmp 17) rfl g (k*129) rfl (j5 x) RG _ underlying116 rfl (kS x) ?_)
    | (refine dw rfl 116 rfl (j5 JQ) vW ?_)
    | (refine gT (w:=wr) rfl 116 (.tmp 4) (.tmp 18) rfl wr.heap.size rfl (j5 x) rfl rfl 116 (j5 JQ) (kS x) (uk x) (zB x) ?_))
   refine Oa ?_;refine Oy ?_;generalize(wr.alloc (.cells (j5 x) 116)).drew=w5 at *;simp only[Aap,fL];repeat(first
    | (refine gf rfl 60 (.tmp 25) rfl wr.heap.size 1 rfl _ X5.2 _ Acr rfl (dE _) ?_)
    | still_step)
   refine hT ?_;have hxl:x.loc<κ (dh v.aR (v.bL.take k)):=cr
   have b3:((x.loc:Int)<(κ v.aR:Int))=True:=ao
   go_wp2_with(refine cc rfl 60 (.tmp 27) (.tmp 26) rfl h.g1 (x.loc*128) (aD x.s.val) rfl rfl 60 _ D5.b1 (dE x.s) (G1 _ x.loc hxl x.s) (dr _) ?_);refine Vg ?_;clear aj;intro w6 D6 T6;go_wp2_with fail;refine⟨⟨k+1,hlt,aq,by rw[SN.out];exact D6,T6⟩,?_⟩;simp only[Aaq];omega
  ·have hkl:k=κ v.bL:=by omega
   subst hkl;have b2:((κ v.bL:Int)<(κ v.bL:Int))=False:=aq
   obtain⟨c2,ab⟩:=az HDR.cells.2.2.1 ay.out;rw[ab]at c2;have f2:=HDR.dev.free 2;clear ab;go_wp2_with fail;go_ret;have E2:({P with aR:=dh v.aR (v.bL.take (κ v.bL)),bL:=[]}:bD)=v.cN:=by rw[E.out.1,fj,ag.out]
   exact⟨by rw[E.out.2];rfl,nl,by rw[<-E2];exact(Dv.clear HDR),(HTR.trans (jf HDR 2 (nl)) (λn hn _=>hn)),λb hb=>by cases hb⟩
def SJ(b:Bool):ah:=.bool b
def fN(ks:List Bool):Nat->List C0->List C0
 | _,[]=>[]
 | n,x::l=>if ks.getD n false=true then x::fN ks (n+1) l else fN ks (n+1) l
theorem EP(ks:List Bool)(l m:List C0):∀n,fN ks n (l++m)=fN ks n l++fN ks (n+κ l) m:=by
 induction l with
 | nil=>intro n;rfl
 | cons x l ih=>grind [fN]
theorem KN(ks:List Bool)(l:List C0)(k:Nat)(hk:k<κ l):fN ks 0 (l.take (k+1))=fN ks 0 (l.take k)++(if ks.getD k false=true then [l[k]] else []):=by rw[eo hk,EP,Abn,ey,Nat.min_eq_left ae];rfl
def bD.sC(v:bD)(ks:List Bool):List cQ:=dh v.aR (fN ks 0 v.bL)
def bD.crashed(v:bD)(ks:List Bool):bD:={v with aR:=v.sC ks,cx:=v.sC ks,bL:=[],left:=-1,dead:=false}
theorem Dv.copied{w w':af}{v:bD}(D:Dv w h v)(hb:aI w' h.g2 60 (gz v.aR))(hg:w.grownBy w' (some h.g2)):Dv w' h {v with cx:=v.aR}:=⟨D.dev.grown hg (λe=>D.tW (dC e).symm),D.b1.grown hg (λe=>D.ne (dC e).symm),hb,rfl,D.max,D.ne,D.bL.kept hg (.inr (jd av D.b2 D.bL)),D.AV,D.ops,D.left⟩
theorem H4(hn:cK {h with vp:=.slice none 0 0} n):cK h n:=by
 rcases hn with hn|hn|hn|hn
 ·exact .inl hn
 ·exact .inr (.inl hn)
 ·exact .inr (.inr (.inl hn))
 ·cases hn
theorem Ki(w:af)(h:iM)(v:bD)(D:Dv w h v)(hr:κ v.bL<=1000000)(vk:ah)(ks:List Bool)(aE:∀w',Touch (cK h) w w'->aC SJ w' vk ks):Aaf Aag 19 #[pz h.d,vk] w λe w'=>e=rt #[]/\iY w h (v.crashed ks) w':=by
 obtain⟨au,HK⟩:=aw D aE;have hkl:κ ks<=9223372036854775807:=(HK w (Touch.refl _ _)).length_le;obtain⟨ka,kc,aH⟩:=(HK w (Touch.refl _ _)).slice;subst aH;obtain⟨pa,pc,ab⟩:=(au.bL.row ww).slice;have c2:=au.cells.2.2.1;rw[ab]at c2;have ay:=an ab;obtain⟨N,hN⟩:=bE (κ v.bL);rw[<-hN]at c2 hr;have HN:=an hN;clear hN;go_in;go_wp2_with fail;go_loopw [11] (λi wr=>∃k:Nat,k<=N/\i=i6 k/\Dv wr h {v with aR:=dh v.aR (fN ks 0 (v.bL.take k))}/\Touch (cK h) w wr) (λi _=>N-(Aaq i).toNat)
 case atStart=>exact⟨0,bG _,rfl,au,Touch.refl _ _⟩
 case round=>
  obtain⟨k,hk,rfl,DR,TR⟩:=hrel;obtain⟨HDR,HTR⟩:=aw DR TR;clear DR TR c2;by_cases hlt:k<N
  ·have ak:k<κ v.bL:=by rw[<-HN.out];exact hlt
   obtain⟨g,cap,hg,ar⟩:=JH (l:=v.bL) HDR.bL k ak;have ab:=ay.out;have aX:(.slice (some ⟨g,0,none⟩) (κ v.bL) cap:ah)=.slice pa (κ v.bL) pc:=hg.symm.trans ab;simp only[Abh]at aX;obtain⟨rfl,_,rfl⟩:=aX;have RG:=an ar;have loc:=HDR.AV v.bL[k] (cm ak);have SN:=an ((λk=>KN ks v.bL k) k ak);have aO:κ (dh v.aR (fN ks 0 (v.bL.take k)))=κ v.aR:=nC _ _;have HAL:=an aO;have aJ:v.bL[k].loc<κ v.aR:=by rw[<-aO];exact loc
   have b2:((k:Int)<(N:Int))=True:=ao
   have sI:κ v.aR<=1024:=by have:=HDR.max;rw[show({v with aR:=dh v.aR (fN ks 0 (v.bL.take k))}:bD).aR=dh v.aR (fN ks 0 (v.bL.take k))from rfl,aO]at this;exact this
   clear ar hg ab loc aO;generalize v.bL[k]=x at *;clear ak;have upa:=ai wr (.cells (j5 x) 116);have T1:=an (HTR.trans (Touch.bV (F:=cK h) upa) (λn hn _=>hn));obtain⟨KK,D1⟩:=aw (HK _ T1) (HDR.up upa);by_cases hq:k<κ ks
   ·cases aB:ks[k]
    case true=>
     have kc:=KK.out;obtain⟨kb,ko,rfl,_,ax⟩:=cf kc rfl ae;have ck:(wr.alloc (.cells (j5 x) 116)).cell? (ad kb (ko+k))=some (.bool true):=by rw[ax k hq,aB];rfl
     have b5:((k:Int)<(κ ks:Int))=True:=ao
     clear kc ax;have aa:=an (show fN ks 0 (v.bL.take (k+1))=fN ks 0 (v.bL.take k)++[x] by rw[SN.out,sP,iI hq,aB];simp);refine U4 ?_;intro fW D5 X5 T5 av c0;have aj:(wr.alloc (.cells (j5 x) 116)).drew.cell? (ad h.d 0)=some (.slice (some ⟨h.g1,0,none⟩) (κ (dh v.aR (fN ks 0 (v.bL.take k)))) (κ (dh v.aR (fN ks 0 (v.bL.take k))))):=c0;rw[HAL.out]at aj;clear c0 upa fW;go_wp2_with(first
      | (refine gS rfl 116 (.tmp 14) rfl g (k*129) rfl (j5 x) RG _ underlying116 rfl (kS x) ?_)
      | (refine dw rfl 116 rfl (j5 JQ) vW ?_)
      | (refine gT (w:=wr) rfl 116 (.tmp 5) (.tmp 15) rfl wr.heap.size rfl (j5 x) rfl rfl 116 (j5 JQ) (kS x) (uk x) (zB x) ?_))
     refine Ob ?_;refine Oy ?_;generalize(wr.alloc (.cells (j5 x) 116)).drew=w5 at *;try simp only[Aap,fL]
     repeat(first
      | (refine gf rfl 60 (.tmp 32) rfl wr.heap.size 1 rfl _ X5.2 _ Acr rfl (dE _) ?_)
      | still_step)
     refine hT ?_;have hxl:x.loc<κ (dh v.aR (fN ks 0 (v.bL.take k))):=by rw[HAL.out];exact aJ
     have b3:((x.loc:Int)<(κ v.aR:Int))=True:=ao
     go_wp2_with(refine cc rfl 60 (.tmp 34) (.tmp 33) rfl h.g1 (x.loc*128) (aD x.s.val) rfl rfl 60 _ D5.b1 (dE x.s) (G1 _ x.loc hxl x.s) (dr _) ?_);refine Vg ?_;clear aj;intro w6 D6 T6;go_wp2_with fail;refine⟨⟨k+1,hlt,aq,by rw[aa.out,show dh v.aR (fN ks 0 (v.bL.take k)++[x])=(dh v.aR (fN ks 0 (v.bL.take k))).set x.loc x.s from by unfold dh;rw[Fj];rfl];exact D6,T6⟩,?_⟩;simp only[Aaq];omega
    case false=>
     have kc:=KK.out;obtain⟨kb,ko,rfl,_,ax⟩:=cf kc rfl ae;have ck:(wr.alloc (.cells (j5 x) 116)).cell? (ad kb (ko+k))=some (.bool false):=by rw[ax k hq,aB];rfl
     have b5:((k:Int)<(κ ks:Int))=True:=ao
     clear kc ax;have aa:=an (show fN ks 0 (v.bL.take (k+1))=fN ks 0 (v.bL.take k)by rw[SN.out,sP,iI hq,aB];simp);clear upa;go_wp2_with(first
      | (refine gS rfl 116 (.tmp 14) rfl g (k*129) rfl (j5 x) RG _ underlying116 rfl (kS x) ?_)
      | (refine dw rfl 116 rfl (j5 JQ) vW ?_)
      | (refine gT (w:=wr) rfl 116 (.tmp 5) (.tmp 15) rfl wr.heap.size rfl (j5 x) rfl rfl 116 (j5 JQ) (kS x) (uk x) (zB x) ?_))
     refine⟨⟨k+1,hlt,aq,by rw[aa.out];exact D1,T1⟩,?_⟩;simp only[Aaq];omega
   ·have b5:((k:Int)<(κ ks:Int))=False:=by simp;omega
    have aa:=an (show fN ks 0 (v.bL.take (k+1))=fN ks 0 (v.bL.take k)by rw[SN.out,sP,sQ ae];simp);clear upa;go_wp2_with(first
     | (refine gS rfl 116 (.tmp 14) rfl g (k*129) rfl (j5 x) RG _ underlying116 rfl (kS x) ?_)
     | (refine dw rfl 116 rfl (j5 JQ) vW ?_)
     | (refine gT (w:=wr) rfl 116 (.tmp 5) (.tmp 15) rfl wr.heap.size rfl (j5 x) rfl rfl 116 (j5 JQ) (kS x) (uk x) (zB x) ?_))
    refine⟨⟨k+1,hlt,aq,by rw[aa.out];exact D1,T1⟩,?_⟩;simp only[Aaq];omega
  ·obtain rfl:k=N:=by omega
   have b2:((k:Int)<(k:Int))=False:=aq
   obtain⟨c2,ab⟩:=az HDR.cells.2.2.1 ay.out;rw[ab]at c2;have f2:=HDR.dev.free 2;obtain⟨DC,TC,HAL,E2⟩:=bS (Dv.clear HDR) (HTR.trans (jf HDR 2 (nl)) (λn hn _=>hn)) (show(dh v.aR (fN ks 0 (v.bL.take k))).length=κ v.aR from nC _ _) (show dh v.aR (fN ks 0 (v.bL.take k))=v.sC ks by rw[HN.out,fj];rfl);clear ab;go_wp2_with fail;generalize wr.setCell ⟨h.d,2,none⟩ (nl)=w5 at *;have fW:Up w5 w5.drew:=(Up.refl w5).drew;obtain⟨D6,T6⟩:=aw (DC.up fW) (TC.trans (Touch.bV (F:=cK h) fW) (λn hn _=>hn));have c0:w5.drew.cell? (ad h.d 0)=some (.slice (some ⟨h.g1,0,none⟩) (κ (dh v.aR (fN ks 0 (v.bL.take k)))) (κ (dh v.aR (fN ks 0 (v.bL.take k))))):=D6.cells.1;have c1:w5.drew.cell? (ad h.d 1)=some (.slice (some ⟨h.g2,0,none⟩) (κ (dh v.aR (fN ks 0 (v.bL.take k)))) (κ (dh v.aR (fN ks 0 (v.bL.take k))))):=D6.cells.2.1;rw[HAL.out]at c0 c1;clear fW c2 f2;refine Ob ?_;change Adq _ _ w5.drew (λa'=>Aam _ _ _ _ a' w5.drew) _ _;generalize w5.drew=w6 at *;repeat still_step
   refine hT ?_;go_wp2_with(refine yl rfl (.tmp 42) (.tmp 46) 111 111 rfl 60 128 underlying111 al h.g1 h.g2 (κ v.aR) rfl rfl 60 _ _ D6.b1 D6.b2 (by rw[tt,HAL.out]) (by rw[tt,au.out.len]) (Rp _) ?_);intro w7 ag aF;have D7:=an (Dv.copied D6 ag aF);clear ag c0 c1;have D8:=an (Dv.field D7 4 (i6 (-1)) (v':={v with aR:=v.sC ks,cx:=v.sC ks,bL:=[],left:=-1}) (by rw[E2.out];rfl) (by rw[E2.out]) (by rw[E2.out]) rfl au.ops KT);obtain⟨c4,f4,c5,f5⟩:=iQ D7.cells.2.2.2.2.1 (D7.dev.free 4) D8.cells.2.2.2.2.2 (D8.dev.free 5);go_wp2_with fail;go_end0;exact⟨rfl,nl,(Dv.field D8 5 (.bool false) (v':=v.crashed ks) rfl rfl rfl rfl au.ops KT),(((T6.trans (Touch.be (F:=cK h) aF (λj hj=>by cases hj;exact .inr (.inr (.inl rfl)))) (λn hn _=>hn)).trans (jf D7 4 (i6 (-1))) (λn hn _=>H4 hn)).trans (jf D8 5 (.bool false)) (λn hn _=>H4 hn)),λb hb=>by cases hb⟩
theorem BS(t e:Aab)(z:ah)(k bytes:Nat)(ht:P.underlying t=some (.slice e))(hinfo:(P.info? e).map (λi=>(i.zero,i.size,i.bytes))=some (some z,k,bytes))(c:Nat)(hc:bytes*c<=281474976710656)(hm:c<=9223372036854775807)(w:af):(Aci t (.int .i64 (c:Int)) (.int .i64 (c:Int))).run P w=.ok (.slice (some ⟨w.heap.size,0,none⟩) c c) (w.alloc (.cells (Acu z.cells (c*k)) e)):=by refine NF ?_;intro i hi hz0 hz1 ar hb this;simp_all
theorem Jd:qF e9=Aad 128 (.int .u8 0):=al
theorem ru(n:Nat):Acu (aD aM) (n*128)=gz (Aad n e9):=by
 apply hn.1;rw[BU,List.flatMap_replicate,Jd,List.flatten_replicate_replicate];rw[List.eq_replicate_iff];refine⟨by rw[Fk,wm],λb hb=>?_⟩;unfold Acu at hb;simp only[Array.toList_map,Abb]at hb;obtain⟨j,_,rfl⟩:=hb;have hs:(aD aM).size=128:=aA
 have hj:j%(aD aM).size<(aD aM).size:=uz _ ae;rw[getElem!_pos (aD aM) _ hj];have hm:(aD aM)[j%(aD aM).size]∈(aD aM).toList:=aq
 rw[show(aD aM).toList=qF e9 from kY e9,Jd]at hm;simp_all
theorem q8:(prog.info? 60).map (λi=>(i.zero,i.size,i.bytes))=some (some (.agg (aD aM)),128,128):=al
def QI(n:Nat):bD:=⟨Aad n e9,Aad n e9,[],0,-1,false⟩
section
variable {P:bu}
theorem rZ{op:Abi}{a:Act}{w:af}{K:Act->af->Prop}{Q:Exit->Act->af->Prop}(t:Aab)(x y:bR)(ho:op.op=.makeSlice t x y)(e:Aab)(z:ah)(k bytes:Nat)(ht:P.underlying t=some (.slice e))(hinfo:(P.info? e).map (λi=>(i.zero,i.size,i.bytes))=some (some z,k,bytes))(c:Nat)(hc:bytes*c<=281474976710656)(hm:c<=9223372036854775807)(hx:a.eval x=i6 (c:Int))(hy:a.eval y=i6 (c:Int))(C:Array ah)(hC:Acu z.cells (c*k)=C)(h:K (a.put op.dst (cC w.heap.size c c)) (w.alloc (.cells C e))):op.wp P a w K Q:=by have hr:=BS (P:=P) t e z k _ ht hinfo c hc hm w;rw[hC]at hr;unfold Ace Abt;simp only[ho,hx,hy,Aa1,hr,Aay];exact h
theorem aaA{op:Abi}{a:Act}{w:af}{K:Act->af->Prop}{Q:Exit->Act->af->Prop}(t:Aab)(x:bR)(ho:op.op=.box t x)(C:Array ah)(hx:a.eval x=.agg C)(h:K (a.put op.dst (pz w.heap.size)) (w.alloc (.cells C t))):op.wp P a w K Q:=by unfold Ace Abt;simp[ho,hx,Instr.box,Value.cells,Aar];exact h
end
theorem C7(v0 v1:ah)(h0:v0.cells=#[v0])(h1:v1.cells=#[v1]):prog.built 114 [(0,v0),(1,v1),(4,.int .i64 (-1))]=some #[v0,v1,.slice none 0 0,.int .i64 0,.int .i64 (-1),.bool false]:=by obtain⟨i,hi,hz0,_,_⟩:=jC (show(prog.info? 114).map (λi=>(i.zero,i.size,i.bytes))=some (some (.agg #[.slice none 0 0,.slice none 0 0,.slice none 0 0,.int .i64 0,.int .i64 0,.bool false]),6,96)from aA);unfold Program.built;rw[hi,underlying114];simp only[hz0];rw[show(List.mapM (λ(f:Field)=>(prog.info? f.type).map λi=>(f.offset,i.size)) _:Option (List (Nat × Nat)))=some [(0,1),(1,1),(2,1),(3,1),(4,1),(5,1)] from aA];have ha:∀C,(Value.agg C).cells=C:=λ_=>rfl;simp[Instr.fill,h0,h1,ha,show(Acd .i64 (-1)).cells=#[.int .i64 (-1)] from rfl]
theorem Xo(w5:af)(n:Nat)(hn:n<=1024)(g1 g2 d:Nat)(hb1:aI w5 g1 60 (gz (Aad n e9)))(hb2:aI w5 g2 60 (gz (Aad n e9)))(hne:g1≠g2)(hd:aI w5 d 114 #[.slice (some ⟨g1,0,none⟩) n n,.slice (some ⟨g2,0,none⟩) n n,.slice none 0 0,.int .i64 0,.int .i64 (-1),.bool false]):Dv w5 ⟨d,g1,g2,.slice none 0 0⟩ (QI n):=by
 have e:Aa ⟨d,g1,g2,.slice none 0 0⟩ (QI n)=#[.slice (some ⟨g1,0,none⟩) n n,.slice (some ⟨g2,0,none⟩) n n,.slice none 0 0,.int .i64 0,.int .i64 (-1),.bool false]:=by simp[Aa,QI]
 exact⟨aa,hb1,hb2,rfl,by show(Aad n e9).length<=1024;rw[wz];exact hn,hne,ak.nil _ _ _ _ _,(λx hx=>by cases hx),qp,KT⟩
theorem size_alloc(w:af)(o:Obj):(w.alloc o).heap.size=w.heap.size+1:=aq
theorem so{op:Abi}(hw:Aaa op (Aaz ops a.tmps)=true)(t:Aab)(i0 i1 i2:Nat)(x0 x1 x2:bR)(ho:op.op=.build t #[(i0,x0),(i1,x1),(i2,x2)])(v0 v1 v2:ah)(h0:a.eval x0=v0)(h1:a.eval x1=v1)(h2:a.eval x2=v2)(C:Array ah)(hb:P.built t [(i0,v0),(i1,v1),(i2,v2)]=some C):Yields P ops op (.agg C) a:=.inl ⟨hw,λw=>by
  unfold Abt;simp only[ho,Aa1,(run_build (P:=P) w t (#[(i0,x0),(i1,x1),(i2,x2)].map λ(i,x)=>(i,a.eval x)) C aa),Aay];rfl⟩
theorem HR(w w5:af)(hu:Up w w5)(n:Nat)(hn:n<=1024)(g1 g2:Nat)(hg:(g1=w5.heap.size/\g2=w5.heap.size+1)\/(g1=w5.heap.size+1/\g2=w5.heap.size)):Dv (((w5.alloc (.cells (gz (Aad n e9)) 60)).alloc (.cells (gz (Aad n e9)) 60)).alloc (.cells #[.slice (some ⟨g1,0,none⟩) n n,.slice (some ⟨g2,0,none⟩) n n,.slice none 0 0,.int .i64 0,.int .i64 (-1),.bool false] 114)) ⟨w5.heap.size+2,g1,g2,.slice none 0 0⟩ (QI n)/\Up w (((w5.alloc (.cells (gz (Aad n e9)) 60)).alloc (.cells (gz (Aad n e9)) 60)).alloc (.cells #[.slice (some ⟨g1,0,none⟩) n n,.slice (some ⟨g2,0,none⟩) n n,.slice none 0 0,.int .i64 0,.int .i64 (-1),.bool false] 114))/\∀b,cK ⟨w5.heap.size+2,g1,g2,.slice none 0 0⟩ b->w.heap.size<=b:=by
 have ba:=((aI.newAt w5 _ rfl 60 (gz (Aad n e9))).up (ai _ (.cells (gz (Aad n e9)) 60))).up (ai _ (.cells #[.slice (some ⟨g1,0,none⟩) n n,.slice (some ⟨g2,0,none⟩) n n,.slice none 0 0,.int .i64 0,.int .i64 (-1),.bool false] 114));have bb:=(aI.newAt (w5.alloc (.cells (gz (Aad n e9)) 60)) (w5.heap.size+1) aq 60 (gz (Aad n e9))).up (ai _ (.cells #[.slice (some ⟨g1,0,none⟩) n n,.slice (some ⟨g2,0,none⟩) n n,.slice none 0 0,.int .i64 0,.int .i64 (-1),.bool false] 114));obtain⟨bd,hs⟩:=az (aI.newAt ((w5.alloc (.cells (gz (Aad n e9)) 60)).alloc (.cells (gz (Aad n e9)) 60)) (w5.heap.size+2) aq 114 #[.slice (some ⟨g1,0,none⟩) n n,.slice (some ⟨g2,0,none⟩) n n,.slice none 0 0,.int .i64 0,.int .i64 (-1),.bool false]) hu.size;refine⟨?_,((hu.alloc _).alloc _).alloc _,?_⟩
 ·grind [Xo]
 ·rintro b(hb|hb|hb|hb)
  ·grind
  ·grind
  ·grind
  ·cases hb
theorem S'(w:af)(m:Nat)(h1:m<=1024):Aaf Aag 24 #[i6 (m:Int)] w λe w'=>∃h,e=.returned (pz h.d)/\Dv w' h (QI m)/\Up w w'/\∀b,cK h b->w.heap.size<=b:=by
 have h0:¬(m:Int)<0:=ae
 have h2:(m:Int)<=1024:=ae
 go_in;go_wp2;have fW:=(Up.refl w).drew;refine wp_region_any aA ?_;change wpAny _ _ _ _ 7 _ _ w.drew;generalize w.drew=w5 at *;refine A0 (i:=0) (v:=i6 ((m:Nat):Int)) rfl al al al (λ_ _ _ h=>h) (.inl ⟨rfl,λ_=>rfl⟩) ?_;refine A0 (i:=2) (v:=i6 ((m:Nat):Int)) rfl al al al (λ_ _ _ h=>h) (.inl ⟨rfl,λ_=>rfl⟩) ?_;simp only[Aap,fL];refine xa 1 3 _ _ al rfl rfl rfl rfl ?_ ?_
 ·refine rZ 111 (.tmp 7) (.tmp 7) rfl _ _ _ _ underlying111 q8 m ae ae rfl rfl _ (ru m) ?_;refine iy 3 _ al rfl rfl ?_;refine rZ 111 (.tmp 9) (.tmp 9) rfl _ _ _ _ underlying111 q8 m ae ae rfl rfl _ (ru m) ?_;have F:=an (HR w _ fW m ae _ _ (.inl ⟨rfl,rfl⟩));simp only[Aap,fL,size_alloc];refine A0 (i:=4) (v:=.agg #[cC w5.heap.size m m,cC (w5.heap.size+1) m m,nl,i6 0,i6 (-1),.bool false]) rfl al al al (λ_ _ _ h=>h) (so rfl _ 0 1 4 (.tmp 8) (.tmp 10) (.const (i6 (-1))) rfl _ _ _ rfl rfl rfl _ (C7 _ _ rfl rfl)) ?_;exact UE
 ·refine rZ 111 (.tmp 9) (.tmp 9) rfl _ _ _ _ underlying111 q8 m ae ae rfl rfl _ (ru m) ?_;refine iy 1 _ al rfl rfl ?_;refine rZ 111 (.tmp 7) (.tmp 7) rfl _ _ _ _ underlying111 q8 m ae ae rfl rfl _ (ru m) ?_;have F:=an (HR w _ fW m ae _ _ (.inr ⟨rfl,rfl⟩));simp only[Aap,fL,size_alloc];refine A0 (i:=4) (v:=.agg #[cC (w5.heap.size+1) m m,cC w5.heap.size m m,nl,i6 0,i6 (-1),.bool false]) rfl al al al (λ_ _ _ h=>h) (so rfl _ 0 1 4 (.tmp 8) (.tmp 10) (.const (i6 (-1))) rfl _ _ _ rfl rfl rfl _ (C7 _ _ rfl rfl)) ?_;exact UE
section
variable {P:bu}
end
def sr:Array ah:=(Aad 1024 (Acd .u8 0)++Aad 16 (Acd .i64 0)).toArray
theorem C8:prog.built 165 []=some sr:=al
theorem WW:∀W:af,(Ab9 165).run Aag W=.ok (.agg sr) W:=(lb (P:=Aag) (t:=165) (v:=.agg sr) (n:=1040) aA).1
theorem Yj(n:Nat)(v:α)(i:Nat)(h:i<n):(Aad n v)[i]?=some v:=aa
theorem Yk(n:Nat)(v:α):κ (Aad n v)=n:=aq
theorem Rk(j:Nat):gV (λ_=>0) j=0:=aA
theorem YV(i:Nat)(hi:i<1040):sr[i]?=some (Bb (λ_=>0) i):=by unfold sr Bb;grind [Yk,Yj,Rk]
def jZ(n:Nat):Nat->Nat:=λi=>if 4<=i/\i<n then 1 else 0
theorem QM(h:4<=k):fW (jZ k) k 1=jZ (k+1):=by grind [fW,jZ]
theorem QL:jZ 4=λ_=>0:=by grind [jZ]
theorem B1(w:af)(n:Nat)(h1:4<=n)(h2:n<=1024):Aaf Aag 57 #[i6 (n:Int)] w λe w'=>e=.returned (pz w.heap.size)/\cb w' w.heap.size (jZ n)/\Up w w':=by
 have S0:=an (show cb (w.alloc (.cells sr 165)) w.heap.size (jZ 4)from by rw[QL];exact⟨_,aI.new w 165 sr,by simp[sr],YV⟩)
 have hm:min (n:Int) 1024=(n:Int):=ae
 go_in;go_wp2_with(refine arm ?_);go_loopw [4] (λi wr=>∃k:Nat,4<=k/\k<=n/\i=i6 k/\cb wr w.heap.size (jZ k)/\Up w wr) (λi _=>n-(Aaq i).toNat)
 case atStart=>exact⟨4,ae,h1,rfl,S0,ai _ _⟩
 case round=>
  obtain⟨k,aa,hk,rfl,hS,upr⟩:=hrel;by_cases hlt:k<n
  ·have ST:=an (vG wr w.heap.size _ hS k 1 ae);rw[QM aa]at ST;have b2:((k:Int)<(n:Int))=True:=by simp;omega
   go_wp2_with fail;refine ST.mono ?_;rintro e w1⟨rfl,S1,T1⟩;go_wp2;go_roundw
   case rel=>exact⟨k+1,ae,ae,aq,S1,(T1.up upr (λb hb=>ae))⟩
   case measure=>simp[Aaq];omega
  ·obtain rfl:k=n:=by omega
   have b2:((k:Int)<(k:Int))=False:=aq
   go_wp2;go_ret;exact⟨rfl,hS,upr⟩
theorem Qp:(prog.info? 165).map (·.size)=some 1040:=al
theorem HJ{b n:Nat}{f:Nat->ah}(h:aI w b t C)(hn:C.size=n)(hc:∀i,i<n->C[i]?=some (f i))(h1:∀i,i<n->(f i).oneCell'=true):C.all (·.oneCell')=true:=aP
theorem L5(w:af)(b:Nat)(s:Nat->Nat)(S:cb w b s):Aaf Aag 87 #[pz b] w λe w'=>e=.returned (pz w.heap.size)/\cb w' w.heap.size s/\Up w w':=by
 obtain⟨C,h1,h2,h3⟩:=S;have HI:=an (show(prog.info? 165).map (·.size)=some C.size by rw[h2];exact Qp);go_in;go_wp2_with(first
  | refine arm ?_
  | ((with_reducible refine cB 165 (.tmp 3) (.tmp 6) ?_);refine fK w rfl 165 (.tmp 3) (.tmp 6) rfl C 165 sr rfl rfl rfl HI (by rw[h2];simp[sr]) (HJ h1 h2 h3 (λi _=>by unfold Bb;split<;>rfl)) ?_))
 go_ret;exact⟨rfl,⟨C,aI.new w _ C,h2,h3⟩,ai _ _⟩
def iG(s:Nat->Nat)(n:Nat):Nat->Nat:=λi=>if i<n/\s i=3 then 1 else s i
theorem Kv{s:Nat->Nat}(h:s k=3):fW (iG s k) k 1=iG s (k+1):=by grind [fW,iG]
theorem P7{s:Nat->Nat}(h:s k≠3):iG s k=iG s (k+1):=by grind [iG]
theorem P6(s:Nat->Nat)(k:Nat):iG s k k=s k:=by simp[iG]
theorem Je(w:af)(b:Nat)(s:Nat->Nat)(S:cb w b s):Aaf Aag 218 #[pz b] w λe w'=>e=rt #[]/\cb w' b (iG s 1024)/\Touch (·=b) w w':=by
 go_in;go_wp2;go_loopw [3] (λi wr=>∃k:Nat,k<=1024/\i=i6 k/\cb wr b (iG s k)/\Touch (·=b) w wr) (λi _=>1024-(Aaq i).toNat)
 case atStart=>exact⟨0,ae,rfl,cq,Touch.refl _ _⟩
 case round=>
  obtain⟨k,hk,rfl,hS,ht⟩:=hrel;by_cases hlt:k<1024
  ·have I:=zx wr b _ hS k 3;rw[rb _ k 3 hlt,P6]at I;have b2:((k:Int)<1024)=True:=by simp;omega
   by_cases h3:s k=3
   ·rw[h3]at I;have ST:=an (vG wr b _ hS k 1 hlt);rw[Kv h3]at ST;go_wp2_with fail;refine I.mono ?_;rintro e w1⟨rfl,rfl⟩;go_wp2_with fail;refine ST.mono ?_;rintro e w1⟨rfl,S1,T1⟩;have T1:=an (ht.trans T1 (λn h _=>h));go_wp2;go_roundw
    case rel=>exact⟨k+1,ae,aq,S1,T1⟩
    case measure=>simp[Aaq];omega
   ·rw[jb h3]at I;rw[P7 h3]at hS;go_wp2_with fail;refine I.mono ?_;rintro e w1⟨rfl,rfl⟩;go_wp2;go_roundw
    case rel=>grind
    case measure=>simp[Aaq];omega
  ·obtain rfl:k=1024:=by omega
   have b2:((1024:Nat):Int)=1024:=rfl;go_wp2;go_end0;grind
def lp(s:Nat)(l:List au):List au:=l.filter (λp=>decide (p.aV<=s))
def hK(s:Nat)(l:List au):List au:=l.filter (λp=>decide (s<p.aV))
theorem hy:(prog.info? 87).map (λi=>(i.zero,i.size,i.bytes))=some (some (.agg #[.int .i64 0,.int .u64 0,.int .u32 0]),3,24):=al
theorem xt(p:α->Bool)(l:List α)(k:Nat)(h:k<κ l):(l.take (k+1)).filter p=(l.take k).filter p++(if p l[k]=true then [l[k]] else []):=by rw[eo h,kh];grind
theorem rG(w:af)(b:Nat)(hb:b=w.heap.size)(l:Int)(bi s:Nat):c9 (w.alloc (.cells #[.int .i64 l,.int .u64 bi,.int .u32 s] 87)) (.slice (some ⟨b,0,none⟩) 1 1) [⟨l,bi,s⟩]:=aG.er w b hb _ _ _ _ _ rfl av rfl
theorem Ry(w:af)(v:ah)(l:List au)(hv:c9 w v l)(s:Nat)(hr:κ l*24<=140737488355328):Aaf Aag 207 #[v,.int .u64 (s:Int)] w λe w'=>∃u1 u2,e=rt #[u1,u2]/\a8 w' w.heap.size u1 (lp s l)/\a8 w' w.heap.size u2 (hK s l)/\Up w w':=by
 have hlen:=hv.length_le;obtain⟨a,cap,rfl⟩:=hv.slice;go_in;go_wp2_with fail;go_loopw [6,7,12] (λu1 u2 i wr=>∃k:Nat,k<=κ l/\i=i6 k/\a8 wr w.heap.size u1 (lp s (l.take k))/\a8 wr w.heap.size u2 (hK s (l.take k))/\pI u1 u2/\Up w wr) (λ_ _ i _=>κ l-(Aaq i).toNat)
 case atStart=>exact⟨0,bG _,rfl,ak.nil _ _ _ _ _,ak.nil _ _ _ _ _,.inl rfl,Up.refl _⟩
 case round=>
  obtain⟨k,hk,rfl,aN,aq,aZ,upr⟩:=hrel;by_cases hlt:k<κ l
  ·obtain⟨b,off,rfl,hbs,ba,hc⟩:=rM (aG.up hv upr) ae;obtain⟨aM,aL,al⟩:=cX ((hc k hlt).1) ((hc k hlt).2.1) ((hc k hlt).2.2);refine ir ?_;intro b2;obtain⟨S,E1,E2⟩:=aW (λW=>D1 W l[k] s) (xt (λp:au=>decide (p.aV<=s)) l k hlt) (xt (λp:au=>decide (s<p.aV)) l k hlt);have aP:=BY l[k].loc l[k].aV l[k].sum s;have aQ:l[k]=⟨l[k].loc,l[k].aV,l[k].sum⟩:=rfl;rw[<-aQ]at aP;have aA:=an aP;clear hc aP aQ;have aI:κ (lp s (l.take k))<=k:=by unfold lp;exact bO (qh _ _) ao
   have bh:κ (hK s (l.take k))<=k:=by unfold hK;exact bO (qh _ _) ao
   generalize l[k]=p at *;obtain⟨pl,pb,ps⟩:=p;unfold fQ at S;simp only at S aM aL al E1 E2 aA;generalize fu ⟨pl,pb,ps⟩ s=g at *;obtain⟨aC,aK,aH,HV⟩:=bS aN aq aZ hv;clear aN aq aZ hv;go_wp2_with fail;refine(S _).mono ?_;rintro e w3⟨rfl,ax⟩;have upa:=(ai wr (.cells #[i6 pl,.int .u64 pb,.int .u32 ps] 87)).trans ax;have d0:w3.cell? (ad wr.heap.size 0)=some (i6 pl):=ax.cell (dp wr _ _ _ 0 _ rfl);have d1:w3.cell? (ad wr.heap.size 1)=some (.int .u64 pb):=ax.cell (dp wr _ _ _ 1 _ rfl);have d2:w3.cell? (ad wr.heap.size 2)=some (.int .u32 ps):=ax.cell (dp wr _ _ _ 2 _ rfl);obtain⟨o1,o2,ag⟩:=cX (aC.up upa) (aK.up upa) (upr.trans upa);have aB:=ag.size;clear ax;cases g
   ·have ay:¬s<pb:=by intro h;have:=aA.2 ⟨ae,h⟩;cases this
    have e1:lp s (l.take (k+1))=lp s (l.take k)++[⟨pl,pb,ps⟩]:=by unfold lp;rw[E1.out,bp ao]
    have e2:hK s (l.take (k+1))=hK s (l.take k):=by unfold hK;rw[E2.out,aO ao,Ab4]
    obtain⟨aj,aD⟩:=aw e1 e2;clear e1 e2;go_wp2_with(at_builtin;refine ej pw rfl (.tmp 23) (.tmp 25) 88 rfl w.heap.size 87 (.agg #[i6 0,.int .u64 0,.int .u32 0]) 24 Aas hy rfl _ (lp s (l.take k)) rfl (o1.up (ai _ _)) (cC w3.heap.size 1 1) [⟨pl,pb,ps⟩] rfl (rG w3 w3.heap.size rfl pl pb ps) ao ao ao ?_);intro v' w5 aa av ar ab;have aS:=o2.up (ai w3 (.cells #[i6 pl,.int .u64 pb,.int .u32 ps] 87));obtain⟨k2,ap⟩:=az (aS.kept av (pI.symm aH)) (((pI.symm aH).grown ab (λn hn=>(aS.aJ n hn).2)).symm);go_wp2_with fail;go_roundw
    case rel=>exact⟨k+1,ae,fP,by rw[aj.out];exact aa,by rw[aD.out];exact k2,ap,(ag.alloc _).aF ar (aE _)⟩
    case measure=>simp[Aaq];omega
   ·have aT:=(aA.1 rfl).2;have e1:lp s (l.take (k+1))=lp s (l.take k):=by unfold lp;rw[E1.out,aO ao,Ab4]
    have e2:hK s (l.take (k+1))=hK s (l.take k)++[⟨pl,pb,ps⟩]:=by unfold hK;rw[E2.out,bp ao]
    obtain⟨aj,aD⟩:=aw e1 e2;clear e1 e2;go_wp2_with(at_builtin;refine ej pw rfl (.tmp 19) (.tmp 21) 88 rfl w.heap.size 87 (.agg #[i6 0,.int .u64 0,.int .u32 0]) 24 Aas hy rfl _ (hK s (l.take k)) rfl (o2.up (ai _ _)) (cC w3.heap.size 1 1) [⟨pl,pb,ps⟩] rfl (rG w3 w3.heap.size rfl pl pb ps) ao ao ao ?_);intro v' w5 aa av ar ab;have aR:=o1.up (ai w3 (.cells #[i6 pl,.int .u64 pb,.int .u32 ps] 87));obtain⟨k1,ap⟩:=az (aR.kept av aH) (aH.grown ab (λn hn=>(aR.aJ n hn).2));go_wp2_with fail;go_roundw
    case rel=>exact⟨k+1,ae,fP,by rw[aj.out];exact k1,by rw[aD.out];exact aa,ap,(ag.alloc _).aF ar (aE _)⟩
    case measure=>simp[Aaq];omega
  ·obtain rfl:k=κ l:=by omega
   rw[fj]at *;go_wp2_with fail;go_ret2;exact⟨_,_,rfl,aN,aq,upr⟩
theorem aae(l l2:Int)(b s b2 s2:Nat)(W:af):(Ac3 10000 87 (.agg #[i6 l,u6 (b:Int),.int .u32 (s:Int)]) (.agg #[i6 l2,u6 (b2:Int),.int .u32 (s2:Int)])).run Aag W=.ok (decide ((⟨l,b,s⟩:au)=⟨l2,b2,s2⟩)) W:=by
 have e:decide ((⟨l,b,s⟩:au)=⟨l2,b2,s2⟩)=((l==l2) && (((b:Int)==(b2:Int)) && ((s:Int)==(s2:Int)))):=aP
 rw[e];exact N7
theorem kg{p q r:au}(h:dx p q=true)(h2:dx q r=true):dx p r=true:=by obtain⟨l,b,s⟩:=p;obtain⟨l2,b2,s2⟩:=q;obtain⟨l3,b3,s3⟩:=r;grind [rf]
theorem ur(p:au):dx p p=false:=by obtain⟨l,b,s⟩:=p;grind [rf]
theorem Ip{p q:au}(h:dx p q=false)(h2:dx q p=false):p=q:=by obtain⟨l,b,s⟩:=p;obtain⟨l2,b2,s2⟩:=q;grind [rf]
def q3(l:List au):Prop:=∀i j(hj:j<κ l)(ai:i<j),dx (l[i]' ae) l[j]=true
theorem GX(h:gq l=true):q3 l:=by
 rw[je]at h;intro i j;induction j with
 | zero=>omega
 | succ j ih=>grind [X',kg]
def ho(l:List au)(q:au):Nat:=κ (l.takeWhile (λp=>dx p q))
theorem OS:∀(l:List au)(q:au)(i:Nat)(aa:i<=κ l),(∀k(hk:k<κ l),k<i->dx l[k] q=true)->(∀h:i<κ l,dx l[i] q=false)->ho l q=i
 | [],q,i,hi,_,_=>by simp at hi;subst hi;rfl
 | x::l,q,0,_,_,h2=>by have:=h2 aq;simp at this;simp[ho,Ab7,this]
 | x::l,q,i+1,hi,h1,h2=>by have hx:dx x q=true:=h1 0 aq ae;have ih:=OS l q i A8 (λk hk ab=>h1 (k+1) (by simpa using hk) ae) (λh=>h2 jG);unfold ho at *;simp[Ab7,hx,ih]
theorem Yh(l:List au)(q:au):ho l q<=κ l:=by unfold ho;exact(List.takeWhile_sublist _).length_le
theorem IU(l:List au)(q:au)(h:ho l q<κ l):dx l[ho l q] q=false:=by
 induction l with
 | nil=>simp at h
 | cons x l ih=>
  cases hx:dx x q
  ·have e:ho (x::l) q=0:=by simp[ho,Ab7,hx]
   simp_all
  ·have e:ho (x::l) q=ho l q+1:=by simp[ho,Ab7,hx]
   simp_all
theorem OT{q:au}:∀k(hk:k<κ l),k<ho l q->dx l[k] q=true:=by
 induction l with
 | nil=>simp
 | cons x l ih=>
  intro k hk hlt;cases hx:dx x q
  ·have e:ho (x::l) q=0:=by simp[ho,Ab7,hx]
   omega
  ·have e:ho (x::l) q=ho l q+1:=by simp[ho,Ab7,hx]
   cases k with
   | zero=>assumption
   | succ k=>simp_all
def vY(l:List au)(q:au):Option (List au):=if nF q=true/\q ∉ l then some (l.take (ho l q)++q::l.drop (ho l q))else none
theorem X0(hs:q3 l)(q:au):q∈l↔∃h:ho l q<κ l,l[ho l q]=q:=by
 constructor
 ·intro hm;obtain⟨j,hj,rfl⟩:=jD hm;have h1:¬j<ho l l[j]:=λh=>by have:=OT j hj h;grind [ur]
  refine⟨ae,?_⟩;by_cases e:ho l l[j]=j
  ·simp_all
  ·have:=hs (ho l l[j]) j hj ae;grind [IU]
 ·grind
theorem Hx{v:ah}(hv:c9 w v l)(k:Nat)(hk:k<κ l):∃b off cap,v=.slice (some ⟨b,off,none⟩) (κ l) cap/\w.cell? ⟨b,off+k*3,none⟩=some (.int .i64 l[k].loc)/\w.cell? ⟨b,off+k*3+1,none⟩=some (.int .u64 (l[k].aV:Int))/\w.cell? ⟨b,off+k*3+2,none⟩=some (.int .u32 (l[k].sum:Int)):=by obtain⟨a,cap,rfl⟩:=hv.slice;grind [rM]
theorem HM(w:af)(v:ah)(l:List au)(hv:c9 w v l)(q:au)(b1 b2:Nat)(c0:w.cell? (ad b1 0)=some v)(d0:w.cell? (ad b2 0)=some (i6 q.loc))(d1:w.cell? (ad b2 1)=some (u6 (q.aV:Int)))(d2:w.cell? (ad b2 2)=some (.int .u32 (q.sum:Int)))(k:Nat)(hk:k<κ l):Aaf Aag 223 #[i6 (k:Int),pz b1,pz b2] w λe w'=>k8 (!dx l[k] q) w e w':=by
 obtain⟨b,off,cap,rfl,e0,e1,e2⟩:=Hx hv k hk;have L:=an (show pL (fQ l[k]) (fQ q) (dx l[k] q)from⟨λW=>uq W l[k] q⟩);refine K3 ?_;intro x0 x1 x2 x3 x4 x5 x6;have t1:((k:Int)<(κ l:Int))=True:=ao
 generalize l[k]=p at *;obtain⟨pl,pb,ps⟩:=p;obtain⟨ql,qb,qs⟩:=q;unfold fQ at L;simp only at L x0 x1 x2 x3 x4 x5 x6;generalize dx ⟨pl,pb,ps⟩ ⟨ql,qb,qs⟩=g at *;go_in;go_wp2;refine gG ?_;repeat(go_big_quiet_step ((go_at_call 224;exact kl (lQ _ _ _ _ L))))
 refine yJ ?_;intro w4 av;obtain⟨⟨d,os⟩,hw4⟩:=av;have up4:Up w w4:=FW
 clear hw4 x0 x1 x2 x3 x4 x5 x6;go_wp2_with fail;go_ret;exact⟨rfl,up4⟩
theorem LY(w:af)(v:ah)(l:List au)(hv:c9 w v l)(hs:q3 l)(q:au)(b1 b2:Nat)(c0:w.cell? (ad b1 0)=some v)(d0:w.cell? (ad b2 0)=some (i6 q.loc))(d1:w.cell? (ad b2 1)=some (u6 (q.aV:Int)))(d2:w.cell? (ad b2 2)=some (.int .u32 (q.sum:Int)))(n:Nat)(hn:n=κ l)(al:n<=4611686018427387903):Aaf Aag 222 #[i6 (n:Int),.func (.func 223) #[] #[pz b1,pz b2]] w λe w'=>e=.returned (i6 (ho l q:Nat))/\Up w w':=by
 obtain⟨HN,HV,HS⟩:=aW hn hv hs;have C:=an (show ∀wr,Up w wr->∀k(hk:k<κ l),Aaf Aag 223 #[i6 (k:Int),pz b1,pz b2] wr λe w'=>k8 (!dx l[k] q) wr e w' from λwr up k hk=>HM wr v l (aG.up hv up) q b1 b2 (up.cell c0) (up.cell d0) (up.cell d1) (up.cell d2) k hk);clear hn hv hs c0 d0 d1 d2;go_in;go_wp2_with fail;go_loopw [5,6] (λi j wr=>∃a b:Nat,i=i6 a/\j=i6 b/\a<=b/\b<=n/\(∀k(hk:k<κ l),k<a->dx l[k] q=true)/\(∀k(hk:k<κ l),b<=k->dx l[k] q=false)/\Up w wr) (λi j _=>(Aaq j).toNat-(Aaq i).toNat)
 case atStart=>exact⟨0,n,rfl,rfl,ae,ae,λk hk h=>ae,λk hk h=>cr,Up.refl _⟩
 case round=>
  obtain⟨a,b,rfl,rfl,ar,aX,h1,h2,upr⟩:=hrel;obtain⟨H1,H2⟩:=aw h1 h2;clear h1 h2;by_cases hlt:a<b
  ·have t1:((a:Int)<(b:Int))=True:=by simp;omega
   have az:(a<b)=True:=ao
   obtain⟨h,hh⟩:=bE ((a+b)/2);have aa:h<κ l:=cr
   have e1:IntKind.i64.wrap ((a:Int)+(b:Int))=(a:Int)+(b:Int):=bc (a+b) ae;have e2:((a:Int)+(b:Int))/2=(h:Int):=ae
   have e3:IntKind.i64.wrap ((h:Int)+1)=(h:Int)+1:=bc (h+1) ae;have ab:a<=h:=ae
   have ag:h<b:=ae
   have CC:=an (C wr upr h aa);cases hg:dx l[h] q
   ·have K:∀k(hk:k<κ l),h<=k->dx l[k] q=false:=λk hk hle=>by
     by_cases e:k=h
     ·grind
     ·cases h3:dx l[k] q
      ·rfl
      ·have:=kg (HS h k hk ae) h3;grind
    have KK:=an K;rw[hg]at CC;clear hg K hh;go_wp2_with fail;refine CC.mono ?_;rintro e w3⟨rfl,ax⟩;go_wp2_with fail;go_roundw
    case rel=>exact⟨a,h,rfl,rfl,ae,ae,H1,KK,upr.trans ax⟩
    case measure=>simp[Aaq];omega
   ·have K:∀k(hk:k<κ l),k<h+1->dx l[k] q=true:=λk hk hle=>by
     by_cases e:k=h
     ·grind
     ·exact kg (HS k h aa ae) hg
    have KK:=an K;rw[hg]at CC;clear hg K hh;go_wp2_with fail;refine CC.mono ?_;rintro e w3⟨rfl,ax⟩;go_wp2_with fail;go_roundw
    case rel=>exact⟨h+1,b,aq,rfl,ae,ae,KK,H2,upr.trans ax⟩
    case measure=>simp[Aaq];omega
  ·obtain rfl:a=b:=by omega
   have hp:ho l q=a:=OS l q a cr H1 (λh=>H2 a h ae);have HP:=an hp;clear hp;go_wp2_with fail;go_ret;exact⟨by rw[HP.out]<;>rfl,upr⟩
def W1(o:Option (List au))(w:af)(e:Ab3)(w':af):Prop:=match o with
 | none=>e=.returned (.tuple #[.slice none 0 0,.int .i64 131])/\Up w w'
 | some m=>∃u,e=.returned (.tuple #[u,.int .i64 0])/\a8 w' w.heap.size u m/\Up w w'
theorem rQ:∀W:af,(sizeOf (prog.elem 88)).run Aag W=.ok 3 W:=λW=>by
 obtain⟨i,hi⟩:∃i,prog.info? (prog.elem 88)=some i:=Option.isSome_iff_exists.1 aA;rw[run_sizeOf W hi];have:prog.cellsOf (prog.elem 88)=3:=al
 rw[this]
theorem rN:prog.underlying 88=some (.slice (prog.elem 88)):=al
theorem W8(w:af)(v:ah)(l:List au)(hv:c9 w v l)(hs:q3 l)(q:au)(hr:κ l*24<=281474976710632):Aaf Aag 161 #[v,fQ q] w λe w'=>W1 (vY l q) w e w':=by
 have hlen:κ l<=11728124029609:=ae
 obtain⟨w0,ay⟩:=bE ((w.alloc (.cells #[v] 88)).alloc (.cells #[i6 q.loc,u6 (q.aV:Int),.int .u32 (q.sum:Int)] 87));have aI:Up w w0:=by rw[ay];exact(ai _ _).alloc _
 have c0:w0.cell? (ad w.heap.size 0)=some v:=by rw[ay];exact(ai _ _).cell (dp w _ _ _ 0 _ rfl)
 have d0:w0.cell? (ad (w.heap.size+1) 0)=some (i6 q.loc):=by rw[ay,<-Aa4];exact dp _ _ _ _ 0 _ rfl
 have d1:w0.cell? (ad (w.heap.size+1) 1)=some (u6 (q.aV:Int)):=by rw[ay,<-Aa4];exact dp _ _ _ _ 1 _ rfl
 have d2:w0.cell? (ad (w.heap.size+1) 2)=some (.int .u32 (q.sum:Int)):=by rw[ay,<-Aa4];exact dp _ _ _ _ 2 _ rfl
 have aN:c9 w0 v l:=aG.up hv aI;obtain⟨SE,F⟩:=aw (LY w0 v l aN hs q w.heap.size (w.heap.size+1) c0 d0 d1 d2 (κ l) rfl ae) (λW=>HY W q);obtain⟨ag,aH⟩:=az (X0 hs q) (Yh l q);have aY:vY l q=if nF q=true/\q ∉ l then some (l.take (ho l q)++q::l.drop (ho l q))else none:=rfl;rw[aY];have CA:∀w1,Up w0 w1->w1.cell? (ad w.heap.size 0)=some v/\w1.cell? (ad (w.heap.size+1) 0)=some (i6 q.loc)/\w1.cell? (ad (w.heap.size+1) 1)=some (u6 (q.aV:Int))/\w1.cell? (ad (w.heap.size+1) 2)=some (.int .u32 (q.sum:Int)):=λw1 u=>⟨u.cell c0,u.cell d0,u.cell d1,u.cell d2⟩;have CA':=an CA;obtain⟨aK,TE⟩:=aw aN (λ(h:ho l q<κ l) w1 (u:Up w0 w1)=>Hx (aG.up aN u) (ho l q) h);generalize ho l q=i at *;have aX:∀(h:i<κ l) W,(Ac3 10000 87 (.agg #[i6 l[i].loc,u6 (l[i].aV:Int),.int .u32 (l[i].sum:Int)]) (.agg #[i6 q.loc,u6 (q.aV:Int),.int .u32 (q.sum:Int)])).run Aag W=.ok (decide (l[i]=q)) W:=λh W=>aae l[i].loc q.loc l[i].aV l[i].sum q.aV q.sum W;have aA:=an aX;cases hf:nF q
 case false=>
  rw[aO aq];rw[hf]at F;show Aaf _ _ _ _ λe w'=>e=rt #[nl,i6 131]/\Up w w';obtain⟨ql,qb,qs⟩:=q;unfold fQ at *;simp only at CA' F SE ay;go_in;obtain⟨a,cap,rfl⟩:=aK.slice;go_wp2_with fail;rw[<-ay];refine SE.mono ?_;rintro e w1⟨rfl,up1⟩;obtain⟨c0,d0,d1,d2⟩:=CA' w1 up1;obtain⟨x0,x1,x2,x3,aS⟩:=Cd (di c0) (di d0) (di d1) (di d2) (aI.trans up1);go_wp2;refine gG ?_;repeat(go_big_quiet_step ((go_at_call 225;exact kl (F _))))
  refine uR ?_;intro w4 d os hw4 up4;clear hw4 x0 x1 x2 x3;go_wp2_with fail;go_ret2;exact⟨rfl,aS.trans up4⟩
 by_cases hm:q∈l
 ·rw[aO ao];rw[hf]at F;obtain⟨hi,he⟩:=ag.1 hm;obtain⟨te,NE⟩:=az (TE hi) (aA hi);have hd:decide (l[i]=q)=true:=by simp;omega
  rw[hd]at NE;clear hf ag aA TE hd he hm;show Aaf _ _ _ _ λe w'=>e=rt #[nl,i6 131]/\Up w w';have t1:((i:Int)<(κ l:Int))=True:=ao
  have t2:decide (i<κ l)=true:=ao
  generalize l[i]=p at *;obtain⟨pl,pb,ps⟩:=p;obtain⟨ql,qb,qs⟩:=q;unfold fQ at *;simp only at CA' F SE ay NE te;have TE:=an te;clear te;go_in;obtain⟨a,cap,rfl⟩:=aK.slice;go_wp2_with fail;rw[<-ay];refine SE.mono ?_;rintro e w1⟨rfl,up1⟩;obtain⟨c0,d0,d1,d2⟩:=CA' w1 up1;obtain⟨b,off,al,aU,e0,e1,e2⟩:=TE w1 up1;simp only[Abh,true_and]at aU;obtain⟨rfl,rfl⟩:=aU;refine K3 ?_;intro x0 x1 x2 x3 x4 x5 x6;have aS:=aI.trans up1;clear ay aI up1 c0 d0 d1 d2 e0 e1 e2;go_wp2_with fail;refine gG ?_;repeat(go_big_quiet_step ((go_at_call 225;exact kl (F _))))
  refine uR ?_;intro w4 d os hw4 up4;clear hw4 x0 x1 x2 x3 x4 x5 x6;go_wp2_with fail;go_ret2;exact⟨rfl,aS.trans up4⟩
 rw[bp ⟨rfl,hm⟩];rw[hf]at F;have Q:(decide (i<κ l)=false/\((i:Int)<(κ l:Int))=False)\/∃h:i<κ l,decide (l[i]=q)=false:=aP
 have MK:∀W:af,(Aci 88 (i6 0) (i6 ((κ l:Int)+1))).run Aag W=_:=λW=>by have:=mo (P:=Aag) 88 87 _ 3 24 Aas hy (κ l+1) ae ae W;simpa using this
 have a':IntKind.i64.wrap ((κ l:Int)+1)=(κ l:Int)+1:=bc (κ l+1) ae;have RM:=an (λW (B:Nat) (hB:B<=W.heap.size)=>ak.room dK 3 87 W (.agg #[i6 0,u6 0,.int .u32 0]) B (κ l+1) hB ae);generalize Acu (Value.agg #[i6 0,u6 0,.int .u32 0]).cells ((κ l+1)*3)=zr at *;obtain⟨Lt,Ld⟩:=aw (show(l.take i).length=i from ao) (show(l.drop i).length=κ l-i from aq);clear hf ag hm;show Aaf _ _ _ _ λe w'=>∃u,e=rt #[u,i6 0]/\a8 w' w.heap.size u (l.take i++q::l.drop i)/\Up w w';obtain⟨a,cap,rfl⟩:=aK.slice;have aR:κ l<=cap:=by
  rcases aK.out with⟨rfl,_⟩|⟨b,off,al,hx,_,h1,_⟩
  ·simp
  ·grind
 have a6:∀W,(Aav 88 (.slice a (κ l) cap) none (some (i6 (i:Int))) none).run Aag W=.ok (partOf 3 a 0 i cap) W:=xS (P:=Aag) 88 3 rN rQ a (κ l) cap i ae;have a7:∀W,(Aav 88 (.slice a (κ l) cap) (some (i6 (i:Int))) none none).run Aag W=.ok (partOf 3 a i (κ l) cap) W:=gu (P:=Aag) 88 3 rN rQ a (κ l) cap i aH;have aT:c9 w0 (partOf 3 a 0 i cap) (l.take i):=by simpa using aG.part pw aK (lo:=0) (hi:=i) ae aH
 have aW:c9 w0 (partOf 3 a i (κ l) cap) (l.drop i):=by simpa using aG.part pw aK (lo:=i) (hi:=κ l) aH (aE _)
 have PI1':=an aT;have PI2':=an aW;clear aT aW;generalize partOf 3 a 0 i cap=pv1 at *;generalize partOf 3 a i (κ l) cap=pv2 at *;rcases Q with⟨q1,q2⟩|⟨hi,hd⟩
 ·clear aA TE;obtain⟨ql,qb,qs⟩:=q;unfold fQ at *;simp only at CA' F SE ay;go_in;go_wp2_with fail;rw[<-ay];clear ay;refine SE.mono ?_;rintro e w1⟨rfl,up1⟩;obtain⟨c0,d0,d1,d2⟩:=CA' w1 up1;obtain⟨x0,x1,x2,x3⟩:=iQ (di c0) (di d0) (di d1) (di d2);clear c0 d0 d1 d2;go_wp2_with fail;refine gG ?_;repeat(go_big_quiet_step ((go_at_call 225;exact kl (F _))))
  refine uR ?_;intro w4 d os hw4 up4;clear hw4 x0 x1 x2 x3;exact Zd
 ·obtain⟨te,NE⟩:=az (TE hi) (aA hi);rw[hd]at NE;clear aA TE hd;have t1:((i:Int)<(κ l:Int))=True:=by simp;omega
  have t2:decide (i<κ l)=true:=ao
  generalize l[i]=p at *;obtain⟨pl,pb,ps⟩:=p;obtain⟨ql,qb,qs⟩:=q;unfold fQ at *;simp only at CA' F SE ay NE te;have TE:=an te;clear te;go_in;go_wp2_with fail;rw[<-ay];clear ay;refine SE.mono ?_;rintro e w1⟨rfl,up1⟩;obtain⟨c0,d0,d1,d2⟩:=CA' w1 up1;obtain⟨b,off,al,aU,e0,e1,e2⟩:=TE w1 up1;simp only[Abh,true_and]at aU;obtain⟨rfl,rfl⟩:=aU;refine K3 ?_;intro x0 x1 x2 x3 x4 x5 x6;clear c0 d0 d1 d2 e0 e1 e2;go_wp2_with fail;refine gG ?_;repeat(go_big_quiet_step ((go_at_call 225;exact kl (F _))))
  refine uR ?_;intro w4 d os hw4 up4;clear hw4 x0 x1 x2 x3 x4 x5 x6;exact Zd
def ei:List au->List au->Option (List au)
 | [],b=>some b
 | a,[]=>some a
 | x::a,y::b=>if dx x y=true then(ei a (y::b)).map (x::·)else if dx y x=true then(ei (x::a) b).map (y::·)else none
termination_by a b=>κ a+κ b
theorem rA(b:List au):ei [] b=some b:=by simp[ei]
theorem Bd(a:List au):ei a []=some a:=by
 cases a with
 | nil=>exact rA []
 | cons x a=>simp[ei]
theorem Be(a b:List au)(ha:0<κ a)(hb:0<κ b):ei a b=if dx a[0] b[0]=true then(ei (a.drop 1) b).map (a[0]::·)else if dx b[0] a[0]=true then(ei a (b.drop 1)).map (b[0]::·)else none:=by
 cases a with
 | nil=>simp at ha
 | cons x a=>
  cases b with
  | nil=>simp at hb
  | cons y b=>rw[ei];rfl
def TO:ah->Nat
 | .slice _ n _=>n
 | _=>0
def Ph(o:Option (List au))(w:af)(e:Ab3)(w':af):Prop:=(o=none/\e=.returned (.tuple #[.slice none 0 0,.int .i64 131])/\Up w w')\/∃m u,o=some m/\e=.returned (.tuple #[u,.int .i64 0])/\a8 w' w.heap.size u m/\Up w w'
theorem QA(w:af)(v v2:ah)(a0 b0:List au)(hv:c9 w v a0)(ax:c9 w v2 b0)(hr:(κ a0+κ b0)*24<=281474976710656):Aaf Aag 208 #[v,v2] w λe w'=>Ph (ei a0 b0) w e w':=by
 obtain⟨T,hT⟩:=bE (κ a0+κ b0);refine Ou ?_;intro MK;have RM:=an (λW (B:Nat) (hB:B<=W.heap.size)=>ak.room dK 3 87 W (.agg #[i6 0,u6 0,.int .u32 0]) B T hB ae);generalize Acu (Value.agg #[i6 0,u6 0,.int .u32 0]).cells (T*3)=zr at *;have wt:IntKind.i64.wrap ((κ a0:Int)+(κ b0:Int))=(T:Int):=by rw[show(κ a0:Int)+(κ b0:Int)=(T:Int)from ae];exact bc T ae
 obtain⟨va,ca,rfl⟩:=hv.slice;obtain⟨vb,cb,rfl⟩:=ax.slice;obtain⟨na,aO⟩:=bE (κ a0);obtain⟨nb,aQ⟩:=bE (κ b0);rw[<-aO]at hv wt ⊢;rw[<-aQ]at ax wt ⊢;obtain⟨aR,aM,HT,HV,a1⟩:=eQ aO aQ hT hv ax;have aY:T*24<=281474976710656:=ae
 clear aO aQ hT hr;go_in;go_wp2;have aA:=RM w w.heap.size (aE _);obtain⟨g,hg⟩:=bE (w.heap.size);go_loopw [0,1,6] (λs t u wr=>∃(a b out:List au)(pa pb:Option Addr)(ka kb n m z:Nat),s=.slice pa n ka/\n=κ a/\c9 w (.slice pa n ka) a/\t=.slice pb m kb/\m=κ b/\c9 w (.slice pb m kb) b/\u=cC g z T/\z=κ out/\a8 wr w.heap.size (cC g z T) out/\z+n+m=T/\ei a0 b0=(ei a b).map (out++·)/\Up w wr) (λs t _ _=>TO s+TO t)
 case atStart=>
  have hz:=ai w (.cells zr 87);refine⟨a0,b0,[],va,vb,ca,cb,na,nb,0,rfl,aR,HV,rfl,aM,a1,by rw[hg],rfl,by rw[hg];exact aA,?_,?_,hz⟩
  ·have:=aR.out;have:=aM.out;have:=HT.out;omega
  ·simp
 case round=>
  obtain⟨a,b,out,pa,pb,ka,kb,n,m,z,rfl,hn,ha,rfl,hm,hb,rfl,hz,hown,aT,aN,upr⟩:=hrel;clear MK wt;obtain⟨HA,HB,HO,HN,HM,HZ,aC,HG⟩:=Jw ha hb hown hn hm hz aN hg;clear aN hz hg;by_cases h0:0<n/\0<m
  ·obtain⟨bd,a'⟩:=h0;have la:0<κ a:=by omega
   have lb:0<κ b:=ae
   have MS:=Be a b la lb;obtain⟨ba,oa,rfl,_,aU,hca⟩:=rM (aG.up HA upr) la;obtain⟨bb,ob,rfl,_,be,aK⟩:=rM (aG.up HB upr) lb;obtain⟨c0,c1,c2,e0,e1,e2⟩:=sk ((hca 0 la).1) ((hca 0 la).2.1) ((hca 0 la).2.2) ((aK 0 lb).1) ((aK 0 lb).2.1) ((aK 0 lb).2.2);simp only[Nat.zero_mul,Nat.add_zero]at c0 c1 c2 e0 e1 e2;obtain⟨n',ag⟩:∃x,x=n-1:=⟨_,rfl⟩;obtain⟨m',aB⟩:∃x,x=m-1:=⟨_,rfl⟩;obtain⟨aI,aD⟩:∃p:Option Addr,p=(if ka=1 then some ⟨ba,oa,none⟩ else(some (⟨ba,oa,none⟩:Addr)).map (·.add (1*3))):=⟨_,rfl⟩;obtain⟨aP,aS⟩:∃p:Option Addr,p=(if kb=1 then some ⟨bb,ob,none⟩ else(some (⟨bb,ob,none⟩:Addr)).map (·.add (1*3))):=⟨_,rfl⟩;have PA:∀W,(Aav 88 (sq ba oa n ka) (some (i6 1)) none none).run Aag W=.ok (.slice aI n' (ka-1)) W:=λW=>by have:=gu (P:=Aag) 88 3 rN rQ (some ⟨ba,oa,none⟩) n ka 1 ae W;rw[aD,ag];exact this
   have PB:∀W,(Aav 88 (sq bb ob m kb) (some (i6 1)) none none).run Aag W=.ok (.slice aP m' (kb-1)) W:=λW=>by have:=gu (P:=Aag) 88 3 rN rQ (some ⟨bb,ob,none⟩) m kb 1 ae W;rw[aS,aB];exact this
   have RA:=an (show c9 w (.slice aI n' (ka-1)) (a.drop 1)by have:=aG.part pw HA (lo:=1) (hi:=n) ae ae;rw[hn,fj,<-hn]at this;rw[aD,ag];exact this)
   have RB:=an (show c9 w (.slice aP m' (kb-1)) (b.drop 1)by have:=aG.part pw HB (lo:=1) (hi:=m) ae ae;rw[hm,fj,<-hm]at this;rw[aS,aB];exact this)
   obtain⟨L1,L2,DA,DB⟩:=bS (show pL (fQ a[0]) (fQ b[0]) (dx a[0] b[0])from⟨λW=>uq W _ _⟩) (show pL (fQ b[0]) (fQ a[0]) (dx b[0] a[0])from⟨λW=>uq W _ _⟩) (show n'=κ (a.drop 1) by rw[hA];omega) (show m'=κ (b.drop 1) by rw[hA];omega);have t1:decide ((0:Int)<(n:Int))=true:=ao
   have az:decide (0<n)=true:=ao
   have t2:decide ((0:Int)<(m:Int))=true:=ao
   have aW:decide (0<m)=true:=ao
   have t3:((0:Int)<(n:Int))=True:=ao
   have t4:((0:Int)<(m:Int))=True:=ao
   obtain⟨aH,aq⟩:=aw (show n'+1=n from ae) (show m'+1=m from ae);clear hca aK aD aS hn hm ag aB;generalize a[0]=x at *;generalize b[0]=y at *;obtain⟨pl,pb,ps⟩:=x;obtain⟨ql,qb,qs⟩:=y;unfold fQ at L1 L2;simp only at c0 c1 c2 e0 e1 e2 L1 L2 MS;generalize dx ⟨pl,pb,ps⟩ ⟨ql,qb,qs⟩=a6 at *;generalize dx ⟨ql,qb,qs⟩ ⟨pl,pb,ps⟩=a7 at *;obtain⟨x0,x1,x2,x3,x4,x5⟩:=sk (di c0) (di c1) (di c2) (di e0) (di e1) (di e2);go_wp2;cases a6
   case true=>
    have aL:=an (show ei a b=(ei (a.drop 1) b).map (⟨pl,pb,ps⟩::·)by rw[MS];simp);clear MS;refine u' ?_;repeat(go_big_quiet_step ((go_at_call 224;exact kl (lQ _ _ _ _ L1))))
    refine zd ?_;intro w4 d os hw4 up4;clear hw4;clear x0 x1 x2 x3 x4 x5;obtain⟨c0,c1,c2,o4,ad⟩:=Cd (up4.cell c0) (up4.cell c1) (up4.cell c2) (HO.up up4) (upr.trans up4);go_wp2;go_region_law ((refine step_append_room pw rfl (.tmp 29) (.tmp 33) 88 rfl _ _ _ _ Aas hy g T z _ HZ rfl (o4.up ((Up.refl _).drew.alloc _)) _ _ rfl (rG _ _ rfl _ _ _) (z+1) y5 ae (bO ad.size ((Up.refl _).drew.alloc _).size) ?_;intro w5 aa _ ar));all_goals
     have ab:=(ad.drew.alloc _).aF ar (aE _);go_wp2;go_simp;exact⟨⟨_,_,_,_,_,⟨a.drop 1,b,out++[⟨pl,pb,ps⟩],aI,some ⟨bb,ob,none⟩,ka-1,kb,n',rfl,DA,RA,m,rfl,HM,HB,z+1,rfl,by rw[Aae,HZ.out];rfl,aa,by have:=aH.out;omega,by rw[aC.out,aL.out];cases ei (a.drop 1) b<;>simp⟩,rfl,rfl,rfl,rfl,rfl⟩,by have:=aH.out;show n'<n;omega⟩
   case false=>
    refine u' ?_;repeat(go_big_quiet_step ((go_at_call 224;exact kl (lQ _ _ _ _ L1))))
    refine zd ?_;intro w4 d os hw4 up4;clear hw4;clear x0 x1 x2 x3 x4 x5;obtain⟨c0,c1,c2,e0,e1,e2⟩:=sk (up4.cell c0) (up4.cell c1) (up4.cell c2) (up4.cell e0) (up4.cell e1) (up4.cell e2);obtain⟨x0,x1,x2,x3,x4,x5⟩:=sk (di c0) (di c1) (di c2) (di e0) (di e1) (di e2);go_wp2;cases a7
    case false=>
     have aL:=an (show ei a b=none by rw[MS];simp);clear MS;refine u' ?_;repeat(go_big_quiet_step ((go_at_call 224;exact kl (lQ _ _ _ _ L2))))
     refine yJ ?_;intro w5 av;obtain⟨⟨d,os⟩,hw4⟩:=av;have ab:Up w4 w5:=FW
     clear hw4;clear x0 x1 x2 x3 x4 x5;go_wp2;go_ret2;exact .inl ⟨by rw[aC.out,aL.out];rfl,rfl,upr.trans (up4.trans ab)⟩
    case true=>
     have aL:=an (show ei a b=(ei a (b.drop 1)).map (⟨ql,qb,qs⟩::·)by rw[MS];simp);clear MS;refine u' ?_;repeat(go_big_quiet_step ((go_at_call 224;exact kl (lQ _ _ _ _ L2))))
     refine yJ ?_;intro w5 av;obtain⟨⟨d,os⟩,hw4⟩:=av;have ab:Up w4 w5:=FW
     clear hw4;clear x0 x1 x2 x3 x4 x5;obtain⟨e0,e1,e2,o5,al⟩:=Cd (ab.cell e0) (ab.cell e1) (ab.cell e2) (HO.up (up4.trans ab)) (upr.trans (up4.trans ab));go_wp2;go_region_law ((refine step_append_room pw rfl (.tmp 45) (.tmp 49) 88 rfl _ _ _ _ Aas hy g T z _ HZ rfl (o5.up ((Up.refl _).drew.alloc _)) _ _ rfl (rG _ _ rfl _ _ _) (z+1) y5 ae (bO al.size ((Up.refl _).drew.alloc _).size) ?_;intro w6 aj _ aV));all_goals
      have aJ:Up w w6:=(al.drew.alloc _).aF aV (aE _);go_wp2;go_simp;exact⟨⟨_,_,_,_,_,⟨a,b.drop 1,out++[⟨ql,qb,qs⟩],some ⟨ba,oa,none⟩,aP,ka,kb-1,n,rfl,HN,HA,m',rfl,DB,RB,z+1,rfl,by rw[Aae,HZ.out];rfl,aj,by have:=aq.out;omega,by rw[aC.out,aL.out];cases ei a (b.drop 1)<;>simp⟩,rfl,rfl,rfl,rfl,rfl⟩,by have:=aq.out;show m'<m;omega⟩
  ·have Q:(decide ((0:Int)<(n:Int))=false/\decide (0<n)=false/\n=0)\/(decide ((0:Int)<(n:Int))=true/\decide (0<n)=true/\decide ((0:Int)<(m:Int))=false/\decide (0<m)=false/\m=0):=by
    by_cases ay:n=0
    ·exact .inl ⟨ao,ao,ay⟩
    ·exact .inr ⟨ao,ao,ao,ao,ae⟩
   have MF:ei a b=some (a++b):=by
    rcases Q with⟨_,_,h⟩|⟨_,_,_,_,h⟩
    ·have:a=[]:=qe.1 (by have:=HN.out;omega);rw[this,rA];rfl
    ·have:b=[]:=qe.1 (by have:=HM.out;omega);rw[this,Bd,Ab4]
   have aX:=an MF;clear MF h0 hn hm;rcases Q with⟨q1,q2,hq⟩|⟨q1,q2,q3,q4,hq⟩
   all_goals
    clear hq;go_wp2_with(at_builtin;refine eX pw rfl (.tmp 53) (.tmp 54) 88 rfl _ _ _ _ Aas hy g T z _ HZ rfl HO _ a rfl (aG.up HA upr) (z+n) (by rw[HZ.out,HN.out]) ae upr.size ?_);intro w5 aa _ ar;have ab:=upr.aF ar (aE _);go_wp2_with(at_builtin;refine eX pw rfl (.tmp 56) (.tmp 57) 88 rfl _ _ _ _ Aas hy g T _ _ (by rw[Aae,HZ.out,HN.out]) rfl aa _ b rfl (aG.up HB ab) T (by rw[Aae];have:=HZ.out;have:=HN.out;have:=HM.out;omega) ae ab.size ?_);intro w6 aj _ aV;go_wp2;go_ret2;refine .inr ⟨_,_,?_,rfl,aj,ab.aF aV (aE _)⟩;rw[aC.out,aX.out];simp
theorem LQ{s:Nat->Nat}(h:∀j,64*m<=j->j<64*(m+1)->s j≠1):gV s m=0:=by unfold gV;rw[qe,List.filter_eq_nil_iff];grind
theorem tT{s:Nat->Nat}:∀n,(∀j,j<n->gV s j=0)->gZ s (64*n)=0
 | 0,_=>by simp[gZ]
 | n+1,h=>by rw[tS,tT n (λj hj=>h j ae),h n ae]
def Zx(s:Nat->Nat)(b:Nat)(w:af)(e:Ab3)(w':af):Prop:=(∃i:Nat,i<1024/\s i=1/\e=.returned (.tuple #[.int .i64 (i:Int),.int .i64 0])/\cb w' b (fW s i 2)/\Touch (·=b) w w')\/(bj s=0/\e=.returned (.tuple #[.int .i64 0,.int .i64 71])/\w=w')
theorem BT(w:af)(b:Nat)(s:Nat->Nat)(S:cb w b s):Aaf Aag 157 #[pz b] w (Zx s b w):=by
 have HS:=an S;go_in;go_wp2_with refine cM 163 10 (xR s) S.Zj (hi:=(AH s)) ?_;go_loop [4,12] (λm i=>∃k q:Nat,k<=16/\q<16/\i=i6 k/\m=i6 q/\∀j,j<k->gV s j<=gV s q) (λ_ i=>16-(Aaq i).toNat)
 case atStart=>exact⟨0,0,ae,ae,rfl,rfl,λj hj=>ae⟩
 case round=>
  obtain⟨k,q,hk,hq,rfl,rfl,ad⟩:=hrel;have HA:=an ad;clear ad;by_cases hlt:k<16
  ·obtain⟨ix,c0⟩:=az ((AD s) k hlt) (HS.room hq);have b2:((k:Int)<16)=True:=by simp;omega
   have b3:((q:Int)<16)=True:=ao
   have HK:=an (show ∀j,j<k+1->j<k\/j=k from λj hj=>ae);generalize hx:gV s k=x at *;generalize hy:gV s q=y at *;obtain⟨HX,HY⟩:=aw hx hy;clear hx hy;by_cases bJ:y<x
   ·have t1:decide (y<x)=true:=by simp;omega
    have t2:decide ((y:Int)<(x:Int))=true:=ao
    go_wp2;go_round
    case rel=>exact⟨k+1,k,ae,hlt,aq,rfl,λj hj=>by
     rw[HX.out];rcases HK.out j hj with h|rfl
     ·have:=HA j h;omega
     ·rw[HX.out];exact aE _⟩
    case measure=>simp[Aaq];omega
   ·have t1:decide (y<x)=false:=by simp;omega
    have t2:decide ((y:Int)<(x:Int))=false:=ao
    go_wp2;go_round
    case rel=>exact⟨k+1,q,ae,hq,aq,rfl,λj hj=>by
     rw[HY.out];rcases HK.out j hj with h|rfl
     ·have:=HA j h;exact this
     ·rw[HX.out];omega⟩
    case measure=>simp[Aaq];omega
  ·obtain rfl:k=16:=by omega
   have b2:((16:Nat):Int)=16:=rfl;have t1:IntKind.i64.wrap ((q:Int)*64)=((64*q:Nat):Int):=by rw[show(q:Int)*64=((64*q:Nat):Int)from ae];exact bc _ ae
   go_wp2;go_loop [7] (λi=>∃k:Nat,64*q<=k/\k<=64*(q+1)/\i=i6 k/\∀j,64*q<=j->j<k->s j≠1) (λi=>64*(q+1)-(Aaq i).toNat)
   case atStart=>exact⟨64*q,ae,ae,fP,λj h1 h2=>ae⟩
   case round=>
    obtain⟨k,aj,aa,rfl,ay⟩:=hrel;have HN:=an ay;clear ay t1;have t3:IntKind.i64.wrap ((q:Int)+1)=((q+1:Nat):Int):=by rw[show(q:Int)+1=((q+1:Nat):Int)from ae];exact bc _ ae
    by_cases hlt:k<64*(q+1)
    ·have t5:decide ((k:Int)<((q:Int)+1)*64)=true:=by simp;omega
     have I:=zx w b s HS k 1;rw[rb s k 1 ae]at I;by_cases h3:s k=1
     ·rw[h3]at I;have H3:=an h3;clear h3;go_wp2_with fail;refine I.mono ?_;rintro e w1⟨rfl,rfl⟩;go_wp2_with fail;refine(vG w b s HS k 2 ae).mono ?_;rintro e w1⟨rfl,S1,T1⟩;go_wp2;go_ret2;exact .inl ⟨k,ae,H3,rfl,S1,T1⟩
     ·rw[jb h3]at I;have H3:=an h3;clear h3;go_wp2_with fail;refine I.mono ?_;rintro e w1⟨rfl,rfl⟩;go_wp2;go_round
      case rel=>exact⟨k+1,ae,ae,aq,λj h1 h2=>by
       by_cases e:j=k
       ·subst e;exact H3
       ·exact HN j h1 ae⟩
      case measure=>simp[Aaq];omega
    ·obtain rfl:k=64*(q+1):=by omega
     have t5:decide (((64*(q+1):Nat):Int)<((q:Int)+1)*64)=false:=ao
     go_wp2;go_ret2;refine .inr ⟨?_,rfl,rfl⟩;refine tT 16 (λj hj=>?_);have:=HA j hj;rw[LQ HN.out]at this;omega
theorem zW{s:Nat->Nat}(hi:i<1024)(h:s i=1):bj (fW s i 2)+1=bj s:=by have:=Al (n:=1024) (λk=>decide (fW s i 2 k=1)) (λk=>decide (s k=1)) i (λk hk=>by simp[fW,hk]);grind [fW,bj,gZ]
def fv(s:Nat->Nat)(l:List Nat):Nat->Nat:=λi=>if i∈l then 2 else s i
theorem Js(s:Nat->Nat)(l:List Nat)(i:Nat):fW (fv s l) i 2=fv s (l++[i]):=by grind [fW,fv]
def QG(n:Nat):ah:=.int .i64 (n:Int)
def Vt(n:Nat):(QG n).oneCell'=true:=rfl
theorem Touch.hp{F:Nat->Prop}{w w1 w2:af}(T:Touch F w w1){row:Option Nat}(hg:w1.grownBy w2 row)(hr:∀k,row=some k->w.heap.size<=k):Touch F w w2:=⟨by rw[hg.os,T.os],by rw[hg.tape,T.tape],by rw[hg.output,T.output],bO T.size hg.size,λk hk hF=>by
  rw[hg.block k (eh hk T.size) (λe=>aP),T.block k hk hF]⟩
def Touch.iD{F:Nat->Prop}{w w1 w2:af}(T:Touch F w w1)(U:Up w1 w2):Touch F w w2:=T.trans (Touch.bV (F:=F) U) (λ_ h _=>h)
theorem Own.ax{f:α->ah}{w w':af}{v:ah}{xs:List α}(h:Own f e w base v xs){F:Nat->Prop}(ht:Touch F w w')(hf:∀b,v.ownBlock=some b->¬F b):Own f e w' base v xs:=by
 obtain⟨h1,h2⟩:=h;refine⟨h1,?_⟩;rcases h2 with h2|⟨g,cap,cur,hv,hg,hh,r⟩
 ·simp_all
 ·have hlt:g<w.heap.size:=(qf.1 hh).1;exact Ow
def aaL(s:Nat->Nat)(b n:Nat)(w:af)(e:Ab3)(w':af):Prop:=(bj s<n/\e=.returned (.tuple #[.slice none 0 0,.int .i64 71])/\w=w')\/(n<=bj s/\∃(l:List Nat)(v:ah),κ l=n/\l.Nodup/\(∀i∈l,i<1024/\s i=1)/\e=.returned (.tuple #[v,.int .i64 0])/\Own QG 3 w' w.heap.size v l/\cb w' b (fv s l)/\Touch (·=b) w w')
def Dd(s:Nat->Nat):bj s<=1024:=zX s 1024
theorem Rv(w:af)(b:Nat)(s:Nat->Nat)(S:cb w b s)(n:Nat)(hn:n<=100000):Aaf Aag 213 #[pz b,i6 (n:Int)] w (aaL s b n w):=by
 obtain⟨HC,HS⟩:=aw (mq w b s S) S;obtain⟨hc,aT⟩:=az (Dd s) (a7.lt S);generalize al:bj s=c at *;have aL:=an al;clear al;by_cases hlt:c<n
 ·have t1:decide (c<n)=true:=by simp;omega
  have t2:decide ((c:Int)<(n:Int))=true:=ao
  go_in;go_wp2_with fail;refine HC.mono ?_;rintro e w1⟨rfl,rfl⟩;go_wp2;go_ret2;exact .inl ⟨cr,rfl,rfl⟩
 ·have t1:decide (c<n)=false:=by simp;omega
  have t2:decide ((c:Int)<(n:Int))=false:=ao
  go_in;go_wp2_with fail;refine HC.mono ?_;rintro e w1⟨rfl,rfl⟩;go_wp2;clear t1 t2;go_loopw [6] (λv wr=>∃l:List Nat,κ l<=n/\l.Nodup/\(∀i∈l,i<1024/\s i=1)/\bj (fv s l)+κ l=c/\Own QG 3 wr w.heap.size v l/\cb wr b (fv s l)/\Touch (·=b) w wr) (λv _=>n-TO v)
  case atStart=>exact⟨[],aq,aq,aq,cq,Own.nil _ _ _ _,cq,Touch.refl _ _⟩
  case round=>
   obtain⟨l,hl,aB,aS,aR,hown,hS,ht⟩:=hrel;obtain⟨ag,bC⟩:=aw aS aR;clear aS aR;obtain⟨va,vc,rfl⟩:=(Own.cv hown).slice;by_cases hk:κ l<n
   ·have b2:decide (κ l<n)=true:=by simp;omega
    have b3:decide ((κ l:Int)<(n:Int))=true:=ao
    go_wp2_with fail;refine(BT _ b _ hS).mono ?_;rintro e w1(⟨i,hi,ab,rfl,S1,T1⟩|⟨h0,_,_⟩)
    ·have aH:¬i∈l:=λh=>by unfold fv at ab;rw[bp h]at ab;cases ab
     have ah:s i=1:=by unfold fv at ab;rwa [aO aH]at ab
     have ad:=zW hi ab;rw[Js]at S1 ad;obtain⟨ak,aG,aj⟩:=aW ad aH ah;have aQ:=λk hk=>(hown.aJ k hk).1;obtain⟨bl,aM⟩:=aw (ht.trans T1 (λn h _=>h)) aQ;clear ad ab aH ah;have n1:(κ l + [i].length)*8<=140737488355328:=ao
     have n2:κ l + [i].length<=9223372036854775807:=ae
     have n3:w.heap.size<=(w1.alloc (.cells #[i6 (i:Int)] 3)).heap.size:=by rw[Aa4];have:=bl.size;omega
     go_wp2_with(at_builtin;refine bf QG Vt rfl (.tmp 25) (.tmp 27) 41 rfl w.heap.size 3 (i6 0) 8 underlying41 AG rfl _ l rfl ((Own.ax hown T1 (λk hk e=>aP)).up (ai w1 _)) (cC w1.heap.size 1 1) [i] rfl (aC.lit w1 #[i6 (i:Int)] 3 (0,0) [i] 1 rfl av rfl) n1 n2 n3 ?_);intro v6 w6 aa ay aK;obtain⟨ba,bb,rfl⟩:=(Own.cv aa).slice;go_wp2;go_roundw
     case rel=>exact⟨l++[i],ao,by rw[uB];exact⟨aB,aq,λx hx y hy=>by simp at hy;subst hy;rintro rfl;exact aG hx⟩,λx hx=>by
      rcases Aa3.1 hx with h|h
      ·exact ag x h
      ·simp at h;subst h;exact⟨hi,aj⟩,by have:=ak.out;have:=bC.out;simp;omega,aa,(a7.grown (a7.up S1 (ai _ _)) ay (λe=>aP)),((bl.iD (ai _ _)).hp ay aM)⟩
     case measure=>simp[TO];omega
    ·simp only[Hid]at *;omega
   ·have b2:decide (κ l<n)=false:=by simp;omega
    have b3:decide ((κ l:Int)<(n:Int))=false:=ao
    go_wp2;go_ret2;exact .inr ⟨cr,l,_,ae,aB,ag,rfl,hown,hS,ht⟩
def nq(s:Nat->Nat)(x n:Nat):List Int:=((Aal n).filter (λi=>decide (s i=x))).map (λi:Nat=>(i:Int))
theorem QR{s:Nat->Nat}{x n:Nat}(h:s n=x):nq s x (n+1)=nq s x n++[(n:Int)]:=T0
theorem VD{s:Nat->Nat}{x n:Nat}(h:s n≠x):nq s x (n+1)=nq s x n:=T0
theorem GF(s:Nat->Nat)(x n:Nat):κ (nq s x n)<=n:=by grind [nq]
def qK(s:Nat->Nat)(x:Nat):List bJ:=jT (nq s x 1024)
theorem V2(w:af)(b:Nat)(s:Nat->Nat)(S:cb w b s)(x:Nat):Aaf Aag 280 #[pz b,.int .u8 (x:Int)] w λe w'=>∃u,e=.returned u/\hV w' w.heap.size u (qK s x)/\Up w w':=by
 have HS:=an S;go_in;go_wp2;go_loopw [5,7] (λv i wr=>∃k:Nat,k<=1024/\i=i6 k/\Own bA 3 wr w.heap.size v (nq s x k)/\Up w wr) (λ_ i _=>1024-(Aaq i).toNat)
 case atStart=>exact⟨0,ae,rfl,Own.nil _ _ _ _,Up.refl _⟩
 case round=>
  obtain⟨k,hk,rfl,hown,upr⟩:=hrel;obtain⟨HOWN,UR⟩:=aw hown upr;have aS:=GF s x k;obtain⟨va,vc,rfl⟩:=(Own.cv HOWN).slice;by_cases hlt:k<1024
  ·have I:=zx wr b _ (HS.up UR) k x;rw[rb _ k x hlt]at I;have b2:((k:Int)<1024)=True:=by simp;omega
   by_cases h3:s k=x
   ·rw[fm h3]at I;have HN:=an (QR h3);clear h3;generalize nq s x k=l at *;have n1:(κ l + [(k:Int)].length)*8<=140737488355328:=by simp;omega
    have n2:κ l + [(k:Int)].length<=9223372036854775807:=ae
    have n3:w.heap.size<=(wr.alloc (.cells #[i6 (k:Int)] 3)).heap.size:=by rw[Aa4];have:=UR.size;omega
    go_wp2_with fail;refine I.mono ?_;rintro e w1⟨rfl,rfl⟩;go_wp2_with(at_builtin;refine bf bA p' rfl (.tmp 14) (.tmp 16) 41 rfl w.heap.size 3 (i6 0) 8 underlying41 AG rfl _ l rfl (HOWN.up (ai wr _)) (cC wr.heap.size 1 1) [(k:Int)] rfl (aC.lit wr #[i6 (k:Int)] 3 (0,0) [(k:Int)] 1 rfl av rfl) n1 n2 n3 ?_);intro v6 w6 aa ay aK;have HO:=an aa;go_wp2;go_roundw
    case rel=>exact⟨k+1,ae,aq,by rw[HN.out];exact HO,((UR.trans (ai wr _)).aF aK (aE _))⟩
    case measure=>simp[Aaq];omega
   ·rw[jb h3]at I;have HN:=an (VD h3);clear h3;generalize nq s x k=l at *;go_wp2_with fail;refine I.mono ?_;rintro e w1⟨rfl,rfl⟩;go_wp2;go_roundw
    case rel=>exact⟨k+1,ae,aq,by rw[HN.out];exact HOWN,UR⟩
    case measure=>simp[Aaq];omega
  ·obtain rfl:k=1024:=by omega
   have b2:((1024:Nat):Int)=1024:=rfl;have O:=an (tz wr _ _ (Own.cv HOWN));clear aS;generalize hl:nq s x 1024=l at *;have HL:=an hl;clear hl;go_wp2_with fail;refine O.mono ?_;rintro e w1⟨u,rfl,own,up1⟩;go_wp2_with fail;go_ret;exact⟨_,rfl,by unfold qK;rw[HL.out];exact own.mono UR.size,UR.trans up1⟩
theorem Cb(w:af)(b:Nat)(s:Nat->Nat)(S:cb w b s):Aaf Aag 258 #[pz b] w λe w'=>∃u,e=.returned u/\hV w' w.heap.size u (qK s 2)/\Up w w':=by have HS:=an (V2 w b s S 2);go_in;go_wp2_with fail;refine HS.mono ?_;rintro e w1⟨u,rfl,own,up1⟩;go_wp2;go_ret;exact⟨_,rfl,own,up1⟩
def gE:Int->List bJ->Int
 | e,[]=>e
 | _,s::l=>gE (s.st+s.len) l
theorem jR:∀(e:Int)(l m:List bJ),cj e (l++m)=(cj e l && cj (gE e l) m)
 | e,[],m=>by simp[cj,gE]
 | e,s::l,m=>by simp only[Aa2,cj,gE];rw[jR (s.st+s.len) l m];simp only[Bool.and_assoc]
def fZ:∀(e:Int)(l:List bJ)(s:bJ),gE e (l++[s])=s.st+s.len
 | e,[],s=>rfl
 | e,t::l,s=>fZ _ l s
theorem qx(l:List bJ)(s:bJ):cU (l++[s])=cU l++(Aal s.len.toNat).map (λk:Nat=>s.st+(k:Int)):=by simp[cU]
theorem C2(l:List bJ)(s:bJ)(n:Nat):r2 (l++[s]) n=if s.st+s.len=(n:Int)then l++[⟨s.st,s.len+1⟩] else l++[s]++[⟨n,1⟩]:=by simp[r2]
theorem jt(f:Nat->Bool):∀n,n<=4096->cj (-1) (aB f n)=true/\gE (-1) (aB f n)<=n/\cU (aB f n)=((Aal n).filter f).map (λi:Nat=>(i:Int))
 | 0,_=>by simp[aB,cj,gE,cU]
 | n+1,hn=>by
  obtain⟨h1,h2,h3⟩:=jt f n ae;rw[aB,Ab0,kh,Aao];by_cases hf:f n=true
  ·rw[bp hf];rw[show [n].filter f=[n] by simp[hf]];rcases Fp (aB f n)with hl|⟨l,s,hl⟩
   ·rw[hl]at h3 ⊢;rw[<-h3];have e:r2 [] n=[⟨(n:Int),1⟩]:=rfl;rw[e];refine⟨?_,by simp[gE],by simp[cU]⟩;simp[cj,gH];omega
   ·rw[Fq]at hl;rw[hl]at h1 h2 h3 ⊢;rw[jR,Aa8]at h1;obtain⟨h4,h5⟩:=h1;rw[fZ]at h2;simp only[cj,Bool.and_true,Aa8,decide_eq_true_eq]at h5;obtain⟨h6,h7⟩:=h5;have h8:=(dZ s.st s.len).1 h6;rw[C2,<-h3];by_cases he:s.st+s.len=(n:Int)
    ·rw[bp he];refine⟨?_,by rw[fZ];simp only;omega,?_⟩
     ·rw[jR,Aa8];refine⟨h4,?_⟩;simp only[cj,Bool.and_true,Aa8,decide_eq_true_eq];exact⟨(dZ _ _).2 ae,h7⟩
     ·rw[qx,qx];simp only;rw[show(s.len+1).toNat=s.len.toNat+1 from ae,Ab0,Aao,Abe];congr 2;simp;omega
    ·rw[aO he];refine⟨?_,by rw[fZ];simp,?_⟩
     ·rw[jR,jR,fZ,h4];simp only[cj,Bool.true_and,Bool.and_true,Aa8,decide_eq_true_eq];exact⟨⟨h6,h7⟩,(dZ _ _).2 ae,ae⟩
     ·rw[qx];simp
  ·rw[aO hf];rw[show [n].filter f=[] by simp[hf]];exact⟨h1,ae,by rw[h3];simp⟩
theorem qc(f:Nat->Bool):cI (aB f 4096)=((Aal 4096).filter f).map (λi:Nat=>(i:Int)):=by simp[jt,cI]
theorem Tx(s:Nat->Nat)(x i:Nat):r7 (nq s x 1024) i=decide (i<1024/\s i=x):=by grind [r7,nq]
theorem rT(s:Nat->Nat)(x:Nat):qK s x=aB (λi=>decide (i<1024/\s i=x)) 4096:=by unfold qK jT;congr 1;grind [Tx]
theorem EU(s:Nat->Nat)(x:Nat)(n:Int):n∈cI (qK s x)↔∃i:Nat,n=i/\i<1024/\s i=x:=by grind [rT,qc]
theorem Tv{l:List Int}(hs:l.Pairwise (· < ·)){n:Int}(hn:n∈l):H9 l n=true:=by
 unfold H9;cases h:l.find? (λk=>decide (n<=k))with
 | none=>grind
 | some k=>
  simp only[beq_iff_eq];obtain⟨hk,ms,bs,hl,ay⟩:=List.find?_eq_some_iff_append.1 h;simp only[decide_eq_true_eq]at hk;rw[hl]at hn hs;rcases Aa3.1 hn with h1|h1
  ·grind
  ·rcases Aak.1 h1 with h1|h1
   ·omega
   ·have:=(fk.1 (A3.1 hs).2.1).1 n h1;omega
theorem uu(f:Nat->Bool):(cI (aB f 4096)).Pairwise (· < ·):=by rw[qc,List.pairwise_map];refine List.Pairwise.imp (R:=λa b:Nat=>a<b) (λh=>ae) ?_;exact List.Pairwise.filter _ List.pairwise_lt_range
section
open Go.Shelf
attribute [local go_sem] km
def oB(a b:List Int)(i:Nat):Bool:=r7 a i && !r7 b i
theorem PQ(a b:List Int)(x:Int)(i:Nat):oB a (b++[x]) i=(if(i:Int)=x then false else oB a b i):=by grind [oB,AA]
theorem xV(w:af)(va vb:ah)(la lb:List bJ)(ha:dV w va la)(ar:∀a m c,va=.slice (some a) m c->a.block<w.heap.size)(hv:dV w vb lb)(hb:∀a m c,vb=.slice (some a) m c->a.block<w.heap.size):Aaf Aag 289 #[va,vb] w λe w'=>∃u,e=.returned u/\hV w' w.heap.size u (aB (oB (cI la) (cI lb)) 4096)/\Up w w':=by
 obtain⟨a1,au,rfl⟩:=ha.slice;obtain⟨a,cap,rfl⟩:=hv.slice;refine rq ?_;intro h1;refine oK func289 rfl trivial ?_ rfl;simp only[ntmps289,Abj,Aaj,Aa5,Nat.reduceAdd,Nat.reduceSub,Aa9,Aba,Abk,Abc,Aa0,Aa2];gi_wp2_with(refine⟨trivial,?_⟩;first|(gi_at_call 228;refine(fG.2 (ua _ _ _ _)).mono ?_;rintro e w' ⟨rfl,rfl⟩)|(gi_at_call 295;refine(fG.2 (G7 w _ la ha ar)).mono ?_;rintro e w1 ⟨rfl,hM,up1⟩));have aD:w.heap.size<w1.heap.size:=hM.lt;obtain⟨c1,c2⟩:=az (dj w1 (pz w.heap.size) 288) (dj (w1.alloc (.cells #[pz w.heap.size] 288)) (.slice a (κ lb) cap) 63);simp only[Aa4]at c2;have al:Up w1 ((w1.alloc (.cells #[pz w.heap.size] 288)).alloc (.cells #[.slice a (κ lb) cap] 63)):=(ai _ _).alloc _;have ab:pK ((w1.alloc (.cells #[pz w.heap.size] 288)).alloc (.cells #[.slice a (κ lb) cap] 63)) w.heap.size (oB (cI la) []):=a7.congr (hM.up al) (λi _=>by simp[oB,r7]);have ay:Below w.heap.size w ((w1.alloc (.cells #[pz w.heap.size] 288)).alloc (.cells #[.slice a (κ lb) cap] 63)):=up1.trans al;refine wB (F:=Abw) rfl h1 (gf:=264) (lb:=#[pz (w1.heap.size+1)]) rfl trivial (enters_of func264 aA rfl) (xr 5 ae (w1.heap.size+1) w.heap.size _ lb _ aq c2.1 (aG.up hv ay) hb) c'.trans jB (e7 _ _) (λ_=>rfl) (λpre W=>(W.cell? ⟨w1.heap.size,0,none⟩=some (pz w.heap.size)/\pK W w.heap.size (oB (cI la) (pre.map (·.1))))/\Below w.heap.size w W) (λ_ _ _=>False) (nL (nL (Own.from (λs A B row hs hg hr=>lg hs hg hr) _) (Own.from (xk w.heap.size 4096 212 (λ(pre:List Num) i=>.bool (oB (cI la) (pre.map (·.1)) i))) _)) (oL (aE _) ao)) (λ_ _ _ _ _ hs _ _=>hs) ⟨⟨bF _ c1.1,ab⟩,ay⟩ (λx=>{tmps:=#[.slice a1 (κ la) au,.slice a (κ lb) cap,Aat,Aat,nl,pz w1.heap.size,i6 x.1,.slice a1 (κ la) au,pz w.heap.size,.slice a (κ lb) cap,.func (.func 264) #[] #[pz (w1.heap.size+1)],i6 x.1,Aat,Aat,Aat,Aat,Aat,Aat],defers:=[]}) ?assign ?body ?done ?stop
 case assign=>exact lE
 case body=>
  rintro l' pre⟨x,aa,ad⟩W⟨⟨hp,hI⟩,hB⟩_;obtain⟨n,rfl⟩:=ja aa;have hn:n<4096:=ae
  obtain⟨c0,f0⟩:=az (hI.cell hn) (hI.free n);gi_wp2;refine⟨qk _ _ _,AQ hI (λh=>h.elim (λh=>ae) av) _ _,⟨?_,a7.congr (hI.set hn (.bool false)) (λi hi=>by rw[Aao,yW,PQ];by_cases e:i=n<;>simp[e];intro h;omega)⟩,hB.setCell (p:=⟨w.heap.size,n,none⟩) (aE _) _⟩;exact(World.cell?_setCell_other _ _ _ _ aq).trans hp
 case done=>rintro D ys W hD aF⟨⟨hp,hI⟩,hB⟩hK;rw[aF]at hI;gi_wp2_with(refine⟨trivial,?_⟩;gi_at_call 123;refine(fG.2 (D4 W w.heap.size _ hI)).mono ?_;rintro e w9 ⟨u,rfl,own,aj⟩);have an:D<W.heap.size:=(qf.1 hK).1;have ag:w9.heap[D]?=some (.deferred (some [])):=(oH aj D an).trans hK;refine⟨aq,.inl ⟨_,_,rfl,Fl ag,?_⟩⟩;refine⟨_,sR rfl _ _ _,u,rfl,ak.mono (ownsRow_putObj own _ ag rfl) hB.size,(hB.trans (aj.mono hB.size)).trans (oM (w:=w) (aE _) w9 D _ _ qn ag rfl rfl)⟩
 case stop=>simp
end
def toStr(w:af)(v:ah)(l:List aj)(h:aY w v l):(convert 30 9 v).run Aag w=.ok (.string (strOf l)) w:=lv 30 5 Aau underlying5 9 underlying9 w v l h
theorem Tq(p:au)(hp:p.wf)(hg:cw p=true):nr j3 (BH p)/\p.loc=(p.loc.toNat:Int):=by obtain⟨l,b,s⟩:=p;obtain⟨n,rfl,hn⟩:=H7 hg;exact⟨DJ n b s hn hp.2.1 hp.2.2,aq⟩
theorem nv(p:au)(hp:p.wf)(hg:cw p=true):mi (bM p)=some p:=by
 have h1:=Tq p hp hg;have hl:κ (bM p)=16:=aA
 have h2:c8 j3 (bM p)=BH p:=q5 j3 (BH p) h1.1.1 h1.1.2.2;rw[p4 _ hl]at h2;have h3:mg (bM p)=p:=by obtain⟨l,b,s⟩:=p;grind [BH,mg]
 grind [mi]
theorem HH(l:List aj)(p:au)(h:mi l=some p):p.wf/\cw p=true/\bM p=l:=by
 unfold mi at h;split at h
 ·rename_i hh;simp only[Aai]at h;subst h;refine NH ?_;intro q1 q2 q3;refine⟨⟨⟨?_,?_⟩,q2,q3⟩,hh.2,?_⟩
  ·simp[mg]
  ·grind [mg]
  ·have h3:=OV j3 l (by rw[hh.1];rfl);grind [p4,bM,BH,mg]
 ·cases h
structure hL where
 du:Nat
 ay:Nat
 iL:au
 len:Int
 sec:Int
deriving DecidableEq
def hL.wf(u:hL):Prop:=u.du<18446744073709551616/\u.ay<18446744073709551616/\u.iL.wf/\(-9223372036854775808<=u.len/\u.len<=9223372036854775807)/\(-9223372036854775808<=u.sec/\u.sec<=9223372036854775807)
def uC(u:hL):Array ah:=#[.int .u64 (u.du:Int),.int .u64 (u.ay:Int),.int .i64 u.iL.loc,.int .u64 (u.iL.aV:Int),.int .u32 (u.iL.sum:Int),.int .i64 u.len,.int .i64 u.sec]
def fR(u:hL):List ah:=(uC u).toList
def YM(u:hL):(uC u).size=7:=rfl
theorem xb(u:hL):(uC u).all (·.oneCell')=true:=by simp[uC,Ac9]
theorem uw:gi fR 7:=⟨ae,λ_=>rfl,λu v hv=>by have:=xb u;rw[Fb]at this;exact this v (by grind [fR])⟩
theorem EL(u:hL):(prog.info? 122).map (·.size)=some (uC u).size:=aA
theorem x0{du ay:Nat}{iL:au}{len sec:Int}(h:aI w g t (uC ⟨du,ay,iL,len,sec⟩)):w.cell? (ad g 0)=some (u6 (du:Int))/\w.cell? (ad g 1)=some (u6 (ay:Int))/\w.cell? (ad g 2)=some (i6 iL.loc)/\w.cell? (ad g 5)=some (i6 len)/\w.cell? (ad g 6)=some (i6 sec)/\Hid (w.rangeAt g 2 (a6 iL).toList):=⟨jH,jH,jH,jH,jH,an λj v hj=>by
  rw[h.cell];match j,hj with
  | 0,hj=>exact hj
  | 1,hj=>exact hj
  | 2,hj=>exact hj
  | (n+3),hj=>simp[a6]at hj⟩
def eW(u:hL):Bool:=decide (1<=u.du) && decide (u.du<=281474976710655) && decide (1<=u.ay) && decide (u.ay<=281474976710655) && cw u.iL && !decide (u.iL=hole) && decide (1<=u.len) && decide (u.len<=65535) && decide (64<=u.sec) && decide (u.sec<=1024)
theorem kD(u:hL):eW u=true↔(1<=u.du/\u.du<=281474976710655)/\(1<=u.ay/\u.ay<=281474976710655)/\(cw u.iL=true/\u.iL≠hole)/\(1<=u.len/\u.len<=65535)/\(64<=u.sec/\u.sec<=1024):=by grind [eW]
theorem Ml(w:af)(u:hL):Aaf Aag 261 #[.agg (uC u)] w λe w'=>k8 (eW u) w e w':=by
 obtain⟨B1,U1,PR,IFF⟩:=bS (aI.new w 122 (uC u)) (ai w (.cells (uC u) 122)) (λW=>oa W u.iL) (kD u);obtain⟨du,ay,iL,len,sec⟩:=u;dsimp only at PR IFF;have PV:fQ iL=.agg (a6 iL):=rfl;rw[PV]at PR;clear PV;obtain⟨c0,c1,c2,c5,c6,R2⟩:=x0 B1;by_cases h0:1<=du;rotate_left
 ·have b0:((1:Int)<=(du:Int))=False:=by simp;omega
  have HF:=an (show eW ⟨du,ay,iL,len,sec⟩=false by refine dY ?_;intro hh;exact absurd hh.1.1 ae)
  exact ze
 have b0:((1:Int)<=(du:Int))=True:=ao
 by_cases h1:du<=281474976710655;rotate_left
 ·have b1:((du:Int)<=(281474976710655:Int))=False:=by simp;omega
  have HF:=an (show eW ⟨du,ay,iL,len,sec⟩=false by refine dY ?_;intro hh;exact absurd hh.1.2 ae)
  exact ze
 have b1:((du:Int)<=(281474976710655:Int))=True:=ao
 by_cases h2:1<=ay;rotate_left
 ·have b2:((1:Int)<=(ay:Int))=False:=by simp;omega
  have HF:=an (show eW ⟨du,ay,iL,len,sec⟩=false by refine dY ?_;intro hh;exact absurd hh.2.1.1 ae)
  exact ze
 have b2:((1:Int)<=(ay:Int))=True:=ao
 by_cases h3:ay<=281474976710655;rotate_left
 ·have b3:((ay:Int)<=(281474976710655:Int))=False:=by simp;omega
  have HF:=an (show eW ⟨du,ay,iL,len,sec⟩=false by refine dY ?_;intro hh;exact absurd hh.2.1.2 ae)
  exact ze
 have b3:((ay:Int)<=(281474976710655:Int))=True:=ao
 go_in;go_wp2_with(refine arm ?_);refine(PR _).mono ?_;rintro e w2⟨rfl,U2⟩;have U3:=an (U1.trans U2);clear c0 c1 c2 c5 c6;obtain⟨c0,c1,c2,c5,c6,R2⟩:=x0 (B1.up U2);clear PR;cases hg:cw iL
 ·have HF:=an (show eW ⟨du,ay,iL,len,sec⟩=false by refine dY ?_;intro hh;have:=hh.2.2.1.1;rw[hg]at this;cases this)
  clear hg;go_wp2;go_ret;exact⟨A9,U3⟩
 have HG:=an hg;clear hg;have EQ:∀W:af,(Ac3 10000 87 (.agg (a6 iL)) (.agg #[i6 0,u6 0,.int .u32 0])).run Aag W=.ok (decide (iL=hole)) W:=λW=>GP 9998 iL hole W;by_cases hh:iL=hole
 ·have HF:=an (show eW ⟨du,ay,iL,len,sec⟩=false by rw[<-wv,IFF.out];intro h;exact h.2.2.1.2 hh)
  rw[fm hh]at EQ;clear hh;exact rp
 have HH:=an hh;rw[jb hh]at EQ;clear hh;by_cases h4:1<=len;rotate_left
 ·have b4:((1:Int)<=len)=False:=by simp;omega
  have HF:=an (show eW ⟨du,ay,iL,len,sec⟩=false by refine dY ?_;intro hh;exact absurd hh.2.2.2.1.1 ae)
  exact rp
 have b4:((1:Int)<=len)=True:=ao
 by_cases h5:len<=65535;rotate_left
 ·have b5:(len<=65535)=False:=by simp;omega
  have HF:=an (show eW ⟨du,ay,iL,len,sec⟩=false by refine dY ?_;intro hh;exact absurd hh.2.2.2.1.2 ae)
  exact rp
 have b5:(len<=65535)=True:=ao
 by_cases h6:64<=sec;rotate_left
 ·have b6:((64:Int)<=sec)=False:=by simp;omega
  have HF:=an (show eW ⟨du,ay,iL,len,sec⟩=false by refine dY ?_;intro hh;exact absurd hh.2.2.2.2.1 ae)
  exact rp
 have b6:((64:Int)<=sec)=True:=ao
 by_cases h7:sec<=1024;rotate_left
 ·have b7:(sec<=1024)=False:=by simp;omega
  have HF:=an (show eW ⟨du,ay,iL,len,sec⟩=false by refine dY ?_;intro hh;exact absurd hh.2.2.2.2.2 ae)
  exact rp
 have b7:(sec<=1024)=True:=ao
 have HF:=an (show eW ⟨du,ay,iL,len,sec⟩=true from IFF.2 ⟨⟨h0,h1⟩,⟨h2,h3⟩,⟨HG,HH⟩,⟨h4,h5⟩,⟨h6,h7⟩⟩);exact rp
def pR(n:Nat):Nat:=if n%2=1 then(n/2)^^^2197175160 else n/2
def mR:Nat->Nat->Nat
 | 0,n=>n
 | k+1,n=>pR (mR k n)
def q2(n:Nat)(c:aj):Nat:=mR 8 (n^^^c.toNat)
def iS(n:Nat)(l:List aj):Nat:=l.foldl q2 n
def gD(s:Nat)(l:List aj):Nat:=4294967295-iS (4294967295-s) l
theorem PJ(h:n<4294967296):pR n<4294967296:=by
 unfold pR;split
 ·have:(n/2)^^^2197175160<2 ^ 32:=Fh ae ae;omega
 ·omega
theorem zY(k:Nat)(h:n<4294967296):mR k n<4294967296:=by
 induction k with
 | zero=>exact h
 | succ k ih=>exact PJ ih
theorem Kc(c:aj)(h:n<4294967296):q2 n c<4294967296:=by unfold q2;have hc:=c.toNat_lt;have:n^^^c.toNat<2 ^ 32:=Fh ae ae;grind [zY]
theorem Kd(l:List aj):∀{n:Nat},n<4294967296->iS n l<4294967296:=by
 induction l with
 | nil=>exact λh=>h
 | cons c l ih=>exact λh=>ih (Kc c h)
theorem EC(n:Nat)(l:List aj)(c:aj):iS n (l++[c])=q2 (iS n l) c:=by simp[iS]
theorem Ke(s:Nat)(l:List aj):gD s l<4294967296:=by grind [gD]
theorem Hf:IntKind.u32.max=4294967295:=av
theorem RJ(l:List α)(k:Nat)(h:k<κ l):l.take (k+1)=l.take k++[l[k]]:=aq
theorem W9(n:Nat):n&&&1=n%2:=aq
theorem QE(s:Nat)(hs:s<4294967296)(l:List aj)(b off cap:Nat)(w:af)(hl:κ l<=9223372036854775807)(hc:∀i(h:i<κ l),w.cell? (ad b (off+i))=some (.int .u8 (l[i].toNat:Int))):Aaf Aag 231 #[.int .u32 (s:Int),sq b off (κ l) cap] w λe w'=>e=.returned (.int .u32 (gD s l:Nat))/\w=w':=by
 have Hc:=an hc;clear hc;obtain⟨n0,ay⟩:=bE (4294967295-s);have ak:n0<4294967296:=ae
 have e0:bits .xor .u32 IntKind.u32.max (s:Int)=(n0:Int):=by rw[Hf,ay];exact zy s hs
 have ar:=an ay;clear ay;go_in;go_wp2;clear e0;go_loop [0,12] (λr i=>∃k:Nat,k<=κ l/\i=i6 k/\r=.int .u32 (iS n0 (l.take k):Nat)) (λ_ i=>κ l-(Aaq i).toNat)
 case atStart=>exact⟨0,bG _,rfl,rfl⟩
 case round=>
  obtain⟨k,hk,rfl,rfl⟩:=hrel;have ah:iS n0 (l.take k)<4294967296:=Kd _ ak;by_cases hlt:k<κ l
  ·have ai:=Hc k hlt;obtain⟨m,hm⟩:=bE (iS n0 (l.take k));have hsn:iS n0 (l.take (k+1))=q2 m l[k]:=by rw[RJ l k hlt,EC,hm]
   obtain⟨c,aR⟩:=bE (l[k]);rw[<-aR]at hsn ai;have aq:c.toNat<256:=c.toNat_lt;rw[<-hm]at ah ⊢;have hx:m^^^c.toNat<4294967296:=by have:m^^^c.toNat<2 ^ 32:=Fh ae ae;omega
   unfold q2 at hsn;obtain⟨x,aa⟩:=bE (m^^^c.toNat);have e1:bits .xor .u32 (m:Int) (c.toNat:Int)=(x:Int):=by rw[aa];exact u32_xor_nat _ _ ah ae
   rw[<-aa]at hsn hx;have aL:=an hsn;clear hm hsn aR aa;go_wp2;clear e1 ai;go_loop [0,20] (λr i=>∃j:Nat,j<=8/\i=i6 j/\r=.int .u32 (mR j x:Nat)) (λ_ i=>8-(Aaq i).toNat)
   case atStart=>exact⟨0,ae,rfl,rfl⟩
   case round=>
    obtain⟨j,hj,rfl,rfl⟩:=hrel;by_cases ag:j<8
    ·have hb:mR j x<4294967296:=zY j hx;have aJ:mR (j+1) x=pR (mR j x):=rfl;obtain⟨y,hy⟩:=bE (mR j x);rw[<-hy]at hb aJ ⊢;have aG:=an aJ;clear aJ hy;have e1:bits .and .u32 (y:Int) 1=((y%2:Nat):Int):=by have:=u32_and_nat y 1 hb ae;rw[W9]at this;exact this
     have e3:bits .xor .u32 ((y:Int)/2) 2197175160=(((y/2)^^^2197175160:Nat):Int):=by have:=u32_xor_nat (y/2) 2197175160 ae ae;rw[Int.natCast_ediv]at this;exact this
     by_cases hp:y%2=1
     ·have ht:((y:Int)%2==1)=true:=by simp;omega
      have hb2:pR y=(y/2)^^^2197175160:=by unfold pR;rw[bp hp]
      have al:=an hb2;clear hb2 hp;go_wp2;go_round
      case rel=>exact⟨j+1,ae,fP,by rw[aG.out,al.out]⟩
      case measure=>simp[Aaq];omega
     ·have ht:((y:Int)%2==1)=false:=by simp;omega
      have hb2:pR y=y/2:=by unfold pR;rw[aO hp]
      have al:=an hb2;clear hb2 hp;go_wp2;go_round
      case rel=>exact⟨j+1,ae,fP,by rw[aG.out,al.out];rfl⟩
      case measure=>simp[Aaq];omega
    ·obtain rfl:j=8:=by omega
     go_wp2;go_round
     case rel=>exact⟨k+1,ae,fP,by rw[aL.out]⟩
     case measure=>simp[Aaq];omega
  ·obtain rfl:k=κ l:=by omega
   rw[fj]at *;have ab:gD s l=4294967295-iS n0 l:=by unfold gD;rw[ar.out]
   obtain⟨m,hm⟩:=bE (iS n0 l);rw[<-hm]at ab ah ⊢;have ao:=an ab;clear ab hm;have e0:bits .xor .u32 IntKind.u32.max (m:Int)=((4294967295-m:Nat):Int):=by rw[Hf];exact zy m ah
   go_wp2;go_ret;exact⟨by rw[ao.out];rfl,rfl⟩
theorem Vn(s:Nat)(hs:s<4294967296)(a:Option Addr)(cap:Nat)(w:af):Aaf Aag 231 #[.int .u32 (s:Int),.slice a 0 cap] w λe w'=>e=.returned (.int .u32 (gD s []:Nat))/\w=w':=by
 obtain⟨n0,ay⟩:=bE (4294967295-s);have ak:n0<4294967296:=ae
 have ab:gD s []=s:=by unfold gD iS;simp;omega
 have e0:bits .xor .u32 IntKind.u32.max (s:Int)=(n0:Int):=by rw[Hf,ay];exact zy s hs
 have e1:bits .xor .u32 IntKind.u32.max (n0:Int)=(s:Int):=by rw[Hf,zy n0 ak];omega
 rw[ab];clear ay ab;go_in;go_wp2;go_loop [0,12] (λr i=>i=i6 0/\r=.int .u32 (n0:Int)) (λ_ _=>0)
 case atStart=>simp
 case round=>obtain⟨rfl,rfl⟩:=hrel;exact e4
theorem Vm(s:Nat)(hs:s<4294967296)(v:ah)(l:List aj)(w:af)(h:aY w v l):Aaf Aag 231 #[.int .u32 (s:Int),v] w λe w'=>e=.returned (.int .u32 (gD s l:Nat))/\w=w':=by
 have hl:=h.length_le;rcases h with⟨rfl,a,cap,rfl,_⟩|⟨b,off,cap,rfl,_,_,_,hc⟩
 ·grind [Vn]
 ·exact QE s hs l b off cap w hl hc
theorem GG(v:ah)(l:List aj)(w:af)(h:aY w v l):Aaf Aag 167 #[v] w λe w'=>e=.returned (.int .u32 (gD 0 l:Nat))/\w=w':=by have H:=Vm 0 ae v l w h;obtain⟨a,c,rfl⟩:=h.slice;go_in;go_wp2_with fail;refine H.mono ?_;rintro e w'⟨rfl,rfl⟩;exact e4

def l9:List aj:=[65,81,70,82]
def Ec(u:hL):List aj:=l9++(aX [8,8] [u.du,u.ay]++(bM u.iL++aX [4,4] [u.len.toNat,u.sec.toNat]))
def qS(u:hL):List aj:=Ec u++Aad 80 0
def Cf(u:hL):Nat:=gD 0 (qS u)
def eZ(u:hL):List aj:=qS u++aX [4] [Cf u]
theorem vt(a b:Nat):κ (aX [8,8] [a,b])=16:=aA
theorem GQ(a b:Nat):κ (aX [4,4] [a,b])=8:=aA
theorem jq(a:Nat):κ (aX [4] [a])=4:=aA
theorem fA(p:au):κ (bM p)=16:=aA
theorem Hi(u:hL):κ (Ec u)=44:=aA
theorem CU(u:hL):κ (qS u)=124:=aA
theorem mE(u:hL):κ (eZ u)=128:=aA
theorem Wu(u:hL):Cf u<4294967296:=by grind [Cf,gD]
theorem aN(w:af)(o:Obj):(w.alloc o).heap.size=w.heap.size+1:=aq
def qT(u:hL):cQ:=if eW u=true then⟨eZ u,mE u⟩ else e9
def Wt(u:hL):Int:=if eW u=true then 0 else 61
def fe(pre:List aj):List aj:=pre++Aad (128-κ pre) 0
theorem hz{pre:List aj}(h:κ pre<=128):κ (fe pre)=128:=by grind [fe]
def QY:fe []=aM:=rfl
theorem By{pre ys:List aj}(h:κ pre+κ ys<=128):(Abz (aD (fe pre)).toList (κ pre) (ys.map aH)).toArray=aD (fe (pre++ys)):=by apply hn.1;unfold Abz;rw[rR,rR,Aac,<-wA,<-qj,<-Aao,<-Aao];congr 1;unfold fe;simp;omega
theorem VR(u:hL):fe (qS u)=fe (Ec u):=aA
theorem QX(u:hL):fe (eZ u)=eZ u:=by simp[fe,mE]
theorem ij{l:List aj}(h:aI w g t (aD l))(lo n cap:Nat)(hn:lo+n<=κ l)(h0:0<n)(hc:n<=cap)(hm:cap<=128):aY w (.slice (some ⟨g,lo,none⟩) n cap) ((l.drop lo).take n):=by
 have hl:κ ((l.drop lo).take n)=n:=ao
 refine .inr ⟨g,lo,cap,ao,ae,ae,dy,λi hi=>?_⟩;grind [Jf]
theorem o8(g lo:Nat)(h1:lo<128)(W:af):(Abq 60 (.pointer (some ⟨g,0,none⟩)) (some (.int .i64 (lo:Int))) none none).run Aag W=.ok (.slice (some ⟨g,lo,none⟩) (128-lo) (128-lo)) W:=by refine Gg ?_;intro aO hs;rw[run_sliceAt_array_l W 60 ⟨g,0,none⟩ aA .i64 (lo:Int) ae ae,hs,aO];simp only[Aay,slicedAt,Abr];grind [add_plain]
theorem L4(g hi:Nat)(h1:hi<=128)(W:af):(Abq 60 (.pointer (some ⟨g,0,none⟩)) none (some (.int .i64 (hi:Int))) none).run Aag W=.ok (.slice (some ⟨g,0,none⟩) hi 128) W:=by refine Gg ?_;intro aO hs;rw[run_sliceAt_array_h W 60 ⟨g,0,none⟩ aA .i64 (hi:Int) ae ae,hs,aO];rfl
theorem mw(g:Nat)(W:af):(Abq 60 (.pointer (some ⟨g,0,none⟩)) none none none).run Aag W=.ok (.slice (some ⟨g,0,none⟩) 128 128) W:=aA
section
variable {P:bu}
theorem hG{ops:Array Oper}{rest:List Oper}{op:Oper}{a:Act}{w:af}{Q:Exit->Act->af->Prop}(hgd:op.guard=none)(d s:bR)(dT sT:TypeId)(ho:op.op=.call {callee:=.builtin .copy,args:=#[d,s],argTypes:=#[dT,sT]})(elem:TypeId)(hu:P.underlying dT=some (.slice elem))(aN:(P.info? elem).map (·.size)=some 1)(g off n cap:Nat)(hd:a.eval d=.slice (some ⟨g,off,none⟩) n cap)(vs:ah)(ys:List aj)(hs:a.eval s=vs)(ai:aY w vs ys)(hn:κ ys<=n)(t:TypeId)(pre:List aj)(ab:off=κ pre)(hb:aI w g t (aD (fe pre)))(hfit:κ pre+κ ys<=128)(h:∀w',aI w' g t (aD (fe (pre++ys)))->Below g w w'->w.grownBy w' (some g)->wpList P ops Q rest (a.put op.dst (goInt (κ ys))) w'):wpList P ops Q (op::rest) a w:=hC hgd d s dT sT ho elem hu aN aH cg g off n cap hd vs ys hs ai hn t _ hb (by grind [bT,hz]) (λw' h1 h2 h3=>h w' (by grind [By]) h2 h3)
theorem yn{ops:Array Oper}{rest:List Oper}{op:Oper}{a:Act}{w:af}{Q:Exit->Act->af->Prop}(hgd:op.guard=none)(d s:bR)(dT sT:TypeId)(ho:op.op=.call {callee:=.builtin .copy,args:=#[d,s],argTypes:=#[dT,sT]})(elem:TypeId)(hu:P.underlying dT=some (.slice elem))(aN:(P.info? elem).map (·.size)=some 1)(g off n cap:Nat)(hd:a.eval d=.slice (some ⟨g,off,none⟩) n cap)(b:ByteArray)(hs:a.eval s=.string b)(ys:List aj)(aF:b.data.toList=ys)(hn:κ ys<=n)(t:TypeId)(pre:List aj)(ab:off=κ pre)(hb:aI w g t (aD (fe pre)))(hfit:κ pre+κ ys<=128)(h:∀w',aI w' g t (aD (fe (pre++ys)))->Below g w w'->w.grownBy w' (some g)->wpList P ops Q rest (a.put op.dst (goInt (κ ys))) w'):wpList P ops Q (op::rest) a w:=by
 have aa:b.size=κ ys:=by rw[<-aF];exact Lib.size_eq b
 refine h' hgd λK hK=>?_;have hr:=Lib.run_copy_row_string (P:=P) w dT sT op.type elem g off n cap b _ t hu aN hb ae (by grind [bT,hz]);have aJ:((aD (fe pre)).toList.take off++Lib.byteCells b.data.toList++(aD (fe pre)).toList.drop (off+b.size)).toArray=aD (fe (pre++ys)):=by rw[<-By hfit,ab,aF,aa];unfold Abz;rw[Aac,Abe];rfl
 rw[aJ,aa]at hr;unfold Ace;simp[Abt,ho,resolve,invoke,builtin,hd,hs,hr,Aar];exact hK _ _ (h _ (hb.set _) (below_setRow (e7 _ _) (aE _) _) (cR w g _))
end
theorem VH{a b:Nat}(ha:a<18446744073709551616)(hb:b<18446744073709551616):nr [8,8] [a,b]:=uQ
theorem VG{a b:Nat}(ha:a<4294967296)(hb:b<4294967296):nr [4,4] [a,b]:=uQ
theorem GH{a:Nat}(ha:a<4294967296):nr [4] [a]:=uQ
theorem Ch(w:af)(u:hL)(aK:u.wf):Aaf Aag 215 #[.agg (uC u)] w λe w'=>e=rt #[.agg (aD (qT u).val),i6 (Wt u)]/\Up w w':=by
 obtain⟨bF,a6,br⟩:=cX (ai w (.cells (uC u) 122)) (ai (w.alloc (.cells (uC u) 122)) (.cells (aD aM) 60)) (aN w (.cells (uC u) 122));have B1:=an ((aI.new w 122 (uC u)).up a6);have z1:=aI.new (w.alloc (.cells (uC u) 122)) 60 (aD aM);rw[br]at z1;obtain⟨Z1,U1,RR,BS,bc⟩:=eQ z1 (bF.trans a6) (λW=>Ml W u) hZ dI;clear br;cases hr:eW u
 ·obtain⟨HV,HE⟩:=aw (show qT u=e9 by unfold qT;rw[hr];rfl) (show Wt u=61 by unfold Wt;rw[hr];rfl);rw[hr]at RR;clear hr;go_in;go_wp2_with(refine arm ?_);generalize hw2:(w.alloc (.cells (uC u) 122)).alloc (.cells (aD aM) 60)=w2 at *;refine(RR _).mono ?_;rintro e w3⟨rfl,U3⟩;obtain⟨Z3,U4⟩:=az (Z1.up U3) (U1.trans U3);clear hw2;go_wp2_with(first|refine arm ?_|refine pH ?_);intro w9 b9 g9;have U9:=U4.aF (fy g9 (oI Z3.lt) (λj hj=>A6)) (gM _);go_wp2;exact bN (hi:=bc) (.tuple #[.agg (aD aM),i6 61]) b9 ⟨by rw[HV.out,HE.out];rfl,U9⟩
 obtain⟨HV,HE,bg,ao,ax,aR,bh,aQ,be,bb,HBL⟩:=Wr (show(qT u).val=eZ u by unfold qT;rw[bp hr]) (show Wt u=0 by unfold Wt;rw[bp hr]) (show Ec u=l9++(aX [8,8] [u.du,u.ay]++(bM u.iL++aX [4,4] [u.len.toNat,u.sec.toNat]))from rfl) (Hi u) (CU u) (show Cf u=gD 0 (qS u)from rfl) (Wu u) (VR u) (QX u) (show eZ u=qS u++aX [4] [Cf u] from rfl) (mE u);obtain⟨⟨g1,g2⟩,⟨g3,g4⟩,⟨hg,_⟩,⟨g5,g6⟩,⟨g7,g8⟩⟩:=(kD u).1 hr;obtain⟨PB,bm⟩:=aw (λW=>nV W u.iL aK.2.2.1) (show cw u.iL≠false by rw[hg];simp);rw[hr]at RR;clear hr hg;generalize(qT u).val=uv at *;generalize Wt u=ue at *;generalize Ec u=pre at *;generalize qS u=hdr at *;generalize Cf u=sm at *;generalize eZ u=ak at *;obtain⟨du,ay,iL,len,sec⟩:=u;dsimp only at *;obtain⟨nl,rfl⟩:∃n:Nat,len=n:=⟨len.toNat,ae⟩;obtain⟨ns,rfl⟩:∃n:Nat,sec=n:=⟨sec.toNat,ae⟩;simp only[Abr]at *;go_in;go_wp2_with(refine arm ?_);generalize hw2:(w.alloc (.cells (uC ⟨du,ay,iL,(nl:Int),(ns:Int)⟩) 122)).alloc (.cells (aD aM) 60)=w2 at *;refine(RR _).mono ?_;rintro e w3⟨rfl,U3⟩;obtain⟨B3,Z3,U4⟩:=aW (B1.up U3) (Z1.up U3) (U1.trans U3);clear hw2 RR;obtain⟨c0,c1,c2,c5,c6,R2⟩:=x0 B3;obtain⟨UA,sza⟩:=az (ai w3 (.cells #[i6 8,i6 8] 3)) (aN w3 (.cells #[i6 8,i6 8] 3));have aP:=an (show Aaf Aag 240 #[cC w3.heap.size 2 2,cC (w3.heap.size+1) 2 2] ((w3.alloc (.cells #[i6 8,i6 8] 3)).alloc (.cells #[u6 (du:Int),u6 (ay:Int)] 70)) (λe w'=>∃v,e=rt #[v,i6 0]/\Own aH 5 w' w3.heap.size v (aX [8,8] [du,ay])/\Up w3 w')from by have UB:=ai (w3.alloc (.cells #[i6 8,i6 8] 3)) (.cells #[u6 (du:Int),u6 (ay:Int)] 70);have i1:=(aC.er (f:=bA) w3 w3.heap.size rfl #[i6 8,i6 8] 3 (0,0) [8,8] 2 rfl dy rfl).up UB;have i2:=aC.er (f:=cu) (w3.alloc (.cells #[i6 8,i6 8] 3)) (w3.heap.size+1) uP #[u6 (du:Int),u6 (ay:Int)] 70 (0,0) [du,ay] 2 rfl dy rfl;refine(o4 _ _ _ i1 aq _ _ i2 A4 (VH ae ae)).mono λe w' h=>?_;obtain⟨v,rfl,ho,hu⟩:=h;exact⟨v,rfl,ho.mono (UA.trans UB).size,(UA.trans UB).trans hu⟩)
 obtain⟨e0,e1⟩:=az (UA.cell c0) (UA.cell c1);clear sza;go_wp2_with fail;refine aP.mono ?_;rintro e w4⟨v5,rfl,O5,U5⟩;obtain⟨S5,B4,Z4,U6⟩:=bS O5.cv (B3.up U5) (Z3.up U5) (U4.trans U5);obtain⟨a5,k5,rfl⟩:=S5.slice;clear e0 e1;clear c0 c1 c2 c5 c6;obtain⟨c0,c1,c2,c5,c6,R2⟩:=x0 B4;go_wp2_with(refine arm ?_);refine(PB w4).mono ?_;rintro e w5 aS;rcases aS with⟨_,v7,rfl,O7,U7⟩|⟨aB,_⟩
 rotate_left
 ·exact absurd aB bm
 obtain⟨S7,bn,B5,Z5,U8⟩:=eQ O7.cv (S5.up U7) (B4.up U7) (Z4.up U7) (U6.trans U7);obtain⟨a7,k7,rfl⟩:=S7.slice;clear PB;clear c0 c1 c2 c5 c6;obtain⟨c0,c1,c2,c5,c6,R2⟩:=x0 B5;have wn:=dP nl ae;obtain⟨bP,UA,sza⟩:=cX (dP ns ae) (ai w5 (.cells #[i6 4,i6 4] 3)) (aN w5 (.cells #[i6 4,i6 4] 3));have aP:=an (show Aaf Aag 240 #[cC w5.heap.size 2 2,cC (w5.heap.size+1) 2 2] ((w5.alloc (.cells #[i6 4,i6 4] 3)).alloc (.cells #[u6 (nl:Int),u6 (ns:Int)] 70)) (λe w'=>∃v,e=rt #[v,i6 0]/\Own aH 5 w' w5.heap.size v (aX [4,4] [nl,ns])/\Up w5 w')from by have UB:=ai (w5.alloc (.cells #[i6 4,i6 4] 3)) (.cells #[u6 (nl:Int),u6 (ns:Int)] 70);have i1:=(aC.er (f:=bA) w5 w5.heap.size rfl #[i6 4,i6 4] 3 (0,0) [4,4] 2 rfl dy rfl).up UB;have i2:=aC.er (f:=cu) (w5.alloc (.cells #[i6 4,i6 4] 3)) (w5.heap.size+1) uP #[u6 (nl:Int),u6 (ns:Int)] 70 (0,0) [nl,ns] 2 rfl dy rfl;refine(o4 _ _ _ i1 aq _ _ i2 A4 (VG ae ae)).mono λe w' h=>?_;obtain⟨v,rfl,ho,hu⟩:=h;exact⟨v,rfl,ho.mono (UA.trans UB).size,(UA.trans UB).trans hu⟩)
 obtain⟨e5,e6⟩:=az (UA.cell c5) (UA.cell c6);clear sza;go_wp2_with fail;refine aP.mono ?_;rintro e w6⟨v9,rfl,O9,U9⟩;obtain⟨S9,bs,bq,Z6,U10⟩:=eQ O9.cv (S7.up U9) (bn.up U9) (Z5.up U9) (U8.trans U9);obtain⟨a9,k9,rfl⟩:=S9.slice;clear e5 e6 wn bP;clear c0 c1 c2 c5 c6;obtain⟨P0,V7⟩:=aw (show aI (w6.alloc (.cells (aD aM) 60)) w6.heap.size 60 (aD (fe []))by rw[QY];exact aI.new w6 60 (aD aM)) (ai w6 (.cells (aD aM) 60));have SA:∀W,(Abq 60 (pz w6.heap.size) none none none).run Aag W=.ok (cC w6.heap.size 128 128) W:=mw w6.heap.size;have bQ:∀W,(Abq 60 (pz w6.heap.size) (some (i6 4)) none none).run Aag W=.ok (sq w6.heap.size 4 124 124) W:=o8 w6.heap.size 4 ae;have bt:∀W,(Abq 60 (pz w6.heap.size) (some (i6 20)) none none).run Aag W=.ok (sq w6.heap.size 20 108 108) W:=o8 w6.heap.size 20 ae;have bw:∀W,(Abq 60 (pz w6.heap.size) (some (i6 36)) none none).run Aag W=.ok (sq w6.heap.size 36 92 92) W:=o8 w6.heap.size 36 ae;have aY:∀W,(Abq 60 (pz w6.heap.size) (some (i6 124)) none none).run Aag W=.ok (sq w6.heap.size 124 4 4) W:=o8 w6.heap.size 124 ae;have a1:∀W,(Abq 60 (pz w6.heap.size) none (some (i6 124)) none).run Aag W=.ok (cC w6.heap.size 124 128) W:=L4 w6.heap.size 124 ae;go_wp2_with(first
  | refine arm ?_
  | (refine yn rfl (.tmp 51) (.const (.string ⟨#[65,81,70,82]⟩)) 30 9 rfl 5 Aau al _ 0 128 128 rfl _ rfl l9 rfl (by unfold l9;simp) _ _ rfl P0 (by unfold l9;simp) ?_))
 intro w8 P1 bI _;obtain⟨P1,V8⟩:=aw (show aI w8 w6.heap.size 60 (aD (fe l9))from P1) (V7.aF bI (aE _));obtain⟨T5,L5⟩:=aw (bq.up V8) (vt du ay);go_wp2_with(first
  | (refine hG rfl (.tmp 53) (.tmp 54) 30 30 rfl 5 Aau al _ 4 124 124 rfl _ _ rfl T5 (by rw[L5.out];omega) _ _ rfl P1 (by rw[L5.out];unfold l9;simp) ?_))
 intro w9 P2 bJ _;have P2:=an (show aI w9 w6.heap.size 60 (aD (fe (l9++aX [8,8] [du,ay])))from P2);have Q2:(20:Nat)=κ (l9++aX [8,8] [du,ay]):=by rw[Aae,vt];rfl
 have V9:=an (V8.aF bJ (aE _));obtain⟨T7,L7⟩:=aw (bs.up V9) (fA iL);obtain⟨aj,aL⟩:=bE (l9++aX [8,8] [du,ay]);rw[<-aL]at P2 Q2;replace Q2:=an Q2;have bB:=an aL;clear aL;have N7:κ (bM iL)<=108:=by rw[L7.out];omega
 have M7:κ aj+κ (bM iL)<=128:=by rw[L7.out,<-Q2.out];omega
 go_wp2_with(first
  | (refine hG rfl (.tmp 56) (.tmp 57) 30 30 rfl 5 Aau al _ 20 108 108 rfl _ _ rfl T7 N7 _ _ Q2 P2 M7 ?_))
 intro aV P3 bK _;have Q3:(36:Nat)=κ (aj++bM iL):=by rw[Aae,fA,<-Q2.out]
 have a8:=an (V9.aF bK (aE _));obtain⟨T9,L9⟩:=aw (S9.up a8) (GQ nl ns);obtain⟨av,ab⟩:=bE (aj++bM iL);rw[<-ab]at P3 Q3;replace Q3:=an Q3;have bd:=an ab;clear ab Q2;have N9:κ (aX [4,4] [nl,ns])<=92:=by rw[L9.out];omega
 have M9:κ av+κ (aX [4,4] [nl,ns])<=128:=by rw[L9.out,<-Q3.out];omega
 go_wp2_with(first
  | (refine hG rfl (.tmp 59) (.tmp 60) 30 30 rfl 5 Aau al _ 36 92 92 rfl _ _ rfl T9 N9 _ _ Q3 P3 M9 ?_))
 intro w11 P4 bL _;have ad:av++aX [4,4] [nl,ns]=pre:=by rw[bd.out,bB.out,bg.out,Abe,Abe]
 rw[ad]at P4;have bG:=an (a8.aF bL (aE _));have aG:=ij P4 0 124 128 (by rw[hz (by rw[ao.out];omega)];omega) ae ae ae;have aa:((fe pre).drop 0).take 124=hdr:=by rw[Aaw,<-aQ.out];unfold fe;rw[h0 ax.out]
 rw[aa]at aG;have SM:=an (GG _ hdr w11 aG);rw[<-aR.out]at SM;rw[<-aQ.out]at P4;have bz:=bh.out;have ws:=dP sm ae;clear ad Q3 aa;have UI:=an (ai w11 (.cells #[i6 4] 3));have bx:=an (show Aaf Aag 167 #[cC w6.heap.size 124 128] (w11.alloc (.cells #[i6 4] 3)) (λe w'=>e=.returned (.int .u32 (sm:Int))/\(w11.alloc (.cells #[i6 4] 3))=w')from by
  have P5:=P4.up UI;have ar:=ij P5 0 124 128 (by rw[hz (by rw[ax.out];omega)];omega) ae ae ae;have au:((fe hdr).drop 0).take 124=hdr:=by rw[Aaw];unfold fe;rw[h0 ax.out]
  rw[au]at ar;have:=GG _ _ _ ar;rw[<-aR.out]at this;exact this)
 obtain⟨UA,sza⟩:=az (ai w11 (.cells #[i6 4] 3)) (aN w11 (.cells #[i6 4] 3));have aP:=an (show Aaf Aag 240 #[cC w11.heap.size 1 1,cC (w11.heap.size+1) 1 1] ((w11.alloc (.cells #[i6 4] 3)).alloc (.cells #[u6 (sm:Int)] 70)) (λe w'=>∃v,e=rt #[v,i6 0]/\Own aH 5 w' w11.heap.size v (aX [4] [sm])/\Up w11 w')from by have UB:=ai (w11.alloc (.cells #[i6 4] 3)) (.cells #[u6 (sm:Int)] 70);have i1:=(aC.er (f:=bA) w11 w11.heap.size rfl #[i6 4] 3 (0,0) [4] 1 rfl dy rfl).up UB;have i2:=aC.er (f:=cu) (w11.alloc (.cells #[i6 4] 3)) (w11.heap.size+1) uP #[u6 (sm:Int)] 70 (0,0) [sm] 1 rfl dy rfl;refine(o4 _ _ _ i1 aq _ _ i2 A4 (GH ae)).mono λe w' h=>?_;obtain⟨v,rfl,ho,hu⟩:=h;exact⟨v,rfl,ho.mono (UA.trans UB).size,(UA.trans UB).trans hu⟩)
 clear sza;go_wp2_with fail;refine bx.mono ?_;rintro e wx⟨rfl,rfl⟩;go_wp2_with fail;refine aP.mono ?_;rintro e bU⟨bW,rfl,bl,aJ⟩;obtain⟨aU,aT⟩:=aw bl.cv (jq sm);obtain⟨bR,bV,rfl⟩:=aU.slice;obtain⟨P5,b7,QH⟩:=aW (P4.up aJ) (bG.trans aJ) (show(124:Nat)=κ hdr from ax.symm);clear ws bz;have bk:κ (aX [4] [sm])<=4:=by rw[aT.out];omega
 have bj:κ hdr+κ (aX [4] [sm])<=128:=by rw[aT.out,<-QH.out];omega
 go_wp2_with(first
  | (refine hG rfl (.tmp 74) (.tmp 75) 30 30 rfl 5 Aau al _ 124 4 4 rfl _ _ rfl aU bk _ _ QH P5 bj ?_))
 intro bo P6 bO _;rw[<-bb.out,be.out]at P6;have b1:=an (b7.aF bO (aE _));obtain⟨ba,bD,SB⟩:=aW (Z6.up b1) (U10.trans b1) (show(aD ak).size=128 by rw[bT];exact HBL);obtain⟨ag,bC⟩:=aw (show(prog.info? 60).map (·.size)=some (aD ak).size by rw[SB.out];exact dI) (show(aD aM).size=(aD ak).size by rw[SB.out];rfl);clear QH;go_wp2_with(first
  | refine arm ?_
  | refine dL 60 2 77 (aD ak) ba (hi:=ag) (hold:=bC) ?_)
 intro bf bH g14;have aO:=bD.aF (fy g14 (oI ba.lt) (λj hj=>A6)) (gM _);go_wp2;exact bN (hi:=ag) (.tuple #[.agg (aD ak),i6 0]) bH ⟨by rw[HV.out,HE.out],aO⟩
structure As where
 F:Nat->Prop
 P:af->Prop
 st:∀{w w':af}{H:Nat->Prop},P w->Touch H w w'->(∀n,F n->¬H n)->P w'
def bk(g:Nat)(t:Aab)(C:Array ah):As:=⟨(·=g),λw=>aI w g t C,λh T hf=>h.ax T (hf g rfl)⟩
structure Fr(F0:Nat->Prop)(x0:af)(L:List As)(w:af):Prop where
 t:Touch F0 x0 w
 p:∀A∈L,A.P w
 f:∀A∈L,∀n,A.F n->n<w.heap.size/\(F0 n\/x0.heap.size<=n)
 d:L.Pairwise (λA B=>∀n,A.F n->¬B.F n)
def Fsh(x0:af)(L:List As)(q:Nat):Prop:=x0.heap.size<=q/\∀A∈L,¬A.F q
inductive mK:List As->As->As->List As->Prop
 | head {L:List As} {A B:As}:mK (A::L) A B (B::L)
 | tail {L L':List As} {A B D:As}:mK L A B L'->mK (D::L) A B (D::L')
structure Rz(w w':af)(N:List As):Prop where
 u:Up w w'
 p:∀A∈N,A.P w'
 f:∀A∈N,∀n,A.F n->w.heap.size<=n/\n<w'.heap.size
 d:N.Pairwise (λA B=>∀n,A.F n->¬B.F n)
section
variable {F0:Nat->Prop} {x0:af} {L L' N:List As} {w w':af} {A B:As} {g:Nat} {t:Aab} {C C':Array ah}
theorem mK.mem(h:mK L A B L'):A∈L:=by exact NI
theorem mK.sub(h:mK L A B L'):∀D∈L',D=B\/D∈L:=by
 induction h with
 | head=>grind
 | tail _ ih=>grind
theorem mK.pair(h:mK L A B L'){R:As->As->Prop}(hs:∀{A B},R A B->R B A)(d:L.Pairwise R)(k:∀D∈L,R A D->R B D):L'.Pairwise R/\∀D∈L',D=B\/R A D:=by
 induction h with
 | head=>obtain⟨d1,d2⟩:=fk.1 d;exact⟨fk.2 ⟨λD hD=>k D (bn _ hD) (d1 D hD),d2⟩,λD hD=>(Aak.1 hD).imp id (d1 D)⟩
 | tail hU ih=>
  obtain⟨d1,d2⟩:=fk.1 d;obtain⟨i1,i2⟩:=ih d2 (λD hD=>k D (bn _ hD));refine⟨fk.2 ⟨λD hD=>?_,i1⟩,λD hD=>?_⟩
  ·rcases hU.sub D hD with rfl|h
   ·exact hs (k _ cS (hs (d1 _ hU.mem)))
   ·exact d1 D h
  ·rcases Aak.1 hD with rfl|h
   ·exact .inr (hs (d1 _ hU.mem))
   ·exact i2 D h
def Fr.e6(s:Fr F0 x0 L w)(h:bk g t C∈L):aI w g t C:=s.p _ h
theorem Fr.yb(s:Fr F0 x0 L w)(hU:mK L A B L')(T:Touch A.F w w')(hB:B.P w')(hF:∀n,B.F n->n<w'.heap.size/\(A.F n\/w.heap.size<=n)):Fr F0 x0 L' w':=by
 have fA:=s.f _ hU.mem;obtain⟨d1,d2⟩:=hU.pair (R:=λA B=>∀n,A.F n->¬B.F n) (λh n a b=>h n b a) s.d (λD hD h n hn hd=>by
  rcases(hF n hn).2 with h1|h1
  ·exact h n h1 hd
  ·have:=(s.f D hD n hd).1;omega)
 refine⟨s.t.trans T (λn h hl=>(fA n h).2.resolve_right ae),λD hD=>?_,λD hD n hn=>?_,d1⟩
 ·rcases d2 D hD with rfl|h
  ·exact hB
  ·rcases hU.sub D hD with rfl|hL
   ·exact hB
   ·exact D.st (s.p D hL) T (λn a b=>h n b a)
 ·rcases hU.sub D hD with rfl|hL
  ·refine⟨(hF n hn).1,?_⟩;rcases(hF n hn).2 with h1|h1
   ·exact(fA n h1).2
   ·exact .inr (bO s.t.size h1)
  ·exact⟨eh (s.f D hL n hn).1 T.size,(s.f D hL n hn).2⟩
theorem Fr.res(s:Fr F0 x0 L w)(r:Rz w w' N):Fr F0 x0 (N++L) w':=by
 have T:Touch (λ_=>False) w w':=Touch.bV r.u;refine⟨s.t.trans T (λ_ h=>h.elim),λD hD=>?_,λD hD n hn=>?_,A3.2 ⟨r.d,s.d,λD hD E hE n hn he=>?_⟩⟩
 ·rcases Aa3.1 hD with h|h
  ·exact r.p D h
  ·exact D.st (s.p D h) T (λ_ _ h=>h)
 ·rcases Aa3.1 hD with h|h
  ·exact⟨(r.f D h n hn).2,.inr (bO s.t.size (r.f D h n hn).1)⟩
  ·exact⟨eh (s.f D h n hn).1 T.size,(s.f D h n hn).2⟩
 ·have:=(r.f D hD n hn).1;have:=(s.f E hE n he).1;omega
theorem Rz.z(u:Up w w'):Rz w w' []:=⟨u,λ_ h=>gn,λ_ h=>gn,.nil⟩
theorem Rz.one(u:Up w w')(hA:A.P w')(hF:∀n,A.F n->w.heap.size<=n/\n<w'.heap.size):Rz w w' [A]:=⟨u,λD h=>by rw[jF.1 h];exact hA,λD h=>by rw[jF.1 h];exact hF,yN ..⟩
def Fr.up(s:Fr F0 x0 L w)(u:Up w w'):Fr F0 x0 L w':=s.res (.z u)
theorem Fr.new(s:Fr F0 x0 L w)(r:Rz w w' [A]):Fr F0 x0 (A::L) w':=s.res r
theorem Fr.alloc(s:Fr F0 x0 L w)(t:Aab)(C:Array ah):Fr F0 x0 (bk w.heap.size t C::L) (w.alloc (.cells C t)):=s.res (.one (ai _ _) (aI.new ..) (λn h=>by have h:n=w.heap.size:=h;have:=(aI.new w t C).lt;omega))
theorem Fr.set(s:Fr F0 x0 L w)(hU:mK L (bk g t C) (bk g t C') L')(hb:aI w' g t C')(hg:w.grownBy w' (some g)):Fr F0 x0 L' w':=s.yb hU (Touch.be hg (λk e=>by cases e;rfl)) hb (λn h=>⟨by rw[show n=g from h];exact hb.lt,.inl h⟩)
theorem Fr.fsh(s:Fr F0 x0 L w){q:Nat}(h:w.heap.size<=q):Fsh x0 L q:=⟨bO s.t.size h,λA hA hf=>by have:=(s.f A hA q hf).1;omega⟩
theorem Fr.add(s:Fr F0 x0 L w)(f:Fsh x0 L g)(h:aI w g t C):Fr F0 x0 (bk g t C::L) w:=by
 refine⟨s.t,λD hD=>?_,λD hD n hn=>?_,fk.2 ⟨λD hD n hn hd=>f.2 D hD (by rw[<-show n=g from hn];exact hd),s.d⟩⟩
 ·rcases Aak.1 hD with rfl|hD
  ·exact h
  ·exact s.p D hD
 ·rcases Aak.1 hD with rfl|hD
  ·exact⟨by rw[show n=g from hn];exact h.lt,.inr (by rw[show n=g from hn];exact f.1)⟩
  ·exact s.f D hD n hn
end
def jn(A B:As):As:=⟨λn=>A.F n\/B.F n,λw=>A.P w/\B.P w,λh T hf=>⟨A.st h.1 T λn hn=>hf n (.inl hn),B.st h.2 T λn hn=>hf n (.inr hn)⟩⟩
inductive x4:List As->As->List As->Prop
 | head {A:As} {L:List As}:x4 (A::L) A L
 | tail {A B:As} {L L':List As}:x4 L A L'->x4 (B::L) A (B::L')
theorem x4.sub{D:As}{L L':List As}(h:x4 L D L'):∀A∈L',A∈L:=by
 induction h with
 | head=>exact λA h=>bn _ h
 | tail _ ih=>
  intro A h;rcases Aak.1 h with rfl|h
  ·exact cS
  ·exact bn _ (ih A h)
theorem x4.mem{D:As}{L L':List As}(h:x4 L D L'):D∈L:=by exact NI
theorem x4.pair{D:As}{L L':List As}{R:As->As->Prop}(h:x4 L D L')(hs:∀{A B},R A B->R B A)(d:L.Pairwise R):L'.Pairwise R/\∀A∈L',R D A:=by
 induction h with
 | head=>exact⟨(fk.1 d).2,(fk.1 d).1⟩
 | tail h ih=>
  obtain⟨d1,d2⟩:=fk.1 d;obtain⟨i1,i2⟩:=ih d2;refine⟨fk.2 ⟨λA hA=>d1 A (h.sub A hA),i1⟩,λA hA=>?_⟩;rcases Aak.1 hA with rfl|hA
  ·exact hs (d1 _ h.mem)
  ·exact i2 A hA
def Fr.rem{F0:Nat->Prop}{x0 w:af}{L L':List As}{D:As}(s:Fr F0 x0 L w)(h:x4 L D L'):Fr F0 x0 L' w:=⟨s.t,λA hA=>s.p A (h.sub A hA),λA hA=>s.f A (h.sub A hA),(h.pair (R:=λA B=>∀n,A.F n->¬B.F n) (λh n a b=>h n b a) s.d).1⟩
theorem Fr.join{F0:Nat->Prop}{x0 w:af}{L L1 L':List As}{A B:As}(s:Fr F0 x0 L w)(h:x4 L B L1)(hU:mK L1 A (jn A B) L'):Fr F0 x0 L' w:=by
 obtain⟨p1,p2⟩:=h.pair (R:=λA B=>∀n,A.F n->¬B.F n) (λh n a b=>h n b a) s.d;obtain⟨d1,d2⟩:=hU.pair (R:=λA B=>∀n,A.F n->¬B.F n) (λh n a b=>h n b a) p1 (λD hD k n hn hd=>by
  rcases hn with hn|hn
  ·exact k n hn hd
  ·exact p2 D hD n hn hd)
 have hA:=h.sub _ hU.mem;refine⟨s.t,λD hD=>?_,λD hD n hn=>?_,d1⟩
 ·rcases hU.sub D hD with rfl|hD
  ·exact⟨s.p _ hA,s.p _ h.mem⟩
  ·exact s.p D (h.sub D hD)
 ·rcases hU.sub D hD with rfl|hD
  ·exact hn.elim (s.f _ hA n) (s.f _ h.mem n)
  ·exact s.f D (h.sub D hD) n hn
def no:Nat->Prop:=λ_=>False
theorem Fr.start(x:af):Fr no x [] x:=⟨Touch.refl _ _,λ_ h=>gn,λ_ h=>gn,.nil⟩
def Fr.pure{x w:af}{L:List As}(s:Fr no x L w):Up x w:=s.t.up (Up.refl x) (λ_ h=>h.elim)
theorem Fr.from{x:af}{A:As}(h:A.P x)(hl:∀n,A.F n->n<x.heap.size):Fr A.F x [A] x:=⟨Touch.refl _ _,λD h'=>by rw[jF.1 h'];exact h,λD h' n hn=>by rw[jF.1 h']at hn;exact⟨hl n hn,.inl hn⟩,yN ..⟩
def zc(P:bu)(t:Aab):Array ah:=match P.info? t with
 | some i=>match i.zero with
  | some v=>v.cells
  | none=>#[]
 | none=>#[]
def zk(P:bu)(t:Aab):Bool:=(P.info? t).any (·.zero.isSome)
theorem aaF(h:zk P t=true):∃v,(∀W,(Ab9 t).run P W=.ok v W)/\v.cells=zc P t:=by
 unfold zk at h;cases hi:P.info? t with
 | none=>simp[hi]at h
 | some i=>
  cases hz:i.zero with
  | none=>simp[hi,hz]at h
  | some v=>exact⟨v,λW=>by simp[Ab9,typeInfo,hi,hz],by simp[zc,hi,hz]⟩
section
variable {P:bu} {ops:Array Abi} {Q:Exit->Act->af->Prop} {K:Act->af->Prop} {o:Abi} {a:Act} {w:af}
theorem Mt{v:ah}{w':af}(hv:(Abt a.eval o).run P w=.ok (.value v) w')(h:K (a.put o.dst v) w'):o.wp P a w K Q:=by unfold Ace;rw[hv];exact h
theorem tH{t:Aab}(ho:o.op=.alloc t)(hz:zk P t=true)(h:K (a.put o.dst (pz w.heap.size)) (w.alloc (.cells (zc P t) t))):o.wp P a w K Q:=by obtain⟨v,h1,h2⟩:=aaF hz;unfold Ace Abt;simp[ho,Instr.alloc,Aa1,h1,newVar,newRow,h2,Aar];exact h
theorem JD{t:Aab}{x:bR}{C:Array ah}(ho:o.op=.box t x)(hx:(a.eval x).cells=C)(h:K (a.put o.dst (pz w.heap.size)) (w.alloc (.cells C t))):o.wp P a w K Q:=by unfold Ace Abt;simp[ho,Instr.box,hx,Aa1,newVar,newRow,Aar];exact h
theorem mJ{ty t:Aab}{x y:bR}{g off:Nat}{V C:Array ah}(ho:o.op=.store ty x y)(hx:a.eval x=.pointer (some ⟨g,off,none⟩))(hy:(a.eval y).cells=V)(hb:aI w g t C)(hi:(P.info? ty).map (·.size)=some V.size)(hfit:off+V.size<=C.size)(h1:V.all (·.oneCell')=true)(h:∀w',aI w' g t (Abz C.toList off V.toList).toArray->w.grownBy w' (some g)->K (a.put o.dst Aat) w'):o.wp P a w K Q:=by
 have aF:=wq (P:=P) g off t V.toList 0 C w hb ao (λv hv=>(wu.1 h1) v aa);have ba:(storeVar ty ⟨g,off,none⟩ (a.eval y)).run P w=.ok () (w.setRow g (Abz C.toList off V.toList).toArray):=by
  cases hq:P.info? ty with
  | none=>simp[hq]at hi
  | some i=>
   have hs:V.size=i.size:=by simp[hq]at hi;omega
   simp only[Nat.add_zero,Abe]at aF;simp[storeVar,sizeOf,typeInfo,hq,hy,hs,Abz];simpa[hs]using aF
 unfold Ace Abt;simp[ho,hx,Instr.storeAt,Adg,Aa1,ba,Aar];exact h _ (hb.set _) (cR w g _)
theorem B'{C V:Array ah}(h:C.size=V.size):(Abz C.toList 0 V.toList).toArray=V:=Ue
end
theorem Sa(h:(P.info? ty).map (·.size)=some C.size:=by first|with_reducible assumption|with_reducible exact RowKit.Hid.out cq|with_reducible exact hI _ cq|exact lD):(P.info? ty).map (·.size)=some C.size:=h
theorem aca{v:ah}(h:v.oneCell'=true):(#[v]).all (·.oneCell')=true:=by simp[h]
theorem zoa(h:C.all (·.oneCell')=true:=by first|with_reducible assumption|with_reducible exact RowKit.Hid.out cq|exact aca aA|with_reducible exact jJ _|with_reducible exact ie|exact vi):C.all (·.oneCell')=true:=h
theorem zhs{C C':Array ah}(h:C.size=C'.size:=by first|with_reducible assumption|with_reducible exact RowKit.Hid.out cq|rfl|exact Lj cq aA):C.size=C'.size:=h
theorem gB{b:As}{L:List As}(h:b∈L:=by first|with_reducible exact cS|with_reducible exact bn _ cS|with_reducible exact bn _ (bn _ cS)|with_reducible exact bn _ (bn _ (bn _ cS))|with_reducible exact bn _ (bn _ (bn _ (bn _ cS)))|with_reducible exact bn _ (bn _ (bn _ (bn _ (bn _ cS))))|with_reducible exact bn _ (bn _ (bn _ (bn _ (bn _ (bn _ cS)))))|with_reducible exact bn _ (bn _ (bn _ (bn _ (bn _ (bn _ (bn _ cS))))))|with_reducible exact bn _ (bn _ (bn _ (bn _ (bn _ (bn _ (bn _ (bn _ cS)))))))|with_reducible exact bn _ (bn _ (bn _ (bn _ (bn _ (bn _ (bn _ (bn _ (bn _ cS))))))))|with_reducible exact bn _ (bn _ (bn _ (bn _ (bn _ (bn _ (bn _ (bn _ (bn _ (bn _ cS)))))))))|with_reducible exact bn _ (bn _ (bn _ (bn _ (bn _ (bn _ (bn _ (bn _ (bn _ (bn _ (bn _ cS))))))))))|with_reducible exact bn _ (bn _ (bn _ (bn _ (bn _ (bn _ (bn _ (bn _ (bn _ (bn _ (bn _ (bn _ cS)))))))))))):b∈L:=h
theorem zzf(h:zc P t=C:=by first|with_reducible exact ack|with_reducible exact acm|with_reducible exact acj|with_reducible exact acg|with_reducible exact abN|with_reducible exact abO|with_reducible exact abL|with_reducible exact acf|with_reducible exact zc3|with_reducible exact aci|with_reducible exact ach|with_reducible exact abM):zc P t=C:=h
theorem zvv{x v:ah}(h:x=v:=by first|exact(rfl:_=Value.int _ _)|exact(rfl:_=Value.slice _ _ _)|exact(rfl:_=Value.pointer _)|exact(rfl:_=Value.bool _)|exact(rfl:_=Value.string _)|exact(rfl:_=Value.agg _)|rfl):x=v:=h
theorem zvo{x:Option ah}{v:ah}(h:x=some v:=by first|exact(rfl:_=some (Value.int _ _))|exact(rfl:_=some (Value.slice _ _ _))|exact(rfl:_=some (Value.pointer _))|exact(rfl:_=some (Value.bool _))|exact(rfl:_=some (Value.string _))|rfl):x=some v:=h
theorem cva(h:x=.agg C):x.cells=C:=nM
theorem cvs{a:Option Addr}{n c:Nat}(h:x=.slice a n c):x.cells=#[.slice a n c]:=nM
theorem cvi{k:IntKind}{n:Int}(h:x=.int k n):x.cells=#[.int k n]:=nM
theorem cvt{b:ByteArray}(h:x=.string b):x.cells=#[.string b]:=nM
theorem cvb{b:Bool}(h:x=.bool b):x.cells=#[.bool b]:=nM
theorem cvp{b:Option Addr}(h:x=.pointer b):x.cells=#[.pointer b]:=nM
theorem zcv(h:x.cells=C:=by first|exact cva aA|exact cvs aA|exact cvi aA|exact cvt aA|exact cvb aA|exact cvp aA):x.cells=C:=h
theorem tK{L L':List As}{A B:As}(h:mK L A B L':=by first|with_reducible exact .head|with_reducible exact .tail .head|with_reducible exact .tail (.tail .head)|with_reducible exact .tail (.tail (.tail .head))|with_reducible exact .tail (.tail (.tail (.tail .head)))|with_reducible exact .tail (.tail (.tail (.tail (.tail .head))))|with_reducible exact .tail (.tail (.tail (.tail (.tail (.tail .head)))))|with_reducible exact .tail (.tail (.tail (.tail (.tail (.tail (.tail .head))))))|with_reducible exact .tail (.tail (.tail (.tail (.tail (.tail (.tail (.tail .head)))))))|with_reducible exact .tail (.tail (.tail (.tail (.tail (.tail (.tail (.tail (.tail .head))))))))|with_reducible exact .tail (.tail (.tail (.tail (.tail (.tail (.tail (.tail (.tail (.tail .head)))))))))|with_reducible exact .tail (.tail (.tail (.tail (.tail (.tail (.tail (.tail (.tail (.tail (.tail .head))))))))))|with_reducible exact .tail (.tail (.tail (.tail (.tail (.tail (.tail (.tail (.tail (.tail (.tail (.tail .head)))))))))))):mK L A B L':=h
def Sv(F0:Nat->Prop)(x0:af)(L:List As)(w:af):Prop:=Touch F0 x0 w/\∀A∈L,A.P w
section
variable {P:bu} {ops:Array Abi} {Q:Exit->Act->af->Prop} {K:Act->af->Prop} {rest:List Abi} {o:Abi} {a:Act} {w:af} {L L':List As} {F0:Nat->Prop} {x0:af} {v:ah} {g off n m:Nat} {t ty:Aab} {C C':Array ah}
def Fr.sv(s:Fr F0 x0 L' w)(hL:∀A∈L,A∈L'):Sv F0 x0 L w:=⟨s.t,λA h=>s.p A (hL A h)⟩
def WS(ho:o.op=.load ty (.tmp n))(hx:a.eval (.tmp n)=.pointer (some ⟨g,off,none⟩))(hm:bk g t C∈L)(hv:C[off]?=some v)(hagg:∀w:af,(isAgg ty).run P w=.ok false w)(hw:Aaa o (Aaz ops a.tmps)=true):Ach P ops (Sv F0 x0 L) o v a:=zC hw ty (.tmp n) ho ⟨g,off,none⟩ hx (λw h=>((show aI w g _ C from h.2 _ hm).cell off).trans hv) hagg
def Zu{d:eT}(ho:o.op=.load ty (.tmp n))(hx:a.eval (.tmp n)=.pointer (some ⟨g,0,none⟩))(hu:P.underlying ty=some d)(hd:d.isRow=true)(hm:bk g ty C∈L)(hi:(P.info? ty).map (·.size)=some C.size)(hw:Aaa o (Aaz ops a.tmps)=true):Ach P ops (Sv F0 x0 L) o (.agg C) a:=vT hw ty (.tmp n) ho g 0 hx C (λw h=>(show aI w g _ C from h.2 _ hm).range) d hu hd hi
def Zw{d:eT}(ho:o.op=.load ty (.tmp n))(hx:a.eval (.tmp n)=.pointer (some ⟨g,off,none⟩))(hu:P.underlying ty=some d)(hd:d.isRow=true)(hm:bk g t C∈L)(hC:∀W,aI W g t C->W.rangeAt g off C'.toList)(hi:(P.info? ty).map (·.size)=some C'.size)(hw:Aaa o (Aaz ops a.tmps)=true):Ach P ops (Sv F0 x0 L) o (.agg C') a:=vT hw ty (.tmp n) ho g off hx C' (λw h=>hC w (show aI w g _ C from h.2 _ hm)) d hu hd hi
def Zv{ad:Addr}(ho:o.op=.load ty (.tmp n))(hx:a.eval (.tmp n)=.pointer (some ad))(hc:x0.cell? ad=some v)(hF:¬F0 ad.block)(hagg:∀w:af,(isAgg ty).run P w=.ok false w)(hw:Aaa o (Aaz ops a.tmps)=true):Ach P ops (Sv F0 x0 L) o v a:=zC hw ty (.tmp n) ho ad hx (λw h=>(nJ (h.1.block _ (h8 _ _ hc) hF)).trans hc) hagg
def WT{d:eT}(ho:o.op=.load ty (.tmp n))(hx:a.eval (.tmp n)=.pointer (some ⟨g,off,none⟩))(hu:P.underlying ty=some d)(hd:d.isRow=true)(hc:x0.rangeAt g off C.toList)(hF:¬F0 g)(hi:(P.info? ty).map (·.size)=some C.size)(hw:Aaa o (Aaz ops a.tmps)=true):Ach P ops (Sv F0 x0 L) o (.agg C) a:=vT hw ty (.tmp n) ho g off hx C (λw h j v hj=>(nJ (h.1.block _ (h8 _ _ (hc j v hj)) hF)).trans (hc j v hj)) d hu hd hi
end
theorem WQ{S:af->Prop}(ho:o.op=.build ty #[])(hb:P.built ty []=some C)(hw:Aaa o (Aaz ops a.tmps)=true):Ach P ops S o (.agg C) a:=.inl ⟨hw,λw _=>by
  have:=run_build (P:=P) w ty #[] C hb;unfold Abt;simp only[ho,List.map_toArray,List.map_nil,Aa1,this,Aay,Ac7]⟩
inductive Bs (a:Act):List (Nat × bR)->List (Nat × ah)->Prop
 | nil:Bs a [] []
 | cons {k:Nat} {x:bR} {v:ah} {ps:List (Nat × bR)} {vs:List (Nat × ah)} (r:Bs a ps vs) (h:a.eval x=v:=by exact zvv):Bs a ((k,x)::ps) ((k,v)::vs)
theorem Bs.eq{ps:List (Nat × bR)}{l:List (Nat × ah)}(h:Bs a ps l):ps.map (λp=>(p.1,a.eval p.2))=l:=by
 induction h with
 | nil=>rfl
 | cons r h ih=>rw[Ab8,ih,h]
theorem Pc{S:af->Prop}{ps:List (Nat × bR)}{l:List (Nat × ah)}(ho:o.op=.build ty ⟨ps⟩)(hl:Bs a ps l)(hb:P.built ty l=some C)(hw:Aaa o (Aaz ops a.tmps)=true):Ach P ops S o (.agg C) a:=.inl ⟨hw,λw _=>by
  have:=hl.eq;subst this;have:=run_build (P:=P) w ty (ps.toArray.map λp=>(p.1,a.eval p.2)) C (by simpa using hb);unfold Abt;simp only[ho,Aa1,this,Aay,Ac7]⟩
theorem zbs{ps:List (Nat × bR)}{l:List (Nat × ah)}(h:Bs a ps l:=by first|exact .cons .nil|exact .cons (.cons .nil)|exact .cons (.cons (.cons .nil))|exact .cons (.cons (.cons (.cons .nil)))|exact .cons (.cons (.cons (.cons (.cons .nil))))|exact .cons (.cons (.cons (.cons (.cons (.cons .nil)))))|exact .cons (.cons (.cons (.cons (.cons (.cons (.cons .nil))))))|exact .cons (.cons (.cons (.cons (.cons (.cons (.cons (.cons .nil)))))))|exact .cons (.cons (.cons (.cons (.cons (.cons (.cons (.cons (.cons .nil))))))))|exact .cons (.cons (.cons (.cons (.cons (.cons (.cons (.cons (.cons (.cons .nil)))))))))):Bs a ps l:=h
theorem zas{p:Prop}(h:p:=by first|with_reducible assumption|assumption):p:=h
theorem zno{F:Nat->Prop}(h:¬F n:=by first|exact λh=>h|assumption):¬F n:=h
theorem zyf{F0:Nat->Prop}{x0:af}{L:List As}{v:ah}(h:YieldsIf P ops (Sv F0 x0 L) o v a:=by first
 | exact Zu aA aA gh aA gB Sa aA
 | exact Zw aA aA gh aA gB (by intro _ h;first|with_reducible exact mF h cq cq|with_reducible exact Co h cq cq|with_reducible exact Cp h cq cq|with_reducible exact BV h|with_reducible exact Cg h) Sa aA
 | exact WS aA aA gB zvo F1 aA
 | exact WT aA aA gh aA zas zno Sa aA
 | exact Zv aA aA zas zno F1 aA
 | exact Pc aA zbs zas aA
 | exact ym):YieldsIf P ops (Sv F0 x0 L) o v a:=h
def nS(l:Array Bool):List Nat->Array Bool
 | []=>l
 | e::E=>(nS l E).setIfInBounds e true
def HT(ops:Array Abi)(j:Nat):Option Tmp:=(ops[j]?).bind (·.dst)
def put(ops:Array Abi)(a:Act):List (Nat × Nat)->Act
 | []=>a
 | e::E=>(put ops a E).put (HT ops e.1) (pz e.2)
def mL(l:Array Bool):Nat:=l.toList.countP (λb=>!b)
def If(P:bu)(ops:Array Abi)(j:Nat):Bool:=match ops[j]? with
 | some o=>match o.op with
  | .alloc t=>o.guard.isNone && zk P t
  | _=>false
 | none=>false
def Cx(ops:Array Abi)(l:Array Bool):List Nat:=Abf .any ops l
def R7(P:bu)(ops:Array Abi)(l:Array Bool):List Nat:=(Cx ops l).filter (If P ops)
def JP(P:bu)(ops:Array Abi)(l:Array Bool)(c:Nat):Bool:=(Cx ops l).contains c && !If P ops c && (Cx ops (nS l (R7 P ops l))).all (·==c) && (R7 P ops l).all (λj=>match ops[j]?,ops[c]? with
  | some x,some y=>x.apart ops y
  | _,_=>false)
def chN(P:bu)(ops:Array Abi)(l:Array Bool)(j:Nat):Bool:=(R7 P ops l).contains j && (Cx ops (nS l ((R7 P ops l).filter (· != j)))).all (·==j) && (R7 P ops l).all (λi=>i==j || match ops[i]?,ops[j]? with
  | some x,some y=>x.apart ops y
  | _,_=>false)
theorem tP{l:Array Bool}(h:l.getD i true=false):mL (l.setIfInBounds i true)+1=mL l:=by
 have hi:i<l.size:=by
  rcases jE i l.size with h'|h'
  ·exact h'
  ·simp[Array.getD,Nat.not_lt.2 h']at h
 have hv:l[i]=false:=by simpa[Array.getD,hi]using h
 unfold mL;have e:=List.countP_set (p:=λb=>!b) (l:=l.toList) (a:=true) (i:=i) A8;have:0<l.toList.countP (λb=>!b):=List.countP_pos_iff.2 ⟨false,by rw[<-hv];simp,rfl⟩;rw[Abo,e,Array.getElem_toList,hv];simp only[Bool.not_true,Bool.not_false,if_true,Ab2,if_false];omega
theorem kL(l:Array Bool)(E:List Nat)(k:Nat)(d:Bool):(nS l E).getD k d=if k∈E/\k<l.size then true else l.getD k d:=by
 induction E with
 | nil=>simp[nS]
 | cons e E ih=>
  have hs:∀E,(nS l E).size=l.size:=λE=>by induction E with
   | nil=>rfl
   | cons _ _ ih=>simp[nS,ih]
  show((nS l E).setIfInBounds e true).getD k d=_;rw[MZ,Array.getElem?_setIfInBounds,hs,<-l7];by_cases hk:e=k
  ·subst hk;by_cases hl:e<l.size
   ·simp[hl]
   ·simp[hl,Ade (Nat.not_lt.1 hl)]
  ·rw[aO hk,l7,<-MZ,ih];have:k≠e:=λh=>hk h.symm;simp[this]
def vx{l:Array Bool}:j∈Cx ops l↔l.getD j true=false/\∃o,ops[j]?=some o/\∀e∈o.after,Region.binds .any e=true->l.getD e.on false=true:=mem_ready
theorem vy{l:Array Bool}{E:List Nat}(h:j∈Cx ops l)(hj:j ∉ E):j∈Cx ops (nS l E):=by
 rw[vx]at h ⊢;obtain⟨h1,o,h2,h3⟩:=h;refine⟨by rw[kL];simp[hj,h1],o,h2,λe he hb=>?_⟩;rw[kL];split
 ·rfl
 ·exact h3 e he hb
theorem OW{l:Array Bool}{E J:List Nat}(h:j∈Cx ops (nS l E))(hE:∀e∈E,e∈J)(hj:j ∉ J):j∈Cx ops (nS l J):=by
 rw[vx]at h ⊢;obtain⟨h1,o,h2,h3⟩:=h;rw[kL]at h1;refine⟨?_,o,h2,λe he hb=>?_⟩
 ·rw[kL];split at h1
  ·cases h1
  ·simp[hj,h1]
 ·have:=h3 e he hb;rw[kL]at this ⊢;by_cases hm:e.on∈J/\e.on<l.size
  ·simp[hm]
  ·rw[aO hm];rw[aO (λh=>hm ⟨hE _ h.1,h.2⟩)]at this;exact this
theorem vc{l:Array Bool}{E:List Nat}(h:i ∉ E):nS (l.setIfInBounds i true) E=(nS l E).setIfInBounds i true:=by
 induction E with
 | nil=>rfl
 | cons e E ih=>show(nS (l.setIfInBounds i true) E).setIfInBounds e true=_;rw[ih aP,Array.setIfInBounds_comm _ _ aP];rfl
theorem MO(h:If P ops j=true):∃o t,ops[j]?=some o/\o.op=.alloc t/\o.guard=none/\zk P t=true:=by
 unfold If at h;split at h
 ·split at h
  ·rename_i o ho _ t ht;simp at h;exact⟨o,t,ho,ht,h.1,h.2⟩
  ·cases h
 ·cases h
theorem GR{v:ah}(h:∀e∈E,∀d,HT ops e.1=some d->o.dst≠some d):put ops (a.put o.dst v) E=(put ops a E).put o.dst v:=by
 induction E with
 | nil=>rfl
 | cons e E ih=>show(put ops (a.put o.dst v) E).put _ _=_;rw[ih (λx hx=>h x (bn _ hx)),Act.put_comm _ _ _ (λd hd ax=>h e cS d ax hd)];rfl
theorem BI(hs:∀cs b,o.op≠.select cs b)(h:∀e∈E,∀d,HT ops e.1=some d->d ∉ o.looksAt ops):Abt (put ops a E).eval o=Abt a.eval o/\Aaa o (Aaz ops (put ops a E).tmps)=Aaa o (Aaz ops a.tmps):=by
 induction E with
 | nil=>exact⟨rfl,rfl⟩
 | cons e E ih=>have:=ih (λx hx=>h x (bn _ hx));exact⟨(execOp_put o hs _ _ _ (h e cS)).trans this.1,(wanted_put o _ _ _ (h e cS)).trans this.2⟩
theorem put_defers{d:Deferred}:put ops {a with defers:=d::a.defers} E={put ops a E with defers:=d::(put ops a E).defers}:=by
 induction E with
 | nil=>rfl
 | cons e E ih=>simp only[put];rw[ih];cases HT ops e.1<;>rfl
theorem OU:(put ops a E).defers=a.defers:=by
 induction E with
 | nil=>rfl
 | cons e E ih=>rw[<-ih];show((put ops a E).put _ _).defers=_;cases HT ops e.1<;>rfl
theorem aag(hs:∀cs b,o.op≠.select cs b)(h:∀e∈E,∀d,HT ops e.1=some d->d ∉ o.looksAt ops/\o.dst≠some d)(hQ:∀c a w b,a.defers=b.defers->Q (.panic c) a w->Q (.panic c) b w)(k:o.wp P a w (λa' w'=>K (put ops a' E) w') Q):o.wp P (put ops a E) w K Q:=by
 have c:=BI (a:=a) hs (λe he d hd=>(h e he d hd).1);have q:∀b v,put ops (Aap b o.dst v) E=(put ops b E).put o.dst v:=λb v=>GR (λe he d hd=>(h e he d hd).2);unfold Ace at *;rw[c.1];generalize(Abt a.eval o).run P w=r at *;cases r with
 | ok n w'=>
  cases n<;>simp only[Oper.upon]at k ⊢
  case value u=>rw[<-q];exact k
  case skip=>rw[<-q];exact k
  case defer d=>rw[<-put_defers,<-q];exact k
  case enter f args=>
   refine Calls.mono k λe aa he=>?_;cases e with
   | returned u=>simp only at he ⊢;rw[<-q];exact he
   | panicked c=>exact hQ _ _ _ _ OU.symm he
   | outgrown=>exact he
  case row row args=>exact Rows.mono k λu aa he=>by rw[<-q];exact he
 | halt x w'=>
  cases x<;>simp only[Oper.upon]at k ⊢
  case panic u=>exact hQ _ _ _ _ OU.symm k
structure Mx(P:bu)(ops:Array Abi)(x0:af)(L:List As)(l:Array Bool)(E:List (Nat × Nat))(w:af):Prop where
 nd:(E.map (·.1)).Nodup
 ds:∀a∈E,∀b∈E,a.1≠b.1->a.2≠b.2
 ok:∀e∈E,e.1∈R7 P ops l/\Fsh x0 L e.2/\∃o t,ops[e.1]?=some o/\o.op=.alloc t/\aI w e.2 t (zc P t)
def RG(P:bu)(ops:Array Abi)(Q:Exit->Act->af->Prop)(F0:Nat->Prop)(x0:af)(L0 L:List As)(l:Array Bool)(a:Act)(x:af):Prop:=(∀A∈L0,A∈L)->∀E w,Up x w->Fr F0 x0 L w->Mx P ops x0 L l E w->Acp P .any ops Q (Sv F0 x0 L0) (mL (nS l (E.map (·.1)))) (nS l (E.map (·.1))) (put ops a E) w
structure w9(F0:Nat->Prop)(x0:af)(L:List As)(w:af)(L':List As)(w':af):Prop where
 s:Fr F0 x0 L' w'
 k:∀q t C,Fsh x0 L q->aI w q t C->Fsh x0 L' q/\aI w' q t C
section
variable {P:bu} {ops:Array Abi} {Q:Exit->Act->af->Prop} {F0:Nat->Prop} {x0:af} {L0 L L' N:List As} {l:Array Bool} {a:Act} {x w w':af} {o:Abi} {v:ah} {E:List (Nat × Nat)}
theorem iT{i:Nat}:i∈R7 P ops l↔i∈Cx ops l/\If P ops i=true:=by simp[R7]
def Ci{i:Nat}(h:i∈Cx ops l):l.getD i true=false:=(vx.1 h).1
theorem Mx.up(r:Mx P ops x0 L l E w)(u:Up w w'):Mx P ops x0 L l E w':=⟨r.nd,r.ds,λe h=>by obtain⟨h1,h2,o,t,h3,h4,h5⟩:=r.ok e h;exact⟨h1,h2,o,t,h3,h4,h5.up u⟩⟩
theorem Mx.set(r:Mx P ops x0 L l E w){c:Nat}(hc:∀e∈E,e.1≠c):Mx P ops x0 L (l.setIfInBounds c true) E w:=⟨r.nd,r.ds,λe h=>by obtain⟨h1,h2⟩:=r.ok e h;obtain⟨h3,h4⟩:=iT.1 h1;exact⟨iT.2 ⟨vy (E:=[c]) h3 (by simpa using hc e h),h4⟩,h2⟩⟩
theorem Mx.more(s:Fr F0 x0 L w)(r:Mx P ops x0 L l E w){i:Nat}{t:Aab}(hi:i∈R7 P ops l)(hE:i ∉ E.map (·.1))(ho:ops[i]?=some o)(ht:o.op=.alloc t):Mx P ops x0 L l ((i,w.heap.size)::E) (w.alloc (.cells (zc P t) t)):=by
 have u:=ai w (.cells (zc P t) t);have r':=r.up u;refine⟨by rw[Ab8,List.nodup_cons];exact⟨hE,r.nd⟩,?_,λe h=>?_⟩
 ·have lt:∀e∈E,e.2<w.heap.size:=λe he=>by obtain⟨_,_,_,_,_,_,hb⟩:=r.ok e he;exact hb.lt
  intro a ha b hb ar;rcases Aak.1 ha with rfl|ha<;>rcases Aak.1 hb with rfl|hb
  ·exact absurd rfl ar
  ·have:=lt b hb;simp only;omega
  ·have:=lt a ha;simp only;omega
  ·exact r.ds a ha b hb ar
 ·rcases Aak.1 h with rfl|h
  ·exact⟨hi,s.fsh (aE _),o,t,ho,ht,aI.new ..⟩
  ·exact r'.ok e h
theorem HA(r:Mx P ops x0 L l E w)(h:∀e∈E,∀x,ops[e.1]?=some x->x.apart ops o=true\/o.apart ops x=true):∀e∈E,∀d,HT ops e.1=some d->d ∉ o.looksAt ops/\o.dst≠some d:=λe he d hd=>by
 obtain⟨_,_,x,t,hx,_,_⟩:=r.ok e he;have hd:x.dst=some d:=by simpa[HT,hx]using hd
 rcases h e he x hx with k|k
 ·obtain⟨k1,k2,k3⟩:=Fc k;exact⟨k1 d hd,k2 d hd⟩
 ·obtain⟨k1,k2,k3⟩:=Fc k;exact⟨k3 d hd,λe=>k2 d e hd⟩
theorem O2(i:Nat){a':Act}(h:RG P ops Q F0 x0 L0 L (l.setIfInBounds i true) a' x)(hi:ops[i]?=some o)(hy:Ach P ops (Sv F0 x0 L0) o v a)(ha:a.put o.dst v=a')(hc:((Cx ops l).contains i && !If P ops i && Adr .any ops l i && Aa7 ops)=true)(hQ:∀c a w b,a.defers=b.defers->Q (.panic c) a w->Q (.panic c) b w):RG P ops Q F0 x0 L0 L l a x:=by
 subst ha;intro hL E w u s r;simp only[Aa8,Bool.not_eq_true']at hc;obtain⟨⟨⟨c1,c2⟩,c3⟩,c4⟩:=hc;have ir:i∈Cx ops l:=by simpa using c1
 have hE:∀e∈E,e.1≠i:=λe he e2=>T2
 have ab:i ∉ E.map (·.1):=λhm=>T3
 have ap:=HA (o:=o) r (λe he y hy=>by
  obtain⟨k1,y',k3,k4⟩:=vx.1 (iT.1 (r.ok e he).1).1;rw[hy]at k3;cases k3;refine .inr (Region.free_spec hi c3 e.1 _ hy (hE e he) k1 (λe' aa hb heq=>?_));obtain⟨k5,k6⟩:=az (k4 e' aa hb) (Ci ir);rw[heq]at k5;rcases jE i l.size with h'|h'
  ·simp[h']at k5 k6;rw[k6]at k5;cases k5
  ·simp[Ade h']at k5)
 obtain⟨pe,hm⟩:=az (BI (ops:=ops) (a:=a) (E:=E) (yO c4 i o · · hi) (λe he d hd=>(ap e he d hd).1)) (vc (l:=l) ab);have hn:(nS l (E.map (·.1))).getD i true=false:=by rw[kL,aO (λh=>ab h.1)];exact Ci ir
 rw[<-tP hn];refine wpAnyH_first hi (yO c4) (λc b w'=>hQ c _ w' _ (by cases o.dst<;>rfl)) _ _ _ w (λj oj hj hne ad ay=>Region.free_spec hi c3 j oj hj hne ?_ ay) (vy ir ab) (hy.of_same pe.1 pe.2) (s.sv hL) ?_
 ·rw[kL]at ad;split at ad
  ·cases ad
  ·exact ad
 ·rw[<-hm,<-GR (λe he d hd=>(ap e he d hd).2)];exact h hL E w u s (r.set hE)
theorem abk(c:Nat)(h:∀w,Up x w->Fr F0 x0 L w->∀K:Act->af->Prop,(∀v w' L',w9 F0 x0 L w L' w'->(∀A∈L0,A∈L->A∈L')->RG P ops Q F0 x0 L0 L' (l.setIfInBounds c true) (a.put o.dst v) w'->K (a.put o.dst v) w')->o.wp P a w K Q)(hi:ops[c]?=some o)(hw:Aaa o (Aaz ops a.tmps)=true)(hc:(JP P ops l c && Aa7 ops)=true)(hQ:∀c a w b,a.defers=b.defers->Q (.panic c) a w->Q (.panic c) b w):RG P ops Q F0 x0 L0 L l a x:=by
 intro hL;unfold JP at hc;simp only[Aa8,Bool.not_eq_true',List.all_eq_true]at hc;obtain⟨⟨⟨⟨c1,c2⟩,c3⟩,c5⟩,c4⟩:=hc;have ir:c∈Cx ops l:=by simpa using c1
 suffices go:∀n E w,mL (nS l (E.map (·.1)))=n->Up x w->Fr F0 x0 L w->Mx P ops x0 L l E w->Acp P .any ops Q (Sv F0 x0 L0) n (nS l (E.map (·.1))) (put ops a E) w from λE w u s r=>go _ E w rfl u s r
 intro n;induction n with
 | zero=>
  intro E w hn u s r;exfalso;have ad:c ∉ E.map (·.1):=λhm=>by obtain⟨e,he,h2⟩:=Abb.1 hm;have:=(iT.1 (r.ok e he).1).2;rw[h2,c2]at this;cases this
  have:=tP (l:=nS l (E.map (·.1))) (i:=c) (by rw[kL,aO (λh=>ad h.1)];exact Ci ir);omega
 | succ n ih=>
  intro E w hn u s r;have hE:∀e∈E,e.1≠c:=λe he e2=>T2
  have ad:c ∉ E.map (·.1):=λhm=>T3
  have cr:=vy ir ad;refine⟨λh0=>(by unfold Cx at cr;rw[h0]at cr;cases cr),λi hir=>?_⟩;have hir:i∈Cx ops (nS l (E.map (·.1))):=hir;by_cases ag:i=c
  ·subst ag;have ap:=HA (o:=o) r (λe he y hy=>by have:=c5 e.1 (r.ok e he).1;rw[hy,hi]at this;exact .inl this)
   obtain⟨pe,hm,al⟩:=cX (BI (ops:=ops) (a:=a) (E:=E) (yO c4 i o · · hi) (λe he d hd=>(ap e he d hd).1)) (vc (l:=l) ad) (tP (l:=nS l (E.map (·.1))) (i:=i) (Ci cr));refine kH hi (pe.2.trans hw) (aag (yO c4 i o · · hi) ap hQ (h w u s _ (λv w' L' nx hl rg=>?_)));refine⟨nx.s.sv (λA hA=>hl A hA (hL A hA)),?_⟩
   ·have:=rg (λA hA=>hl A hA (hL A hA)) E w' (Up.refl _) nx.s ⟨r.nd,r.ds,λe he=>by obtain⟨h1,h2,o,t,h3,h4,h5⟩:=(r.set hE).ok e he;have:=nx.k _ _ _ h2 h5;exact⟨h1,this.1,o,t,h3,h4,this.2⟩⟩
    rw[hm]at this;have e:n=mL ((nS l (E.map (·.1))).setIfInBounds i true):=ae
    rw[e];exact this
  ·have hf:i∈R7 P ops l:=yK λhf=>ag (by
    have:=c3 i (OW hir (λe he=>by obtain⟨e',aa,h2⟩:=Abb.1 he;rw[<-h2];exact(r.ok e' aa).1) hf)
    simpa using this)
   refine Ox ?_;intro ab;obtain⟨y,t,hy,ht,hg,hz⟩:=MO (iT.1 hf).2;have ua:=ai w (.cells (zc P t) t);refine kH hy (by unfold Aaa;rw[hg]) (tH ht hz ⟨(s.up ua).sv hL,?_⟩);have:=ih ((i,w.heap.size)::E) (w.alloc (.cells (zc P t) t)) TU (u.trans ua) (s.up ua) (r.more s hf ab hy ht)
   exact NJ
theorem aaf{j q:Nat}(ap:∀e∈E,e.1≠j->∀d,HT ops e.1=some d->HT ops j≠some d)(nd:(E.map (·.1)).Nodup)(h:(j,q)∈E):∃E':List (Nat × Nat),(∀e∈E',e∈E/\e.1≠j)/\(E'.map (·.1)).Nodup/\nS l (E.map (·.1))=nS (l.setIfInBounds j true) (E'.map (·.1))/\put ops a E=put ops (a.put (HT ops j) (pz q)) E':=by
 induction E with
 | nil=>cases h
 | cons e E ih=>
  rw[Ab8,List.nodup_cons]at nd;rcases Aak.1 h with rfl|h
  ·have hj:∀e∈E,e.1≠j:=λe he h2=>nd.1 (Abb.2 ⟨e,he,h2⟩);refine⟨E,λe he=>⟨bn _ he,hj e he⟩,nd.2,?_,?_⟩
   ·show(nS l _).setIfInBounds j true=_;rw[vc nd.1]
   ·show(put ops a E).put (HT ops j) (pz q)=_;have:=GR (ops:=ops) (a:=a) (E:=E) (o:={(default:Abi)with dst:=HT ops j}) (v:=pz q) (λe he d hd ax=>ap e (bn _ he) (hj e he) d hd ax);exact this.symm
  ·obtain⟨E',h1,h3,h4,h5⟩:=ih (λe he=>ap e (bn _ he)) nd.2 h;have aa:e.1≠j:=λh2=>nd.1 (Abb.2 ⟨_,h,h2.symm⟩);refine⟨e::E',λx hx=>?_,?_,?_,?_⟩
   ·rcases Aak.1 hx with rfl|hx
    ·exact⟨cS,aa⟩
    ·exact⟨bn _ (h1 x hx).1,(h1 x hx).2⟩
   ·rw[Ab8,List.nodup_cons];refine⟨λhm=>?_,h3⟩;obtain⟨x,hx,h2⟩:=Abb.1 hm;exact nd.1 (Abb.2 ⟨x,(h1 x hx).1,h2⟩)
   ·show(nS l _).setIfInBounds e.1 true=(nS _ _).setIfInBounds e.1 true;rw[h4]
   ·show(put ops a E).put _ _=(put ops _ E').put _ _;rw[h5]
theorem Yn(j:Nat){t:Aab}{C:Array ah}{a':Nat->Act}(h:∀g w,Up x w->Fr F0 x0 (bk g t C::L) w->RG P ops Q F0 x0 L0 (bk g t C::L) (l.setIfInBounds j true) (a' g) w)(hi:ops[j]?=some o)(ho:o.op=.alloc t)(hC:zc P t=C)(hc:chN P ops l j=true)(ha:∀g,a.put o.dst (pz g)=a' g):RG P ops Q F0 x0 L0 L l a x:=by
 obtain rfl:(λg=>a.put o.dst (pz g))=a':=funext ha;intro hL;subst hC;unfold chN at hc;simp only[Aa8,List.all_eq_true]at hc;obtain⟨⟨c1,c3⟩,c5⟩:=hc;have jf:j∈R7 P ops l:=by simpa using c1
 have ir:=(iT.1 jf).1;suffices go:∀n E w,mL (nS l (E.map (·.1)))=n->Up x w->Fr F0 x0 L w->Mx P ops x0 L l E w->Acp P .any ops Q (Sv F0 x0 L0) n (nS l (E.map (·.1))) (put ops a E) w from λE w u s r=>go _ E w rfl u s r
 have dj:HT ops j=o.dst:=by simp[HT,hi]
 have done:∀E w,Up x w->Fr F0 x0 L w->Mx P ops x0 L l E w->j∈E.map (·.1)->Acp P .any ops Q (Sv F0 x0 L0) (mL (nS l (E.map (·.1)))) (nS l (E.map (·.1))) (put ops a E) w:=by
  intro E w u s r hj;obtain⟨⟨j',q⟩,he,aj⟩:=Abb.1 hj;have he:(j,q)∈E:=by rw[<-aj];exact he
  obtain⟨E',h1,h3,h4,h5⟩:=aaf (ops:=ops) (a:=a) (l:=l) (λe he hne d hd=>by
   have:=c5 e.1 (r.ok e he).1;obtain⟨_,_,y,t,hy,_,_⟩:=r.ok e he;simp only[hy,hi,Adk,beq_iff_eq,hne,false_or]at this;have hd:y.dst=some d:=by simpa[HT,hy]using hd
   rw[dj];exact(Fc this).2.1 d hd) r.nd he
  obtain⟨_,f,y,t',hy,ht,hb⟩:=r.ok _ he;have e1:y=o:=by simpa[hi]using hy.symm
  subst e1;have e2:t'=t:=by rw[ho]at ht;exact(Op.alloc.inj ht).symm
  subst e2;rw[h4,h5,dj];refine h q w u (s.add f hb) (λb hb=>bn _ (hL b hb)) E' w (Up.refl _) (s.add f hb) ⟨h3,λa ha b hb=>r.ds a (h1 a ha).1 b (h1 b hb).1,λe aa=>?_⟩;obtain⟨k1,k2,k3⟩:=(r.ok e (h1 e aa).1);obtain⟨m1,m2⟩:=iT.1 k1;refine⟨iT.2 ⟨vy (E:=[j]) m1 (by simpa using(h1 e aa).2),m2⟩,⟨k2.1,λb hb=>?_⟩,k3⟩;rcases Aak.1 hb with rfl|hb
  ·exact λe3=>r.ds e (h1 e aa).1 _ he (h1 e aa).2 (show e.2=q from e3)
  ·exact k2.2 b hb
 intro n;induction n with
 | zero=>
  intro E w hn u s r;by_cases hj:j∈E.map (·.1)
  ·rw[<-hn];exact done E w u s r hj
  ·have:=tP (l:=nS l (E.map (·.1))) (i:=j) (by rw[kL,aO (λh=>hj h.1)];exact Ci ir);omega
 | succ n ih=>
  intro E w hn u s r;by_cases hj:j∈E.map (·.1)
  ·rw[<-hn];exact done E w u s r hj
  have jr:=vy ir hj;refine⟨λh0=>(by unfold Cx at jr;rw[h0]at jr;cases jr),λi hir=>?_⟩;have hir:i∈Cx ops (nS l (E.map (·.1))):=hir;have hf:i∈R7 P ops l:=yK λhf=>by
   have:=c3 i (OW hir (λe he=>by obtain⟨e',aa,h2⟩:=Abb.1 he;rw[<-h2];refine wy.2 ⟨(r.ok e' aa).1,?_⟩;simp only[bne_iff_ne];exact λh=>hj (Abb.2 ⟨e',aa,h⟩)) (λh=>hf (wy.1 h).1))
   simp only[beq_iff_eq]at this;rw[this]at hf;exact hf jf
  refine Ox ?_;intro ab;obtain⟨y,t',hy,ht,hg,hz⟩:=MO (iT.1 hf).2;have ua:=ai w (.cells (zc P t') t');refine kH hy (by unfold Aaa;rw[hg]) (tH ht hz ⟨(s.up ua).sv hL,?_⟩);have:=ih ((i,w.heap.size)::E) (w.alloc (.cells (zc P t') t')) TU (u.trans ua) (s.up ua) (r.more s hf ab hy ht)
  exact NJ
theorem Ym(h:∀w,Up x w->Fr F0 x0 L w->Q .normal a w)(hr:Cx ops l=[]):RG P ops Q F0 x0 L0 L l a x:=by
 intro hL E w u s r;have:E=[]:=by
  cases E with
  | nil=>rfl
  | cons e E=>have:=(iT.1 (r.ok e cS).1).1;rw[hr]at this;cases this
 subst this;exact yC hr (h w u s) _
def lk(n k:Nat):Array Bool:=((Aal n).map λi=>decide (i<k)).toArray
theorem XL(n:Nat):lk n 0=Array.replicate n false:=by apply hn.1;rw[lk,Array.toList_replicate,Acz];exact yP aq aq
theorem TR(n k:Nat):(lk n k).setIfInBounds k true=lk n (k+1):=by
 apply hn.1;rw[lk,lk,Abo,Acz,Acz];refine yP aq (λi h1 h2=>?_);rw[List.getElem_set];split
 ·subst_vars;simp
 ·simp only[Adl,List.getElem_range];rw[Fe];omega
theorem Z4{l:Array Bool}{J:List Nat}{k:Nat}(h:k∈J):nS (l.setIfInBounds k true) J=nS l J:=by
 induction J with
 | nil=>cases h
 | cons j J ih=>
  show(nS _ J).setIfInBounds j true=(nS l J).setIfInBounds j true;by_cases hk:k∈J
  ·rw[ih hk]
  ·rw[vc hk];have:k=j:=(Aak.1 h).resolve_right hk;subst this;rw[Array.setIfInBounds_setIfInBounds]
def ml(n:Nat)(J:List Nat)(k:Nat):Array Bool:=nS (lk n k) J
theorem K'{n k:Nat}{J:List Nat}(h:J.contains k=false):(ml n J k).setIfInBounds k true=ml n J (k+1):=by unfold ml;rw[<-TR,vc jG]
def RK(P:bu)(ops:Array Abi)(Q:Exit->Act->af->Prop)(F0:Nat->Prop)(x0:af)(L0 L:List As)(J:List Nat)(k:Nat)(a:Act)(x:af):Prop:=RG P ops Q F0 x0 L0 L (ml ops.size J k) a x
theorem Se{D:As}(h:x4 L D L':=by first|with_reducible exact .head|with_reducible exact .tail .head|with_reducible exact .tail (.tail .head)|with_reducible exact .tail (.tail (.tail .head))|with_reducible exact .tail (.tail (.tail (.tail .head)))|with_reducible exact .tail (.tail (.tail (.tail (.tail .head))))|with_reducible exact .tail (.tail (.tail (.tail (.tail (.tail .head)))))|with_reducible exact .tail (.tail (.tail (.tail (.tail (.tail (.tail .head))))))|with_reducible exact .tail (.tail (.tail (.tail (.tail (.tail (.tail (.tail .head)))))))|with_reducible exact .tail (.tail (.tail (.tail (.tail (.tail (.tail (.tail (.tail .head))))))))|with_reducible exact .tail (.tail (.tail (.tail (.tail (.tail (.tail (.tail (.tail (.tail .head)))))))))|with_reducible exact .tail (.tail (.tail (.tail (.tail (.tail (.tail (.tail (.tail (.tail (.tail .head))))))))))|with_reducible exact .tail (.tail (.tail (.tail (.tail (.tail (.tail (.tail (.tail (.tail (.tail (.tail .head)))))))))))):x4 L D L':=h
variable {J:List Nat} {k:Nat} {v:ah} {ty t:Aab} {g off m n:Nat} {C C' V:Array ah}
theorem ka(L0:List As){id:Nat}(s:Fr F0 x0 L w)(hL:∀A∈L0,A∈L)(h:∀w,Fr F0 x0 L w->RK P ops Q F0 x0 L0 L [] 0 a w)(hm:P.follows .mixedOrders=true):(Code.region id ops true).wp P Q a w:=by have u:Up w w.drew:=Up.drew (Up.refl w);refine e8 (S:=Sv F0 x0 L0) hm ?_;have:=h w.drew (s.up u) hL [] w.drew (Up.refl _) (s.up u) ⟨.nil,λ_ h=>gn,λ_ h=>gn⟩;exact NK
theorem kb{id:Nat}(s:Fr F0 x0 L w)(h:∀w,Fr F0 x0 L w->RK P ops Q F0 x0 L L [] 0 a w)(hm:P.follows .mixedOrders=true:=by kernel_rfl):(Code.region id ops true).wp P Q a w:=ka L s (λ_ h=>h) h hm
theorem kw{id:Nat}(c:Nat){y z:bR}(s:Fr F0 x0 L w)(h:∀w,Fr F0 x0 L w->RK P ops Q F0 x0 L0 L [] 0 a w)(hi:ops[c]?=some o:=by rfl)(ho:o.op=.store ty y z:=by rfl)(hx:a.eval y=.pointer (some ⟨g,off,none⟩):=by rfl)(hr:x4 L (bk g t C) L0:=by exact Se)(hm:P.follows .mixedOrders=true:=by kernel_rfl):(Code.region id ops true).wp P Q a w:=ka L0 s hr.sub h hm
theorem kw2{id:Nat}(c e:Nat){y z y2 z2:bR}{o2:Oper}{aa t2:TypeId}{g2 aI:Nat}{C2:Array ah}(s:Fr F0 x0 L w)(h:∀w,Fr F0 x0 L w->RK P ops Q F0 x0 L0 L [] 0 a w)(hi:ops[c]?=some o:=by rfl)(ho:o.op=.store ty y z:=by rfl)(hx:a.eval y=.pointer (some ⟨g,off,none⟩):=by rfl)(hr:x4 L (bk g t C) L':=by exact Se)(ai:ops[e]?=some o2:=by rfl)(aq:o2.op=.store aa y2 z2:=by rfl)(ad:a.eval y2=.pointer (some ⟨g2,aI,none⟩):=by rfl)(aU:x4 L' (bk g2 t2 C2) L0:=by exact Se)(hm:P.follows .mixedOrders=true:=by kernel_rfl):(Code.region id ops true).wp P Q a w:=ka L0 s (λA hA=>hr.sub A (aU.sub A hA)) h hm
theorem kt{a':Act}(h:RK P ops Q F0 x0 L0 L J (k+1) a' x)(hi:ops[k]?=some o:=by rfl)(hy:YieldsIf P ops (Sv F0 x0 L0) o v a:=by exact zyf)(hJ:J.contains k=false:=by rfl)(ha:a.put o.dst v=a':=by first|(simp only[Act.put,fL];rfl)|rfl)(hc:((Cx ops (ml ops.size J k)).contains k && !If P ops k && Region.free .any ops (ml ops.size J k) k && Region.noSelect ops)=true:=by kernel_rfl)(hQ:∀c a w b,a.defers=b.defers->Q (.panic c) a w->Q (.panic c) b w:=by intro _ ⟨_,_⟩ _ ⟨_,_⟩ e h;cases e;exact h):RK P ops Q F0 x0 L0 L J k a x:=O2 k (by rw[K' hJ];exact h) hi hy ha hc hQ
theorem kn{a':Nat->Act}(h:∀g w,Up x w->Fr F0 x0 (bk g t C::L) w->RK P ops Q F0 x0 L0 (bk g t C::L) J (k+1) (a' g) w)(hi:ops[k]?=some o:=by rfl)(ho:o.op=.alloc t:=by rfl)(hC:zc P t=C:=by exact zzf)(hJ:J.contains k=false:=by rfl)(hc:chN P ops (ml ops.size J k) k=true:=by kernel_rfl)(ha:∀g,a.put o.dst (pz g)=a' g:=by intro _;first|(simp only[Act.put,fL];rfl)|rfl):RK P ops Q F0 x0 L0 L J k a x:=Yn k (λg w u s=>by rw[K' hJ];exact h g w u s) hi ho hC hc ha
theorem ko(h:∀w,Up x w->Fr F0 x0 L w->∀K:Act->af->Prop,(∀v w' L',w9 F0 x0 L w L' w'->(∀A∈L0,A∈L->A∈L')->RK P ops Q F0 x0 L0 L' J (k+1) (a.put o.dst v) w'->K (a.put o.dst v) w')->o.wp P a w K Q)(hJ:J.contains k=false)(hi:ops[k]?=some o)(hw:Aaa o (Aaz ops a.tmps)=true)(hc:(JP P ops (ml ops.size J k) k && Aa7 ops)=true)(hQ:∀c a w b,a.defers=b.defers->Q (.panic c) a w->Q (.panic c) b w):RK P ops Q F0 x0 L0 L J k a x:=abk k (λw u s K hK=>h w u s K λv w' L' n hl r=>hK v w' L' n hl (by rw[K' hJ];exact r)) hi hw hc hQ
theorem w9.res(s:Fr F0 x0 L w)(r:Rz w w' N):w9 F0 x0 L w (N++L) w':=⟨s.res r,λq t C f b=>⟨⟨f.1,λA hA hq=>by
 rcases Aa3.1 hA with h|h
 ·have:=(r.f A h q hq).1;have:=b.lt;omega
 ·exact f.2 A h hq⟩,b.up r.u⟩⟩
theorem kc'{f:FuncId}{args:Array ah}{R:af->Ab3->af->Prop}(C:∀w,Up x w->Fr F0 x0 L w->Aaf P f args w (R w))(h:∀w,Up x w->Fr F0 x0 L w->∀e w',R w e w'->∃v N,e=.returned v/\Rz w w' N/\RK P ops Q F0 x0 L0 (N++L) J (k+1) (a.put o.dst v) w')(hJ:J.contains k=false)(hi:ops[k]?=some o)(he:∀w,(Abt a.eval o).run P w=.ok (.enter f args) w)(hw:Aaa o (Aaz ops a.tmps)=true)(hc:(JP P ops (ml ops.size J k) k && Aa7 ops)=true)(hQ:∀c a w b,a.defers=b.defers->Q (.panic c) a w->Q (.panic c) b w):RK P ops Q F0 x0 L0 L J k a x:=ko (λw u s K hK=>by
  unfold Ace;rw[he];refine(C w u s).mono λe w' hR=>?_;obtain⟨v,N,rfl,r,k⟩:=h w u s e w' hR;exact hK v w' _ (.res s r) (λA _ h=>oJ _ h) k) hJ hi hw hc hQ
theorem kc{f:FuncId}{args:Array ah}{a':ah->Act}{R:af->Ending->af->Prop}(C:∀w,Up x w->Fr F0 x0 L w->Calls P f args w (R w))(h:∀w,Up x w->Fr F0 x0 L w->∀e w',R w e w'->∃v,e=.returned v/\Up w w'/\RK P ops Q F0 x0 L0 L J (k+1) (a' v) w')(hJ:J.contains k=false:=by rfl)(hi:ops[k]?=some o:=by rfl)(ha:∀v,a.put o.dst v=a' v:=by intro _;first|(simp only[Act.put,fL];rfl)|rfl)(he:∀w,(execOp a.eval o).run P w=.ok (.enter f args) w:=by intro _;kernel_rfl)(hw:Region.wanted o (yielded ops a.tmps)=true:=by rfl)(hc:(JP P ops (ml ops.size J k) k && Region.noSelect ops)=true:=by kernel_rfl)(hQ:∀c a w b,a.defers=b.defers->Q (.panic c) a w->Q (.panic c) b w:=by intro _ ⟨_,_⟩ _ ⟨_,_⟩ e h;cases e;exact h):RK P ops Q F0 x0 L0 L J k a x:=kc' C (λw u s e w' r=>by
  obtain⟨v,h1,h2,h3⟩:=h w u s e w' r;exact⟨v,[],h1,.z h2,by rw[ha];exact h3⟩) hJ hi he hw hc hQ
theorem CI{f:FuncId}{args:Array ah}{a':ah->Act}{R:af->Ending->af->Prop}(C:∀w,Up x w->Fr F0 x0 L w->Calls P f args w (R w))(h:∀w,Up x w->Fr F0 x0 L w->∀e w',R w e w'->∃v A,e=.returned v/\Rz w w' [A]/\RK P ops Q F0 x0 L0 (A::L) J (k+1) (a' v) w')(hJ:J.contains k=false:=by rfl)(hi:ops[k]?=some o:=by rfl)(ha:∀v,a.put o.dst v=a' v:=by intro _;first|(simp only[Act.put,fL];rfl)|rfl)(he:∀w,(execOp a.eval o).run P w=.ok (.enter f args) w:=by intro _;kernel_rfl)(hw:Region.wanted o (yielded ops a.tmps)=true:=by rfl)(hc:(JP P ops (ml ops.size J k) k && Region.noSelect ops)=true:=by kernel_rfl)(hQ:∀c a w b,a.defers=b.defers->Q (.panic c) a w->Q (.panic c) b w:=by intro _ ⟨_,_⟩ _ ⟨_,_⟩ e h;cases e;exact h):RK P ops Q F0 x0 L0 L J k a x:=kc' C (λw u s e w' r=>by
  obtain⟨v,A,h1,h2,h3⟩:=h w u s e w' r;exact⟨v,[A],h1,h2,by rw[ha];exact h3⟩) hJ hi he hw hc hQ
theorem kpp{y z:bR}{a':Act}(aF:∀w,Fr F0 x0 L w->∃t C,aI w g t C/\off+V.size<=C.size/\(∃A∈L,A.F g)/\∀w',aI w' g t (Abz C.toList off V.toList).toArray->w.grownBy w' (some g)->Fr F0 x0 L' w')(hF:∀D∈L',∀n,D.F n->∃A∈L,A.F n)(h:∀w',Fr F0 x0 L' w'->RK P ops Q F0 x0 L0 L' J (k+1) a' w')(hJ:J.contains k=false)(hi:ops[k]?=some o)(ho:o.op=.store ty y z)(hx:a.eval y=.pointer (some ⟨g,off,none⟩))(hy:(a.eval z).cells=V)(aN:(P.info? ty).map (·.size)=some V.size)(h1:V.all (·.oneCell')=true)(hl:L0.Sublist L')(hw:Aaa o (Aaz ops a.tmps)=true)(ha:a.put o.dst Aat=a')(hc:(JP P ops (ml ops.size J k) k && Aa7 ops)=true)(hQ:∀c a w b,a.defers=b.defers->Q (.panic c) a w->Q (.panic c) b w):RK P ops Q F0 x0 L0 L J k a x:=by subst ha;refine ko (λw u s K hK=>?_) hJ hi hw hc hQ;obtain⟨t,C,hb,hfit,⟨A,hA,aP⟩,hB⟩:=aF w s;refine mJ ho hx hy hb aN hfit h1 λw' aB hg=>?_;have s':=hB w' aB hg;refine hK Aat w' L' ⟨s',λq t' C0 f b=>⟨⟨f.1,λD hD hq=>?_⟩,b.grown hg (λe=>f.2 A hA (by rw[<-dC e];exact aP))⟩⟩ (λA hA _=>hl.subset hA) (h w' s');obtain⟨E,hE,he⟩:=hF D hD q hq;exact f.2 E hE he
theorem kp{y z:bR}{A B:As}{a':Act}(aF:∀w,Fr F0 x0 L w->∃t C,aI w g t C/\off+V.size<=C.size/\A.F g/\∀w',aI w' g t (Abz C.toList off V.toList).toArray->w.grownBy w' (some g)->B.P w'/\∀n,B.F n->A.F n)(hF:∀n,B.F n->A.F n)(h:∀w',Fr F0 x0 L' w'->RK P ops Q F0 x0 L0 L' J (k+1) a' w')(hU:mK L A B L')(hJ:J.contains k=false)(hi:ops[k]?=some o)(ho:o.op=.store ty y z)(hx:a.eval y=.pointer (some ⟨g,off,none⟩))(hy:(a.eval z).cells=V)(aN:(P.info? ty).map (·.size)=some V.size)(h1:V.all (·.oneCell')=true)(hl:L0.Sublist L')(hw:Aaa o (Aaz ops a.tmps)=true)(ha:a.put o.dst Aat=a')(hc:(JP P ops (ml ops.size J k) k && Aa7 ops)=true)(hQ:∀c a w b,a.defers=b.defers->Q (.panic c) a w->Q (.panic c) b w):RK P ops Q F0 x0 L0 L J k a x:=kpp (λw s=>by
  obtain⟨t,C,hb,hfit,hA,hB⟩:=aF w s;refine⟨t,C,hb,hfit,⟨A,hU.mem,hA⟩,λw' aB hg=>?_⟩;have T:Touch A.F w w':=Touch.be hg (λk e=>by cases e;exact hA);exact s.yb hU T (hB w' aB hg).1 (λn h=>⟨eh (s.f _ hU.mem n (hF n h)).1 T.size,.inl (hF n h)⟩)) (λD hD n hn=>by
  rcases hU.sub D hD with rfl|hD
  ·exact⟨A,hU.mem,hF n hn⟩
  ·exact⟨D,hD,hn⟩) h hJ hi ho hx hy aN h1 hl hw ha hc hQ
theorem ks{m n:Nat}{a':Act}(h:∀w',Fr F0 x0 L' w'->RK P ops Q F0 x0 L0 L' J (k+1) a' w')(hJ:J.contains k=false:=by rfl)(hi:ops[k]?=some o:=by rfl)(ho:o.op=.store ty (.tmp m) (.tmp n):=by rfl)(hx:a.eval (.tmp m)=.pointer (some ⟨g,0,none⟩):=by rfl)(hy:a.eval (.tmp n)=.agg C':=by rfl)(hU:mK L (bk g t C) (bk g t C') L':=by exact tK)(aN:(P.info? ty).map (·.size)=some C'.size:=by exact Sa)(h1:C'.all (·.oneCell')=true:=by exact zoa)(hold:C.size=C'.size:=by exact zhs)(hl:L0.Sublist L':=by repeat(first|exact List.Sublist.slnil|(with_reducible refine List.Sublist.cons₂ _ ?_)|refine List.Sublist.cons _ ?_))(hw:Region.wanted o (yielded ops a.tmps)=true:=by rfl)(ha:a.put o.dst undef=a':=by first|(simp only[Act.put,fL];rfl)|rfl)(hc:(JP P ops (ml ops.size J k) k && Region.noSelect ops)=true:=by kernel_rfl)(hQ:∀c a w b,a.defers=b.defers->Q (.panic c) a w->Q (.panic c) b w:=by intro _ ⟨_,_⟩ _ ⟨_,_⟩ e h;cases e;exact h):RK P ops Q F0 x0 L0 L J k a x:=kp (A:=bk g t C) (B:=bk g t C') (λw s=>⟨t,C,s.e6 hU.mem,ae,rfl,λw' hb _=>⟨by rw[B' hold]at hb;exact hb,λ_ h=>h⟩⟩) (λ_ h=>h) h hU hJ hi ho hx zb aN h1 hl hw ha hc hQ
theorem kj(i:Nat){a':Act}(h:RK P ops Q F0 x0 L0 L (i::J) k a' x)(hi:ops[i]?=some o:=by rfl)(hy:YieldsIf P ops (Sv F0 x0 L0) o v a:=by exact zyf)(ha:a.put o.dst v=a':=by first|(simp only[Act.put,fL];rfl)|rfl)(hc:((Cx ops (ml ops.size J k)).contains i && !If P ops i && Region.free .any ops (ml ops.size J k) i && Region.noSelect ops)=true:=by kernel_rfl)(hQ:∀c a w b,a.defers=b.defers->Q (.panic c) a w->Q (.panic c) b w:=by intro _ ⟨_,_⟩ _ ⟨_,_⟩ e h;cases e;exact h):RK P ops Q F0 x0 L0 L J k a x:=O2 i h hi hy ha hc hQ
theorem kx(h:RK P ops Q F0 x0 L0 L J (k+1) a x)(hJ:J.contains k=true:=by rfl):RK P ops Q F0 x0 L0 L J k a x:=by unfold RK ml at *;rw[<-TR,Z4 (by simpa using hJ)]at h;exact h
theorem kd(h:∀w,Up x w->Fr F0 x0 L w->Q .normal a w)(hr:Cx ops (ml ops.size J k)=[]:=by kernel_rfl):RK P ops Q F0 x0 L0 L J k a x:=Ym h hr
end
section
variable {P:bu} {ops:Array Abi} {Q:Exit->Act->af->Prop} {F0:Nat->Prop} {x0:af} {L L':List As} {a:Act} {w:af} {op:Abi} {v:ah} {rest:List Abi} {ty t:Aab} {g off m n:Nat} {C C' V:Array ah} {d:eT}
theorem aa2(s:Fr F0 x0 L w)(h:Aam P ops Q rest (a.put op.dst v) w)(hy:Ach P ops (Sv F0 x0 L) op v a):Aam P ops Q (op::rest) a w:=by
 rcases hy with⟨h1,h2⟩|⟨h1,rfl⟩
 ·exact qg h1 λK hK=>Mt (h2 w (s.sv λ_ h=>h)) (hK _ _ h)
 ·unfold Aam;rw[h1];simpa using h
theorem fl(s:Fr F0 x0 L w)(h:wpList P ops Q rest (a.put op.dst v) w)(hy:YieldsIf P ops (Sv F0 x0 L) op v a:=by first
 | exact Zu ku aA gh aA gB Sa aA
 | exact Zw ku aA gh aA gB (by intro _ h;first|with_reducible exact mF h cq cq|with_reducible exact Co h cq cq|with_reducible exact Cp h cq cq|with_reducible exact BV h|with_reducible exact Cg h) Sa aA
 | exact WS ku aA gB zvo F1 aA
 | exact WT ku aA gh aA zas zno Sa aA
 | exact Zv ku aA zas zno F1 aA
 | exact Pc aA zbs zas aA
 | exact WQ ku (by first|with_reducible exact zQ|with_reducible exact hZ|with_reducible exact sy|with_reducible exact C8|with_reducible exact C6|with_reducible exact Da) aA):wpList P ops Q (op::rest) a w:=aa2 s h hy
theorem fs(s:Fr F0 x0 L w)(h:∀w,Fr F0 x0 L' w->wpList P ops Q rest (a.put op.dst undef) w)(ho:op.op=.store ty (.tmp m) (.tmp n):=by with_reducible rfl)(hx:a.eval (.tmp m)=.pointer (some ⟨g,0,none⟩):=by rfl)(hy:a.eval (.tmp n)=.agg C':=by rfl)(hU:mK L (bk g t C) (bk g t C') L':=by exact tK)(hi:(P.info? ty).map (·.size)=some C'.size:=by exact Sa)(h1:C'.all (·.oneCell')=true:=by exact zoa)(hold:C.size=C'.size:=by exact zhs)(hgd:op.guard=none:=by rfl):wpList P ops Q (op::rest) a w:=h' hgd λK hK=>mJ ho hx zb (s.e6 hU.mem) hi ae h1 λw' hb hg=>hK _ _ (h w' (s.set hU (by rw[<-B' hold];exact hb) hg))
def aao(c v:ah):(Abz (#[c]:Array ah).toList 0 (#[v]:Array ah).toList).toArray=#[v]:=rfl
theorem fp(s:Fr F0 x0 L w)(h:∀w,Fr F0 x0 L' w->wpList P ops Q rest (a.put op.dst undef) w){y:bR}(ho:op.op=.store ty (.tmp m) y:=by with_reducible rfl)(hx:a.eval (.tmp m)=.pointer (some ⟨g,off,none⟩):=by rfl)(hy:(a.eval y).cells=V:=by exact zcv)(hm:bk g t C∈L:=by exact gB)(hV:(splice C.toList off V.toList).toArray=C':=by first|with_reducible exact aao .. | with_reducible exact YD .. | with_reducible exact YF .. | with_reducible exact abn .. | with_reducible exact abo .. | with_reducible exact abq .. | with_reducible exact abp .. | with_reducible exact abr .. | assumption)(hU:mK L (bk g t C) (bk g t C') L':=by exact tK)(hfit:off+V.size<=C.size:=by first|assumption|exact Ff aA)(hi:(P.info? ty).map (·.size)=some V.size:=by exact Sa)(h1:V.all (·.oneCell')=true:=by exact zoa)(hgd:op.guard=none:=by rfl):wpList P ops Q (op::rest) a w:=h' hgd λK hK=>mJ ho hx hy (s.e6 hU.mem) hi hfit h1 λw' hb hg=>hK _ _ (h w' (s.set hU (by rw[<-hV];exact hb) hg))
theorem fb(s:Fr F0 x0 L w)(h:∀g w,Fr F0 x0 (bk g ty C::L) w->wpList P ops Q rest (a.put op.dst (pz g)) w)(ho:op.op=.box ty (.tmp n):=by with_reducible rfl)(hx:(a.eval (.tmp n)).cells=C:=by exact zcv)(hgd:op.guard=none:=by rfl):wpList P ops Q (op::rest) a w:=h' hgd λK hK=>JD ho hx (hK _ _ (h _ _ (s.alloc ty C)))
theorem fa(s:Fr F0 x0 L w)(h:∀g w,Fr F0 x0 (bk g ty C::L) w->wpList P ops Q rest (a.put op.dst (pz g)) w)(ho:op.op=.alloc ty:=by with_reducible rfl)(hC:zc P ty=C:=by exact zzf)(hz:zk P ty=true:=by kernel_rfl)(hgd:op.guard=none:=by rfl):wpList P ops Q (op::rest) a w:=by subst hC;exact h' hgd λK hK=>tH ho hz (hK _ _ (h _ _ (s.alloc ty _)))
def abR{F0:Nat->Prop}{x0:af}{L:List As}{w:af}{Y:af->Prop}{Z:Prop}(h:∀(_:Nat) w,Fr F0 x0 L w->Y w)(s:Fr F0 x0 L w)(k:Y w->Z):Z:=k (h 0 w s)
def aa3{Y:af->Prop}{Z:Prop}(h:∀(_:Nat) w,Y w)(k:(∀w,Y w)->Z):Z:=k (h 0)
theorem fw{H:Prop}(s:Fr F0 x0 L w)(h:H)(d:Fr F0 x0 L w->H->wpList P ops Q (op::rest) a w:=by first
 | exact λs h=>abR h s (λx=>fl s x)
 | exact λs h=>aa3 h (λx=>fs s x)
 | exact λs h=>aa3 h (λx=>fp s x)
 | exact λs h=>fa s h
 | exact λs h=>fb s h):wpList P ops Q (op::rest) a w:=d s h
end
inductive Rs (P:bu) (L:List As) (tm:Array ah):List Ac8->List ah->Prop
 | nil:Rs P L tm [] []
 | tmp {u:Tmp} {v:ah} {rs:List Ac8} {vs:List ah} (r:Rs P L tm rs vs) (h:tm.getD u Aat=v:=by exact zvv):Rs P L tm (.tmp u::rs) (v::vs)
 | cell {p:Tmp} {g:Nat} {ty t:Aab} {C:Array ah} {d:eT} {rs:List Ac8} {vs:List ah} (r:Rs P L tm rs vs) (h:tm.getD p Aat=pz g:=by rfl) (hm:bk g t C∈L:=by exact gB) (hu:P.underlying ty=some d:=by exact gh) (hd:d.isRow=true:=by rfl) (hi:(P.info? ty).map (·.size)=some C.size:=by exact Sa):Rs P L tm (.cell p ty::rs) (.agg C::vs)
def rv:List ah->ah
 | [x]=>x
 | l=>.tuple l.toArray
section
variable {P:bu} {F0:Nat->Prop} {x0:af} {L:List As} {a:Act} {w:af} {rs:List Ac8} {vs:List ah}
theorem aak{tm:Array ah}(hL:∀A∈L,A.P w)(h:Rs P L tm rs vs):(rs.mapM (m:=Sem) λ| .tmp t=>pure (tm.getD t Aat) | .cell a t=>do loadVar t (<-asAddr (tm.getD a Aat))).run P w=.ok vs w:=by
 induction h with
 | nil=>rfl
 | tmp r h ih=>rw[List.mapM_cons,Aa1,Ac7,Aay,h,Aa1,ih];rfl
 | cell r h hm hu hd hi ih=>rw[List.mapM_cons,Aa1];have e:=ct asAddr h;rw[show asAddr (pz _)=pure _ from rfl]at e;simp only[e,pure_bind,iv (P:=P) _ _ _ _ (show aI w _ _ _ from hL _ hm) _ hu hd hi,Aay,Aa1,ih];rfl
theorem p3{fn:Func}{R:Ending->af->Prop}{v:ah}(s:Fr F0 x0 L w)(hR:R (.returned v) w)(hf:fn.results=⟨rs⟩:=by first|exact(rfl:_=(⟨[_,_,_]⟩:Array ResultVar))|exact(rfl:_=(⟨[_,_]⟩:Array ResultVar))|exact(rfl:_=(⟨[_]⟩:Array ResultVar))|rfl)(hr:Rs P L a.tmps rs vs:=by first|exact .tmp .nil|exact .cell .nil|exact .tmp (.tmp .nil)|exact .tmp (.cell .nil)|exact .cell (.tmp .nil)|exact .cell (.cell .nil)|exact .tmp (.tmp (.tmp .nil))|exact .tmp (.tmp (.cell .nil))|exact .tmp (.cell (.tmp .nil))|exact .tmp (.cell (.cell .nil))|exact .cell (.tmp (.tmp .nil))|exact .cell (.tmp (.cell .nil))|exact .cell (.cell (.tmp .nil))|exact .cell (.cell (.cell .nil)))(hv:rv vs=v:=by rfl)(hd:a.defers=[]:=by rfl):bodyPost P fn R .ret a w:=by
 refine kk ?_ hd hR;have:=aak s.p hr;unfold results;rw[hf];show((rs.toArray.mapM _) >>= _:Sem ah).run P w=_;rw[List.mapM_toArray,Aa1,map_eq_pure_bind,Aa1];erw [this];subst hv;cases vs with
 | nil=>rfl
 | cons x vs=>cases vs<;>rfl
end
theorem ack:zc Aag 87=a6 hole:=al
theorem acg:zc Aag 60=aD aM:=al
theorem eS{g g':Nat}{t t':Aab}{C C':Array ah}(h:aI w g t C)(h':aI w g' t' C')(ht:t≠t'):g≠g':=by grind [aI]
theorem fal{F0:Nat->Prop}{x0:af}{L:List As}{op:Oper}{rest:List Oper}(C:Array ah)(t:TypeId)(v:Nat->ah)(s:Fr F0 x0 L w)(h:∀g w,Fr F0 x0 (bk g t C::L) w->wpList P ops Q rest (a.put op.dst (v g)) w)(hv:∀w,(execOp a.eval op).run P w=.ok (.value (v w.heap.size)) (w.alloc (.cells C t)):=by intro _;kernel_rfl)(hgd:op.guard=none:=by rfl):wpList P ops Q (op::rest) a w:=h' hgd λ_ hK=>Mt (hv w) (hK _ _ (h _ _ (s.alloc t C)))
def op(b:Nat)(v:ah)(l:List au):As:=⟨λn=>v.ownBlock=some n,λw=>a8 w b v l,λh T hf=>h.ax T hf⟩
section
variable {F0:Nat->Prop} {x0:af} {L:List As} {w w':af} {b B:Nat} {v:ah} {l:List au}
theorem Rz.q(h:a8 w' w.heap.size v l)(u:Up w w')(hB:B<=w.heap.size):Rz w w' [op B v l]:=.one u (h.mono hB) (h.aJ)
def Rz.qq{v2:ah}{l2:List au}(h:a8 w' w.heap.size v l)(h2:a8 w' w.heap.size v2 l2)(u:Up w w')(hB:B<=w.heap.size):Rz w w' [jn (op B v l) (op B v2 l2)]:=.one u ⟨h.mono hB,h2.mono hB⟩ (λn hn=>hn.elim (h.aJ n) (h2.aJ n))
theorem Fr.Zi{b2:Nat}{v2:ah}{l2:List au}(s:Fr F0 x0 L w)(h:jn (op b v l) (op b2 v2 l2)∈L:=by exact gB):a8 w b v l/\a8 w b2 v2 l2:=s.p _ h
theorem Fr.I0(s:Fr F0 x0 L w)(h:op b v l∈L:=by exact gB):a8 w b v l:=s.p _ h
end
theorem wg(x:cQ):(prog.info? 60).map (·.size)=some (aD x.val).size:=by grind [bT,dI]
def tJ:hL:=⟨0,0,hole,0,0⟩
def Ce(s:List aj):hL:=⟨bo ((s.drop 4).take 8),bo ((s.drop 12).take 8),mg ((s.drop 20).take 16),(bo ((s.drop 36).take 4):Nat),(bo ((s.drop 40).take 4):Nat)⟩
def k2(s:List aj):Option hL:=if eW (Ce s)=true/\eZ (Ce s)=s then some (Ce s)else none
def Sx(s:List aj)(w:af)(e:Ab3)(w':af):Prop:=e=.returned (.tuple #[.agg (uC ((k2 s).getD tJ)),.bool (k2 s).isSome])/\Up w w'
theorem YN(s:List aj):(Ce s).wf:=by have h1:=fV (l:=(s.drop 4).take 8) (k:=8) ao;have h2:=fV (l:=(s.drop 12).take 8) (k:=8) ao;have h3:=fV (l:=(s.drop 36).take 4) (k:=4) ao;have h4:=fV (l:=(s.drop 40).take 4) (k:=4) ao;have h5:=fV (l:=((s.drop 20).take 16).take 4) (k:=4) ao;have h6:=fV (l:=(((s.drop 20).take 16).drop 4).take 8) (k:=8) ao;have h7:=fV (l:=((s.drop 20).take 16).drop 12) (k:=4) ao;grind [hL.wf,Ce,mg,au.wf]
theorem SS(u:hL):prog.built 122 [(0,.int .u64 (u.du:Int)),(1,.int .u64 (u.ay:Int)),(2,.agg (a6 u.iL)),(3,.int .i64 u.len),(4,.int .i64 u.sec)]=some (uC u):=al
theorem Da:prog.built 122 []=some (uC tJ):=al
theorem YX:∀W:af,(Ab9 122).run Aag W=.ok (.agg (uC tJ)) W:=(lb (P:=Aag) (t:=122) (v:=.agg (uC tJ)) (n:=7) aA).1
theorem RU{s:List aj}(h:cw (mg ((s.drop 20).take 16))=false):k2 s=none:=by grind [k2,kD,Ce]
theorem KD(h:κ b=16):c8 [8,8] b=[bo (b.take 8),bo (b.drop 8)]:=by show [bo (b.take 8),bo ((b.drop 8).take 8)]=_;rw[dk (l:=b.drop 8) ao]
theorem KC(h:κ b=8):c8 [4,4] b=[bo (b.take 4),bo (b.drop 4)]:=by show [bo (b.take 4),bo ((b.drop 4).take 4)]=_;rw[dk (l:=b.drop 4) ao]
theorem abL:zc Aag 122=uC tJ:=al
theorem zM{f:α->ah}(h:aI w g t C)(l:List α)(n:Nat)(hn:n=κ l)(hm:n<=maxLen)(hC:C.toList=l.map f)(h0:0<n:=by omega):aC f w (cC g n n) l:=.inr ⟨g,0,n,by rw[hn],ae,ae,ae,λi hi=>by rw[h.cell,Abn,<-l7,hC];simp[hi]⟩
theorem aa4{g q lo n cap:Nat}{t t2:Aab}{x y:Int}{l:List aj}(h:aI w g t #[i6 x,i6 y])(b:aI w q t2 (aD l))(hl:κ l=128)(h1:lo+n<=128)(h0:0<n)(hc:n<=cap)(hm:cap<=128)(hw:yg [x,y])(hn:total [x,y]=n)(k:Nat)(k2:Nat)(hg:c8 [x,y] ((l.drop lo).take n)=[k,k2]):Aaf Aag 177 #[cC g 2 2,.slice (some ⟨q,lo,none⟩) n cap] w λe w'=>∃g c,e=.returned (.tuple #[.slice (some ⟨g,0,none⟩) 2 c,i6 0])/\w'.cell? ⟨g,0,none⟩=some (u6 (k:Int))/\w'.cell? ⟨g,1,none⟩=some (u6 (k2:Int))/\w.heap.size<=g/\Up w w':=by refine(uh _ _ [x,y] (zM h [x,y] 2 rfl dy rfl) aq _ _ (ij b lo n cap ae h0 hc hm) ⟨hw,by rw[hn,ey,hA];omega⟩).mono ?_;rintro e w'⟨v,rfl,ho,hu⟩;rw[hg]at ho;obtain⟨g,c,rfl,h4,_,hc,_⟩:=Own.row ho aq;exact⟨g,c,rfl,hc 0 aq,hc 1 aq,h4,hu⟩
theorem RT(w:af)(l:List aj)(hs:κ l=128):Aaf Aag 168 #[.agg (aD l)] w λe w'=>Sx l w e w':=by
 obtain⟨w0,rfl⟩:=bE w;have HS:=an hs;have aJ:∀q W,(Abq 60 (pz q) (some (i6 4)) (some (i6 20)) none).run Aag W=.ok (.slice (some ⟨q,4,none⟩) 16 124) W:=λq W=>od q 4 20 4 20 rfl rfl ae ae ae W;have aK:∀q W,(Abq 60 (pz q) (some (i6 20)) (some (i6 36)) none).run Aag W=.ok (.slice (some ⟨q,20,none⟩) 16 108) W:=λq W=>od q 20 36 20 36 rfl rfl ae ae ae W;have aL:∀q W,(Abq 60 (pz q) (some (i6 36)) (some (i6 44)) none).run Aag W=.ok (.slice (some ⟨q,36,none⟩) 8 92) W:=λq W=>od q 36 44 36 44 rfl rfl ae ae ae W;obtain⟨tx,aa⟩:=bE (bo ((l.drop 4).take 8));obtain⟨st,aF⟩:=bE (bo ((l.drop 12).take 8));obtain⟨ln,aQ⟩:=bE (bo ((l.drop 36).take 4));obtain⟨sc,ak⟩:=bE (bo ((l.drop 40).take 4));have G1:=an (show c8 [8,8] ((l.drop 4).take 16)=[tx,st] by rw[KD (by rw[ey,hA,hs];rfl),List.take_take,List.drop_take,Ac4,aa,aF];rfl)
 have G2:=an (show c8 [4,4] ((l.drop 36).take 8)=[ln,sc] by rw[KC (by rw[ey,hA,hs];rfl),List.take_take,List.drop_take,Ac4,aQ,ak];rfl)
 have ax:ln<4294967296:=by have:=fV (l:=(l.drop 36).take 4) (k:=4) ao;omega
 have ay:sc<4294967296:=by have:=fV (l:=(l.drop 40).take 4) (k:=4) ao;omega
 have wl:=bc ln ae;have ws:=bc sc ae;obtain⟨HU,i60⟩:=aw (show Ce l=⟨tx,st,mg ((l.drop 20).take 16),(ln:Int),(sc:Int)⟩ from by unfold Ce;rw[<-aa,<-aF,<-aQ,<-ak]) (show(prog.info? 60).map (·.size)=some (aD l).size by rw[bT,hs];exact dI);have s:=Fr.start w0;clear hs aa aF aQ ak ax ay;go_in;go_wp2_with(refine fw s ?_;intro _ w s);have s:=s.alloc 3 #[i6 8,i6 8];change Fr _ _ (bk ?g3 3 _::bk ?q2 122 _::bk ?q1 60 _::_) _ at s;obtain⟨q4,q5⟩:=az ((s.f (bk ?q2 122 _) gB _ rfl).1) ((s.f (bk ?q2 122 _) gB _ rfl).2.resolve_left id);refine(aa4 (s.e6 (t:=3) gB) (s.e6 (t:=60) gB) HS ae ae ae ae av av _ _ G1).mono ?_;rintro e w1⟨g4,c4,rfl,m0,m1,h4,u1⟩;have s:=s.up u1;obtain⟨U1,z1,b1⟩:=cX s.pure (s.e6 (t:=122) gB) (s.e6 (t:=60) gB);have n4:¬(bk ?q2 122 (uC tJ)).F g4:=by show g4≠_;omega
 have s:=Fr.start w1;go_wp2_with fail;refine(qB w1 _ _ (ij b1 20 16 108 (by rw[HS.out];omega) ae ae ae) (by rw[ey,hA,HS.out];rfl)).mono ?_;rintro e w2(⟨root,au,rfl,u2⟩|⟨aB,rfl,u2⟩);rotate_left
 ·have HF:k2 l=none:=RU (by
   unfold mi at aB;split at aB
   ·cases aB
   ·rename_i hh;rw[<-wv];exact λhg=>hh ⟨by rw[ey,hA,HS.out];rfl,hg⟩)
  obtain⟨U2,z2⟩:=az (U1.trans u2) (z1.up u2);have s:=Fr.from (A:=bk ?q2 122 (uC tJ)) z2 (λn h=>by rw[show n=_ from h];exact z2.lt);clear G1 G2 aB wl ws;rw[show fQ hole=.agg (a6 hole)from rfl];go_wp2_with(refine fw s ?_;intro _ w s);refine br ?_;exact⟨by rw[HF]<;>rfl,s.t.up U2 (λn h=>by rw[show n=_ from h];exact q5)⟩
 have ab:mg ((l.drop 20).take 16)=root:=by
  unfold mi at au;split at au
  ·exact dC au
  ·cases au
 have HU:=an (HU.out.trans (by rw[ab]));have s:=s.up u2;clear au ab u2;rw[show fQ root=.agg (a6 root)from rfl];go_wp2_with(refine fw s ?_;intro _ w s);have s:=s.alloc 3 #[i6 4,i6 4];have q7:=eh z1.lt s.pure.size;refine(aa4 (s.e6 (t:=3) gB) (b1.up s.pure) HS ae ae ae ae av av _ _ G2).mono ?_;rintro e w5⟨g7,c7,rfl,k0,k1,h7,u5⟩;have s:=s.up u5;obtain⟨U5,B8⟩:=az s.pure (s.e6 (t:=87) gB);obtain⟨z5,b5,j0,j1⟩:=iQ (z1.up U5) (b1.up U5) (U5.cell m0) (U5.cell m1);have n7:¬(bk ?q2 122 (uC tJ)).F g7:=by show g7≠_;omega
 have n8:¬(bk ?q2 122 (uC tJ)).F _:=eS B8 z5 av;have n1:¬(bk ?q2 122 (uC tJ)).F ?q1:=eS b5 z5 av;obtain⟨R8,R5,U0⟩:=cX B8.range b5.range (U1.trans U5);obtain⟨u,ag⟩:=bE (Ce l);have ai:u.wf:=by rw[ag];exact YN l
 have al:k2 l=if eW u=true/\eZ u=l then some u else none:=by rw[ag];rfl
 have aq:prog.built 122 [(0,u6 (tx:Int)),(1,u6 (st:Int)),(2,.agg (a6 root)),(3,i6 (ln:Int)),(4,i6 (sc:Int))]=some (uC u):=by rw[ag,HU.out];exact SS ⟨tx,st,root,(ln:Int),(sc:Int)⟩
 obtain⟨aI,aG⟩:=az (xb u) (EL u);replace ai:=an ai;replace al:=an al;have s:=Fr.from (A:=bk ?q2 122 (uC tJ)) z5 (λn h=>by rw[show n=_ from h];exact z5.lt);clear m0 m1 z1 b1 B8 ag HU G1 G2 U1 u5;go_wp2_with fail;refine kb s (λw s=>?_);iterate 10 refine kt ?_
 refine kt (v:=i6 (ln:Int)) ?_ (hy:=ya);iterate 3 refine kt ?_
 refine kt (v:=i6 (sc:Int)) ?_ (hy:=ya);refine kt ?_;refine kn (λ_ w _ s=>?_);refine ks (λw s=>?_);refine kd (λw _ s=>?_);clear aq;go_wp2_with(refine fw s ?_;intro _ w s);refine(Ch _ u ai).mono ?_;rintro e w⟨rfl,u8⟩;have s:=s.up u8;obtain⟨VL,ad,aE,aC,aH⟩:=eQ ((qT u).property) (show eW u=true->(qT u).val=eZ u from λh=>by unfold qT;rw[bp h]) (wg (qT u)) (dr (qT u).val) (show(aD aM).size=(aD (qT u).val).size by rw[bT,bT,(qT u).property];rfl);have EQ:=LZ (qT u).val l (qT u).property HS;have FIN:∀{w' v},Touch (bk ?q2 122 (uC tJ)).F w5 w'->k2 l=v->Sx l w0 (.returned (.tuple #[.agg (uC (v.getD tJ)),.bool v.isSome])) w':=λT h=>by subst h;exact⟨rfl,T.up U0 (λn h=>by rw[show n=_ from h];exact q5)⟩
 cases hr:eW u
 ·have HE:Wt u=61:=by unfold Wt;rw[hr];rfl
  rw[HE];generalize(qT u).val=V at *;clear HE EQ ad;go_wp2_with(refine fw s ?_;intro _ w s);refine br ?_;exact FIN (v:=none) s.t (by rw[al.out,aO];rintro⟨h,_⟩;rw[hr]at h;cases h)
 have ar:=ad hr;have HE:Wt u=0:=by unfold Wt;rw[bp hr]
 rw[HE];by_cases hb:eZ u=l
 ·rw[ar,fm hb,<-ar]at EQ;generalize(qT u).val=V at *;clear HE ad ar;go_wp2_with(refine fw s ?_;intro _ w s);refine br ?_;exact FIN (v:=some u) s.t (by rw[al.out,bp ⟨hr,hb⟩])
 ·rw[ar,jb hb,<-ar]at EQ;generalize(qT u).val=V at *;clear HE ad ar;go_wp2_with(refine fw s ?_;intro _ w s);refine br ?_;exact FIN (v:=none) s.t (by rw[al.out,aO];rintro⟨_,h⟩;exact hb h)
theorem Jk(w:af)(u:hL):Aaf Aag 169 #[.agg (uC u)] w λe w'=>e=.returned (i6 ((u.du%4:Nat):Int))/\Up w w':=by obtain⟨B1,U1⟩:=aw (aI.new w 122 (uC u)) (ai w (.cells (uC u) 122));obtain⟨du,ay,iL,len,sec⟩:=u;obtain⟨c0,c1,c2,c5,c6,R2⟩:=x0 B1;have wr:=bc (du%4) ae;rw[show((du%4:Nat):Int)=(du:Int)%4 from ae]at wr;clear c1 c2 c5 c6;go_in;go_wp2;go_ret;exact⟨aq,U1⟩
theorem Xl(w:af)(a b:Nat):Aaf Aag 172 #[u6 (a:Int),u6 (b:Int)] w λe w'=>e=.returned (i6 (if a<b then -1 else if b<a then 1 else 0))/\w=w':=by
 have NB:∀x:Int,(x != x)=false:=λx=>aq
 by_cases h1:a<b
 ·have b1:((a:Int)<(b:Int))=True:=by simp;omega
  rw[bp h1];clear h1;exact F5
 have b1:((a:Int)<(b:Int))=False:=ao
 rw[aO h1];by_cases h2:b<a
 ·have b2:((b:Int)<(a:Int))=True:=by simp;omega
  rw[bp h2];clear h1 h2;exact F5
 have b2:((b:Int)<(a:Int))=False:=ao
 rw[aO h2];clear h1 h2;exact F5
def HN(u v:hL):Int:=if u.du<v.du then -1 else if v.du<u.du then 1 else 0
theorem Wv(w:af)(u v:hL):Aaf Aag 171 #[.agg (uC u),.agg (uC v)] w λe w'=>e=.returned (i6 (HN u v))/\w'=(w.alloc (.cells (uC u) 122)).alloc (.cells (uC v) 122):=by have B1:=an ((aI.new w 122 (uC u)).up (ai (w.alloc (.cells (uC u) 122)) (.cells (uC v) 122)));have b2:=aI.new (w.alloc (.cells (uC u) 122)) 122 (uC v);rw[aN]at b2;obtain⟨B2,CM,HC⟩:=aW b2 (Xl ((w.alloc (.cells (uC u) 122)).alloc (.cells (uC v) 122)) u.du v.du) (show HN u v=if u.du<v.du then -1 else if v.du<u.du then 1 else 0 from rfl);generalize HN u v=z at *;obtain⟨du,ay,iL,len,sec⟩:=u;obtain⟨ag,aa,ae,ab,ad⟩:=v;obtain⟨c0,d0⟩:=az ((x0 B1).1) ((x0 B2).1);dsimp only at CM HC;rw[<-HC.out]at CM;go_in;go_wp2_with fail;refine CM.mono ?_;rintro e w2⟨rfl,rfl⟩;exact e4
theorem aC.ax{f:α->ah}{w w':af}{v:ah}{l:List α}{F:Nat->Prop}(h:aC f w v l)(T:Touch F w w')(hF:∀b,v.ownBlock=some b->¬F b):aC f w' v l:=by
 rcases h with h|⟨b,off,cap,h1,h2,h3,h4,h5⟩
 ·exact .inl h
 ·exact .inr ⟨b,off,cap,h1,h2,h3,h4,λi hi=>fC (h5 i hi) T (hF b uI)⟩
section
variable {P:bu}
theorem kQ{ops:Array Abi}{rest:List Abi}{o:Abi}{a:Act}{w:af}{Q:Exit->Act->af->Prop}(hw:Aaa o (Aaz ops a.tmps)=true)(t:Aab)(i:Nat)(x:bR)(ho:o.op=.build t #[(i,x)])(v:ah)(hx:a.eval x=v)(C:Array ah)(hb:P.built t [(i,v)]=some C)(h:Aam P ops Q rest (a.put o.dst (.agg C)) w):Aam P ops Q (o::rest) a w:=qg hw λ_ hK=>wp_build t #[(i,x)] ho aP (hK _ _ (by simpa[hx,hb]using h))
end
theorem vM{w w1 w2:af}{v1 v2:bD}(D1:Dv w1 {h with vp:=vp} v1)(T1:Touch (cK h) w w1)(hv:∀b,vp.ownBlock=some b->h.vp.ownBlock=some b\/w.heap.size<=b)(T:iY w1 {h with vp:=vp} v2 w2):iY w h v2 w2:=by
 obtain⟨ao,D2,T2,h2⟩:=T;refine⟨ao,D2,T1.trans T2 (λn hn hlt=>?_),λb hb=>?_⟩
 ·rcases iY.ZN (w':=w1) hv n hn with h|h
  ·exact h
  ·omega
 ·rcases h2 b hb with h|h
  ·simp_all
  ·exact .inr (bO T1.size h)
theorem RO{w w1 w2:af}{v2:bD}(U:Up w w1)(T:iY w1 h v2 w2):iY w h v2 w2:=by
 obtain⟨ao,D2,T2,h2⟩:=T;refine⟨ao,D2,(Touch.bV (F:=cK h) U).trans T2 (λn hn _=>hn),λb hb=>?_⟩;rcases h2 b hb with h|h
 ·simp_all
 ·exact .inr (bO U.size h)
theorem j7{w w':af}{v:bD}(hb:aI w g t C)(T:iY w h v w')(hf:¬cK h g):aI w' g t C:=by obtain⟨_,_,T2,_⟩:=T;exact hb.ax T2 hf
def bD.oA(v:bD)(u:hL):bD:=(v.cN).written ((u.du%4:Nat):Int) (qT u)
theorem EG{v:bD}:κ v.cN.bL<=κ v.bL:=by
 unfold bD.cN;split
 ·simp
 ·rw[(pd _).1];exact aE _
theorem Hp{v:bD}{i:Int}{s:cQ}:κ (v.written i s).bL<=κ v.bL+1:=by
 have h1:=(pd v.bb).1;unfold bD.written bD.put;split
 ·split
  ·simp only[Aae,Aaj,Aa5];rw[h1];exact aE _
  ·rw[h1];exact gM _
 ·exact gM _
theorem J9(w:af)(h:iM)(v:bD)(D:Dv w h v)(u:hL)(aK:u.wf)(hr:κ v.bL<=100000)(az:eW u=true)(fe:v.hv=true)(hb:v.cN.hasB ((u.du%4:Nat):Int)=true)(hp:v.cN.hv=true)(hq:(v.oA u).hv=true):Aaf Aag 153 #[pz h.d,.agg (uC u)] w λe w'=>e=.returned (i6 (v.oA u).pZ)/\iY w h (v.oA u).cN w':=by
 obtain⟨aG,aL,HB,HP,HQ,HV⟩:=iC (show v.pZ=0 by unfold bD.pZ;rw[fe];rfl) (show v.cN.pr ((u.du%4:Nat):Int)=0 by unfold bD.pr;rw[hb,hp];rfl) hb hp hq fe;clear fe hb hp hq;obtain⟨B1,U1,DH,HR,ao,C1,aJ,av,ag,aC,aH,aE⟩:=aas (aI.new w 122 (uC u)) (ai w (.cells (uC u) 122)) D hr (λW=>Jk W u) (show v.oA u=(v.cN).written ((u.du%4:Nat):Int) (qT u)from rfl) (show u.du%4<4 from ae) (show Wt u=if eW u=true then 0 else 61 from rfl) (show ¬cK h w.heap.size from λhf=>by have:=D.oG _ hf;omega) (dr (qT u).val) (show(aD aM).size=(aD (qT u).val).size by rw[bT,bT,(qT u).property];rfl) (wg (qT u));clear hr;generalize u.du%4=tx at *;go_in;go_wp2_with(refine arm ?_);refine((λW=>Ch W u aK) _).mono ?_;rintro e w2⟨rfl,U2⟩;have UX:=ai w2 (.cells (aD (qT u).val) 60);obtain⟨BV,U3⟩:=aw (aI.new w2 60 (aD (qT u).val)) (U1.trans (U2.trans UX));obtain⟨D3,ak⟩:=aw (DH.up U3) (show ¬cK h w2.heap.size from λhf=>by have:=DH.oG _ hf;have:=(U1.trans U2).size;omega);generalize qT u=V at *;rw[az]at av;have aj:=av.out;rw[bp rfl]at aj;rw[aj];obtain⟨au,aO⟩:=aw (show w.heap.size<(w2.alloc (.cells (aD V.val) 60)).heap.size by rw[aN];have:=(by have:=(U1.trans U2).size;have h2:=U2.size;rw[aN]at h2;omega);omega) (show w2.heap.size<(w2.alloc (.cells (aD V.val) 60)).heap.size by rw[aN];omega);clear az aj;have FL:=an (Ab _ h v D3 (by have:=HR.out;omega) HV);go_wp2_with(first
  | refine arm ?_
  | ((with_reducible refine cB 60 (.tmp 5) (.tmp 12) ?_);refine fK w2 rfl 60 (.tmp 5) (.tmp 12) rfl (aD V.val) 60 (aD aM) rfl rfl rfl aE aH aC ?_))
 refine FL.mono ?_;rintro e w4⟨rfl,T4⟩;obtain⟨B4,aB,aQ⟩:=aW (j7 (B1.up (U2.trans UX)) T4 ag) (j7 BV T4 ak) T4;rw[aG.out];obtain⟨vp,D4,T4,ab⟩:=aQ.out;have ay:=an ab;clear ab;obtain⟨h4,aa⟩:∃x:iM,x={h with vp:=vp}:=⟨_,rfl⟩;have H4:=an aa;rw[<-aa]at D4;have ax:h4.d=h.d:=by rw[aa]
 have ag:=an (show ¬cK h4 w.heap.size from λhf=>by
  rw[aa]at hf;rcases iY.ZN (w':=w4) ay _ hf with hf|hf
  ·exact ag hf
  ·have:=au.out;omega)
 have ak:=an (show ¬cK h4 w2.heap.size from λhf=>by
  rw[aa]at hf;rcases iY.ZN (w':=w4) ay _ hf with hf|hf
  ·exact ak hf
  ·have:=aO.out;omega)
 have aP:=ao.out;have PE:=an (show κ v.cN.bL<=100000 from bO EG HR);have WR:=an (show ∀W,Dv W h4 v.cN->Aaf Aag 217 #[pz h.d,i6 (tx:Int),.agg (aD V.val)] W λe w'=>e=.returned (i6 (v.cN.pr (tx:Int)))/\iY W h4 (v.cN.written (tx:Int) V) w' from λW DW=>by have:=Af W h4 v.cN DW (tx:Int) (by have:=aJ.out;omega) V (by have:=PE.out;omega) HB HP;rw[ax]at this;exact this)
 clear aa ax aP;go_wp2;refine e8 (S:=λW=>aI W w.heap.size 122 (uC u)/\aI W w2.heap.size 60 (aD V.val)) al ?_;change Acp _ _ _ _ _ 6 _ _ w4.drew;have UD:Up w4 w4.drew:=(Up.refl w4).drew;obtain⟨B5,ad⟩:=aw (B4.up UD) (aB.up UD);generalize w4.drew=w5 at *;refine tk 0 (pz h.d) rfl ya ⟨B5,ad⟩ ?_;refine tk 1 _ rfl (WU (λW hS=>hS.1.range)) ⟨B5,ad⟩ ?_;refine tk 3 _ rfl (WU (λW hS=>hS.2.range) (hi:=aE)) ⟨B5,ad⟩ ?_;refine qX 2 al rfl rfl ?_;intro K hK;go_simp;refine(ao w5).mono ?_;rintro e w6⟨rfl,U6⟩;refine hK _ _ ⟨B5.up U6,ad.up U6⟩ ?_;clear hK K;obtain⟨B6,ar⟩:=aw (B5.up U6) (ad.up U6);have D6:=(D4.up UD).up U6;refine qX 4 al rfl rfl ?_;intro K hK;go_simp;refine(WR w6 D6).mono ?_;rintro e w7⟨rfl,T7⟩;refine hK _ _ ⟨j7 B6 T7 ag,j7 ar T7 ak⟩ ?_;clear hK K;refine tk 5 (i6 (v.cN.pr (tx:Int))) rfl ya ⟨j7 B6 T7 ag,j7 ar T7 ak⟩ ?_;refine⟨al,?_⟩;have aF:Dv w6 {h with vp:=vp} v.cN:=by rw[<-H4.out];exact D6
 have aR:iY w6 {h with vp:=vp} (v.cN.written (tx:Int) V) w7:=by rw[<-H4.out];exact T7
 have T8:=an (vM aF ((T4.trans (Touch.bV (F:=λ_=>False) UD) (λn hn _=>hn.elim)).trans (Touch.bV (F:=λ_=>False) U6) (λn hn _=>hn.elim)) ay aR);rw[<-C1.out]at T8;clear WR;(try simp only[Exit.then]);rw[aL.out];obtain⟨bk,D8,T9,aq⟩:=T8.out;have FL:=Ab w7 _ _ D8 (by rw[C1.out];exact bO Hp (by have:=PE.out;omega)) HQ;go_wp2_with fail;refine FL.mono ?_;rintro e w9⟨rfl,bC⟩;go_wp2;go_ret;exact⟨rfl,RO U3 (vM D8 T9 aq bC)⟩
def DA(w:af)(h:iM)(C:List cQ)(m:Nat)(fl:Bool):Prop:=∃v,Dv w h v/\v.cx=C/\v.dead=false/\v.left=-1/\(κ v.bL)<=m/\dh v.aR v.bL=v.cx/\(fl=true->v.bL=[])
def DT(w:af)(h:iM)(C:List cQ)(m:Nat)(fl:Bool)(w':af):Prop:=∃vp,DA w' {h with vp:=vp} C m fl/\Touch (cK h) w w'/\∀b,vp.ownBlock=some b->h.vp.ownBlock=some b\/w.heap.size<=b
theorem DA.up{w w':af}{C:List cQ}{fl:Bool}(D:DA w h C m fl)(u:Up w w'):DA w' h C m fl:=by obtain⟨v,h1,h2⟩:=D;exact⟨v,h1.up u,h2⟩
theorem DA.ax{w w':af}{C:List cQ}{fl:Bool}(D:DA w h C m fl){F:Nat->Prop}(T:Touch F w w')(hf:∀b,cK h b->¬F b):DA w' h C m fl:=by obtain⟨v,h1,h2⟩:=D;exact⟨v,h1.ax T hf,h2⟩
theorem DA.lt{C:List cQ}{fl:Bool}(D:DA w h C m fl):∀b,cK h b->b<w.heap.size:=by obtain⟨v,h1,_⟩:=D;exact h1.oG
theorem DA.len{C:List cQ}{fl:Bool}(D:DA w h C m fl):κ C<=1024:=by obtain⟨v,h1,h2,_⟩:=D;rw[<-h2,h1.len];exact h1.max
theorem Dv.jK{v:bD}(D:Dv w h v){A:Array ah}(hb:aI w g t A)(h1:t≠114)(h2:t≠60)(h3:t≠116):¬cK h g:=by
 rintro(rfl|rfl|rfl|e)
 ·have:=hb.symm.trans D.dev;simp at this;exact h1 this.2
 ·have:=hb.symm.trans D.b1;simp at this;exact h2 this.2
 ·have:=hb.symm.trans D.b2;simp at this;exact h2 this.2
 ·exact jd h3 hb D.bL e
theorem DA.jK{C:List cQ}{fl:Bool}(D:DA w h C m fl){A:Array ah}(hb:aI w g t A)(h1:t≠114)(h2:t≠60)(h3:t≠116):¬cK h g:=by obtain⟨v,d,_⟩:=D;exact d.jK hb h1 h2 h3
theorem kK(w:af)(h:iM)(C:List cQ)(m:Nat)(fl:Bool)(D:DA w h C m fl):Aaf Aag 55 #[.pointer (some ⟨h.d,0,none⟩)] w λe w'=>e=.returned (.int .i64 (κ C:Int))/\w=w':=by obtain⟨v,h1,h2,_⟩:=D;have:=S9 w h v h1;rw[<-h1.len,h2]at this;exact this
theorem tV(w:af)(h:iM)(C:List cQ)(m:Nat)(fl:Bool)(D:DA w h C m fl):Aaf Aag 53 #[.pointer (some ⟨h.d,0,none⟩)] w λe w'=>e=.returned (.bool false)/\w=w':=by obtain⟨v,h1,h2,h3,_⟩:=D;have:=PV w h v h1;simp_all
theorem Tb(w:af)(h:iM)(C:List cQ)(m:Nat)(fl:Bool)(D:DA w h C m fl)(i:Nat)(hi:i<κ C):Aaf Aag 166 #[.pointer (some ⟨h.d,0,none⟩),.int .i64 (i:Int)] w λe w'=> e=.returned (.tuple #[.agg (aD (C[i]).val),.int .i64 0])/\DA w' h C m fl/\Touch (cK h) w w':=by have hl:=D.len;obtain⟨v,h1,h2,h3,h4,h5,h6,h7⟩:=D;have hlen:=h1.len;have hb:v.hasB (i:Int)=true:=(nY v i).2 aa;refine(Dg w h v h1 (i:Int) ae).mono ?_;rintro e w'⟨rfl,D',T⟩;refine⟨?_,⟨v.bb,D',h2,h3,h4,h5,h6,h7⟩,T⟩;grind [bD.jQ,bD.mj,bD.nowAt]
theorem jN{v:bD}(h3:v.dead=false)(h4:v.left=-1):v.hv=true/\v.eO=v:=by obtain⟨a,b,c,d,l,k⟩:=v;simp only at h3 h4;subst h3;subst h4;refine⟨rfl,?_⟩;rfl
theorem P0(w:af)(h:iM)(C:List cQ)(m:Nat)(fl:Bool)(D:DA w h C m fl)(i:Nat)(hi:i<κ C)(s:cQ)(hm:m<=900000):Aaf Aag 217 #[.pointer (some ⟨h.d,0,none⟩),.int .i64 (i:Int),.agg (aD s.val)] w λe w'=>e=.returned (.int .i64 0)/\DT w h (C.set i s) (m+1) false w':=by
 have hl:=D.len;obtain⟨v,h1,h2,h3,h4,h5,h6,h7⟩:=D;have hlen:=h1.len;have hb:v.hasB (i:Int)=true:=(nY v i).2 aa;obtain⟨hp,_⟩:=jN h3 h4;have hs:v.bb.eO=v.bb:=(jN (v:=v.bb) h3 h4).2;refine(Af w h v h1 (i:Int) ae s ae hb hp).mono ?_;rintro e w'⟨rfl,vp,D',T,O⟩;have ew:v.written (i:Int) s=v.bb.put i s:=by grind [bD.written]
 have ee:v.pr (i:Int)=0:=by grind [bD.pr]
 rw[ee];refine⟨rfl,vp,⟨_,D',?_⟩,T,O⟩;rw[ew];refine⟨by show v.cx.set i s=_;rw[h2],h3,h4,by show(v.bL++_).length<=_;simp;omega,?_,λh=>aa⟩;show dh v.aR (v.bL++[⟨i,s⟩])=v.cx.set i s;grind [dh]
theorem Ap{v:bD}(h3:v.dead=false)(h4:v.left=-1):v.cN={v.bb with aR:=dh v.aR v.bL,bL:=[]}/\v.pZ=0:=by unfold bD.cN bD.pZ;rw[(jN h3 h4).1,(jN (v:=v.bb) h3 h4).2];simp
theorem Kh(w:af)(h:iM)(C:List cQ)(m:Nat)(fl:Bool)(D:DA w h C m fl)(u:hL)(aK:u.wf)(hu:eW u=true)(hl:4<=κ C)(hm:m<=90000):Aaf Aag 153 #[.pointer (some ⟨h.d,0,none⟩),.agg (uC u)] w λe w'=>e=.returned (.int .i64 0)/\DT w h (C.set (u.du%4) (qT u)) 0 true w':=by
 obtain⟨v,h1,h2,h3,h4,h5,h6,h7⟩:=D;obtain⟨f1,f2⟩:=Ap h3 h4;have g3:v.cN.dead=false:=by rw[f1];exact h3
 have g4:v.cN.left=-1:=by rw[f1];exact h4
 have gl:κ v.cN.aR=κ C:=aa
 have hb:v.cN.hasB ((u.du%4:Nat):Int)=true:=(nY _ _).2 ae;have aL:v.oA u=v.cN.bb.put (u.du%4) (qT u):=by unfold bD.oA bD.written;rw[hb,(jN g3 g4).1,(jN (v:=v.cN.bb) g3 g4).2];rfl
 obtain⟨k1,k2⟩:=Ap (v:=v.oA u) (by rw[aL];exact g3) (by rw[aL];exact g4);refine(J9 w h v h1 u aK ae hu (jN h3 h4).1 hb (jN g3 g4).1 (by rw[aL];exact(jN (v:=v.cN.bb.put (u.du%4) (qT u)) g3 g4).1)).mono ?_;rintro e w'⟨rfl,vp,D',T,O⟩;rw[k2];refine⟨rfl,vp,⟨_,D',?_⟩,T,O⟩;rw[k1,aL];have ad:v.cN.cx=C:=by rw[f1];exact h2
 have aF:v.cN.aR=C:=aa
 have ai:v.cN.bL=[]:=by rw[f1]
 refine⟨by show v.cN.cx.set _ _=_;rw[ad],g3,g4,aq,?_,λ_=>rfl⟩;show dh (dh v.cN.aR (v.cN.bL++[⟨u.du%4,qT u⟩])) []=v.cN.cx.set (u.du%4) (qT u);rw[ai,aF,ad];rfl
theorem PU(w:af)(h:iM)(C:List cQ)(m:Nat)(D:DA w h C m true):Aaf Aag 19 #[.pointer (some ⟨h.d,0,none⟩),.slice none 0 0] w λe w'=>e=.returned (.tuple #[])/\DT w h C 0 true w':=by
 obtain⟨v,h1,h2,h3,h4,h5,h6,h7⟩:=D;have hp:=h7 rfl;refine(Ki w h v h1 aa (.slice none 0 0) [] (λw' _=>aC.nil _ _)).mono ?_;rintro e w'⟨rfl,vp,D',T,O⟩;refine⟨rfl,vp,⟨_,D',?_⟩,T,O⟩;rw[hp]at h6;have hs:v.sC []=C:=by unfold bD.sC;rw[hp,<-h2,<-h6];rfl
 grind [bD.crashed,dh]
theorem Xn(w:af)(n:Nat)(hn:n<=1024):Aaf Aag 24 #[.int .i64 (n:Int)] w λe w'=>∃h,e=.returned (.pointer (some ⟨h.d,0,none⟩))/\DA w' h (Aad n e9) 0 true/\Up w w'/\∀b,cK h b->w.heap.size<=b:=by refine(S' w n hn).mono ?_;rintro e w'⟨h,rfl,D,U,O⟩;exact⟨h,rfl,⟨_,D,rfl,rfl,rfl,by simp[QI],rfl,λ_=>rfl⟩,U,O⟩
structure aS where
 pb:Nat
 mb:Nat
 h:iM
structure bz where
 C:List cQ
 m:Nat
 fl:Bool
 s:Nat->Nat
 st:Nat
 ba:Nat
def abh(H:aS)(P:bz):Array ah:=#[.pointer (some ⟨H.h.d,0,none⟩),.pointer (some ⟨H.mb,0,none⟩),.int .u64 (P.st:Int),.int .u64 (P.ba:Int)]
structure PA(w:af)(H:aS)(P:bz):Prop where
 e6:aI w H.pb 160 (abh H P)
 map:cb w H.mb P.s
 dev:DA w H.h P.C P.m P.fl
def PF(H:aS)(b:Nat):Prop:=b=H.pb\/b=H.mb\/cK H.h b
def aS.at(H:aS)(vp:ah):aS:={H with h:={H.h with vp:=vp}}
def PT(w:af)(H:aS)(P:bz)(w':af):Prop:=∃vp,PA w' (H.at vp) P/\Touch (PF H) w w'/\∀b,vp.ownBlock=some b->H.h.vp.ownBlock=some b\/w.heap.size<=b
def vn(t:Aab):Bool:=decide (t=160) || decide (t=165) || decide (t=114) || decide (t=60) || decide (t=116)
section
variable {w w':af} {H:aS} {P:bz}
def PA.up(A:PA w H P)(u:Up w w'):PA w' H P:=⟨A.e6.up u,A.map.up u,A.dev.up u⟩
theorem PA.ax(A:PA w H P){F:Nat->Prop}(T:Touch F w w')(hf:∀b,PF H b->¬F b):PA w' H P:=⟨A.e6.ax T (hf _ (.inl rfl)),a7.ax A.map T (hf _ (.inr (.inl rfl))),A.dev.ax T (λb hb=>hf _ (.inr (.inr hb)))⟩
theorem PA.lt(A:PA w H P):∀b,PF H b->b<w.heap.size:=by
 rintro b(rfl|rfl|hb)
 ·exact A.e6.lt
 ·exact a7.lt A.map
 ·exact A.dev.lt b hb
theorem sA{w:af}{g b n:Nat}{t t':Aab}{A:Array ah}{f:Nat->ah}(hb:aI w g t A)(hc:a7 w b n t' f)(hne:t≠t'):g≠b:=λe=>by subst e;obtain⟨C,h1,_⟩:=hc;have:=hb.symm.trans h1;simp at this;exact hne this.2
theorem PA.VS(A:PA w H P):H.pb≠H.mb:=sA A.e6 A.map av
theorem PA.tj(A:PA w H P):¬cK H.h H.pb:=A.dev.jK A.e6 av av av
theorem PA.s7(A:PA w H P):¬cK H.h H.mb:=by obtain⟨C,h1,_⟩:=A.map;exact A.dev.jK h1 av av av
theorem PA.b'(A:PA w H P){g:Nat}{t:Aab}{C:Array ah}(hb:aI w g t C)(h:vn t=false):¬PF H g:=by
 simp only[vn,Bool.or_eq_false_iff,decide_eq_false_iff_not]at h;obtain⟨⟨⟨⟨h0,h4⟩,h1⟩,h2⟩,h3⟩:=h;rintro(rfl|rfl|h)
 ·have:=hb.symm.trans A.e6;simp at this;exact h0 this.2
 ·obtain⟨C',aa,_⟩:=A.map;have:=hb.symm.trans aa;simp at this;exact h4 this.2
 ·exact A.dev.jK hb h1 h2 h3 h
theorem PA.cells(A:PA w H P):w.cell? (ad H.pb 0)=some (pz H.h.d)/\w.cell? (ad H.pb 1)=some (pz H.mb)/\w.cell? (ad H.pb 2)=some (u6 (P.st:Int))/\w.cell? (ad H.pb 3)=some (u6 (P.ba:Int)):=by refine⟨?_,?_,?_,?_⟩<;>(rw[A.e6.cell];rfl)
def PA.G2(A:PA w H P){s':Nat->Nat}(hs:cb w' H.mb s')(T:Touch (·=H.mb) w w'):PA w' H {P with s:=s'}:=⟨A.e6.ax T A.VS,hs,A.dev.ax T (λb hb e=>A.s7 (e ▸ hb))⟩
theorem PA.V5(A:PA w H P){C':List cQ}{m':Nat}{aa:Bool}(D:DT w H.h C' m' aa w'):PT w H {P with C:=C',m:=m',fl:=aa} w':=by obtain⟨vp,d,t,o⟩:=D;exact⟨vp,⟨A.e6.ax t A.tj,a7.ax A.map t A.s7,d⟩,t.mono (λn h=>.inr (.inr h)),o⟩
def PT.same(A:PA w' H P)(T:Touch (PF H) w w'):PT w H P w':=⟨H.h.vp,A,T,λ_ h=>.inl h⟩
theorem ud{h:iM}{vp:ah}{b:Nat}(hb:cK {h with vp:=vp} b):cK h b\/vp.ownBlock=some b:=by
 rcases hb with hb|hb|hb|hb
 ·exact .inl (.inl hb)
 ·exact .inl (.inr (.inl hb))
 ·exact .inl (.inr (.inr (.inl hb)))
 ·simp_all
theorem VU{H:aS}{vp:ah}{b:Nat}(hb:PF (H.at vp) b):PF H b\/vp.ownBlock=some b:=by
 rcases hb with hb|hb|hb
 ·exact .inl (.inl hb)
 ·exact .inl (.inr (.inl hb))
 ·rcases ud hb with h|h
  ·exact .inl (.inr (.inr h))
  ·simp_all
theorem PT.up{w1 w2:af}(D:PT w H P w1)(u:Up w1 w2):PT w H P w2:=by obtain⟨vp,d,t,o⟩:=D;exact⟨vp,d.up u,t.iD u,o⟩
theorem PT.pre{w0:af}(u:Up w0 w)(D:PT w H P w'):PT w0 H P w':=by
 obtain⟨vp,d,t,o⟩:=D;refine⟨vp,d,(Touch.bV (F:=PF H) u).trans t (λn h _=>h),λb hb=>?_⟩;rcases o b hb with h|h
 ·simp_all
 ·exact .inr (bO u.size h)
theorem PT.then{w1 w2:af}{P2:bz}{vp:ah}(T:Touch (PF H) w w1)(O:∀b,vp.ownBlock=some b->H.h.vp.ownBlock=some b\/w.heap.size<=b)(D2:PT w1 (H.at vp) P2 w2):PT w H P2 w2:=by
 obtain⟨ao,d2,t2,o2⟩:=D2;refine⟨ao,d2,T.trans t2 (λn hn hlt=>?_),λb hb=>?_⟩
 ·rcases VU hn with h|h
  ·exact h
  ·rcases O n h with h|h
   ·exact .inr (.inr (.inr (.inr (.inr h))))
   ·omega
 ·rcases o2 b hb with h|h
  ·exact O b h
  ·exact .inr (bO T.size h)
theorem PT.grow{w1 w2:af}(D:PT w H P w1){g:Nat}{t:Aab}{C:Array ah}(hb:aI w1 g t C)(h:vn t=false)(hg:w1.grownBy w2 (some g))(hn:w.heap.size<=g):PT w H P w2:=by obtain⟨vp,d,tt,o⟩:=D;have ab:=d.b' hb h;exact⟨vp,d.ax (Touch.be (F:=(·=g)) hg (λk hk=>aa)) (λb hb e=>ab (e ▸ hb)),tt.hp hg (λk hk=>aa),o⟩
theorem qw{vp:ah}(A:PA w H P)(O:∀b,vp.ownBlock=some b->H.h.vp.ownBlock=some b\/w.heap.size<=b){b:Nat}(hb:b<w.heap.size)(hn:¬PF H b):¬PF (H.at vp) b:=λh=>by
 rcases VU h with h|h
 ·exact hn h
 ·rcases O b h with h|h
  ·exact hn (.inr (.inr (.inr (.inr (.inr h)))))
  ·omega
end
theorem kV(w:af)(H:aS)(P:bz)(A:PA w H P):Aaf Aag 86 #[pz H.pb] w λe w'=>e=.returned (pz H.h.d)/\w=w':=by obtain⟨c0,c1,c2,c3⟩:=A.cells;clear c1 c2 c3;go_in;exact e4
theorem ob(w:af)(H:aS)(P:bz)(A:PA w H P):Aaf Aag 34 #[pz H.pb] w λe w'=>e=.returned (pz H.mb)/\w=w':=by obtain⟨c0,c1,c2,c3⟩:=A.cells;clear c0 c2 c3;go_in;exact e4
theorem o3(w:af)(H:aS)(P:bz)(A:PA w H P):Aaf Aag 88 #[pz H.pb] w λe w'=>e=.returned (u6 (P.st:Int))/\w=w':=by obtain⟨c0,c1,c2,c3⟩:=A.cells;clear c0 c1 c3;go_in;exact e4
theorem Q1(w:af)(H:aS)(P:bz)(A:PA w H P):Aaf Aag 89 #[pz H.pb] w λe w'=>e=.returned (u6 (P.ba:Int))/\w=w':=by obtain⟨c0,c1,c2,c3⟩:=A.cells;clear c0 c1 c2;go_in;exact e4
theorem Q4(w:af)(H:aS)(P:bz)(A:PA w H P)(aF:P.st<1000000000000):Aaf Aag 127 #[pz H.pb] w λe w'=> e=rt #[]/\PA w' H {P with st:=P.st+1}/\Touch (PF H) w w':=by obtain⟨c0,c1,c2,c3⟩:=A.cells;have HA:=an A;have f2:=A.e6.free 2;generalize hs:P.st=st at *;have HS:=an hs;clear c0 c1 c3 hs;go_in;go_wp2;go_end0;have G:=bX HA.e6 2 (u6 ((st:Int)+1));have T:=Touch.be (F:=(·=H.pb)) G (λk hk=>aP);refine⟨rfl,⟨?_,a7.ax HA.map T (λe=>HA.VS e.symm),HA.dev.ax T (λb hb e=>HA.tj (e ▸ hb))⟩,T.mono (λn h=>.inl h)⟩;have:=HA.e6.setCell 2 (u6 ((st:Int)+1));exact this
theorem vo(w:af)(h:iM)(mb:Nat)(C:List cQ)(m:Nat)(fl:Bool)(s:Nat->Nat)(D:DA w h C m fl)(S:cb w mb s)(st ba:Nat):Aaf Aag 56 #[pz h.d,pz mb,u6 (st:Int),u6 (ba:Int)] w λe w'=>e=.returned (pz w.heap.size)/\PA w' ⟨w.heap.size,mb,h⟩ ⟨C,m,fl,s,st,ba⟩/\Up w w':=by go_in;go_wp2;go_ret;exact⟨rfl,⟨aI.new w 160 _,S.up (ai _ _),D.up (ai _ _)⟩,ai _ _⟩
theorem IP(w:af)(H:aS)(P:bz)(A:PA w H P)(aF:P.st<1000000000000):Aaf Aag 154 #[pz H.pb] w λe w'=> e=rt #[]/\PA w' H {P with s:=iG P.s 1024,ba:=P.st,st:=P.st+1}/\Touch (PF H) w w':=by obtain⟨c0,c1,c2,c3⟩:=A.cells;have HA:=an A;generalize hs:P.st=st at *;have HS:=an hs;clear hs;go_in;go_wp2_with fail;refine(Je w H.mb P.s A.map).mono ?_;rintro e w1⟨rfl,S1,T1⟩;have A1:=an (HA.G2 S1 T1);clear c0 c1 c2 c3;obtain⟨f2,f3⟩:=az (A1.e6.free 2) (A1.e6.free 3);obtain⟨c0,c1,c2,c3⟩:=A1.cells;simp only[HS.out]at c2 c3;clear c0 c1;go_wp2;go_end0;have B0:=A1.e6;have B1:=B0.setCell 3 (u6 (st:Int));have B2:=B1.setCell 2 (u6 ((st:Int)+1));have T2:Touch (·=H.pb) w1 ((w1.setCell ⟨H.pb,3,none⟩ (u6 (st:Int))).setCell ⟨H.pb,2,none⟩ (u6 ((st:Int)+1))):=(Touch.be (F:=(·=H.pb)) (bX B0 3 _) (λk hk=>aP)).trans (Touch.be (F:=(·=H.pb)) (bX B1 2 _) (λk hk=>aP)) (λn h _=>h);exact⟨rfl,⟨B2,a7.ax A1.map T2 (λe=>A1.VS e.symm),A1.dev.ax T2 (λb hb e=>A1.tj (e ▸ hb))⟩,(T1.mono (λn h=>.inr (.inl h))).trans (T2.mono (F':=PF H) (λn h=>.inl h)) (λn h _=>h)⟩
theorem fh:∀W:af,(Ab9 87).run Aag W=.ok (.agg (a6 hole)) W:=by simp[a6,hole]
theorem zQ:prog.built 87 []=some (a6 hole):=al
theorem J0(p:au):prog.built 87 [(0,i6 p.loc),(1,u6 (p.aV:Int)),(2,.int .u32 (p.sum:Int))]=some (a6 p):=al
theorem hU(p:au):(prog.info? 87).map (·.size)=some (a6 p).size:=al
section
variable {P:bu}
theorem Ei{ops:Array Abi}{rest:List Abi}{op:Abi}{a:Act}{w:af}{Q:Act->Prop}(hw:Aaa op (Aaz ops a.tmps)=true)(t:Aab)(i0 i1 i2:Nat)(x0 x1 x2:bR)(ho:op.op=.build t #[(i0,x0),(i1,x1),(i2,x2)])(v0 v1 v2:ah)(C:Array ah)(hb:P.built t [(i0,v0),(i1,v1),(i2,v2)]=some C)(h0:a.eval x0=v0)(h1:a.eval x1=v1)(h2:a.eval x2=v2)(h:Adq P ops w Q rest (a.put op.dst (.agg C))):Adq P ops w Q (op::rest) a:=CW hw t #[(i0,x0),(i1,x1),(i2,x2)] ho C aa h
end
def Jq{f:FuncId}{args:Array ah}{v:ah}(h:Aaf P f args w λe w'=>e=.returned v/\w=w'):Aaf P f args w λe w'=>e=.returned v/\w'=w:=h.mono λ_ _ ⟨a,b⟩=>⟨a,b.symm⟩
def eV(b:List aj)(h:κ b<=128):cQ:=⟨fe b,hz h⟩
def eP(s:cQ):Nat:=gD 0 s.val
theorem BJ(w:af)(H:aS)(P:bz)(A:PA w H P)(i:Nat)(hi:i<κ P.C)(vb:ah)(b:List aj)(hb:aY w vb b)(aa:κ b<=128)(hm:P.m<=900000):Aaf Aag 158 #[pz H.pb,i6 (i:Int),vb] w λe w'=>e=rt #[.agg (a6 ⟨i,P.st,eP (eV b aa)⟩),i6 0]/\PT w H {P with C:=P.C.set i (eV b aa),m:=P.m+1,fl:=false} w':=by
 obtain⟨HA,HB,SL⟩:=aW A hb mw;obtain⟨U1,U2,b2⟩:=cX (ai w (.cells (a6 hole) 87)) (ai (w.alloc (.cells (a6 hole) 87)) (.cells (aD aM) 60)) (aI.new (w.alloc (.cells (a6 hole) 87)) 60 (aD aM));rw[aN]at b2;go_in;go_wp2_with(first
  | refine arm ?_
  | (refine hG rfl (.tmp 10) (.tmp 11) 30 30 rfl 5 Aau aA (w.heap.size+1) 0 128 128 rfl vb b rfl (hb.up (U1.trans U2)) aa 60 [] rfl b2 ao ?_))
 intro w3 aB _ aH;have G3:=aH;obtain⟨U3,S3⟩:=aw ((U1.trans U2).grown aH (λk hk=>aP)) aB;have A3:=an (HA.up U3);obtain⟨c0,c1,c2,c3⟩:=A3.cells;clear c1 c3;refine Od ?_;intro NS NR;go_wp2;refine Oe ?_;change Adq _ _ w3.drew (λa'=>Aam _ _ _ _ a' w3.drew) _ _;repeat(first
  | (refine iz rfl 60 (.tmp 8) rfl (w.heap.size+1) rfl 60 _ (S3.up (Up.drew (Up.refl _))) _ Acr rfl (dE (eV b aa)) ?_)
  | still_step)
 refine hT ?_;obtain⟨A4,S4,R4,U4⟩:=bS (A3.up (Up.drew (Up.refl _))) (S3.up (Up.drew (Up.refl _))) ((((aI.new w 87 (a6 hole)).up U2).grown aH (λe=>aP)).up (Up.drew (Up.refl _))) (U3.trans (Up.drew (Up.refl _)));clear c0 c2;generalize w3.drew=w4 at *;go_wp2_with fail;refine((λW (D:DA W H.h P.C P.m P.fl)=>P0 W H.h P.C P.m P.fl D i hi (eV b aa) hm) _ A4.dev).mono ?_;rintro e w5⟨rfl,T5⟩;obtain⟨vp,A5,TT,O5⟩:=A4.V5 T5;obtain⟨S5,R5,T5⟩:=aW (S4.ax TT (λh=>NS h)) (R4.ax TT (λh=>NR h)) (PT.pre U4 ⟨vp,A5,TT,O5⟩);have c2:w5.cell? (ad H.pb 2)=some (u6 (P.st:Int)):=A5.cells.2.2.1;clear O5;go_wp2;have SB:=ij S5 0 128 128 (by rw[hz aa];omega) ae ae ae;rw[Aaw,dk (by rw[hz aa];omega)]at SB;obtain⟨SO,SU⟩:=aw (Jq (GG _ _ w5.drew (SB.up (Up.drew (Up.refl _))))) (show gD 0 (fe b)=eP (eV b aa)from rfl);rw[SU.out]at SO;obtain⟨BP,R6,T6⟩:=aW (J0 ⟨(i:Int),P.st,eP (eV b aa)⟩) (R5.up (Up.drew (Up.refl _))) (T5.up (Up.drew (Up.refl _)));generalize eP (eV b aa)=sm at *;refine Oa ?_;change Adq _ _ w5.drew (λa'=>Aam _ _ _ _ a' w5.drew) _ _;iterate 6 still_step
 still_call SO;refine Ei rfl 87 0 1 2 (.tmp 24) (.tmp 28) (.tmp 30) rfl _ _ _ _ BP rfl rfl rfl ?_;refine hT ?_;clear c2;generalize w5.drew=w6 at *;go_wp2_with(first|refine arm ?_|refine pH ?_);intro w7 ag aF;have T7:=an (T6.grow R6 rfl aF (aE _));go_wp2;exact bN (.tuple #[.agg (a6 ⟨(i:Int),P.st,sm⟩),i6 0]) ag ⟨by rw[<-SU.out];rfl,T7⟩
section
variable {P:bu} {ops:Array Abi} {S:af->Prop} {o o2 o3:Abi} {a:Act} {v:ah}
theorem pX{Q:Exit->Act->af->Prop}{md:Ab1}{fuel:Nat}{aZ:Array Bool}{w:af}(i j:Nat)(hr:Abf md ops aZ=[i,j])(hi:ops[i]?=some o)(hj:ops[j]?=some o2)(hw:Aaa o (Aaz ops a.tmps)=true)(hw2:Aaa o2 (Aaz ops a.tmps)=true)(h:∀K:Act->af->Prop,(∀a w,S w->Acp P md ops Q S fuel (aZ.setIfInBounds i true) a w->K a w)->o.wp P a w K Q)(h2:∀K:Act->af->Prop,(∀a w,S w->Acp P md ops Q S fuel (aZ.setIfInBounds j true) a w->K a w)->o2.wp P a w K Q):Acp P md ops Q S (fuel+1) aZ a w:=wpAnyH_all hr aq (λk hk=>by
  simp at hk;rcases hk with rfl|rfl
  ·exact kH hi hw (h _ λ_ _ h1 h2=>⟨h1,h2⟩)
  ·exact kH hj hw2 (h2 _ λ_ _ h1 h2=>⟨h1,h2⟩))
def ix{Q:Exit->Act->af->Prop}{l:List Abi}{w:af}(h:Hid (Aam P ops Q l a w)):Aam P ops Q l a w:=h
end
def fM(C:List cQ)(q:au):Option cQ:=if q=hole then some e9 else if 0<=q.loc then(C[q.loc.toNat]?).bind (λs=>if eP s=q.sum then some s else none)else none
theorem j6(C:List cQ):fM C hole=some e9:=aA
theorem Po{C:List cQ}{q:au}{s:cQ}(h:fM C q=some s)(hq:q≠hole):∃n:Nat,q.loc=n/\∃hn:n<κ C,C[n]=s/\eP s=q.sum:=by grind [fM]
def IZ(q:au)(W:af):(Ac3 10000 87 (.agg (a6 q)) (.agg (a6 hole))).run Aag W=.ok (decide (q=hole)) W:=GP 9998 q hole W
theorem rH{q:au}(h:aI w g t (a6 q)):w.cell? (ad g 0)=some (i6 q.loc)/\w.cell? (ad g 1)=some (u6 (q.aV:Int))/\w.cell? (ad g 2)=some (.int .u32 (q.sum:Int)):=by refine⟨?_,?_,?_⟩<;>(rw[h.cell];rfl)
theorem PA.grown{w1 w2:af}{H:aS}{P:bz}(A:PA w1 H P)(hg:w1.grownBy w2 (some g))(hn:¬PF H g):PA w2 H P:=A.ax (Touch.be (F:=(·=g)) hg (λk hk=>aa)) (λb hb e=>hn (e ▸ hb))
def PG(w:af)(H:aS)(P:bz)(w':af):Prop:=PA w' H P/\Touch (PF H) w w'
def PG.up{w w1 w2:af}{H:aS}{P:bz}(G:PG w H P w1)(u:Up w1 w2):PG w H P w2:=⟨G.1.up u,G.2.iD u⟩
def PG.of{w w1:af}{H:aS}{P:bz}(A:PA w H P)(u:Up w w1):PG w H P w1:=⟨A.up u,Touch.bV u⟩
def PG.trans{w w1 w2:af}{H:aS}{P:bz}(G:PG w H P w1)(G2:PG w1 H P w2):PG w H P w2:=⟨G2.1,G.2.trans G2.2 (λn h _=>h)⟩
def PG.dev{w w1 w2:af}{H:aS}{P:bz}(G:PG w H P w1)(D:DA w2 H.h P.C P.m P.fl)(T:Touch (cK H.h) w1 w2):PG w H P w2:=⟨⟨G.1.e6.ax T G.1.tj,a7.ax G.1.map T G.1.s7,D⟩,G.2.trans (T.mono (F':=PF H) (λn h=>.inr (.inr h))) (λn h _=>h)⟩
theorem PG.grown{w w1 w2:af}{H:aS}{P:bz}(G:PG w H P w1)(hg:w1.grownBy w2 (some g))(hn:¬PF H g)(h0:w.heap.size<=g):PG w H P w2:=⟨G.1.grown hg hn,G.2.hp hg (λk hk=>aa)⟩
theorem vk(w:af)(H:aS)(P:bz)(A:PA w H P)(q:au)(s:cQ)(hq:fM P.C q=some s):Aaf Aag 109 #[pz H.pb,.agg (a6 q)] w λe w'=>e=rt #[.agg (aD s.val),i6 0]/\PG w H P w':=by
 obtain⟨EQ,U1,U2⟩:=cX (IZ q) (ai w (.cells (a6 q) 87)) (ai (w.alloc (.cells (a6 q) 87)) (.cells (aD aM) 60));have aa:=an ((aI.new w 87 (a6 q)).up U2);have b2:=aI.new (w.alloc (.cells (a6 q) 87)) 60 (aD aM);rw[aN]at b2;obtain⟨B2,UU,HA⟩:=aW b2 (U1.trans U2) A;refine Od ?_;intro NS NR;by_cases hh:q=hole
 ·rw[fm hh]at EQ;have HS:=an (show s=e9 by subst hh;rw[j6]at hq;exact(dC hq).symm);clear hh hq;go_in;go_wp2_with(first|refine arm ?_|refine pH ?_);intro w7 ag aF;obtain⟨R7,G7⟩:=aw ag ((PG.of HA UU).grown aF NS ae);go_wp2;exact bN (.tuple #[.agg (aD aM),i6 0]) R7 ⟨by rw[HS.out];rfl,G7⟩
 ·rw[jb hh]at EQ;obtain⟨n,hn,hlt,hs,aT⟩:=Po hq hh;have hm:=HA.dev.len;have DR:=an (λW (D:DA W H.h P.C P.m P.fl)=>Tb W H.h P.C P.m P.fl D n hlt);rw[hs]at DR;obtain⟨d0,d1,d2⟩:=rH aa;obtain⟨c0,c1,c2,c3⟩:=(A.up UU).cells;rw[hn]at d0;obtain⟨SM,IS,OS,ND⟩:=bS aT (dE s) (dr s.val) hn;clear hh hq hn hs aT c1 c2 c3 d1 d2;go_in;go_wp2_with(refine arm ?_);refine e8 (S:=λW=>W.cell? (ad H.pb 0)=some (pz H.h.d)/\W.cell? (ad w.heap.size 0)=some (i6 (n:Int))) al ?_;change Acp _ _ _ _ _ 13 _ _ (((w.alloc (.cells (a6 q) 87)).alloc (.cells (aD aM) 60)).drew);obtain⟨G3,B3,C3⟩:=aW (PG.of HA (UU.trans (Up.drew (Up.refl _)))) (aa.up (Up.drew (Up.refl _))) (B2.up (Up.drew (Up.refl _)));have SZ:=an (show w.heap.size+2<=(((w.alloc (.cells (a6 q) 87)).alloc (.cells (aD aM) 60)).drew).heap.size by have:=C3.lt;omega);have HZ:Hid ((aD aM).size=(aD s.val).size):=an qs;clear d0 c0;generalize((w.alloc (.cells (a6 q) 87)).alloc (.cells (aD aM) 60)).drew=w3 at *;have SS:=an (show ∀W,PG w H P W->aI W w.heap.size 87 (a6 q)->W.cell? (ad H.pb 0)=some (pz H.h.d)/\W.cell? (ad w.heap.size 0)=some (i6 (n:Int))from λW g b=>⟨g.1.cells.1,by rw[(rH b).1,ND.out]⟩);have S3:=SS _ G3 B3;refine oP ?_;refine tb 3 rfl (yc (λW h=>h.1)) ?_;refine ta 4 ?_;refine tb 5 rfl (yc (λW h=>h.2)) ?_;refine(λ(FIN:∀g w',w.heap.size+2<=g->aI w' g 60 (aD s.val)->PG w H P w'->aI w' w.heap.size 87 (a6 q)->aI w' (w.heap.size+1) 60 (aD aM)->(?G:Nat->af->Prop) g w')=>?main) ?tail
  case main=>
   refine pX 6 10 al rfl rfl rfl rfl ?_ ?_
   ·intro K hK;go_simp;refine(DR _ G3.1.dev).mono ?_;rintro e w4⟨rfl,D4,T4⟩;obtain⟨G4,B4,C4,Z4⟩:=bS (G3.dev D4 T4) (B3.ax T4 (λhf=>NR (.inr (.inr hf)))) (C3.ax T4 (λhf=>NS (.inr (.inr hf)))) (bO SZ T4.size);have S4:=SS _ G4 B4;refine hK _ _ S4 ?_;clear hK K;refine ta 7 ?_;refine ta 8 ?_;refine ta 9 ?_;refine ok 10 ?_;intro K hK;refine fx 60 rfl (aD aM) hM ?_;have U5:=ai w4 (.cells (aD aM) 60);obtain⟨G5,B5,C5,A5,L5,Z5⟩:=iC (G4.up U5) (B4.up U5) (C4.up U5) (aI.new w4 60 (aD aM)) (show ∀b,cK H.h b->b<w4.heap.size from G4.1.dev.lt) (bO Z4 U5.size);obtain⟨Y5,S5⟩:=az Z4.out (SS _ G5 B5);refine hK _ _ S5 ?_;refine gF ?_;clear hK K;obtain⟨g,hg⟩:=bE (w4.heap.size);rw[<-hg]at A5 L5 Y5 ⊢;generalize w4.alloc (.cells (aD aM) 60)=w5 at *;clear hg;refine ok 11 ?_;intro K hK;refine sS 60 (.tmp 6) (.tmp 20) rfl g (aD s.val) rfl rfl 60 (aD aM) A5 IS HZ OS ?_;refine Ni ?_;intro g9 G9 B9 C9;have A9:=A5.set (aD s.val);refine hK _ _ (SS _ G9 B9) ?_;refine gF ?_;clear hK K;generalize w5.setRow g (aD s.val)=w9 at *;refine tk 12 (i6 0) rfl ya (SS _ G9 B9) ?_;refine ng ?_;exact FIN g w9 Y5 A9 G9 B9 C9
   ·intro K hK;refine fx 60 rfl (aD aM) hM ?_;have U4:=ai w3 (.cells (aD aM) 60);obtain⟨G4,B4,C4,A4,L4,Z4⟩:=iC (G3.up U4) (B3.up U4) (C3.up U4) (aI.new w3 60 (aD aM)) (show ∀b,cK H.h b->b<w3.heap.size from G3.1.dev.lt) (bO SZ U4.size);obtain⟨Y4,S4⟩:=az SZ.out (SS _ G4 B4);refine hK _ _ S4 ?_;refine gF ?_;clear hK K;obtain⟨g,hg⟩:=bE (w3.heap.size);rw[<-hg]at A4 L4 Y4 ⊢;generalize w3.alloc (.cells (aD aM) 60)=w4 at *;clear hg;refine ok 6 ?_;intro K hK;go_simp;refine(DR _ G4.1.dev).mono ?_;rintro e w5⟨rfl,D5,T5⟩;obtain⟨G5,B5,C5,Z5⟩:=bS (G4.dev D5 T5) (B4.ax T5 (λhf=>NR (.inr (.inr hf)))) (C4.ax T5 (λhf=>NS (.inr (.inr hf)))) (bO Z4 T5.size);have S5:=SS _ G5 B5;have A4:=an (A4.ax T5 (λhf=>by have:=L4 _ hf;omega));refine hK _ _ S5 ?_;refine UL ?_;clear hK K;refine ok 11 ?_;intro K hK;refine sS 60 (.tmp 6) (.tmp 20) rfl g (aD s.val) rfl rfl 60 (aD aM) A4 IS HZ OS ?_;refine Ni ?_;intro g9 G9 B9 C9;have A9:=A4.set (aD s.val);refine hK _ _ (SS _ G9 B9) ?_;refine gF ?_;clear hK K;generalize w5.setRow g (aD s.val)=w9 at *;refine tk 12 (i6 0) rfl ya (SS _ G9 B9) ?_;refine ng ?_;exact FIN g w9 Y4 A9 G9 B9 C9
  case tail=>
   intro g w5 aX ar av aj aR;obtain⟨G4,B4,C4,S4,HG⟩:=eQ av aj aR ar aX;clear SZ SS S3 DR aX;go_wp2;obtain⟨G5,B5,C5,S5⟩:=bS (G4.up (Up.drew (Up.refl _))) (B4.up (Up.drew (Up.refl _))) (C4.up (Up.drew (Up.refl _))) (S4.up (Up.drew (Up.refl _)));obtain⟨e0,e1,e2⟩:=rH B5;rw[<-SM.out]at e2;have SB:=ij S5 0 128 128 (by rw[s.property];omega) ae ae ae;rw[Aaw,dk (by rw[s.property];omega)]at SB;have SO:=an (Jq (GG _ _ _ SB));rw[show gD 0 s.val=eP s from rfl]at SO;clear e0 e1;generalize eP s=sm at *;refine uy 4 al al ?_;refine ve ?_;change Adq _ _ (World.drew _) (λa'=>Aam _ _ _ _ a' (World.drew _)) _ _;still_step;still_call SO;repeat still_step
   refine hT ?_;clear e2;generalize w5.drew=w6 at *;go_wp2_with(first
    | refine arm ?_
    | refine dL 60 4 38 (aD s.val) C5 (hi:=IS) (hold:=HZ) ?_)
   intro w7 ag aF;have G7:=an (G5.grown aF NS ae);go_wp2;(try simp only[exi]);exact bN (hi:=IS) (.tuple #[.agg (aD s.val),i6 0]) ag ⟨rfl,G7⟩
def bz.put(P:bz)(i:Nat)(s:cQ):bz:={P with C:=P.C.set i s,m:=P.m+1,fl:=false,s:=fW P.s i 2}
def aaO(P:bz)(H:aS)(s:cQ)(w:af)(e:Ab3)(w':af):Prop:=∃i:Nat,i<1024/\P.s i=1/\e=.returned (.tuple #[.agg (a6 ⟨i,P.st,eP s⟩),.int .i64 0])/\PT w H (P.put i s) w'
theorem IV(w:af)(H:aS)(P:bz)(A:PA w H P)(vb:ah)(b:List aj)(hb:∀w',Touch (PF H) w w'->aY w' vb b)(aa:κ b<=128)(hm:P.m<=900000)(hf:∀i,P.s i=1->i<κ P.C)(h0:0<bj P.s):Aaf Aag 101 #[pz H.pb,vb] w (aaO P H (eV b aa) w):=by
 have HB:=an hb;have aK:=hb w (Touch.refl _ _);obtain⟨va,vc,rfl⟩:=aK.slice;have U1:=an (ai w (.cells (a6 hole) 87));have A1:=an (A.up U1);obtain⟨c0,c1,c2,c3⟩:=A1.cells;obtain⟨NR,HF,H0⟩:=aW (show ¬PF H w.heap.size from λhf=>wG) hf h0;refine Gj ?_;intro t1 t2;clear hb hf h0 c0 c2 c3;go_in;go_wp2_with(refine arm ?_);refine(BT _ H.mb P.s A1.map).mono ?_;rintro e w2(⟨i,hi,hs,rfl,S2,T2⟩|⟨hc,_,_⟩);rotate_left
 ·simp only[Hid]at *;omega
 obtain⟨A2,B2,T2,HS⟩:=bS (A1.G2 S2 T2) ((aI.new w 87 (a6 hole)).ax T2 (λe=>NR (.inr (.inl e)))) ((Touch.bV (F:=PF H) U1).trans (T2.mono (F':=PF H) (λn h=>.inr (.inl h))) (λn h _=>h)) hs;have ab:=HF i hs;have aB:=an (HB w2 T2);have W:=an (BJ w2 H _ A2 i ab _ b aB aa hm);clear hs c1;go_wp2_with fail;refine W.mono ?_;rintro e w3⟨rfl,T3⟩;obtain⟨vp,A3,TT,O3⟩:=T3;obtain⟨B3,T3⟩:=aw (B2.ax TT (λh=>NR h)) (PT.then T2 (vp:=H.h.vp) (λ_ h=>.inl h) (show PT w2 (H.at H.h.vp) _ w3 from⟨vp,A3,TT,O3⟩));clear O3;go_wp2_with(first
  | refine bH 87 fh ?_
  | refine dX 87 8 30 w3 (a6 ⟨(i:Int),P.st,eP (eV b aa)⟩) 87 (a6 hole) ?_
  | refine db 87 8 (aI.new w3 87 (a6 ⟨(i:Int),P.st,eP (eV b aa)⟩)) ?_
  | refine dL 87 4 42 (a6 ⟨(i:Int),P.st,eP (eV b aa)⟩) (B3.up (ai _ _)) ?_)
 intro w7 ag aF;go_wp2;exact bN (.tuple #[.agg (a6 ⟨(i:Int),P.st,eP (eV b aa)⟩),i6 0]) ag ⟨i,hi,HS,rfl,((T3.up (ai w3 _)).grow (B3.up (ai _ _)) rfl aF (aE _))⟩
theorem tq(w:af)(H:aS)(P:bz)(A:PA w H P)(i:Nat)(hi:i<1024)(hs:P.s i=2)(hC:i<κ P.C)(vb:ah)(b:List aj)(hb:aY w vb b)(aa:κ b<=128)(hm:P.m<=900000):Aaf Aag 260 #[pz H.pb,i6 (i:Int),vb] w λe w'=>e=rt #[.agg (a6 ⟨i,P.st,eP (eV b aa)⟩),i6 0]/\PT w H {P with C:=P.C.set i (eV b aa),m:=P.m+1,fl:=false} w':=by
 obtain⟨va,vc,rfl⟩:=hb.slice;have U1:=an (ai w (.cells (a6 hole) 87));have A1:=an (A.up U1);obtain⟨c0,c1,c2,c3⟩:=A1.cells;have HM:=an (show H9 (cI (qK P.s 2)) (i:Int)=true from by rw[rT];refine Tv (uu _) ?_;rw[<-rT,EU];exact⟨i,rfl,hi,hs⟩)
 refine Gj ?_;intro t1 t2;clear hs c0 c2 c3;go_in;go_wp2_with(refine arm ?_);refine(Cb _ H.mb P.s A1.map).mono ?_;rintro e w2⟨u,rfl,own,U2⟩;have SH:=Jp w2 u _ (own.row Ca) (λa m c e=>(own.aJ a.block sY).2) (i:Int);rw[HM.out]at SH;clear c1;go_wp2_with fail;refine SH.mono ?_;rintro e w3⟨rfl,U3⟩;have U3:=an (U2.trans U3);go_wp2_with fail;refine(BJ w3 H P (A1.up U3) i hC _ b (hb.up (U1.trans U3)) aa hm).mono ?_;rintro e w4⟨rfl,T4⟩;obtain⟨vp,A4,TT,O4⟩:=T4;obtain⟨B4,T4⟩:=aw (((aI.new w 87 (a6 hole)).up U3).ax TT (λh=>(λhf=>wG) h)) (PT.pre (U1.trans U3) ⟨vp,A4,TT,O4⟩);clear O4;go_wp2_with(first|refine arm ?_|refine pH ?_);intro w7 ag aF;go_wp2;exact bN (.tuple #[.agg (a6 ⟨(i:Int),P.st,eP (eV b aa)⟩),i6 0]) ag ⟨rfl,(T4.grow B4 rfl aF (aE _))⟩
def gU(s:Nat->Nat)(ba:Nat)(q:au):Nat->Nat:=if q=hole then s else if ba<q.aV then sB s q.loc 2 1 else sB s q.loc 2 3
def aaI(P:bz)(H:aS)(q:au)(w:af)(e:Ab3)(w':af):Prop:=(∃r,e=.returned (.int .i64 r))/\PA w' H {P with s:=gU P.s P.ba q}/\Touch (PF H) w w'
theorem DP(w:af)(H:aS)(P:bz)(A:PA w H P)(q:au):Aaf Aag 162 #[pz H.pb,.agg (a6 q)] w (aaI P H q w):=by
 have EQ:=IZ q;obtain⟨U1,B1⟩:=aw (ai w (.cells (a6 q) 87)) (aI.new w 87 (a6 q));have A1:=an (A.up U1);by_cases hh:q=hole
 ·rw[fm hh]at EQ;have HS:=an (show gU P.s P.ba q=P.s by unfold gU;rw[bp hh]);clear hh;go_in;go_wp2_with(refine arm ?_);go_ret;refine⟨⟨_,rfl⟩,?_,Touch.bV U1⟩;rw[HS.out];exact A1
 rw[jb hh]at EQ;have NH:=an hh;clear hh;have HD:=an (show gU P.s P.ba q=if P.ba<q.aV then sB P.s q.loc 2 1 else sB P.s q.loc 2 3 by unfold gU;rw[aO NH.out]);obtain⟨d0,d1,d2⟩:=rH B1;obtain⟨c0,c1,c2,c3⟩:=A1.cells;obtain⟨A2,U2⟩:=aw ((A1.up (Up.drew (Up.refl _))).up (Up.drew (Up.refl _))) ((U1.trans (Up.drew (Up.refl _))).trans (Up.drew (Up.refl _)));clear c0 c2 d2;by_cases hlt:P.ba<q.aV
 ·have HS:=an (show gU P.s P.ba q=sB P.s q.loc 2 1 by rw[HD.out,bp hlt]);have t1:decide (P.ba<q.aV)=true:=by simpa using hlt
  have t2:decide ((P.ba:Int)<(q.aV:Int))=true:=ao
  have FR:=an (Ru _ H.mb P.s A2.map q.loc);exact Ze
 ·have HS:=an (show gU P.s P.ba q=sB P.s q.loc 2 3 by rw[HD.out,aO hlt]);have t1:decide (P.ba<q.aV)=false:=by simpa using hlt
  have t2:decide ((P.ba:Int)<(q.aV:Int))=false:=ao
  have FR:=an (Qu _ H.mb P.s A2.map q.loc);exact Ze
def aU(l:List au):Array ah:=(l.flatMap dK).toArray
def eg:List au:=Aad 8 hole
theorem cn(l:List au):(aU l).size=κ l*3:=by simp[aU,pw.flat]
theorem fH(l:List au):(aU l).toList=l.flatMap dK:=aA
def QP(l:List au):(aU l).all (·.oneCell')=true:=AZ (λv hv=>pw.cv l v hv)
theorem we:(prog.info? 176).map (·.size)=some 24:=al
theorem px:∀W:af,(Ab9 176).run Aag W=.ok (.agg (aU eg)) W:=(lb (P:=Aag) (t:=176) (v:=.agg (aU eg)) (n:=24) aA).1
theorem DG(l:List au)(k:Nat)(h:k<κ l):(aU l).extract (k*3) (k*3+3)=a6 l[k]:=by
 rw[aab];apply hn.1;rw[Array.toList_extract,fH];apply wC;intro j;simp only[List.getElem?_take,List.getElem?_drop,List.extract];by_cases hj:j<3
 ·have h1:=pw.at l k h j hj;simp_all
 ·grind [dK]
theorem AB(l:List au)(hl:κ l=8)(k:Nat)(h:k<κ l)(W:af):(Ac0 176 (.agg (aU l)) (i6 (k:Int))).run Aag W=.ok (.agg (a6 l[k])) W:=by
 have h8:(0:Int)<=(k:Int)/\(k:Int)<((8:Nat):Int):=ae
 have hp:=DG l k h;have hs:(sizeOf 87).run Aag W=.ok 3 W:=al
 have hg:(isAgg 87).run Aag W=.ok true W:=al
 simp[Ac0,asIntOf,run_underlying (P:=Aag) underlying176,h8,hs,part,hg,hp];omega
theorem wL(h:aI w g t (aU l))(k:Nat)(hk:k<κ l):w.cell? (ad g (k*3))=some (i6 l[k].loc)/\w.cell? (ad g (k*3+1))=some (u6 (l[k].aV:Int))/\w.cell? (ad g (k*3+2))=some (.int .u32 (l[k].sum:Int)):=by
 have key:∀j,j<3->w.cell? (ad g (k*3+j))=(dK l[k])[j]?:=λj hj=>by rw[h.cell];unfold aU;rw[Fa];exact pw.at l k hk j hj
 exact⟨key 0 ae,key 1 ae,key 2 ae⟩
theorem jO(p:au):κ (bM p)=16:=aA
def cV(l:List au):List aj:=l.flatMap bM
theorem d'(l:List au):κ (cV l)=16*κ l:=by
 unfold cV;induction l with
 | nil=>rfl
 | cons x l ih=>grind [jO]
theorem xj(l:List au)(k:Nat)(h:k<κ l):cV (l.take (k+1))=cV (l.take k)++bM l[k]:=by unfold cV;rw[eo h,gl];simp
def jM(b:List aj)(k:Nat):List aj:=(b.drop (16*k)).take 16
def e1(b:List aj):Nat->Option (List au)
 | 0=>some []
 | k+1=>match e1 b k with
  | none=>none
  | some l=>(mi (jM b k)).map (l++[·])
theorem qA(b:List aj)(k:Nat)(h:e1 b k=none):∀n,k<=n->e1 b n=none
 | 0,hn=>by
  obtain rfl:k=0:=ae
  exact h
 | n+1,hn=>by
  by_cases e:k=n+1
  ·subst e;exact h
  ·rw[e1,qA b k h n ae]
theorem nw(h:e1 b k=some l):e1 b (k+1)=(mi (jM b k)).map (l++[·]):=by rw[e1,h]
theorem kN{b:List aj}:∀{k:Nat}{l:List au},e1 b k=some l->κ l=k
 | 0,l,h=>by simp[e1]at h;subst h;rfl
 | k+1,l,h=>by
  rw[e1]at h;cases h1:e1 b k with
  | none=>rw[h1]at h;cases h
  | some m=>rw[h1]at h;simp only[Option.map_eq_some_iff]at h;obtain⟨p,_,rfl⟩:=h;simp[kN h1]
theorem IQ(l:List au)(k:Nat)(h:k<κ l):jM (cV l) k=bM l[k]:=by
 have e:cV l=cV (l.take k)++(bM l[k]++cV (l.drop (k+1))):=by unfold cV;rw[<-Abd,<-qi h,<-gl,fO]
 grind [cV,d',jM,jO]
theorem o5(l:List au)(hw:∀x∈l,x.wf)(hg:∀x∈l,cw x=true):∀k,k<=κ l->e1 (cV l) k=some (l.take k)
 | 0,_=>rfl
 | k+1,hk=>by rw[nw (o5 l hw hg k ae),IQ l k ae,nv _ (hw _ (cm _)) (hg _ (cm _)),eo ae];rfl
def jy(l:List au):Bool:=l.all cw
theorem na(l:List au):jy l=true↔∀x∈l,cw x=true:=by simp[jy]
def Hk(l:List au)(k:Nat):List aj:=cV (l.take k)++Aad (128-16*k) 0
theorem Jy(l:List au)(hl:κ l=8)(k:Nat)(hk:k<=8):κ (Hk l k)=128:=by grind [Hk,d']
theorem RR(l:List au)(hl:κ l=8)(k:Nat)(hk:k<κ l):(Abz (aD (Hk l k)).toList (16*k) ((bM l[k]).map aH)).toArray=aD (Hk l (k+1)):=by
 have h1:κ (cV (l.take k))=16*k:=by grind [d']
 rw[rR];unfold Abz aD;rw[Aac,jO,<-wA,<-qj,<-Aao,<-Aao];congr 2;unfold Hk;rw[xj l k ae,h0 h1,Fi,h1];rw[sO ae,Aa0,yY,Abe];simp;omega
def nN(l:List au):List aj × Int:=if jy l=true then(cV l,0)else(aM,51)
def JS(l:List au)(w:af)(e:Ab3)(w':af):Prop:=e=.returned (.tuple #[.agg (aD (nN l).1),.int .i64 (nN l).2])/\Up w w'
theorem Bm(h:jy l=true):nN l=(cV l,0):=bp h
theorem QH(hk:k<κ l)(h:cw l[k]=false):nN l=(aM,51):=aO (λhh=>by rw[(na l).1 hh _ (cm hk)]at h;cases h)
theorem Bl(w:af)(l:List au)(hl:κ l=8)(hw:∀x∈l,x.wf):Aaf Aag 160 #[.agg (aU l)] w λe w'=>JS l w e w':=by
 have ZS:=hM;obtain⟨HL,HW⟩:=aw hl hw;clear hw;go_in;obtain⟨b0,b1,b2⟩:=cX (aI.new w 176 (aU l)) (aI.new (w.alloc (.cells (aU l) 176)) 60 (aD aM)) (aI.new ((w.alloc (.cells (aU l) 176)).alloc (.cells (aD aM) 60)) 60 (aD aM));obtain⟨B1,B2,ax⟩:=aW (b1.up (ai _ (.cells (aD aM) 60))) b2 (((ai w (.cells (aU l) 176)).trans (ai _ (.cells (aD aM) 60))).trans (ai _ (.cells (aD aM) 60)));go_wp2_with(refine lr rfl 176 (.tmp 1) rfl w.heap.size rfl 176 (aU l) ((b0.up (ai _ (.cells (aD aM) 60))).up (ai _ (.cells (aD aM) 60))) _ underlying176 rfl (by rw[cn,hl];exact we) ?_);generalize aa:((w.alloc (.cells (aU l) 176)).alloc (.cells (aD aM) 60)).alloc (.cells (aD aM) 60)=w3 at *;simp only[Aa4]at B1 B2;clear aa ZS;go_loopw [10] (λi wr=>∃k:Nat,k<=8/\i=i6 k/\(∀j(h:j<κ l),j<k->cw l[j]=true)/\aI wr (w.heap.size+1) 60 (aD aM)/\aI wr (w.heap.size+1+1) 60 (aD (Hk l k))/\Up w wr) (λi _=>8-(Aaq i).toNat)
 case atStart=>exact⟨0,bG _,rfl,λj h h0=>ae,B1,B2,ax⟩
 case round=>
  obtain⟨k,hk,rfl,ad,hz,hb,upr⟩:=hrel;obtain⟨HA,HZ,HB⟩:=aW ad hz hb;clear ad;by_cases hlt:k<8
  ·have hkl:k<κ l:=by omega
   have b2:((k:Int)<8)=True:=ao
   have IX:=(λk h W=>AB l hl k h W) k hkl;obtain⟨PB,ST,GN⟩:=aW (λW=>nV W l[k] (HW _ (cm hkl))) ((RR l hl) k hkl) (λh=>QH hkl h);have GY:=an (show cw l[k]=true->∀j(h:j<κ l),j<k+1->cw l[j]=true from λh j hj az=>by
    by_cases e:j=k
    ·subst e;exact h
    ·exact HA j hj ae)
   have SL:∀W,(Abq 60 (pz (w.heap.size+1+1)) (some (i6 ((k:Int)*16))) (some (i6 (((k:Int)+1)*16))) none).run Aag W=.ok (sq (w.heap.size+1+1) (16*k) 16 (128-16*k)) W:=λW=>by have:=od (w.heap.size+1+1) (16*k) (16*k+16) ((k:Int)*16) (((k:Int)+1)*16) ae ae ae ae ae W;rwa [show 16*k+16-16*k=16 from ae]at this
   have sz:(aD (Hk l k)).size=128:=by rw[bT];exact(Jy l hl) k hk
   obtain⟨SC,PL⟩:=aw sz (jO l[k]);clear sz;generalize l[k]=p at *;obtain⟨pl,pb,ps⟩:=p;unfold a6 at IX;unfold fQ Sq at PB;simp only at IX PB;go_wp2_with fail;refine(PB _).mono ?_;rintro e w5(⟨hg,v5,rfl,ay,ab⟩|⟨hg,rfl,ab⟩)
   case inr=>
    have HN:=an (GN hg);clear hg;have aC:=HZ.up ((ai wr (.cells #[i6 pl,.int .u64 (pb:Int),.int .u32 (ps:Int)] 87)).trans ab);go_wp2_with(first
     | (refine wpList_build rfl 60 #[] rfl al ?_;rw[show(prog.built 60 ((#[]:Array (Nat × bR)).map _).toList).getD #[]=aD aM from al])
     | (refine en rfl 60 (.tmp 2) (.tmp 21) rfl (w.heap.size+1) (aD aM) rfl rfl 60 (aD aM) aC dI rfl (dr _) ?_))
    intro w6 ak aG;have aJ:=(upr.trans ((ai wr _).trans ab)).aF (fy aG (oI aC.lt) (λj hj=>A6)) (gM _);go_wp2;refine bN (.tuple #[.agg (aD aM),i6 51]) ak ⟨by rw[HN.out],aJ⟩
   case inl=>
    have V5:=an ay.cv;obtain⟨va,vc,rfl⟩:=V5.slice;have aj:=(ai wr (.cells #[i6 pl,.int .u64 (pb:Int),.int .u32 (ps:Int)] 87)).trans ab;have ar:=HB.up aj;go_wp2_with(refine hC rfl (.tmp 27) (.tmp 28) 30 30 rfl 5 Aau aA aH cg (w.heap.size+1+1) (16*k) 16 (128-16*k) rfl _ _ rfl V5 cr 60 _ ar cr ?_);intro w6 aV av aG;rw[ST.out]at aV;have aJ:=(upr.trans aj).aF av ae;have ak:=(HZ.up aj).grown aG aq;clear SL;go_wp2;go_roundw
    case rel=>exact⟨k+1,ae,fP,(GY hg),ak,aV,aJ⟩
    case measure=>simp[Aaq];omega
  ·obtain rfl:k=8:=by omega
   have b2:((8:Nat):Int)=8:=rfl;have HN:=an (Bm ((na l).2 (λx hx=>by obtain⟨j,hj,rfl⟩:=jD hx;exact HA j hj ae)))
   have HU:=an (show Hk l 8=cV l by unfold Hk;rw[dk ae];simp)
   have hb:=HB.out;rw[HU.out]at hb;have bs:(aD (cV l)).size=128:=by rw[bT,d',HL.out]
   have ag:=an (show(prog.info? 60).map (·.size)=some (aD (cV l)).size by rw[bs];exact dI);go_wp2_with(first
    | (refine lr rfl 60 (.tmp 4) rfl (w.heap.size+1+1) rfl 60 _ hb _ Acr rfl ag ?_)
    | (refine en rfl 60 (.tmp 2) (.tmp 31) rfl (w.heap.size+1) (aD (cV l)) rfl rfl 60 (aD aM) HZ ag (by rw[bs];rfl) (dr _) ?_))
   intro w6 ak aG;have aJ:=upr.aF (fy aG (oI HZ.lt) (λj hj=>A6)) (gM _);go_wp2;refine bN (hi:=ag) (.tuple #[.agg (aD (cV l)),i6 0]) ak ⟨by rw[HN.out],aJ⟩
def lu(s:List aj):List au × Int:=match e1 s 8 with
 | some l=>(l,0)
 | none=>(eg,51)
def aaM(s:List aj)(w:af)(e:Ab3)(w':af):Prop:=e=.returned (.tuple #[.agg (aU (lu s).1),.int .i64 (lu s).2])/\Up w w'
theorem GD(s:List aj):κ (lu s).1=8:=by
 unfold lu;split
 ·grind [kN]
 ·rfl
def lo(l:List au):List au:=l++Aad (8-κ l) hole
theorem CK(l:List au)(h:κ l<=8):κ (lo l)=8:=by grind [lo]
theorem Ll(l:List au)(h:κ l=8):lo l=l:=by unfold lo;simp[h]
theorem IH(l:List au)(h:κ l<8)(p:au):(lo l).set (κ l) p=lo (l++[p]):=by unfold lo;rw[yU _ _ (aE _),Nat.sub_self];rw[show 8-κ l=(8-κ (l++[p]))+1 from ao,List.replicate_succ,List.set_cons_zero,Abe];rfl
theorem VB(l:List au)(k:Nat)(hk:k<κ l)(p:au):(((aU l).setIfInBounds (k*3) (i6 p.loc)).setIfInBounds (k*3+1) (u6 (p.aV:Int))).setIfInBounds (k*3+2) (.int .u32 (p.sum:Int))=aU (l.set k p):=by
 apply hn.1;rw[Abo,Abo,Abo,fH,fH];apply wC;intro j;obtain⟨q,r,hr,hj⟩:∃q r,r<3/\j=q*3+r:=⟨j/3,j%3,ae,ae⟩;subst hj;simp only[List.getElem?_set,pw.flat,Aax];by_cases hq:q<κ l
 ·rw[pw.at (l.set k p) q ao r hr,pw.at l q hq r hr];grind [dK]
 ·rw[aO ae,aO ae,aO ae];rw[sQ (by rw[pw.flat];omega),sQ (by rw[pw.flat,Aax];omega)]
theorem aI.aam(h:aI w g t (aU l))(k:Nat)(hk:k<κ l)(p:au):aI (((w.setCell ⟨g,k*3,none⟩ (i6 p.loc)).setCell ⟨g,k*3+1,none⟩ (u6 (p.aV:Int))).setCell ⟨g,k*3+2,none⟩ (.int .u32 (p.sum:Int))) g t (aU (l.set k p)):=by rw[<-VB l k hk p];exact((h.setCell _ _).setCell _ _).setCell _ _
theorem Ts(h:aI w g t (aU l))(k:Nat)(p:au):w.grownBy (((w.setCell ⟨g,k*3,none⟩ (i6 p.loc)).setCell ⟨g,k*3+1,none⟩ (u6 (p.aV:Int))).setCell ⟨g,k*3+2,none⟩ (.int .u32 (p.sum:Int))) (some g):=by obtain⟨h1,g1⟩:=az (h.setCell (k*3) (i6 p.loc)) (bX h (k*3) (i6 p.loc));obtain⟨g2,g3⟩:=az (bX h1 (k*3+1) (u6 (p.aV:Int))) (bX (h1.setCell (k*3+1) (u6 (p.aV:Int))) (k*3+2) (.int .u32 (p.sum:Int)));exact⟨aA,aA,aA,bO g1.size (bO g2.size g3.size),λj hj hne=>by rw[g3.block j (eh hj (bO g1.size g2.size)) hne,g2.block j (eh hj g1.size) hne,g1.block j hj hne]⟩
theorem Ro{s:List aj}(h:aI w g t (aD s))(hs:κ s=128)(k:Nat)(hk:k<8):aY w (sq g (16*k) 16 (128-16*k)) (jM s k):=by
 have hl:κ (jM s k)=16:=by grind [jM]
 refine .inr ⟨g,16*k,128-16*k,ao,ae,ae,dy,λi hi=>?_⟩;grind [Jf,jM]
theorem Ln{s:List aj}(h:e1 s k=some l)(h2:mi (jM s k)=none)(hk:k<8):lu s=(eg,51):=by unfold lu;rw[qA s (k+1) (by grind [nw]) 8 ae]
theorem Lo{s:List aj}(h:e1 s 8=some l):lu s=(l,0):=by grind [lu]
theorem DH(w:af)(s:List aj)(hs:κ s=128)(h0:(lu s).2=0):Aaf Aag 191 #[.agg (aD s)] w λe w'=>aaM s w e w':=by
 obtain⟨HS,H0⟩:=aw hs h0;clear hs h0;go_in;obtain⟨b0,b1,b2⟩:=cX (aI.new w 60 (aD s)) (aI.new (w.alloc (.cells (aD s) 60)) 176 (aU eg)) (aI.new ((w.alloc (.cells (aD s) 60)).alloc (.cells (aU eg) 176)) 176 (aU eg));obtain⟨B0,B1,B2,ax⟩:=bS ((b0.up (ai _ (.cells (aU eg) 176))).up (ai _ (.cells (aU eg) 176))) (b1.up (ai _ (.cells (aU eg) 176))) b2 (((ai w (.cells (aD s) 60)).trans (ai _ (.cells (aU eg) 176))).trans (ai _ (.cells (aU eg) 176)));go_wp2_with(refine dw rfl 176 rfl (aU eg) px ?_);generalize aa:((w.alloc (.cells (aD s) 60)).alloc (.cells (aU eg) 176)).alloc (.cells (aU eg) 176)=w3 at *;simp only[Aa4]at B1 B2;clear aa;go_loopw [8] (λi wr=>∃(k:Nat)(l:List au),k<=8/\i=i6 k/\e1 s k=some l/\aI wr w.heap.size 60 (aD s)/\aI wr (w.heap.size+1) 176 (aU eg)/\aI wr (w.heap.size+1+1) 176 (aU (lo l))/\Up w wr) (λi _=>8-(Aaq i).toNat)
 case atStart=>exact⟨0,[],bG _,rfl,rfl,B0,B1,B2,ax⟩
 case round=>
  obtain⟨k,l,hk,rfl,aL,hs,hz,hb,upr⟩:=hrel;obtain⟨al,aA,HZ,HB,ad⟩:=eQ aL hs hz hb (kN aL);clear aL;by_cases hlt:k<8
  ·have b2:((k:Int)<8)=True:=by simp;omega
   have SL:∀W,(Abq 60 (pz w.heap.size) (some (i6 ((k:Int)*16))) (some (i6 (((k:Int)+1)*16))) none).run Aag W=.ok (sq w.heap.size (16*k) 16 (128-16*k)) W:=λW=>by have:=od w.heap.size (16*k) (16*k+16) ((k:Int)*16) (((k:Int)+1)*16) ae ae ae ae ae W;rwa [show 16*k+16-16*k=16 from ae]at this
   have RD:=an (qB wr _ _ (Ro aA HS k hlt) (by have:=HS.out;grind [jM]));unfold Sr at RD;go_wp2_with fail;refine RD.mono ?_;rintro e w5(⟨p,hp,rfl,ab⟩|⟨hp,rfl,ab⟩)
   case inr=>exact absurd H0.out (by rw[Ln al hp hlt];decide)
   case inl=>
    obtain⟨pl,pb,ps⟩:=p;unfold fQ;simp only;have upa:=(ai w5 (.cells #[i6 pl,.int .u64 (pb:Int),.int .u32 (ps:Int)] 87));have ar:=(HB.up ab).up upa;have hkl:k<κ (lo l):=by rw[CK l cr];exact hlt
    obtain⟨d0,d1,d2,f0,f1,f2⟩:=sk ((wL ar k hkl).1) ((wL ar k hkl).2.1) ((wL ar k hkl).2.2) (ar.free (k*3)) (ar.free (k*3+1)) (ar.free (k*3+2));have a1:=an ar;have HST:=an (show(lo l).set k ⟨pl,pb,ps⟩=lo (l++[⟨pl,pb,ps⟩])by have:=IH l cr ⟨pl,pb,ps⟩;rwa [ad.out]at this)
    have aM:=an hkl;clear SL;generalize(lo l)[k]=p0 at *;clear hkl;go_wp2;go_roundw
    case rel=>have G:=Ts a1 k ⟨pl,pb,ps⟩;exact⟨k+1,l++[⟨pl,pb,ps⟩],ae,fP,(by rw[nw al.out,hp];rfl),((aA.up ab).up upa).grown G ao,((HZ.up ab).up upa).grown G aq,by rw[<-HST.out];exact a1.aam k aM ⟨pl,pb,ps⟩,((upr.trans ab).trans upa).aF (fy G (oI a1.lt) (λj hj=>aP)) ae⟩
    case measure=>simp[Aaq];omega
  ·obtain rfl:k=8:=by omega
   have b2:((8:Nat):Int)=8:=rfl;have HN:=an (Lo al);have hb:=HB.out;rw[Ll l ad.out]at hb;have bs:(aU l).size=24:=by rw[cn,ad.out]
   have ag:=an (show(prog.info? 176).map (·.size)=some (aU l).size by rw[bs];exact we);go_wp2_with(first
    | (refine lr rfl 176 (.tmp 4) rfl (w.heap.size+1+1) rfl 176 _ hb _ underlying176 rfl ag ?_)
    | (refine en rfl 176 (.tmp 2) (.tmp 28) rfl (w.heap.size+1) (aU l) rfl rfl 176 (aU eg) HZ ag (by rw[bs];rfl) (QP _) ?_))
   intro w6 ak aG;have aJ:=upr.aF (fy aG (oI HZ.lt) (λj hj=>A6)) (gM _);go_wp2;refine bN (hi:=ag) (.tuple #[.agg (aU l),i6 0]) ak ⟨by rw[HN.out],aJ⟩

theorem rF(l:List au):κ (l.flatMap dK)=κ l*3:=pw.flat l
theorem Bo(h:aI w g t (aU l))(k m:Nat)(ab:k+m<=κ l):w.rangeAt g (k*3) (aU ((l.drop k).take m)).toList:=λj v hj=>by
 rw[fH]at hj;rw[h.cell];have e:(aU l)[k*3+j]?=(l.flatMap dK)[k*3+j]?:=by rw[<-fH];simp
 rw[e];have hs:l.flatMap dK=(l.take k).flatMap dK++(((l.drop k).take m).flatMap dK++((l.drop k).drop m).flatMap dK):=by rw[<-gl,<-gl,fO,fO]
 have aa:j<κ (((l.drop k).take m).flatMap dK):=by
  rcases jE j (κ (((l.drop k).take m).flatMap dK)) with h|h
  ·exact h
  ·rw[sQ h]at hj;cases hj
 have hk:κ ((l.take k).flatMap dK)=k*3:=by rw[rF,ey];congr 1;omega
 rw[hs,yB ae,hk,Fo,yA aa,hj]
theorem wM(h:aI w g t (aU l))(k:Nat)(hk:k<κ l):w.rangeAt g (k*3) (a6 l[k]).toList:=by have:=Bo h k 1 ae;rw[List.take_one,List.head?_drop,iI hk]at this;assumption
theorem np(l m:List au)(k:Nat)(ab:k+κ m<=κ l):(Abz (aU l).toList (k*3) (aU m).toList).toArray=aU (l.take k++m++l.drop (k+κ m)):=by
 apply hn.1;rw[fH,fH,Acz,fH];have h1:κ ((l.take k).flatMap dK)=k*3:=by grind [rF]
 have h2:κ ((l.take (k+κ m)).flatMap dK)=k*3+κ m*3:=by grind [rF]
 unfold Abz;rw[rF m];have e1:(l.flatMap dK).take (k*3)=(l.take k).flatMap dK:=by
  conv=>lhs;rw[<-fO k l,gl]
  simp_all
 have e2:(l.flatMap dK).drop (k*3+κ m*3)=(l.drop (k+κ m)).flatMap dK:=by
  conv=>lhs;rw[<-fO (k+κ m) l,gl]
  simp_all
 simp_all
def jJ(l:List au):(aU l).all (·.oneCell')=true:=AZ (pw.cv l)
theorem II(p:au):aU [p]=a6 p:=aA
theorem hI(l:List au)(h:κ l=8):(prog.info? 176).map (·.size)=some (aU l).size:=by grind [cn,we]
theorem wi(l:List au)(h:κ l=17):(prog.info? 178).map (·.size)=some (aU l).size:=by rw[cn,h];kernel_rfl
def jX:List au:=Aad 17 hole
theorem WY:∀W:af,(Ab9 178).run Aag W=.ok (.agg (aU jX)) W:=(lb (P:=Aag) (t:=178) (v:=.agg (aU jX)) (n:=51) aA).1
def node8(C:List cQ)(q:au):Option (List au):=(fM C q).bind λs=>if(lu s.val).2=0 then some (lu s.val).1 else none
theorem oZ{C:List cQ}{q:au}(h:node8 C q=some l):∃s,fM C q=some s/\lu s.val=(l,0):=by
 unfold node8 at h;cases hb:fM C q with
 | none=>simp_all
 | some s=>grind
theorem dm{C:List cQ}{q:au}(h:node8 C q=some l):κ l=8:=by grind [oZ,GD]
theorem rW(w:af)(H:aS)(P:bz)(A:PA w H P)(q:au)(l:List au)(hq:node8 P.C q=some l):Aaf Aag 120 #[pz H.pb,.agg (a6 q)] w λe w'=>e=rt #[.agg (aU l),i6 0]/\PG w H P w':=by
 have hl:=dm hq;obtain⟨s,hs,hn⟩:=oZ hq;obtain⟨IS,IN,ON⟩:=aW (dE s) (hI l hl) (jJ l);have HN:Hid ((aU eg).size=(aU l).size):=an (by rw[cn,cn,hl];rfl);obtain⟨U2,b2⟩:=az (ai (w.alloc (.cells (a6 q) 87)) (.cells (aU eg) 176)) (aI.new (w.alloc (.cells (a6 q) 87)) 176 (aU eg));rw[aN]at b2;obtain⟨UU,NE,NS⟩:=aW ((ai w (.cells (a6 q) 87)).trans U2) hn (show ¬PF H (w.heap.size+1)from λhf=>wG);clear hq hn hl;go_in;go_wp2_with(refine arm ?_);refine(vk _ H P (A.up UU) q s hs).mono ?_;rintro e w3⟨rfl,g3⟩;go_wp2_with(first
  | refine arm ?_
  | ((with_reducible refine cB 60 (.tmp 6) (.tmp 13) ?_);refine fK w3 rfl 60 (.tmp 6) (.tmp 13) rfl (aD s.val) 60 (aD aM) rfl rfl rfl IS (an qs) (dr s.val) ?_))
 refine((λW=>DH W s.val s.property (by rw[NE.out])) _).mono ?_;rintro e w4⟨rfl,u4⟩;have U4:=an ((ai w3 (.cells (aD s.val) 60)).trans u4);rw[NE.out];go_wp2_with(first
  | refine arm ?_
  | ((with_reducible refine cB 176 (.tmp 8) (.tmp 22) ?_);refine fK w4 rfl 176 (.tmp 8) (.tmp 22) rfl (aU l) 176 (aU eg) rfl rfl rfl IN HN ON ?_)
  | refine dL 176 4 27 (aU l) (((b2.ax g3.2 NS).up U4).up (ai _ _)) (hi:=IN) (h1:=ON) (hold:=HN) ?_)
 intro w7 ag aF;go_wp2;exact bN (hi:=IN) (.tuple #[.agg (aU l),i6 0]) ag ⟨rfl,(((((PG.of A UU).trans g3).up U4).up (ai _ _)).grown aF NS ae)⟩
def dG(l:List au):cQ:=if h:κ (nN l).1=128 then⟨(nN l).1,h⟩ else e9
theorem rE(hl:κ l=8)(hg:jy l=true):(dG l).val=(nN l).1/\(nN l).2=0/\(nN l).1=cV l:=by grind [Bm,dG,nN,cV,d']
theorem QZ(s:cQ):fe s.val=s.val:=by unfold fe;rw[s.property];simp
def VQ(s:cQ)(h:κ s.val<=128):eV s.val h=s:=Subtype.ext (QZ s)
theorem D7(w:af)(H:aS)(P:bz)(A:PA w H P)(l:List au)(hl:κ l=8)(aK:∀x∈l,x.wf)(hg:jy l=true)(hm:P.m<=900000)(hf:∀i,P.s i=1->i<κ P.C)(h0:0<bj P.s):Aaf Aag 102 #[pz H.pb,.agg (aU l)] w (aaO P H (dG l) w):=by
 obtain⟨v1,v2,v3⟩:=rE hl hg;have HA:=an A;have NB:=Bl ((w.alloc (.cells (aU l) 176)).alloc (.cells (a6 hole) 87)) l hl aK;unfold JS at NB;rw[v2,<-v1]at NB;generalize dG l=s at *;have SL:=an mw;obtain⟨U2,b2⟩:=az (ai (w.alloc (.cells (aU l) 176)) (.cells (a6 hole) 87)) (aI.new (w.alloc (.cells (aU l) 176)) 87 (a6 hole));rw[aN]at b2;clear v1 v2 v3 aK hg;go_in;go_wp2_with(first
  | refine bH 87 fh ?_
  | refine db 176 3 ((aI.new w 176 (aU l)).up U2) (hi:=(hI l hl)) ?_)
 refine NB.mono ?_;rintro e w3⟨rfl,u3⟩;have U3:=an ((((ai w (.cells (aU l) 176)).trans U2).trans u3).trans (ai w3 (.cells (aD s.val) 60)));go_wp2_with(first
  | refine arm ?_
  | ((with_reducible refine cB 60 (.tmp 6) (.tmp 11) ?_);refine fK w3 rfl 60 (.tmp 6) (.tmp 11) rfl (aD s.val) 60 (aD aM) rfl rfl rfl (dE s) (an qs) (dr s.val) ?_))
 have HB4:=an (show ∀w',Touch (PF H) (w3.alloc (.cells (aD s.val) 60)) w'->aY w' (cC w3.heap.size 128 128) s.val from λw' T=>by have hb:=ij ((aI.new w3 60 (aD s.val)).ax T (λhf=>by have:=HA.lt _ hf;have:=(eh b2.lt u3.size);omega)) 0 128 128 ae ae ae ae;rw[Aaw,dk ae]at hb;exact hb)
 have PU:=an ((λW (AW:PA W H P) vb hb=>IV W H P AW vb s.val hb ae hm hf h0) _ (HA.up U3) _ HB4);rw[(VQ s ae)]at PU;refine PU.mono ?_;rintro e w5⟨i,hi,hs,rfl,T5⟩;have HS:=an hs;obtain⟨vp,A5,TT,O5⟩:=T5;obtain⟨B5,T5⟩:=aw (((b2.up u3).up (ai w3 (.cells (aD s.val) 60))).ax TT (λhf=>by have:=HA.lt _ hf;omega)) (PT.pre U3 ⟨vp,A5,TT,O5⟩);clear O5 hs;go_wp2_with(first|refine arm ?_|refine pH ?_);intro w7 ag aF;go_wp2;exact bN (.tuple #[.agg (a6 ⟨(i:Int),P.st,eP s⟩),i6 0]) ag ⟨i,hi,HS,rfl,(T5.grow B5 rfl aF ae)⟩
theorem Cr(w:af)(i:Int):Aaf Aag 99 #[i6 i] w λe w'=>e=.returned (.bool (decide (0<=i/\i<64)))/\w=w':=by
 by_cases h0:0<=i
 ·have t0:decide (0<=i)=true:=by simp;omega
  by_cases h1:i<64
  ·have t1:decide (i<64)=true:=by simp;omega
   have HR:=an (show decide (0<=i/\i<64)=true from ao);go_in;go_wp2;go_ret;simp;omega
  ·have t1:decide (i<64)=false:=by simp;omega
   exact Vh
 ·have t0:decide (0<=i)=false:=by simp;omega
  exact Vh
def bB(l:List au)(k:Nat):au:=l.getD k hole
def fJ(F S:List au)(p:au):List au:=F++S++[p]
theorem gd{F S:List au}(hF:κ F=8)(hS:κ S=8)(p:au):κ (fJ F S p)=17:=sX
theorem RW{F S:List au}(hF:κ F=8)(p:au):((fJ F S p).drop 0).take 8=F:=sX
theorem Mr{F S:List au}(hF:κ F=8)(hS:κ S=8)(p:au):((fJ F S p).drop 8).take 8=S:=sX
theorem RV{F S:List au}(hF:κ F=8)(hS:κ S=8)(p:au)(h:16<κ (fJ F S p)):(fJ F S p)[16]=p:=sX
theorem abH{F S:List au}(hF:κ F=8)(p:au)(k:Nat)(hk:k<8)(h:k<κ (fJ F S p)):(fJ F S p)[k]=F[k]:=sX
theorem abI{F S:List au}(hF:κ F=8)(hS:κ S=8)(p:au)(k:Nat)(hk:k<8)(h:8+k<κ (fJ F S p)):(fJ F S p)[8+k]=S[k]:=sX
theorem aay{F S:List au}(hF:κ F=8)(p:au)(k:Nat)(hk:k<8)(h:k<κ (fJ F S p)):(fJ F S p)[k]=bB F k:=by grind [abH,bB]
theorem aaz{F S:List au}(hF:κ F=8)(hS:κ S=8)(p:au)(k:Nat)(hk:k<8)(h:8+k<κ (fJ F S p)):(fJ F S p)[8+k]=bB S k:=by grind [abI,bB]
theorem Cn{F S:List au}(hb:aI W g t (aU (fJ F S p)))(hF:κ F=8)(k:Nat)(hk:k<8):W.rangeAt g (k*3) (a6 (bB F k)).toList:=by have:=wM hb k sX;grind [aay]
theorem Mq{F S:List au}(hb:aI W g t (aU (fJ F S p)))(hF:κ F=8)(hS:κ S=8)(k:Nat)(hk:k<8):W.rangeAt g (24+k*3) (a6 (bB S k)).toList:=by have:=wM hb (8+k) uG;grind [aaz]
theorem mF{F S:List au}(hb:aI W g t (aU (fJ F S p)))(hF:κ F=8)(hS:κ S=8):W.rangeAt g 48 (a6 p).toList:=by have:=wM hb 16 uG;grind [RV]
theorem Co{F S:List au}(hb:aI W g t (aU (fJ F S p)))(hF:κ F=8)(hS:κ S=8):W.rangeAt g 0 (aU F).toList:=by have:=Bo hb 0 8 uG;grind [RW]
theorem Cp{F S:List au}(hb:aI W g t (aU (fJ F S p)))(hF:κ F=8)(hS:κ S=8):W.rangeAt g 24 (aU S).toList:=by have:=Bo hb 8 8 uG;grind [Mr]
theorem WG{F:List au}(lF:κ F=8):(Abz (aU jX).toList 0 (aU F).toList).toArray=aU (fJ F eg hole):=by have:=np jX F 0 (by rw[lF];decide);rw[Nat.zero_mul]at this;rw[this,lF,show List.drop (0+8) jX=eg++[hole] from rfl,Abl,Aa0,<-Abe];rfl
theorem WH{F S:List au}(lF:κ F=8)(lS:κ S=8):(Abz (aU (fJ F eg hole)).toList 24 (aU S).toList).toArray=aU (fJ F S hole):=by have:=np (fJ F eg hole) S 8 (by rw[lS,gd lF rfl];decide);grind [fJ,eg,hole]
theorem WJ{F S:List au}(lF:κ F=8)(lS:κ S=8)(p:au):(Abz (aU (fJ F S hole)).toList 48 (a6 p).toList).toArray=aU (fJ F S p):=by have:=np (fJ F S hole) [p] 16 uG;rw[II]at this;rw[this];congr 1;unfold fJ;rw[h0 ao,sO ao,Ab4]
theorem D9(w:af)(H:aS)(P:bz)(A:PA w H P)(root:au)(i:Nat)(hi:i<64)(F S:List au)(hF:node8 P.C root=some F)(hS:node8 P.C (bB F (i/8))=some S):Aaf Aag 100 #[pz H.pb,.agg (a6 root),i6 (i:Int)] w λe w'=>e=rt #[.agg (aU (fJ F S (bB S (i%8)))),i6 0]/\PG w H P w':=by
 obtain⟨lF,lS⟩:=az (dm hF) (dm hS);obtain⟨q,hq⟩:=bE (i/8);obtain⟨r,hr⟩:=bE (i%8);have ab:q<8:=ae
 have al:r<8:=ae
 have aB:((i:Int)/8)=(q:Int):=ae
 have aq:((i:Int)%8)=(r:Int):=ae
 rw[<-hq]at hS;rw[<-hr];obtain⟨LF,LS,IW⟩:=aW lF lS (wi (fJ F S (bB S r)) (gd lF lS _));obtain⟨U2,U3⟩:=az (ai (w.alloc (.cells (a6 root) 87)) (.cells (aU jX) 178)) (ai ((w.alloc (.cells (a6 root) 87)).alloc (.cells (aU jX) 178)) (.cells (aU jX) 178));obtain⟨b2,b3⟩:=az ((aI.new (w.alloc (.cells (a6 root) 87)) 178 (aU jX)).up U3) (aI.new ((w.alloc (.cells (a6 root) 87)).alloc (.cells (aU jX) 178)) 178 (aU jX));rw[aN]at b2;rw[aN,aN]at b3;obtain⟨UU,NS,NT⟩:=aW (((ai w (.cells (a6 root) 87)).trans U2).trans U3) (show ¬PF H (w.heap.size+1)from λhf=>wG) (show ¬PF H (w.heap.size+1+1)from λhf=>wG);clear hq hr;refine Nj ?_;intro b8 b9 wq wr;go_in;go_wp2_with(refine arm ?_);refine((λW (AW:PA W H P)=>rW W H P AW root F hF) _ (A.up UU)).mono ?_;rintro e w4⟨rfl,g4⟩;go_wp2_with(first
  | ((with_reducible refine cB 176 (.tmp 16) (.tmp 14) ?_);refine cc rfl 176 (.tmp 16) (.tmp 14) rfl (w.heap.size+1+1) 0 (aU F) rfl rfl 178 _ (b3.ax g4.2 NT) (hI F lF) (by rw[cn,cn,lF];exact Ff rfl) (jJ F) ?_))
 intro w5 ar av;rw[(WG lF)]at ar;have G5:=an (((PG.of A UU).trans g4).grown av NT ae);go_wp2_with(first
  | refine cM 87 26 (a6 (bB F q)) (Cn ar LF q ab) ?_)
 refine((λW (AW:PA W H P)=>rW W H P AW (bB F q) S hS) _ G5.1).mono ?_;rintro e w6⟨rfl,g6⟩;go_wp2_with(first
  | ((with_reducible refine cB 176 (.tmp 31) (.tmp 29) ?_);refine cc rfl 176 (.tmp 31) (.tmp 29) rfl (w.heap.size+1+1) 24 (aU S) rfl rfl 178 _ (ar.ax g6.2 NT) (hI S lS) (by rw[cn,cn,lS,gd lF rfl];omega) (jJ S) ?_))
 intro w7 ag aF;rw[(WH lF lS)]at ag;go_wp2_with(first
  | refine cM 87 39 (a6 (bB S r)) (Mq ag LF LS r al) ?_
  | ((with_reducible refine cB 87 (.tmp 41) (.tmp 40) ?_);refine cc rfl 87 (.tmp 41) (.tmp 40) rfl (w.heap.size+1+1) 48 (a6 (bB S r)) rfl rfl 178 _ ag (hU (bB S r)) (by rw[cn,gd lF lS];show 48+3<=17*3;omega) (kM (bB S r)) ?_))
 intro w8 aj ay;rw[(WJ lF lS (bB S r))]at aj;go_wp2_with(first
  | refine arm ?_
  | refine dL 178 6 42 (aU (fJ F S (bB S r))) (((((b2.ax g4.2 NS).grown av (λe=>aP)).ax g6.2 NS).grown aF (λe=>aP)).grown ay (λe=>aP)) (hi:=IW) (h1:=(jJ (fJ F S (bB S r)))) (hold:=(an (by rw[cn,cn,gd LF.out LS.out];rfl))) ?_)
 intro w9 aM aH;go_wp2;exact bN (hi:=IW) (.tuple #[.agg (aU (fJ F S (bB S r))),i6 0]) aM ⟨rfl,((((G5.trans g6).grown aF NT ae).grown ay NT ae).grown aH NS ae)⟩

def okB(c:aj):Bool:=(decide (97<=c.toNat) && decide (c.toNat<=122)) || (decide (48<=c.toNat) && decide (c.toNat<=57)) || decide (c.toNat=45) || decide (c.toNat=95)
def ef(l:List aj):Bool:=decide (1<=κ l) && decide (κ l<=24) && l.all okB
theorem OM(c:aj):okB c=true↔(97<=c.toNat/\c.toNat<=122)\/(48<=c.toNat/\c.toNat<=57)\/c.toNat=45\/c.toNat=95:=by grind [okB]
theorem jm(l:List aj):ef l=true↔1<=κ l/\(κ l)<=24/\∀c∈l,okB c=true:=by grind [ef]
def RC(l:List aj)(i:Nat)(h:i<(strOf l).size)(h':i<κ l):(strOf l)[i]'h=l[i]:=rfl
theorem SA{l:List aj}(hk:k<κ l)(h:∀c∈l.take k,okB c=true)(hc:okB l[k]=true):∀c∈l.take (k+1),okB c=true:=by rw[eo hk];grind
theorem VC{l:List aj}(hk:k<κ l)(hc:okB l[k]=false):ef l=false:=by grind [jm]
theorem RX(s:ByteArray)(pos:Nat)(h:pos<s.size):1<=(Abu s pos).2:=by
 by_cases ha:(s[pos]'h).toNat<128
 ·rw[decode_ascii s pos h ha];omega
 ·exact(decode_high s pos h ae).2
theorem Yp(s:ByteArray)(pos:Nat)(h:pos<s.size):((97<=(Abu s pos).1/\(Abu s pos).1<=122)\/(48<=(Abu s pos).1/\(Abu s pos).1<=57)\/(Abu s pos).1=45\/(Abu s pos).1=95->okB (s[pos]'h)=true/\(Abu s pos).2=1)/\(¬((97<=(Abu s pos).1/\(Abu s pos).1<=122)\/(48<=(Abu s pos).1/\(Abu s pos).1<=57)\/(Abu s pos).1=45\/(Abu s pos).1=95)->okB (s[pos]'h)=false):=by
 by_cases ha:(s[pos]'h).toNat<128
 ·rw[decode_ascii s pos h ha];grind [OM]
 ·have hd:=(decode_high s pos h ae).1;grind [OM]
theorem kB(w:af)(l:List aj):Aaf Aag 150 #[.string (strOf l)] w λe w'=>e=.returned (.bool (ef l))/\Up w w':=by
 have aN:(strOf l).size=κ l:=rfl;obtain⟨R,Wd,G⟩:=aW (λi h=>Yp (strOf l) i h) (λi h=>RX (strOf l) i h) (RC l);generalize strOf l=s at *;by_cases hn:1<=κ l/\(κ l)<=24
 case neg=>
  have hb:ef l=false:=by rw[<-wv,jm];omega
  rw[hb];clear hb G R Wd;generalize (κ l)=n at *;by_cases h1:n<1
  ·obtain rfl:n=0:=by omega
   go_in;go_wp2;go_ret;exact⟨rfl,Up.refl _⟩
  ·have h2:decide ((n:Int)<1)=false:=by simp;omega
   have h3:decide ((24:Int)<(n:Int))=true:=ao
   clear h1 hn;go_in;go_wp2;go_ret;exact⟨rfl,Up.refl _⟩
 have h2:decide ((κ l:Int)<1)=false:=ao
 have h3:decide ((24:Int)<(κ l:Int))=false:=ao
 have Hn:=an hn;clear hn;go_in;go_wp2;clear h2 h3;go_loopw [4] (λ_ w'=>∃pos:Nat,pos<=κ l/\w'=w.iter s pos/\∀c∈l.take pos,okB c=true) (λ_ w'=>s.size-w'.iterPos w.heap.size)
 case atStart=>exact⟨0,bG _,rfl,aq⟩
 case round=>
  obtain⟨k,hk,rfl,ad⟩:=hrel;have ab:=an ad;clear ad;by_cases hlt:k<κ l
  ·have hp:k<s.size:=by omega
   have aD:∀ty,(Instr.next (pz w.heap.size) true ty).run Aag (w.iter s k)=_:=λty=>run_next_any w s k ty hp;obtain⟨hg,Rk⟩:=az (G k hp hlt) (R k hp);rw[hg]at Rk;obtain⟨aR,aC⟩:=aw (λh=>VC hlt h) (λh=>SA hlt ab h);have aa:=Wd k hp;generalize Abu s k=dd at *;obtain⟨rn,wd⟩:=dd;simp only at Rk aD aa;have RK:=an Rk;generalize l[k]=c at *;clear Rk;go_wp2;all_goals
    try simp only[Bool.not_eq_false',Bool.not_eq_true',decide_eq_true_eq,decide_eq_false_iff_not,beq_iff_eq,beq_eq_false_iff_ne,Bool.not_eq_eq_eq_not,Bool.not_true,Bool.not_false,ne_eq]at *
    first
     | (go_roundw;(case rel=>(obtain⟨r1,rfl⟩:=RK.1 ae;exact⟨k+1,ae,rfl,aC r1⟩));(case measure=>(simp;omega)))
     | (go_ret;exact⟨by rw[aR.out (RK.out.2 ae)]<;>rfl,ai _ _⟩)
  ·have aD:∀ty,(Instr.next (pz w.heap.size) true ty).run Aag (w.iter s k)=_:=λty=>run_next_end w s k ty ae;obtain rfl:k=κ l:=by omega
   have hb:ef l=true:=by rw[jm];have:=Hn.out;have:=ab.out;grind
   go_wp2;go_ret;exact⟨ao,ai _ _⟩
structure ab where
 id:Nat
 name:List aj
 aT:Bool
 owner:Nat
 prev:Nat
 ay:Nat
 blocks:Int
 root:au
 dead:List au
deriving DecidableEq
def ab.wf(x:ab):Prop:=x.id<18446744073709551616/\x.owner<18446744073709551616/\x.prev<18446744073709551616/\x.ay<18446744073709551616/\(-9223372036854775808<=x.blocks/\x.blocks<=9223372036854775807)/\x.root.wf/\∀p∈x.dead,p.wf
def b7(x:ab)(vd:ah):Array ah:=#[.int .u64 (x.id:Int),.string (strOf x.name),.bool x.aT,.int .u64 (x.owner:Int),.int .u64 (x.prev:Int),.int .u64 (x.ay:Int),.int .i64 x.blocks,.int .i64 x.root.loc,.int .u64 (x.root.aV:Int),.int .u32 (x.root.sum:Int),vd]
def Rr(x:ab)(vd:ah):(b7 x vd).size=11:=rfl
theorem mu(x:ab)(a:Option Addr)(n c:Nat):(b7 x (.slice a n c)).all (·.oneCell')=true:=by simp[b7,Ac9]
theorem ke(x:ab)(vd:ah):(prog.info? 90).map (·.size)=some (b7 x vd).size:=aA
structure Su(w:af)(g:Nat)(x:ab)(vd:ah):Prop where
 c0:w.cell? ⟨g,0,none⟩=some (.int .u64 (x.id:Int))
 c1:w.cell? ⟨g,1,none⟩=some (.string (strOf x.name))
 c2:w.cell? ⟨g,2,none⟩=some (.bool x.aT)
 c3:w.cell? ⟨g,3,none⟩=some (.int .u64 (x.owner:Int))
 c4:w.cell? ⟨g,4,none⟩=some (.int .u64 (x.prev:Int))
 c5:w.cell? ⟨g,5,none⟩=some (.int .u64 (x.ay:Int))
 c6:w.cell? ⟨g,6,none⟩=some (.int .i64 x.blocks)
 c7:w.rangeAt g 7 (a6 x.root).toList
 zR:w.cell? ⟨g,10,none⟩=some vd
theorem aI.setAt{x:ab}{vd:ah}(h:aI w g t (b7 x vd)):Su w g x vd:=⟨jH,jH,jH,jH,jH,jH,jH,λj v hj=>by
  rw[h.cell];match j,hj with
  | 0,hj=>exact hj
  | 1,hj=>exact hj
  | 2,hj=>exact hj
  | (n+3),hj=>simp[a6]at hj,jH⟩
def cz(x:ab):Bool:=decide (1<=x.id) && decide (x.id<=281474976710655) && decide (1<=x.owner) && decide (x.owner<=281474976710655) && decide (x.prev<=281474976710655) && decide (1<=x.blocks) && decide (x.blocks<=64) && ef x.name && cw x.root && decide (κ x.dead<=4000) && gq x.dead && (if x.aT=true then decide (1<=x.ay) && decide (x.ay<=281474976710655)else decide (x.ay=0) && decide (x.owner=x.id))
theorem bm(x:ab):cz x=true↔(1<=x.id/\x.id<=281474976710655)/\(1<=x.owner/\x.owner<=281474976710655)/\x.prev<=281474976710655/\(1<=x.blocks/\x.blocks<=64)/\ef x.name=true/\cw x.root=true/\(κ x.dead)<=4000/\gq x.dead=true/\(if x.aT=true then 1<=x.ay/\x.ay<=281474976710655 else x.ay=0/\x.owner=x.id):=by grind [cz]
def Su.GV{id:Nat}{name:List aj}{aT:Bool}{owner prev ay:Nat}{blocks:Int}{root:au}{dead:List au}{vd:ah}(h:Su w g ⟨id,name,aT,owner,prev,ay,blocks,root,dead⟩ vd):w.cell? (ad g 0)=some (u6 (id:Int))/\w.cell? (ad g 1)=some (.string (strOf name))/\w.cell? (ad g 2)=some (.bool aT)/\w.cell? (ad g 3)=some (u6 (owner:Int))/\w.cell? (ad g 4)=some (u6 (prev:Int))/\w.cell? (ad g 5)=some (u6 (ay:Int))/\w.cell? (ad g 6)=some (i6 blocks)/\Hid (w.rangeAt g 7 (a6 root).toList)/\w.cell? (ad g 10)=some vd:=⟨h.c0,h.c1,h.c2,h.c3,h.c4,h.c5,h.c6,an h.c7,h.zR⟩
theorem B7(w:af)(x:ab)(vd:ah)(hd:c9 w vd x.dead):Aaf Aag 182 #[.agg (b7 x vd)] w λe w'=>k8 (cz x) w e w':=by
 have aQ:=hd.length_le;obtain⟨da,dc,rfl⟩:=hd.slice;obtain⟨B1,U1,NR,PR,LR,IFF⟩:=iC (aI.new w 90 (b7 x (.slice da (κ x.dead) dc))) (ai w (.cells (b7 x (.slice da (κ x.dead) dc)) 90)) (λW=>kB W x.name) (λW=>oa W x.root) (λW U=>sL W (.slice da (κ x.dead) dc) x.dead (aG.up hd U)) (bm x);obtain⟨id,name,aT,owner,prev,ay,blocks,root,dead⟩:=x;dsimp only at NR PR LR IFF aQ;obtain⟨c0,c1,c2,c3,c4,c5,c6,R7,zR⟩:=B1.setAt.GV;by_cases h0:id<1
 ·have b0:((id:Int)<1)=True:=by simp;omega
  have HF:=an (show cz ⟨id,name,aT,owner,prev,ay,blocks,root,dead⟩=false by refine dY ?_;intro hh;exact absurd hh.1.1 ae)
  exact oO
 have b0:((id:Int)<1)=False:=ao
 by_cases h1:281474976710655<id
 ·have b1:((281474976710655:Int)<(id:Int))=True:=by simp;omega
  have HF:=an (show cz ⟨id,name,aT,owner,prev,ay,blocks,root,dead⟩=false by refine dY ?_;intro hh;exact absurd hh.1.2 ae)
  exact oO
 have b1:((281474976710655:Int)<(id:Int))=False:=ao
 by_cases h2:owner<1
 ·have b2:((owner:Int)<1)=True:=by simp;omega
  have HF:=an (show cz ⟨id,name,aT,owner,prev,ay,blocks,root,dead⟩=false by refine dY ?_;intro hh;exact absurd hh.2.1.1 ae)
  exact oO
 have b2:((owner:Int)<1)=False:=ao
 by_cases h3:281474976710655<owner
 ·have b3:((281474976710655:Int)<(owner:Int))=True:=by simp;omega
  have HF:=an (show cz ⟨id,name,aT,owner,prev,ay,blocks,root,dead⟩=false by refine dY ?_;intro hh;exact absurd hh.2.1.2 ae)
  exact oO
 have b3:((281474976710655:Int)<(owner:Int))=False:=ao
 by_cases h4:281474976710655<prev
 ·have b4:((281474976710655:Int)<(prev:Int))=True:=by simp;omega
  have HF:=an (show cz ⟨id,name,aT,owner,prev,ay,blocks,root,dead⟩=false by refine dY ?_;intro hh;exact absurd hh.2.2.1 ae)
  exact oO
 have b4:((281474976710655:Int)<(prev:Int))=False:=ao
 by_cases h5:blocks<1
 ·have b5:(blocks<1)=True:=by simp;omega
  have HF:=an (show cz ⟨id,name,aT,owner,prev,ay,blocks,root,dead⟩=false by refine dY ?_;intro hh;exact absurd hh.2.2.2.1.1 ae)
  exact oO
 have b5:(blocks<1)=False:=ao
 by_cases h6:64<blocks
 ·have b6:(64<blocks)=True:=by simp;omega
  have HF:=an (show cz ⟨id,name,aT,owner,prev,ay,blocks,root,dead⟩=false by refine dY ?_;intro hh;exact absurd hh.2.2.2.1.2 ae)
  exact oO
 have b6:(64<blocks)=False:=ao
 go_in;go_wp2_with fail;refine(NR _).mono ?_;rintro e w2⟨rfl,U2⟩;obtain⟨B2,U3⟩:=aw (B1.up U2) (U1.trans U2);clear c0 c1 c2 c3 c4 c5 c6 zR;obtain⟨c0,c1,c2,c3,c4,c5,c6,R7,zR⟩:=B2.setAt.GV;clear NR;cases hnm:ef name
 ·have HF:=an (show cz ⟨id,name,aT,owner,prev,ay,blocks,root,dead⟩=false by refine dY ?_;intro hh;rw[hnm]at hh;exact absurd hh.2.2.2.2.1 aq)
  go_wp2;go_ret;exact⟨A9,U3⟩
 have ag:=an hnm;clear hnm;go_wp2_with(refine arm ?_);refine(PR _).mono ?_;rintro e w4⟨rfl,U4⟩;obtain⟨B4,U5⟩:=aw (B2.up U4) (U3.trans U4);clear c0 c1 c2 c3 c4 c5 c6 zR;obtain⟨c0,c1,c2,c3,c4,c5,c6,R7,zR⟩:=B4.setAt.GV;clear PR;cases hgd:cw root
 ·have HF:=an (show cz ⟨id,name,aT,owner,prev,ay,blocks,root,dead⟩=false by refine dY ?_;intro hh;rw[hgd]at hh;exact absurd hh.2.2.2.2.2.1 aq)
  go_wp2;go_ret;exact⟨A9,U5⟩
 have aa:=an hgd;clear hgd;by_cases aM:4000<κ dead
 ·have bd:((4000:Int)<(κ dead:Int))=True:=by simp;omega
  have HF:=an (show cz ⟨id,name,aT,owner,prev,ay,blocks,root,dead⟩=false by refine dY ?_;intro hh;exact absurd hh.2.2.2.2.2.2.1 ae)
  go_wp2;go_ret;exact⟨A9,U5⟩
 have bd:((4000:Int)<(κ dead:Int))=False:=ao
 go_wp2_with fail;refine(LR _ U5).mono ?_;rintro e w6⟨rfl,U6⟩;have U7:=an (U5.trans U6);clear c0 c1 c2 c3 c4 c5 c6 zR;obtain⟨c0,c1,c2,c3,c4,c5,c6,R7,zR⟩:=(B4.up U6).setAt.GV;clear LR;cases ad:gq dead
 ·have HF:=an (show cz ⟨id,name,aT,owner,prev,ay,blocks,root,dead⟩=false by refine dY ?_;intro hh;rw[ad]at hh;exact absurd hh.2.2.2.2.2.2.2.1 aq)
  go_wp2;go_ret;exact⟨A9,U7⟩
 have aj:=an ad;clear ad;have TT:=an (show(if aT=true then 1<=ay/\ay<=281474976710655 else ay=0/\owner=id)->cz ⟨id,name,aT,owner,prev,ay,blocks,root,dead⟩=true from λht=>IFF.2 ⟨ae,ae,ae,ae,ag,aa,ae,aj,ht⟩);have FF:=an (show ¬(if aT=true then 1<=ay/\ay<=281474976710655 else ay=0/\owner=id)->cz ⟨id,name,aT,owner,prev,ay,blocks,root,dead⟩=false from λht=>by rw[<-wv,IFF.out];exact λhh=>ht hh.2.2.2.2.2.2.2.2)
 cases aT
 ·by_cases hz:ay=0
  ·by_cases ak:owner=id
   ·have q1:((ay:Int)==0)=true:=by simp;omega
    have q2:((owner:Int)==(id:Int))=true:=ao
    exact Nb
   ·have q1:((ay:Int)==0)=true:=by simp;omega
    have q2:((owner:Int)==(id:Int))=false:=ao
    exact za
  ·have q1:((ay:Int)==0)=false:=by simp;omega
   exact za
 ·by_cases h1:ay<1
  ·have q1:((1:Int)<=(ay:Int))=False:=by simp;omega
   exact za
  ·have q1:((1:Int)<=(ay:Int))=True:=by simp;omega
   by_cases h2:281474976710655<ay
   ·have q2:((ay:Int)<=281474976710655)=False:=by simp;omega
    exact za
   ·have q2:((ay:Int)<=281474976710655)=True:=by simp;omega
    exact Nb
theorem mB(w:af)(o:Obj):(w.alloc o).heap.size=w.heap.size+1:=aq
theorem vH(a b:List aj):((strOf a).toList==(strOf b).toList)=decide (a=b):=by rw[Ado,Ado,mA,mA,yI];simp
theorem I7{fn:Func}{p:Tmp}(h:fn.results=#[.cell p ty])(tmps:Array ah)(P:bu)(w:af)(g:Nat)(t:Aab)(C:Array ah)(hp:tmps.getD p Aat=pz g)(hb:aI w g t C)(d:eT)(hd:P.underlying ty=some d)(hr:d.isRow=true)(hi:(P.info? ty).map (·.size)=some C.size):(results fn tmps).run P w=.ok (.agg C) w:=by
 simp only[results,h];have:=iv (P:=P) (w:=w) ty g t C hb d hd hr hi;have aL:tmps[p]?.getD Aat=pz g:=aa
 simp[Aa1,Aar,hp,aL,asAddr,this]
theorem eA{f:α->List ah}{xs:List α}(hne:t≠e)(hb:aI w g t C)(ho:ak f k e w base vp xs):vp.ownBlock≠some g:=λe0=>by exact Nc
def tI:ab:=⟨0,[],false,0,0,0,0,hole,[]⟩
def b8:Array ah:=b7 tI (.slice none 0 0)
theorem q0:∀W:af,(Ab9 90).run Aag W=.ok (.agg b8) W:=(lb (P:=Aag) (t:=90) (v:=.agg b8) (n:=11) aA).1
def V4(x:ab)(v v':ah):(b7 x v).setIfInBounds 10 v'=b7 x v':=rfl
theorem lT(w:af)(x:ab)(vd:ah)(hd:c9 w vd x.dead)(hr:κ x.dead*24<=140737488355328):Aaf Aag 143 #[.agg (b7 x vd)] w λe w'=>∃v',e=.returned (.agg (b7 x v'))/\a8 w' w.heap.size v' x.dead/\Up w w':=by
 have aQ:=hd.length_le;obtain⟨da,dc,rfl⟩:=hd.slice;obtain⟨upa,aa,sza⟩:=cX (ai w (.cells (b7 x (.slice da (κ x.dead) dc)) 90)) (ai (w.alloc (.cells (b7 x (.slice da (κ x.dead) dc)) 90)) (.cells b8 90)) (mB w (.cells (b7 x (.slice da (κ x.dead) dc)) 90));have B1:=an ((aI.new w 90 (b7 x (.slice da (κ x.dead) dc))).up aa);have b2:=aI.new (w.alloc (.cells (b7 x (.slice da (κ x.dead) dc)) 90)) 90 b8;rw[sza]at b2;have U1:=an (upa.trans aa);have zR:=B1.setAt.zR;clear sza;go_in;go_wp2_with(first
  | refine arm ?_
  | (at_builtin;refine bI pw rfl (.const (nl)) (.tmp 4) 88 rfl w.heap.size 87 _ 24 Aas cF rfl (nl) [] rfl (ak.nil dK 3 87 ((w.alloc (.cells (b7 x (.slice da (κ x.dead) dc)) 90)).alloc (.cells b8 90)) w.heap.size) (.slice da (κ x.dead) dc) x.dead rfl (aG.up hd U1) ao ao U1.size ?_))
 intro v' w3 hown hg hb;obtain⟨na,nc,rfl⟩:=(ak.row hown pw).slice;have b3:=B1.grown hg sU;obtain⟨d3,ax,f10⟩:=cX (b2.grown hg sU) (U1.aF hb (aE _)) (b3.free 10);have ad:=b3.setAt.zR;obtain⟨G,b4⟩:=az (bX b3 10 (.slice na (κ x.dead) nc)) (b3.setCell 10 (.slice na (κ x.dead) nc));rw[V4]at b4;obtain⟨D4,O4,HN⟩:=aW (d3.grown G (λe=>aP)) (hown.kept G (.inr (eA av b3 hown))) (ke x (.slice na (κ x.dead) nc));clear zR;go_wp2_with(first
  | refine arm ?_
  | ((with_reducible refine cB 90 (.tmp 2) (.tmp 7) ?_);refine E5 rfl 90 (.tmp 2) (.tmp 7) rfl (w.heap.size+1) (b7 x (.slice na (κ x.dead) nc)) rfl rfl 90 _ D4 HN rfl (mu x na (κ x.dead) nc) ?_))
 obtain⟨G5,D5⟩:=az (cR (w3.setCell ⟨w.heap.size,10,none⟩ (.slice na (κ x.dead) nc)) (w.heap.size+1) (b7 x (.slice na (κ x.dead) nc))) (D4.set (b7 x (.slice na (κ x.dead) nc)));have O5:=O4.kept G5 (.inr (eA av D4 O4));have U5:=(ax.grown G (λk hk=>aP)).grown G5 (λk hk=>aP);exact kk (v:=.agg (b7 x (.slice na (κ x.dead) nc))) (I7 rfl _ _ _ (w.heap.size+1) 90 _ rfl D5 _ underlying90 rfl HN) rfl ⟨_,rfl,O5,U5⟩
def wa(l:List au):Option (List aj):=if (κ l)<=4000/\gq l=true then some (cV l)else none
def BM:Option (List au)->Option (List au)
 | some l=>if gq l=true then some l else none
 | none=>none
def OX(b:List aj):Option (List au):=if (κ b)%16=0/\(κ b)<=64000 then BM (e1 b (κ b/16))else none
theorem BN(h:gq l=true):∀x∈l,cw x=true:=λx hx=>by obtain⟨i,hi,rfl⟩:=jD hx;have:=(je l).1 h i hi;unfold tf nF at this;simp at this;exact this.1.2
theorem I5(l:List au)(hw:∀x∈l,x.wf)(hl:κ l<=4000)(hr:gq l=true):OX (cV l)=some l:=by unfold OX;rw[d',bp ⟨ae,ae⟩,show 16*κ l/16=κ l from ae,o5 l hw (BN hr) _ (aE _),fj];simp[BM,hr]
def Pf(o:Option (List aj))(w:af)(e:Ab3)(w':af):Prop:=(o=none/\e=.returned (.tuple #[.slice none 0 0,.int .i64 131])/\Up w w')\/∃m u,o=some m/\e=.returned (.tuple #[u,.int .i64 0])/\Own aH 5 w' w.heap.size u m/\Up w w'
theorem aaC(n:Nat)(h:n<=4000):IntKind.i64.wrap ((n:Int)*16)=((n*16:Nat):Int):=by rw[show(n:Int)*16=((n*16:Nat):Int)from ae];exact bc _ ae
theorem KO(w:af)(v:ah)(l:List au)(hv:c9 w v l)(aK:∀x∈l,x.wf):Aaf Aag 273 #[v] w λe w'=>Pf (wa l) w e w':=by
 have R:=an (λW (up:Up w W)=>sL W v l (aG.up hv up));have hlen:=hv.length_le;by_cases h4:κ l<=4000
 case neg=>
  have HN:=an (show wa l=none from aO (λh=>h4 h.1));obtain⟨a,cap,rfl⟩:=hv.slice;have t1:decide ((4000:Int)<(κ l:Int))=true:=ao
  have t2:decide (4000<κ l)=true:=ao
  clear h4;go_in;go_wp2;go_ret2;exact .inl ⟨HN,rfl,Up.refl _⟩
 have t1:decide ((4000:Int)<(κ l:Int))=false:=ao
 have t2:decide (4000<κ l)=false:=ao
 cases hR:gq l
 case false=>have HN:=an (show wa l=none from aO (λh=>aP));rw[hR]at R;clear hR;obtain⟨a,cap,rfl⟩:=hv.slice;go_in;go_wp2_with fail;refine(R _ (Up.refl _)).mono ?_;rintro e w1⟨rfl,up1⟩;go_wp2;go_ret2;exact .inl ⟨HN,rfl,up1⟩
 obtain⟨HN,HW⟩:=aw (show wa l=some (cV l)from bp ⟨h4,hR⟩) aK;rw[hR]at R;clear aK;obtain⟨T,hT⟩:=bE (κ l*16);have MK:∀W:af,(Aci 30 (i6 0) (i6 (T:Int))).run Aag W=_:=λW=>kE (P:=Aag) 30 5 (.int .u8 0) 1 Aau ew T ae ae W;have RM:=an (λW (B:Nat) (hB:B<=W.heap.size)=>Own.room aH 5 W (.int .u8 0) B T hB ae);have wt:IntKind.i64.wrap ((κ l:Int)*16)=(T:Int):=by rw[hT];exact aaC _ h4
 generalize j1 (.int .u8 0) T=zr at *;have HT:=an hT;clear hT;have HV:=an hv;obtain⟨a,cap,rfl⟩:=hv.slice;go_in;go_wp2_with fail;refine(R _ (Up.refl _)).mono ?_;rintro e w1⟨rfl,up1⟩;go_wp2;obtain⟨aA,aQ⟩:=az (RM w1 w.heap.size up1.size) (up1.trans (ai w1 (.cells zr 5)));go_loopw [4,23] (λu i wr=>∃k:Nat,k<=κ l/\i=i6 k/\Own aH 5 wr w.heap.size u (cV (l.take k))/\Up w wr) (λ_ i _=>κ l-(Aaq i).toNat)
 case atStart=>exact⟨0,bG _,rfl,aA,aQ⟩
 case round=>
  obtain⟨k,hk,rfl,hown,upr⟩:=hrel;clear MK wt;have HO:=an hown;by_cases hlt:k<κ l
  ·obtain⟨b,off,rfl,_,_,hc⟩:=rM (aG.up HV upr) ae;obtain⟨aM,aL,al⟩:=cX ((hc k hlt).1) ((hc k hlt).2.1) ((hc k hlt).2.2);refine ir ?_;intro b2;have ag:=cm hlt;obtain⟨B,SN,LE⟩:=aW (λW=>nV W l[k] (HW _ ag)) (xj l k hlt) (show(cV (l.take k)).length<=64000 by rw[d',ey];omega);clear hc;generalize l[k]=p at *;obtain⟨pl,pb,ps⟩:=p;unfold fQ at B;simp only at aM aL al B;have upa:=ai wr (.cells #[i6 pl,.int .u64 (pb:Int),.int .u32 (ps:Int)] 87);go_wp2_with fail;refine(B _).mono ?_;rintro e w3 h3;obtain⟨u3,rfl,aj,ax⟩:∃u3,e=rt #[u3,i6 0]/\Own aH 5 w3 (wr.alloc (.cells #[i6 pl,.int .u64 (pb:Int),.int .u32 (ps:Int)] 87)).heap.size u3 (bM ⟨pl,pb,ps⟩)/\Up (wr.alloc (.cells #[i6 pl,.int .u64 (pb:Int),.int .u32 (ps:Int)] 87)) w3:=by
    rcases h3 with⟨_,u,rfl,h,h'⟩|⟨h,_⟩
    ·exact⟨u,rfl,h,h'⟩
    ·rw[((BN hR) _ ag)]at h;cases h
   have ab:=upa.trans ax;obtain⟨o3,s3,ad⟩:=cX (HO.up ab) ((upr.trans ab).size) (jO ⟨pl,pb,ps⟩);have PL:=an ad;have bd:=aj.cv;clear ad;generalize bM ⟨pl,pb,ps⟩=ak at *;generalize cV (l.take k)=acc at *;go_wp2_with(at_builtin;refine bf aH cg rfl (.tmp 34) (.tmp 35) 30 rfl w.heap.size 5 (.int .u8 0) 1 Aau ew rfl _ acc rfl o3 u3 ak rfl bd cr cr s3 ?_);intro v' w5 aa _ ar;go_wp2;go_roundw
   case rel=>exact⟨k+1,ae,fP,by rw[SN.out];exact aa,(upr.trans ab).aF ar (aE _)⟩
   case measure=>simp[Aaq];omega
  ·obtain rfl:k=κ l:=by omega
   go_wp2;go_ret2;exact .inr ⟨cV l,_,HN,rfl,by have:=HO.out;rw[(fj (l:=l))]at this;exact this,upr⟩

structure W4 where
 a:Option Addr
 n:Nat
 c:Nat
def gv(s:W4):ah:=.slice s.a s.n s.c
def BZ(s:W4):(gv s).oneCell'=true:=rfl
def En(w:af)(v:ah)(ts:List (List aj)):Prop:=∃vs:List W4,κ vs=κ ts/\aC gv w v vs/\∀i(h1:i<κ vs)(h2:i<κ ts),aY w (gv vs[i]) ts[i]
def uo(t:List aj):List aj:=aZ (κ t) 2++t
def de(ts:List (List aj)):List aj:=ts.flatMap uo
def eB(ts:List (List aj)):List aj:=aZ (κ ts) 2++de ts
def kZ(ts:List (List aj)):Prop:=∀t∈ts,κ t<=65535
def tg(ts:List (List aj)):Prop:=κ ts<=65535/\kZ ts
instance(ts:List (List aj)):Decidable (kZ ts):=by unfold kZ;infer_instance
instance(ts:List (List aj)):Decidable (tg ts):=by unfold tg;infer_instance
theorem l4(ts:List (List aj))(k:Nat)(h:k<κ ts):de (ts.take (k+1))=de (ts.take k)++(aZ ts[k].length 2++ts[k]):=by grind [hg,de,uo]
theorem l3{ts:List (List aj)}(h:kZ ts):κ (de ts)<=65537*κ ts:=by
 induction ts with
 | nil=>decide
 | cons t ts ih=>have:=ih (λx hx=>h x (bn _ hx));have:=h t (cS ..);grind [de,uo,bC]
theorem tu{ts:List (List aj)}(h:k<κ ts)(h1:kZ (ts.take k))(h2:ts[k].length<=65535):kZ (ts.take (k+1)):=by
 intro x hx;rw[hg ts k h]at hx;rcases Aa3.1 hx with hx|hx
 ·exact h1 x hx
 ·simp_all
def Eb(n:Nat):aZ n 2=[Ab6 (n%256),Ab6 (n/256%256)]:=rfl
theorem Pb(n:Nat):IntKind.u8.wrap (n:Int)=((Ab6 (n%256)).toNat:Int):=by rw[Hh,E9];omega
theorem Pa(n:Nat):IntKind.u8.wrap ((n:Int)/256)=((Ab6 (n/256%256)).toNat:Int):=by rw[Hh,E9];omega
theorem AO(w:af)(v:ah)(ts:List (List aj))(hv:En w v ts)(ak:tg ts):Aaf Aag 242 #[v] w λe w'=>∃v,e=.returned (.tuple #[v,.int .i64 0])/\Own aH 5 w' w.heap.size v (eB ts)/\Up w w':=by
 obtain⟨vs,aL,aD,aI⟩:=hv;have aR:=aD.length_le;obtain⟨a,cap,rfl⟩:=aD.slice;obtain⟨len,hl⟩:=bE (κ vs);rw[<-hl]at aD aR ⊢;have bh:len=κ ts:=hl.trans aL;obtain⟨Hl,Hl2⟩:=aw hl bh;clear hl aL;have aT:¬65535<len:=by have:=ak.1;omega
 have aO:=an ak;clear ak;clear bh;go_in;go_wp2;go_loop [4,15] (λs i=>∃k:Nat,k<=len/\i=i6 k/\kZ (ts.take k)/\s=i6 ((2+κ (de (ts.take k)):Nat):Int)) (λ_ i=>len-(Aaq i).toNat)
 case atStart=>exact⟨0,bG _,rfl,by intro x hx;simp at hx,rfl⟩
 case round=>
  obtain⟨k,hk,rfl,aW,rfl⟩:=hrel;have aM:=l3 aW;have aK:κ (ts.take k)<=k:=yF _ _;have a1:=an aW;by_cases hlt:k<len
  ·have k1:k<κ vs:=by have:=Hl.out;omega
   have k2:k<κ ts:=FZ
   obtain⟨b,off,rfl,_,hc⟩:=cf aD Hl ae;obtain⟨aQ,d1⟩:=az (aI k k1 k2) (hc k k1);obtain⟨a3,c3,aN⟩:=aQ.slice;rw[aN]at d1;obtain⟨bb,ab⟩:=az aQ.length_le (l4 ts k k2);have ag:ts[k]∈ts:=cm k2;have av:=λh=>tu k2 a1 h;clear hc aN;generalize ts[k]=t at *;obtain⟨aJ,aA⟩:=aw ag av;have au:κ (de (ts.take (k+1)))=κ (de (ts.take k))+(2+κ t):=by rw[ab];simp[bC]
   have aS:=an au;clear ag av ab au;generalize(de (ts.take k)).length=jl at *;have ht:¬65535<κ t:=by have:=aO.2 t aJ;omega
   go_wp2;go_round
   case rel=>exact⟨k+1,ae,fP,aA ae,by rw[aS.out];congr 1;omega⟩
   case measure=>simp[Aaq];omega
  ·obtain rfl:k=len:=by omega
   have e1:ts.take k=ts:=dk FZ;have aW:=a1.out;rw[e1]at aW aM ⊢;clear e1;rw[<-Hl2.out]at aM;clear aK;have ba:2+κ (de ts)<=5000000000:=ae
   generalize hJ:2+κ (de ts)=J at *;have HJ:=an hJ;obtain⟨mk,w1,w2,a6⟩:=iQ (kE (P:=Aag) 30 5 (.int .u8 0) 1 Aau ew J ae ae) (Pb k) (Pa k) (Eb k);clear hJ aM;generalize Ab6 (k%256)=ca at *;generalize Ab6 (k/256%256)=cb at *;have a8:=an a6;clear a6;go_wp2_with(at_builtin;refine bf aH cg rfl (.tmp 30) (.tmp 38) 30 rfl w.heap.size 5 (.int .u8 0) 1 Aau ew rfl _ [] rfl ((Own.room aH 5 w (.int .u8 0) w.heap.size J (aE _) ae).up (ai _ _)) (cC (w.heap.size+1) 2 2) [ca,cb] rfl (aC.er (w.alloc _) (w.heap.size+1) aq #[.int .u8 (ca.toNat:Int),.int .u8 (cb.toNat:Int)] 5 (0,0) [ca,cb] 2 rfl dy rfl) aq aq ((((Up.refl w).alloc _).alloc _).size) ?_);intro v' w3 ay _ aB;have ax:Up w w3:=(((Up.refl w).alloc _).alloc _).aF aB (aE _);go_wp2;have hh:[ca,cb]=aZ k 2++de (ts.take 0):=by rw[a8.out];simp[de]
   have Hh:=an hh;clear hh;go_loopw [7,42] (λx i wr=>∃j:Nat,j<=k/\i=i6 j/\Own aH 5 wr w.heap.size x (aZ k 2++de (ts.take j))/\Up w wr) (λ_ i _=>k-(Aaq i).toNat)
   case atStart=>exact⟨0,bG _,rfl,by rw[<-Hh.out];exact ay,ax⟩
   case round=>
    obtain⟨j,hj,rfl,hown,upr⟩:=hrel;by_cases hlt:j<k
    ·have k1:j<κ vs:=by have:=Hl.out;omega
     have k2:j<κ ts:=FZ
     obtain⟨b,off,rfl,_,hc⟩:=cf aD Hl ae;obtain⟨aQ,d1⟩:=az (aI j k1 k2) (upr.cell (hc j k1));obtain⟨a3,c3,aN⟩:=aQ.slice;rw[aN]at d1 aQ;obtain⟨ab,aK,aM⟩:=cX (l4 ts j k2) (aO.2 _ (cm k2)) (l3 (ts:=ts.take j) (λx hx=>aO.2 x (sN hx)));have aU:κ (ts.take j)<=j:=yF _ _;have hlen:κ (aZ k 2++de (ts.take j))<=5000000000:=by rw[Aae,bC];omega
     clear hc aN aU aM;generalize ts[j]=t at *;have al:aZ k 2++de (ts.take (j+1))=((aZ k 2++de (ts.take j))++aZ (κ t) 2)++t:=by rw[ab];simp
     generalize aZ k 2++de (ts.take j)=pb at *;obtain⟨x1,x2,aX⟩:=cX (Pb (κ t)) (Pa (κ t)) (Eb (κ t));generalize Ab6 (κ t%256)=cc at *;generalize Ab6 (κ t/256%256)=cd at *;rw[aX]at al;have aP:=an al;have a':=aQ.up upr;clear ab al aX;go_wp2_with(at_builtin;refine bf aH cg rfl (.tmp 46) (.tmp 54) 30 rfl w.heap.size 5 (.int .u8 0) 1 Aau ew rfl _ _ rfl (hown.up (ai wr _)) (cC wr.heap.size 2 2) [cc,cd] rfl (aC.lit wr #[.int .u8 (cc.toNat:Int),.int .u8 (cd.toNat:Int)] 5 (0,0) [cc,cd] 2 rfl dy rfl) ao ao ((upr.alloc _).size) ?_);intro v4 w4 ad _ aG;have up4:=(upr.alloc _).aF aG (aE _);have aY:=aQ.up up4;have a7:κ (pb++[cc,cd])<=5000000002:=ao
     generalize aV:pb++[cc,cd]=pc at *;clear aV;go_wp2_with(at_builtin;refine bf aH cg rfl (.tmp 56) (.tmp 57) 30 rfl w.heap.size 5 (.int .u8 0) 1 Aau ew rfl _ _ rfl ad (.slice a3 (κ t) c3) t rfl aY ae ae up4.size ?_);intro v5 w5 aa _ ar;go_wp2;go_roundw
     case rel=>exact⟨j+1,ae,fP,by rw[aP.out];exact aa,up4.aF ar (aE _)⟩
     case measure=>simp[Aaq];omega
    ·obtain rfl:j=k:=by omega
     have e1:ts.take j=ts:=dk FZ;rw[e1]at hown;have bd:aZ j 2++de ts=eB ts:=by unfold eB;rw[<-Hl2.out]
     rw[bd]at hown;clear e1 bd;go_wp2;exact zq
def qM:Nat->List aj->Option (List (List aj))
 | 0,b=>if b=[] then some [] else none
 | k+1,b=>if (κ b)<2 then none else if (κ b)-2<bo (b.take 2)then none else
  (qM k ((b.drop 2).drop (bo (b.take 2)))).map (((b.drop 2).take (bo (b.take 2)))::·)
def my(b:List aj):Option (List (List aj)):=if (κ b)<2 then none else qM (bo (b.take 2)) (b.drop 2)
theorem KG(a b:Nat)(ha:a<9223372036854775808)(hb:b<9223372036854775808):bits .or .i64 (a:Int) (b:Int)=((a ||| b:Nat):Int):=by
 have hx:a ||| b<2 ^ 63:=Nat.or_lt_two_pow ae ae
 show IntKind.i64.wrap ((BitVec.ofInt 64 (a:Int) ||| BitVec.ofInt 64 (b:Int)).toNat:Int)=_;rw[BitVec.toNat_or,ofInt_u64 a ae,ofInt_u64 b ae];exact IntWalk.i64_in _ ae
theorem Lp(b:List aj)(h:2<=κ b):bo (b.take 2)=b[0].toNat+256*b[1].toNat:=by rw[hg b 1 ae,hg b 0 ae];rfl
theorem sa(b:List aj):bo (b.take 2)<65536:=by have h:=n4 (b.take 2);have:(256:Nat) ^ (κ (b.take 2))<=256 ^ 2:=E8 ae ao;omega
theorem AT(w:af)(v:ah)(b:List aj)(hv:aY w v b)(h2:2<=κ b):Aaf Aag 238 #[v] w λe w'=>∃a c,e=.returned (.tuple #[.int .i64 (bo (b.take 2):Nat),.slice a (κ b-2) c,.bool true])/\(∀w0,aY w0 v b->aY w0 (.slice a (κ b-2) c) (b.drop 2))/\∃n,w'=w.drewN n:=by
 have hl:=hv.length_le;obtain⟨a,c,rfl⟩:=hv.slice;obtain⟨bb,off,rfl,_,hc⟩:=cf hv rfl ae;have d0:=hc 0 ae;have d1:=hc 1 ae;unfold aH at d0 d1;have aB:=Lp b ae;have x0:b[0].toNat<256:=b[0].toNat_lt;have x1:b[1].toNat<256:=b[1].toNat_lt;have aS:b[0].toNat ||| b[1].toNat*256=b[0].toNat+256*b[1].toNat:=IL b[0].toNat b[1].toNat 1 ae
 have aV:∀w0,aY w0 (sq bb off (κ b) c) b->aY w0 (bW (some ⟨bb,off,none⟩) 2 (κ b) c) (b.drop 2):=λw0 h0=>by have h:=h0.piece (lo:=2) (hi:=κ b) ae (aE _);grind
 have aa:=an aV;clear aV;have aJ:=df (P:=Aag) 30 dA dB (some ⟨bb,off,none⟩) (κ b) c 2 ae;have ag:∃a' c',bW (some ⟨bb,off,none⟩) 2 (κ b) c=.slice a' (κ b-2) c':=⟨_,_,rfl⟩;obtain⟨a',c',ag⟩:=ag;have ab:∀W,(Aav 30 (sq bb off (κ b) c) (some (i6 2)) none none).run Aag W=.ok (.slice a' (κ b-2) c') W:=aP
 rw[ag]at aa;clear hc aJ ag;simp only[Nat.add_zero]at d0;generalize b[0].toNat=y0 at *;generalize b[1].toNat=y1 at *;have e1:bits .or .i64 (y0:Int) ((y1:Int)*256)=((bo (b.take 2):Nat):Int):=by have:=KG y0 (y1*256) ae ae;grind
 generalize hN:bo (b.take 2)=N at *;have HN:=an hN;have i0:(0:Int)<(κ b:Int):=ae
 have i1:(1:Int)<(κ b:Int):=ae
 clear hN aS aB;go_in;go_wp2;go_quiet (fail);go_wp2;go_ret3;exact⟨a',c',rfl,aa,nq,rfl⟩
theorem sJ:(prog.info? 30).map (λi=>(i.zero,i.size,i.bytes))=some (some (nl),1,24):=al
def eM(w:af)(base:Nat)(v:ah)(ts:List (List aj)):Prop:=∃vs:List W4,κ vs=κ ts/\Own gv 30 w base v vs/\∀i(h1:i<κ vs)(h2:i<κ ts),Own aH 5 w base (gv vs[i]) ts[i]
theorem eM.texts{v:ah}{ts:List (List aj)}(h:eM w base v ts):En w v ts:=by obtain⟨vs,h1,h2,h3⟩:=h;exact⟨vs,h1,h2.cv,λi a b=>(h3 i a b).cv⟩
theorem eM.up{w w':af}{v:ah}{ts:List (List aj)}(h:eM w base v ts)(hu:Up w w'):eM w' base v ts:=by obtain⟨vs,h1,h2,h3⟩:=h;exact⟨vs,h1,h2.up hu,λi a b=>(h3 i a b).up hu⟩
theorem eM.nil(w:af)(base:Nat):eM w base (nl) []:=⟨[],rfl,Own.nil _ _ _ _,λi h=>absurd h (E7 i)⟩
theorem eM.snoc{w w':af}{v v':ah}{x:W4}{ts:List (List aj)}{vs:List W4}{t:List aj}(h1:κ vs=κ ts)(h2:Own gv 30 w base v vs)(h3:∀i(a:i<κ vs)(b:i<κ ts),Own aH 5 w base (gv vs[i]) ts[i])(hx:Own aH 5 w base (gv x) t)(hv:Own gv 30 w' base v' (vs++[x]))(hg:w.grownBy w' v.ownBlock):eM w' base v' (ts++[t]):=by
 refine⟨vs++[x],ao,hv,λi a b=>?_⟩;by_cases hi:i<κ vs
 ·rw[wx hi,wx ae];exact(h3 i hi ae).AR h2 av hg
 ·have e1:i=κ vs:=by grind
  subst e1;rw[E' ae,E' ae];simp only[Nat.sub_self,h1,Aby];exact hx.AR h2 av hg
def Rest(b:List aj)(m:Nat)(r:List aj)(acc:List (List aj)):Prop:=my b=(qM m r).map (acc++·)
theorem Rest.short(h:Rest b (m+1) r acc)(hr:κ r<2):my b=none:=y6
theorem Rest.abS(h:Rest b (m+1) r acc)(h2:2<=κ r)(hr:κ r-2<bo (r.take 2)):my b=none:=y6
theorem Rest.next(h:Rest b (m+1) r acc)(h2:2<=κ r)(hr:¬κ r-2<bo (r.take 2)):Rest b m ((r.drop 2).drop (bo (r.take 2))) (acc++[(r.drop 2).take (bo (r.take 2))]):=by unfold Rest at *;rw[h,qM,aO ae,aO hr,Option.map_map];congr 1;grind
theorem Rest.done(h:Rest b 0 r acc)(hr:r=[]):my b=some acc:=y6
theorem Rest.more(h:Rest b 0 r acc)(hr:r≠[]):my b=none:=y6
theorem Rest.start(h:2<=κ b):Rest b (bo (b.take 2)) (b.drop 2) []:=by unfold Rest my;simp;omega
theorem Av(w:af)(v:ah)(b:List aj)(hv:aY w v b)(ts:List (List aj))(hs:my b=some ts):Aaf Aag 178 #[v] w λe w'=>∃v,e=.returned (.tuple #[v,.int .i64 0])/\eM w' w.heap.size v ts/\Up w w':=by
 have NO:my b≠none:=by rw[hs];exact nofun
 have HS:=an hs;have h2:2<=κ b:=by
  rcases jE (κ b) 2 with h|h
  ·exact absurd (by unfold my;rw[bp h]) NO
  ·exact h
 replace NO:=an NO;clear hs;have HL:=an (AT w v b hv h2);obtain⟨a,c,rfl⟩:=hv.slice;go_in;go_wp2_with fail;refine HL.mono ?_;rintro e w1⟨a1,c1,rfl,bF,nq,rfl⟩;obtain⟨bF,al,aT⟩:=cX (bF w hv) (Rest.start h2) (sa b);have aM:κ (b.drop 2)=κ b-2:=aq
 rw[<-aM]at bF ⊢;generalize b.drop 2=r0 at *;generalize bo (b.take 2)=many at *;clear aM;go_wp2;go_loopw [0,6,20] (λy x i wr=>∃(j:Nat)(r:List aj)(acc:List (List aj)),j<=many/\(κ acc)=j/\i=i6 j/\Rest b (many-j) r acc/\(∃a' c',y=.slice a' (κ r) c'/\aY w (.slice a' (κ r) c') r)/\eM wr w.heap.size x acc/\Up w wr) (λ_ _ i _=>many-(Aaq i).toNat)
 case atStart=>exact⟨0,r0,[],bG _,rfl,rfl,al,⟨a1,c1,rfl,bF⟩,eM.nil _ _,(Up.refl w).drewN nq⟩
 case round=>
  obtain⟨j,r,acc,hj,hacc,rfl,hrest,⟨a',c',rfl,hr⟩,hown,upr⟩:=hrel;obtain⟨wo,rfl⟩:∃wo:af,wo=wr:=⟨_,rfl⟩;have aa:=an hrest;have aK:=hr.length_le;by_cases hlt:j<many
  ·obtain⟨m,hm⟩:∃m,many-j=m+1:=⟨many-j-1,ae⟩;rw[hm]at aa;have aQ:many-(j+1)=m:=by omega
   obtain⟨aZ,ax⟩:=aw aQ hacc;clear hm aQ hacc;have aR:2<=κ r:=by
    rcases jE (κ r) 2 with h|h
    ·exact absurd (aa.short h) NO
    ·exact h
   have HL:=an (AT wo _ r (hr.up upr) aR);go_wp2_with fail;refine HL.mono ?_;rintro e w1⟨a2,c2,rfl,aU,aX,rfl⟩;obtain⟨aU,aN⟩:=az (aU w hr) (sa r);have up1:Up w (wo.drewN aX):=upr.drewN _;have ag:¬κ r-2<bo (r.take 2):=λh=>NO (aa.abS aR h);have av:=aa.next ae ag
   have aM:κ (r.drop 2)=κ r-2:=aq
   rw[<-aM]at aU ag ⊢;have aS:κ (r.drop 2)<=9223372036854775807:=ae
   generalize bo (r.take 2)=sz at *;generalize r.drop 2=q at *;have aA:=an av;clear aM;have mk:=DX (P:=Aag) 30 5 (.int .u8 0) 1 Aau ew sz ae ae;have aJ:=df (P:=Aag) 30 dA dB a2 (κ q) c2 sz ae;have aV:=aU.piece (lo:=sz) (hi:=κ q) ae (aE _);rw[fj]at aV;generalize ay:wo.drewN aX=w1 at *;have aO:Up wo w1:=by rw[<-ay];exact(Up.refl wo).drewN _
   clear ay;have a7:aY (w1.alloc (.cells (j1 (.int .u8 0) sz) 5)) (.slice a2 (κ q) c2) q:=aU.up (up1.alloc _);have aW:(w1.alloc (.cells (j1 (.int .u8 0) sz) 5)).heap[w1.heap.size]?=some (.cells (j1 (.int .u8 0) sz) 5):=heap_alloc_new w1 _;go_wp2_with(refine w6 (o:=⟨some 40,_,_,_,_,_⟩) aH cg rfl (.tmp 38) (.tmp 39) 30 rfl 5 (.int .u8 0) 1 Aau ew w1.heap.size sz w.heap.size aW up1.size ae (.slice a2 (κ q) c2) q rfl rfl a7 ae ?_);intro w2 aP ak;have ab:=(ai w1 _).aF ak (aE _);have au:=hown.up (aO.trans ab);obtain⟨vs,aL,hvo,ar⟩:=au;have a8:κ vs<=65535:=by have:=ax.out;omega
   clear aW mk;have aI:κ q-sz=κ (q.drop sz):=aq
   have aB:=an aI;clear aI;have aD:Own aH 5 w2 w.heap.size (gv ⟨some ⟨w1.heap.size,0,none⟩,sz,sz⟩) (q.take sz):=aP;go_wp2_with(at_builtin;refine bf gv BZ rfl (.tmp 41) (.tmp 43) 40 rfl w.heap.size 30 (nl) 24 underlying40 sJ rfl _ _ rfl (hvo.up (ai w2 _)) (cC w2.heap.size 1 1) [⟨some ⟨w1.heap.size,0,none⟩,sz,sz⟩] rfl (aC.lit w2 #[cC w1.heap.size sz sz] 30 (0,0) [_] 1 rfl dy rfl) ao ao (((up1.trans ab).alloc _).size) ?_);intro v' w4 ad hg4 aG;have up4:Up w w4:=((up1.trans ab).alloc _).aF aG (aE _);have a6:=eM.snoc aL (hvo.up (ai w2 _)) (λi a b=>(ar i a b).up (ai w2 _)) (aD.up (ai w2 _)) ad hg4;clear ar;go_wp2;go_roundw
   case rel=>refine⟨j+1,q.drop sz,acc++[q.take sz],ae,by rw[Aae,ax.out];rfl,fP,by rw[aZ.out];exact aA,⟨_,_,by rw[<-aB.out];rfl,?_⟩,a6,up4⟩;rw[<-aB.out];exact aV
   case measure=>simp[Aaq];omega
  ·obtain rfl:j=many:=by omega
   rw[Nat.sub_self]at aa;obtain rfl:r=[]:=yK λh=>NO (aa.more h);obtain rfl:=dC ((aa.done rfl).symm.trans HS);clear hacc;go_wp2;exact zq




def js:List Int:=[8,1,8,8,8,1]
def ib(b:Bool):Nat:=if b=true then 1 else 0
def D0(x:ab):List Nat:=[x.id,ib x.aT,x.owner,x.prev,x.ay,x.blocks.toNat]
def lJ(x:ab):List aj:=aX js (D0 x)++bM x.root
def fg(x:ab):List aj:=eB [lJ x,x.name,cV x.dead]
def LN(x:ab):Option (List aj):=if cz x=true then some (fg x)else none
def Es(o:Option (List aj))(w:af)(e:Ab3)(w':af):Prop:=(o=none/\e=.returned (.tuple #[.slice none 0 0,.int .i64 151])/\Up w w')\/∃m u,o=some m/\e=.returned (.tuple #[u,.int .i64 0])/\Own aH 5 w' w.heap.size u m/\Up w w'
theorem xQ{x:ab}(h:cz x=true):x.ay<=281474976710655:=by grind [bm]
theorem DK{x:ab}(h:cz x=true):nr js (D0 x):=by
 obtain⟨⟨_,h1⟩,⟨_,h2⟩,h3,⟨_,h4⟩,_⟩:=(bm x).1 h;have hn:ib x.aT<=1:=by grind [ib]
 refine⟨rfl,av,?_⟩;grind [js,D0,fits]
theorem h9(x:ab):κ (lJ x)=50:=aA
theorem oV{l:List aj}(h:ef l=true):κ l<=24:=by grind [ef]
theorem Bt{x:ab}(h:cz x=true):tg [lJ x,x.name,cV x.dead]:=by obtain⟨_,_,_,_,h5,_,h7,_⟩:=(bm x).1 h;refine⟨aq,λt ht=>?_⟩;grind [h9,oV,d']
theorem aC.grown{f:α->ah}{w w':af}{v:ah}{l:List α}{row:Option Nat}(h:aC f w v l)(hg:w.grownBy w' row)(hne:∀b,v.ownBlock=some b->row≠some b):aC f w' v l:=by
 rcases h with h|⟨b,off,cap,h1,h2,h3,h4,h5⟩
 ·exact .inl h
 ·refine .inr ⟨b,off,cap,h1,h2,h3,h4,λi hi=>?_⟩;rw[nJ (hg.block b (h8 w _ (h5 i hi)) (λe=>hne b uI e.symm))];simp_all
section
variable {P:bu}
theorem tG{ops:Array Abi}{Q:Exit->Act->af->Prop}{i:Nat}{o:Abi}{K:Act->af->Prop}{a:Act}{w:af}(hi:ops[i]?=some o)(hw:Aaa o (Aaz ops a.tmps)=true)(h:o.wp P a w K Q):wpOp P ops Q i K a w:=FJ
theorem pk{ops:Array Abi}{Q:Exit->Act->af->Prop}{md:Ab1}{fuel:Nat}{aZ:Array Bool}{a:Act}{w:af}(i:Nat)(o:Abi)(hr:Abf md ops aZ=[i])(hi:ops[i]?=some o)(hw:Aaa o (Aaz ops a.tmps)=true)(h:o.wp P a w (wpAny P md ops Q fuel (aZ.setIfInBounds i true)) Q):wpAny P md ops Q (fuel+1) aZ a w:=A2 hr aq (λj hj=>by simp at hj;subst hj;exact tG hi hw h)
theorem Cs{ops:Array Abi}{Q:Exit->Act->af->Prop}{md:Ab1}{fuel:Nat}{aZ:Array Bool}{a:Act}{w:af}(i j:Nat)(o o':Abi)(hr:Abf md ops aZ=[i,j])(hi:ops[i]?=some o)(hj:ops[j]?=some o')(hw:Aaa o (Aaz ops a.tmps)=true)(av:Aaa o' (Aaz ops a.tmps)=true)(h:o.wp P a w (wpAny P md ops Q fuel (aZ.setIfInBounds i true)) Q)(h':o'.wp P a w (wpAny P md ops Q fuel (aZ.setIfInBounds j true)) Q):wpAny P md ops Q (fuel+1) aZ a w:=A2 hr aq (λk hk=>by
  simp at hk;rcases hk with rfl|rfl
  ·exact tG hi hw h
  ·exact tG hj av h')
def ph{ops:Array Abi}{Q:Exit->Act->af->Prop}{md:Ab1}{fuel:Nat}{aZ:Array Bool}{a:Act}{w:af}(i:Nat)(o:Abi)(hr:Abf md ops aZ=[i])(hi:ops[i]?=some o)(hw:Aaa o (Aaz ops a.tmps)=true)(h:∀K:Act->af->Prop,(∀a w,wpAny P md ops Q fuel (aZ.setIfInBounds i true) a w->K a w)->o.wp P a w K Q):wpAny P md ops Q (fuel+1) aZ a w:=pk i o hr hi hw (h _ (λ_ _ h=>h))
theorem sm{o:Abi}{a:Act}{w:af}{K:Act->af->Prop}{Q:Exit->Act->af->Prop}(ty:Aab)(x:bR)(ho:o.op=.load ty x)(ad:Addr)(hx:a.eval x=.pointer (some ad))(v:ah)(hc:w.cell? ad=some v)(hagg:(isAgg ty).run P w=.ok false w)(h:K (a.put o.dst v) w):o.wp P a w K Q:=by exact Nd
end
theorem vR(x:bR)(ho:o.op=.convert 9 30 x)(l:List aj)(hx:a.eval x=.string (strOf l))(h0:0<κ l)(hl:κ l<=1000000)(h:∀v' w',aY w' v' l->Up w w'->(∀b,v'.ownBlock=some b->w.heap.size<=b)->K (a.put o.dst v') w'):o.wp Aag a w K Q:=by
 obtain⟨hr,aX⟩:=az (run_bytes_of_string (P:=Aag) w 9 30 5 (strOf l) underlying9 Aau underlying5) (grownCap_ge w (strOf l).size 0 5);have hle:=grownCap_le_maxLen w (strOf l).size 0 5 (by rw[tA];unfold maxLen;omega);unfold Ace;simp[Abt,ho,hx,hr,Aar];generalize grownCap w (strOf l).size 0 5=cap at *;rw[tA]at *;refine h _ _ (.inr ⟨w.heap.size,0,cap,rfl,h0,aX,hle,λi hi=>?_⟩) (((Up.refl w).drew).trans (ai _ _)) (λb hb=>?_)
 ·have:=World.cell?_alloc_mark w.drew (bytesRow (strOf l) cap) 5 ((bytesRow (strOf l) cap).size,(bytesRow (strOf l) cap).size+1) i;rw[Abn];refine this.trans ?_;unfold bytesRow;rw[Array.getElem?_append_left (by simp[strOf];exact hi),Array.getElem?_map];show Option.map _ (l.toArray[i]?)=_;rw[Fa,iI hi];rfl
 ·obtain rfl:w.heap.size=b:=by simpa[Aan]using hb
  omega
theorem xZ(w:af)(a1 a2 a3:Option Addr)(n1 n2 n3 c1 c2 c3:Nat)(x y z:List aj)(h1:aY w (.slice a1 n1 c1) x)(h2:aY w (.slice a2 n2 c2) y)(h3:aY w (.slice a3 n3 c3) z):En (w.alloc (.cells #[.slice a1 n1 c1,.slice a2 n2 c2,.slice a3 n3 c3] 30)) (cC w.heap.size 3 3) [x,y,z]:=by
 refine⟨[⟨a1,n1,c1⟩,⟨a2,n2,c2⟩,⟨a3,n3,c3⟩],rfl,aC.lit w _ 30 (0,0) _ 3 rfl av rfl,λi hi _=>?_⟩;have U:=ai w (.cells #[.slice a1 n1 c1,.slice a2 n2 c2,.slice a3 n3 c3] 30);match i,hi with
 | 0,_=>exact h1.up U
 | 1,_=>exact h2.up U
 | 2,_=>exact h3.up U
 | (k+3),hi=>grind
theorem LO(w:af)(x:ab)(aK:x.wf)(vd:ah)(hd:c9 w vd x.dead):Aaf Aag 241 #[.agg (b7 x vd)] w λe w'=>Es (LN x) w e w':=by
 obtain⟨da,dc,rfl⟩:=hd.slice;obtain⟨B1,U1,HR,PB,LB⟩:=eQ (aI.new w 90 (b7 x (.slice da (κ x.dead) dc))) (ai w (.cells (b7 x (.slice da (κ x.dead) dc)) 90)) (λW U=>B7 W x (.slice da (κ x.dead) dc) (aG.up hd U)) (λW=>nV W x.root aK.2.2.2.2.2.1) (λW U=>KO W (.slice da (κ x.dead) dc) x.dead (aG.up hd U) aK.2.2.2.2.2.2);cases ad:cz x
 ·have HF:=an (show LN x=none by unfold LN;rw[ad];rfl);rw[ad]at HR;clear ad;go_in;go_wp2_with(refine arm ?_);refine(HR _ U1).mono ?_;rintro e w2⟨rfl,U2⟩;go_wp2;go_ret2;exact .inl ⟨HF,rfl,U1.trans U2⟩
 have HT:=an (show LN x=some (fg x)by unfold LN;rw[ad];rfl);rw[ad]at HR;obtain⟨aU,OKJ,HL⟩:=aW (DK ad) (Bt ad) (h9 x);obtain⟨⟨_,g1⟩,⟨_,g2⟩,g3,⟨g4,g5⟩,hnm,hgr,aM,aL,_⟩:=(bm x).1 ad;have g6:=xQ ad;obtain⟨aY,ax,NM1,NM2,bb⟩:=eQ (show cw x.root≠false by rw[hgr];simp) (show wa x.dead=some (cV x.dead)by unfold wa;rw[bp ⟨aM,aL⟩]) (show 0<κ x.name by have:=(jm _).1 hnm;omega) (show κ x.name<=1000000 by have:=(jm _).1 hnm;omega) (show(cV x.dead).length<=64000 by rw[d'];omega);clear ad hnm hgr aL;obtain⟨HE,RB,PO,PL,RL⟩:=eQ (show lJ x=aX js [x.id,ib x.aT,x.owner,x.prev,x.ay,x.blocks.toNat]++bM x.root from rfl) (show fg x=eB [lJ x,x.name,cV x.dead] from rfl) (show nr js [x.id,ib x.aT,x.owner,x.prev,x.ay,x.blocks.toNat] from aU) (show(aX js [x.id,ib x.aT,x.owner,x.prev,x.ay,x.blocks.toNat]).length=34 by simp[js,aX,bC]) (show(bM x.root).length=16 by unfold bM;simp[j3,BH,aX,bC]);generalize aj:fg x=out at *;generalize a8:lJ x=hdr at *;clear aj a8;obtain⟨id,name,aT,owner,prev,ay,blocks,root,dead⟩:=x;dsimp only at *;obtain⟨nb,rfl⟩:∃n:Nat,blocks=n:=⟨blocks.toNat,ae⟩;simp only[Abr]at *;obtain⟨c0,c1,c2,c3,c4,c5,c6,R7,zR⟩:=B1.setAt.GV;go_in;go_wp2_with(refine arm ?_);refine(HR _ U1).mono ?_;rintro e w2⟨rfl,U2⟩;obtain⟨B2,U3⟩:=aw (B1.up U2) (U1.trans U2);have a1:=an U3.size;clear c0 c1 c2 c3 c4 c5 c6 zR;obtain⟨c0,c1,c2,c3,c4,c5,c6,R7,zR⟩:=B2.setAt.GV;clear HR;obtain⟨UA,sza⟩:=az (ai w2 (.cells #[i6 8,i6 1,i6 8,i6 8,i6 8,i6 1] 3)) (mB w2 (.cells #[i6 8,i6 1,i6 8,i6 8,i6 8,i6 1] 3));obtain⟨e0,e3,e4,e5,e6⟩:=Cd (UA.cell c0) (UA.cell c3) (UA.cell c4) (UA.cell c5) (UA.cell c6);have wn:=dP nb ae;have aq:∀m:Nat,m=ib aT->Hid (Aaf Aag 240 #[cC w2.heap.size 6 6,cC (w2.heap.size+1) 6 6] ((w2.alloc (.cells #[i6 8,i6 1,i6 8,i6 8,i6 8,i6 1] 3)).alloc (.cells #[u6 (id:Int),u6 (m:Int),u6 (owner:Int),u6 (prev:Int),u6 (ay:Int),u6 (nb:Int)] 70)) λe w'=>∃v,e=rt #[v,i6 0]/\Own aH 5 w' (w2.heap.size+2) v (aX js [id,ib aT,owner,prev,ay,nb])/\Up w2 w'/\w2.heap.size+2<=w'.heap.size):=λm hm=>by
  subst hm;have UB:=ai (w2.alloc (.cells #[i6 8,i6 1,i6 8,i6 8,i6 8,i6 1] 3)) (.cells #[u6 (id:Int),u6 (ib aT:Int),u6 (owner:Int),u6 (prev:Int),u6 (ay:Int),u6 (nb:Int)] 70);have i1:aC bA _ (cC w2.heap.size 6 6) js:=(aC.er (f:=bA) w2 w2.heap.size rfl #[i6 8,i6 1,i6 8,i6 8,i6 8,i6 1] 3 (0,0) js 6 rfl dy rfl).up UB;have i2:aC cu _ (cC (w2.heap.size+1) 6 6) [id,ib aT,owner,prev,ay,nb]:=aC.er (f:=cu) (w2.alloc (.cells #[i6 8,i6 1,i6 8,i6 8,i6 8,i6 1] 3)) (w2.heap.size+1) uP #[u6 (id:Int),u6 (ib aT:Int),u6 (owner:Int),u6 (prev:Int),u6 (ay:Int),u6 (nb:Int)] 70 (0,0) [id,ib aT,owner,prev,ay,nb] 6 rfl dy rfl;have aR:ib aT<=1:=by unfold ib;split<;>omega
  refine an ((o4 _ _ js i1 (by simp[js]) _ _ i2 A4 PO).mono λe w' h=>?_);obtain⟨v,rfl,ho,hu⟩:=h;refine⟨v,rfl,?_,(UA.trans UB).trans hu,?_⟩
  ·rw[mB,sza]at ho;exact ho
  ·have:=hu.size;rw[mB,sza]at this;exact this
 have ak:∀m:Int,m=(ib aT:Int)->Hid (Aaf Aag 240 #[cC w2.heap.size 6 6,cC (w2.heap.size+1) 6 6] ((w2.alloc (.cells #[i6 8,i6 1,i6 8,i6 8,i6 8,i6 1] 3)).alloc (.cells #[u6 (id:Int),u6 m,u6 (owner:Int),u6 (prev:Int),u6 (ay:Int),u6 (nb:Int)] 70)) λe w'=>∃v,e=rt #[v,i6 0]/\Own aH 5 w' (w2.heap.size+2) v (aX js [id,ib aT,owner,prev,ay,nb])/\Up w2 w'/\w2.heap.size+2<=w'.heap.size):=λm hm=>by subst hm;exact aq _ rfl
 have aO:=an (show ∀m:Int,m=(ib aT:Int)->_ from λm hm=>(ak m hm).out);clear aq ak;have ba:∃m:Int,m=(ib aT:Int)/\((aT=true/\m=1)\/(aT=false/\m=0)):=by
  cases aT
  ·exact⟨0,rfl,.inr ⟨rfl,rfl⟩⟩
  ·exact⟨1,rfl,.inl ⟨rfl,rfl⟩⟩
 obtain⟨mv,a7,ar⟩:=ba;have aP:=an (aO mv a7);clear aO;rcases ar with⟨rfl,rfl⟩|⟨rfl,rfl⟩
 all_goals
  clear a7;go_wp2_with fail;refine aP.mono ?_;rintro e w4⟨v5,rfl,O5,U5,s4⟩;obtain⟨B4,U6,S4⟩:=aW (B2.up U5) (U3.trans U5) s4;clear s4 c0 c1 c2 c3 c4 c5 c6 zR e0 e3 e4 e5 e6 sza wn;obtain⟨c0,c1,c2,c3,c4,c5,c6,R7,zR⟩:=B4.setAt.GV;go_wp2_with(refine arm ?_);refine(PB w4).mono ?_;rintro e w5 aS;rcases aS with⟨_,v7,rfl,O7,U7⟩|⟨aB,_⟩
  rotate_left
  ·exact absurd aB aY
  obtain⟨S45,OO⟩:=aw U7.size O5;have aN:=an (O5.up U7);obtain⟨B5,U8⟩:=aw (B4.up U7) (U6.trans U7);clear c0 c1 c2 c3 c4 c5 c6 zR;obtain⟨c0,c1,c2,c3,c4,c5,c6,R7,zR⟩:=B5.setAt.GV;go_wp2_with fail;refine(LB w5 U8).mono ?_;rintro e w6 bL;rcases bL with⟨aB,_⟩|⟨aE,v8,ag,rfl,O8,U9⟩
  ·rw[ax.out]at aB;cases aB
  rw[ax.out]at ag;obtain rfl:=dC ag;obtain⟨O6,P6,B6,U10,S5⟩:=eQ (aN.up U9) (O7.up U9) (B5.up U9) (U8.trans U9) (show w5.heap.size<=w6.heap.size from U9.size);clear c0 c1 c2 c3 c4 c5 c6 zR;obtain⟨c0,c1,c2,c3,c4,c5,c6,R7,zR⟩:=B6.setAt.GV;clear ag;go_wp2;have fW:=(Up.refl w6).drew;obtain⟨Od,Pd,O8d,Ud⟩:=bS (O6.up fW) ((P6.up fW).cv) (O8.up fW) (U10.trans fW);obtain⟨aD,sd⟩:=az (fW.cell c1) fW.size;obtain⟨SB,SW⟩:=aw (show w2.heap.size+2<=w6.drew.heap.size by have:=S4.out;have:=S45.out;have:=S5.out;omega) (show w.heap.size<w2.heap.size+2 by have:=a1.out;omega);clear c0 c1 c2 c3 c4 c5 c6 zR;refine wp_region_any al ?_;change wpAny _ _ _ _ 14 _ _ w6.drew;generalize w6.drew=w7 at *;refine yk 0 (v5) rfl ?_;refine yk 1 (v7) rfl ?_;refine yk 3 (pq w.heap.size 1) rfl ?_;refine yk 6 (v8) rfl ?_;simp only[Aap,fL];obtain⟨hb1,hb2⟩:=aw (show(κ (aX js [id,ib _,owner,prev,ay,nb])+κ (bM root))*1<=140737488355328 by rw[PL.out,RL.out];omega) (show(aX js [id,ib _,owner,prev,ay,nb]).length+κ (bM root)<=9223372036854775807 by rw[PL.out,RL.out];omega);refine Cs 2 4 _ _ al rfl rfl rfl rfl ?_ ?_
  ·refine Ov ?_;intro va w8 hoa hga hba;have a6:=(nJ (oH hba w.heap.size SW)).trans aD;refine pk 4 _ al rfl rfl ?_;refine sm 9 (.tmp 55) rfl ⟨w.heap.size,1,none⟩ rfl _ a6 al ?_;exact Y'
  ·refine sm 9 (.tmp 55) rfl ⟨w.heap.size,1,none⟩ rfl _ aD al ?_;refine Cs 2 5 _ _ al rfl rfl rfl rfl ?_ ?_
   ·refine Ov ?_;intro va w8 hoa hga hba;exact Y'
   ·refine vR (.tmp 56) rfl name rfl NM1 NM2 ?_;intro vn w8 hn hu aQ;refine pk 2 _ al rfl rfl ?_;refine jV aH cg (.tmp 52) (.tmp 53) 30 rfl (w2.heap.size+2) 5 (.int .u8 0) 1 Aau ew rfl v5 _ rfl (Od.up hu) v7 _ rfl (aC.up Pd hu) hb1 hb2 (bO SB hu.size) ?_;intro va w9 hoa hga hba;rw[<-HE.out]at hoa;obtain⟨HO,HN,H8,HU⟩:=bS (hoa) (hn.grown hga (λb hb e=>by have h1:=aQ b hb;have h2:=(OO.aJ b e).2;have h3:=S45.out;have h4:=S5.out;omega)) ((O8d.up hu).wk OO S45 hga) ((Ud.trans hu).aF hba (oI SW));have HZ:=an (show w.heap.size<=w9.heap.size from HU.size);clear aQ;obtain⟨aa,ac,rfl⟩:=HO.cv.slice;obtain⟨na,nc,rfl⟩:=HN.slice;obtain⟨la,lc,rfl⟩:=H8.cv.slice;have JN:=an (AO _ _ _ (xZ w9 aa na la _ _ _ ac nc lc _ _ _ HO.cv HN H8.cv) OKJ);have av:=mB w9 (.cells #[.slice aa (κ hdr) ac,.slice na (κ name) nc,.slice la (κ (cV dead)) lc] 30);have au:=an (ai w9 (.cells #[.slice aa (κ hdr) ac,.slice na (κ name) nc,.slice la (κ (cV dead)) lc] 30));generalize cV dead=aE at *;refine ph 7 _ al rfl rfl ?_;intro K hK;go_simp;refine hK _ _ ?_;refine ph 8 _ al rfl rfl ?_;intro K2 ao;go_simp;refine JN.mono ?_;rintro e aV⟨vj,rfl,OJ,UJ⟩;refine ao _ _ ?_;refine yk 9 (.tuple #[vj,i6 0]) rfl ?_;simp only[Aap,fL];refine yk 10 (vj) rfl ?_;simp only[Aap,fL];refine yk 11 (i6 0) rfl ?_;simp only[Aap,fL];refine yk 12 (vj) rfl ?_;simp only[Aap,fL];refine yk 13 (i6 0) rfl ?_;simp only[Aap,fL];refine⟨al,?_⟩;(try simp only[Aap]);go_wp2;go_ret2;refine .inr ⟨_,_,HT,rfl,?_,HU.trans (au.trans UJ)⟩;rw[RB.out];exact OJ.mono (by rw[av];have:=HZ.out;omega)
end Go.Proofs.YtkpjfnbbkohciaaGreat
