import Derived.Test.YtkpjfnbbkohciaaGreatCa
set_option maxRecDepth 100000
set_option maxHeartbeats 16000000
set_option linter.all false
open Go renaming Oper->Abn,TypeId->Aab,Calls->Aae,wpStill->Adc,wpList->Aak,zeroValue->Ab9,madeCells->Acv,execOp->Abs,yielded->Aa1,Ending->Ab1,undef->Aar,splice->Aby,YieldsIf->Ace,wpAnyH->Acp,ResultVar->Ac7
open List renaming length_set->Aaz,take_zero->Abk,replicate->Aac,mem_map->Abf,append_nil->Ab5,takeWhile_cons->Ab4,length_append->Aaf,range->Aaj,cons_append->Aa2,range_succ->Abz,map_append->Aao,append_assoc->Aa8,mem_cons->Aam,size_toArray->Abh,length_cons->Aal,length_nil->Aa5,push_toArray->Abj,append_toArray->Aa9,nil_append->Aay,length_map->Aad,drop_zero->Aax,map_cons->Acf,toList_toArray->Acz,getElem_map->Adp,drop_drop->Ac3,flatMap_cons->Abg,getElem_append_right->Adw,getElem_cons_zero->Abx,length->κ
open Go.Proofs.Tryz renaming prog->Aag,underlying60->Acr,underlying88->Aaq,underlying30->Aa0
open Go.Act renaming put->Aas
open Go.RowKit renaming intOf->Aat
open Go.Value.slice renaming injEq->Abp
open Nat renaming zero_add->Abr
open Go.Instr renaming makeSlice->Ach,slice->Aav,sliceAt->Abo,sureAddr->Adf,index->Abi
open Go.Oper renaming wp->Acb
open Go.Sem renaming run_bind->Aaw,run_pure->Acq
open Go.Result renaming andThen_ok->Aau,andThen->Aap
open Go.Value renaming int->Acj,oneCell'->Ac8,ownBlock->Aan
open Go.Region renaming wanted->Aaa,ready->Abb,free->Adn,noSelect->Aba,Mode->Ab0
open Go.Op renaming equalIn->Ack
open Option renaming isSome_iff_exists->Ads
open Go.World renaming size_alloc->Aa3
open Bool renaming and_eq_true->Abc,false_eq_true->Ab2
open Array renaming replicate_succ->Aa6,replicate_zero->Aa7,toList_setIfInBounds->Abl,getElem?_eq_none->Ade
open Go.Fence renaming wide->Abw
open Option.some renaming injEq->Aai
open Int renaming toNat_natCast->Abq
open Go.Utf8 renaming decode->Abu
open Go.ByteArray renaming toList_eq->Adl
open UInt8 renaming ofNat->Ab8
namespace Go.Proofs.YtkpjfnbbkohciaaGreat
open Go.Proofs.Tryz Go.RowKit Go.Sort
variable{base g i j k m n:Nat}{ops:Array Abn}{W w:af}{b r:List aj}{C:Array ah}{P:bx}{l:List au}{Q:Exit->Act->af->Prop}{a:Act}{E:List (Nat × Nat)}{α:Type}{o:Abn}{vp x:ah}{p:au}{h:iE}{e t ty:Aab}{K:Act->af->Prop}{acc:List (List aj)}
def bC.put(v:bC)(n:Nat)(s:cN):bC:={v with bP:=v.bP++[⟨n,s⟩],ct:=v.ct.set n s}
def bC.written(v:bC)(i:Int)(s:cN):bC:=if v.hasB i=true then(if v.hv=true then v.bb.eH.put i.toNat s else v.bb.eH)else v.bb
def bC.o6(v:bC)(i:Int):Int:=if v.hasB i=true then(if v.hv=true then 0 else 42)else 41
theorem o0(v:bC):v.eH.bP=v.bP/\v.eH.aR=v.aR/\v.eH.ct=v.ct:=by grind [bC.eH]
theorem Dv.push{w4 w6:af}{v:bC}{ob:Obj}(D:Dv w4 h v)(x:CL)(hx:x.loc<κ v.aR)(v':ah)(hown:ak qE 129 116 w6 0 v' (v.bP++[x]))(hg:(w4.alloc ob).grownBy w6 h.vp.ownBlock):Dv (w6.setCell ⟨h.d,2,none⟩ v') {h with vp:=v'} {v with bP:=v.bP++[x]}:=by
 have D5:=D.up (ai w4 ob);have aa:=D5.dev.grown hg (i' ax D5.dev D5.bP);have hb1:=D5.b1.grown hg (i' ax D5.b1 D5.bP);obtain⟨hb2,G⟩:=aA (D5.b2.grown hg (i' ax D5.b2 D5.bP)) (b0 aa 2 v');refine⟨aa.setCell 2 v',hb1.grown G (λe=>D.ye (dB e)),hb2.grown G (λe=>D.tD (dB e)),D.len,D.max,D.ne,hown.kept G (.inr (i' ax aa hown)),λy hy=>?_,D.ops,D.left⟩;rcases eT.1 hy with hy|hy
 ·exact D.AL y hy
 ·simp_all
theorem Dv.ZS{w w':af}{v:bC}(D:Dv w h v)(n:Nat)(s:cN)(hb:aH w' h.g2 60 (gg (v.ct.set n s)))(hg:w.grownBy w' (some h.g2)):Dv w' h {v with ct:=v.ct.set n s}:=⟨D.dev.grown hg (λe=>D.tD (dB e).symm),D.b1.grown hg (λe=>D.ne (dB e).symm),hb,by show(v.ct.set n s).length=_;rw[Aaz];exact D.len,D.max,D.ne,D.bP.kept hg (.inr (i' ax D.b2 D.bP)),D.AL,D.ops,D.left⟩
theorem zY(w:af)(h:iE)(v:bC)(D:Dv w h v)(i:Int)(hi:-9223372036854775808<=i/\i<=9223372036854775807)(s:cN)(hr:κ v.bP<=1000000)(hb:v.hasB i=true)(aJ:v.hv=true):Aae Aag 217 #[pz h.d,i6 i,.agg (aC s.val)] w λe w'=>e=.returned (i6 (v.o6 i))/\iU w h (v.written i s) w':=by
 have upa:=ai w (.cells (aC s.val) 60);obtain⟨aP,aV,CT,aF,HS⟩:=eI (aH.new w 60 (aC s.val)) (D.up upa) (λW (DD:Dv W h v)=>vP W h v DD) (λW (DD:Dv W h v.bb)=>DP W h v.bb DD) (λW (DD:Dv W h v.bb)=>L8 W h v.bb DD i hi);have HH:v.bb.hasB i=v.hasB i:=rfl;rw[HH]at HS;have HP:v.bb.hv=v.hv:=rfl;rw[HP]at aF;obtain⟨HL,HF,aS⟩:=aW (Touch.bW (F:=cI h) upa) (show ¬cI h w.heap.size from λhf=>yB _ (D.oy _ hf)) (nU v i);rw[hb]at HS;have aU:=aS.1 hb;obtain⟨n,rfl⟩:∃n:Nat,i=n:=⟨i.toNat,ae⟩;have aN:n<κ v.aR:=ae
 rw[aJ]at aF;obtain⟨aK,E⟩:=aw (show v.bb.eH.bP=v.bP/\v.bb.eH.aR=v.aR/\v.bb.eH.ct=v.ct from o0 v.bb) (show v.written n s=v.bb.eH.put n s/\v.o6 n=0 by unfold bC.written bC.o6;rw[hb,aJ];simp);clear hb aJ aU;go_in;go_wp2_with fail;refine(CT _ aV).mono ?_;rintro e w2⟨rfl,D2,T2⟩;obtain⟨aO,aa⟩:=aw D2 T2;go_wp2_with fail;refine(HS _ aO).mono ?_;rintro e w3⟨rfl,rfl⟩;go_wp2_with fail;refine(aF _ aO).mono ?_;rintro e w4⟨rfl,D4,T4⟩;obtain⟨aG,HB4,au⟩:=aW ((HL.trans aa (λn hn _=>hn)).trans T4 (λn hn _=>hn)) (((aP.az aa HF)).az T4 HF) D4;go_wp2;have e7:=(Up.refl w4).drew;obtain⟨D5,B5,T5⟩:=aW (au.up e7) (HB4.up e7) (aG.trans (Touch.bW (F:=cI h) e7) (λn hn _=>hn));obtain⟨pa,pc,al⟩:=(D5.bP.row ww).slice;have aE:=an al;have c2:=D5.cells.2.2.1;rw[al]at c2;clear al;refine wp_region_any av ?_;change wpAny _ _ _ _ 13 _ _ w4.drew;generalize w4.drew=w5 at *;refine x1 0 (pz h.d) rfl ?_;refine x1 1 (pz h.d) rfl ?_;refine x1 2 (pz h.d) rfl ?_;refine x1 3 (pq h.d 2) rfl ?_;refine x1 5 (i6 (n:Int)) rfl ?_;simp only[Aas,gh];have aQ:=(ai w5 (.cells (j6 ⟨n,s⟩) 116)).cell c2;have aM:κ v.bb.eH.bP<=1000000:=by rw[aK.out.1];exact hr
 have aB:=ak.up D5.bP (ai w5 (.cells (j6 ⟨n,s⟩) 116));rw[aE.out]at aB;have RW:=Z9 w5 w5.heap.size rfl ⟨n,s⟩;refine wW 4 6 _ _ av rfl rfl rfl rfl ?_ ?_;refine o5 112 (.tmp 19) rfl ⟨h.d,2,none⟩ rfl _ c2 av ?_;refine ih 6 _ av rfl rfl ?_;refine Nt ?_;refine Nu ?_;rotate_left;refine Nt ?_;refine wW 4 8 _ _ av rfl rfl rfl rfl ?_ ?_;refine o5 112 (.tmp 19) rfl ⟨h.d,2,none⟩ rfl _ c2 av ?_;refine Nu ?_;rotate_left;refine mH 112 116 (.tmp 23) rfl _ 129 136 (j6 ⟨n,s⟩) rfl underlying112 tU ae ae (od _) ?_;refine ih 4 _ av rfl rfl ?_;refine o5 112 (.tmp 19) rfl ⟨h.d,2,none⟩ rfl _ aQ av ?_;all_goals
  simp only[Aas,gh];refine ih 9 _ av rfl rfl ?_;refine qH ww (.tmp 20) (.tmp 24) 112 rfl 0 116 _ 136 underlying112 tU (od _) (.slice pa (κ v.bb.eH.bP) pc) v.bb.eH.bP rfl aB (cv w5.heap.size 1 1) [⟨n,s⟩] rfl RW ab ab (bE _) ?_;intro v' w6 aj ar _ aA;refine x1 10 (pz h.d) rfl ?_;refine x1 11 (pq h.d 2) rfl ?_;simp only[Aas,gh];refine ih 12 _ av rfl rfl ?_;have aq:=ar;rw[<-aE.out]at aq aA;have aL:=D5.up (ai w5 (.cells (j6 ⟨n,s⟩) 116));have ag:=aL.dev.grown aq (i' ax aL.dev aL.bP);obtain⟨D7,T7⟩:=aw (Dv.push D5 ⟨n,s⟩ (show n<κ v.bb.eH.aR by rw[aK.out.2.1];exact aN) v' aj aq) ((T5.trans (Touch.bW (F:=cI h) (ai w5 (.cells (j6 ⟨n,s⟩) 116))) (λn hn _=>hn)).trans ((Touch.bg (F:=cI h) aq (λk hk=>.inr (.inr (.inr hk)))).trans (Touch.bg (F:=cI h) (b0 ag 2 v') (λk hk=>FC)) (λn hn _=>hn)) (λn hn _=>hn));have W7:=an (show ∀b,v'.ownBlock=some b->h.vp.ownBlock=some b\/w.heap.size<=b from λb hb=>by
   rcases aA with hh|⟨g,hh,aX⟩
   ·exact .inl (by rw[<-hh];exact hb)
   ·rw[hb]at hh;cases hh;exact .inr (bN (bN T5.size (ai w5 _).size) aX))
  have S7:=an (((B5.up (ai w5 (.cells (j6 ⟨n,s⟩) 116))).grown aq (i' ax (B5.up (ai w5 (.cells (j6 ⟨n,s⟩) 116))) aL.bP)).grown (b0 ag 2 v') (λe=>HF (.inl (dB e).symm)));have oc:v'.cells=#[v']/\v'.oneCell'=true:=by obtain⟨va,vc,rfl⟩:=(aj.row ww).slice;exact⟨rfl,rfl⟩
  refine CJ 112 (.tmp 27) (.tmp 25) rfl ⟨h.d,2,none⟩ rfl v' rfl oc.1 oc.2 h.vp (ag.cell 2) (ag.free 2) av ?_;refine⟨av,?_⟩;simp only[Aas];clear c2 aQ oc;generalize w6.setCell ⟨h.d,2,none⟩ v'=w7 at *;go_wp2;have e7:=(Up.refl w7).drew;obtain⟨D8,S8,T8⟩:=aW (D7.up e7) (S7.up e7) (T7.trans (Touch.bW (F:=cI h) e7) (λn hn _=>hn));have c1:=D8.cells.2.1;have ay:w7.drew.cell? (ad h.d 1)=some (cv h.g2 (κ v.bb.eH.aR) (κ v.bb.eH.aR)):=c1;rw[aK.out.2.1]at ay;have hm:=D8.max;have aD:κ v.aR<=1024:=by rw[<-aK.out.2.1];exact hm
  clear c1 hm;refine wg 6 av av ?_;refine q7 ?_;change Adc _ _ w7.drew (λa'=>Aak _ _ _ _ a' w7.drew) _ _;generalize w7.drew=w8 at *;repeat(first
   | (refine ik rfl 60 (.tmp 5) rfl w.heap.size rfl 60 _ S8 _ Acr rfl (dD s) ?_)
   | still_step)
  refine hA ?_;have ao:n<κ v.bb.eH.ct:=by have:=D8.len;rw[show({v.bb.eH with bP:=v.bb.eH.bP++[⟨n,s⟩]}:bC).ct=v.bb.eH.ct from rfl]at this;rw[this];show n<κ v.bb.eH.aR;rw[aK.out.2.1];exact aN
  obtain⟨FT,SS,G2⟩:=aW (Gv v.bb.eH.ct n ao s) (IH v.bb.eH.ct n ao s) (show aH w8 h.g2 60 (gg v.bb.eH.ct)from D8.b2);have b2:((n:Int)<(κ v.aR:Int))=True:=ab
  clear ao;go_wp2_with(refine cj rfl 60 (.tmp 34) (.tmp 33) rfl h.g2 (n*128) (aC s.val) rfl rfl 60 _ G2 (dD s) FT (dj _) ?_);intro w9 aI aT;rw[SS.out]at aI;obtain⟨D9,T9⟩:=aw (Dv.ZS D8 n s aI aT) (T8.trans (Touch.bg (F:=cI h) aT (λk hk=>by cases hk;exact .inr (.inr (.inl rfl)))) (λn hn _=>hn));clear ay;go_wp2;go_ret;exact⟨by rw[E.out.2];rfl,v',by rw[E.out.1];exact D9,T9,W7⟩
def da(l:List cN)(ws:List CL):List cN:=ws.foldl (λl x=>l.set x.loc x.s) l
theorem nC(ws:List CL):∀l:List cN,κ (da l ws)=κ l:=by
 induction ws with
 | nil=>intro l;rfl
 | cons x ws ih=>intro l;show(da (l.set x.loc x.s) ws).length=_;rw[ih,Aaz]
theorem G8(l:List cN)(ws:List CL)(k:Nat)(hk:k<κ ws):da l (ws.take (k+1))=(da l (ws.take k)).set ws[k].loc ws[k].s:=by unfold da;rw[en hk,EY];rfl
def bC.cL(v:bC):bC:=if v.hv=true then {v.bb.eH with aR:=da v.aR v.bP,bP:=[]} else v.bb.eH
def bC.pM(v:bC):Int:=if v.hv=true then 0 else 42
theorem vD:∀W:af,(Ab9 116).run Aag W=.ok (.agg (j6 Jd)) W:=λW=>by obtain⟨i,hi,hz0,_,_⟩:=jF tU;simp[Ab9,typeInfo,hi,hz0]
theorem Dv.QO{w w':af}{v:bC}(D:Dv w h v)(n:Nat)(s:cN)(hb:aH w' h.g1 60 (gg (v.aR.set n s)))(hg:w.grownBy w' (some h.g1)):Dv w' h {v with aR:=v.aR.set n s}:=by
 have e:zU h {v with aR:=v.aR.set n s}=zU h v:=by simp[zU]
 exact⟨by rw[e];exact D.dev.grown hg (λe=>D.ye (dB e).symm),hb,D.b2.grown hg (λe=>D.ne (dB e)),by show _=κ (v.aR.set n s);rw[Aaz];exact D.len,by show(v.aR.set n s).length<=_;rw[Aaz];exact D.max,D.ne,D.bP.kept hg (.inr (i' ax D.b1 D.bP)),λx hx=>by show x.loc<κ (v.aR.set n s);rw[Aaz];exact D.AL x hx,D.ops,D.left⟩
theorem Dv.clear{v:bC}(D:Dv w h v):Dv (w.setCell ⟨h.d,2,none⟩ (nl)) {h with vp:=nl} {v with bP:=[]}:=by have G:=b0 D.dev 2 (nl);exact⟨D.dev.setCell 2 _,D.b1.grown G (λe=>D.ye (dB e)),D.b2.grown G (λe=>D.tD (dB e)),D.len,D.max,D.ne,ak.nil _ _ _ _ _,(λx hx=>aa),D.ops,D.left⟩
theorem tV(x:CL):(j6 Jd).size=(j6 x).size:=by simp[od]
theorem V7{b:Nat}{x:CL}(h:aH w b t (j6 x)):w.cell? (ad b 0)=some (i6 (x.loc:Int))/\w.rangeAt b 1 (aC x.s.val).toList:=by refine⟨jH,λj v hj=>?_⟩;rw[h.cell];grind [k8,j6,qE]
theorem zV(w:af)(h:iE)(v:bC)(D:Dv w h v)(hr:κ v.bP<=1000000)(aJ:v.hv=true):Aae Aag 216 #[pz h.d] w λe w'=>e=.returned (i6 v.pM)/\iU w h v.cL w':=by
 obtain⟨CT,aF⟩:=aw (vP w h v D) (λW (DD:Dv W h v.bb)=>DP W h v.bb DD);have HP:v.bb.hv=v.hv:=rfl;rw[HP]at aF;rw[aJ]at aF;obtain⟨aK,E⟩:=aw (o0 v.bb) (show v.cL={v.bb.eH with aR:=da v.aR v.bP,bP:=[]}/\v.pM=0 by unfold bC.cL bC.pM;rw[aJ];simp);go_in;go_wp2_with fail;refine CT.mono ?_;rintro e w2⟨rfl,D2,T2⟩;obtain⟨aO,aa⟩:=aw D2 T2;go_wp2_with fail;refine(aF _ aO).mono ?_;rintro e w4⟨rfl,D4,T4⟩;obtain⟨au,aG⟩:=aw D4 (aa.trans T4 (λn hn _=>hn));obtain⟨pa,pc,al⟩:=(au.bP.row ww).slice;have c2:=au.cells.2.2.1;rw[al,aK.out.1]at c2;have aE:=an al;have aU:κ v.bb.bP<=1000000:=hr;obtain⟨P,hP⟩:=bK (v.bb.eH);obtain⟨EP,ag⟩:=aw (show P.bP=v.bP/\P.aR=v.aR/\P.ct=v.ct by rw[hP];exact aK) hP;rw[<-hP]at au;have ao:w4.cell? (ad h.d 2)=some (.slice pa (κ v.bP) pc):=c2;have av:κ v.bP<=1000000:=hr;go_wp2;go_loopw [15] (λi wr=>∃k:Nat,k<=κ v.bP/\i=i6 k/\Dv wr h {P with aR:=da v.aR (v.bP.take k)}/\Touch (cI h) w wr) (λi _=>κ v.bP-(Aat i).toNat)
 case atStart=>exact⟨0,bE _,rfl,by have:=au.out;rw[show({P with aR:=da v.aR (v.bP.take 0)}:bC)=P from by rw[Abk];show({P with aR:=v.aR}:bC)=P;rw[<-EP.out.2.1]];exact this,aG⟩
 case round=>
  obtain⟨k,hk,rfl,DR,TR⟩:=hrel;obtain⟨HDR,HTR⟩:=aw DR TR;clear DR TR ao;by_cases hlt:k<κ v.bP
  ·have ak:k<κ P.bP:=by rw[EP.out.1];exact hlt
   have own:=HDR.bP;obtain⟨g,cap,hg,ax⟩:=I8 (l:=P.bP) own k ak;have al:=aE.out;have aX:(.slice (some ⟨g,0,none⟩) (κ P.bP) cap:ah)=.slice pa (κ v.bb.eH.bP) pc:=aQ
   simp only[Abp]at aX;obtain⟨rfl,_,rfl⟩:=aX;have RG:=an ax;have loc:=HDR.AL P.bP[k] (cJ ak);have SN:=an (G8 v.aR v.bP k hlt);have ae:P.bP[k]=v.bP[k]:=by simp only[EP.out.1]
   rw[ae]at RG loc;have aM:κ (da v.aR (v.bP.take k))=κ v.aR:=nC _ _;have HAL:=an aM;have aI:v.bP[k].loc<κ v.aR:=dL
   have b2:((k:Int)<(κ v.bP:Int))=True:=ab
   have vF:κ v.aR<=1024:=by have:=HDR.max;rw[show({P with aR:=da v.aR (v.bP.take k)}:bC).aR=da v.aR (v.bP.take k)from rfl,aM]at this;exact this
   clear own ax hg al ae ak loc aM;generalize v.bP[k]=x at *;have upa:=ai wr (.cells (j6 x) 116);refine Ux ?_;intro e7 D5 X5 T5 aP c0;have aj:(wr.alloc (.cells (j6 x) 116)).drew.cell? (ad h.d 0)=some (.slice (some ⟨h.g1,0,none⟩) (κ (da v.aR (v.bP.take k))) (κ (da v.aR (v.bP.take k)))):=c0;rw[HAL.out]at aj;clear c0 upa e7;go_wp2_with(first
    | (refine gJ rfl 116 (.tmp 17) rfl g (k*129) rfl (j6 x) RG _ underlying116 rfl (kY x) ?_)
    | (refine dk rfl 116 rfl (j6 Jd) vD ?_)
    | (refine gK (w:=wr) rfl 116 (.tmp 4) (.tmp 18) rfl wr.heap.size rfl (j6 x) rfl rfl 116 (j6 Jd) (kY x) (tV x) (zp x) ?_))
   refine Nv ?_;refine NS ?_;generalize(wr.alloc (.cells (j6 x) 116)).drew=w5 at *;simp only[Aas,gh];repeat(first
    | (refine fS rfl 60 (.tmp 25) rfl wr.heap.size 1 rfl _ X5.2 _ Acr rfl (dD _) ?_)
    | still_step)
   refine hA ?_;have hxl:x.loc<κ (da v.aR (v.bP.take k)):=dL
   have b3:((x.loc:Int)<(κ v.aR:Int))=True:=ab
   go_wp2_with(refine cj rfl 60 (.tmp 27) (.tmp 26) rfl h.g1 (x.loc*128) (aC x.s.val) rfl rfl 60 _ D5.b1 (dD x.s) (Gv _ x.loc hxl x.s) (dj _) ?_);refine Mm ?_;clear aj;intro w6 D6 T6;go_wp2_with fail;refine⟨⟨k+1,hlt,aq,by rw[SN.out];exact D6,T6⟩,?_⟩;simp only[Aat];omega
  ·have hkl:k=κ v.bP:=by omega
   subst hkl;have b2:((κ v.bP:Int)<(κ v.bP:Int))=False:=aq
   obtain⟨c2,al⟩:=aA HDR.cells.2.2.1 aE.out;rw[al]at c2;have f2:=HDR.dev.free 2;clear al;go_wp2_with fail;go_ret;have E2:({P with aR:=da v.aR (v.bP.take (κ v.bP)),bP:=[]}:bC)=v.cL:=by rw[E.out.1,fx,ag.out]
   exact⟨by rw[E.out.2];rfl,nl,by rw[<-E2];exact(Dv.clear HDR),(HTR.trans (jd HDR 2 (nl)) (λn hn _=>hn)),λb hb=>by cases hb⟩
def Sc(b:Bool):ah:=.bool b
def fG(ks:List Bool):Nat->List CL->List CL
 | _,[]=>[]
 | n,x::l=>if ks.getD n false=true then x::fG ks (n+1) l else fG ks (n+1) l
theorem Ex(ks:List Bool)(l m:List CL):∀n,fG ks n (l++m)=fG ks n l++fG ks (n+κ l) m:=by
 induction l with
 | nil=>intro n;rfl
 | cons x l ih=>grind [fG]
theorem J8(ks:List Bool)(l:List CL)(k:Nat)(hk:k<κ l):fG ks 0 (l.take (k+1))=fG ks 0 (l.take k)++(if ks.getD k false=true then [l[k]] else []):=by rw[en hk,Ex,Abr,ev,Nat.min_eq_left ae];rfl
def bC.se(v:bC)(ks:List Bool):List cN:=da v.aR (fG ks 0 v.bP)
def bC.crashed(v:bC)(ks:List Bool):bC:={v with aR:=v.se ks,ct:=v.se ks,bP:=[],left:=-1,dead:=false}
theorem Dv.copied{w w':af}{v:bC}(D:Dv w h v)(hb:aH w' h.g2 60 (gg v.aR))(hg:w.grownBy w' (some h.g2)):Dv w' h {v with ct:=v.aR}:=⟨D.dev.grown hg (λe=>D.tD (dB e).symm),D.b1.grown hg (λe=>D.ne (dB e).symm),hb,rfl,D.max,D.ne,D.bP.kept hg (.inr (i' ax D.b2 D.bP)),D.AL,D.ops,D.left⟩
theorem Hz(hn:cI {h with vp:=.slice none 0 0} n):cI h n:=by
 rcases hn with hn|hn|hn|hn
 ·exact .inl hn
 ·exact .inr (.inl hn)
 ·exact .inr (.inr (.inl hn))
 ·cases hn
theorem JG(w:af)(h:iE)(v:bC)(D:Dv w h v)(hr:κ v.bP<=1000000)(vk:ah)(ks:List Bool)(aF:∀w',Touch (cI h) w w'->aD Sc w' vk ks):Aae Aag 19 #[pz h.d,vk] w λe w'=>e=rt #[]/\iU w h (v.crashed ks) w':=by
 obtain⟨au,HK⟩:=aw D aF;have hkl:κ ks<=9223372036854775807:=(HK w (Touch.refl _ _)).length_le;obtain⟨ka,kc,aG⟩:=(HK w (Touch.refl _ _)).slice;subst aG;obtain⟨pa,pc,al⟩:=(au.bP.row ww).slice;have c2:=au.cells.2.2.1;rw[al]at c2;have aE:=an al;obtain⟨N,hN⟩:=bK (κ v.bP);rw[<-hN]at c2 hr;have HN:=an hN;clear hN;go_in;go_wp2_with fail;go_loopw [11] (λi wr=>∃k:Nat,k<=N/\i=i6 k/\Dv wr h {v with aR:=da v.aR (fG ks 0 (v.bP.take k))}/\Touch (cI h) w wr) (λi _=>N-(Aat i).toNat)
 case atStart=>exact⟨0,bE _,rfl,au,Touch.refl _ _⟩
 case round=>
  obtain⟨k,hk,rfl,DR,TR⟩:=hrel;obtain⟨HDR,HTR⟩:=aw DR TR;clear DR TR c2;by_cases hlt:k<N
  ·have ak:k<κ v.bP:=by rw[<-HN.out];exact hlt
   obtain⟨g,cap,hg,ax⟩:=I8 (l:=v.bP) HDR.bP k ak;have al:=aE.out;have aX:(.slice (some ⟨g,0,none⟩) (κ v.bP) cap:ah)=.slice pa (κ v.bP) pc:=hg.symm.trans al;simp only[Abp]at aX;obtain⟨rfl,_,rfl⟩:=aX;have RG:=an ax;have loc:=HDR.AL v.bP[k] (cJ ak);have SN:=an ((λk=>J8 ks v.bP k) k ak);have aM:κ (da v.aR (fG ks 0 (v.bP.take k)))=κ v.aR:=nC _ _;have HAL:=an aM;have aI:v.bP[k].loc<κ v.aR:=by rw[<-aM];exact loc
   have b2:((k:Int)<(N:Int))=True:=ab
   have vF:κ v.aR<=1024:=by have:=HDR.max;rw[show({v with aR:=da v.aR (fG ks 0 (v.bP.take k))}:bC).aR=da v.aR (fG ks 0 (v.bP.take k))from rfl,aM]at this;exact this
   clear ax hg al loc aM;generalize v.bP[k]=x at *;clear ak;have upa:=ai wr (.cells (j6 x) 116);have T1:=an (HTR.trans (Touch.bW (F:=cI h) upa) (λn hn _=>hn));obtain⟨KK,D1⟩:=aw (HK _ T1) (HDR.up upa);by_cases hq:k<κ ks
   ·cases ao:ks[k]
    case true=>
     have kc:=KK.out;obtain⟨kb,ko,rfl,_,az⟩:=cg kc rfl ae;have ck:(wr.alloc (.cells (j6 x) 116)).cell? (ad kb (ko+k))=some (.bool true):=by rw[az k hq,ao];rfl
     have b5:((k:Int)<(κ ks:Int))=True:=ab
     clear kc az;have aa:=an (show fG ks 0 (v.bP.take (k+1))=fG ks 0 (v.bP.take k)++[x] by rw[SN.out,sB,jE hq,ao];simp);refine Ux ?_;intro e7 D5 X5 T5 aP c0;have aj:(wr.alloc (.cells (j6 x) 116)).drew.cell? (ad h.d 0)=some (.slice (some ⟨h.g1,0,none⟩) (κ (da v.aR (fG ks 0 (v.bP.take k)))) (κ (da v.aR (fG ks 0 (v.bP.take k))))):=c0;rw[HAL.out]at aj;clear c0 upa e7;go_wp2_with(first
      | (refine gJ rfl 116 (.tmp 14) rfl g (k*129) rfl (j6 x) RG _ underlying116 rfl (kY x) ?_)
      | (refine dk rfl 116 rfl (j6 Jd) vD ?_)
      | (refine gK (w:=wr) rfl 116 (.tmp 5) (.tmp 15) rfl wr.heap.size rfl (j6 x) rfl rfl 116 (j6 Jd) (kY x) (tV x) (zp x) ?_))
     refine Nw ?_;refine NS ?_;generalize(wr.alloc (.cells (j6 x) 116)).drew=w5 at *;try simp only[Aas,gh]
     repeat(first
      | (refine fS rfl 60 (.tmp 32) rfl wr.heap.size 1 rfl _ X5.2 _ Acr rfl (dD _) ?_)
      | still_step)
     refine hA ?_;have hxl:x.loc<κ (da v.aR (fG ks 0 (v.bP.take k))):=by rw[HAL.out];exact aI
     have b3:((x.loc:Int)<(κ v.aR:Int))=True:=ab
     go_wp2_with(refine cj rfl 60 (.tmp 34) (.tmp 33) rfl h.g1 (x.loc*128) (aC x.s.val) rfl rfl 60 _ D5.b1 (dD x.s) (Gv _ x.loc hxl x.s) (dj _) ?_);refine Mm ?_;clear aj;intro w6 D6 T6;go_wp2_with fail;refine⟨⟨k+1,hlt,aq,by rw[aa.out,show da v.aR (fG ks 0 (v.bP.take k)++[x])=(da v.aR (fG ks 0 (v.bP.take k))).set x.loc x.s from by unfold da;rw[EY];rfl];exact D6,T6⟩,?_⟩;simp only[Aat];omega
    case false=>
     have kc:=KK.out;obtain⟨kb,ko,rfl,_,az⟩:=cg kc rfl ae;have ck:(wr.alloc (.cells (j6 x) 116)).cell? (ad kb (ko+k))=some (.bool false):=by rw[az k hq,ao];rfl
     have b5:((k:Int)<(κ ks:Int))=True:=ab
     clear kc az;have aa:=an (show fG ks 0 (v.bP.take (k+1))=fG ks 0 (v.bP.take k)by rw[SN.out,sB,jE hq,ao];simp);clear upa;go_wp2_with(first
      | (refine gJ rfl 116 (.tmp 14) rfl g (k*129) rfl (j6 x) RG _ underlying116 rfl (kY x) ?_)
      | (refine dk rfl 116 rfl (j6 Jd) vD ?_)
      | (refine gK (w:=wr) rfl 116 (.tmp 5) (.tmp 15) rfl wr.heap.size rfl (j6 x) rfl rfl 116 (j6 Jd) (kY x) (tV x) (zp x) ?_))
     refine⟨⟨k+1,hlt,aq,by rw[aa.out];exact D1,T1⟩,?_⟩;simp only[Aat];omega
   ·have b5:((k:Int)<(κ ks:Int))=False:=by simp;omega
    have aa:=an (show fG ks 0 (v.bP.take (k+1))=fG ks 0 (v.bP.take k)by rw[SN.out,sB,sC ae];simp);clear upa;go_wp2_with(first
     | (refine gJ rfl 116 (.tmp 14) rfl g (k*129) rfl (j6 x) RG _ underlying116 rfl (kY x) ?_)
     | (refine dk rfl 116 rfl (j6 Jd) vD ?_)
     | (refine gK (w:=wr) rfl 116 (.tmp 5) (.tmp 15) rfl wr.heap.size rfl (j6 x) rfl rfl 116 (j6 Jd) (kY x) (tV x) (zp x) ?_))
    refine⟨⟨k+1,hlt,aq,by rw[aa.out];exact D1,T1⟩,?_⟩;simp only[Aat];omega
  ·obtain rfl:k=N:=by omega
   have b2:((k:Int)<(k:Int))=False:=aq
   obtain⟨c2,al⟩:=aA HDR.cells.2.2.1 aE.out;rw[al]at c2;have f2:=HDR.dev.free 2;obtain⟨DC,TC,HAL,E2⟩:=bR (Dv.clear HDR) (HTR.trans (jd HDR 2 (nl)) (λn hn _=>hn)) (show(da v.aR (fG ks 0 (v.bP.take k))).length=κ v.aR from nC _ _) (show da v.aR (fG ks 0 (v.bP.take k))=v.se ks by rw[HN.out,fx];rfl);clear al;go_wp2_with fail;generalize wr.setCell ⟨h.d,2,none⟩ (nl)=w5 at *;have e7:Up w5 w5.drew:=(Up.refl w5).drew;obtain⟨D6,T6⟩:=aw (DC.up e7) (TC.trans (Touch.bW (F:=cI h) e7) (λn hn _=>hn));have c0:w5.drew.cell? (ad h.d 0)=some (.slice (some ⟨h.g1,0,none⟩) (κ (da v.aR (fG ks 0 (v.bP.take k)))) (κ (da v.aR (fG ks 0 (v.bP.take k))))):=D6.cells.1;have c1:w5.drew.cell? (ad h.d 1)=some (.slice (some ⟨h.g2,0,none⟩) (κ (da v.aR (fG ks 0 (v.bP.take k)))) (κ (da v.aR (fG ks 0 (v.bP.take k))))):=D6.cells.2.1;rw[HAL.out]at c0 c1;clear e7 c2 f2;refine Nw ?_;change Adc _ _ w5.drew (λa'=>Aak _ _ _ _ a' w5.drew) _ _;generalize w5.drew=w6 at *;repeat still_step
   refine hA ?_;go_wp2_with(refine x2 rfl (.tmp 42) (.tmp 46) 111 111 rfl 60 128 underlying111 av h.g1 h.g2 (κ v.aR) rfl rfl 60 _ _ D6.b1 D6.b2 (by rw[s7,HAL.out]) (by rw[s7,au.out.len]) (QL _) ?_);intro w7 ag aB;have D7:=an (Dv.copied D6 ag aB);clear ag c0 c1;have D8:=an (Dv.field D7 4 (i6 (-1)) (v':={v with aR:=v.se ks,ct:=v.se ks,bP:=[],left:=-1}) (by rw[E2.out];rfl) (by rw[E2.out]) (by rw[E2.out]) rfl au.ops Kd);obtain⟨c4,f4,c5,f5⟩:=iJ D7.cells.2.2.2.2.1 (D7.dev.free 4) D8.cells.2.2.2.2.2 (D8.dev.free 5);go_wp2_with fail;go_end0;exact⟨rfl,nl,(Dv.field D8 5 (.bool false) (v':=v.crashed ks) rfl rfl rfl rfl au.ops Kd),(((T6.trans (Touch.bg (F:=cI h) aB (λj hj=>by cases hj;exact .inr (.inr (.inl rfl)))) (λn hn _=>hn)).trans (jd D7 4 (i6 (-1))) (λn hn _=>Hz hn)).trans (jd D8 5 (.bool false)) (λn hn _=>Hz hn)),λb hb=>by cases hb⟩
theorem BJ(t e:Aab)(z:ah)(k bytes:Nat)(ht:P.underlying t=some (.slice e))(hinfo:(P.info? e).map (λi=>(i.zero,i.size,i.bytes))=some (some z,k,bytes))(c:Nat)(hc:bytes*c<=281474976710656)(hm:c<=9223372036854775807)(w:af):(Ach t (.int .i64 (c:Int)) (.int .i64 (c:Int))).run P w=.ok (.slice (some ⟨w.heap.size,0,none⟩) c c) (w.alloc (.cells (Acv z.cells (c*k)) e)):=by refine MX ?_;intro i hi hz0 hz1 az hb this;simp_all
theorem IE:qo ep=Aac 128 (.int .u8 0):=av
theorem q9(n:Nat):Acv (aC aK) (n*128)=gg (Aac n ep):=by
 apply hS.1;rw[BL,List.flatMap_replicate,IE,List.flatten_replicate_replicate];rw[List.eq_replicate_iff];refine⟨by rw[EZ,vX],λb hb=>?_⟩;unfold Acv at hb;simp only[Array.toList_map,Abf]at hb;obtain⟨j,_,rfl⟩:=hb;have hs:(aC aK).size=128:=ay
 have hj:j%(aC aK).size<(aC aK).size:=Nat.mod_lt _ ae;rw[getElem!_pos (aC aK) _ hj];have hm:(aC aK)[j%(aC aK).size]∈(aC aK).toList:=aq
 rw[show(aC aK).toList=qo ep from k8 ep,IE]at hm;simp_all
theorem qS:(prog.info? 60).map (λi=>(i.zero,i.size,i.bytes))=some (some (.agg (aC aK)),128,128):=av
def P4(n:Nat):bC:=⟨Aac n ep,Aac n ep,[],0,-1,false⟩
section
variable {P:bx}
theorem rI{op:Abn}{a:Act}{w:af}{K:Act->af->Prop}{Q:Exit->Act->af->Prop}(t:Aab)(x y:bO)(ho:op.op=.makeSlice t x y)(e:Aab)(z:ah)(k bytes:Nat)(ht:P.underlying t=some (.slice e))(hinfo:(P.info? e).map (λi=>(i.zero,i.size,i.bytes))=some (some z,k,bytes))(c:Nat)(hc:bytes*c<=281474976710656)(hm:c<=9223372036854775807)(hx:a.eval x=i6 (c:Int))(hy:a.eval y=i6 (c:Int))(C:Array ah)(hC:Acv z.cells (c*k)=C)(h:K (a.put op.dst (cv w.heap.size c c)) (w.alloc (.cells C e))):op.wp P a w K Q:=by have hr:=BJ (P:=P) t e z k _ ht hinfo c hc hm w;rw[hC]at hr;unfold Acb Abs;simp only[ho,hx,hy,Aaw,hr,Aau];exact h
theorem Z8{op:Abn}{a:Act}{w:af}{K:Act->af->Prop}{Q:Exit->Act->af->Prop}(t:Aab)(x:bO)(ho:op.op=.box t x)(C:Array ah)(hx:a.eval x=.agg C)(h:K (a.put op.dst (pz w.heap.size)) (w.alloc (.cells C t))):op.wp P a w K Q:=by unfold Acb Abs;simp[ho,hx,Instr.box,Value.cells,Aap];exact h
end
theorem CS(v0 v1:ah)(h0:v0.cells=#[v0])(h1:v1.cells=#[v1]):prog.built 114 [(0,v0),(1,v1),(4,.int .i64 (-1))]=some #[v0,v1,.slice none 0 0,.int .i64 0,.int .i64 (-1),.bool false]:=by obtain⟨i,hi,hz0,_,_⟩:=jF (show(prog.info? 114).map (λi=>(i.zero,i.size,i.bytes))=some (some (.agg #[.slice none 0 0,.slice none 0 0,.slice none 0 0,.int .i64 0,.int .i64 0,.bool false]),6,96)from ay);unfold Program.built;rw[hi,underlying114];simp only[hz0];rw[show(List.mapM (λ(f:Field)=>(prog.info? f.type).map λi=>(f.offset,i.size)) _:Option (List (Nat × Nat)))=some [(0,1),(1,1),(2,1),(3,1),(4,1),(5,1)] from ay];have ha:∀C,(Value.agg C).cells=C:=λ_=>rfl;simp[Instr.fill,h0,h1,ha,show(Acj .i64 (-1)).cells=#[.int .i64 (-1)] from rfl]
theorem WJ(w5:af)(n:Nat)(hn:n<=1024)(g1 g2 d:Nat)(hb1:aH w5 g1 60 (gg (Aac n ep)))(hb2:aH w5 g2 60 (gg (Aac n ep)))(hne:g1≠g2)(hd:aH w5 d 114 #[.slice (some ⟨g1,0,none⟩) n n,.slice (some ⟨g2,0,none⟩) n n,.slice none 0 0,.int .i64 0,.int .i64 (-1),.bool false]):Dv w5 ⟨d,g1,g2,.slice none 0 0⟩ (P4 n):=by
 have e:zU ⟨d,g1,g2,.slice none 0 0⟩ (P4 n)=#[.slice (some ⟨g1,0,none⟩) n n,.slice (some ⟨g2,0,none⟩) n n,.slice none 0 0,.int .i64 0,.int .i64 (-1),.bool false]:=by simp[zU,P4]
 exact⟨aa,hb1,hb2,rfl,by show(Aac n ep).length<=1024;rw[wh];exact hn,hne,ak.nil _ _ _ _ _,(λx hx=>by cases hx),A0,Kd⟩
theorem size_alloc(w:af)(o:Obj):(w.alloc o).heap.size=w.heap.size+1:=aq
theorem r6{op:Abn}(hw:Aaa op (Aa1 ops a.tmps)=true)(t:Aab)(i0 i1 i2:Nat)(x0 x1 x2:bO)(ho:op.op=.build t #[(i0,x0),(i1,x1),(i2,x2)])(v0 v1 v2:ah)(h0:a.eval x0=v0)(h1:a.eval x1=v1)(h2:a.eval x2=v2)(C:Array ah)(hb:P.built t [(i0,v0),(i1,v1),(i2,v2)]=some C):Yields P ops op (.agg C) a:=.inl ⟨hw,λw=>by
  unfold Abs;simp only[ho,Aaw,(run_build (P:=P) w t (#[(i0,x0),(i1,x1),(i2,x2)].map λ(i,x)=>(i,a.eval x)) C aa),Aau];rfl⟩
theorem Ho(w w5:af)(hu:Up w w5)(n:Nat)(hn:n<=1024)(g1 g2:Nat)(hg:(g1=w5.heap.size/\g2=w5.heap.size+1)\/(g1=w5.heap.size+1/\g2=w5.heap.size)):Dv (((w5.alloc (.cells (gg (Aac n ep)) 60)).alloc (.cells (gg (Aac n ep)) 60)).alloc (.cells #[.slice (some ⟨g1,0,none⟩) n n,.slice (some ⟨g2,0,none⟩) n n,.slice none 0 0,.int .i64 0,.int .i64 (-1),.bool false] 114)) ⟨w5.heap.size+2,g1,g2,.slice none 0 0⟩ (P4 n)/\Up w (((w5.alloc (.cells (gg (Aac n ep)) 60)).alloc (.cells (gg (Aac n ep)) 60)).alloc (.cells #[.slice (some ⟨g1,0,none⟩) n n,.slice (some ⟨g2,0,none⟩) n n,.slice none 0 0,.int .i64 0,.int .i64 (-1),.bool false] 114))/\∀b,cI ⟨w5.heap.size+2,g1,g2,.slice none 0 0⟩ b->w.heap.size<=b:=by
 have ba:=((aH.newAt w5 _ rfl 60 (gg (Aac n ep))).up (ai _ (.cells (gg (Aac n ep)) 60))).up (ai _ (.cells #[.slice (some ⟨g1,0,none⟩) n n,.slice (some ⟨g2,0,none⟩) n n,.slice none 0 0,.int .i64 0,.int .i64 (-1),.bool false] 114));have bb:=(aH.newAt (w5.alloc (.cells (gg (Aac n ep)) 60)) (w5.heap.size+1) aq 60 (gg (Aac n ep))).up (ai _ (.cells #[.slice (some ⟨g1,0,none⟩) n n,.slice (some ⟨g2,0,none⟩) n n,.slice none 0 0,.int .i64 0,.int .i64 (-1),.bool false] 114));obtain⟨bd,hs⟩:=aA (aH.newAt ((w5.alloc (.cells (gg (Aac n ep)) 60)).alloc (.cells (gg (Aac n ep)) 60)) (w5.heap.size+2) aq 114 #[.slice (some ⟨g1,0,none⟩) n n,.slice (some ⟨g2,0,none⟩) n n,.slice none 0 0,.int .i64 0,.int .i64 (-1),.bool false]) hu.size;refine⟨?_,((hu.alloc _).alloc _).alloc _,?_⟩
 ·grind [WJ]
 ·rintro b(hb|hb|hb|hb)
  ·grind
  ·grind
  ·grind
  ·cases hb
theorem Sw(w:af)(m:Nat)(h1:m<=1024):Aae Aag 24 #[i6 (m:Int)] w λe w'=>∃h,e=.returned (pz h.d)/\Dv w' h (P4 m)/\Up w w'/\∀b,cI h b->w.heap.size<=b:=by
 have h0:¬(m:Int)<0:=ae
 have h2:(m:Int)<=1024:=ae
 go_in;go_wp2;have e7:=(Up.refl w).drew;refine wp_region_any ay ?_;change wpAny _ _ _ _ 7 _ _ w.drew;generalize w.drew=w5 at *;refine AR (i:=0) (v:=i6 ((m:Nat):Int)) rfl av av av (λ_ _ _ h=>h) (.inl ⟨rfl,λ_=>rfl⟩) ?_;refine AR (i:=2) (v:=i6 ((m:Nat):Int)) rfl av av av (λ_ _ _ h=>h) (.inl ⟨rfl,λ_=>rfl⟩) ?_;simp only[Aas,gh];refine wW 1 3 _ _ av rfl rfl rfl rfl ?_ ?_
 ·refine rI 111 (.tmp 7) (.tmp 7) rfl _ _ _ _ underlying111 qS m ae ae rfl rfl _ (q9 m) ?_;refine ih 3 _ av rfl rfl ?_;refine rI 111 (.tmp 9) (.tmp 9) rfl _ _ _ _ underlying111 qS m ae ae rfl rfl _ (q9 m) ?_;have F:=an (Ho w _ e7 m ae _ _ (.inl ⟨rfl,rfl⟩));simp only[Aas,gh,size_alloc];refine AR (i:=4) (v:=.agg #[cv w5.heap.size m m,cv (w5.heap.size+1) m m,nl,i6 0,i6 (-1),.bool false]) rfl av av av (λ_ _ _ h=>h) (r6 rfl _ 0 1 4 (.tmp 8) (.tmp 10) (.const (i6 (-1))) rfl _ _ _ rfl rfl rfl _ (CS _ _ rfl rfl)) ?_;exact TZ
 ·refine rI 111 (.tmp 9) (.tmp 9) rfl _ _ _ _ underlying111 qS m ae ae rfl rfl _ (q9 m) ?_;refine ih 1 _ av rfl rfl ?_;refine rI 111 (.tmp 7) (.tmp 7) rfl _ _ _ _ underlying111 qS m ae ae rfl rfl _ (q9 m) ?_;have F:=an (Ho w _ e7 m ae _ _ (.inr ⟨rfl,rfl⟩));simp only[Aas,gh,size_alloc];refine AR (i:=4) (v:=.agg #[cv (w5.heap.size+1) m m,cv w5.heap.size m m,nl,i6 0,i6 (-1),.bool false]) rfl av av av (λ_ _ _ h=>h) (r6 rfl _ 0 1 4 (.tmp 8) (.tmp 10) (.const (i6 (-1))) rfl _ _ _ rfl rfl rfl _ (CS _ _ rfl rfl)) ?_;exact TZ
section
variable {P:bx}
end
def r7:Array ah:=(Aac 1024 (Acj .u8 0)++Aac 16 (Acj .i64 0)).toArray
theorem CU:prog.built 165 []=some r7:=av
theorem Wd:∀W:af,(Ab9 165).run Aag W=.ok (.agg r7) W:=(lq (P:=Aag) (t:=165) (v:=.agg r7) (n:=1040) ay).1
theorem XG(n:Nat)(v:α)(i:Nat)(h:i<n):(Aac n v)[i]?=some v:=aa
theorem XH(n:Nat)(v:α):κ (Aac n v)=n:=aq
theorem QG(j:Nat):gQ (λ_=>0) j=0:=ay
theorem Yg(i:Nat)(hi:i<1040):r7[i]?=some (A2 (λ_=>0) i):=by unfold r7 A2;grind [XH,XG,QG]
def j0(n:Nat):Nat->Nat:=λi=>if 4<=i/\i<n then 1 else 0
theorem P8(h:4<=k):e7 (j0 k) k 1=j0 (k+1):=by grind [e7,j0]
theorem P7:j0 4=λ_=>0:=by grind [j0]
theorem BR(w:af)(n:Nat)(h1:4<=n)(h2:n<=1024):Aae Aag 57 #[i6 (n:Int)] w λe w'=>e=.returned (pz w.heap.size)/\ck w' w.heap.size (j0 n)/\Up w w':=by
 have S0:=an (show ck (w.alloc (.cells r7 165)) w.heap.size (j0 4)from by rw[P7];exact⟨_,aH.new w 165 r7,by simp[r7],Yg⟩)
 have hm:min (n:Int) 1024=(n:Int):=ae
 go_in;go_wp2_with(refine arm ?_);go_loopw [4] (λi wr=>∃k:Nat,4<=k/\k<=n/\i=i6 k/\ck wr w.heap.size (j0 k)/\Up w wr) (λi _=>n-(Aat i).toNat)
 case atStart=>exact⟨4,ae,h1,rfl,S0,ai _ _⟩
 case round=>
  obtain⟨k,aa,hk,rfl,hS,upr⟩:=hrel;by_cases hlt:k<n
  ·have ST:=an (vl wr w.heap.size _ hS k 1 ae);rw[P8 aa]at ST;have b2:((k:Int)<(n:Int))=True:=by simp;omega
   go_wp2_with fail;refine ST.mono ?_;rintro e w1⟨rfl,S1,T1⟩;go_wp2;go_roundw
   case rel=>exact⟨k+1,ae,ae,aq,S1,(T1.up upr (λb hb=>ae))⟩
   case measure=>simp[Aat];omega
  ·obtain rfl:k=n:=by omega
   have b2:((k:Int)<(k:Int))=False:=aq
   go_wp2;go_ret;exact⟨rfl,hS,upr⟩
theorem PI:(prog.info? 165).map (·.size)=some 1040:=av
theorem Hg{b n:Nat}{f:Nat->ah}(h:aH w b t C)(hn:C.size=n)(hc:∀i,i<n->C[i]?=some (f i))(h1:∀i,i<n->(f i).oneCell'=true):C.all (·.oneCell')=true:=aQ
theorem Ld(w:af)(b:Nat)(s:Nat->Nat)(S:ck w b s):Aae Aag 87 #[pz b] w λe w'=>e=.returned (pz w.heap.size)/\ck w' w.heap.size s/\Up w w':=by
 obtain⟨C,h1,h2,h3⟩:=S;have HI:=an (show(prog.info? 165).map (·.size)=some C.size by rw[h2];exact PI);go_in;go_wp2_with(first
  | refine arm ?_
  | ((with_reducible refine cu 165 (.tmp 3) (.tmp 6) ?_);refine fC w rfl 165 (.tmp 3) (.tmp 6) rfl C 165 r7 rfl rfl rfl HI (by rw[h2];simp[r7]) (Hg h1 h2 h3 (λi _=>by unfold A2;split<;>rfl)) ?_))
 go_ret;exact⟨rfl,⟨C,aH.new w _ C,h2,h3⟩,ai _ _⟩
def iv(s:Nat->Nat)(n:Nat):Nat->Nat:=λi=>if i<n/\s i=3 then 1 else s i
theorem JT{s:Nat->Nat}(h:s k=3):e7 (iv s k) k 1=iv s (k+1):=by grind [e7,iv]
theorem Po{s:Nat->Nat}(h:s k≠3):iv s k=iv s (k+1):=by grind [iv]
theorem Pn(s:Nat->Nat)(k:Nat):iv s k k=s k:=by simp[iv]
theorem IF(w:af)(b:Nat)(s:Nat->Nat)(S:ck w b s):Aae Aag 218 #[pz b] w λe w'=>e=rt #[]/\ck w' b (iv s 1024)/\Touch (·=b) w w':=by
 go_in;go_wp2;go_loopw [3] (λi wr=>∃k:Nat,k<=1024/\i=i6 k/\ck wr b (iv s k)/\Touch (·=b) w wr) (λi _=>1024-(Aat i).toNat)
 case atStart=>exact⟨0,ae,rfl,cm,Touch.refl _ _⟩
 case round=>
  obtain⟨k,hk,rfl,hS,ht⟩:=hrel;by_cases hlt:k<1024
  ·have I:=zh wr b _ hS k 3;rw[qX _ k 3 hlt,Pn]at I;have b2:((k:Int)<1024)=True:=by simp;omega
   by_cases h3:s k=3
   ·rw[h3]at I;have ST:=an (vl wr b _ hS k 1 hlt);rw[JT h3]at ST;go_wp2_with fail;refine I.mono ?_;rintro e w1⟨rfl,rfl⟩;go_wp2_with fail;refine ST.mono ?_;rintro e w1⟨rfl,S1,T1⟩;have T1:=an (ht.trans T1 (λn h _=>h));go_wp2;go_roundw
    case rel=>exact⟨k+1,ae,aq,S1,T1⟩
    case measure=>simp[Aat];omega
   ·rw[iY h3]at I;rw[Po h3]at hS;go_wp2_with fail;refine I.mono ?_;rintro e w1⟨rfl,rfl⟩;go_wp2;go_roundw
    case rel=>grind
    case measure=>simp[Aat];omega
  ·obtain rfl:k=1024:=by omega
   have b2:((1024:Nat):Int)=1024:=rfl;go_wp2;go_end0;grind
def k6(s:Nat)(l:List au):List au:=l.filter (λp=>decide (p.aT<=s))
def hJ(s:Nat)(l:List au):List au:=l.filter (λp=>decide (s<p.aT))
theorem hy:(prog.info? 87).map (λi=>(i.zero,i.size,i.bytes))=some (some (.agg #[.int .i64 0,.int .u64 0,.int .u32 0]),3,24):=av
theorem xc(p:α->Bool)(l:List α)(k:Nat)(h:k<κ l):(l.take (k+1)).filter p=(l.take k).filter p++(if p l[k]=true then [l[k]] else []):=by rw[en h,ki];grind
theorem rl(w:af)(b:Nat)(hb:b=w.heap.size)(l:Int)(bi s:Nat):cX (w.alloc (.cells #[.int .i64 l,.int .u64 bi,.int .u32 s] 87)) (.slice (some ⟨b,0,none⟩) 1 1) [⟨l,bi,s⟩]:=aI.er w b hb _ _ _ _ _ rfl ax rfl
theorem QT(w:af)(v:ah)(l:List au)(hv:cX w v l)(s:Nat)(hr:κ l*24<=140737488355328):Aae Aag 207 #[v,.int .u64 (s:Int)] w λe w'=>∃u1 u2,e=rt #[u1,u2]/\bf w' w.heap.size u1 (k6 s l)/\bf w' w.heap.size u2 (hJ s l)/\Up w w':=by
 have hlen:=hv.length_le;obtain⟨a,cap,rfl⟩:=hv.slice;go_in;go_wp2_with fail;go_loopw [6,7,12] (λu1 u2 i wr=>∃k:Nat,k<=κ l/\i=i6 k/\bf wr w.heap.size u1 (k6 s (l.take k))/\bf wr w.heap.size u2 (hJ s (l.take k))/\pk u1 u2/\Up w wr) (λ_ _ i _=>κ l-(Aat i).toNat)
 case atStart=>exact⟨0,bE _,rfl,ak.nil _ _ _ _ _,ak.nil _ _ _ _ _,.inl rfl,Up.refl _⟩
 case round=>
  obtain⟨k,hk,rfl,aO,aP,aV,upr⟩:=hrel;by_cases hlt:k<κ l
  ·obtain⟨b,off,rfl,hbs,bd,hc⟩:=ru (aI.up hv upr) ae;obtain⟨aJ,al,aj⟩:=db ((hc k hlt).1) ((hc k hlt).2.1) ((hc k hlt).2.2);refine iP ?_;intro b2;obtain⟨S,E1,E2⟩:=aW (λW=>DI W l[k] s) (xc (λp:au=>decide (p.aT<=s)) l k hlt) (xc (λp:au=>decide (s<p.aT)) l k hlt);have aQ:=BN l[k].loc l[k].aT l[k].sum s;have aR:l[k]=⟨l[k].loc,l[k].aT,l[k].sum⟩:=rfl;rw[<-aR]at aQ;have ay:=an aQ;clear hc aQ aR;have aH:κ (k6 s (l.take k))<=k:=by unfold k6;exact bN (p5 _ _) ab
   have aB:κ (hJ s (l.take k))<=k:=by unfold hJ;exact bN (p5 _ _) ab
   generalize l[k]=p at *;obtain⟨pl,pb,ps⟩:=p;unfold fA at S;simp only at S aJ al aj E1 E2 ay;generalize e6 ⟨pl,pb,ps⟩ s=g at *;obtain⟨ag,aL,aF,HV⟩:=bR aO aP aV hv;clear aO aP aV hv;go_wp2_with fail;refine(S _).mono ?_;rintro e w3⟨rfl,az⟩;have upa:=(ai wr (.cells #[i6 pl,.int .u64 pb,.int .u32 ps] 87)).trans az;have d0:w3.cell? (ad wr.heap.size 0)=some (i6 pl):=az.cell (dg wr _ _ _ 0 _ rfl);have d1:w3.cell? (ad wr.heap.size 1)=some (.int .u64 pb):=az.cell (dg wr _ _ _ 1 _ rfl);have d2:w3.cell? (ad wr.heap.size 2)=some (.int .u32 ps):=az.cell (dg wr _ _ _ 2 _ rfl);obtain⟨o1,o2,av⟩:=db (ag.up upa) (aL.up upa) (upr.trans upa);have ar:=av.size;clear az;cases g
   ·have ao:¬s<pb:=by intro h;have:=ay.2 ⟨ae,h⟩;cases this
    have e1:k6 s (l.take (k+1))=k6 s (l.take k)++[⟨pl,pb,ps⟩]:=by unfold k6;rw[E1.out,bo ab]
    have e2:hJ s (l.take (k+1))=hJ s (l.take k):=by unfold hJ;rw[E2.out,aM ab,Ab5]
    obtain⟨aC,aK⟩:=aw e1 e2;clear e1 e2;go_wp2_with(at_builtin;refine eN pw rfl (.tmp 23) (.tmp 25) 88 rfl w.heap.size 87 (.agg #[i6 0,.int .u64 0,.int .u32 0]) 24 Aaq hy rfl _ (k6 s (l.take k)) rfl (o1.up (ai _ _)) (cv w3.heap.size 1 1) [⟨pl,pb,ps⟩] rfl (rl w3 w3.heap.size rfl pl pb ps) ab ab ab ?_);intro v' w5 aa aD ax aq;have aU:=o2.up (ai w3 (.cells #[i6 pl,.int .u64 pb,.int .u32 ps] 87));obtain⟨k2,ap⟩:=aA (aU.kept aD (pk.symm aF)) (((pk.symm aF).grown aq (λn hn=>(aU.aN n hn).2)).symm);go_wp2_with fail;go_roundw
    case rel=>exact⟨k+1,ae,fJ,by rw[aC.out];exact aa,by rw[aK.out];exact k2,ap,(av.alloc _).aE ax (aG _)⟩
    case measure=>simp[Aat];omega
   ·have aX:=(ay.1 rfl).2;have e1:k6 s (l.take (k+1))=k6 s (l.take k):=by unfold k6;rw[E1.out,aM ab,Ab5]
    have e2:hJ s (l.take (k+1))=hJ s (l.take k)++[⟨pl,pb,ps⟩]:=by unfold hJ;rw[E2.out,bo ab]
    obtain⟨aC,aK⟩:=aw e1 e2;clear e1 e2;go_wp2_with(at_builtin;refine eN pw rfl (.tmp 19) (.tmp 21) 88 rfl w.heap.size 87 (.agg #[i6 0,.int .u64 0,.int .u32 0]) 24 Aaq hy rfl _ (hJ s (l.take k)) rfl (o2.up (ai _ _)) (cv w3.heap.size 1 1) [⟨pl,pb,ps⟩] rfl (rl w3 w3.heap.size rfl pl pb ps) ab ab ab ?_);intro v' w5 aa aD ax aq;have aS:=o1.up (ai w3 (.cells #[i6 pl,.int .u64 pb,.int .u32 ps] 87));obtain⟨k1,ap⟩:=aA (aS.kept aD aF) (aF.grown aq (λn hn=>(aS.aN n hn).2));go_wp2_with fail;go_roundw
    case rel=>exact⟨k+1,ae,fJ,by rw[aC.out];exact k1,by rw[aK.out];exact aa,ap,(av.alloc _).aE ax (aG _)⟩
    case measure=>simp[Aat];omega
  ·obtain rfl:k=κ l:=by omega
   rw[fx]at *;go_wp2_with fail;go_ret2;exact⟨_,_,rfl,aO,aP,upr⟩
theorem ZK(l l2:Int)(b s b2 s2:Nat)(W:af):(Ack 10000 87 (.agg #[i6 l,u6 (b:Int),.int .u32 (s:Int)]) (.agg #[i6 l2,u6 (b2:Int),.int .u32 (s2:Int)])).run Aag W=.ok (decide ((⟨l,b,s⟩:au)=⟨l2,b2,s2⟩)) W:=by
 have e:decide ((⟨l,b,s⟩:au)=⟨l2,b2,s2⟩)=((l==l2) && (((b:Int)==(b2:Int)) && ((s:Int)==(s2:Int)))):=aQ
 rw[e];exact Nr
theorem kg{p q r:au}(h:dm p q=true)(h2:dm q r=true):dm p r=true:=by obtain⟨l,b,s⟩:=p;obtain⟨l2,b2,s2⟩:=q;obtain⟨l3,b3,s3⟩:=r;grind [qZ]
theorem tZ(p:au):dm p p=false:=by obtain⟨l,b,s⟩:=p;grind [qZ]
theorem HV{p q:au}(h:dm p q=false)(h2:dm q p=false):p=q:=by obtain⟨l,b,s⟩:=p;obtain⟨l2,b2,s2⟩:=q;grind [qZ]
def qJ(l:List au):Prop:=∀i j(hj:j<κ l)(aj:i<j),dm (l[i]' ae) l[j]=true
theorem Gq(h:hn l=true):qJ l:=by
 rw[ja]at h;intro i j;induction j with
 | zero=>omega
 | succ j ih=>grind [Xy,kg]
def ho(l:List au)(q:au):Nat:=κ (l.takeWhile (λp=>dm p q))
theorem Oc:∀(l:List au)(q:au)(i:Nat)(aa:i<=κ l),(∀k(hk:k<κ l),k<i->dm l[k] q=true)->(∀h:i<κ l,dm l[i] q=false)->ho l q=i
 | [],q,i,hi,_,_=>by simp at hi;subst hi;rfl
 | x::l,q,0,_,_,h2=>by have:=h2 aq;simp at this;simp[ho,Ab4,this]
 | x::l,q,i+1,hi,h1,h2=>by have hx:dm x q=true:=h1 0 aq ae;have ih:=Oc l q i AY (λk hk ab=>h1 (k+1) (by simpa using hk) ae) (λh=>h2 jG);unfold ho at *;simp[Ab4,hx,ih]
theorem XE(l:List au)(q:au):ho l q<=κ l:=by unfold ho;exact(List.takeWhile_sublist _).length_le
theorem Ip(l:List au)(q:au)(h:ho l q<κ l):dm l[ho l q] q=false:=by
 induction l with
 | nil=>simp at h
 | cons x l ih=>
  cases hx:dm x q
  ·have e:ho (x::l) q=0:=by simp[ho,Ab4,hx]
   simp_all
  ·have e:ho (x::l) q=ho l q+1:=by simp[ho,Ab4,hx]
   simp_all
theorem Od{q:au}:∀k(hk:k<κ l),k<ho l q->dm l[k] q=true:=by
 induction l with
 | nil=>simp
 | cons x l ih=>
  intro k hk hlt;cases hx:dm x q
  ·have e:ho (x::l) q=0:=by simp[ho,Ab4,hx]
   omega
  ·have e:ho (x::l) q=ho l q+1:=by simp[ho,Ab4,hx]
   cases k with
   | zero=>assumption
   | succ k=>simp_all
def vK(l:List au)(q:au):Option (List au):=if nD q=true/\q ∉ l then some (l.take (ho l q)++q::l.drop (ho l q))else none
theorem Xn(hs:qJ l)(q:au):q∈l↔∃h:ho l q<κ l,l[ho l q]=q:=by
 constructor
 ·intro hm;obtain⟨j,hj,rfl⟩:=ls hm;have h1:¬j<ho l l[j]:=λh=>by have:=Od j hj h;grind [tZ]
  refine⟨ae,?_⟩;by_cases e:ho l l[j]=j
  ·simp_all
  ·have:=hs (ho l l[j]) j hj ae;grind [Ip]
 ·grind
theorem G5{v:ah}(hv:cX w v l)(k:Nat)(hk:k<κ l):∃b off cap,v=.slice (some ⟨b,off,none⟩) (κ l) cap/\w.cell? ⟨b,off+k*3,none⟩=some (.int .i64 l[k].loc)/\w.cell? ⟨b,off+k*3+1,none⟩=some (.int .u64 (l[k].aT:Int))/\w.cell? ⟨b,off+k*3+2,none⟩=some (.int .u32 (l[k].sum:Int)):=by obtain⟨a,cap,rfl⟩:=hv.slice;grind [ru]
theorem Hj(w:af)(v:ah)(l:List au)(hv:cX w v l)(q:au)(b1 b2:Nat)(c0:w.cell? (ad b1 0)=some v)(d0:w.cell? (ad b2 0)=some (i6 q.loc))(d1:w.cell? (ad b2 1)=some (u6 (q.aT:Int)))(d2:w.cell? (ad b2 2)=some (.int .u32 (q.sum:Int)))(k:Nat)(hk:k<κ l):Aae Aag 223 #[i6 (k:Int),pz b1,pz b2] w λe w'=>j7 (!dm l[k] q) w e w':=by
 obtain⟨b,off,cap,rfl,e0,e1,e2⟩:=G5 hv k hk;have L:=an (show px (fA l[k]) (fA q) (dm l[k] q)from⟨λW=>tY W l[k] q⟩);refine Kl ?_;intro x0 x1 x2 x3 x4 x5 x6;have t1:((k:Int)<(κ l:Int))=True:=ab
 generalize l[k]=p at *;obtain⟨pl,pb,ps⟩:=p;obtain⟨ql,qb,qs⟩:=q;unfold fA at L;simp only at L x0 x1 x2 x3 x4 x5 x6;generalize dm ⟨pl,pb,ps⟩ ⟨ql,qb,qs⟩=g at *;go_in;go_wp2;refine g' ?_;repeat(go_big_quiet_step ((go_at_call 224;exact km (lV _ _ _ _ L))))
 refine yy ?_;intro w4 ay;obtain⟨⟨d,os⟩,hw4⟩:=ay;have up4:Up w w4:=FB
 clear hw4 x0 x1 x2 x3 x4 x5 x6;go_wp2_with fail;go_ret;exact⟨rfl,up4⟩
theorem K7(w:af)(v:ah)(l:List au)(hv:cX w v l)(hs:qJ l)(q:au)(b1 b2:Nat)(c0:w.cell? (ad b1 0)=some v)(d0:w.cell? (ad b2 0)=some (i6 q.loc))(d1:w.cell? (ad b2 1)=some (u6 (q.aT:Int)))(d2:w.cell? (ad b2 2)=some (.int .u32 (q.sum:Int)))(n:Nat)(hn:n=κ l)(aS:n<=4611686018427387903):Aae Aag 222 #[i6 (n:Int),.func (.func 223) #[] #[pz b1,pz b2]] w λe w'=>e=.returned (i6 (ho l q:Nat))/\Up w w':=by
 obtain⟨HN,HV,HS⟩:=aW hn hv hs;have C:=an (show ∀wr,Up w wr->∀k(hk:k<κ l),Aae Aag 223 #[i6 (k:Int),pz b1,pz b2] wr λe w'=>j7 (!dm l[k] q) wr e w' from λwr up k hk=>Hj wr v l (aI.up hv up) q b1 b2 (up.cell c0) (up.cell d0) (up.cell d1) (up.cell d2) k hk);clear hn hv hs c0 d0 d1 d2;go_in;go_wp2_with fail;go_loopw [5,6] (λi j wr=>∃a b:Nat,i=i6 a/\j=i6 b/\a<=b/\b<=n/\(∀k(hk:k<κ l),k<a->dm l[k] q=true)/\(∀k(hk:k<κ l),b<=k->dm l[k] q=false)/\Up w wr) (λi j _=>(Aat j).toNat-(Aat i).toNat)
 case atStart=>exact⟨0,n,rfl,rfl,ae,ae,λk hk h=>ae,λk hk h=>dL,Up.refl _⟩
 case round=>
  obtain⟨a,b,rfl,rfl,aC,aX,h1,h2,upr⟩:=hrel;obtain⟨H1,H2⟩:=aw h1 h2;clear h1 h2;by_cases hlt:a<b
  ·have t1:((a:Int)<(b:Int))=True:=by simp;omega
   have ar:(a<b)=True:=ab
   obtain⟨h,hh⟩:=bK ((a+b)/2);have aa:h<κ l:=dL
   have e1:IntKind.i64.wrap ((a:Int)+(b:Int))=(a:Int)+(b:Int):=aY (a+b) ae;have e2:((a:Int)+(b:Int))/2=(h:Int):=ae
   have e3:IntKind.i64.wrap ((h:Int)+1)=(h:Int)+1:=aY (h+1) ae;have ag:a<=h:=ae
   have ai:h<b:=ae
   have CC:=an (C wr upr h aa);cases hg:dm l[h] q
   ·have K:∀k(hk:k<κ l),h<=k->dm l[k] q=false:=λk hk hle=>by
     by_cases e:k=h
     ·grind
     ·cases h3:dm l[k] q
      ·rfl
      ·have:=kg (HS h k hk ae) h3;grind
    have KK:=an K;rw[hg]at CC;clear hg K hh;go_wp2_with fail;refine CC.mono ?_;rintro e w3⟨rfl,az⟩;go_wp2_with fail;go_roundw
    case rel=>exact⟨a,h,rfl,rfl,ae,ae,H1,KK,upr.trans az⟩
    case measure=>simp[Aat];omega
   ·have K:∀k(hk:k<κ l),k<h+1->dm l[k] q=true:=λk hk hle=>by
     by_cases e:k=h
     ·grind
     ·exact kg (HS k h aa ae) hg
    have KK:=an K;rw[hg]at CC;clear hg K hh;go_wp2_with fail;refine CC.mono ?_;rintro e w3⟨rfl,az⟩;go_wp2_with fail;go_roundw
    case rel=>exact⟨h+1,b,aq,rfl,ae,ae,KK,H2,upr.trans az⟩
    case measure=>simp[Aat];omega
  ·obtain rfl:a=b:=by omega
   have hp:ho l q=a:=Oc l q a dL H1 (λh=>H2 a h ae);have HP:=an hp;clear hp;go_wp2_with fail;go_ret;exact⟨by rw[HP.out]<;>rfl,upr⟩
def Wk(o:Option (List au))(w:af)(e:Ab1)(w':af):Prop:=match o with
 | none=>e=.returned (.tuple #[.slice none 0 0,.int .i64 131])/\Up w w'
 | some m=>∃u,e=.returned (.tuple #[u,.int .i64 0])/\bf w' w.heap.size u m/\Up w w'
theorem rB:∀W:af,(sizeOf (prog.elem 88)).run Aag W=.ok 3 W:=λW=>by
 obtain⟨i,hi⟩:∃i,prog.info? (prog.elem 88)=some i:=Ads.1 ay;rw[run_sizeOf W hi];have:prog.cellsOf (prog.elem 88)=3:=av
 rw[this]
theorem ry:prog.underlying 88=some (.slice (prog.elem 88)):=av
theorem Wp(w:af)(v:ah)(l:List au)(hv:cX w v l)(hs:qJ l)(q:au)(hr:κ l*24<=281474976710632):Aae Aag 161 #[v,fA q] w λe w'=>Wk (vK l q) w e w':=by
 have hlen:κ l<=11728124029609:=ae
 obtain⟨w0,aF⟩:=bK ((w.alloc (.cells #[v] 88)).alloc (.cells #[i6 q.loc,u6 (q.aT:Int),.int .u32 (q.sum:Int)] 87));have aK:Up w w0:=by rw[aF];exact(ai _ _).alloc _
 have c0:w0.cell? (ad w.heap.size 0)=some v:=by rw[aF];exact(ai _ _).cell (dg w _ _ _ 0 _ rfl)
 have d0:w0.cell? (ad (w.heap.size+1) 0)=some (i6 q.loc):=by rw[aF,<-Aa3];exact dg _ _ _ _ 0 _ rfl
 have d1:w0.cell? (ad (w.heap.size+1) 1)=some (u6 (q.aT:Int)):=by rw[aF,<-Aa3];exact dg _ _ _ _ 1 _ rfl
 have d2:w0.cell? (ad (w.heap.size+1) 2)=some (.int .u32 (q.sum:Int)):=by rw[aF,<-Aa3];exact dg _ _ _ _ 2 _ rfl
 have aR:cX w0 v l:=aI.up hv aK;obtain⟨SE,F⟩:=aw (K7 w0 v l aR hs q w.heap.size (w.heap.size+1) c0 d0 d1 d2 (κ l) rfl ae) (λW=>Hv W q);obtain⟨ag,aH⟩:=aA (Xn hs q) (XE l q);have a1:vK l q=if nD q=true/\q ∉ l then some (l.take (ho l q)++q::l.drop (ho l q))else none:=rfl;rw[a1];have CA:∀w1,Up w0 w1->w1.cell? (ad w.heap.size 0)=some v/\w1.cell? (ad (w.heap.size+1) 0)=some (i6 q.loc)/\w1.cell? (ad (w.heap.size+1) 1)=some (u6 (q.aT:Int))/\w1.cell? (ad (w.heap.size+1) 2)=some (.int .u32 (q.sum:Int)):=λw1 u=>⟨u.cell c0,u.cell d0,u.cell d1,u.cell d2⟩;have CA':=an CA;obtain⟨aN,TE⟩:=aw aR (λ(h:ho l q<κ l) w1 (u:Up w0 w1)=>G5 (aI.up aR u) (ho l q) h);generalize ho l q=i at *;have aX:∀(h:i<κ l) W,(Ack 10000 87 (.agg #[i6 l[i].loc,u6 (l[i].aT:Int),.int .u32 (l[i].sum:Int)]) (.agg #[i6 q.loc,u6 (q.aT:Int),.int .u32 (q.sum:Int)])).run Aag W=.ok (decide (l[i]=q)) W:=λh W=>ZK l[i].loc q.loc l[i].aT l[i].sum q.aT q.sum W;have ao:=an aX;cases hf:nD q
 case false=>
  rw[aM aq];rw[hf]at F;show Aae _ _ _ _ λe w'=>e=rt #[nl,i6 131]/\Up w w';obtain⟨ql,qb,qs⟩:=q;unfold fA at *;simp only at CA' F SE aF;go_in;obtain⟨a,cap,rfl⟩:=aN.slice;go_wp2_with fail;rw[<-aF];refine SE.mono ?_;rintro e w1⟨rfl,up1⟩;obtain⟨c0,d0,d1,d2⟩:=CA' w1 up1;obtain⟨x0,x1,x2,x3,aU⟩:=xN (dR c0) (dR d0) (dR d1) (dR d2) (aK.trans up1);go_wp2;refine g' ?_;repeat(go_big_quiet_step ((go_at_call 225;exact km (F _))))
  refine yX ?_;intro w4 d os hw4 up4;clear hw4 x0 x1 x2 x3;go_wp2_with fail;go_ret2;exact⟨rfl,aU.trans up4⟩
 by_cases hm:q∈l
 ·rw[aM ab];rw[hf]at F;obtain⟨hi,he⟩:=ag.1 hm;obtain⟨te,NE⟩:=aA (TE hi) (ao hi);have hd:decide (l[i]=q)=true:=by simp;omega
  rw[hd]at NE;clear hf ag ao TE hd he hm;show Aae _ _ _ _ λe w'=>e=rt #[nl,i6 131]/\Up w w';have t1:((i:Int)<(κ l:Int))=True:=ab
  have t2:decide (i<κ l)=true:=ab
  generalize l[i]=p at *;obtain⟨pl,pb,ps⟩:=p;obtain⟨ql,qb,qs⟩:=q;unfold fA at *;simp only at CA' F SE aF NE te;have TE:=an te;clear te;go_in;obtain⟨a,cap,rfl⟩:=aN.slice;go_wp2_with fail;rw[<-aF];refine SE.mono ?_;rintro e w1⟨rfl,up1⟩;obtain⟨c0,d0,d1,d2⟩:=CA' w1 up1;obtain⟨b,off,av,aO,e0,e1,e2⟩:=TE w1 up1;simp only[Abp,true_and]at aO;obtain⟨rfl,rfl⟩:=aO;refine Kl ?_;intro x0 x1 x2 x3 x4 x5 x6;have aU:=aK.trans up1;clear aF aK up1 c0 d0 d1 d2 e0 e1 e2;go_wp2_with fail;refine g' ?_;repeat(go_big_quiet_step ((go_at_call 225;exact km (F _))))
  refine yX ?_;intro w4 d os hw4 up4;clear hw4 x0 x1 x2 x3 x4 x5 x6;go_wp2_with fail;go_ret2;exact⟨rfl,aU.trans up4⟩
 rw[bo ⟨rfl,hm⟩];rw[hf]at F;have Q:(decide (i<κ l)=false/\((i:Int)<(κ l:Int))=False)\/∃h:i<κ l,decide (l[i]=q)=false:=aQ
 have MK:∀W:af,(Ach 88 (i6 0) (i6 ((κ l:Int)+1))).run Aag W=_:=λW=>by have:=mo (P:=Aag) 88 87 _ 3 24 Aaq hy (κ l+1) ae ae W;simpa using this
 have a':IntKind.i64.wrap ((κ l:Int)+1)=(κ l:Int)+1:=aY (κ l+1) ae;have RM:=an (λW (B:Nat) (hB:B<=W.heap.size)=>ak.room dG 3 87 W (.agg #[i6 0,u6 0,.int .u32 0]) B (κ l+1) hB ae);generalize Acv (Value.agg #[i6 0,u6 0,.int .u32 0]).cells ((κ l+1)*3)=zr at *;obtain⟨Lt,Ld⟩:=aw (show(l.take i).length=i from ab) (show(l.drop i).length=κ l-i from aq);clear hf ag hm;show Aae _ _ _ _ λe w'=>∃u,e=rt #[u,i6 0]/\bf w' w.heap.size u (l.take i++q::l.drop i)/\Up w w';obtain⟨a,cap,rfl⟩:=aN.slice;have ar:κ l<=cap:=by
  rcases aN.out with⟨rfl,_⟩|⟨b,off,av,hx,_,h1,_⟩
  ·simp
  ·grind
 have a7:∀W,(Aav 88 (.slice a (κ l) cap) none (some (i6 (i:Int))) none).run Aag W=.ok (partOf 3 a 0 i cap) W:=xB (P:=Aag) 88 3 ry rB a (κ l) cap i ae;have a8:∀W,(Aav 88 (.slice a (κ l) cap) (some (i6 (i:Int))) none none).run Aag W=.ok (partOf 3 a i (κ l) cap) W:=fY (P:=Aag) 88 3 ry rB a (κ l) cap i aH;have aV:cX w0 (partOf 3 a 0 i cap) (l.take i):=by simpa using aI.part pw aN (lo:=0) (hi:=i) ae aH
 have aW:cX w0 (partOf 3 a i (κ l) cap) (l.drop i):=by simpa using aI.part pw aN (lo:=i) (hi:=κ l) aH (aG _)
 have PI1':=an aV;have PI2':=an aW;clear aV aW;generalize partOf 3 a 0 i cap=pv1 at *;generalize partOf 3 a i (κ l) cap=pv2 at *;rcases Q with⟨q1,q2⟩|⟨hi,hd⟩
 ·clear ao TE;obtain⟨ql,qb,qs⟩:=q;unfold fA at *;simp only at CA' F SE aF;go_in;go_wp2_with fail;rw[<-aF];clear aF;refine SE.mono ?_;rintro e w1⟨rfl,up1⟩;obtain⟨c0,d0,d1,d2⟩:=CA' w1 up1;obtain⟨x0,x1,x2,x3⟩:=iJ (dR c0) (dR d0) (dR d1) (dR d2);clear c0 d0 d1 d2;go_wp2_with fail;refine g' ?_;repeat(go_big_quiet_step ((go_at_call 225;exact km (F _))))
  refine yX ?_;intro w4 d os hw4 up4;clear hw4 x0 x1 x2 x3;exact YA
 ·obtain⟨te,NE⟩:=aA (TE hi) (ao hi);rw[hd]at NE;clear ao TE hd;have t1:((i:Int)<(κ l:Int))=True:=by simp;omega
  have t2:decide (i<κ l)=true:=ab
  generalize l[i]=p at *;obtain⟨pl,pb,ps⟩:=p;obtain⟨ql,qb,qs⟩:=q;unfold fA at *;simp only at CA' F SE aF NE te;have TE:=an te;clear te;go_in;go_wp2_with fail;rw[<-aF];clear aF;refine SE.mono ?_;rintro e w1⟨rfl,up1⟩;obtain⟨c0,d0,d1,d2⟩:=CA' w1 up1;obtain⟨b,off,av,aO,e0,e1,e2⟩:=TE w1 up1;simp only[Abp,true_and]at aO;obtain⟨rfl,rfl⟩:=aO;refine Kl ?_;intro x0 x1 x2 x3 x4 x5 x6;clear c0 d0 d1 d2 e0 e1 e2;go_wp2_with fail;refine g' ?_;repeat(go_big_quiet_step ((go_at_call 225;exact km (F _))))
  refine yX ?_;intro w4 d os hw4 up4;clear hw4 x0 x1 x2 x3 x4 x5 x6;exact YA
def ea:List au->List au->Option (List au)
 | [],b=>some b
 | a,[]=>some a
 | x::a,y::b=>if dm x y=true then(ea a (y::b)).map (x::·)else if dm y x=true then(ea (x::a) b).map (y::·)else none
termination_by a b=>κ a+κ b
theorem rb(b:List au):ea [] b=some b:=by simp[ea]
theorem A4(a:List au):ea a []=some a:=by
 cases a with
 | nil=>exact rb []
 | cons x a=>simp[ea]
theorem A5(a b:List au)(ha:0<κ a)(hb:0<κ b):ea a b=if dm a[0] b[0]=true then(ea (a.drop 1) b).map (a[0]::·)else if dm b[0] a[0]=true then(ea a (b.drop 1)).map (b[0]::·)else none:=by
 cases a with
 | nil=>simp at ha
 | cons x a=>
  cases b with
  | nil=>simp at hb
  | cons y b=>rw[ea];rfl
def Tc:ah->Nat
 | .slice _ n _=>n
 | _=>0
def OG(o:Option (List au))(w:af)(e:Ab1)(w':af):Prop:=(o=none/\e=.returned (.tuple #[.slice none 0 0,.int .i64 131])/\Up w w')\/∃m u,o=some m/\e=.returned (.tuple #[u,.int .i64 0])/\bf w' w.heap.size u m/\Up w w'
theorem PV(w:af)(v v2:ah)(a0 b0:List au)(hv:cX w v a0)(ao:cX w v2 b0)(hr:(κ a0+κ b0)*24<=281474976710656):Aae Aag 208 #[v,v2] w λe w'=>OG (ea a0 b0) w e w':=by
 obtain⟨T,hT⟩:=bK (κ a0+κ b0);refine NQ ?_;intro MK;have RM:=an (λW (B:Nat) (hB:B<=W.heap.size)=>ak.room dG 3 87 W (.agg #[i6 0,u6 0,.int .u32 0]) B T hB ae);generalize Acv (Value.agg #[i6 0,u6 0,.int .u32 0]).cells (T*3)=zr at *;have wt:IntKind.i64.wrap ((κ a0:Int)+(κ b0:Int))=(T:Int):=by rw[show(κ a0:Int)+(κ b0:Int)=(T:Int)from ae];exact aY T ae
 obtain⟨va,ca,rfl⟩:=hv.slice;obtain⟨vb,cb,rfl⟩:=ao.slice;obtain⟨na,aM⟩:=bK (κ a0);obtain⟨nb,aS⟩:=bK (κ b0);rw[<-aM]at hv wt ⊢;rw[<-aS]at ao wt ⊢;obtain⟨aR,aO,HT,HV,a6⟩:=eI aM aS hT hv ao;have a1:T*24<=281474976710656:=ae
 clear aM aS hT hr;go_in;go_wp2;have aH:=RM w w.heap.size (aG _);obtain⟨g,hg⟩:=bK (w.heap.size);go_loopw [0,1,6] (λs t u wr=>∃(a b out:List au)(pa pb:Option Addr)(ka kb n m z:Nat),s=.slice pa n ka/\n=κ a/\cX w (.slice pa n ka) a/\t=.slice pb m kb/\m=κ b/\cX w (.slice pb m kb) b/\u=cv g z T/\z=κ out/\bf wr w.heap.size (cv g z T) out/\z+n+m=T/\ea a0 b0=(ea a b).map (out++·)/\Up w wr) (λs t _ _=>Tc s+Tc t)
 case atStart=>
  have hz:=ai w (.cells zr 87);refine⟨a0,b0,[],va,vb,ca,cb,na,nb,0,rfl,aR,HV,rfl,aO,a6,by rw[hg],rfl,by rw[hg];exact aH,?_,?_,hz⟩
  ·have:=aR.out;have:=aO.out;have:=HT.out;omega
  ·simp
 case round=>
  obtain⟨a,b,out,pa,pb,ka,kb,n,m,z,rfl,hn,ha,rfl,hm,hb,rfl,hz,hown,aN,aL,upr⟩:=hrel;clear MK wt;obtain⟨HA,HB,HO,HN,HM,HZ,aA,HG⟩:=Oo ha hb hown hn hm hz aL hg;clear aL hz hg;by_cases h0:0<n/\0<m
  ·obtain⟨bc,a'⟩:=h0;have la:0<κ a:=by omega
   have lb:0<κ b:=ae
   have MS:=A5 a b la lb;obtain⟨ba,oa,rfl,_,aU,hca⟩:=ru (aI.up HA upr) la;obtain⟨bb,ob,rfl,_,bd,aC⟩:=ru (aI.up HB upr) lb;obtain⟨c0,c1,c2,e0,e1,e2⟩:=qA ((hca 0 la).1) ((hca 0 la).2.1) ((hca 0 la).2.2) ((aC 0 lb).1) ((aC 0 lb).2.1) ((aC 0 lb).2.2);simp only[Nat.zero_mul,Nat.add_zero]at c0 c1 c2 e0 e1 e2;obtain⟨n',ag⟩:∃x,x=n-1:=⟨_,rfl⟩;obtain⟨m',aD⟩:∃x,x=m-1:=⟨_,rfl⟩;obtain⟨aP,aF⟩:∃p:Option Addr,p=(if ka=1 then some ⟨ba,oa,none⟩ else(some (⟨ba,oa,none⟩:Addr)).map (·.add (1*3))):=⟨_,rfl⟩;obtain⟨aQ,az⟩:∃p:Option Addr,p=(if kb=1 then some ⟨bb,ob,none⟩ else(some (⟨bb,ob,none⟩:Addr)).map (·.add (1*3))):=⟨_,rfl⟩;have PA:∀W,(Aav 88 (sq ba oa n ka) (some (i6 1)) none none).run Aag W=.ok (.slice aP n' (ka-1)) W:=λW=>by have:=fY (P:=Aag) 88 3 ry rB (some ⟨ba,oa,none⟩) n ka 1 ae W;rw[aF,ag];exact this
   have PB:∀W,(Aav 88 (sq bb ob m kb) (some (i6 1)) none none).run Aag W=.ok (.slice aQ m' (kb-1)) W:=λW=>by have:=fY (P:=Aag) 88 3 ry rB (some ⟨bb,ob,none⟩) m kb 1 ae W;rw[az,aD];exact this
   have RA:=an (show cX w (.slice aP n' (ka-1)) (a.drop 1)by have:=aI.part pw HA (lo:=1) (hi:=n) ae ae;rw[hn,fx,<-hn]at this;rw[aF,ag];exact this)
   have RB:=an (show cX w (.slice aQ m' (kb-1)) (b.drop 1)by have:=aI.part pw HB (lo:=1) (hi:=m) ae ae;rw[hm,fx,<-hm]at this;rw[az,aD];exact this)
   obtain⟨L1,L2,DA,DB⟩:=bR (show px (fA a[0]) (fA b[0]) (dm a[0] b[0])from⟨λW=>tY W _ _⟩) (show px (fA b[0]) (fA a[0]) (dm b[0] a[0])from⟨λW=>tY W _ _⟩) (show n'=κ (a.drop 1) by rw[hP];omega) (show m'=κ (b.drop 1) by rw[hP];omega);have t1:decide ((0:Int)<(n:Int))=true:=ab
   have ar:decide (0<n)=true:=ab
   have t2:decide ((0:Int)<(m:Int))=true:=ab
   have aW:decide (0<m)=true:=ab
   have t3:((0:Int)<(n:Int))=True:=ab
   have t4:((0:Int)<(m:Int))=True:=ab
   obtain⟨aT,aq⟩:=aw (show n'+1=n from ae) (show m'+1=m from ae);clear hca aC aF az hn hm ag aD;generalize a[0]=x at *;generalize b[0]=y at *;obtain⟨pl,pb,ps⟩:=x;obtain⟨ql,qb,qs⟩:=y;unfold fA at L1 L2;simp only at c0 c1 c2 e0 e1 e2 L1 L2 MS;generalize dm ⟨pl,pb,ps⟩ ⟨ql,qb,qs⟩=a7 at *;generalize dm ⟨ql,qb,qs⟩ ⟨pl,pb,ps⟩=a8 at *;obtain⟨x0,x1,x2,x3,x4,x5⟩:=qA (dR c0) (dR c1) (dR c2) (dR e0) (dR e1) (dR e2);go_wp2;cases a7
   case true=>
    have aK:=an (show ea a b=(ea (a.drop 1) b).map (⟨pl,pb,ps⟩::·)by rw[MS];simp);clear MS;refine uK ?_;repeat(go_big_quiet_step ((go_at_call 224;exact km (lV _ _ _ _ L1))))
    refine yY ?_;intro w4 d os hw4 up4;clear hw4;clear x0 x1 x2 x3 x4 x5;obtain⟨c0,c1,c2,o4,ad⟩:=xN (up4.cell c0) (up4.cell c1) (up4.cell c2) (HO.up up4) (upr.trans up4);go_wp2;go_region_law ((refine step_append_room pw rfl (.tmp 29) (.tmp 33) 88 rfl _ _ _ _ Aaq hy g T z _ HZ rfl (o4.up ((Up.refl _).drew.alloc _)) _ _ rfl (rl _ _ rfl _ _ _) (z+1) yR ae (bN ad.size ((Up.refl _).drew.alloc _).size) ?_;intro w5 aa _ ax));all_goals
     have al:=(ad.drew.alloc _).aE ax (aG _);go_wp2;go_simp;exact⟨⟨_,_,_,_,_,⟨a.drop 1,b,out++[⟨pl,pb,ps⟩],aP,some ⟨bb,ob,none⟩,ka-1,kb,n',rfl,DA,RA,m,rfl,HM,HB,z+1,rfl,by rw[Aaf,HZ.out];rfl,aa,by have:=aT.out;omega,by rw[aA.out,aK.out];cases ea (a.drop 1) b<;>simp⟩,rfl,rfl,rfl,rfl,rfl⟩,by have:=aT.out;show n'<n;omega⟩
   case false=>
    refine uK ?_;repeat(go_big_quiet_step ((go_at_call 224;exact km (lV _ _ _ _ L1))))
    refine yY ?_;intro w4 d os hw4 up4;clear hw4;clear x0 x1 x2 x3 x4 x5;obtain⟨c0,c1,c2,e0,e1,e2⟩:=qA (up4.cell c0) (up4.cell c1) (up4.cell c2) (up4.cell e0) (up4.cell e1) (up4.cell e2);obtain⟨x0,x1,x2,x3,x4,x5⟩:=qA (dR c0) (dR c1) (dR c2) (dR e0) (dR e1) (dR e2);go_wp2;cases a8
    case false=>
     have aK:=an (show ea a b=none by rw[MS];simp);clear MS;refine uK ?_;repeat(go_big_quiet_step ((go_at_call 224;exact km (lV _ _ _ _ L2))))
     refine yy ?_;intro w5 ay;obtain⟨⟨d,os⟩,hw4⟩:=ay;have al:Up w4 w5:=FB
     clear hw4;clear x0 x1 x2 x3 x4 x5;go_wp2;go_ret2;exact .inl ⟨by rw[aA.out,aK.out];rfl,rfl,upr.trans (up4.trans al)⟩
    case true=>
     have aK:=an (show ea a b=(ea a (b.drop 1)).map (⟨ql,qb,qs⟩::·)by rw[MS];simp);clear MS;refine uK ?_;repeat(go_big_quiet_step ((go_at_call 224;exact km (lV _ _ _ _ L2))))
     refine yy ?_;intro w5 ay;obtain⟨⟨d,os⟩,hw4⟩:=ay;have al:Up w4 w5:=FB
     clear hw4;clear x0 x1 x2 x3 x4 x5;obtain⟨e0,e1,e2,o5,av⟩:=xN (al.cell e0) (al.cell e1) (al.cell e2) (HO.up (up4.trans al)) (upr.trans (up4.trans al));go_wp2;go_region_law ((refine step_append_room pw rfl (.tmp 45) (.tmp 49) 88 rfl _ _ _ _ Aaq hy g T z _ HZ rfl (o5.up ((Up.refl _).drew.alloc _)) _ _ rfl (rl _ _ rfl _ _ _) (z+1) yR ae (bN av.size ((Up.refl _).drew.alloc _).size) ?_;intro w6 aj _ aV));all_goals
      have aJ:Up w w6:=(av.drew.alloc _).aE aV (aG _);go_wp2;go_simp;exact⟨⟨_,_,_,_,_,⟨a,b.drop 1,out++[⟨ql,qb,qs⟩],some ⟨ba,oa,none⟩,aQ,ka,kb-1,n,rfl,HN,HA,m',rfl,DB,RB,z+1,rfl,by rw[Aaf,HZ.out];rfl,aj,by have:=aq.out;omega,by rw[aA.out,aK.out];cases ea a (b.drop 1)<;>simp⟩,rfl,rfl,rfl,rfl,rfl⟩,by have:=aq.out;show m'<m;omega⟩
  ·have Q:(decide ((0:Int)<(n:Int))=false/\decide (0<n)=false/\n=0)\/(decide ((0:Int)<(n:Int))=true/\decide (0<n)=true/\decide ((0:Int)<(m:Int))=false/\decide (0<m)=false/\m=0):=by
    by_cases aB:n=0
    ·exact .inl ⟨ab,ab,aB⟩
    ·exact .inr ⟨ab,ab,ab,ab,ae⟩
   have MF:ea a b=some (a++b):=by
    rcases Q with⟨_,_,h⟩|⟨_,_,_,_,h⟩
    ·have:a=[]:=oz.1 (by have:=HN.out;omega);rw[this,rb];rfl
    ·have:b=[]:=oz.1 (by have:=HM.out;omega);rw[this,A4,Ab5]
   have aX:=an MF;clear MF h0 hn hm;rcases Q with⟨q1,q2,hq⟩|⟨q1,q2,q3,q4,hq⟩
   all_goals
    clear hq;go_wp2_with(at_builtin;refine eM pw rfl (.tmp 53) (.tmp 54) 88 rfl _ _ _ _ Aaq hy g T z _ HZ rfl HO _ a rfl (aI.up HA upr) (z+n) (by rw[HZ.out,HN.out]) ae upr.size ?_);intro w5 aa _ ax;have al:=upr.aE ax (aG _);go_wp2_with(at_builtin;refine eM pw rfl (.tmp 56) (.tmp 57) 88 rfl _ _ _ _ Aaq hy g T _ _ (by rw[Aaf,HZ.out,HN.out]) rfl aa _ b rfl (aI.up HB al) T (by rw[Aaf];have:=HZ.out;have:=HN.out;have:=HM.out;omega) ae al.size ?_);intro w6 aj _ aV;go_wp2;go_ret2;refine .inr ⟨_,_,?_,rfl,aj,al.aE aV (aG _)⟩;rw[aA.out,aX.out];simp
theorem K2{s:Nat->Nat}(h:∀j,64*m<=j->j<64*(m+1)->s j≠1):gQ s m=0:=by unfold gQ;rw[oz,List.filter_eq_nil_iff];grind
theorem tA{s:Nat->Nat}:∀n,(∀j,j<n->gQ s j=0)->gT s (64*n)=0
 | 0,_=>by simp[gT]
 | n+1,h=>by rw[tz,tA n (λj hj=>h j ae),h n ae]
def YU(s:Nat->Nat)(b:Nat)(w:af)(e:Ab1)(w':af):Prop:=(∃i:Nat,i<1024/\s i=1/\e=.returned (.tuple #[.int .i64 (i:Int),.int .i64 0])/\ck w' b (e7 s i 2)/\Touch (·=b) w w')\/(bp s=0/\e=.returned (.tuple #[.int .i64 0,.int .i64 71])/\w=w')
theorem BK(w:af)(b:Nat)(s:Nat->Nat)(S:ck w b s):Aae Aag 157 #[pz b] w (YU s b w):=by
 have HS:=an S;go_in;go_wp2_with refine cK 163 10 (xA s) S.YI (hi:=(Ax s)) ?_;go_loop [4,12] (λm i=>∃k q:Nat,k<=16/\q<16/\i=i6 k/\m=i6 q/\∀j,j<k->gQ s j<=gQ s q) (λ_ i=>16-(Aat i).toNat)
 case atStart=>exact⟨0,0,ae,ae,rfl,rfl,λj hj=>ae⟩
 case round=>
  obtain⟨k,q,hk,hq,rfl,rfl,ad⟩:=hrel;have HA:=an ad;clear ad;by_cases hlt:k<16
  ·obtain⟨ix,c0⟩:=aA ((Ar s) k hlt) (HS.room hq);have b2:((k:Int)<16)=True:=by simp;omega
   have b3:((q:Int)<16)=True:=ab
   have HK:=an (show ∀j,j<k+1->j<k\/j=k from λj hj=>ae);generalize hx:gQ s k=x at *;generalize hy:gQ s q=y at *;obtain⟨HX,HY⟩:=aw hx hy;clear hx hy;by_cases bI:y<x
   ·have t1:decide (y<x)=true:=by simp;omega
    have t2:decide ((y:Int)<(x:Int))=true:=ab
    go_wp2;go_round
    case rel=>exact⟨k+1,k,ae,hlt,aq,rfl,λj hj=>by
     rw[HX.out];rcases HK.out j hj with h|rfl
     ·have:=HA j h;omega
     ·rw[HX.out];exact aG _⟩
    case measure=>simp[Aat];omega
   ·have t1:decide (y<x)=false:=by simp;omega
    have t2:decide ((y:Int)<(x:Int))=false:=ab
    go_wp2;go_round
    case rel=>exact⟨k+1,q,ae,hq,aq,rfl,λj hj=>by
     rw[HY.out];rcases HK.out j hj with h|rfl
     ·have:=HA j h;exact this
     ·rw[HX.out];omega⟩
    case measure=>simp[Aat];omega
  ·obtain rfl:k=16:=by omega
   have b2:((16:Nat):Int)=16:=rfl;have t1:IntKind.i64.wrap ((q:Int)*64)=((64*q:Nat):Int):=by rw[show(q:Int)*64=((64*q:Nat):Int)from ae];exact aY _ ae
   go_wp2;go_loop [7] (λi=>∃k:Nat,64*q<=k/\k<=64*(q+1)/\i=i6 k/\∀j,64*q<=j->j<k->s j≠1) (λi=>64*(q+1)-(Aat i).toNat)
   case atStart=>exact⟨64*q,ae,ae,fJ,λj h1 h2=>ae⟩
   case round=>
    obtain⟨k,aj,ar,rfl,ao⟩:=hrel;have HN:=an ao;clear ao t1;have t3:IntKind.i64.wrap ((q:Int)+1)=((q+1:Nat):Int):=by rw[show(q:Int)+1=((q+1:Nat):Int)from ae];exact aY _ ae
    by_cases hlt:k<64*(q+1)
    ·have t5:decide ((k:Int)<((q:Int)+1)*64)=true:=by simp;omega
     have I:=zh w b s HS k 1;rw[qX s k 1 ae]at I;by_cases h3:s k=1
     ·rw[h3]at I;have H3:=an h3;clear h3;go_wp2_with fail;refine I.mono ?_;rintro e w1⟨rfl,rfl⟩;go_wp2_with fail;refine(vl w b s HS k 2 ae).mono ?_;rintro e w1⟨rfl,S1,T1⟩;go_wp2;go_ret2;exact .inl ⟨k,ae,H3,rfl,S1,T1⟩
     ·rw[iY h3]at I;have H3:=an h3;clear h3;go_wp2_with fail;refine I.mono ?_;rintro e w1⟨rfl,rfl⟩;go_wp2;go_round
      case rel=>exact⟨k+1,ae,ae,aq,λj h1 h2=>by
       by_cases e:j=k
       ·subst e;exact H3
       ·exact HN j h1 ae⟩
      case measure=>simp[Aat];omega
    ·obtain rfl:k=64*(q+1):=by omega
     have t5:decide (((64*(q+1):Nat):Int)<((q:Int)+1)*64)=false:=ab
     go_wp2;go_ret2;refine .inr ⟨?_,rfl,rfl⟩;refine tA 16 (λj hj=>?_);have:=HA j hj;rw[K2 HN.out]at this;omega
theorem zM{s:Nat->Nat}(hi:i<1024)(h:s i=1):bp (e7 s i 2)+1=bp s:=by have:=z8 (n:=1024) (λk=>decide (e7 s i 2 k=1)) (λk=>decide (s k=1)) i (λk hk=>by simp[e7,hk]);grind [e7,bp,gT]
def e'(s:Nat->Nat)(l:List Nat):Nat->Nat:=λi=>if i∈l then 2 else s i
theorem IT(s:Nat->Nat)(l:List Nat)(i:Nat):e7 (e' s l) i 2=e' s (l++[i]):=by grind [e7,e']
def P1(n:Nat):ah:=.int .i64 (n:Int)
def UQ(n:Nat):(P1 n).oneCell'=true:=rfl
theorem Touch.gW{F:Nat->Prop}{w w1 w2:af}(T:Touch F w w1){row:Option Nat}(hg:w1.grownBy w2 row)(hr:∀k,row=some k->w.heap.size<=k):Touch F w w2:=⟨by rw[hg.os,T.os],by rw[hg.tape,T.tape],by rw[hg.output,T.output],bN T.size hg.size,λk hk hF=>by
  rw[hg.block k (eg hk T.size) (λe=>aQ),T.block k hk hF]⟩
def Touch.iK{F:Nat->Prop}{w w1 w2:af}(T:Touch F w w1)(U:Up w1 w2):Touch F w w2:=T.trans (Touch.bW (F:=F) U) (λ_ h _=>h)
theorem Own.az{f:α->ah}{w w':af}{v:ah}{xs:List α}(h:Own f e w base v xs){F:Nat->Prop}(ht:Touch F w w')(hf:∀b,v.ownBlock=some b->¬F b):Own f e w' base v xs:=by
 obtain⟨h1,h2⟩:=h;refine⟨h1,?_⟩;rcases h2 with h2|⟨g,cap,cur,hv,hg,hh,r⟩
 ·simp_all
 ·have hlt:g<w.heap.size:=(p2.1 hh).1;exact NO
def aaj(s:Nat->Nat)(b n:Nat)(w:af)(e:Ab1)(w':af):Prop:=(bp s<n/\e=.returned (.tuple #[.slice none 0 0,.int .i64 71])/\w=w')\/(n<=bp s/\∃(l:List Nat)(v:ah),κ l=n/\l.Nodup/\(∀i∈l,i<1024/\s i=1)/\e=.returned (.tuple #[v,.int .i64 0])/\Own P1 3 w' w.heap.size v l/\ck w' b (e' s l)/\Touch (·=b) w w')
def CX(s:Nat->Nat):bp s<=1024:=zN s 1024
theorem QQ(w:af)(b:Nat)(s:Nat->Nat)(S:ck w b s)(n:Nat)(hn:n<=100000):Aae Aag 213 #[pz b,i6 (n:Int)] w (aaj s b n w):=by
 obtain⟨HC,HS⟩:=aw (jc w b s S) S;obtain⟨hc,aB⟩:=aA (CX s) (a7.lt S);generalize av:bp s=c at *;have aJ:=an av;clear av;by_cases hlt:c<n
 ·have t1:decide (c<n)=true:=by simp;omega
  have t2:decide ((c:Int)<(n:Int))=true:=ab
  go_in;go_wp2_with fail;refine HC.mono ?_;rintro e w1⟨rfl,rfl⟩;go_wp2;go_ret2;exact .inl ⟨dL,rfl,rfl⟩
 ·have t1:decide (c<n)=false:=by simp;omega
  have t2:decide ((c:Int)<(n:Int))=false:=ab
  go_in;go_wp2_with fail;refine HC.mono ?_;rintro e w1⟨rfl,rfl⟩;go_wp2;clear t1 t2;go_loopw [6] (λv wr=>∃l:List Nat,κ l<=n/\l.Nodup/\(∀i∈l,i<1024/\s i=1)/\bp (e' s l)+κ l=c/\Own P1 3 wr w.heap.size v l/\ck wr b (e' s l)/\Touch (·=b) w wr) (λv _=>n-Tc v)
  case atStart=>exact⟨[],aq,aq,aq,cm,Own.nil _ _ _ _,cm,Touch.refl _ _⟩
  case round=>
   obtain⟨l,hl,aY,au,al,hown,hS,ht⟩:=hrel;obtain⟨ah,bB⟩:=aw au al;clear au al;obtain⟨va,vc,rfl⟩:=(Own.cC hown).slice;by_cases hk:κ l<n
   ·have b2:decide (κ l<n)=true:=by simp;omega
    have b3:decide ((κ l:Int)<(n:Int))=true:=ab
    go_wp2_with fail;refine(BK _ b _ hS).mono ?_;rintro e w1(⟨i,hi,ad,rfl,S1,T1⟩|⟨h0,_,_⟩)
    ·have aI:¬i∈l:=λh=>by unfold e' at ad;rw[bo h]at ad;cases ad
     have ak:s i=1:=by unfold e' at ad;rwa [aM aI]at ad
     have ag:=zM hi ad;rw[IT]at S1 ag;obtain⟨ao,aK,aj⟩:=aW ag aI ak;have aS:=λk hk=>(hown.aN k hk).1;obtain⟨bh,aO⟩:=aw (ht.trans T1 (λn h _=>h)) aS;clear ag ad aI ak;have n1:(κ l + [i].length)*8<=140737488355328:=ab
     have n2:κ l + [i].length<=9223372036854775807:=ae
     have n3:w.heap.size<=(w1.alloc (.cells #[i6 (i:Int)] 3)).heap.size:=by rw[Aa3];have:=bh.size;omega
     go_wp2_with(at_builtin;refine bc P1 UQ rfl (.tmp 25) (.tmp 27) 41 rfl w.heap.size 3 (i6 0) 8 underlying41 Aw rfl _ l rfl ((Own.az hown T1 (λk hk e=>aQ)).up (ai w1 _)) (cv w1.heap.size 1 1) [i] rfl (aD.lit w1 #[i6 (i:Int)] 3 (0,0) [i] 1 rfl ax rfl) n1 n2 n3 ?_);intro v6 w6 aa aT aU;obtain⟨a8,ba,rfl⟩:=(Own.cC aa).slice;go_wp2;go_roundw
     case rel=>exact⟨l++[i],ab,by rw[ug];exact⟨aY,aq,λx hx y hy=>by simp at hy;subst hy;rintro rfl;exact aK hx⟩,λx hx=>by
      rcases eT.1 hx with h|h
      ·exact ah x h
      ·simp at h;subst h;exact⟨hi,aj⟩,by have:=ao.out;have:=bB.out;simp;omega,aa,(a7.grown (a7.up S1 (ai _ _)) aT (λe=>aQ)),((bh.iK (ai _ _)).gW aT aO)⟩
     case measure=>simp[Tc];omega
    ·simp only[Hid]at *;omega
   ·have b2:decide (κ l<n)=false:=by simp;omega
    have b3:decide ((κ l:Int)<(n:Int))=false:=ab
    go_wp2;go_ret2;exact .inr ⟨dL,l,_,ae,aY,ah,rfl,hown,hS,ht⟩
def np(s:Nat->Nat)(x n:Nat):List Int:=((Aaj n).filter (λi=>decide (s i=x))).map (λi:Nat=>(i:Int))
theorem Qe{s:Nat->Nat}{x n:Nat}(h:s n=x):np s x (n+1)=np s x n++[(n:Int)]:=Tm
theorem U1{s:Nat->Nat}{x n:Nat}(h:s n≠x):np s x (n+1)=np s x n:=Tm
theorem Gc(s:Nat->Nat)(x n:Nat):κ (np s x n)<=n:=by grind [np]
def qu(s:Nat->Nat)(x:Nat):List bM:=jV (np s x 1024)
theorem Vn(w:af)(b:Nat)(s:Nat->Nat)(S:ck w b s)(x:Nat):Aae Aag 280 #[pz b,.int .u8 (x:Int)] w λe w'=>∃u,e=.returned u/\hV w' w.heap.size u (qu s x)/\Up w w':=by
 have HS:=an S;go_in;go_wp2;go_loopw [5,7] (λv i wr=>∃k:Nat,k<=1024/\i=i6 k/\Own bz 3 wr w.heap.size v (np s x k)/\Up w wr) (λ_ i _=>1024-(Aat i).toNat)
 case atStart=>exact⟨0,ae,rfl,Own.nil _ _ _ _,Up.refl _⟩
 case round=>
  obtain⟨k,hk,rfl,hown,upr⟩:=hrel;obtain⟨HOWN,UR⟩:=aw hown upr;have aN:=Gc s x k;obtain⟨va,vc,rfl⟩:=(Own.cC HOWN).slice;by_cases hlt:k<1024
  ·have I:=zh wr b _ (HS.up UR) k x;rw[qX _ k x hlt]at I;have b2:((k:Int)<1024)=True:=by simp;omega
   by_cases h3:s k=x
   ·rw[gD h3]at I;have HN:=an (Qe h3);clear h3;generalize np s x k=l at *;have n1:(κ l + [(k:Int)].length)*8<=140737488355328:=by simp;omega
    have n2:κ l + [(k:Int)].length<=9223372036854775807:=ae
    have n3:w.heap.size<=(wr.alloc (.cells #[i6 (k:Int)] 3)).heap.size:=by rw[Aa3];have:=UR.size;omega
    go_wp2_with fail;refine I.mono ?_;rintro e w1⟨rfl,rfl⟩;go_wp2_with(at_builtin;refine bc bz pX rfl (.tmp 14) (.tmp 16) 41 rfl w.heap.size 3 (i6 0) 8 underlying41 Aw rfl _ l rfl (HOWN.up (ai wr _)) (cv wr.heap.size 1 1) [(k:Int)] rfl (aD.lit wr #[i6 (k:Int)] 3 (0,0) [(k:Int)] 1 rfl ax rfl) n1 n2 n3 ?_);intro v6 w6 aa aT aU;have HO:=an aa;go_wp2;go_roundw
    case rel=>exact⟨k+1,ae,aq,by rw[HN.out];exact HO,((UR.trans (ai wr _)).aE aU (aG _))⟩
    case measure=>simp[Aat];omega
   ·rw[iY h3]at I;have HN:=an (U1 h3);clear h3;generalize np s x k=l at *;go_wp2_with fail;refine I.mono ?_;rintro e w1⟨rfl,rfl⟩;go_wp2;go_roundw
    case rel=>exact⟨k+1,ae,aq,by rw[HN.out];exact HOWN,UR⟩
    case measure=>simp[Aat];omega
  ·obtain rfl:k=1024:=by omega
   have b2:((1024:Nat):Int)=1024:=rfl;have O:=an (s' wr _ _ (Own.cC HOWN));clear aN;generalize hl:np s x 1024=l at *;have HL:=an hl;clear hl;go_wp2_with fail;refine O.mono ?_;rintro e w1⟨u,rfl,own,up1⟩;go_wp2_with fail;go_ret;exact⟨_,rfl,by unfold qu;rw[HL.out];exact own.mono UR.size,UR.trans up1⟩
theorem BX(w:af)(b:Nat)(s:Nat->Nat)(S:ck w b s):Aae Aag 258 #[pz b] w λe w'=>∃u,e=.returned u/\hV w' w.heap.size u (qu s 2)/\Up w w':=by have HS:=an (Vn w b s S 2);go_in;go_wp2_with fail;refine HS.mono ?_;rintro e w1⟨u,rfl,own,up1⟩;go_wp2;go_ret;exact⟨_,rfl,own,up1⟩
def gp:Int->List bM->Int
 | e,[]=>e
 | _,s::l=>gp (s.st+s.len) l
theorem jU:∀(e:Int)(l m:List bM),cq e (l++m)=(cq e l && cq (gp e l) m)
 | e,[],m=>by simp[cq,gp]
 | e,s::l,m=>by simp only[Aa2,cq,gp];rw[jU (s.st+s.len) l m];simp only[Bool.and_assoc]
def fR:∀(e:Int)(l:List bM)(s:bM),gp e (l++[s])=s.st+s.len
 | e,[],s=>rfl
 | e,t::l,s=>fR _ l s
theorem qf(l:List bM)(s:bM):cR (l++[s])=cR l++(Aaj s.len.toNat).map (λk:Nat=>s.st+(k:Int)):=by simp[cR]
theorem CN(l:List bM)(s:bM)(n:Nat):rL (l++[s]) n=if s.st+s.len=(n:Int)then l++[⟨s.st,s.len+1⟩] else l++[s]++[⟨n,1⟩]:=by simp[rL]
theorem jr(f:Nat->Bool):∀n,n<=4096->cq (-1) (aB f n)=true/\gp (-1) (aB f n)<=n/\cR (aB f n)=((Aaj n).filter f).map (λi:Nat=>(i:Int))
 | 0,_=>by simp[aB,cq,gp,cR]
 | n+1,hn=>by
  obtain⟨h1,h2,h3⟩:=jr f n ae;rw[aB,Abz,ki,Aao];by_cases hf:f n=true
  ·rw[bo hf];rw[show [n].filter f=[n] by simp[hf]];rcases E3 (aB f n)with hl|⟨l,s,hl⟩
   ·rw[hl]at h3 ⊢;rw[<-h3];have e:rL [] n=[⟨(n:Int),1⟩]:=rfl;rw[e];refine⟨?_,by simp[gp],by simp[cR]⟩;simp[cq,gu];omega
   ·rw[E4]at hl;rw[hl]at h1 h2 h3 ⊢;rw[jU,Abc]at h1;obtain⟨h4,h5⟩:=h1;rw[fR]at h2;simp only[cq,Bool.and_true,Abc,decide_eq_true_eq]at h5;obtain⟨h6,h7⟩:=h5;have h8:=(dW s.st s.len).1 h6;rw[CN,<-h3];by_cases he:s.st+s.len=(n:Int)
    ·rw[bo he];refine⟨?_,by rw[fR];simp only;omega,?_⟩
     ·rw[jU,Abc];refine⟨h4,?_⟩;simp only[cq,Bool.and_true,Abc,decide_eq_true_eq];exact⟨(dW _ _).2 ae,h7⟩
     ·rw[qf,qf];simp only;rw[show(s.len+1).toNat=s.len.toNat+1 from ae,Abz,Aao,Aa8];congr 2;simp;omega
    ·rw[aM he];refine⟨?_,by rw[fR];simp,?_⟩
     ·rw[jU,jU,fR,h4];simp only[cq,Bool.true_and,Bool.and_true,Abc,decide_eq_true_eq];exact⟨⟨h6,h7⟩,(dW _ _).2 ae,ae⟩
     ·rw[qf];simp
  ·rw[aM hf];rw[show [n].filter f=[] by simp[hf]];exact⟨h1,ae,by rw[h3];simp⟩
theorem p0(f:Nat->Bool):cx (aB f 4096)=((Aaj 4096).filter f).map (λi:Nat=>(i:Int)):=by simp[jr,cx]
theorem SY(s:Nat->Nat)(x i:Nat):rU (np s x 1024) i=decide (i<1024/\s i=x):=by grind [rU,np]
theorem rD(s:Nat->Nat)(x:Nat):qu s x=aB (λi=>decide (i<1024/\s i=x)) 4096:=by unfold qu jV;congr 1;grind [SY]
theorem EB(s:Nat->Nat)(x:Nat)(n:Int):n∈cx (qu s x)↔∃i:Nat,n=i/\i<1024/\s i=x:=by grind [rD,p0]
theorem SU{l:List Int}(hs:l.Pairwise (· < ·)){n:Int}(hn:n∈l):HG l n=true:=by
 unfold HG;cases h:l.find? (λk=>decide (n<=k))with
 | none=>grind
 | some k=>
  simp only[beq_iff_eq];obtain⟨hk,ms,bs,hl,ao⟩:=List.find?_eq_some_iff_append.1 h;simp only[decide_eq_true_eq]at hk;rw[hl]at hn hs;rcases eT.1 hn with h1|h1
  ·grind
  ·rcases Aam.1 h1 with h1|h1
   ·omega
   ·have:=(fV.1 (AS.1 hs).2.1).1 n h1;omega
theorem t'(f:Nat->Bool):(cx (aB f 4096)).Pairwise (· < ·):=by rw[p0,List.pairwise_map];refine List.Pairwise.imp (R:=λa b:Nat=>a<b) (λh=>ae) ?_;exact List.Pairwise.filter _ List.pairwise_lt_range
section
open Go.Shelf
attribute [local go_sem] kr
def ot(a b:List Int)(i:Nat):Bool:=rU a i && !rU b i
theorem O'(a b:List Int)(x:Int)(i:Nat):ot a (b++[x]) i=(if(i:Int)=x then false else ot a b i):=by grind [ot,Ap]
theorem xH(w:af)(va vb:ah)(la lb:List bM)(ha:dS w va la)(aC:∀a m c,va=.slice (some a) m c->a.block<w.heap.size)(hv:dS w vb lb)(hb:∀a m c,vb=.slice (some a) m c->a.block<w.heap.size):Aae Aag 289 #[va,vb] w λe w'=>∃u,e=.returned u/\hV w' w.heap.size u (aB (ot (cx la) (cx lb)) 4096)/\Up w w':=by
 obtain⟨a1,ao,rfl⟩:=ha.slice;obtain⟨a,cap,rfl⟩:=hv.slice;refine q6 ?_;intro h1;refine oD func289 rfl trivial ?_ rfl;simp only[ntmps289,Abh,Aal,Aa5,Nat.reduceAdd,Nat.reduceSub,Aa6,Aa7,Abj,Aa9,Aay,Aa2];gi_wp2_with(refine⟨trivial,?_⟩;first|(gi_at_call 228;refine(fy.2 (tI _ _ _ _)).mono ?_;rintro e w' ⟨rfl,rfl⟩)|(gi_at_call 295;refine(fy.2 (GB w _ la ha aC)).mono ?_;rintro e w1 ⟨rfl,hM,up1⟩));have aJ:w.heap.size<w1.heap.size:=hM.lt;obtain⟨c1,c2⟩:=aA (de w1 (pz w.heap.size) 288) (de (w1.alloc (.cells #[pz w.heap.size] 288)) (.slice a (κ lb) cap) 63);simp only[Aa3]at c2;have ar:Up w1 ((w1.alloc (.cells #[pz w.heap.size] 288)).alloc (.cells #[.slice a (κ lb) cap] 63)):=(ai _ _).alloc _;have ad:pr ((w1.alloc (.cells #[pz w.heap.size] 288)).alloc (.cells #[.slice a (κ lb) cap] 63)) w.heap.size (ot (cx la) []):=a7.congr (hM.up ar) (λi _=>by simp[ot,rU]);have ag:Below w.heap.size w ((w1.alloc (.cells #[pz w.heap.size] 288)).alloc (.cells #[.slice a (κ lb) cap] 63)):=up1.trans ar;refine wi (F:=Abw) rfl h1 (gf:=264) (lb:=#[pz (w1.heap.size+1)]) rfl trivial (enters_of func264 ay rfl) (xb 5 ae (w1.heap.size+1) w.heap.size _ lb _ aq c2.1 (aI.up hv ag) hb) cY.trans jD (eZ _ _) (λ_=>rfl) (λpre W=>(W.cell? ⟨w1.heap.size,0,none⟩=some (pz w.heap.size)/\pr W w.heap.size (ot (cx la) (pre.map (·.1))))/\Below w.heap.size w W) (λ_ _ _=>False) (nH (nH (Own.from (λs A B row hs hg hr=>lo hs hg hr) _) (Own.from (w3 w.heap.size 4096 212 (λ(pre:List Num) i=>.bool (ot (cx la) (pre.map (·.1)) i))) _)) (oE (aG _) ab)) (λ_ _ _ _ _ hs _ _=>hs) ⟨⟨bG _ c1.1,ad⟩,ag⟩ (λx=>{tmps:=#[.slice a1 (κ la) ao,.slice a (κ lb) cap,Aar,Aar,nl,pz w1.heap.size,i6 x.1,.slice a1 (κ la) ao,pz w.heap.size,.slice a (κ lb) cap,.func (.func 264) #[] #[pz (w1.heap.size+1)],i6 x.1,Aar,Aar,Aar,Aar,Aar,Aar],defers:=[]}) ?assign ?body ?done ?stop
 case assign=>exact lH
 case body=>
  rintro l' pre⟨x,aa,aF⟩W⟨⟨hp,hI⟩,hB⟩_;obtain⟨n,rfl⟩:=iX aa;have hn:n<4096:=ae
  obtain⟨c0,f0⟩:=aA (hI.cell hn) (hI.free n);gi_wp2;refine⟨p7 _ _ _,AG hI (λh=>h.elim (λh=>ae) ax) _ _,⟨?_,a7.congr (hI.set hn (.bool false)) (λi hi=>by rw[Aao,yH,O'];by_cases e:i=n<;>simp[e];intro h;omega)⟩,hB.setCell (p:=⟨w.heap.size,n,none⟩) (aG _) _⟩;exact(World.cell?_setCell_other _ _ _ _ aq).trans hp
 case done=>rintro D ys W hD aE⟨⟨hp,hI⟩,hB⟩hK;rw[aE]at hI;gi_wp2_with(refine⟨trivial,?_⟩;gi_at_call 123;refine(fy.2 (DO W w.heap.size _ hI)).mono ?_;rintro e w9 ⟨u,rfl,own,al⟩);have an:D<W.heap.size:=(p2.1 hK).1;have aj:w9.heap[D]?=some (.deferred (some [])):=(oA al D an).trans hK;refine⟨aq,.inl ⟨_,_,rfl,E0 aj,?_⟩⟩;refine⟨_,sD rfl _ _ _,u,rfl,ak.mono (ownsRow_putObj own _ aj rfl) hB.size,(hB.trans (al.mono hB.size)).trans (oF (w:=w) (aG _) w9 D _ _ p9 aj rfl rfl)⟩
 case stop=>simp
end
def toStr(w:af)(v:ah)(l:List aj)(h:a8 w v l):(convert 30 9 v).run Aag w=.ok (.string (strOf l)) w:=lB 30 5 Aa0 underlying5 9 underlying9 w v l h
theorem SO(p:au)(hp:p.wf)(hg:cw p=true):nq j4 (Bx p)/\p.loc=(p.loc.toNat:Int):=by obtain⟨l,b,s⟩:=p;obtain⟨n,rfl,hn⟩:=HE hg;exact⟨Ds n b s hn hp.2.1 hp.2.2,aq⟩
theorem nu(p:au)(hp:p.wf)(hg:cw p=true):mi (bQ p)=some p:=by
 have h1:=SO p hp hg;have hl:κ (bQ p)=16:=ay
 have h2:cW j4 (bQ p)=Bx p:=qP j4 (Bx p) h1.1.1 h1.1.2.2;rw[pQ _ hl]at h2;have h3:mh (bQ p)=p:=by obtain⟨l,b,s⟩:=p;grind [Bx,mh]
 grind [mi]
theorem Hf(l:List aj)(p:au)(h:mi l=some p):p.wf/\cw p=true/\bQ p=l:=by
 unfold mi at h;split at h
 ·rename_i hh;simp only[Aai]at h;subst h;refine M2 ?_;intro q1 q2 q3;refine⟨⟨⟨?_,?_⟩,q2,q3⟩,hh.2,?_⟩
  ·simp[mh]
  ·grind [mh]
  ·have h3:=Of j4 l (by rw[hh.1];rfl);grind [pQ,bQ,Bx,mh]
 ·cases h
structure hG where
 dq:Nat
 ar:Nat
 iD:au
 len:Int
 sec:Int
deriving DecidableEq
def hG.wf(u:hG):Prop:=u.dq<18446744073709551616/\u.ar<18446744073709551616/\u.iD.wf/\(-9223372036854775808<=u.len/\u.len<=9223372036854775807)/\(-9223372036854775808<=u.sec/\u.sec<=9223372036854775807)
def uC(u:hG):Array ah:=#[.int .u64 (u.dq:Int),.int .u64 (u.ar:Int),.int .i64 u.iD.loc,.int .u64 (u.iD.aT:Int),.int .u32 (u.iD.sum:Int),.int .i64 u.len,.int .i64 u.sec]
def fK(u:hG):List ah:=(uC u).toList
def X'(u:hG):(uC u).size=7:=rfl
theorem wT(u:hG):(uC u).all (·.oneCell')=true:=by simp[uC,Ac8]
theorem uw:hL fK 7:=⟨ae,λ_=>rfl,λu v hv=>by have:=wT u;rw[Array.all_eq_true']at this;exact this v (by grind [fK])⟩
theorem Es(u:hG):(prog.info? 122).map (·.size)=some (uC u).size:=ay
theorem xP{dq ar:Nat}{iD:au}{len sec:Int}(h:aH w g t (uC ⟨dq,ar,iD,len,sec⟩)):w.cell? (ad g 0)=some (u6 (dq:Int))/\w.cell? (ad g 1)=some (u6 (ar:Int))/\w.cell? (ad g 2)=some (i6 iD.loc)/\w.cell? (ad g 5)=some (i6 len)/\w.cell? (ad g 6)=some (i6 sec)/\Hid (w.rangeAt g 2 (be iD).toList):=⟨jH,jH,jH,jH,jH,an λj v hj=>by
  rw[h.cell];match j,hj with
  | 0,hj=>exact hj
  | 1,hj=>exact hj
  | 2,hj=>exact hj
  | (n+3),hj=>simp[be]at hj⟩
def eL(u:hG):Bool:=decide (1<=u.dq) && decide (u.dq<=281474976710655) && decide (1<=u.ar) && decide (u.ar<=281474976710655) && cw u.iD && !decide (u.iD=hole) && decide (1<=u.len) && decide (u.len<=65535) && decide (64<=u.sec) && decide (u.sec<=1024)
theorem kG(u:hG):eL u=true↔(1<=u.dq/\u.dq<=281474976710655)/\(1<=u.ar/\u.ar<=281474976710655)/\(cw u.iD=true/\u.iD≠hole)/\(1<=u.len/\u.len<=65535)/\(64<=u.sec/\u.sec<=1024):=by grind [eL]
theorem Lx(w:af)(u:hG):Aae Aag 261 #[.agg (uC u)] w λe w'=>j7 (eL u) w e w':=by
 obtain⟨B1,U1,PR,IFF⟩:=bR (aH.new w 122 (uC u)) (ai w (.cells (uC u) 122)) (λW=>n2 W u.iD) (kG u);obtain⟨dq,ar,iD,len,sec⟩:=u;dsimp only at PR IFF;have PV:fA iD=.agg (be iD):=rfl;rw[PV]at PR;clear PV;obtain⟨c0,c1,c2,c5,c6,R2⟩:=xP B1;by_cases h0:1<=dq;rotate_left
 ·have b0:((1:Int)<=(dq:Int))=False:=by simp;omega
  have HF:=an (show eL ⟨dq,ar,iD,len,sec⟩=false by refine dV ?_;intro hh;exact absurd hh.1.1 ae)
  exact yZ
 have b0:((1:Int)<=(dq:Int))=True:=ab
 by_cases h1:dq<=281474976710655;rotate_left
 ·have b1:((dq:Int)<=(281474976710655:Int))=False:=by simp;omega
  have HF:=an (show eL ⟨dq,ar,iD,len,sec⟩=false by refine dV ?_;intro hh;exact absurd hh.1.2 ae)
  exact yZ
 have b1:((dq:Int)<=(281474976710655:Int))=True:=ab
 by_cases h2:1<=ar;rotate_left
 ·have b2:((1:Int)<=(ar:Int))=False:=by simp;omega
  have HF:=an (show eL ⟨dq,ar,iD,len,sec⟩=false by refine dV ?_;intro hh;exact absurd hh.2.1.1 ae)
  exact yZ
 have b2:((1:Int)<=(ar:Int))=True:=ab
 by_cases h3:ar<=281474976710655;rotate_left
 ·have b3:((ar:Int)<=(281474976710655:Int))=False:=by simp;omega
  have HF:=an (show eL ⟨dq,ar,iD,len,sec⟩=false by refine dV ?_;intro hh;exact absurd hh.2.1.2 ae)
  exact yZ
 have b3:((ar:Int)<=(281474976710655:Int))=True:=ab
 go_in;go_wp2_with(refine arm ?_);refine(PR _).mono ?_;rintro e w2⟨rfl,U2⟩;have U3:=an (U1.trans U2);clear c0 c1 c2 c5 c6;obtain⟨c0,c1,c2,c5,c6,R2⟩:=xP (B1.up U2);clear PR;cases hg:cw iD
 ·have HF:=an (show eL ⟨dq,ar,iD,len,sec⟩=false by refine dV ?_;intro hh;have:=hh.2.2.1.1;rw[hg]at this;cases this)
  clear hg;go_wp2;go_ret;exact⟨AZ,U3⟩
 have HG:=an hg;clear hg;have EQ:∀W:af,(Ack 10000 87 (.agg (be iD)) (.agg #[i6 0,u6 0,.int .u32 0])).run Aag W=.ok (decide (iD=hole)) W:=λW=>zf 9998 iD hole W;by_cases hh:iD=hole
 ·have HF:=an (show eL ⟨dq,ar,iD,len,sec⟩=false by rw[<-wb,IFF.out];intro h;exact h.2.2.1.2 hh)
  rw[gD hh]at EQ;clear hh;exact q5
 have HH:=an hh;rw[iY hh]at EQ;clear hh;by_cases h4:1<=len;rotate_left
 ·have b4:((1:Int)<=len)=False:=by simp;omega
  have HF:=an (show eL ⟨dq,ar,iD,len,sec⟩=false by refine dV ?_;intro hh;exact absurd hh.2.2.2.1.1 ae)
  exact q5
 have b4:((1:Int)<=len)=True:=ab
 by_cases h5:len<=65535;rotate_left
 ·have b5:(len<=65535)=False:=by simp;omega
  have HF:=an (show eL ⟨dq,ar,iD,len,sec⟩=false by refine dV ?_;intro hh;exact absurd hh.2.2.2.1.2 ae)
  exact q5
 have b5:(len<=65535)=True:=ab
 by_cases h6:64<=sec;rotate_left
 ·have b6:((64:Int)<=sec)=False:=by simp;omega
  have HF:=an (show eL ⟨dq,ar,iD,len,sec⟩=false by refine dV ?_;intro hh;exact absurd hh.2.2.2.2.1 ae)
  exact q5
 have b6:((64:Int)<=sec)=True:=ab
 by_cases h7:sec<=1024;rotate_left
 ·have b7:(sec<=1024)=False:=by simp;omega
  have HF:=an (show eL ⟨dq,ar,iD,len,sec⟩=false by refine dV ?_;intro hh;exact absurd hh.2.2.2.2.2 ae)
  exact q5
 have b7:(sec<=1024)=True:=ab
 have HF:=an (show eL ⟨dq,ar,iD,len,sec⟩=true from IFF.2 ⟨⟨h0,h1⟩,⟨h2,h3⟩,⟨HG,HH⟩,⟨h4,h5⟩,⟨h6,h7⟩⟩);exact q5
def pB(n:Nat):Nat:=if n%2=1 then(n/2)^^^2197175160 else n/2
def mT:Nat->Nat->Nat
 | 0,n=>n
 | k+1,n=>pB (mT k n)
def qM(n:Nat)(c:aj):Nat:=mT 8 (n^^^c.toNat)
def iM(n:Nat)(l:List aj):Nat:=l.foldl qM n
def gn(s:Nat)(l:List aj):Nat:=4294967295-iM (4294967295-s) l
theorem O4(h:n<4294967296):pB n<4294967296:=by
 unfold pB;split
 ·have:(n/2)^^^2197175160<2 ^ 32:=EW ae ae;omega
 ·omega
theorem zO(k:Nat)(h:n<4294967296):mT k n<4294967296:=by
 induction k with
 | zero=>exact h
 | succ k ih=>exact O4 ih
theorem Jz(c:aj)(h:n<4294967296):qM n c<4294967296:=by unfold qM;have hc:=c.toNat_lt;have:n^^^c.toNat<2 ^ 32:=EW ae ae;grind [zO]
theorem JA(l:List aj):∀{n:Nat},n<4294967296->iM n l<4294967296:=by
 induction l with
 | nil=>exact λh=>h
 | cons c l ih=>exact λh=>ih (Jz c h)
theorem Ef(n:Nat)(l:List aj)(c:aj):iM n (l++[c])=qM (iM n l) c:=by simp[iM]
theorem JB(s:Nat)(l:List aj):gn s l<4294967296:=by grind [gn]
theorem GM:IntKind.u32.max=4294967295:=ax
theorem Q1(l:List α)(k:Nat)(h:k<κ l):l.take (k+1)=l.take k++[l[k]]:=aq
theorem Wq(n:Nat):n&&&1=n%2:=aq
theorem P0(s:Nat)(hs:s<4294967296)(l:List aj)(b off cap:Nat)(w:af)(hl:κ l<=9223372036854775807)(hc:∀i(h:i<κ l),w.cell? (ad b (off+i))=some (.int .u8 (l[i].toNat:Int))):Aae Aag 231 #[.int .u32 (s:Int),sq b off (κ l) cap] w λe w'=>e=.returned (.int .u32 (gn s l:Nat))/\w=w':=by
 have Hc:=an hc;clear hc;obtain⟨n0,aB⟩:=bK (4294967295-s);have ah:n0<4294967296:=ae
 have e0:bits .xor .u32 IntKind.u32.max (s:Int)=(n0:Int):=by rw[GM,aB];exact zi s hs
 have au:=an aB;clear aB;go_in;go_wp2;clear e0;go_loop [0,12] (λr i=>∃k:Nat,k<=κ l/\i=i6 k/\r=.int .u32 (iM n0 (l.take k):Nat)) (λ_ i=>κ l-(Aat i).toNat)
 case atStart=>exact⟨0,bE _,rfl,rfl⟩
 case round=>
  obtain⟨k,hk,rfl,rfl⟩:=hrel;have ab:iM n0 (l.take k)<4294967296:=JA _ ah;by_cases hlt:k<κ l
  ·have ai:=Hc k hlt;obtain⟨m,hm⟩:=bK (iM n0 (l.take k));have hsn:iM n0 (l.take (k+1))=qM m l[k]:=by rw[Q1 l k hlt,Ef,hm]
   obtain⟨c,al⟩:=bK (l[k]);rw[<-al]at hsn ai;have aq:c.toNat<256:=c.toNat_lt;rw[<-hm]at ab ⊢;have hx:m^^^c.toNat<4294967296:=by have:m^^^c.toNat<2 ^ 32:=EW ae ae;omega
   unfold qM at hsn;obtain⟨x,aa⟩:=bK (m^^^c.toNat);have e1:bits .xor .u32 (m:Int) (c.toNat:Int)=(x:Int):=by rw[aa];exact u32_xor_nat _ _ ab ae
   rw[<-aa]at hsn hx;have aP:=an hsn;clear hm hsn al aa;go_wp2;clear e1 ai;go_loop [0,20] (λr i=>∃j:Nat,j<=8/\i=i6 j/\r=.int .u32 (mT j x:Nat)) (λ_ i=>8-(Aat i).toNat)
   case atStart=>exact⟨0,ae,rfl,rfl⟩
   case round=>
    obtain⟨j,hj,rfl,rfl⟩:=hrel;by_cases ar:j<8
    ·have hb:mT j x<4294967296:=zO j hx;have av:mT (j+1) x=pB (mT j x):=rfl;obtain⟨y,hy⟩:=bK (mT j x);rw[<-hy]at hb av ⊢;have aO:=an av;clear av hy;have e1:bits .and .u32 (y:Int) 1=((y%2:Nat):Int):=by have:=u32_and_nat y 1 hb ae;rw[Wq]at this;exact this
     have e3:bits .xor .u32 ((y:Int)/2) 2197175160=(((y/2)^^^2197175160:Nat):Int):=by have:=u32_xor_nat (y/2) 2197175160 ae ae;rw[Int.natCast_ediv]at this;exact this
     by_cases hp:y%2=1
     ·have ht:((y:Int)%2==1)=true:=by simp;omega
      have hb2:pB y=(y/2)^^^2197175160:=by unfold pB;rw[bo hp]
      have ak:=an hb2;clear hb2 hp;go_wp2;go_round
      case rel=>exact⟨j+1,ae,fJ,by rw[aO.out,ak.out]⟩
      case measure=>simp[Aat];omega
     ·have ht:((y:Int)%2==1)=false:=by simp;omega
      have hb2:pB y=y/2:=by unfold pB;rw[aM hp]
      have ak:=an hb2;clear hb2 hp;go_wp2;go_round
      case rel=>exact⟨j+1,ae,fJ,by rw[aO.out,ak.out];rfl⟩
      case measure=>simp[Aat];omega
    ·obtain rfl:j=8:=by omega
     go_wp2;go_round
     case rel=>exact⟨k+1,ae,fJ,by rw[aP.out]⟩
     case measure=>simp[Aat];omega
  ·obtain rfl:k=κ l:=by omega
   rw[fx]at *;have ag:gn s l=4294967295-iM n0 l:=by unfold gn;rw[au.out]
   obtain⟨m,hm⟩:=bK (iM n0 l);rw[<-hm]at ag ab ⊢;have ao:=an ag;clear ag hm;have e0:bits .xor .u32 IntKind.u32.max (m:Int)=((4294967295-m:Nat):Int):=by rw[GM];exact zi m ab
   go_wp2;go_ret;exact⟨by rw[ao.out];rfl,rfl⟩
theorem UL(s:Nat)(hs:s<4294967296)(a:Option Addr)(cap:Nat)(w:af):Aae Aag 231 #[.int .u32 (s:Int),.slice a 0 cap] w λe w'=>e=.returned (.int .u32 (gn s []:Nat))/\w=w':=by
 obtain⟨n0,aB⟩:=bK (4294967295-s);have ah:n0<4294967296:=ae
 have ag:gn s []=s:=by unfold gn iM;simp;omega
 have e0:bits .xor .u32 IntKind.u32.max (s:Int)=(n0:Int):=by rw[GM,aB];exact zi s hs
 have e1:bits .xor .u32 IntKind.u32.max (n0:Int)=(s:Int):=by rw[GM,zi n0 ah];omega
 rw[ag];clear aB ag;go_in;go_wp2;go_loop [0,12] (λr i=>i=i6 0/\r=.int .u32 (n0:Int)) (λ_ _=>0)
 case atStart=>simp
 case round=>obtain⟨rfl,rfl⟩:=hrel;exact eW
theorem UK(s:Nat)(hs:s<4294967296)(v:ah)(l:List aj)(w:af)(h:a8 w v l):Aae Aag 231 #[.int .u32 (s:Int),v] w λe w'=>e=.returned (.int .u32 (gn s l:Nat))/\w=w':=by
 have hl:=h.length_le;rcases h with⟨rfl,a,cap,rfl,_⟩|⟨b,off,cap,rfl,_,_,_,hc⟩
 ·grind [UL]
 ·exact P0 s hs l b off cap w hl hc
theorem Gd(v:ah)(l:List aj)(w:af)(h:a8 w v l):Aae Aag 167 #[v] w λe w'=>e=.returned (.int .u32 (gn 0 l:Nat))/\w=w':=by have H:=UK 0 ae v l w h;obtain⟨a,c,rfl⟩:=h.slice;go_in;go_wp2_with fail;refine H.mono ?_;rintro e w'⟨rfl,rfl⟩;exact eW

def mc:List aj:=[65,81,70,82]
def DV(u:hG):List aj:=mc++(aX [8,8] [u.dq,u.ar]++(bQ u.iD++aX [4,4] [u.len.toNat,u.sec.toNat]))
def qC(u:hG):List aj:=DV u++Aac 80 0
def B6(u:hG):Nat:=gn 0 (qC u)
def eQ(u:hG):List aj:=qC u++aX [4] [B6 u]
theorem va(a b:Nat):κ (aX [8,8] [a,b])=16:=ay
theorem Gj(a b:Nat):κ (aX [4,4] [a,b])=8:=ay
theorem jm(a:Nat):κ (aX [4] [a])=4:=ay
theorem fg(p:au):κ (bQ p)=16:=ay
theorem GP(u:hG):κ (DV u)=44:=ay
theorem CG(u:hG):κ (qC u)=124:=ay
theorem mE(u:hG):κ (eQ u)=128:=ay
theorem VQ(u:hG):B6 u<4294967296:=by grind [B6,gn]
theorem aL(w:af)(o:Obj):(w.alloc o).heap.size=w.heap.size+1:=aq
def qD(u:hG):cN:=if eL u=true then⟨eQ u,mE u⟩ else ep
def VP(u:hG):Int:=if eL u=true then 0 else 61
def e2(pre:List aj):List aj:=pre++Aac (128-κ pre) 0
theorem hc{pre:List aj}(h:κ pre<=128):κ (e2 pre)=128:=by grind [e2]
def Qm:e2 []=aK:=rfl
theorem Bq{pre ys:List aj}(h:κ pre+κ ys<=128):(Aby (aC (e2 pre)).toList (κ pre) (ys.map aF)).toArray=aC (e2 (pre++ys)):=by apply hS.1;unfold Aby;rw[rC,rC,Aad,<-we,<-p4,<-Aao,<-Aao];congr 1;unfold e2;simp;omega
theorem Vc(u:hG):e2 (qC u)=e2 (DV u):=ay
theorem Ql(u:hG):e2 (eQ u)=eQ u:=by simp[e2,mE]
theorem h8{l:List aj}(h:aH w g t (aC l))(lo n cap:Nat)(hn:lo+n<=κ l)(h0:0<n)(hc:n<=cap)(hm:cap<=128):a8 w (.slice (some ⟨g,lo,none⟩) n cap) ((l.drop lo).take n):=by
 have hl:κ ((l.drop lo).take n)=n:=ab
 refine .inr ⟨g,lo,cap,ab,ae,ae,dE,λi hi=>?_⟩;grind [IG]
theorem oY(g lo:Nat)(h1:lo<128)(W:af):(Abo 60 (.pointer (some ⟨g,0,none⟩)) (some (.int .i64 (lo:Int))) none none).run Aag W=.ok (.slice (some ⟨g,lo,none⟩) (128-lo) (128-lo)) W:=by refine FT ?_;intro aM hs;rw[run_sliceAt_array_l W 60 ⟨g,0,none⟩ ay .i64 (lo:Int) ae ae,hs,aM];simp only[Aau,slicedAt,Abq];grind [add_plain]
theorem Lc(g hi:Nat)(h1:hi<=128)(W:af):(Abo 60 (.pointer (some ⟨g,0,none⟩)) none (some (.int .i64 (hi:Int))) none).run Aag W=.ok (.slice (some ⟨g,0,none⟩) hi 128) W:=by refine FT ?_;intro aM hs;rw[run_sliceAt_array_h W 60 ⟨g,0,none⟩ ay .i64 (hi:Int) ae ae,hs,aM];rfl
theorem my(g:Nat)(W:af):(Abo 60 (.pointer (some ⟨g,0,none⟩)) none none none).run Aag W=.ok (.slice (some ⟨g,0,none⟩) 128 128) W:=ay
section
variable {P:bx}
theorem hz{ops:Array Oper}{rest:List Oper}{op:Oper}{a:Act}{w:af}{Q:Exit->Act->af->Prop}(hgd:op.guard=none)(d s:bO)(dT sT:TypeId)(ho:op.op=.call {callee:=.builtin .copy,args:=#[d,s],argTypes:=#[dT,sT]})(elem:TypeId)(hu:P.underlying dT=some (.slice elem))(aL:(P.info? elem).map (·.size)=some 1)(g off n cap:Nat)(hd:a.eval d=.slice (some ⟨g,off,none⟩) n cap)(vs:ah)(ys:List aj)(hs:a.eval s=vs)(al:a8 w vs ys)(hn:κ ys<=n)(t:TypeId)(pre:List aj)(ab:off=κ pre)(hb:aH w g t (aC (e2 pre)))(hfit:κ pre+κ ys<=128)(h:∀w',aH w' g t (aC (e2 (pre++ys)))->Below g w w'->w.grownBy w' (some g)->wpList P ops Q rest (a.put op.dst (goInt (κ ys))) w'):wpList P ops Q (op::rest) a w:=hC hgd d s dT sT ho elem hu aL aF cp g off n cap hd vs ys hs al hn t _ hb (by grind [bX,hc]) (λw' h1 h2 h3=>h w' (by grind [Bq]) h2 h3)
theorem x4{ops:Array Oper}{rest:List Oper}{op:Oper}{a:Act}{w:af}{Q:Exit->Act->af->Prop}(hgd:op.guard=none)(d s:bO)(dT sT:TypeId)(ho:op.op=.call {callee:=.builtin .copy,args:=#[d,s],argTypes:=#[dT,sT]})(elem:TypeId)(hu:P.underlying dT=some (.slice elem))(aL:(P.info? elem).map (·.size)=some 1)(g off n cap:Nat)(hd:a.eval d=.slice (some ⟨g,off,none⟩) n cap)(b:ByteArray)(hs:a.eval s=.string b)(ys:List aj)(aE:b.data.toList=ys)(hn:κ ys<=n)(t:TypeId)(pre:List aj)(ab:off=κ pre)(hb:aH w g t (aC (e2 pre)))(hfit:κ pre+κ ys<=128)(h:∀w',aH w' g t (aC (e2 (pre++ys)))->Below g w w'->w.grownBy w' (some g)->wpList P ops Q rest (a.put op.dst (goInt (κ ys))) w'):wpList P ops Q (op::rest) a w:=by
 have aa:b.size=κ ys:=by rw[<-aE];exact Lib.size_eq b
 refine gZ hgd λK hK=>?_;have hr:=Lib.run_copy_row_string (P:=P) w dT sT op.type elem g off n cap b _ t hu aL hb ae (by grind [bX,hc]);have av:((aC (e2 pre)).toList.take off++Lib.byteCells b.data.toList++(aC (e2 pre)).toList.drop (off+b.size)).toArray=aC (e2 (pre++ys)):=by rw[<-Bq hfit,ab,aE,aa];unfold Aby;rw[Aad,Aa8];rfl
 rw[av,aa]at hr;unfold Acb;simp[Abs,ho,resolve,invoke,builtin,hd,hs,hr,Aap];exact hK _ _ (h _ (hb.set _) (below_setRow (eZ _ _) (aG _) _) (cQ w g _))
end
theorem Va{a b:Nat}(ha:a<18446744073709551616)(hb:b<18446744073709551616):nq [8,8] [a,b]:=uz
theorem U'{a b:Nat}(ha:a<4294967296)(hb:b<4294967296):nq [4,4] [a,b]:=uz
theorem Ge{a:Nat}(ha:a<4294967296):nq [4] [a]:=uz
theorem B7(w:af)(u:hG)(aT:u.wf):Aae Aag 215 #[.agg (uC u)] w λe w'=>e=rt #[.agg (aC (qD u).val),i6 (VP u)]/\Up w w':=by
 obtain⟨bE,a6,bq⟩:=db (ai w (.cells (uC u) 122)) (ai (w.alloc (.cells (uC u) 122)) (.cells (aC aK) 60)) (aL w (.cells (uC u) 122));have B1:=an ((aH.new w 122 (uC u)).up a6);have z1:=aH.new (w.alloc (.cells (uC u) 122)) 60 (aC aK);rw[bq]at z1;obtain⟨Z1,U1,RR,BS,bc⟩:=eI z1 (bE.trans a6) (λW=>Lx W u) hZ dx;clear bq;cases hr:eL u
 ·obtain⟨HV,HE⟩:=aw (show qD u=ep by unfold qD;rw[hr];rfl) (show VP u=61 by unfold VP;rw[hr];rfl);rw[hr]at RR;clear hr;go_in;go_wp2_with(refine arm ?_);generalize hw2:(w.alloc (.cells (uC u) 122)).alloc (.cells (aC aK) 60)=w2 at *;refine(RR _).mono ?_;rintro e w3⟨rfl,U3⟩;obtain⟨Z3,U4⟩:=aA (Z1.up U3) (U1.trans U3);clear hw2;go_wp2_with(first|refine arm ?_|refine pj ?_);intro w9 b9 g9;have U9:=U4.aE (fc g9 (oC Z3.lt) (λj hj=>AW)) (ix _);go_wp2;exact bS (hi:=bc) (.tuple #[.agg (aC aK),i6 61]) b9 ⟨by rw[HV.out,HE.out];rfl,U9⟩
 obtain⟨HV,HE,bf,aM,aB,aP,bg,aI,be,bb,HBL⟩:=VO (show(qD u).val=eQ u by unfold qD;rw[bo hr]) (show VP u=0 by unfold VP;rw[bo hr]) (show DV u=mc++(aX [8,8] [u.dq,u.ar]++(bQ u.iD++aX [4,4] [u.len.toNat,u.sec.toNat]))from rfl) (GP u) (CG u) (show B6 u=gn 0 (qC u)from rfl) (VQ u) (Vc u) (Ql u) (show eQ u=qC u++aX [4] [B6 u] from rfl) (mE u);obtain⟨⟨g1,g2⟩,⟨g3,g4⟩,⟨hg,_⟩,⟨g5,g6⟩,⟨g7,g8⟩⟩:=(kG u).1 hr;obtain⟨PB,bm⟩:=aw (λW=>nS W u.iD aT.2.2.1) (show cw u.iD≠false by rw[hg];simp);rw[hr]at RR;clear hr hg;generalize(qD u).val=uv at *;generalize VP u=ue at *;generalize DV u=pre at *;generalize qC u=hdr at *;generalize B6 u=sm at *;generalize eQ u=ak at *;obtain⟨dq,ar,iD,len,sec⟩:=u;dsimp only at *;obtain⟨nl,rfl⟩:∃n:Nat,len=n:=⟨len.toNat,ae⟩;obtain⟨ns,rfl⟩:∃n:Nat,sec=n:=⟨sec.toNat,ae⟩;simp only[Abq]at *;go_in;go_wp2_with(refine arm ?_);generalize hw2:(w.alloc (.cells (uC ⟨dq,ar,iD,(nl:Int),(ns:Int)⟩) 122)).alloc (.cells (aC aK) 60)=w2 at *;refine(RR _).mono ?_;rintro e w3⟨rfl,U3⟩;obtain⟨B3,Z3,U4⟩:=aW (B1.up U3) (Z1.up U3) (U1.trans U3);clear hw2 RR;obtain⟨c0,c1,c2,c5,c6,R2⟩:=xP B3;obtain⟨UA,sza⟩:=aA (ai w3 (.cells #[i6 8,i6 8] 3)) (aL w3 (.cells #[i6 8,i6 8] 3));have aQ:=an (show Aae Aag 240 #[cv w3.heap.size 2 2,cv (w3.heap.size+1) 2 2] ((w3.alloc (.cells #[i6 8,i6 8] 3)).alloc (.cells #[u6 (dq:Int),u6 (ar:Int)] 70)) (λe w'=>∃v,e=rt #[v,i6 0]/\Own aF 5 w' w3.heap.size v (aX [8,8] [dq,ar])/\Up w3 w')from by have UB:=ai (w3.alloc (.cells #[i6 8,i6 8] 3)) (.cells #[u6 (dq:Int),u6 (ar:Int)] 70);have i1:=(aD.er (f:=bz) w3 w3.heap.size rfl #[i6 8,i6 8] 3 (0,0) [8,8] 2 rfl dE rfl).up UB;have i2:=aD.er (f:=cM) (w3.alloc (.cells #[i6 8,i6 8] 3)) (w3.heap.size+1) uy #[u6 (dq:Int),u6 (ar:Int)] 70 (0,0) [dq,ar] 2 rfl dE rfl;refine(oV _ _ _ i1 aq _ _ i2 AT (Va ae ae)).mono λe w' h=>?_;obtain⟨v,rfl,ho,hu⟩:=h;exact⟨v,rfl,ho.mono (UA.trans UB).size,(UA.trans UB).trans hu⟩)
 obtain⟨e0,e1⟩:=aA (UA.cell c0) (UA.cell c1);clear sza;go_wp2_with fail;refine aQ.mono ?_;rintro e w4⟨v5,rfl,O5,U5⟩;obtain⟨S5,B4,Z4,U6⟩:=bR O5.cC (B3.up U5) (Z3.up U5) (U4.trans U5);obtain⟨a5,k5,rfl⟩:=S5.slice;clear e0 e1;clear c0 c1 c2 c5 c6;obtain⟨c0,c1,c2,c5,c6,R2⟩:=xP B4;go_wp2_with(refine arm ?_);refine(PB w4).mono ?_;rintro e w5 az;rcases az with⟨_,v7,rfl,O7,U7⟩|⟨ao,_⟩
 rotate_left
 ·exact absurd ao bm
 obtain⟨S7,bn,B5,Z5,U8⟩:=eI O7.cC (S5.up U7) (B4.up U7) (Z4.up U7) (U6.trans U7);obtain⟨a7,k7,rfl⟩:=S7.slice;clear PB;clear c0 c1 c2 c5 c6;obtain⟨c0,c1,c2,c5,c6,R2⟩:=xP B5;have wn:=dP nl ae;obtain⟨bN,UA,sza⟩:=db (dP ns ae) (ai w5 (.cells #[i6 4,i6 4] 3)) (aL w5 (.cells #[i6 4,i6 4] 3));have aQ:=an (show Aae Aag 240 #[cv w5.heap.size 2 2,cv (w5.heap.size+1) 2 2] ((w5.alloc (.cells #[i6 4,i6 4] 3)).alloc (.cells #[u6 (nl:Int),u6 (ns:Int)] 70)) (λe w'=>∃v,e=rt #[v,i6 0]/\Own aF 5 w' w5.heap.size v (aX [4,4] [nl,ns])/\Up w5 w')from by have UB:=ai (w5.alloc (.cells #[i6 4,i6 4] 3)) (.cells #[u6 (nl:Int),u6 (ns:Int)] 70);have i1:=(aD.er (f:=bz) w5 w5.heap.size rfl #[i6 4,i6 4] 3 (0,0) [4,4] 2 rfl dE rfl).up UB;have i2:=aD.er (f:=cM) (w5.alloc (.cells #[i6 4,i6 4] 3)) (w5.heap.size+1) uy #[u6 (nl:Int),u6 (ns:Int)] 70 (0,0) [nl,ns] 2 rfl dE rfl;refine(oV _ _ _ i1 aq _ _ i2 AT (U' ae ae)).mono λe w' h=>?_;obtain⟨v,rfl,ho,hu⟩:=h;exact⟨v,rfl,ho.mono (UA.trans UB).size,(UA.trans UB).trans hu⟩)
 obtain⟨e5,e6⟩:=aA (UA.cell c5) (UA.cell c6);clear sza;go_wp2_with fail;refine aQ.mono ?_;rintro e w6⟨v9,rfl,O9,U9⟩;obtain⟨S9,bs,br,Z6,U10⟩:=eI O9.cC (S7.up U9) (bn.up U9) (Z5.up U9) (U8.trans U9);obtain⟨a9,k9,rfl⟩:=S9.slice;clear e5 e6 wn bN;clear c0 c1 c2 c5 c6;obtain⟨P0,V7⟩:=aw (show aH (w6.alloc (.cells (aC aK) 60)) w6.heap.size 60 (aC (e2 []))by rw[Qm];exact aH.new w6 60 (aC aK)) (ai w6 (.cells (aC aK) 60));have SA:∀W,(Abo 60 (pz w6.heap.size) none none none).run Aag W=.ok (cv w6.heap.size 128 128) W:=my w6.heap.size;have bO:∀W,(Abo 60 (pz w6.heap.size) (some (i6 4)) none none).run Aag W=.ok (sq w6.heap.size 4 124 124) W:=oY w6.heap.size 4 ae;have bt:∀W,(Abo 60 (pz w6.heap.size) (some (i6 20)) none none).run Aag W=.ok (sq w6.heap.size 20 108 108) W:=oY w6.heap.size 20 ae;have bu:∀W,(Abo 60 (pz w6.heap.size) (some (i6 36)) none none).run Aag W=.ok (sq w6.heap.size 36 92 92) W:=oY w6.heap.size 36 ae;have aU:∀W,(Abo 60 (pz w6.heap.size) (some (i6 124)) none none).run Aag W=.ok (sq w6.heap.size 124 4 4) W:=oY w6.heap.size 124 ae;have aY:∀W,(Abo 60 (pz w6.heap.size) none (some (i6 124)) none).run Aag W=.ok (cv w6.heap.size 124 128) W:=Lc w6.heap.size 124 ae;go_wp2_with(first
  | refine arm ?_
  | (refine x4 rfl (.tmp 51) (.const (.string ⟨#[65,81,70,82]⟩)) 30 9 rfl 5 Aa0 av _ 0 128 128 rfl _ rfl mc rfl (by unfold mc;simp) _ _ rfl P0 (by unfold mc;simp) ?_))
 intro w8 P1 bH _;obtain⟨P1,V8⟩:=aw (show aH w8 w6.heap.size 60 (aC (e2 mc))from P1) (V7.aE bH (aG _));obtain⟨T5,L5⟩:=aw (br.up V8) (va dq ar);go_wp2_with(first
  | (refine hz rfl (.tmp 53) (.tmp 54) 30 30 rfl 5 Aa0 av _ 4 124 124 rfl _ _ rfl T5 (by rw[L5.out];omega) _ _ rfl P1 (by rw[L5.out];unfold mc;simp) ?_))
 intro w9 P2 bI _;have P2:=an (show aH w9 w6.heap.size 60 (aC (e2 (mc++aX [8,8] [dq,ar])))from P2);have Q2:(20:Nat)=κ (mc++aX [8,8] [dq,ar]):=by rw[Aaf,va];rfl
 have V9:=an (V8.aE bI (aG _));obtain⟨T7,L7⟩:=aw (bs.up V9) (fg iD);obtain⟨aj,aJ⟩:=bK (mc++aX [8,8] [dq,ar]);rw[<-aJ]at P2 Q2;replace Q2:=an Q2;have bC:=an aJ;clear aJ;have N7:κ (bQ iD)<=108:=by rw[L7.out];omega
 have M7:κ aj+κ (bQ iD)<=128:=by rw[L7.out,<-Q2.out];omega
 go_wp2_with(first
  | (refine hz rfl (.tmp 56) (.tmp 57) 30 30 rfl 5 Aa0 av _ 20 108 108 rfl _ _ rfl T7 N7 _ _ Q2 P2 M7 ?_))
 intro aV P3 bJ _;have Q3:(36:Nat)=κ (aj++bQ iD):=by rw[Aaf,fg,<-Q2.out]
 have a8:=an (V9.aE bJ (aG _));obtain⟨T9,L9⟩:=aw (S9.up a8) (Gj nl ns);obtain⟨al,ab⟩:=bK (aj++bQ iD);rw[<-ab]at P3 Q3;replace Q3:=an Q3;have bd:=an ab;clear ab Q2;have N9:κ (aX [4,4] [nl,ns])<=92:=by rw[L9.out];omega
 have M9:κ al+κ (aX [4,4] [nl,ns])<=128:=by rw[L9.out,<-Q3.out];omega
 go_wp2_with(first
  | (refine hz rfl (.tmp 59) (.tmp 60) 30 30 rfl 5 Aa0 av _ 36 92 92 rfl _ _ rfl T9 N9 _ _ Q3 P3 M9 ?_))
 intro w11 P4 bL _;have ad:al++aX [4,4] [nl,ns]=pre:=by rw[bd.out,bC.out,bf.out,Aa8,Aa8]
 rw[ad]at P4;have bF:=an (a8.aE bL (aG _));have au:=h8 P4 0 124 128 (by rw[hc (by rw[aM.out];omega)];omega) ae ae ae;have aa:((e2 pre).drop 0).take 124=hdr:=by rw[Aax,<-aI.out];unfold e2;rw[hY aB.out]
 rw[aa]at au;have SM:=an (Gd _ hdr w11 au);rw[<-aP.out]at SM;rw[<-aI.out]at P4;have bA:=bg.out;have ws:=dP sm ae;clear ad Q3 aa;have UI:=an (ai w11 (.cells #[i6 4] 3));have bw:=an (show Aae Aag 167 #[cv w6.heap.size 124 128] (w11.alloc (.cells #[i6 4] 3)) (λe w'=>e=.returned (.int .u32 (sm:Int))/\(w11.alloc (.cells #[i6 4] 3))=w')from by
  have P5:=P4.up UI;have ax:=h8 P5 0 124 128 (by rw[hc (by rw[aB.out];omega)];omega) ae ae ae;have aN:((e2 hdr).drop 0).take 124=hdr:=by rw[Aax];unfold e2;rw[hY aB.out]
  rw[aN]at ax;have:=Gd _ _ _ ax;rw[<-aP.out]at this;exact this)
 obtain⟨UA,sza⟩:=aA (ai w11 (.cells #[i6 4] 3)) (aL w11 (.cells #[i6 4] 3));have aQ:=an (show Aae Aag 240 #[cv w11.heap.size 1 1,cv (w11.heap.size+1) 1 1] ((w11.alloc (.cells #[i6 4] 3)).alloc (.cells #[u6 (sm:Int)] 70)) (λe w'=>∃v,e=rt #[v,i6 0]/\Own aF 5 w' w11.heap.size v (aX [4] [sm])/\Up w11 w')from by have UB:=ai (w11.alloc (.cells #[i6 4] 3)) (.cells #[u6 (sm:Int)] 70);have i1:=(aD.er (f:=bz) w11 w11.heap.size rfl #[i6 4] 3 (0,0) [4] 1 rfl dE rfl).up UB;have i2:=aD.er (f:=cM) (w11.alloc (.cells #[i6 4] 3)) (w11.heap.size+1) uy #[u6 (sm:Int)] 70 (0,0) [sm] 1 rfl dE rfl;refine(oV _ _ _ i1 aq _ _ i2 AT (Ge ae)).mono λe w' h=>?_;obtain⟨v,rfl,ho,hu⟩:=h;exact⟨v,rfl,ho.mono (UA.trans UB).size,(UA.trans UB).trans hu⟩)
 clear sza;go_wp2_with fail;refine bw.mono ?_;rintro e wx⟨rfl,rfl⟩;go_wp2_with fail;refine aQ.mono ?_;rintro e bT⟨bV,rfl,bl,aO⟩;obtain⟨aS,aR⟩:=aw bl.cC (jm sm);obtain⟨bP,bU,rfl⟩:=aS.slice;obtain⟨P5,b6,QH⟩:=aW (P4.up aO) (bF.trans aO) (show(124:Nat)=κ hdr from aB.symm);clear ws bA;have bk:κ (aX [4] [sm])<=4:=by rw[aR.out];omega
 have bj:κ hdr+κ (aX [4] [sm])<=128:=by rw[aR.out,<-QH.out];omega
 go_wp2_with(first
  | (refine hz rfl (.tmp 74) (.tmp 75) 30 30 rfl 5 Aa0 av _ 124 4 4 rfl _ _ rfl aS bk _ _ QH P5 bj ?_))
 intro bp P6 bM _;rw[<-bb.out,be.out]at P6;have b0:=an (b6.aE bM (aG _));obtain⟨ba,bD,SB⟩:=aW (Z6.up b0) (U10.trans b0) (show(aC ak).size=128 by rw[bX];exact HBL);obtain⟨ag,bB⟩:=aw (show(prog.info? 60).map (·.size)=some (aC ak).size by rw[SB.out];exact dx) (show(aC aK).size=(aC ak).size by rw[SB.out];rfl);clear QH;go_wp2_with(first
  | refine arm ?_
  | refine cZ 60 2 77 (aC ak) ba (hi:=ag) (hold:=bB) ?_)
 intro bh bG g14;have a1:=bD.aE (fc g14 (oC ba.lt) (λj hj=>AW)) (ix _);go_wp2;exact bS (hi:=ag) (.tuple #[.agg (aC ak),i6 0]) bG ⟨by rw[HV.out,HE.out],a1⟩
structure As where
 F:Nat->Prop
 P:af->Prop
 st:∀{w w':af}{H:Nat->Prop},P w->Touch H w w'->(∀n,F n->¬H n)->P w'
def bk(g:Nat)(t:Aab)(C:Array ah):As:=⟨(·=g),λw=>aH w g t C,λh T hf=>h.az T (hf g rfl)⟩
structure Fr(F0:Nat->Prop)(x0:af)(L:List As)(w:af):Prop where
 t:Touch F0 x0 w
 p:∀A∈L,A.P w
 f:∀A∈L,∀n,A.F n->n<w.heap.size/\(F0 n\/x0.heap.size<=n)
 d:L.Pairwise (λA B=>∀n,A.F n->¬B.F n)
def Fsh(x0:af)(L:List As)(q:Nat):Prop:=x0.heap.size<=q/\∀A∈L,¬A.F q
inductive mQ:List As->As->As->List As->Prop
 | head {L:List As} {A B:As}:mQ (A::L) A B (B::L)
 | tail {L L':List As} {A B D:As}:mQ L A B L'->mQ (D::L) A B (D::L')
structure Rz(w w':af)(N:List As):Prop where
 u:Up w w'
 p:∀A∈N,A.P w'
 f:∀A∈N,∀n,A.F n->w.heap.size<=n/\n<w'.heap.size
 d:N.Pairwise (λA B=>∀n,A.F n->¬B.F n)
section
variable {F0:Nat->Prop} {x0:af} {L L' N:List As} {w w':af} {A B:As} {g:Nat} {t:Aab} {C C':Array ah}
theorem mQ.mem(h:mQ L A B L'):A∈L:=by exact MY
theorem mQ.sub(h:mQ L A B L'):∀D∈L',D=B\/D∈L:=by
 induction h with
 | head=>grind
 | tail _ ih=>grind
theorem mQ.pair(h:mQ L A B L'){R:As->As->Prop}(hs:∀{A B},R A B->R B A)(d:L.Pairwise R)(k:∀D∈L,R A D->R B D):L'.Pairwise R/\∀D∈L',D=B\/R A D:=by
 induction h with
 | head=>obtain⟨d1,d2⟩:=fV.1 d;exact⟨fV.2 ⟨λD hD=>k D (bt _ hD) (d1 D hD),d2⟩,λD hD=>(Aam.1 hD).imp id (d1 D)⟩
 | tail hU ih=>
  obtain⟨d1,d2⟩:=fV.1 d;obtain⟨i1,i2⟩:=ih d2 (λD hD=>k D (bt _ hD));refine⟨fV.2 ⟨λD hD=>?_,i1⟩,λD hD=>?_⟩
  ·rcases hU.sub D hD with rfl|h
   ·exact hs (k _ cV (hs (d1 _ hU.mem)))
   ·exact d1 D h
  ·rcases Aam.1 hD with rfl|h
   ·exact .inr (hs (d1 _ hU.mem))
   ·exact i2 D h
theorem Fr.e5(s:Fr F0 x0 L w)(h:bk g t C∈L):aH w g t C:=s.p _ h
theorem Fr.zK(s:Fr F0 x0 L w)(hU:mQ L A B L')(T:Touch A.F w w')(hB:B.P w')(hF:∀n,B.F n->n<w'.heap.size/\(A.F n\/w.heap.size<=n)):Fr F0 x0 L' w':=by
 have fA:=s.f _ hU.mem;obtain⟨d1,d2⟩:=hU.pair (R:=λA B=>∀n,A.F n->¬B.F n) (λh n a b=>h n b a) s.d (λD hD h n hn hd=>by
  rcases(hF n hn).2 with h1|h1
  ·exact h n h1 hd
  ·have:=(s.f D hD n hd).1;omega)
 refine⟨s.t.trans T (λn h hl=>(fA n h).2.resolve_right ae),λD hD=>?_,λD hD n hn=>?_,d1⟩
 ·rcases d2 D hD with rfl|h
  ·exact hB
  ·rcases hU.sub D hD with rfl|hL
   ·exact hB
   ·exact D.st (s.p D hL) T (λn a b=>h n b a)
 ·rcases hU.sub D hD with rfl|hL
  ·refine⟨(hF n hn).1,?_⟩;rcases(hF n hn).2 with h1|h1
   ·exact(fA n h1).2
   ·exact .inr (bN s.t.size h1)
  ·exact⟨eg (s.f D hL n hn).1 T.size,(s.f D hL n hn).2⟩
theorem Fr.res(s:Fr F0 x0 L w)(r:Rz w w' N):Fr F0 x0 (N++L) w':=by
 have T:Touch (λ_=>False) w w':=Touch.bW r.u;refine⟨s.t.trans T (λ_ h=>h.elim),λD hD=>?_,λD hD n hn=>?_,AS.2 ⟨r.d,s.d,λD hD E hE n hn he=>?_⟩⟩
 ·rcases eT.1 hD with h|h
  ·exact r.p D h
  ·exact D.st (s.p D h) T (λ_ _ h=>h)
 ·rcases eT.1 hD with h|h
  ·exact⟨(r.f D h n hn).2,.inr (bN s.t.size (r.f D h n hn).1)⟩
  ·exact⟨eg (s.f D h n hn).1 T.size,(s.f D h n hn).2⟩
 ·have:=(r.f D hD n hn).1;have:=(s.f E hE n he).1;omega
theorem Rz.z(u:Up w w'):Rz w w' []:=⟨u,λ_ h=>fI,λ_ h=>fI,.nil⟩
theorem Rz.one(u:Up w w')(hA:A.P w')(hF:∀n,A.F n->w.heap.size<=n/\n<w'.heap.size):Rz w w' [A]:=⟨u,λD h=>by rw[kl.1 h];exact hA,λD h=>by rw[kl.1 h];exact hF,EM ..⟩
def Fr.up(s:Fr F0 x0 L w)(u:Up w w'):Fr F0 x0 L w':=s.res (.z u)
theorem Fr.new(s:Fr F0 x0 L w)(r:Rz w w' [A]):Fr F0 x0 (A::L) w':=s.res r
theorem Fr.alloc(s:Fr F0 x0 L w)(t:Aab)(C:Array ah):Fr F0 x0 (bk w.heap.size t C::L) (w.alloc (.cells C t)):=s.res (.one (ai _ _) (aH.new ..) (λn h=>by have h:n=w.heap.size:=h;have:=(aH.new w t C).lt;omega))
theorem Fr.set(s:Fr F0 x0 L w)(hU:mQ L (bk g t C) (bk g t C') L')(hb:aH w' g t C')(hg:w.grownBy w' (some g)):Fr F0 x0 L' w':=s.zK hU (Touch.bg hg (λk e=>by cases e;rfl)) hb (λn h=>⟨by rw[show n=g from h];exact hb.lt,.inl h⟩)
theorem Fr.fsh(s:Fr F0 x0 L w){q:Nat}(h:w.heap.size<=q):Fsh x0 L q:=⟨bN s.t.size h,λA hA hf=>by have:=(s.f A hA q hf).1;omega⟩
theorem Fr.add(s:Fr F0 x0 L w)(f:Fsh x0 L g)(h:aH w g t C):Fr F0 x0 (bk g t C::L) w:=by
 refine⟨s.t,λD hD=>?_,λD hD n hn=>?_,fV.2 ⟨λD hD n hn hd=>f.2 D hD (by rw[<-show n=g from hn];exact hd),s.d⟩⟩
 ·rcases Aam.1 hD with rfl|hD
  ·exact h
  ·exact s.p D hD
 ·rcases Aam.1 hD with rfl|hD
  ·exact⟨by rw[show n=g from hn];exact h.lt,.inr (by rw[show n=g from hn];exact f.1)⟩
  ·exact s.f D hD n hn
end
def jn(A B:As):As:=⟨λn=>A.F n\/B.F n,λw=>A.P w/\B.P w,λh T hf=>⟨A.st h.1 T λn hn=>hf n (.inl hn),B.st h.2 T λn hn=>hf n (.inr hn)⟩⟩
inductive xT:List As->As->List As->Prop
 | head {A:As} {L:List As}:xT (A::L) A L
 | tail {A B:As} {L L':List As}:xT L A L'->xT (B::L) A (B::L')
theorem xT.sub{D:As}{L L':List As}(h:xT L D L'):∀A∈L',A∈L:=by
 induction h with
 | head=>exact λA h=>bt _ h
 | tail _ ih=>
  intro A h;rcases Aam.1 h with rfl|h
  ·exact cV
  ·exact bt _ (ih A h)
theorem xT.mem{D:As}{L L':List As}(h:xT L D L'):D∈L:=by exact MY
theorem xT.pair{D:As}{L L':List As}{R:As->As->Prop}(h:xT L D L')(hs:∀{A B},R A B->R B A)(d:L.Pairwise R):L'.Pairwise R/\∀A∈L',R D A:=by
 induction h with
 | head=>exact⟨(fV.1 d).2,(fV.1 d).1⟩
 | tail h ih=>
  obtain⟨d1,d2⟩:=fV.1 d;obtain⟨i1,i2⟩:=ih d2;refine⟨fV.2 ⟨λA hA=>d1 A (h.sub A hA),i1⟩,λA hA=>?_⟩;rcases Aam.1 hA with rfl|hA
  ·exact hs (d1 _ h.mem)
  ·exact i2 A hA
def Fr.rem{F0:Nat->Prop}{x0 w:af}{L L':List As}{D:As}(s:Fr F0 x0 L w)(h:xT L D L'):Fr F0 x0 L' w:=⟨s.t,λA hA=>s.p A (h.sub A hA),λA hA=>s.f A (h.sub A hA),(h.pair (R:=λA B=>∀n,A.F n->¬B.F n) (λh n a b=>h n b a) s.d).1⟩
theorem Fr.join{F0:Nat->Prop}{x0 w:af}{L L1 L':List As}{A B:As}(s:Fr F0 x0 L w)(h:xT L B L1)(hU:mQ L1 A (jn A B) L'):Fr F0 x0 L' w:=by
 obtain⟨p1,p2⟩:=h.pair (R:=λA B=>∀n,A.F n->¬B.F n) (λh n a b=>h n b a) s.d;obtain⟨d1,d2⟩:=hU.pair (R:=λA B=>∀n,A.F n->¬B.F n) (λh n a b=>h n b a) p1 (λD hD k n hn hd=>by
  rcases hn with hn|hn
  ·exact k n hn hd
  ·exact p2 D hD n hn hd)
 have hA:=h.sub _ hU.mem;refine⟨s.t,λD hD=>?_,λD hD n hn=>?_,d1⟩
 ·rcases hU.sub D hD with rfl|hD
  ·exact⟨s.p _ hA,s.p _ h.mem⟩
  ·exact s.p D (h.sub D hD)
 ·rcases hU.sub D hD with rfl|hD
  ·exact hn.elim (s.f _ hA n) (s.f _ h.mem n)
  ·exact s.f D (h.sub D hD) n hn
def no:Nat->Prop:=λ_=>False
theorem Fr.start(x:af):Fr no x [] x:=⟨Touch.refl _ _,λ_ h=>fI,λ_ h=>fI,.nil⟩
def Fr.pure{x w:af}{L:List As}(s:Fr no x L w):Up x w:=s.t.up (Up.refl x) (λ_ h=>h.elim)
theorem Fr.from{x:af}{A:As}(h:A.P x)(hl:∀n,A.F n->n<x.heap.size):Fr A.F x [A] x:=⟨Touch.refl _ _,λD h'=>by rw[kl.1 h'];exact h,λD h' n hn=>by rw[kl.1 h']at hn;exact⟨hl n hn,.inl hn⟩,EM ..⟩
def zc(P:bx)(t:Aab):Array ah:=match P.info? t with
 | some i=>match i.zero with
  | some v=>v.cells
  | none=>#[]
 | none=>#[]
def zk(P:bx)(t:Aab):Bool:=(P.info? t).any (·.zero.isSome)
theorem aad(h:zk P t=true):∃v,(∀W,(Ab9 t).run P W=.ok v W)/\v.cells=zc P t:=by
 unfold zk at h;cases hi:P.info? t with
 | none=>simp[hi]at h
 | some i=>
  cases hz:i.zero with
  | none=>simp[hi,hz]at h
  | some v=>exact⟨v,λW=>by simp[Ab9,typeInfo,hi,hz],by simp[zc,hi,hz]⟩
section
variable {P:bx} {ops:Array Abn} {Q:Exit->Act->af->Prop} {K:Act->af->Prop} {o:Abn} {a:Act} {w:af}
theorem LH{v:ah}{w':af}(hv:(Abs a.eval o).run P w=.ok (.value v) w')(h:K (a.put o.dst v) w'):o.wp P a w K Q:=by unfold Acb;rw[hv];exact h
theorem tl{t:Aab}(ho:o.op=.alloc t)(hz:zk P t=true)(h:K (a.put o.dst (pz w.heap.size)) (w.alloc (.cells (zc P t) t))):o.wp P a w K Q:=by obtain⟨v,h1,h2⟩:=aad hz;unfold Acb Abs;simp[ho,Instr.alloc,Aaw,h1,newVar,newRow,h2,Aap];exact h
theorem I7{t:Aab}{x:bO}{C:Array ah}(ho:o.op=.box t x)(hx:(a.eval x).cells=C)(h:K (a.put o.dst (pz w.heap.size)) (w.alloc (.cells C t))):o.wp P a w K Q:=by unfold Acb Abs;simp[ho,Instr.box,hx,Aaw,newVar,newRow,Aap];exact h
theorem mI{ty t:Aab}{x y:bO}{g off:Nat}{V C:Array ah}(ho:o.op=.store ty x y)(hx:a.eval x=.pointer (some ⟨g,off,none⟩))(hy:(a.eval y).cells=V)(hb:aH w g t C)(hi:(P.info? ty).map (·.size)=some V.size)(hfit:off+V.size<=C.size)(h1:V.all (·.oneCell')=true)(h:∀w',aH w' g t (Aby C.toList off V.toList).toArray->w.grownBy w' (some g)->K (a.put o.dst Aar) w'):o.wp P a w K Q:=by
 have aE:=v7 (P:=P) g off t V.toList 0 C w hb ab (λv hv=>(v8.1 h1) v aa);have a6:(storeVar ty ⟨g,off,none⟩ (a.eval y)).run P w=.ok () (w.setRow g (Aby C.toList off V.toList).toArray):=by
  cases hq:P.info? ty with
  | none=>simp[hq]at hi
  | some i=>
   have hs:V.size=i.size:=by simp[hq]at hi;omega
   simp only[Nat.add_zero,Aa8]at aE;simp[storeVar,sizeOf,typeInfo,hq,hy,hs,Aby];simpa[hs]using aE
 unfold Acb Abs;simp[ho,hx,Instr.storeAt,Adf,Aaw,a6,Aap];exact h _ (hb.set _) (cQ w g _)
theorem BS{C V:Array ah}(h:C.size=V.size):(Aby C.toList 0 V.toList).toArray=V:=Mj
end
theorem Rx(h:(P.info? ty).map (·.size)=some C.size:=by first|with_reducible assumption|with_reducible exact RowKit.Hid.out cm|with_reducible exact gX _ cm|exact lG):(P.info? ty).map (·.size)=some C.size:=h
theorem abB{v:ah}(h:v.oneCell'=true):(#[v]).all (·.oneCell')=true:=by simp[h]
theorem zoa(h:C.all (·.oneCell')=true:=by first|with_reducible assumption|with_reducible exact RowKit.Hid.out cm|exact abB ay|with_reducible exact jK _|with_reducible exact gL|exact uT):C.all (·.oneCell')=true:=h
theorem zhs{C C':Array ah}(h:C.size=C'.size:=by first|with_reducible assumption|with_reducible exact RowKit.Hid.out cm|rfl|exact KE cm ay):C.size=C'.size:=h
theorem gR{b:As}{L:List As}(h:b∈L:=by first|with_reducible exact cV|with_reducible exact bt _ cV|with_reducible exact bt _ (bt _ cV)|with_reducible exact bt _ (bt _ (bt _ cV))|with_reducible exact bt _ (bt _ (bt _ (bt _ cV)))|with_reducible exact bt _ (bt _ (bt _ (bt _ (bt _ cV))))|with_reducible exact bt _ (bt _ (bt _ (bt _ (bt _ (bt _ cV)))))|with_reducible exact bt _ (bt _ (bt _ (bt _ (bt _ (bt _ (bt _ cV))))))|with_reducible exact bt _ (bt _ (bt _ (bt _ (bt _ (bt _ (bt _ (bt _ cV)))))))|with_reducible exact bt _ (bt _ (bt _ (bt _ (bt _ (bt _ (bt _ (bt _ (bt _ cV))))))))|with_reducible exact bt _ (bt _ (bt _ (bt _ (bt _ (bt _ (bt _ (bt _ (bt _ (bt _ cV)))))))))|with_reducible exact bt _ (bt _ (bt _ (bt _ (bt _ (bt _ (bt _ (bt _ (bt _ (bt _ (bt _ cV))))))))))|with_reducible exact bt _ (bt _ (bt _ (bt _ (bt _ (bt _ (bt _ (bt _ (bt _ (bt _ (bt _ (bt _ cV)))))))))))):b∈L:=h
theorem zzf(h:zc P t=C:=by first|with_reducible exact abK|with_reducible exact abL|with_reducible exact abJ|with_reducible exact abG|with_reducible exact abd|with_reducible exact abe|with_reducible exact abb|with_reducible exact abF|with_reducible exact zc3|with_reducible exact abI|with_reducible exact abH|with_reducible exact abc):zc P t=C:=h
theorem zvv{x v:ah}(h:x=v:=by first|exact(rfl:_=Value.int _ _)|exact(rfl:_=Value.slice _ _ _)|exact(rfl:_=Value.pointer _)|exact(rfl:_=Value.bool _)|exact(rfl:_=Value.string _)|exact(rfl:_=Value.agg _)|rfl):x=v:=h
theorem zvo{x:Option ah}{v:ah}(h:x=some v:=by first|exact(rfl:_=some (Value.int _ _))|exact(rfl:_=some (Value.slice _ _ _))|exact(rfl:_=some (Value.pointer _))|exact(rfl:_=some (Value.bool _))|exact(rfl:_=some (Value.string _))|rfl):x=some v:=h
theorem cva(h:x=.agg C):x.cells=C:=nK
theorem cvs{a:Option Addr}{n c:Nat}(h:x=.slice a n c):x.cells=#[.slice a n c]:=nK
theorem cvi{k:IntKind}{n:Int}(h:x=.int k n):x.cells=#[.int k n]:=nK
theorem cvt{b:ByteArray}(h:x=.string b):x.cells=#[.string b]:=nK
theorem cvb{b:Bool}(h:x=.bool b):x.cells=#[.bool b]:=nK
theorem cvp{b:Option Addr}(h:x=.pointer b):x.cells=#[.pointer b]:=nK
theorem zcv(h:x.cells=C:=by first|exact cva ay|exact cvs ay|exact cvi ay|exact cvt ay|exact cvb ay|exact cvp ay):x.cells=C:=h
theorem vH{L L':List As}{A B:As}(h:mQ L A B L':=by first|with_reducible exact .head|with_reducible exact .tail .head|with_reducible exact .tail (.tail .head)|with_reducible exact .tail (.tail (.tail .head))|with_reducible exact .tail (.tail (.tail (.tail .head)))|with_reducible exact .tail (.tail (.tail (.tail (.tail .head))))|with_reducible exact .tail (.tail (.tail (.tail (.tail (.tail .head)))))|with_reducible exact .tail (.tail (.tail (.tail (.tail (.tail (.tail .head))))))|with_reducible exact .tail (.tail (.tail (.tail (.tail (.tail (.tail (.tail .head)))))))|with_reducible exact .tail (.tail (.tail (.tail (.tail (.tail (.tail (.tail (.tail .head))))))))|with_reducible exact .tail (.tail (.tail (.tail (.tail (.tail (.tail (.tail (.tail (.tail .head)))))))))|with_reducible exact .tail (.tail (.tail (.tail (.tail (.tail (.tail (.tail (.tail (.tail (.tail .head))))))))))|with_reducible exact .tail (.tail (.tail (.tail (.tail (.tail (.tail (.tail (.tail (.tail (.tail (.tail .head)))))))))))):mQ L A B L':=h
def Sv(F0:Nat->Prop)(x0:af)(L:List As)(w:af):Prop:=Touch F0 x0 w/\∀A∈L,A.P w
section
variable {P:bx} {ops:Array Abn} {Q:Exit->Act->af->Prop} {K:Act->af->Prop} {rest:List Abn} {o:Abn} {a:Act} {w:af} {L L':List As} {F0:Nat->Prop} {x0:af} {v:ah} {g off n m:Nat} {t ty:Aab} {C C':Array ah}
def Fr.sv(s:Fr F0 x0 L' w)(hL:∀A∈L,A∈L'):Sv F0 x0 L w:=⟨s.t,λA h=>s.p A (hL A h)⟩
def V'(ho:o.op=.load ty (.tmp n))(hx:a.eval (.tmp n)=.pointer (some ⟨g,off,none⟩))(hm:bk g t C∈L)(hv:C[off]?=some v)(hagg:∀w:af,(isAgg ty).run P w=.ok false w)(hw:Aaa o (Aa1 ops a.tmps)=true):Ace P ops (Sv F0 x0 L) o v a:=zq hw ty (.tmp n) ho ⟨g,off,none⟩ hx (λw h=>((show aH w g _ C from h.2 _ hm).cell off).trans hv) hagg
def YR{d:eJ}(ho:o.op=.load ty (.tmp n))(hx:a.eval (.tmp n)=.pointer (some ⟨g,0,none⟩))(hu:P.underlying ty=some d)(hd:d.isRow=true)(hm:bk g ty C∈L)(hi:(P.info? ty).map (·.size)=some C.size)(hw:Aaa o (Aa1 ops a.tmps)=true):Ace P ops (Sv F0 x0 L) o (.agg C) a:=vA hw ty (.tmp n) ho g 0 hx C (λw h=>(show aH w g _ C from h.2 _ hm).range) d hu hd hi
def YT{d:eJ}(ho:o.op=.load ty (.tmp n))(hx:a.eval (.tmp n)=.pointer (some ⟨g,off,none⟩))(hu:P.underlying ty=some d)(hd:d.isRow=true)(hm:bk g t C∈L)(hC:∀W,aH W g t C->W.rangeAt g off C'.toList)(hi:(P.info? ty).map (·.size)=some C'.size)(hw:Aaa o (Aa1 ops a.tmps)=true):Ace P ops (Sv F0 x0 L) o (.agg C') a:=vA hw ty (.tmp n) ho g off hx C' (λw h=>hC w (show aH w g _ C from h.2 _ hm)) d hu hd hi
def YS{ad:Addr}(ho:o.op=.load ty (.tmp n))(hx:a.eval (.tmp n)=.pointer (some ad))(hc:x0.cell? ad=some v)(hF:¬F0 ad.block)(hagg:∀w:af,(isAgg ty).run P w=.ok false w)(hw:Aaa o (Aa1 ops a.tmps)=true):Ace P ops (Sv F0 x0 L) o v a:=zq hw ty (.tmp n) ho ad hx (λw h=>(nG (h.1.block _ (hX _ _ hc) hF)).trans hc) hagg
def Wa{d:eJ}(ho:o.op=.load ty (.tmp n))(hx:a.eval (.tmp n)=.pointer (some ⟨g,off,none⟩))(hu:P.underlying ty=some d)(hd:d.isRow=true)(hc:x0.rangeAt g off C.toList)(hF:¬F0 g)(hi:(P.info? ty).map (·.size)=some C.size)(hw:Aaa o (Aa1 ops a.tmps)=true):Ace P ops (Sv F0 x0 L) o (.agg C) a:=vA hw ty (.tmp n) ho g off hx C (λw h j v hj=>(nG (h.1.block _ (hX _ _ (hc j v hj)) hF)).trans (hc j v hj)) d hu hd hi
end
theorem V9{S:af->Prop}(ho:o.op=.build ty #[])(hb:P.built ty []=some C)(hw:Aaa o (Aa1 ops a.tmps)=true):Ace P ops S o (.agg C) a:=.inl ⟨hw,λw _=>by
  have:=run_build (P:=P) w ty #[] C hb;unfold Abs;simp only[ho,List.map_toArray,List.map_nil,Aaw,this,Aau,Acq]⟩
inductive Bs (a:Act):List (Nat × bO)->List (Nat × ah)->Prop
 | nil:Bs a [] []
 | cons {k:Nat} {x:bO} {v:ah} {ps:List (Nat × bO)} {vs:List (Nat × ah)} (r:Bs a ps vs) (h:a.eval x=v:=by exact zvv):Bs a ((k,x)::ps) ((k,v)::vs)
theorem Bs.eq{ps:List (Nat × bO)}{l:List (Nat × ah)}(h:Bs a ps l):ps.map (λp=>(p.1,a.eval p.2))=l:=by
 induction h with
 | nil=>rfl
 | cons r h ih=>rw[Acf,ih,h]
theorem OC{S:af->Prop}{ps:List (Nat × bO)}{l:List (Nat × ah)}(ho:o.op=.build ty ⟨ps⟩)(hl:Bs a ps l)(hb:P.built ty l=some C)(hw:Aaa o (Aa1 ops a.tmps)=true):Ace P ops S o (.agg C) a:=.inl ⟨hw,λw _=>by
  have:=hl.eq;subst this;have:=run_build (P:=P) w ty (ps.toArray.map λp=>(p.1,a.eval p.2)) C (by simpa using hb);unfold Abs;simp only[ho,Aaw,this,Aau,Acq]⟩
theorem zbs{ps:List (Nat × bO)}{l:List (Nat × ah)}(h:Bs a ps l:=by first|exact .cons .nil|exact .cons (.cons .nil)|exact .cons (.cons (.cons .nil))|exact .cons (.cons (.cons (.cons .nil)))|exact .cons (.cons (.cons (.cons (.cons .nil))))|exact .cons (.cons (.cons (.cons (.cons (.cons .nil)))))|exact .cons (.cons (.cons (.cons (.cons (.cons (.cons .nil))))))|exact .cons (.cons (.cons (.cons (.cons (.cons (.cons (.cons .nil)))))))|exact .cons (.cons (.cons (.cons (.cons (.cons (.cons (.cons (.cons .nil))))))))|exact .cons (.cons (.cons (.cons (.cons (.cons (.cons (.cons (.cons (.cons .nil)))))))))):Bs a ps l:=h
theorem zas{p:Prop}(h:p:=by first|with_reducible assumption|assumption):p:=h
theorem zno{F:Nat->Prop}(h:¬F n:=by first|exact λh=>h|assumption):¬F n:=h
theorem zyf{F0:Nat->Prop}{x0:af}{L:List As}{v:ah}(h:YieldsIf P ops (Sv F0 x0 L) o v a:=by first
 | exact YR ay ay hM ay gR Rx ay
 | exact YT ay ay hM ay gR (by intro _ h;first|with_reducible exact mF h cm cm|with_reducible exact Ce h cm cm|with_reducible exact Cf h cm cm|with_reducible exact BO h|with_reducible exact B' h) Rx ay
 | exact V' ay ay gR zvo FD ay
 | exact Wa ay ay hM ay zas zno Rx ay
 | exact YS ay ay zas zno FD ay
 | exact OC ay zbs zas ay
 | exact ym):YieldsIf P ops (Sv F0 x0 L) o v a:=h
def nP(l:Array Bool):List Nat->Array Bool
 | []=>l
 | e::E=>(nP l E).setIfInBounds e true
def Hp(ops:Array Abn)(j:Nat):Option Tmp:=(ops[j]?).bind (·.dst)
def put(ops:Array Abn)(a:Act):List (Nat × Nat)->Act
 | []=>a
 | e::E=>(put ops a E).put (Hp ops e.1) (pz e.2)
def mR(l:Array Bool):Nat:=l.toList.countP (λb=>!b)
def HM(P:bx)(ops:Array Abn)(j:Nat):Bool:=match ops[j]? with
 | some o=>match o.op with
  | .alloc t=>o.guard.isNone && zk P t
  | _=>false
 | none=>false
def Cl(ops:Array Abn)(l:Array Bool):List Nat:=Abb .any ops l
def RA(P:bx)(ops:Array Abn)(l:Array Bool):List Nat:=(Cl ops l).filter (HM P ops)
def LZ(P:bx)(ops:Array Abn)(l:Array Bool)(c:Nat):Bool:=(Cl ops l).contains c && !HM P ops c && (Cl ops (nP l (RA P ops l))).all (·==c) && (RA P ops l).all (λj=>match ops[j]?,ops[c]? with
  | some x,some y=>x.apart ops y
  | _,_=>false)
def chN(P:bx)(ops:Array Abn)(l:Array Bool)(j:Nat):Bool:=(RA P ops l).contains j && (Cl ops (nP l ((RA P ops l).filter (· != j)))).all (·==j) && (RA P ops l).all (λi=>i==j || match ops[i]?,ops[j]? with
  | some x,some y=>x.apart ops y
  | _,_=>false)
theorem tu{l:Array Bool}(h:l.getD i true=false):mR (l.setIfInBounds i true)+1=mR l:=by
 have hi:i<l.size:=by
  rcases ma i l.size with h'|h'
  ·exact h'
  ·simp[Array.getD,Nat.not_lt.2 h']at h
 have hv:l[i]=false:=by simpa[Array.getD,hi]using h
 unfold mR;have e:=List.countP_set (p:=λb=>!b) (l:=l.toList) (a:=true) (i:=i) AY;have:0<l.toList.countP (λb=>!b):=List.countP_pos_iff.2 ⟨false,by rw[<-hv];simp,rfl⟩;rw[Abl,e,Array.getElem_toList,hv];simp only[Bool.not_true,Bool.not_false,if_true,Ab2,if_false];omega
theorem kP(l:Array Bool)(E:List Nat)(k:Nat)(d:Bool):(nP l E).getD k d=if k∈E/\k<l.size then true else l.getD k d:=by
 induction E with
 | nil=>simp[nP]
 | cons e E ih=>
  have hs:∀E,(nP l E).size=l.size:=λE=>by induction E with
   | nil=>rfl
   | cons _ _ ih=>simp[nP,ih]
  show((nP l E).setIfInBounds e true).getD k d=_;rw[Me,Array.getElem?_setIfInBounds,hs,<-oB];by_cases hk:e=k
  ·subst hk;by_cases hl:e<l.size
   ·simp[hl]
   ·simp[hl,Ade (Nat.not_lt.1 hl)]
  ·rw[aM hk,oB,<-Me,ih];have:k≠e:=λh=>hk h.symm;simp[this]
def vc{l:Array Bool}:j∈Cl ops l↔l.getD j true=false/\∃o,ops[j]?=some o/\∀e∈o.after,Region.binds .any e=true->l.getD e.on false=true:=mem_ready
theorem vd{l:Array Bool}{E:List Nat}(h:j∈Cl ops l)(hj:j ∉ E):j∈Cl ops (nP l E):=by
 rw[vc]at h ⊢;obtain⟨h1,o,h2,h3⟩:=h;refine⟨by rw[kP];simp[hj,h1],o,h2,λe he hb=>?_⟩;rw[kP];split
 ·rfl
 ·exact h3 e he hb
theorem Og{l:Array Bool}{E J:List Nat}(h:j∈Cl ops (nP l E))(hE:∀e∈E,e∈J)(hj:j ∉ J):j∈Cl ops (nP l J):=by
 rw[vc]at h ⊢;obtain⟨h1,o,h2,h3⟩:=h;rw[kP]at h1;refine⟨?_,o,h2,λe he hb=>?_⟩
 ·rw[kP];split at h1
  ·cases h1
  ·simp[hj,h1]
 ·have:=h3 e he hb;rw[kP]at this ⊢;by_cases hm:e.on∈J/\e.on<l.size
  ·simp[hm]
  ·rw[aM hm];rw[aM (λh=>hm ⟨hE _ h.1,h.2⟩)]at this;exact this
theorem uL{l:Array Bool}{E:List Nat}(h:i ∉ E):nP (l.setIfInBounds i true) E=(nP l E).setIfInBounds i true:=by
 induction E with
 | nil=>rfl
 | cons e E ih=>show(nP (l.setIfInBounds i true) E).setIfInBounds e true=_;rw[ih aQ,Array.setIfInBounds_comm _ _ aQ];rfl
theorem L3(h:HM P ops j=true):∃o t,ops[j]?=some o/\o.op=.alloc t/\o.guard=none/\zk P t=true:=by
 unfold HM at h;split at h
 ·split at h
  ·rename_i o ho _ t ht;simp at h;exact⟨o,t,ho,ht,h.1,h.2⟩
  ·cases h
 ·cases h
theorem Gk{v:ah}(h:∀e∈E,∀d,Hp ops e.1=some d->o.dst≠some d):put ops (a.put o.dst v) E=(put ops a E).put o.dst v:=by
 induction E with
 | nil=>rfl
 | cons e E ih=>show(put ops (a.put o.dst v) E).put _ _=_;rw[ih (λx hx=>h x (bt _ hx)),Act.put_comm _ _ _ (λd hd az=>h e cV d az hd)];rfl
theorem By(hs:∀cs b,o.op≠.select cs b)(h:∀e∈E,∀d,Hp ops e.1=some d->d ∉ o.looksAt ops):Abs (put ops a E).eval o=Abs a.eval o/\Aaa o (Aa1 ops (put ops a E).tmps)=Aaa o (Aa1 ops a.tmps):=by
 induction E with
 | nil=>exact⟨rfl,rfl⟩
 | cons e E ih=>have:=ih (λx hx=>h x (bt _ hx));exact⟨(execOp_put o hs _ _ _ (h e cV)).trans this.1,(wanted_put o _ _ _ (h e cV)).trans this.2⟩
theorem put_defers{d:Deferred}:put ops {a with defers:=d::a.defers} E={put ops a E with defers:=d::(put ops a E).defers}:=by
 induction E with
 | nil=>rfl
 | cons e E ih=>simp only[put];rw[ih];cases Hp ops e.1<;>rfl
theorem Oe:(put ops a E).defers=a.defers:=by
 induction E with
 | nil=>rfl
 | cons e E ih=>rw[<-ih];show((put ops a E).put _ _).defers=_;cases Hp ops e.1<;>rfl
theorem ZN(hs:∀cs b,o.op≠.select cs b)(h:∀e∈E,∀d,Hp ops e.1=some d->d ∉ o.looksAt ops/\o.dst≠some d)(hQ:∀c a w b,a.defers=b.defers->Q (.panic c) a w->Q (.panic c) b w)(k:o.wp P a w (λa' w'=>K (put ops a' E) w') Q):o.wp P (put ops a E) w K Q:=by
 have c:=By (a:=a) hs (λe he d hd=>(h e he d hd).1);have q:∀b v,put ops (Aas b o.dst v) E=(put ops b E).put o.dst v:=λb v=>Gk (λe he d hd=>(h e he d hd).2);unfold Acb at *;rw[c.1];generalize(Abs a.eval o).run P w=r at *;cases r with
 | ok n w'=>
  cases n<;>simp only[Oper.upon]at k ⊢
  case value u=>rw[<-q];exact k
  case skip=>rw[<-q];exact k
  case defer d=>rw[<-put_defers,<-q];exact k
  case enter f args=>
   refine Calls.mono k λe aa he=>?_;cases e with
   | returned u=>simp only at he ⊢;rw[<-q];exact he
   | panicked c=>exact hQ _ _ _ _ Oe.symm he
   | outgrown=>exact he
  case row row args=>exact Rows.mono k λu aa he=>by rw[<-q];exact he
 | halt x w'=>
  cases x<;>simp only[Oper.upon]at k ⊢
  case panic u=>exact hQ _ _ _ _ Oe.symm k
structure LK(P:bx)(ops:Array Abn)(x0:af)(L:List As)(l:Array Bool)(E:List (Nat × Nat))(w:af):Prop where
 nd:(E.map (·.1)).Nodup
 ds:∀a∈E,∀b∈E,a.1≠b.1->a.2≠b.2
 ok:∀e∈E,e.1∈RA P ops l/\Fsh x0 L e.2/\∃o t,ops[e.1]?=some o/\o.op=.alloc t/\aH w e.2 t (zc P t)
def RG(P:bx)(ops:Array Abn)(Q:Exit->Act->af->Prop)(F0:Nat->Prop)(x0:af)(L0 L:List As)(l:Array Bool)(a:Act)(x:af):Prop:=(∀A∈L0,A∈L)->∀E w,Up x w->Fr F0 x0 L w->LK P ops x0 L l E w->Acp P .any ops Q (Sv F0 x0 L0) (mR (nP l (E.map (·.1)))) (nP l (E.map (·.1))) (put ops a E) w
structure xS(F0:Nat->Prop)(x0:af)(L:List As)(w:af)(L':List As)(w':af):Prop where
 s:Fr F0 x0 L' w'
 k:∀q t C,Fsh x0 L q->aH w q t C->Fsh x0 L' q/\aH w' q t C
section
variable {P:bx} {ops:Array Abn} {Q:Exit->Act->af->Prop} {F0:Nat->Prop} {x0:af} {L0 L L' N:List As} {l:Array Bool} {a:Act} {x w w':af} {o:Abn} {v:ah} {E:List (Nat × Nat)}
theorem iN{i:Nat}:i∈RA P ops l↔i∈Cl ops l/\HM P ops i=true:=by simp[RA]
def B4{i:Nat}(h:i∈Cl ops l):l.getD i true=false:=(vc.1 h).1
theorem LK.up(r:LK P ops x0 L l E w)(u:Up w w'):LK P ops x0 L l E w':=⟨r.nd,r.ds,λe h=>by obtain⟨h1,h2,o,t,h3,h4,h5⟩:=r.ok e h;exact⟨h1,h2,o,t,h3,h4,h5.up u⟩⟩
theorem LK.set(r:LK P ops x0 L l E w){c:Nat}(hc:∀e∈E,e.1≠c):LK P ops x0 L (l.setIfInBounds c true) E w:=⟨r.nd,r.ds,λe h=>by obtain⟨h1,h2⟩:=r.ok e h;obtain⟨h3,h4⟩:=iN.1 h1;exact⟨iN.2 ⟨vd (E:=[c]) h3 (by simpa using hc e h),h4⟩,h2⟩⟩
theorem LK.more(s:Fr F0 x0 L w)(r:LK P ops x0 L l E w){i:Nat}{t:Aab}(hi:i∈RA P ops l)(hE:i ∉ E.map (·.1))(ho:ops[i]?=some o)(ht:o.op=.alloc t):LK P ops x0 L l ((i,w.heap.size)::E) (w.alloc (.cells (zc P t) t)):=by
 have u:=ai w (.cells (zc P t) t);have r':=r.up u;refine⟨by rw[Acf,List.nodup_cons];exact⟨hE,r.nd⟩,?_,λe h=>?_⟩
 ·have lt:∀e∈E,e.2<w.heap.size:=λe he=>by obtain⟨_,_,_,_,_,_,hb⟩:=r.ok e he;exact hb.lt
  intro a ha b hb aC;rcases Aam.1 ha with rfl|ha<;>rcases Aam.1 hb with rfl|hb
  ·exact absurd rfl aC
  ·have:=lt b hb;simp only;omega
  ·have:=lt a ha;simp only;omega
  ·exact r.ds a ha b hb aC
 ·rcases Aam.1 h with rfl|h
  ·exact⟨hi,s.fsh (aG _),o,t,ho,ht,aH.new ..⟩
  ·exact r'.ok e h
theorem G7(r:LK P ops x0 L l E w)(h:∀e∈E,∀x,ops[e.1]?=some x->x.apart ops o=true\/o.apart ops x=true):∀e∈E,∀d,Hp ops e.1=some d->d ∉ o.looksAt ops/\o.dst≠some d:=λe he d hd=>by
 obtain⟨_,_,x,t,hx,_,_⟩:=r.ok e he;have hd:x.dst=some d:=by simpa[Hp,hx]using hd
 rcases h e he x hx with k|k
 ·obtain⟨k1,k2,k3⟩:=EN k;exact⟨k1 d hd,k2 d hd⟩
 ·obtain⟨k1,k2,k3⟩:=EN k;exact⟨k3 d hd,λe=>k2 d e hd⟩
theorem Oj(i:Nat){a':Act}(h:RG P ops Q F0 x0 L0 L (l.setIfInBounds i true) a' x)(hi:ops[i]?=some o)(hy:Ace P ops (Sv F0 x0 L0) o v a)(ha:a.put o.dst v=a')(hc:((Cl ops l).contains i && !HM P ops i && Adn .any ops l i && Aba ops)=true)(hQ:∀c a w b,a.defers=b.defers->Q (.panic c) a w->Q (.panic c) b w):RG P ops Q F0 x0 L0 L l a x:=by
 subst ha;intro hL E w u s r;simp only[Abc,Bool.not_eq_true']at hc;obtain⟨⟨⟨c1,c2⟩,c3⟩,c4⟩:=hc;have ir:i∈Cl ops l:=by simpa using c1
 have hE:∀e∈E,e.1≠i:=λe he e2=>To
 have ab:i ∉ E.map (·.1):=λhm=>Tp
 have ap:=G7 (o:=o) r (λe he y hy=>by
  obtain⟨k1,y',k3,k4⟩:=vc.1 (iN.1 (r.ok e he).1).1;rw[hy]at k3;cases k3;refine .inr (Region.free_spec hi c3 e.1 _ hy (hE e he) k1 (λe' aa hb heq=>?_));obtain⟨k5,k6⟩:=aA (k4 e' aa hb) (B4 ir);rw[heq]at k5;rcases ma i l.size with h'|h'
  ·simp[h']at k5 k6;rw[k6]at k5;cases k5
  ·simp[Ade h']at k5)
 obtain⟨pe,hm⟩:=aA (By (ops:=ops) (a:=a) (E:=E) (ys c4 i o · · hi) (λe he d hd=>(ap e he d hd).1)) (uL (l:=l) ab);have hn:(nP l (E.map (·.1))).getD i true=false:=by rw[kP,aM (λh=>ab h.1)];exact B4 ir
 rw[<-tu hn];refine wpAnyH_first hi (ys c4) (λc b w'=>hQ c _ w' _ (by cases o.dst<;>rfl)) _ _ _ w (λj oj hj hne ad ao=>Region.free_spec hi c3 j oj hj hne ?_ ao) (vd ir ab) (hy.of_same pe.1 pe.2) (s.sv hL) ?_
 ·rw[kP]at ad;split at ad
  ·cases ad
  ·exact ad
 ·rw[<-hm,<-Gk (λe he d hd=>(ap e he d hd).2)];exact h hL E w u s (r.set hE)
theorem aaN(c:Nat)(h:∀w,Up x w->Fr F0 x0 L w->∀K:Act->af->Prop,(∀v w' L',xS F0 x0 L w L' w'->(∀A∈L0,A∈L->A∈L')->RG P ops Q F0 x0 L0 L' (l.setIfInBounds c true) (a.put o.dst v) w'->K (a.put o.dst v) w')->o.wp P a w K Q)(hi:ops[c]?=some o)(hw:Aaa o (Aa1 ops a.tmps)=true)(hc:(LZ P ops l c && Aba ops)=true)(hQ:∀c a w b,a.defers=b.defers->Q (.panic c) a w->Q (.panic c) b w):RG P ops Q F0 x0 L0 L l a x:=by
 intro hL;unfold LZ at hc;simp only[Abc,Bool.not_eq_true',List.all_eq_true]at hc;obtain⟨⟨⟨⟨c1,c2⟩,c3⟩,c5⟩,c4⟩:=hc;have ir:c∈Cl ops l:=by simpa using c1
 suffices go:∀n E w,mR (nP l (E.map (·.1)))=n->Up x w->Fr F0 x0 L w->LK P ops x0 L l E w->Acp P .any ops Q (Sv F0 x0 L0) n (nP l (E.map (·.1))) (put ops a E) w from λE w u s r=>go _ E w rfl u s r
 intro n;induction n with
 | zero=>
  intro E w hn u s r;exfalso;have ad:c ∉ E.map (·.1):=λhm=>by obtain⟨e,he,h2⟩:=Abf.1 hm;have:=(iN.1 (r.ok e he).1).2;rw[h2,c2]at this;cases this
  have:=tu (l:=nP l (E.map (·.1))) (i:=c) (by rw[kP,aM (λh=>ad h.1)];exact B4 ir);omega
 | succ n ih=>
  intro E w hn u s r;have hE:∀e∈E,e.1≠c:=λe he e2=>To
  have ad:c ∉ E.map (·.1):=λhm=>Tp
  have cr:=vd ir ad;refine⟨λh0=>(by unfold Cl at cr;rw[h0]at cr;cases cr),λi hir=>?_⟩;have hir:i∈Cl ops (nP l (E.map (·.1))):=hir;by_cases ag:i=c
  ·subst ag;have ap:=G7 (o:=o) r (λe he y hy=>by have:=c5 e.1 (r.ok e he).1;rw[hy,hi]at this;exact .inl this)
   obtain⟨pe,hm,aS⟩:=db (By (ops:=ops) (a:=a) (E:=E) (ys c4 i o · · hi) (λe he d hd=>(ap e he d hd).1)) (uL (l:=l) ad) (tu (l:=nP l (E.map (·.1))) (i:=i) (B4 cr));refine kL hi (pe.2.trans hw) (ZN (ys c4 i o · · hi) ap hQ (h w u s _ (λv w' L' nx hl rg=>?_)));refine⟨nx.s.sv (λA hA=>hl A hA (hL A hA)),?_⟩
   ·have:=rg (λA hA=>hl A hA (hL A hA)) E w' (Up.refl _) nx.s ⟨r.nd,r.ds,λe he=>by obtain⟨h1,h2,o,t,h3,h4,h5⟩:=(r.set hE).ok e he;have:=nx.k _ _ _ h2 h5;exact⟨h1,this.1,o,t,h3,h4,this.2⟩⟩
    rw[hm]at this;have e:n=mR ((nP l (E.map (·.1))).setIfInBounds i true):=ae
    rw[e];exact this
  ·have hf:i∈RA P ops l:=yt λhf=>ag (by
    have:=c3 i (Og hir (λe he=>by obtain⟨e',aa,h2⟩:=Abf.1 he;rw[<-h2];exact(r.ok e' aa).1) hf)
    simpa using this)
   refine NP ?_;intro ab;obtain⟨y,t,hy,ht,hg,hz⟩:=L3 (iN.1 hf).2;have ua:=ai w (.cells (zc P t) t);refine kL hy (by unfold Aaa;rw[hg]) (tl ht hz ⟨(s.up ua).sv hL,?_⟩);have:=ih ((i,w.heap.size)::E) (w.alloc (.cells (zc P t) t)) Ti (u.trans ua) (s.up ua) (r.more s hf ab hy ht)
   exact MZ
theorem ZM{j q:Nat}(ap:∀e∈E,e.1≠j->∀d,Hp ops e.1=some d->Hp ops j≠some d)(nd:(E.map (·.1)).Nodup)(h:(j,q)∈E):∃E':List (Nat × Nat),(∀e∈E',e∈E/\e.1≠j)/\(E'.map (·.1)).Nodup/\nP l (E.map (·.1))=nP (l.setIfInBounds j true) (E'.map (·.1))/\put ops a E=put ops (a.put (Hp ops j) (pz q)) E':=by
 induction E with
 | nil=>cases h
 | cons e E ih=>
  rw[Acf,List.nodup_cons]at nd;rcases Aam.1 h with rfl|h
  ·have hj:∀e∈E,e.1≠j:=λe he h2=>nd.1 (Abf.2 ⟨e,he,h2⟩);refine⟨E,λe he=>⟨bt _ he,hj e he⟩,nd.2,?_,?_⟩
   ·show(nP l _).setIfInBounds j true=_;rw[uL nd.1]
   ·show(put ops a E).put (Hp ops j) (pz q)=_;have:=Gk (ops:=ops) (a:=a) (E:=E) (o:={(default:Abn)with dst:=Hp ops j}) (v:=pz q) (λe he d hd az=>ap e (bt _ he) (hj e he) d hd az);exact this.symm
  ·obtain⟨E',h1,h3,h4,h5⟩:=ih (λe he=>ap e (bt _ he)) nd.2 h;have aa:e.1≠j:=λh2=>nd.1 (Abf.2 ⟨_,h,h2.symm⟩);refine⟨e::E',λx hx=>?_,?_,?_,?_⟩
   ·rcases Aam.1 hx with rfl|hx
    ·exact⟨cV,aa⟩
    ·exact⟨bt _ (h1 x hx).1,(h1 x hx).2⟩
   ·rw[Acf,List.nodup_cons];refine⟨λhm=>?_,h3⟩;obtain⟨x,hx,h2⟩:=Abf.1 hm;exact nd.1 (Abf.2 ⟨x,(h1 x hx).1,h2⟩)
   ·show(nP l _).setIfInBounds e.1 true=(nP _ _).setIfInBounds e.1 true;rw[h4]
   ·show(put ops a E).put _ _=(put ops _ E').put _ _;rw[h5]
theorem XK(j:Nat){t:Aab}{C:Array ah}{a':Nat->Act}(h:∀g w,Up x w->Fr F0 x0 (bk g t C::L) w->RG P ops Q F0 x0 L0 (bk g t C::L) (l.setIfInBounds j true) (a' g) w)(hi:ops[j]?=some o)(ho:o.op=.alloc t)(hC:zc P t=C)(hc:chN P ops l j=true)(ha:∀g,a.put o.dst (pz g)=a' g):RG P ops Q F0 x0 L0 L l a x:=by
 obtain rfl:(λg=>a.put o.dst (pz g))=a':=funext ha;intro hL;subst hC;unfold chN at hc;simp only[Abc,List.all_eq_true]at hc;obtain⟨⟨c1,c3⟩,c5⟩:=hc;have jf:j∈RA P ops l:=by simpa using c1
 have ir:=(iN.1 jf).1;suffices go:∀n E w,mR (nP l (E.map (·.1)))=n->Up x w->Fr F0 x0 L w->LK P ops x0 L l E w->Acp P .any ops Q (Sv F0 x0 L0) n (nP l (E.map (·.1))) (put ops a E) w from λE w u s r=>go _ E w rfl u s r
 have dj:Hp ops j=o.dst:=by simp[Hp,hi]
 have done:∀E w,Up x w->Fr F0 x0 L w->LK P ops x0 L l E w->j∈E.map (·.1)->Acp P .any ops Q (Sv F0 x0 L0) (mR (nP l (E.map (·.1)))) (nP l (E.map (·.1))) (put ops a E) w:=by
  intro E w u s r hj;obtain⟨⟨j',q⟩,he,aj⟩:=Abf.1 hj;have he:(j,q)∈E:=by rw[<-aj];exact he
  obtain⟨E',h1,h3,h4,h5⟩:=ZM (ops:=ops) (a:=a) (l:=l) (λe he hne d hd=>by
   have:=c5 e.1 (r.ok e he).1;obtain⟨_,_,y,t,hy,_,_⟩:=r.ok e he;simp only[hy,hi,Bool.or_eq_true,beq_iff_eq,hne,false_or]at this;have hd:y.dst=some d:=by simpa[Hp,hy]using hd
   rw[dj];exact(EN this).2.1 d hd) r.nd he
  obtain⟨_,f,y,t',hy,ht,hb⟩:=r.ok _ he;have e1:y=o:=by simpa[hi]using hy.symm
  subst e1;have e2:t'=t:=by rw[ho]at ht;exact(Op.alloc.inj ht).symm
  subst e2;rw[h4,h5,dj];refine h q w u (s.add f hb) (λb hb=>bt _ (hL b hb)) E' w (Up.refl _) (s.add f hb) ⟨h3,λa ha b hb=>r.ds a (h1 a ha).1 b (h1 b hb).1,λe aa=>?_⟩;obtain⟨k1,k2,k3⟩:=(r.ok e (h1 e aa).1);obtain⟨m1,m2⟩:=iN.1 k1;refine⟨iN.2 ⟨vd (E:=[j]) m1 (by simpa using(h1 e aa).2),m2⟩,⟨k2.1,λb hb=>?_⟩,k3⟩;rcases Aam.1 hb with rfl|hb
  ·exact λe3=>r.ds e (h1 e aa).1 _ he (h1 e aa).2 (show e.2=q from e3)
  ·exact k2.2 b hb
 intro n;induction n with
 | zero=>
  intro E w hn u s r;by_cases hj:j∈E.map (·.1)
  ·rw[<-hn];exact done E w u s r hj
  ·have:=tu (l:=nP l (E.map (·.1))) (i:=j) (by rw[kP,aM (λh=>hj h.1)];exact B4 ir);omega
 | succ n ih=>
  intro E w hn u s r;by_cases hj:j∈E.map (·.1)
  ·rw[<-hn];exact done E w u s r hj
  have jr:=vd ir hj;refine⟨λh0=>(by unfold Cl at jr;rw[h0]at jr;cases jr),λi hir=>?_⟩;have hir:i∈Cl ops (nP l (E.map (·.1))):=hir;have hf:i∈RA P ops l:=yt λhf=>by
   have:=c3 i (Og hir (λe he=>by obtain⟨e',aa,h2⟩:=Abf.1 he;rw[<-h2];refine wa.2 ⟨(r.ok e' aa).1,?_⟩;simp only[bne_iff_ne];exact λh=>hj (Abf.2 ⟨e',aa,h⟩)) (λh=>hf (wa.1 h).1))
   simp only[beq_iff_eq]at this;rw[this]at hf;exact hf jf
  refine NP ?_;intro ab;obtain⟨y,t',hy,ht,hg,hz⟩:=L3 (iN.1 hf).2;have ua:=ai w (.cells (zc P t') t');refine kL hy (by unfold Aaa;rw[hg]) (tl ht hz ⟨(s.up ua).sv hL,?_⟩);have:=ih ((i,w.heap.size)::E) (w.alloc (.cells (zc P t') t')) Ti (u.trans ua) (s.up ua) (r.more s hf ab hy ht)
  exact MZ
theorem XJ(h:∀w,Up x w->Fr F0 x0 L w->Q .normal a w)(hr:Cl ops l=[]):RG P ops Q F0 x0 L0 L l a x:=by
 intro hL E w u s r;have:E=[]:=by
  cases E with
  | nil=>rfl
  | cons e E=>have:=(iN.1 (r.ok e cV).1).1;rw[hr]at this;cases this
 subst this;exact yq hr (h w u s) _
def lk(n k:Nat):Array Bool:=((Aaj n).map λi=>decide (i<k)).toArray
theorem W4(n:Nat):lk n 0=Array.replicate n false:=by apply hS.1;rw[lk,Array.toList_replicate,Acz];exact yo aq aq
theorem Tf(n k:Nat):(lk n k).setIfInBounds k true=lk n (k+1):=by
 apply hS.1;rw[lk,lk,Abl,Acz,Acz];refine yo aq (λi h1 h2=>?_);rw[List.getElem_set];split
 ·subst_vars;simp
 ·simp only[Adp,List.getElem_range];rw[EO];omega
theorem Zx{l:Array Bool}{J:List Nat}{k:Nat}(h:k∈J):nP (l.setIfInBounds k true) J=nP l J:=by
 induction J with
 | nil=>cases h
 | cons j J ih=>
  show(nP _ J).setIfInBounds j true=(nP l J).setIfInBounds j true;by_cases hk:k∈J
  ·rw[ih hk]
  ·rw[uL hk];have:k=j:=(Aam.1 h).resolve_right hk;subst this;rw[Array.setIfInBounds_setIfInBounds]
def ml(n:Nat)(J:List Nat)(k:Nat):Array Bool:=nP (lk n k) J
theorem Ks{n k:Nat}{J:List Nat}(h:J.contains k=false):(ml n J k).setIfInBounds k true=ml n J (k+1):=by unfold ml;rw[<-Tf,uL jG]
def RK(P:bx)(ops:Array Abn)(Q:Exit->Act->af->Prop)(F0:Nat->Prop)(x0:af)(L0 L:List As)(J:List Nat)(k:Nat)(a:Act)(x:af):Prop:=RG P ops Q F0 x0 L0 L (ml ops.size J k) a x
theorem RE{D:As}(h:xT L D L':=by first|with_reducible exact .head|with_reducible exact .tail .head|with_reducible exact .tail (.tail .head)|with_reducible exact .tail (.tail (.tail .head))|with_reducible exact .tail (.tail (.tail (.tail .head)))|with_reducible exact .tail (.tail (.tail (.tail (.tail .head))))|with_reducible exact .tail (.tail (.tail (.tail (.tail (.tail .head)))))|with_reducible exact .tail (.tail (.tail (.tail (.tail (.tail (.tail .head))))))|with_reducible exact .tail (.tail (.tail (.tail (.tail (.tail (.tail (.tail .head)))))))|with_reducible exact .tail (.tail (.tail (.tail (.tail (.tail (.tail (.tail (.tail .head))))))))|with_reducible exact .tail (.tail (.tail (.tail (.tail (.tail (.tail (.tail (.tail (.tail .head)))))))))|with_reducible exact .tail (.tail (.tail (.tail (.tail (.tail (.tail (.tail (.tail (.tail (.tail .head))))))))))|with_reducible exact .tail (.tail (.tail (.tail (.tail (.tail (.tail (.tail (.tail (.tail (.tail (.tail .head)))))))))))):xT L D L':=h
variable {J:List Nat} {k:Nat} {v:ah} {ty t:Aab} {g off m n:Nat} {C C' V:Array ah}
theorem ka(L0:List As){id:Nat}(s:Fr F0 x0 L w)(hL:∀A∈L0,A∈L)(h:∀w,Fr F0 x0 L w->RK P ops Q F0 x0 L0 L [] 0 a w)(hm:P.follows .mixedOrders=true):(Code.region id ops true).wp P Q a w:=by have u:Up w w.drew:=Up.drew (Up.refl w);refine e3 (S:=Sv F0 x0 L0) hm ?_;have:=h w.drew (s.up u) hL [] w.drew (Up.refl _) (s.up u) ⟨.nil,λ_ h=>fI,λ_ h=>fI⟩;exact M0
theorem kb{id:Nat}(s:Fr F0 x0 L w)(h:∀w,Fr F0 x0 L w->RK P ops Q F0 x0 L L [] 0 a w)(hm:P.follows .mixedOrders=true:=by kernel_rfl):(Code.region id ops true).wp P Q a w:=ka L s (λ_ h=>h) h hm
theorem kw{id:Nat}(c:Nat){y z:bO}(s:Fr F0 x0 L w)(h:∀w,Fr F0 x0 L w->RK P ops Q F0 x0 L0 L [] 0 a w)(hi:ops[c]?=some o:=by rfl)(ho:o.op=.store ty y z:=by rfl)(hx:a.eval y=.pointer (some ⟨g,off,none⟩):=by rfl)(hr:xT L (bk g t C) L0:=by exact RE)(hm:P.follows .mixedOrders=true:=by kernel_rfl):(Code.region id ops true).wp P Q a w:=ka L0 s hr.sub h hm
theorem kw2{id:Nat}(c e:Nat){y z y2 z2:bO}{o2:Oper}{aa t2:TypeId}{g2 aH:Nat}{C2:Array ah}(s:Fr F0 x0 L w)(h:∀w,Fr F0 x0 L w->RK P ops Q F0 x0 L0 L [] 0 a w)(hi:ops[c]?=some o:=by rfl)(ho:o.op=.store ty y z:=by rfl)(hx:a.eval y=.pointer (some ⟨g,off,none⟩):=by rfl)(hr:xT L (bk g t C) L':=by exact RE)(ai:ops[e]?=some o2:=by rfl)(aP:o2.op=.store aa y2 z2:=by rfl)(aF:a.eval y2=.pointer (some ⟨g2,aH,none⟩):=by rfl)(aO:xT L' (bk g2 t2 C2) L0:=by exact RE)(hm:P.follows .mixedOrders=true:=by kernel_rfl):(Code.region id ops true).wp P Q a w:=ka L0 s (λA hA=>hr.sub A (aO.sub A hA)) h hm
theorem kt{a':Act}(h:RK P ops Q F0 x0 L0 L J (k+1) a' x)(hi:ops[k]?=some o:=by rfl)(hy:YieldsIf P ops (Sv F0 x0 L0) o v a:=by exact zyf)(hJ:J.contains k=false:=by rfl)(ha:a.put o.dst v=a':=by first|(simp only[Act.put,gh];rfl)|rfl)(hc:((Cl ops (ml ops.size J k)).contains k && !HM P ops k && Region.free .any ops (ml ops.size J k) k && Region.noSelect ops)=true:=by kernel_rfl)(hQ:∀c a w b,a.defers=b.defers->Q (.panic c) a w->Q (.panic c) b w:=by intro _ ⟨_,_⟩ _ ⟨_,_⟩ e h;cases e;exact h):RK P ops Q F0 x0 L0 L J k a x:=Oj k (by rw[Ks hJ];exact h) hi hy ha hc hQ
theorem kn{a':Nat->Act}(h:∀g w,Up x w->Fr F0 x0 (bk g t C::L) w->RK P ops Q F0 x0 L0 (bk g t C::L) J (k+1) (a' g) w)(hi:ops[k]?=some o:=by rfl)(ho:o.op=.alloc t:=by rfl)(hC:zc P t=C:=by exact zzf)(hJ:J.contains k=false:=by rfl)(hc:chN P ops (ml ops.size J k) k=true:=by kernel_rfl)(ha:∀g,a.put o.dst (pz g)=a' g:=by intro _;first|(simp only[Act.put,gh];rfl)|rfl):RK P ops Q F0 x0 L0 L J k a x:=XK k (λg w u s=>by rw[Ks hJ];exact h g w u s) hi ho hC hc ha
theorem ko(h:∀w,Up x w->Fr F0 x0 L w->∀K:Act->af->Prop,(∀v w' L',xS F0 x0 L w L' w'->(∀A∈L0,A∈L->A∈L')->RK P ops Q F0 x0 L0 L' J (k+1) (a.put o.dst v) w'->K (a.put o.dst v) w')->o.wp P a w K Q)(hJ:J.contains k=false)(hi:ops[k]?=some o)(hw:Aaa o (Aa1 ops a.tmps)=true)(hc:(LZ P ops (ml ops.size J k) k && Aba ops)=true)(hQ:∀c a w b,a.defers=b.defers->Q (.panic c) a w->Q (.panic c) b w):RK P ops Q F0 x0 L0 L J k a x:=aaN k (λw u s K hK=>h w u s K λv w' L' n hl r=>hK v w' L' n hl (by rw[Ks hJ];exact r)) hi hw hc hQ
theorem xS.res(s:Fr F0 x0 L w)(r:Rz w w' N):xS F0 x0 L w (N++L) w':=⟨s.res r,λq t C f b=>⟨⟨f.1,λA hA hq=>by
 rcases eT.1 hA with h|h
 ·have:=(r.f A h q hq).1;have:=b.lt;omega
 ·exact f.2 A h hq⟩,b.up r.u⟩⟩
theorem kc'{f:FuncId}{args:Array ah}{R:af->Ab1->af->Prop}(C:∀w,Up x w->Fr F0 x0 L w->Aae P f args w (R w))(h:∀w,Up x w->Fr F0 x0 L w->∀e w',R w e w'->∃v N,e=.returned v/\Rz w w' N/\RK P ops Q F0 x0 L0 (N++L) J (k+1) (a.put o.dst v) w')(hJ:J.contains k=false)(hi:ops[k]?=some o)(he:∀w,(Abs a.eval o).run P w=.ok (.enter f args) w)(hw:Aaa o (Aa1 ops a.tmps)=true)(hc:(LZ P ops (ml ops.size J k) k && Aba ops)=true)(hQ:∀c a w b,a.defers=b.defers->Q (.panic c) a w->Q (.panic c) b w):RK P ops Q F0 x0 L0 L J k a x:=ko (λw u s K hK=>by
  unfold Acb;rw[he];refine(C w u s).mono λe w' hR=>?_;obtain⟨v,N,rfl,r,k⟩:=h w u s e w' hR;exact hK v w' _ (.res s r) (λA _ h=>p6 _ h) k) hJ hi hw hc hQ
theorem kc{f:FuncId}{args:Array ah}{a':ah->Act}{R:af->Ending->af->Prop}(C:∀w,Up x w->Fr F0 x0 L w->Calls P f args w (R w))(h:∀w,Up x w->Fr F0 x0 L w->∀e w',R w e w'->∃v,e=.returned v/\Up w w'/\RK P ops Q F0 x0 L0 L J (k+1) (a' v) w')(hJ:J.contains k=false:=by rfl)(hi:ops[k]?=some o:=by rfl)(ha:∀v,a.put o.dst v=a' v:=by intro _;first|(simp only[Act.put,gh];rfl)|rfl)(he:∀w,(execOp a.eval o).run P w=.ok (.enter f args) w:=by intro _;kernel_rfl)(hw:Region.wanted o (yielded ops a.tmps)=true:=by rfl)(hc:(LZ P ops (ml ops.size J k) k && Region.noSelect ops)=true:=by kernel_rfl)(hQ:∀c a w b,a.defers=b.defers->Q (.panic c) a w->Q (.panic c) b w:=by intro _ ⟨_,_⟩ _ ⟨_,_⟩ e h;cases e;exact h):RK P ops Q F0 x0 L0 L J k a x:=kc' C (λw u s e w' r=>by
  obtain⟨v,h1,h2,h3⟩:=h w u s e w' r;exact⟨v,[],h1,.z h2,by rw[ha];exact h3⟩) hJ hi he hw hc hQ
theorem Df{f:FuncId}{args:Array ah}{a':ah->Act}{R:af->Ending->af->Prop}(C:∀w,Up x w->Fr F0 x0 L w->Calls P f args w (R w))(h:∀w,Up x w->Fr F0 x0 L w->∀e w',R w e w'->∃v A,e=.returned v/\Rz w w' [A]/\RK P ops Q F0 x0 L0 (A::L) J (k+1) (a' v) w')(hJ:J.contains k=false:=by rfl)(hi:ops[k]?=some o:=by rfl)(ha:∀v,a.put o.dst v=a' v:=by intro _;first|(simp only[Act.put,gh];rfl)|rfl)(he:∀w,(execOp a.eval o).run P w=.ok (.enter f args) w:=by intro _;kernel_rfl)(hw:Region.wanted o (yielded ops a.tmps)=true:=by rfl)(hc:(LZ P ops (ml ops.size J k) k && Region.noSelect ops)=true:=by kernel_rfl)(hQ:∀c a w b,a.defers=b.defers->Q (.panic c) a w->Q (.panic c) b w:=by intro _ ⟨_,_⟩ _ ⟨_,_⟩ e h;cases e;exact h):RK P ops Q F0 x0 L0 L J k a x:=kc' C (λw u s e w' r=>by
  obtain⟨v,A,h1,h2,h3⟩:=h w u s e w' r;exact⟨v,[A],h1,h2,by rw[ha];exact h3⟩) hJ hi he hw hc hQ
theorem kpp{y z:bO}{a':Act}(aE:∀w,Fr F0 x0 L w->∃t C,aH w g t C/\off+V.size<=C.size/\(∃A∈L,A.F g)/\∀w',aH w' g t (Aby C.toList off V.toList).toArray->w.grownBy w' (some g)->Fr F0 x0 L' w')(hF:∀D∈L',∀n,D.F n->∃A∈L,A.F n)(h:∀w',Fr F0 x0 L' w'->RK P ops Q F0 x0 L0 L' J (k+1) a' w')(hJ:J.contains k=false)(hi:ops[k]?=some o)(ho:o.op=.store ty y z)(hx:a.eval y=.pointer (some ⟨g,off,none⟩))(hy:(a.eval z).cells=V)(aL:(P.info? ty).map (·.size)=some V.size)(h1:V.all (·.oneCell')=true)(hl:L0.Sublist L')(hw:Aaa o (Aa1 ops a.tmps)=true)(ha:a.put o.dst Aar=a')(hc:(LZ P ops (ml ops.size J k) k && Aba ops)=true)(hQ:∀c a w b,a.defers=b.defers->Q (.panic c) a w->Q (.panic c) b w):RK P ops Q F0 x0 L0 L J k a x:=by subst ha;refine ko (λw u s K hK=>?_) hJ hi hw hc hQ;obtain⟨t,C,hb,hfit,⟨A,hA,aR⟩,hB⟩:=aE w s;refine mI ho hx hy hb aL hfit h1 λw' aG hg=>?_;have s':=hB w' aG hg;refine hK Aar w' L' ⟨s',λq t' C0 f b=>⟨⟨f.1,λD hD hq=>?_⟩,b.grown hg (λe=>f.2 A hA (by rw[<-dB e];exact aR))⟩⟩ (λA hA _=>hl.subset hA) (h w' s');obtain⟨E,hE,he⟩:=hF D hD q hq;exact f.2 E hE he
theorem kp{y z:bO}{A B:As}{a':Act}(aE:∀w,Fr F0 x0 L w->∃t C,aH w g t C/\off+V.size<=C.size/\A.F g/\∀w',aH w' g t (Aby C.toList off V.toList).toArray->w.grownBy w' (some g)->B.P w'/\∀n,B.F n->A.F n)(hF:∀n,B.F n->A.F n)(h:∀w',Fr F0 x0 L' w'->RK P ops Q F0 x0 L0 L' J (k+1) a' w')(hU:mQ L A B L')(hJ:J.contains k=false)(hi:ops[k]?=some o)(ho:o.op=.store ty y z)(hx:a.eval y=.pointer (some ⟨g,off,none⟩))(hy:(a.eval z).cells=V)(aL:(P.info? ty).map (·.size)=some V.size)(h1:V.all (·.oneCell')=true)(hl:L0.Sublist L')(hw:Aaa o (Aa1 ops a.tmps)=true)(ha:a.put o.dst Aar=a')(hc:(LZ P ops (ml ops.size J k) k && Aba ops)=true)(hQ:∀c a w b,a.defers=b.defers->Q (.panic c) a w->Q (.panic c) b w):RK P ops Q F0 x0 L0 L J k a x:=kpp (λw s=>by
  obtain⟨t,C,hb,hfit,hA,hB⟩:=aE w s;refine⟨t,C,hb,hfit,⟨A,hU.mem,hA⟩,λw' aG hg=>?_⟩;have T:Touch A.F w w':=Touch.bg hg (λk e=>by cases e;exact hA);exact s.zK hU T (hB w' aG hg).1 (λn h=>⟨eg (s.f _ hU.mem n (hF n h)).1 T.size,.inl (hF n h)⟩)) (λD hD n hn=>by
  rcases hU.sub D hD with rfl|hD
  ·exact⟨A,hU.mem,hF n hn⟩
  ·exact⟨D,hD,hn⟩) h hJ hi ho hx hy aL h1 hl hw ha hc hQ
theorem ks{m n:Nat}{a':Act}(h:∀w',Fr F0 x0 L' w'->RK P ops Q F0 x0 L0 L' J (k+1) a' w')(hJ:J.contains k=false:=by rfl)(hi:ops[k]?=some o:=by rfl)(ho:o.op=.store ty (.tmp m) (.tmp n):=by rfl)(hx:a.eval (.tmp m)=.pointer (some ⟨g,0,none⟩):=by rfl)(hy:a.eval (.tmp n)=.agg C':=by rfl)(hU:mQ L (bk g t C) (bk g t C') L':=by exact vH)(aL:(P.info? ty).map (·.size)=some C'.size:=by exact Rx)(h1:C'.all (·.oneCell')=true:=by exact zoa)(hold:C.size=C'.size:=by exact zhs)(hl:L0.Sublist L':=by repeat(first|exact List.Sublist.slnil|(with_reducible refine List.Sublist.cons₂ _ ?_)|refine List.Sublist.cons _ ?_))(hw:Region.wanted o (yielded ops a.tmps)=true:=by rfl)(ha:a.put o.dst undef=a':=by first|(simp only[Act.put,gh];rfl)|rfl)(hc:(LZ P ops (ml ops.size J k) k && Region.noSelect ops)=true:=by kernel_rfl)(hQ:∀c a w b,a.defers=b.defers->Q (.panic c) a w->Q (.panic c) b w:=by intro _ ⟨_,_⟩ _ ⟨_,_⟩ e h;cases e;exact h):RK P ops Q F0 x0 L0 L J k a x:=kp (A:=bk g t C) (B:=bk g t C') (λw s=>⟨t,C,s.e5 hU.mem,ae,rfl,λw' hb _=>⟨by rw[BS hold]at hb;exact hb,λ_ h=>h⟩⟩) (λ_ h=>h) h hU hJ hi ho hx yV aL h1 hl hw ha hc hQ
theorem kj(i:Nat){a':Act}(h:RK P ops Q F0 x0 L0 L (i::J) k a' x)(hi:ops[i]?=some o:=by rfl)(hy:YieldsIf P ops (Sv F0 x0 L0) o v a:=by exact zyf)(ha:a.put o.dst v=a':=by first|(simp only[Act.put,gh];rfl)|rfl)(hc:((Cl ops (ml ops.size J k)).contains i && !HM P ops i && Region.free .any ops (ml ops.size J k) i && Region.noSelect ops)=true:=by kernel_rfl)(hQ:∀c a w b,a.defers=b.defers->Q (.panic c) a w->Q (.panic c) b w:=by intro _ ⟨_,_⟩ _ ⟨_,_⟩ e h;cases e;exact h):RK P ops Q F0 x0 L0 L J k a x:=Oj i h hi hy ha hc hQ
theorem kx(h:RK P ops Q F0 x0 L0 L J (k+1) a x)(hJ:J.contains k=true:=by rfl):RK P ops Q F0 x0 L0 L J k a x:=by unfold RK ml at *;rw[<-Tf,Zx (by simpa using hJ)]at h;exact h
theorem kd(h:∀w,Up x w->Fr F0 x0 L w->Q .normal a w)(hr:Cl ops (ml ops.size J k)=[]:=by kernel_rfl):RK P ops Q F0 x0 L0 L J k a x:=XJ h hr
end
section
variable {P:bx} {ops:Array Abn} {Q:Exit->Act->af->Prop} {F0:Nat->Prop} {x0:af} {L L':List As} {a:Act} {w:af} {op:Abn} {v:ah} {rest:List Abn} {ty t:Aab} {g off m n:Nat} {C C' V:Array ah} {d:eJ}
theorem aaz(s:Fr F0 x0 L w)(h:Aak P ops Q rest (a.put op.dst v) w)(hy:Ace P ops (Sv F0 x0 L) op v a):Aak P ops Q (op::rest) a w:=by
 rcases hy with⟨h1,h2⟩|⟨h1,rfl⟩
 ·exact p3 h1 λK hK=>LH (h2 w (s.sv λ_ h=>h)) (hK _ _ h)
 ·unfold Aak;rw[h1];simpa using h
theorem fl(s:Fr F0 x0 L w)(h:wpList P ops Q rest (a.put op.dst v) w)(hy:YieldsIf P ops (Sv F0 x0 L) op v a:=by first
 | exact YR ky ay hM ay gR Rx ay
 | exact YT ky ay hM ay gR (by intro _ h;first|with_reducible exact mF h cm cm|with_reducible exact Ce h cm cm|with_reducible exact Cf h cm cm|with_reducible exact BO h|with_reducible exact B' h) Rx ay
 | exact V' ky ay gR zvo FD ay
 | exact Wa ky ay hM ay zas zno Rx ay
 | exact YS ky ay zas zno FD ay
 | exact OC ay zbs zas ay
 | exact V9 ky (by first|with_reducible exact zH|with_reducible exact hZ|with_reducible exact r'|with_reducible exact CU|with_reducible exact CT|with_reducible exact CV) ay):wpList P ops Q (op::rest) a w:=aaz s h hy
theorem fs(s:Fr F0 x0 L w)(h:∀w,Fr F0 x0 L' w->wpList P ops Q rest (a.put op.dst undef) w)(ho:op.op=.store ty (.tmp m) (.tmp n):=by with_reducible rfl)(hx:a.eval (.tmp m)=.pointer (some ⟨g,0,none⟩):=by rfl)(hy:a.eval (.tmp n)=.agg C':=by rfl)(hU:mQ L (bk g t C) (bk g t C') L':=by exact vH)(hi:(P.info? ty).map (·.size)=some C'.size:=by exact Rx)(h1:C'.all (·.oneCell')=true:=by exact zoa)(hold:C.size=C'.size:=by exact zhs)(hgd:op.guard=none:=by rfl):wpList P ops Q (op::rest) a w:=gZ hgd λK hK=>mI ho hx yV (s.e5 hU.mem) hi ae h1 λw' hb hg=>hK _ _ (h w' (s.set hU (by rw[<-BS hold];exact hb) hg))
def ZV(c v:ah):(Aby (#[c]:Array ah).toList 0 (#[v]:Array ah).toList).toArray=#[v]:=rfl
theorem fp(s:Fr F0 x0 L w)(h:∀w,Fr F0 x0 L' w->wpList P ops Q rest (a.put op.dst undef) w){y:bO}(ho:op.op=.store ty (.tmp m) y:=by with_reducible rfl)(hx:a.eval (.tmp m)=.pointer (some ⟨g,off,none⟩):=by rfl)(hy:(a.eval y).cells=V:=by exact zcv)(hm:bk g t C∈L:=by exact gR)(hV:(splice C.toList off V.toList).toArray=C':=by first|with_reducible exact ZV .. | with_reducible exact X0 .. | with_reducible exact X2 .. | with_reducible exact aaQ .. | with_reducible exact aaR .. | with_reducible exact aaT .. | with_reducible exact aaS .. | with_reducible exact aaU .. | assumption)(hU:mQ L (bk g t C) (bk g t C') L':=by exact vH)(hfit:off+V.size<=C.size:=by first|assumption|exact EP ay)(hi:(P.info? ty).map (·.size)=some V.size:=by exact Rx)(h1:V.all (·.oneCell')=true:=by exact zoa)(hgd:op.guard=none:=by rfl):wpList P ops Q (op::rest) a w:=gZ hgd λK hK=>mI ho hx hy (s.e5 hU.mem) hi hfit h1 λw' hb hg=>hK _ _ (h w' (s.set hU (by rw[<-hV];exact hb) hg))
theorem fb(s:Fr F0 x0 L w)(h:∀g w,Fr F0 x0 (bk g ty C::L) w->wpList P ops Q rest (a.put op.dst (pz g)) w)(ho:op.op=.box ty (.tmp n):=by with_reducible rfl)(hx:(a.eval (.tmp n)).cells=C:=by exact zcv)(hgd:op.guard=none:=by rfl):wpList P ops Q (op::rest) a w:=gZ hgd λK hK=>I7 ho hx (hK _ _ (h _ _ (s.alloc ty C)))
theorem fa(s:Fr F0 x0 L w)(h:∀g w,Fr F0 x0 (bk g ty C::L) w->wpList P ops Q rest (a.put op.dst (pz g)) w)(ho:op.op=.alloc ty:=by with_reducible rfl)(hC:zc P ty=C:=by exact zzf)(hz:zk P ty=true:=by kernel_rfl)(hgd:op.guard=none:=by rfl):wpList P ops Q (op::rest) a w:=by subst hC;exact gZ hgd λK hK=>tl ho hz (hK _ _ (h _ _ (s.alloc ty _)))
def abh{F0:Nat->Prop}{x0:af}{L:List As}{w:af}{Y:af->Prop}{Z:Prop}(h:∀(_:Nat) w,Fr F0 x0 L w->Y w)(s:Fr F0 x0 L w)(k:Y w->Z):Z:=k (h 0 w s)
def aaA{Y:af->Prop}{Z:Prop}(h:∀(_:Nat) w,Y w)(k:(∀w,Y w)->Z):Z:=k (h 0)
theorem fw{H:Prop}(s:Fr F0 x0 L w)(h:H)(d:Fr F0 x0 L w->H->wpList P ops Q (op::rest) a w:=by first
 | exact λs h=>abh h s (λx=>fl s x)
 | exact λs h=>aaA h (λx=>fs s x)
 | exact λs h=>aaA h (λx=>fp s x)
 | exact λs h=>fa s h
 | exact λs h=>fb s h):wpList P ops Q (op::rest) a w:=d s h
end
inductive Rs (P:bx) (L:List As) (tm:Array ah):List Ac7->List ah->Prop
 | nil:Rs P L tm [] []
 | tmp {u:Tmp} {v:ah} {rs:List Ac7} {vs:List ah} (r:Rs P L tm rs vs) (h:tm.getD u Aar=v:=by exact zvv):Rs P L tm (.tmp u::rs) (v::vs)
 | cell {p:Tmp} {g:Nat} {ty t:Aab} {C:Array ah} {d:eJ} {rs:List Ac7} {vs:List ah} (r:Rs P L tm rs vs) (h:tm.getD p Aar=pz g:=by rfl) (hm:bk g t C∈L:=by exact gR) (hu:P.underlying ty=some d:=by exact hM) (hd:d.isRow=true:=by rfl) (hi:(P.info? ty).map (·.size)=some C.size:=by exact Rx):Rs P L tm (.cell p ty::rs) (.agg C::vs)
def rv:List ah->ah
 | [x]=>x
 | l=>.tuple l.toArray
section
variable {P:bx} {F0:Nat->Prop} {x0:af} {L:List As} {a:Act} {w:af} {rs:List Ac7} {vs:List ah}
theorem ZR{tm:Array ah}(hL:∀A∈L,A.P w)(h:Rs P L tm rs vs):(rs.mapM (m:=Sem) λ| .tmp t=>pure (tm.getD t Aar) | .cell a t=>do loadVar t (<-asAddr (tm.getD a Aar))).run P w=.ok vs w:=by
 induction h with
 | nil=>rfl
 | tmp r h ih=>rw[List.mapM_cons,Aaw,Acq,Aau,h,Aaw,ih];rfl
 | cell r h hm hu hd hi ih=>rw[List.mapM_cons,Aaw];have e:=cb asAddr h;rw[show asAddr (pz _)=pure _ from rfl]at e;simp only[e,pure_bind,ij (P:=P) _ _ _ _ (show aH w _ _ _ from hL _ hm) _ hu hd hi,Aau,Aaw,ih];rfl
theorem l5{fn:Func}{R:Ending->af->Prop}{v:ah}(s:Fr F0 x0 L w)(hR:R (.returned v) w)(hf:fn.results=⟨rs⟩:=by first|exact(rfl:_=(⟨[_,_,_]⟩:Array ResultVar))|exact(rfl:_=(⟨[_,_]⟩:Array ResultVar))|exact(rfl:_=(⟨[_]⟩:Array ResultVar))|rfl)(hr:Rs P L a.tmps rs vs:=by first|exact .tmp .nil|exact .cell .nil|exact .tmp (.tmp .nil)|exact .tmp (.cell .nil)|exact .cell (.tmp .nil)|exact .cell (.cell .nil)|exact .tmp (.tmp (.tmp .nil))|exact .tmp (.tmp (.cell .nil))|exact .tmp (.cell (.tmp .nil))|exact .tmp (.cell (.cell .nil))|exact .cell (.tmp (.tmp .nil))|exact .cell (.tmp (.cell .nil))|exact .cell (.cell (.tmp .nil))|exact .cell (.cell (.cell .nil)))(hv:rv vs=v:=by rfl)(hd:a.defers=[]:=by rfl):bodyPost P fn R .ret a w:=by
 refine kk ?_ hd hR;have:=ZR s.p hr;unfold results;rw[hf];show((rs.toArray.mapM _) >>= _:Sem ah).run P w=_;rw[List.mapM_toArray,Aaw,map_eq_pure_bind,Aaw];erw [this];subst hv;cases vs with
 | nil=>rfl
 | cons x vs=>cases vs<;>rfl
end
theorem abK:zc Aag 87=be hole:=av
theorem abG:zc Aag 60=aC aK:=av
theorem fj{g g':Nat}{t t':Aab}{C C':Array ah}(h:aH w g t C)(h':aH w g' t' C')(ht:t≠t'):g≠g':=by grind [aH]
theorem Y'{F0:Nat->Prop}{x0:af}{L:List As}{op:Oper}{rest:List Oper}(C:Array ah)(t:TypeId)(v:Nat->ah)(s:Fr F0 x0 L w)(h:∀g w,Fr F0 x0 (bk g t C::L) w->wpList P ops Q rest (a.put op.dst (v g)) w)(hv:∀w,(execOp a.eval op).run P w=.ok (.value (v w.heap.size)) (w.alloc (.cells C t)):=by intro _;kernel_rfl)(hgd:op.guard=none:=by rfl):wpList P ops Q (op::rest) a w:=gZ hgd λ_ hK=>LH (hv w) (hK _ _ (h _ _ (s.alloc t C)))
def op(b:Nat)(v:ah)(l:List au):As:=⟨λn=>v.ownBlock=some n,λw=>bf w b v l,λh T hf=>h.az T hf⟩
section
variable {F0:Nat->Prop} {x0:af} {L:List As} {w w':af} {b B:Nat} {v:ah} {l:List au}
theorem Rz.q(h:bf w' w.heap.size v l)(u:Up w w')(hB:B<=w.heap.size):Rz w w' [op B v l]:=.one u (h.mono hB) (h.aN)
def Rz.qq{v2:ah}{l2:List au}(h:bf w' w.heap.size v l)(h2:bf w' w.heap.size v2 l2)(u:Up w w')(hB:B<=w.heap.size):Rz w w' [jn (op B v l) (op B v2 l2)]:=.one u ⟨h.mono hB,h2.mono hB⟩ (λn hn=>hn.elim (h.aN n) (h2.aN n))
theorem Fr.YH{b2:Nat}{v2:ah}{l2:List au}(s:Fr F0 x0 L w)(h:jn (op b v l) (op b2 v2 l2)∈L:=by exact gR):bf w b v l/\bf w b2 v2 l2:=s.p _ h
theorem Fr.Cy(s:Fr F0 x0 L w)(h:op b v l∈L:=by exact gR):bf w b v l:=s.p _ h
end
theorem vT(x:cN):(prog.info? 60).map (·.size)=some (aC x.val).size:=by grind [bX,dx]
def tp:hG:=⟨0,0,hole,0,0⟩
def B2(s:List aj):hG:=⟨bn ((s.drop 4).take 8),bn ((s.drop 12).take 8),mh ((s.drop 20).take 16),(bn ((s.drop 36).take 4):Nat),(bn ((s.drop 40).take 4):Nat)⟩
def lb(s:List aj):Option hG:=if eL (B2 s)=true/\eQ (B2 s)=s then some (B2 s)else none
def R1(s:List aj)(w:af)(e:Ab1)(w':af):Prop:=e=.returned (.tuple #[.agg (uC ((lb s).getD tp)),.bool (lb s).isSome])/\Up w w'
theorem X6(s:List aj):(B2 s).wf:=by have h1:=fN (l:=(s.drop 4).take 8) (k:=8) ab;have h2:=fN (l:=(s.drop 12).take 8) (k:=8) ab;have h3:=fN (l:=(s.drop 36).take 4) (k:=4) ab;have h4:=fN (l:=(s.drop 40).take 4) (k:=4) ab;have h5:=fN (l:=((s.drop 20).take 16).take 4) (k:=4) ab;have h6:=fN (l:=(((s.drop 20).take 16).drop 4).take 8) (k:=8) ab;have h7:=fN (l:=((s.drop 20).take 16).drop 12) (k:=4) ab;grind [hG.wf,B2,mh,au.wf]
theorem Sl(u:hG):prog.built 122 [(0,.int .u64 (u.dq:Int)),(1,.int .u64 (u.ar:Int)),(2,.agg (be u.iD)),(3,.int .i64 u.len),(4,.int .i64 u.sec)]=some (uC u):=av
theorem CV:prog.built 122 []=some (uC tp):=av
theorem Yi:∀W:af,(Ab9 122).run Aag W=.ok (.agg (uC tp)) W:=(lq (P:=Aag) (t:=122) (v:=.agg (uC tp)) (n:=7) ay).1
theorem Rf{s:List aj}(h:cw (mh ((s.drop 20).take 16))=false):lb s=none:=by grind [lb,kG,B2]
theorem JZ(h:κ b=16):cW [8,8] b=[bn (b.take 8),bn (b.drop 8)]:=by show [bn (b.take 8),bn ((b.drop 8).take 8)]=_;rw[dh (l:=b.drop 8) ab]
theorem JY(h:κ b=8):cW [4,4] b=[bn (b.take 4),bn (b.drop 4)]:=by show [bn (b.take 4),bn ((b.drop 4).take 4)]=_;rw[dh (l:=b.drop 4) ab]
theorem abb:zc Aag 122=uC tp:=av
theorem zD{f:α->ah}(h:aH w g t C)(l:List α)(n:Nat)(hn:n=κ l)(hm:n<=maxLen)(hC:C.toList=l.map f)(h0:0<n:=by omega):aD f w (cv g n n) l:=.inr ⟨g,0,n,by rw[hn],ae,ae,ae,λi hi=>by rw[h.cell,Abr,<-oB,hC];simp[hi]⟩
theorem aaB{g q lo n cap:Nat}{t t2:Aab}{x y:Int}{l:List aj}(h:aH w g t #[i6 x,i6 y])(b:aH w q t2 (aC l))(hl:κ l=128)(h1:lo+n<=128)(h0:0<n)(hc:n<=cap)(hm:cap<=128)(hw:xX [x,y])(hn:total [x,y]=n)(k:Nat)(k2:Nat)(hg:cW [x,y] ((l.drop lo).take n)=[k,k2]):Aae Aag 177 #[cv g 2 2,.slice (some ⟨q,lo,none⟩) n cap] w λe w'=>∃g c,e=.returned (.tuple #[.slice (some ⟨g,0,none⟩) 2 c,i6 0])/\w'.cell? ⟨g,0,none⟩=some (u6 (k:Int))/\w'.cell? ⟨g,1,none⟩=some (u6 (k2:Int))/\w.heap.size<=g/\Up w w':=by refine(tR _ _ [x,y] (zD h [x,y] 2 rfl dE rfl) aq _ _ (h8 b lo n cap ae h0 hc hm) ⟨hw,by rw[hn,ev,hP];omega⟩).mono ?_;rintro e w'⟨v,rfl,ho,hu⟩;rw[hg]at ho;obtain⟨g,c,rfl,h4,_,hc,_⟩:=Own.row ho aq;exact⟨g,c,rfl,hc 0 aq,hc 1 aq,h4,hu⟩
theorem Re(w:af)(l:List aj)(hs:κ l=128):Aae Aag 168 #[.agg (aC l)] w λe w'=>R1 l w e w':=by
 obtain⟨w0,rfl⟩:=bK w;have HS:=an hs;have aI:∀q W,(Abo 60 (pz q) (some (i6 4)) (some (i6 20)) none).run Aag W=.ok (.slice (some ⟨q,4,none⟩) 16 124) W:=λq W=>n5 q 4 20 4 20 rfl rfl ae ae ae W;have aO:∀q W,(Abo 60 (pz q) (some (i6 20)) (some (i6 36)) none).run Aag W=.ok (.slice (some ⟨q,20,none⟩) 16 108) W:=λq W=>n5 q 20 36 20 36 rfl rfl ae ae ae W;have aP:∀q W,(Abo 60 (pz q) (some (i6 36)) (some (i6 44)) none).run Aag W=.ok (.slice (some ⟨q,36,none⟩) 8 92) W:=λq W=>n5 q 36 44 36 44 rfl rfl ae ae ae W;obtain⟨tx,aa⟩:=bK (bn ((l.drop 4).take 8));obtain⟨st,aE⟩:=bK (bn ((l.drop 12).take 8));obtain⟨ln,aN⟩:=bK (bn ((l.drop 36).take 4));obtain⟨sc,aq⟩:=bK (bn ((l.drop 40).take 4));have G1:=an (show cW [8,8] ((l.drop 4).take 16)=[tx,st] by rw[JZ (by rw[ev,hP,hs];rfl),List.take_take,List.drop_take,Ac3,aa,aE];rfl)
 have G2:=an (show cW [4,4] ((l.drop 36).take 8)=[ln,sc] by rw[JY (by rw[ev,hP,hs];rfl),List.take_take,List.drop_take,Ac3,aN,aq];rfl)
 have az:ln<4294967296:=by have:=fN (l:=(l.drop 36).take 4) (k:=4) ab;omega
 have aF:sc<4294967296:=by have:=fN (l:=(l.drop 40).take 4) (k:=4) ab;omega
 have wl:=aY ln ae;have ws:=aY sc ae;obtain⟨HU,i60⟩:=aw (show B2 l=⟨tx,st,mh ((l.drop 20).take 16),(ln:Int),(sc:Int)⟩ from by unfold B2;rw[<-aa,<-aE,<-aN,<-aq]) (show(prog.info? 60).map (·.size)=some (aC l).size by rw[bX,hs];exact dx);have s:=Fr.start w0;clear hs aa aE aN aq az aF;go_in;go_wp2_with(refine fw s ?_;intro _ w s);have s:=s.alloc 3 #[i6 8,i6 8];change Fr _ _ (bk ?g3 3 _::bk ?q2 122 _::bk ?q1 60 _::_) _ at s;obtain⟨q4,q5⟩:=aA ((s.f (bk ?q2 122 _) gR _ rfl).1) ((s.f (bk ?q2 122 _) gR _ rfl).2.resolve_left id);refine(aaB (s.e5 (t:=3) gR) (s.e5 (t:=60) gR) HS ae ae ae ae ax ax _ _ G1).mono ?_;rintro e w1⟨g4,c4,rfl,m0,m1,h4,u1⟩;have s:=s.up u1;obtain⟨U1,z1,b1⟩:=db s.pure (s.e5 (t:=122) gR) (s.e5 (t:=60) gR);have n4:¬(bk ?q2 122 (uC tp)).F g4:=by show g4≠_;omega
 have s:=Fr.start w1;go_wp2_with fail;refine(qk w1 _ _ (h8 b1 20 16 108 (by rw[HS.out];omega) ae ae ae) (by rw[ev,hP,HS.out];rfl)).mono ?_;rintro e w2(⟨root,au,rfl,u2⟩|⟨ao,rfl,u2⟩);rotate_left
 ·have HF:lb l=none:=Rf (by
   unfold mi at ao;split at ao
   ·cases ao
   ·rename_i hh;rw[<-wb];exact λhg=>hh ⟨by rw[ev,hP,HS.out];rfl,hg⟩)
  obtain⟨U2,z2⟩:=aA (U1.trans u2) (z1.up u2);have s:=Fr.from (A:=bk ?q2 122 (uC tp)) z2 (λn h=>by rw[show n=_ from h];exact z2.lt);clear G1 G2 ao wl ws;rw[show fA hole=.agg (be hole)from rfl];go_wp2_with(refine fw s ?_;intro _ w s);refine bB ?_;exact⟨by rw[HF]<;>rfl,s.t.up U2 (λn h=>by rw[show n=_ from h];exact q5)⟩
 have ai:mh ((l.drop 20).take 16)=root:=by
  unfold mi at au;split at au
  ·exact dB au
  ·cases au
 have HU:=an (HU.out.trans (by rw[ai]));have s:=s.up u2;clear au ai u2;rw[show fA root=.agg (be root)from rfl];go_wp2_with(refine fw s ?_;intro _ w s);have s:=s.alloc 3 #[i6 4,i6 4];have q7:=eg z1.lt s.pure.size;refine(aaB (s.e5 (t:=3) gR) (b1.up s.pure) HS ae ae ae ae ax ax _ _ G2).mono ?_;rintro e w5⟨g7,c7,rfl,k0,k1,h7,u5⟩;have s:=s.up u5;obtain⟨U5,B8⟩:=aA s.pure (s.e5 (t:=87) gR);obtain⟨z5,b5,j0,j1⟩:=iJ (z1.up U5) (b1.up U5) (U5.cell m0) (U5.cell m1);have n7:¬(bk ?q2 122 (uC tp)).F g7:=by show g7≠_;omega
 have n8:¬(bk ?q2 122 (uC tp)).F _:=fj B8 z5 ax;have n1:¬(bk ?q2 122 (uC tp)).F ?q1:=fj b5 z5 ax;obtain⟨R8,R5,U0⟩:=db B8.range b5.range (U1.trans U5);obtain⟨u,ak⟩:=bK (B2 l);have al:u.wf:=by rw[ak];exact X6 l
 have av:lb l=if eL u=true/\eQ u=l then some u else none:=by rw[ak];rfl
 have ar:prog.built 122 [(0,u6 (tx:Int)),(1,u6 (st:Int)),(2,.agg (be root)),(3,i6 (ln:Int)),(4,i6 (sc:Int))]=some (uC u):=by rw[ak,HU.out];exact Sl ⟨tx,st,root,(ln:Int),(sc:Int)⟩
 obtain⟨aH,aG⟩:=aA (wT u) (Es u);replace al:=an al;replace av:=an av;have s:=Fr.from (A:=bk ?q2 122 (uC tp)) z5 (λn h=>by rw[show n=_ from h];exact z5.lt);clear m0 m1 z1 b1 B8 ak HU G1 G2 U1 u5;go_wp2_with fail;refine kb s (λw s=>?_);iterate 10 refine kt ?_
 refine kt (v:=i6 (ln:Int)) ?_ (hy:=ya);iterate 3 refine kt ?_
 refine kt (v:=i6 (sc:Int)) ?_ (hy:=ya);refine kt ?_;refine kn (λ_ w _ s=>?_);refine ks (λw s=>?_);refine kd (λw _ s=>?_);clear ar;go_wp2_with(refine fw s ?_;intro _ w s);refine(B7 _ u al).mono ?_;rintro e w⟨rfl,u8⟩;have s:=s.up u8;obtain⟨VL,ad,aB,ag,aD⟩:=eI ((qD u).property) (show eL u=true->(qD u).val=eQ u from λh=>by unfold qD;rw[bo h]) (vT (qD u)) (dj (qD u).val) (show(aC aK).size=(aC (qD u).val).size by rw[bX,bX,(qD u).property];rfl);have EQ:=K8 (qD u).val l (qD u).property HS;have FIN:∀{w' v},Touch (bk ?q2 122 (uC tp)).F w5 w'->lb l=v->R1 l w0 (.returned (.tuple #[.agg (uC (v.getD tp)),.bool v.isSome])) w':=λT h=>by subst h;exact⟨rfl,T.up U0 (λn h=>by rw[show n=_ from h];exact q5)⟩
 cases hr:eL u
 ·have HE:VP u=61:=by unfold VP;rw[hr];rfl
  rw[HE];generalize(qD u).val=V at *;clear HE EQ ad;go_wp2_with(refine fw s ?_;intro _ w s);refine bB ?_;exact FIN (v:=none) s.t (by rw[av.out,aM];rintro⟨h,_⟩;rw[hr]at h;cases h)
 have aJ:=ad hr;have HE:VP u=0:=by unfold VP;rw[bo hr]
 rw[HE];by_cases hb:eQ u=l
 ·rw[aJ,gD hb,<-aJ]at EQ;generalize(qD u).val=V at *;clear HE ad aJ;go_wp2_with(refine fw s ?_;intro _ w s);refine bB ?_;exact FIN (v:=some u) s.t (by rw[av.out,bo ⟨hr,hb⟩])
 ·rw[aJ,iY hb,<-aJ]at EQ;generalize(qD u).val=V at *;clear HE ad aJ;go_wp2_with(refine fw s ?_;intro _ w s);refine bB ?_;exact FIN (v:=none) s.t (by rw[av.out,aM];rintro⟨_,h⟩;exact hb h)
theorem IK(w:af)(u:hG):Aae Aag 169 #[.agg (uC u)] w λe w'=>e=.returned (i6 ((u.dq%4:Nat):Int))/\Up w w':=by obtain⟨B1,U1⟩:=aw (aH.new w 122 (uC u)) (ai w (.cells (uC u) 122));obtain⟨dq,ar,iD,len,sec⟩:=u;obtain⟨c0,c1,c2,c5,c6,R2⟩:=xP B1;have wr:=aY (dq%4) ae;rw[show((dq%4:Nat):Int)=(dq:Int)%4 from ae]at wr;clear c1 c2 c5 c6;go_in;go_wp2;go_ret;exact⟨aq,U1⟩
theorem WE(w:af)(a b:Nat):Aae Aag 172 #[u6 (a:Int),u6 (b:Int)] w λe w'=>e=.returned (i6 (if a<b then -1 else if b<a then 1 else 0))/\w=w':=by
 have NB:∀x:Int,(x != x)=false:=λx=>aq
 by_cases h1:a<b
 ·have b1:((a:Int)<(b:Int))=True:=by simp;omega
  rw[bo h1];clear h1;exact FJ
 have b1:((a:Int)<(b:Int))=False:=ab
 rw[aM h1];by_cases h2:b<a
 ·have b2:((b:Int)<(a:Int))=True:=by simp;omega
  rw[bo h2];clear h1 h2;exact FJ
 have b2:((b:Int)<(a:Int))=False:=ab
 rw[aM h2];clear h1 h2;exact FJ
def Hk(u v:hG):Int:=if u.dq<v.dq then -1 else if v.dq<u.dq then 1 else 0
theorem VR(w:af)(u v:hG):Aae Aag 171 #[.agg (uC u),.agg (uC v)] w λe w'=>e=.returned (i6 (Hk u v))/\w'=(w.alloc (.cells (uC u) 122)).alloc (.cells (uC v) 122):=by have B1:=an ((aH.new w 122 (uC u)).up (ai (w.alloc (.cells (uC u) 122)) (.cells (uC v) 122)));have b2:=aH.new (w.alloc (.cells (uC u) 122)) 122 (uC v);rw[aL]at b2;obtain⟨B2,CM,HC⟩:=aW b2 (WE ((w.alloc (.cells (uC u) 122)).alloc (.cells (uC v) 122)) u.dq v.dq) (show Hk u v=if u.dq<v.dq then -1 else if v.dq<u.dq then 1 else 0 from rfl);generalize Hk u v=z at *;obtain⟨dq,ar,iD,len,sec⟩:=u;obtain⟨ag,aa,ae,ab,ad⟩:=v;obtain⟨c0,d0⟩:=aA ((xP B1).1) ((xP B2).1);dsimp only at CM HC;rw[<-HC.out]at CM;go_in;go_wp2_with fail;refine CM.mono ?_;rintro e w2⟨rfl,rfl⟩;exact eW
theorem aD.az{f:α->ah}{w w':af}{v:ah}{l:List α}{F:Nat->Prop}(h:aD f w v l)(T:Touch F w w')(hF:∀b,v.ownBlock=some b->¬F b):aD f w' v l:=by
 rcases h with h|⟨b,off,cap,h1,h2,h3,h4,h5⟩
 ·exact .inl h
 ·exact .inr ⟨b,off,cap,h1,h2,h3,h4,λi hi=>fk (h5 i hi) T (hF b uo)⟩
section
variable {P:bx}
theorem kU{ops:Array Abn}{rest:List Abn}{o:Abn}{a:Act}{w:af}{Q:Exit->Act->af->Prop}(hw:Aaa o (Aa1 ops a.tmps)=true)(t:Aab)(i:Nat)(x:bO)(ho:o.op=.build t #[(i,x)])(v:ah)(hx:a.eval x=v)(C:Array ah)(hb:P.built t [(i,v)]=some C)(h:Aak P ops Q rest (a.put o.dst (.agg C)) w):Aak P ops Q (o::rest) a w:=p3 hw λ_ hK=>wp_build t #[(i,x)] ho aQ (hK _ _ (by simpa[hx,hb]using h))
end
theorem vq{w w1 w2:af}{v1 v2:bC}(D1:Dv w1 {h with vp:=vp} v1)(T1:Touch (cI h) w w1)(hv:∀b,vp.ownBlock=some b->h.vp.ownBlock=some b\/w.heap.size<=b)(T:iU w1 {h with vp:=vp} v2 w2):iU w h v2 w2:=by
 obtain⟨ao,D2,T2,h2⟩:=T;refine⟨ao,D2,T1.trans T2 (λn hn hlt=>?_),λb hb=>?_⟩
 ·rcases iU.Zd (w':=w1) hv n hn with h|h
  ·exact h
  ·omega
 ·rcases h2 b hb with h|h
  ·simp_all
  ·exact .inr (bN T1.size h)
theorem Ra{w w1 w2:af}{v2:bC}(U:Up w w1)(T:iU w1 h v2 w2):iU w h v2 w2:=by
 obtain⟨ao,D2,T2,h2⟩:=T;refine⟨ao,D2,(Touch.bW (F:=cI h) U).trans T2 (λn hn _=>hn),λb hb=>?_⟩;rcases h2 b hb with h|h
 ·simp_all
 ·exact .inr (bN U.size h)
theorem j8{w w':af}{v:bC}(hb:aH w g t C)(T:iU w h v w')(hf:¬cI h g):aH w' g t C:=by obtain⟨_,_,T2,_⟩:=T;exact hb.az T2 hf
def bC.oo(v:bC)(u:hG):bC:=(v.cL).written ((u.dq%4:Nat):Int) (qD u)
theorem Em{v:bC}:κ v.cL.bP<=κ v.bP:=by
 unfold bC.cL;split
 ·simp
 ·rw[(o0 _).1];exact aG _
theorem GZ{v:bC}{i:Int}{s:cN}:κ (v.written i s).bP<=κ v.bP+1:=by
 have h1:=(o0 v.bb).1;unfold bC.written bC.put;split
 ·split
  ·simp only[Aaf,Aal,Aa5];rw[h1];exact aG _
  ·rw[h1];exact ix _
 ·exact ix _
theorem Jw(w:af)(h:iE)(v:bC)(D:Dv w h v)(u:hG)(aT:u.wf)(hr:κ v.bP<=100000)(aA:eL u=true)(fe:v.hv=true)(hb:v.cL.hasB ((u.dq%4:Nat):Int)=true)(hp:v.cL.hv=true)(hq:(v.oo u).hv=true):Aae Aag 153 #[pz h.d,.agg (uC u)] w λe w'=>e=.returned (i6 (v.oo u).pM)/\iU w h (v.oo u).cL w':=by
 obtain⟨aI,aM,HB,HP,HQ,HV⟩:=im (show v.pM=0 by unfold bC.pM;rw[fe];rfl) (show v.cL.o6 ((u.dq%4:Nat):Int)=0 by unfold bC.o6;rw[hb,hp];rfl) hb hp hq fe;clear fe hb hp hq;obtain⟨B1,U1,DH,HR,ax,C1,aJ,au,ab,ag,aD,aB⟩:=Z0 (aH.new w 122 (uC u)) (ai w (.cells (uC u) 122)) D hr (λW=>IK W u) (show v.oo u=(v.cL).written ((u.dq%4:Nat):Int) (qD u)from rfl) (show u.dq%4<4 from ae) (show VP u=if eL u=true then 0 else 61 from rfl) (show ¬cI h w.heap.size from λhf=>by have:=D.oy _ hf;omega) (dj (qD u).val) (show(aC aK).size=(aC (qD u).val).size by rw[bX,bX,(qD u).property];rfl) (vT (qD u));clear hr;generalize u.dq%4=tx at *;go_in;go_wp2_with(refine arm ?_);refine((λW=>B7 W u aT) _).mono ?_;rintro e w2⟨rfl,U2⟩;have UX:=ai w2 (.cells (aC (qD u).val) 60);obtain⟨BV,U3⟩:=aw (aH.new w2 60 (aC (qD u).val)) (U1.trans (U2.trans UX));obtain⟨D3,ao⟩:=aw (DH.up U3) (show ¬cI h w2.heap.size from λhf=>by have:=DH.oy _ hf;have:=(U1.trans U2).size;omega);generalize qD u=V at *;rw[aA]at au;have aj:=au.out;rw[bo rfl]at aj;rw[aj];obtain⟨ak,aN⟩:=aw (show w.heap.size<(w2.alloc (.cells (aC V.val) 60)).heap.size by rw[aL];have:=(by have:=(U1.trans U2).size;have h2:=U2.size;rw[aL]at h2;omega);omega) (show w2.heap.size<(w2.alloc (.cells (aC V.val) 60)).heap.size by rw[aL];omega);clear aA aj;have FL:=an (zV _ h v D3 (by have:=HR.out;omega) HV);go_wp2_with(first
  | refine arm ?_
  | ((with_reducible refine cu 60 (.tmp 5) (.tmp 12) ?_);refine fC w2 rfl 60 (.tmp 5) (.tmp 12) rfl (aC V.val) 60 (aC aK) rfl rfl rfl aB aD ag ?_))
 refine FL.mono ?_;rintro e w4⟨rfl,T4⟩;obtain⟨B4,aF,aP⟩:=aW (j8 (B1.up (U2.trans UX)) T4 ab) (j8 BV T4 ao) T4;rw[aI.out];obtain⟨vp,D4,T4,al⟩:=aP.out;have aE:=an al;clear al;obtain⟨h4,aa⟩:∃x:iE,x={h with vp:=vp}:=⟨_,rfl⟩;have H4:=an aa;rw[<-aa]at D4;have az:h4.d=h.d:=by rw[aa]
 have ab:=an (show ¬cI h4 w.heap.size from λhf=>by
  rw[aa]at hf;rcases iU.Zd (w':=w4) aE _ hf with hf|hf
  ·exact ab hf
  ·have:=ak.out;omega)
 have ao:=an (show ¬cI h4 w2.heap.size from λhf=>by
  rw[aa]at hf;rcases iU.Zd (w':=w4) aE _ hf with hf|hf
  ·exact ao hf
  ·have:=aN.out;omega)
 have aO:=ax.out;have PE:=an (show κ v.cL.bP<=100000 from bN Em HR);have WR:=an (show ∀W,Dv W h4 v.cL->Aae Aag 217 #[pz h.d,i6 (tx:Int),.agg (aC V.val)] W λe w'=>e=.returned (i6 (v.cL.o6 (tx:Int)))/\iU W h4 (v.cL.written (tx:Int) V) w' from λW DW=>by have:=zY W h4 v.cL DW (tx:Int) (by have:=aJ.out;omega) V (by have:=PE.out;omega) HB HP;rw[az]at this;exact this)
 clear aa az aO;go_wp2;refine e3 (S:=λW=>aH W w.heap.size 122 (uC u)/\aH W w2.heap.size 60 (aC V.val)) av ?_;change Acp _ _ _ _ _ 6 _ _ w4.drew;have UD:Up w4 w4.drew:=(Up.refl w4).drew;obtain⟨B5,ad⟩:=aw (B4.up UD) (aF.up UD);generalize w4.drew=w5 at *;refine tk 0 (pz h.d) rfl ya ⟨B5,ad⟩ ?_;refine tk 1 _ rfl (Wb (λW hS=>hS.1.range)) ⟨B5,ad⟩ ?_;refine tk 3 _ rfl (Wb (λW hS=>hS.2.range) (hi:=aB)) ⟨B5,ad⟩ ?_;refine qF 2 av rfl rfl ?_;intro K hK;go_simp;refine(ax w5).mono ?_;rintro e w6⟨rfl,U6⟩;refine hK _ _ ⟨B5.up U6,ad.up U6⟩ ?_;clear hK K;obtain⟨B6,ar⟩:=aw (B5.up U6) (ad.up U6);have D6:=(D4.up UD).up U6;refine qF 4 av rfl rfl ?_;intro K hK;go_simp;refine(WR w6 D6).mono ?_;rintro e w7⟨rfl,T7⟩;refine hK _ _ ⟨j8 B6 T7 ab,j8 ar T7 ao⟩ ?_;clear hK K;refine tk 5 (i6 (v.cL.o6 (tx:Int))) rfl ya ⟨j8 B6 T7 ab,j8 ar T7 ao⟩ ?_;refine⟨av,?_⟩;have aG:Dv w6 {h with vp:=vp} v.cL:=by rw[<-H4.out];exact D6
 have aQ:iU w6 {h with vp:=vp} (v.cL.written (tx:Int) V) w7:=by rw[<-H4.out];exact T7
 have T8:=an (vq aG ((T4.trans (Touch.bW (F:=λ_=>False) UD) (λn hn _=>hn.elim)).trans (Touch.bW (F:=λ_=>False) U6) (λn hn _=>hn.elim)) aE aQ);rw[<-C1.out]at T8;clear WR;(try simp only[Exit.then]);rw[aM.out];obtain⟨bj,D8,T9,aq⟩:=T8.out;have FL:=zV w7 _ _ D8 (by rw[C1.out];exact bN GZ (by have:=PE.out;omega)) HQ;go_wp2_with fail;refine FL.mono ?_;rintro e w9⟨rfl,bD⟩;go_wp2;go_ret;exact⟨rfl,Ra U3 (vq D8 T9 aq bD)⟩
def DA(w:af)(h:iE)(C:List cN)(m:Nat)(fl:Bool):Prop:=∃v,Dv w h v/\v.ct=C/\v.dead=false/\v.left=-1/\(κ v.bP)<=m/\da v.aR v.bP=v.ct/\(fl=true->v.bP=[])
def DT(w:af)(h:iE)(C:List cN)(m:Nat)(fl:Bool)(w':af):Prop:=∃vp,DA w' {h with vp:=vp} C m fl/\Touch (cI h) w w'/\∀b,vp.ownBlock=some b->h.vp.ownBlock=some b\/w.heap.size<=b
theorem DA.up{w w':af}{C:List cN}{fl:Bool}(D:DA w h C m fl)(u:Up w w'):DA w' h C m fl:=by obtain⟨v,h1,h2⟩:=D;exact⟨v,h1.up u,h2⟩
theorem DA.az{w w':af}{C:List cN}{fl:Bool}(D:DA w h C m fl){F:Nat->Prop}(T:Touch F w w')(hf:∀b,cI h b->¬F b):DA w' h C m fl:=by obtain⟨v,h1,h2⟩:=D;exact⟨v,h1.az T hf,h2⟩
theorem DA.lt{C:List cN}{fl:Bool}(D:DA w h C m fl):∀b,cI h b->b<w.heap.size:=by obtain⟨v,h1,_⟩:=D;exact h1.oy
theorem DA.len{C:List cN}{fl:Bool}(D:DA w h C m fl):κ C<=1024:=by obtain⟨v,h1,h2,_⟩:=D;rw[<-h2,h1.len];exact h1.max
theorem Dv.jL{v:bC}(D:Dv w h v){A:Array ah}(hb:aH w g t A)(h1:t≠114)(h2:t≠60)(h3:t≠116):¬cI h g:=by
 rintro(rfl|rfl|rfl|e)
 ·have:=hb.symm.trans D.dev;simp at this;exact h1 this.2
 ·have:=hb.symm.trans D.b1;simp at this;exact h2 this.2
 ·have:=hb.symm.trans D.b2;simp at this;exact h2 this.2
 ·exact i' h3 hb D.bP e
theorem DA.jL{C:List cN}{fl:Bool}(D:DA w h C m fl){A:Array ah}(hb:aH w g t A)(h1:t≠114)(h2:t≠60)(h3:t≠116):¬cI h g:=by obtain⟨v,d,_⟩:=D;exact d.jL hb h1 h2 h3
theorem kO(w:af)(h:iE)(C:List cN)(m:Nat)(fl:Bool)(D:DA w h C m fl):Aae Aag 55 #[.pointer (some ⟨h.d,0,none⟩)] w λe w'=>e=.returned (.int .i64 (κ C:Int))/\w=w':=by obtain⟨v,h1,h2,_⟩:=D;have:=Su w h v h1;rw[<-h1.len,h2]at this;exact this
theorem tC(w:af)(h:iE)(C:List cN)(m:Nat)(fl:Bool)(D:DA w h C m fl):Aae Aag 53 #[.pointer (some ⟨h.d,0,none⟩)] w λe w'=>e=.returned (.bool false)/\w=w':=by obtain⟨v,h1,h2,h3,_⟩:=D;have:=Pd w h v h1;simp_all
theorem SA(w:af)(h:iE)(C:List cN)(m:Nat)(fl:Bool)(D:DA w h C m fl)(i:Nat)(hi:i<κ C):Aae Aag 166 #[.pointer (some ⟨h.d,0,none⟩),.int .i64 (i:Int)] w λe w'=> e=.returned (.tuple #[.agg (aC (C[i]).val),.int .i64 0])/\DA w' h C m fl/\Touch (cI h) w w':=by have hl:=D.len;obtain⟨v,h1,h2,h3,h4,h5,h6,h7⟩:=D;have hlen:=h1.len;have hb:v.hasB (i:Int)=true:=(nU v i).2 aa;refine(C0 w h v h1 (i:Int) ae).mono ?_;rintro e w'⟨rfl,D',T⟩;refine⟨?_,⟨v.bb,D',h2,h3,h4,h5,h6,h7⟩,T⟩;grind [bC.jT,bC.mj,bC.nowAt]
theorem jP{v:bC}(h3:v.dead=false)(h4:v.left=-1):v.hv=true/\v.eH=v:=by obtain⟨a,b,c,d,l,k⟩:=v;simp only at h3 h4;subst h3;subst h4;refine⟨rfl,?_⟩;rfl
theorem Pg(w:af)(h:iE)(C:List cN)(m:Nat)(fl:Bool)(D:DA w h C m fl)(i:Nat)(hi:i<κ C)(s:cN)(hm:m<=900000):Aae Aag 217 #[.pointer (some ⟨h.d,0,none⟩),.int .i64 (i:Int),.agg (aC s.val)] w λe w'=>e=.returned (.int .i64 0)/\DT w h (C.set i s) (m+1) false w':=by
 have hl:=D.len;obtain⟨v,h1,h2,h3,h4,h5,h6,h7⟩:=D;have hlen:=h1.len;have hb:v.hasB (i:Int)=true:=(nU v i).2 aa;obtain⟨hp,_⟩:=jP h3 h4;have hs:v.bb.eH=v.bb:=(jP (v:=v.bb) h3 h4).2;refine(zY w h v h1 (i:Int) ae s ae hb hp).mono ?_;rintro e w'⟨rfl,vp,D',T,O⟩;have ew:v.written (i:Int) s=v.bb.put i s:=by grind [bC.written]
 have ee:v.o6 (i:Int)=0:=by grind [bC.o6]
 rw[ee];refine⟨rfl,vp,⟨_,D',?_⟩,T,O⟩;rw[ew];refine⟨by show v.ct.set i s=_;rw[h2],h3,h4,by show(v.bP++_).length<=_;simp;omega,?_,λh=>aa⟩;show da v.aR (v.bP++[⟨i,s⟩])=v.ct.set i s;grind [da]
theorem Ae{v:bC}(h3:v.dead=false)(h4:v.left=-1):v.cL={v.bb with aR:=da v.aR v.bP,bP:=[]}/\v.pM=0:=by unfold bC.cL bC.pM;rw[(jP h3 h4).1,(jP (v:=v.bb) h3 h4).2];simp
theorem JF(w:af)(h:iE)(C:List cN)(m:Nat)(fl:Bool)(D:DA w h C m fl)(u:hG)(aT:u.wf)(hu:eL u=true)(hl:4<=κ C)(hm:m<=90000):Aae Aag 153 #[.pointer (some ⟨h.d,0,none⟩),.agg (uC u)] w λe w'=>e=.returned (.int .i64 0)/\DT w h (C.set (u.dq%4) (qD u)) 0 true w':=by
 obtain⟨v,h1,h2,h3,h4,h5,h6,h7⟩:=D;obtain⟨f1,f2⟩:=Ae h3 h4;have g3:v.cL.dead=false:=by rw[f1];exact h3
 have g4:v.cL.left=-1:=by rw[f1];exact h4
 have gl:κ v.cL.aR=κ C:=aa
 have hb:v.cL.hasB ((u.dq%4:Nat):Int)=true:=(nU _ _).2 ae;have al:v.oo u=v.cL.bb.put (u.dq%4) (qD u):=by unfold bC.oo bC.written;rw[hb,(jP g3 g4).1,(jP (v:=v.cL.bb) g3 g4).2];rfl
 obtain⟨k1,k2⟩:=Ae (v:=v.oo u) (by rw[al];exact g3) (by rw[al];exact g4);refine(Jw w h v h1 u aT ae hu (jP h3 h4).1 hb (jP g3 g4).1 (by rw[al];exact(jP (v:=v.cL.bb.put (u.dq%4) (qD u)) g3 g4).1)).mono ?_;rintro e w'⟨rfl,vp,D',T,O⟩;rw[k2];refine⟨rfl,vp,⟨_,D',?_⟩,T,O⟩;rw[k1,al];have ai:v.cL.ct=C:=by rw[f1];exact h2
 have aE:v.cL.aR=C:=aa
 have aj:v.cL.bP=[]:=by rw[f1]
 refine⟨by show v.cL.ct.set _ _=_;rw[ai],g3,g4,aq,?_,λ_=>rfl⟩;show da (da v.cL.aR (v.cL.bP++[⟨u.dq%4,qD u⟩])) []=v.cL.ct.set (u.dq%4) (qD u);rw[aj,aE,ai];rfl
theorem Pc(w:af)(h:iE)(C:List cN)(m:Nat)(D:DA w h C m true):Aae Aag 19 #[.pointer (some ⟨h.d,0,none⟩),.slice none 0 0] w λe w'=>e=.returned (.tuple #[])/\DT w h C 0 true w':=by
 obtain⟨v,h1,h2,h3,h4,h5,h6,h7⟩:=D;have hp:=h7 rfl;refine(JG w h v h1 aa (.slice none 0 0) [] (λw' _=>aD.nil _ _)).mono ?_;rintro e w'⟨rfl,vp,D',T,O⟩;refine⟨rfl,vp,⟨_,D',?_⟩,T,O⟩;rw[hp]at h6;have hs:v.se []=C:=by unfold bC.se;rw[hp,<-h2,<-h6];rfl
 grind [bC.crashed,da]
theorem WH(w:af)(n:Nat)(hn:n<=1024):Aae Aag 24 #[.int .i64 (n:Int)] w λe w'=>∃h,e=.returned (.pointer (some ⟨h.d,0,none⟩))/\DA w' h (Aac n ep) 0 true/\Up w w'/\∀b,cI h b->w.heap.size<=b:=by refine(Sw w n hn).mono ?_;rintro e w'⟨h,rfl,D,U,O⟩;exact⟨h,rfl,⟨_,D,rfl,rfl,rfl,by simp[P4],rfl,λ_=>rfl⟩,U,O⟩
structure aP where
 pb:Nat
 mb:Nat
 h:iE
structure bu where
 C:List cN
 m:Nat
 fl:Bool
 s:Nat->Nat
 st:Nat
 ba:Nat
def aaL(H:aP)(P:bu):Array ah:=#[.pointer (some ⟨H.h.d,0,none⟩),.pointer (some ⟨H.mb,0,none⟩),.int .u64 (P.st:Int),.int .u64 (P.ba:Int)]
structure PA(w:af)(H:aP)(P:bu):Prop where
 e5:aH w H.pb 160 (aaL H P)
 map:ck w H.mb P.s
 dev:DA w H.h P.C P.m P.fl
def PF(H:aP)(b:Nat):Prop:=b=H.pb\/b=H.mb\/cI H.h b
def aP.at(H:aP)(vp:ah):aP:={H with h:={H.h with vp:=vp}}
def PT(w:af)(H:aP)(P:bu)(w':af):Prop:=∃vp,PA w' (H.at vp) P/\Touch (PF H) w w'/\∀b,vp.ownBlock=some b->H.h.vp.ownBlock=some b\/w.heap.size<=b
def uW(t:Aab):Bool:=decide (t=160) || decide (t=165) || decide (t=114) || decide (t=60) || decide (t=116)
section
variable {w w':af} {H:aP} {P:bu}
def PA.up(A:PA w H P)(u:Up w w'):PA w' H P:=⟨A.e5.up u,A.map.up u,A.dev.up u⟩
theorem PA.az(A:PA w H P){F:Nat->Prop}(T:Touch F w w')(hf:∀b,PF H b->¬F b):PA w' H P:=⟨A.e5.az T (hf _ (.inl rfl)),a7.az A.map T (hf _ (.inr (.inl rfl))),A.dev.az T (λb hb=>hf _ (.inr (.inr hb)))⟩
theorem PA.lt(A:PA w H P):∀b,PF H b->b<w.heap.size:=by
 rintro b(rfl|rfl|hb)
 ·exact A.e5.lt
 ·exact a7.lt A.map
 ·exact A.dev.lt b hb
theorem sa{w:af}{g b n:Nat}{t t':Aab}{A:Array ah}{f:Nat->ah}(hb:aH w g t A)(hc:a7 w b n t' f)(hne:t≠t'):g≠b:=λe=>by subst e;obtain⟨C,h1,_⟩:=hc;have:=hb.symm.trans h1;simp at this;exact hne this.2
theorem PA.Vd(A:PA w H P):H.pb≠H.mb:=sa A.e5 A.map ax
theorem PA.sX(A:PA w H P):¬cI H.h H.pb:=A.dev.jL A.e5 ax ax ax
theorem PA.sQ(A:PA w H P):¬cI H.h H.mb:=by obtain⟨C,h1,_⟩:=A.map;exact A.dev.jL h1 ax ax ax
theorem PA.cc(A:PA w H P){g:Nat}{t:Aab}{C:Array ah}(hb:aH w g t C)(h:uW t=false):¬PF H g:=by
 simp only[uW,Bool.or_eq_false_iff,decide_eq_false_iff_not]at h;obtain⟨⟨⟨⟨h0,h4⟩,h1⟩,h2⟩,h3⟩:=h;rintro(rfl|rfl|h)
 ·have:=hb.symm.trans A.e5;simp at this;exact h0 this.2
 ·obtain⟨C',aa,_⟩:=A.map;have:=hb.symm.trans aa;simp at this;exact h4 this.2
 ·exact A.dev.jL hb h1 h2 h3 h
theorem PA.cells(A:PA w H P):w.cell? (ad H.pb 0)=some (pz H.h.d)/\w.cell? (ad H.pb 1)=some (pz H.mb)/\w.cell? (ad H.pb 2)=some (u6 (P.st:Int))/\w.cell? (ad H.pb 3)=some (u6 (P.ba:Int)):=by refine⟨?_,?_,?_,?_⟩<;>(rw[A.e5.cell];rfl)
def PA.Gw(A:PA w H P){s':Nat->Nat}(hs:ck w' H.mb s')(T:Touch (·=H.mb) w w'):PA w' H {P with s:=s'}:=⟨A.e5.az T A.Vd,hs,A.dev.az T (λb hb e=>A.sQ (e ▸ hb))⟩
theorem PA.Vq(A:PA w H P){C':List cN}{m':Nat}{aa:Bool}(D:DT w H.h C' m' aa w'):PT w H {P with C:=C',m:=m',fl:=aa} w':=by obtain⟨vp,d,t,o⟩:=D;exact⟨vp,⟨A.e5.az t A.sX,a7.az A.map t A.sQ,d⟩,t.mono (λn h=>.inr (.inr h)),o⟩
def PT.same(A:PA w' H P)(T:Touch (PF H) w w'):PT w H P w':=⟨H.h.vp,A,T,λ_ h=>.inl h⟩
theorem tM{h:iE}{vp:ah}{b:Nat}(hb:cI {h with vp:=vp} b):cI h b\/vp.ownBlock=some b:=by
 rcases hb with hb|hb|hb|hb
 ·exact .inl (.inl hb)
 ·exact .inl (.inr (.inl hb))
 ·exact .inl (.inr (.inr (.inl hb)))
 ·simp_all
theorem Vf{H:aP}{vp:ah}{b:Nat}(hb:PF (H.at vp) b):PF H b\/vp.ownBlock=some b:=by
 rcases hb with hb|hb|hb
 ·exact .inl (.inl hb)
 ·exact .inl (.inr (.inl hb))
 ·rcases tM hb with h|h
  ·exact .inl (.inr (.inr h))
  ·simp_all
theorem PT.up{w1 w2:af}(D:PT w H P w1)(u:Up w1 w2):PT w H P w2:=by obtain⟨vp,d,t,o⟩:=D;exact⟨vp,d.up u,t.iK u,o⟩
theorem PT.pre{w0:af}(u:Up w0 w)(D:PT w H P w'):PT w0 H P w':=by
 obtain⟨vp,d,t,o⟩:=D;refine⟨vp,d,(Touch.bW (F:=PF H) u).trans t (λn h _=>h),λb hb=>?_⟩;rcases o b hb with h|h
 ·simp_all
 ·exact .inr (bN u.size h)
theorem PT.then{w1 w2:af}{P2:bu}{vp:ah}(T:Touch (PF H) w w1)(O:∀b,vp.ownBlock=some b->H.h.vp.ownBlock=some b\/w.heap.size<=b)(D2:PT w1 (H.at vp) P2 w2):PT w H P2 w2:=by
 obtain⟨ao,d2,t2,o2⟩:=D2;refine⟨ao,d2,T.trans t2 (λn hn hlt=>?_),λb hb=>?_⟩
 ·rcases Vf hn with h|h
  ·exact h
  ·rcases O n h with h|h
   ·exact .inr (.inr (.inr (.inr (.inr h))))
   ·omega
 ·rcases o2 b hb with h|h
  ·exact O b h
  ·exact .inr (bN T.size h)
theorem PT.grow{w1 w2:af}(D:PT w H P w1){g:Nat}{t:Aab}{C:Array ah}(hb:aH w1 g t C)(h:uW t=false)(hg:w1.grownBy w2 (some g))(hn:w.heap.size<=g):PT w H P w2:=by obtain⟨vp,d,tt,o⟩:=D;have ab:=d.cc hb h;exact⟨vp,d.az (Touch.bg (F:=(·=g)) hg (λk hk=>aa)) (λb hb e=>ab (e ▸ hb)),tt.gW hg (λk hk=>aa),o⟩
theorem qe{vp:ah}(A:PA w H P)(O:∀b,vp.ownBlock=some b->H.h.vp.ownBlock=some b\/w.heap.size<=b){b:Nat}(hb:b<w.heap.size)(hn:¬PF H b):¬PF (H.at vp) b:=λh=>by
 rcases Vf h with h|h
 ·exact hn h
 ·rcases O b h with h|h
  ·exact hn (.inr (.inr (.inr (.inr (.inr h)))))
  ·omega
end
theorem k7(w:af)(H:aP)(P:bu)(A:PA w H P):Aae Aag 86 #[pz H.pb] w λe w'=>e=.returned (pz H.h.d)/\w=w':=by obtain⟨c0,c1,c2,c3⟩:=A.cells;clear c1 c2 c3;go_in;exact eW
theorem k2(w:af)(H:aP)(P:bu)(A:PA w H P):Aae Aag 34 #[pz H.pb] w λe w'=>e=.returned (pz H.mb)/\w=w':=by obtain⟨c0,c1,c2,c3⟩:=A.cells;clear c0 c2 c3;go_in;exact eW
theorem oU(w:af)(H:aP)(P:bu)(A:PA w H P):Aae Aag 88 #[pz H.pb] w λe w'=>e=.returned (u6 (P.st:Int))/\w=w':=by obtain⟨c0,c1,c2,c3⟩:=A.cells;clear c0 c1 c3;go_in;exact eW
theorem Qq(w:af)(H:aP)(P:bu)(A:PA w H P):Aae Aag 89 #[pz H.pb] w λe w'=>e=.returned (u6 (P.ba:Int))/\w=w':=by obtain⟨c0,c1,c2,c3⟩:=A.cells;clear c0 c1 c2;go_in;exact eW
theorem Qt(w:af)(H:aP)(P:bu)(A:PA w H P)(aE:P.st<1000000000000):Aae Aag 127 #[pz H.pb] w λe w'=> e=rt #[]/\PA w' H {P with st:=P.st+1}/\Touch (PF H) w w':=by obtain⟨c0,c1,c2,c3⟩:=A.cells;have HA:=an A;have f2:=A.e5.free 2;generalize hs:P.st=st at *;have HS:=an hs;clear c0 c1 c3 hs;go_in;go_wp2;go_end0;have G:=b0 HA.e5 2 (u6 ((st:Int)+1));have T:=Touch.bg (F:=(·=H.pb)) G (λk hk=>aQ);refine⟨rfl,⟨?_,a7.az HA.map T (λe=>HA.Vd e.symm),HA.dev.az T (λb hb e=>HA.sX (e ▸ hb))⟩,T.mono (λn h=>.inl h)⟩;have:=HA.e5.setCell 2 (u6 ((st:Int)+1));exact this
theorem uZ(w:af)(h:iE)(mb:Nat)(C:List cN)(m:Nat)(fl:Bool)(s:Nat->Nat)(D:DA w h C m fl)(S:ck w mb s)(st ba:Nat):Aae Aag 56 #[pz h.d,pz mb,u6 (st:Int),u6 (ba:Int)] w λe w'=>e=.returned (pz w.heap.size)/\PA w' ⟨w.heap.size,mb,h⟩ ⟨C,m,fl,s,st,ba⟩/\Up w w':=by go_in;go_wp2;go_ret;exact⟨rfl,⟨aH.new w 160 _,S.up (ai _ _),D.up (ai _ _)⟩,ai _ _⟩
theorem Ij(w:af)(H:aP)(P:bu)(A:PA w H P)(aE:P.st<1000000000000):Aae Aag 154 #[pz H.pb] w λe w'=> e=rt #[]/\PA w' H {P with s:=iv P.s 1024,ba:=P.st,st:=P.st+1}/\Touch (PF H) w w':=by obtain⟨c0,c1,c2,c3⟩:=A.cells;have HA:=an A;generalize hs:P.st=st at *;have HS:=an hs;clear hs;go_in;go_wp2_with fail;refine(IF w H.mb P.s A.map).mono ?_;rintro e w1⟨rfl,S1,T1⟩;have A1:=an (HA.Gw S1 T1);clear c0 c1 c2 c3;obtain⟨f2,f3⟩:=aA (A1.e5.free 2) (A1.e5.free 3);obtain⟨c0,c1,c2,c3⟩:=A1.cells;simp only[HS.out]at c2 c3;clear c0 c1;go_wp2;go_end0;have B0:=A1.e5;have B1:=B0.setCell 3 (u6 (st:Int));have B2:=B1.setCell 2 (u6 ((st:Int)+1));have T2:Touch (·=H.pb) w1 ((w1.setCell ⟨H.pb,3,none⟩ (u6 (st:Int))).setCell ⟨H.pb,2,none⟩ (u6 ((st:Int)+1))):=(Touch.bg (F:=(·=H.pb)) (b0 B0 3 _) (λk hk=>aQ)).trans (Touch.bg (F:=(·=H.pb)) (b0 B1 2 _) (λk hk=>aQ)) (λn h _=>h);exact⟨rfl,⟨B2,a7.az A1.map T2 (λe=>A1.Vd e.symm),A1.dev.az T2 (λb hb e=>A1.sX (e ▸ hb))⟩,(T1.mono (λn h=>.inr (.inl h))).trans (T2.mono (F':=PF H) (λn h=>.inl h)) (λn h _=>h)⟩
theorem e8:∀W:af,(Ab9 87).run Aag W=.ok (.agg (be hole)) W:=by simp[be,hole]
theorem zH:prog.built 87 []=some (be hole):=av
theorem Jl(p:au):prog.built 87 [(0,i6 p.loc),(1,u6 (p.aT:Int)),(2,.int .u32 (p.sum:Int))]=some (be p):=av
theorem hU(p:au):(prog.info? 87).map (·.size)=some (be p).size:=av
section
variable {P:bx}
theorem D0{ops:Array Abn}{rest:List Abn}{op:Abn}{a:Act}{w:af}{Q:Act->Prop}(hw:Aaa op (Aa1 ops a.tmps)=true)(t:Aab)(i0 i1 i2:Nat)(x0 x1 x2:bO)(ho:op.op=.build t #[(i0,x0),(i1,x1),(i2,x2)])(v0 v1 v2:ah)(C:Array ah)(hb:P.built t [(i0,v0),(i1,v1),(i2,v2)]=some C)(h0:a.eval x0=v0)(h1:a.eval x1=v1)(h2:a.eval x2=v2)(h:Adc P ops w Q rest (a.put op.dst (.agg C))):Adc P ops w Q (op::rest) a:=CH hw t #[(i0,x0),(i1,x1),(i2,x2)] ho C aa h
end
def IQ{f:FuncId}{args:Array ah}{v:ah}(h:Aae P f args w λe w'=>e=.returned v/\w=w'):Aae P f args w λe w'=>e=.returned v/\w'=w:=h.mono λ_ _ ⟨a,b⟩=>⟨a,b.symm⟩
def eK(b:List aj)(h:κ b<=128):cN:=⟨e2 b,hc h⟩
def dO(s:cN):Nat:=gn 0 s.val
theorem Bz(w:af)(H:aP)(P:bu)(A:PA w H P)(i:Nat)(hi:i<κ P.C)(vb:ah)(b:List aj)(hb:a8 w vb b)(aa:κ b<=128)(hm:P.m<=900000):Aae Aag 158 #[pz H.pb,i6 (i:Int),vb] w λe w'=>e=rt #[.agg (be ⟨i,P.st,dO (eK b aa)⟩),i6 0]/\PT w H {P with C:=P.C.set i (eK b aa),m:=P.m+1,fl:=false} w':=by
 obtain⟨HA,HB,SL⟩:=aW A hb my;obtain⟨U1,U2,b2⟩:=db (ai w (.cells (be hole) 87)) (ai (w.alloc (.cells (be hole) 87)) (.cells (aC aK) 60)) (aH.new (w.alloc (.cells (be hole) 87)) 60 (aC aK));rw[aL]at b2;go_in;go_wp2_with(first
  | refine arm ?_
  | (refine hz rfl (.tmp 10) (.tmp 11) 30 30 rfl 5 Aa0 ay (w.heap.size+1) 0 128 128 rfl vb b rfl (hb.up (U1.trans U2)) aa 60 [] rfl b2 ab ?_))
 intro w3 ar _ ax;have G3:=ax;obtain⟨U3,S3⟩:=aw ((U1.trans U2).grown ax (λk hk=>aQ)) ar;have A3:=an (HA.up U3);obtain⟨c0,c1,c2,c3⟩:=A3.cells;clear c1 c3;refine Ny ?_;intro NS NR;go_wp2;refine Nz ?_;change Adc _ _ w3.drew (λa'=>Aak _ _ _ _ a' w3.drew) _ _;repeat(first
  | (refine ik rfl 60 (.tmp 8) rfl (w.heap.size+1) rfl 60 _ (S3.up (Up.drew (Up.refl _))) _ Acr rfl (dD (eK b aa)) ?_)
  | still_step)
 refine hA ?_;obtain⟨A4,S4,R4,U4⟩:=bR (A3.up (Up.drew (Up.refl _))) (S3.up (Up.drew (Up.refl _))) ((((aH.new w 87 (be hole)).up U2).grown ax (λe=>aQ)).up (Up.drew (Up.refl _))) (U3.trans (Up.drew (Up.refl _)));clear c0 c2;generalize w3.drew=w4 at *;go_wp2_with fail;refine((λW (D:DA W H.h P.C P.m P.fl)=>Pg W H.h P.C P.m P.fl D i hi (eK b aa) hm) _ A4.dev).mono ?_;rintro e w5⟨rfl,T5⟩;obtain⟨vp,A5,TT,O5⟩:=A4.Vq T5;obtain⟨S5,R5,T5⟩:=aW (S4.az TT (λh=>NS h)) (R4.az TT (λh=>NR h)) (PT.pre U4 ⟨vp,A5,TT,O5⟩);have c2:w5.cell? (ad H.pb 2)=some (u6 (P.st:Int)):=A5.cells.2.2.1;clear O5;go_wp2;have SB:=h8 S5 0 128 128 (by rw[hc aa];omega) ae ae ae;rw[Aax,dh (by rw[hc aa];omega)]at SB;obtain⟨SO,SU⟩:=aw (IQ (Gd _ _ w5.drew (SB.up (Up.drew (Up.refl _))))) (show gn 0 (e2 b)=dO (eK b aa)from rfl);rw[SU.out]at SO;obtain⟨BP,R6,T6⟩:=aW (Jl ⟨(i:Int),P.st,dO (eK b aa)⟩) (R5.up (Up.drew (Up.refl _))) (T5.up (Up.drew (Up.refl _)));generalize dO (eK b aa)=sm at *;refine Nv ?_;change Adc _ _ w5.drew (λa'=>Aak _ _ _ _ a' w5.drew) _ _;iterate 6 still_step
 still_call SO;refine D0 rfl 87 0 1 2 (.tmp 24) (.tmp 28) (.tmp 30) rfl _ _ _ _ BP rfl rfl rfl ?_;refine hA ?_;clear c2;generalize w5.drew=w6 at *;go_wp2_with(first|refine arm ?_|refine pj ?_);intro w7 ag aB;have T7:=an (T6.grow R6 rfl aB (aG _));go_wp2;exact bS (.tuple #[.agg (be ⟨(i:Int),P.st,sm⟩),i6 0]) ag ⟨by rw[<-SU.out];rfl,T7⟩
section
variable {P:bx} {ops:Array Abn} {S:af->Prop} {o o2 o3:Abn} {a:Act} {v:ah}
theorem so{Q:Exit->Act->af->Prop}{md:Ab0}{fuel:Nat}{aZ:Array Bool}{w:af}(i j:Nat)(hr:Abb md ops aZ=[i,j])(hi:ops[i]?=some o)(hj:ops[j]?=some o2)(hw:Aaa o (Aa1 ops a.tmps)=true)(hw2:Aaa o2 (Aa1 ops a.tmps)=true)(h:∀K:Act->af->Prop,(∀a w,S w->Acp P md ops Q S fuel (aZ.setIfInBounds i true) a w->K a w)->o.wp P a w K Q)(h2:∀K:Act->af->Prop,(∀a w,S w->Acp P md ops Q S fuel (aZ.setIfInBounds j true) a w->K a w)->o2.wp P a w K Q):Acp P md ops Q S (fuel+1) aZ a w:=wpAnyH_all hr aq (λk hk=>by
  simp at hk;rcases hk with rfl|rfl
  ·exact kL hi hw (h _ λ_ _ h1 h2=>⟨h1,h2⟩)
  ·exact kL hj hw2 (h2 _ λ_ _ h1 h2=>⟨h1,h2⟩))
def kS{Q:Exit->Act->af->Prop}{l:List Abn}{w:af}(h:Hid (Aak P ops Q l a w)):Aak P ops Q l a w:=h
end
def fE(C:List cN)(q:au):Option cN:=if q=hole then some ep else if 0<=q.loc then(C[q.loc.toNat]?).bind (λs=>if dO s=q.sum then some s else none)else none
theorem je(C:List cN):fE C hole=some ep:=ay
theorem OM{C:List cN}{q:au}{s:cN}(h:fE C q=some s)(hq:q≠hole):∃n:Nat,q.loc=n/\∃hn:n<κ C,C[n]=s/\dO s=q.sum:=by grind [fE]
def DB(q:au)(W:af):(Ack 10000 87 (.agg (be q)) (.agg (be hole))).run Aag W=.ok (decide (q=hole)) W:=zf 9998 q hole W
theorem rm{q:au}(h:aH w g t (be q)):w.cell? (ad g 0)=some (i6 q.loc)/\w.cell? (ad g 1)=some (u6 (q.aT:Int))/\w.cell? (ad g 2)=some (.int .u32 (q.sum:Int)):=by refine⟨?_,?_,?_⟩<;>(rw[h.cell];rfl)
theorem PA.grown{w1 w2:af}{H:aP}{P:bu}(A:PA w1 H P)(hg:w1.grownBy w2 (some g))(hn:¬PF H g):PA w2 H P:=A.az (Touch.bg (F:=(·=g)) hg (λk hk=>aa)) (λb hb e=>hn (e ▸ hb))
def PG(w:af)(H:aP)(P:bu)(w':af):Prop:=PA w' H P/\Touch (PF H) w w'
def PG.up{w w1 w2:af}{H:aP}{P:bu}(G:PG w H P w1)(u:Up w1 w2):PG w H P w2:=⟨G.1.up u,G.2.iK u⟩
def PG.of{w w1:af}{H:aP}{P:bu}(A:PA w H P)(u:Up w w1):PG w H P w1:=⟨A.up u,Touch.bW u⟩
def PG.trans{w w1 w2:af}{H:aP}{P:bu}(G:PG w H P w1)(G2:PG w1 H P w2):PG w H P w2:=⟨G2.1,G.2.trans G2.2 (λn h _=>h)⟩
def PG.dev{w w1 w2:af}{H:aP}{P:bu}(G:PG w H P w1)(D:DA w2 H.h P.C P.m P.fl)(T:Touch (cI H.h) w1 w2):PG w H P w2:=⟨⟨G.1.e5.az T G.1.sX,a7.az G.1.map T G.1.sQ,D⟩,G.2.trans (T.mono (F':=PF H) (λn h=>.inr (.inr h))) (λn h _=>h)⟩
theorem PG.grown{w w1 w2:af}{H:aP}{P:bu}(G:PG w H P w1)(hg:w1.grownBy w2 (some g))(hn:¬PF H g)(h0:w.heap.size<=g):PG w H P w2:=⟨G.1.grown hg hn,G.2.gW hg (λk hk=>aa)⟩
theorem uU(w:af)(H:aP)(P:bu)(A:PA w H P)(q:au)(s:cN)(hq:fE P.C q=some s):Aae Aag 109 #[pz H.pb,.agg (be q)] w λe w'=>e=rt #[.agg (aC s.val),i6 0]/\PG w H P w':=by
 obtain⟨EQ,U1,U2⟩:=db (DB q) (ai w (.cells (be q) 87)) (ai (w.alloc (.cells (be q) 87)) (.cells (aC aK) 60));have aa:=an ((aH.new w 87 (be q)).up U2);have b2:=aH.new (w.alloc (.cells (be q) 87)) 60 (aC aK);rw[aL]at b2;obtain⟨B2,UU,HA⟩:=aW b2 (U1.trans U2) A;refine Ny ?_;intro NS NR;by_cases hh:q=hole
 ·rw[gD hh]at EQ;have HS:=an (show s=ep by subst hh;rw[je]at hq;exact(dB hq).symm);clear hh hq;go_in;go_wp2_with(first|refine arm ?_|refine pj ?_);intro w7 ag aB;obtain⟨R7,G7⟩:=aw ag ((PG.of HA UU).grown aB NS ae);go_wp2;exact bS (.tuple #[.agg (aC aK),i6 0]) R7 ⟨by rw[HS.out];rfl,G7⟩
 ·rw[iY hh]at EQ;obtain⟨n,hn,hlt,hs,aN⟩:=OM hq hh;have hm:=HA.dev.len;have DR:=an (λW (D:DA W H.h P.C P.m P.fl)=>SA W H.h P.C P.m P.fl D n hlt);rw[hs]at DR;obtain⟨d0,d1,d2⟩:=rm aa;obtain⟨c0,c1,c2,c3⟩:=(A.up UU).cells;rw[hn]at d0;obtain⟨SM,IS,OS,ND⟩:=bR aN (dD s) (dj s.val) hn;clear hh hq hn hs aN c1 c2 c3 d1 d2;go_in;go_wp2_with(refine arm ?_);refine e3 (S:=λW=>W.cell? (ad H.pb 0)=some (pz H.h.d)/\W.cell? (ad w.heap.size 0)=some (i6 (n:Int))) av ?_;change Acp _ _ _ _ _ 13 _ _ (((w.alloc (.cells (be q) 87)).alloc (.cells (aC aK) 60)).drew);obtain⟨G3,B3,C3⟩:=aW (PG.of HA (UU.trans (Up.drew (Up.refl _)))) (aa.up (Up.drew (Up.refl _))) (B2.up (Up.drew (Up.refl _)));have SZ:=an (show w.heap.size+2<=(((w.alloc (.cells (be q) 87)).alloc (.cells (aC aK) 60)).drew).heap.size by have:=C3.lt;omega);have HZ:Hid ((aC aK).size=(aC s.val).size):=an p';clear d0 c0;generalize((w.alloc (.cells (be q) 87)).alloc (.cells (aC aK) 60)).drew=w3 at *;have SS:=an (show ∀W,PG w H P W->aH W w.heap.size 87 (be q)->W.cell? (ad H.pb 0)=some (pz H.h.d)/\W.cell? (ad w.heap.size 0)=some (i6 (n:Int))from λW g b=>⟨g.1.cells.1,by rw[(rm b).1,ND.out]⟩);have S3:=SS _ G3 B3;refine lI ?_;refine tb 3 rfl (yc (λW h=>h.1)) ?_;refine ta 4 ?_;refine tb 5 rfl (yc (λW h=>h.2)) ?_;refine(λ(FIN:∀g w',w.heap.size+2<=g->aH w' g 60 (aC s.val)->PG w H P w'->aH w' w.heap.size 87 (be q)->aH w' (w.heap.size+1) 60 (aC aK)->(?G:Nat->af->Prop) g w')=>?main) ?tail
  case main=>
   refine so 6 10 av rfl rfl rfl rfl ?_ ?_
   ·intro K hK;go_simp;refine(DR _ G3.1.dev).mono ?_;rintro e w4⟨rfl,D4,T4⟩;obtain⟨G4,B4,C4,Z4⟩:=bR (G3.dev D4 T4) (B3.az T4 (λhf=>NR (.inr (.inr hf)))) (C3.az T4 (λhf=>NS (.inr (.inr hf)))) (bN SZ T4.size);have S4:=SS _ G4 B4;refine hK _ _ S4 ?_;clear hK K;refine ta 7 ?_;refine ta 8 ?_;refine ta 9 ?_;refine ok 10 ?_;intro K hK;refine hB 60 rfl (aC aK) hI ?_;have U5:=ai w4 (.cells (aC aK) 60);obtain⟨G5,B5,C5,A5,L5,Z5⟩:=im (G4.up U5) (B4.up U5) (C4.up U5) (aH.new w4 60 (aC aK)) (show ∀b,cI H.h b->b<w4.heap.size from G4.1.dev.lt) (bN Z4 U5.size);obtain⟨Y5,S5⟩:=aA Z4.out (SS _ G5 B5);refine hK _ _ S5 ?_;refine gq ?_;clear hK K;obtain⟨g,hg⟩:=bK (w4.heap.size);rw[<-hg]at A5 L5 Y5 ⊢;generalize w4.alloc (.cells (aC aK) 60)=w5 at *;clear hg;refine ok 11 ?_;intro K hK;refine sE 60 (.tmp 6) (.tmp 20) rfl g (aC s.val) rfl rfl 60 (aC aK) A5 IS HZ OS ?_;refine ME ?_;intro g9 G9 B9 C9;have A9:=A5.set (aC s.val);refine hK _ _ (SS _ G9 B9) ?_;refine gq ?_;clear hK K;generalize w5.setRow g (aC s.val)=w9 at *;refine tk 12 (i6 0) rfl ya (SS _ G9 B9) ?_;refine nc ?_;exact FIN g w9 Y5 A9 G9 B9 C9
   ·intro K hK;refine hB 60 rfl (aC aK) hI ?_;have U4:=ai w3 (.cells (aC aK) 60);obtain⟨G4,B4,C4,A4,L4,Z4⟩:=im (G3.up U4) (B3.up U4) (C3.up U4) (aH.new w3 60 (aC aK)) (show ∀b,cI H.h b->b<w3.heap.size from G3.1.dev.lt) (bN SZ U4.size);obtain⟨Y4,S4⟩:=aA SZ.out (SS _ G4 B4);refine hK _ _ S4 ?_;refine gq ?_;clear hK K;obtain⟨g,hg⟩:=bK (w3.heap.size);rw[<-hg]at A4 L4 Y4 ⊢;generalize w3.alloc (.cells (aC aK) 60)=w4 at *;clear hg;refine ok 6 ?_;intro K hK;go_simp;refine(DR _ G4.1.dev).mono ?_;rintro e w5⟨rfl,D5,T5⟩;obtain⟨G5,B5,C5,Z5⟩:=bR (G4.dev D5 T5) (B4.az T5 (λhf=>NR (.inr (.inr hf)))) (C4.az T5 (λhf=>NS (.inr (.inr hf)))) (bN Z4 T5.size);have S5:=SS _ G5 B5;have A4:=an (A4.az T5 (λhf=>by have:=L4 _ hf;omega));refine hK _ _ S5 ?_;refine T' ?_;clear hK K;refine ok 11 ?_;intro K hK;refine sE 60 (.tmp 6) (.tmp 20) rfl g (aC s.val) rfl rfl 60 (aC aK) A4 IS HZ OS ?_;refine ME ?_;intro g9 G9 B9 C9;have A9:=A4.set (aC s.val);refine hK _ _ (SS _ G9 B9) ?_;refine gq ?_;clear hK K;generalize w5.setRow g (aC s.val)=w9 at *;refine tk 12 (i6 0) rfl ya (SS _ G9 B9) ?_;refine nc ?_;exact FIN g w9 Y4 A9 G9 B9 C9
  case tail=>
   intro g w5 aX ax aD aj al;obtain⟨G4,B4,C4,S4,HG⟩:=eI aD aj al ax aX;clear SZ SS S3 DR aX;go_wp2;obtain⟨G5,B5,C5,S5⟩:=bR (G4.up (Up.drew (Up.refl _))) (B4.up (Up.drew (Up.refl _))) (C4.up (Up.drew (Up.refl _))) (S4.up (Up.drew (Up.refl _)));obtain⟨e0,e1,e2⟩:=rm B5;rw[<-SM.out]at e2;have SB:=h8 S5 0 128 128 (by rw[s.property];omega) ae ae ae;rw[Aax,dh (by rw[s.property];omega)]at SB;have SO:=an (IQ (Gd _ _ _ SB));rw[show gn 0 s.val=dO s from rfl]at SO;clear e0 e1;generalize dO s=sm at *;refine wg 4 av av ?_;refine q7 ?_;change Adc _ _ (World.drew _) (λa'=>Aak _ _ _ _ a' (World.drew _)) _ _;still_step;still_call SO;repeat still_step
   refine hA ?_;clear e2;generalize w5.drew=w6 at *;go_wp2_with(first
    | refine arm ?_
    | refine cZ 60 4 38 (aC s.val) C5 (hi:=IS) (hold:=HZ) ?_)
   intro w7 ag aB;have G7:=an (G5.grown aB NS ae);go_wp2;(try simp only[exi]);exact bS (hi:=IS) (.tuple #[.agg (aC s.val),i6 0]) ag ⟨rfl,G7⟩
def bu.put(P:bu)(i:Nat)(s:cN):bu:={P with C:=P.C.set i s,m:=P.m+1,fl:=false,s:=e7 P.s i 2}
def aam(P:bu)(H:aP)(s:cN)(w:af)(e:Ab1)(w':af):Prop:=∃i:Nat,i<1024/\P.s i=1/\e=.returned (.tuple #[.agg (be ⟨i,P.st,dO s⟩),.int .i64 0])/\PT w H (P.put i s) w'
theorem Iq(w:af)(H:aP)(P:bu)(A:PA w H P)(vb:ah)(b:List aj)(hb:∀w',Touch (PF H) w w'->a8 w' vb b)(aa:κ b<=128)(hm:P.m<=900000)(hf:∀i,P.s i=1->i<κ P.C)(h0:0<bp P.s):Aae Aag 101 #[pz H.pb,vb] w (aam P H (eK b aa) w):=by
 have HB:=an hb;have aD:=hb w (Touch.refl _ _);obtain⟨va,vc,rfl⟩:=aD.slice;have U1:=an (ai w (.cells (be hole) 87));have A1:=an (A.up U1);obtain⟨c0,c1,c2,c3⟩:=A1.cells;obtain⟨NR,HF,H0⟩:=aW (show ¬PF H w.heap.size from λhf=>wu) hf h0;refine FW ?_;intro t1 t2;clear hb hf h0 c0 c2 c3;go_in;go_wp2_with(refine arm ?_);refine(BK _ H.mb P.s A1.map).mono ?_;rintro e w2(⟨i,hi,hs,rfl,S2,T2⟩|⟨hc,_,_⟩);rotate_left
 ·simp only[Hid]at *;omega
 obtain⟨A2,B2,T2,HS⟩:=bR (A1.Gw S2 T2) ((aH.new w 87 (be hole)).az T2 (λe=>NR (.inr (.inl e)))) ((Touch.bW (F:=PF H) U1).trans (T2.mono (F':=PF H) (λn h=>.inr (.inl h))) (λn h _=>h)) hs;have ab:=HF i hs;have ax:=an (HB w2 T2);have W:=an (Bz w2 H _ A2 i ab _ b ax aa hm);clear hs c1;go_wp2_with fail;refine W.mono ?_;rintro e w3⟨rfl,T3⟩;obtain⟨vp,A3,TT,O3⟩:=T3;obtain⟨B3,T3⟩:=aw (B2.az TT (λh=>NR h)) (PT.then T2 (vp:=H.h.vp) (λ_ h=>.inl h) (show PT w2 (H.at H.h.vp) _ w3 from⟨vp,A3,TT,O3⟩));clear O3;go_wp2_with(first
  | refine bD 87 e8 ?_
  | refine ed 87 8 30 w3 (be ⟨(i:Int),P.st,dO (eK b aa)⟩) 87 (be hole) ?_
  | refine cU 87 8 (aH.new w3 87 (be ⟨(i:Int),P.st,dO (eK b aa)⟩)) ?_
  | refine cZ 87 4 42 (be ⟨(i:Int),P.st,dO (eK b aa)⟩) (B3.up (ai _ _)) ?_)
 intro w7 ag aB;go_wp2;exact bS (.tuple #[.agg (be ⟨(i:Int),P.st,dO (eK b aa)⟩),i6 0]) ag ⟨i,hi,HS,rfl,((T3.up (ai w3 _)).grow (B3.up (ai _ _)) rfl aB (aG _))⟩
theorem sZ(w:af)(H:aP)(P:bu)(A:PA w H P)(i:Nat)(hi:i<1024)(hs:P.s i=2)(hC:i<κ P.C)(vb:ah)(b:List aj)(hb:a8 w vb b)(aa:κ b<=128)(hm:P.m<=900000):Aae Aag 260 #[pz H.pb,i6 (i:Int),vb] w λe w'=>e=rt #[.agg (be ⟨i,P.st,dO (eK b aa)⟩),i6 0]/\PT w H {P with C:=P.C.set i (eK b aa),m:=P.m+1,fl:=false} w':=by
 obtain⟨va,vc,rfl⟩:=hb.slice;have U1:=an (ai w (.cells (be hole) 87));have A1:=an (A.up U1);obtain⟨c0,c1,c2,c3⟩:=A1.cells;have HM:=an (show HG (cx (qu P.s 2)) (i:Int)=true from by rw[rD];refine SU (t' _) ?_;rw[<-rD,EB];exact⟨i,rfl,hi,hs⟩)
 refine FW ?_;intro t1 t2;clear hs c0 c2 c3;go_in;go_wp2_with(refine arm ?_);refine(BX _ H.mb P.s A1.map).mono ?_;rintro e w2⟨u,rfl,own,U2⟩;have SH:=IP w2 u _ (own.row BV) (λa m c e=>(own.aN a.block sL).2) (i:Int);rw[HM.out]at SH;clear c1;go_wp2_with fail;refine SH.mono ?_;rintro e w3⟨rfl,U3⟩;have U3:=an (U2.trans U3);go_wp2_with fail;refine(Bz w3 H P (A1.up U3) i hC _ b (hb.up (U1.trans U3)) aa hm).mono ?_;rintro e w4⟨rfl,T4⟩;obtain⟨vp,A4,TT,O4⟩:=T4;obtain⟨B4,T4⟩:=aw (((aH.new w 87 (be hole)).up U3).az TT (λh=>(λhf=>wu) h)) (PT.pre (U1.trans U3) ⟨vp,A4,TT,O4⟩);clear O4;go_wp2_with(first|refine arm ?_|refine pj ?_);intro w7 ag aB;go_wp2;exact bS (.tuple #[.agg (be ⟨(i:Int),P.st,dO (eK b aa)⟩),i6 0]) ag ⟨rfl,(T4.grow B4 rfl aB (aG _))⟩
def gO(s:Nat->Nat)(ba:Nat)(q:au):Nat->Nat:=if q=hole then s else if ba<q.aT then sc s q.loc 2 1 else sc s q.loc 2 3
def aag(P:bu)(H:aP)(q:au)(w:af)(e:Ab1)(w':af):Prop:=(∃r,e=.returned (.int .i64 r))/\PA w' H {P with s:=gO P.s P.ba q}/\Touch (PF H) w w'
theorem Dw(w:af)(H:aP)(P:bu)(A:PA w H P)(q:au):Aae Aag 162 #[pz H.pb,.agg (be q)] w (aag P H q w):=by
 have EQ:=DB q;obtain⟨U1,B1⟩:=aw (ai w (.cells (be q) 87)) (aH.new w 87 (be q));have A1:=an (A.up U1);by_cases hh:q=hole
 ·rw[gD hh]at EQ;have HS:=an (show gO P.s P.ba q=P.s by unfold gO;rw[bo hh]);clear hh;go_in;go_wp2_with(refine arm ?_);go_ret;refine⟨⟨_,rfl⟩,?_,Touch.bW U1⟩;rw[HS.out];exact A1
 rw[iY hh]at EQ;have NH:=an hh;clear hh;have HD:=an (show gO P.s P.ba q=if P.ba<q.aT then sc P.s q.loc 2 1 else sc P.s q.loc 2 3 by unfold gO;rw[aM NH.out]);obtain⟨d0,d1,d2⟩:=rm B1;obtain⟨c0,c1,c2,c3⟩:=A1.cells;obtain⟨A2,U2⟩:=aw ((A1.up (Up.drew (Up.refl _))).up (Up.drew (Up.refl _))) ((U1.trans (Up.drew (Up.refl _))).trans (Up.drew (Up.refl _)));clear c0 c2 d2;by_cases hlt:P.ba<q.aT
 ·have HS:=an (show gO P.s P.ba q=sc P.s q.loc 2 1 by rw[HD.out,bo hlt]);have t1:decide (P.ba<q.aT)=true:=by simpa using hlt
  have t2:decide ((P.ba:Int)<(q.aT:Int))=true:=ab
  have FR:=an (QP _ H.mb P.s A2.map q.loc);exact YB
 ·have HS:=an (show gO P.s P.ba q=sc P.s q.loc 2 3 by rw[HD.out,aM hlt]);have t1:decide (P.ba<q.aT)=false:=by simpa using hlt
  have t2:decide ((P.ba:Int)<(q.aT:Int))=false:=ab
  have FR:=an (PN _ H.mb P.s A2.map q.loc);exact YB
def aO(l:List au):Array ah:=(l.flatMap dG).toArray
def dK:List au:=Aac 8 hole
theorem b7(l:List au):(aO l).size=κ l*3:=by simp[aO,pw.flat]
theorem fz(l:List au):(aO l).toList=l.flatMap dG:=ay
def Qc(l:List au):(aO l).all (·.oneCell')=true:=AQ (λv hv=>pw.cC l v hv)
theorem qR:(prog.info? 176).map (·.size)=some 24:=av
theorem o7:∀W:af,(Ab9 176).run Aag W=.ok (.agg (aO dK)) W:=(lq (P:=Aag) (t:=176) (v:=.agg (aO dK)) (n:=24) ay).1
theorem wA(l:List au)(k:Nat)(h:k<κ l):(aO l).extract (k*3) (k*3+3)=be l[k]:=by
 rw[ZI];apply hS.1;rw[Array.toList_extract,fz];apply wj;intro j;simp only[List.getElem?_take,List.getElem?_drop,List.extract];by_cases hj:j<3
 ·have h1:=pw.at l k h j hj;simp_all
 ·grind [dG]
theorem Aq(l:List au)(hl:κ l=8)(k:Nat)(h:k<κ l)(W:af):(Abi 176 (.agg (aO l)) (i6 (k:Int))).run Aag W=.ok (.agg (be l[k])) W:=by
 have h8:(0:Int)<=(k:Int)/\(k:Int)<((8:Nat):Int):=ae
 have hp:=wA l k h;refine FX ?_;intro hs hg;simp[Abi,asIntOf,run_underlying (P:=Aag) underlying176,h8,hs,part,hg,hp];omega
theorem wz(h:aH w g t (aO l))(k:Nat)(hk:k<κ l):w.cell? (ad g (k*3))=some (i6 l[k].loc)/\w.cell? (ad g (k*3+1))=some (u6 (l[k].aT:Int))/\w.cell? (ad g (k*3+2))=some (.int .u32 (l[k].sum:Int)):=by
 have key:∀j,j<3->w.cell? (ad g (k*3+j))=(dG l[k])[j]?:=λj hj=>by rw[h.cell];unfold aO;rw[EU];exact pw.at l k hk j hj
 exact⟨key 0 ae,key 1 ae,key 2 ae⟩
def fT(l:List au):Bool:=decide (l=dK)
theorem Xv(l m:List au)(hl:κ l=8)(hm:κ m=8)(W:af):(Ack 10000 176 (.agg (aO l)) (.agg (aO m))).run Aag W=.ok (decide (l=m)) W:=by
 have hi:∃i,prog.info? 87=some i:=Ads.1 ay;obtain⟨i,hi⟩:=hi;have hc:prog.cellsOf 87=3:=av
 have pp:∀(l:List au) j(h:j<κ l) W,(part 87 (aO l) (j*prog.cellsOf 87)).run Aag W=.ok (fA l[j]) W:=λl j h W=>by refine FX ?_;intro hs hg;have hp:=wA l j h;rw[hc];simp[part,hg,hs,hp];rfl
 exact vf (P:=Aag) 9999 underlying176 hi (aO l) (aO m) l m hl hm fA (λx y=>decide (x=y)) aq (pp l) (pp m) (λx y W=>zf 9997 x y W) W _ aq
theorem C4(w:af)(l:List au)(hl:κ l=8):Aae Aag 203 #[.agg (aO l)] w λe w'=>j7 (fT l) w e w':=by
 have EQ:=Xv l dK hl rfl;rw[show decide (l=dK)=fT l from rfl]at EQ;generalize fT l=b at *;go_in;go_wp2_with(first
  | (refine iT rfl 176 (.tmp 1) rfl w.heap.size rfl 176 (aO l) (aH.new w 176 (aO l)) _ underlying176 rfl (by rw[b7,hl];exact qR) ?_)
  | (refine wpList_build rfl 176 #[] rfl av ?_;rw[show(prog.built 176 ((#[]:Array (Nat × bO)).map _).toList).getD #[]=aO dK from av]))
 go_ret;exact⟨rfl,ai _ _⟩
theorem jR(p:au):κ (bQ p)=16:=ay
def cT(l:List au):List aj:=l.flatMap bQ
theorem dZ(l:List au):κ (cT l)=16*κ l:=by
 unfold cT;induction l with
 | nil=>rfl
 | cons x l ih=>grind [jR]
theorem w2(l:List au)(k:Nat)(h:k<κ l):cT (l.take (k+1))=cT (l.take k)++bQ l[k]:=by unfold cT;rw[en h,gC];simp
def jO(b:List aj)(k:Nat):List aj:=(b.drop (16*k)).take 16
def eU(b:List aj):Nat->Option (List au)
 | 0=>some []
 | k+1=>match eU b k with
  | none=>none
  | some l=>(mi (jO b k)).map (l++[·])
theorem qj(b:List aj)(k:Nat)(h:eU b k=none):∀n,k<=n->eU b n=none
 | 0,hn=>by
  obtain rfl:k=0:=ae
  exact h
 | n+1,hn=>by
  by_cases e:k=n+1
  ·subst e;exact h
  ·rw[eU,qj b k h n ae]
theorem nv(h:eU b k=some l):eU b (k+1)=(mi (jO b k)).map (l++[·]):=by rw[eU,h]
theorem kQ{b:List aj}:∀{k:Nat}{l:List au},eU b k=some l->κ l=k
 | 0,l,h=>by simp[eU]at h;subst h;rfl
 | k+1,l,h=>by
  rw[eU]at h;cases h1:eU b k with
  | none=>rw[h1]at h;cases h
  | some m=>rw[h1]at h;simp only[Option.map_eq_some_iff]at h;obtain⟨p,_,rfl⟩:=h;simp[kQ h1]
theorem Il(l:List au)(k:Nat)(h:k<κ l):jO (cT l) k=bQ l[k]:=by
 have e:cT l=cT (l.take k)++(bQ l[k]++cT (l.drop (k+1))):=by unfold cT;rw[<-Abg,<-wc h,<-gC,fH]
 grind [cT,dZ,jO,jR]
theorem oW(l:List au)(hw:∀x∈l,x.wf)(hg:∀x∈l,cw x=true):∀k,k<=κ l->eU (cT l) k=some (l.take k)
 | 0,_=>rfl
 | k+1,hk=>by rw[nv (oW l hw hg k ae),Il l k ae,nu _ (hw _ (cJ _)) (hg _ (cJ _)),en ae];rfl
def jz(l:List au):Bool:=l.all cw
theorem m'(l:List au):jz l=true↔∀x∈l,cw x=true:=by simp[jz]
def GR(l:List au)(k:Nat):List aj:=cT (l.take k)++Aac (128-16*k) 0
theorem IY(l:List au)(hl:κ l=8)(k:Nat)(hk:k<=8):κ (GR l k)=128:=by grind [GR,dZ]
theorem Rb(l:List au)(hl:κ l=8)(k:Nat)(hk:k<κ l):(Aby (aC (GR l k)).toList (16*k) ((bQ l[k]).map aF)).toArray=aC (GR l (k+1)):=by
 have h1:κ (cT (l.take k))=16*k:=by grind [dZ]
 rw[rC];unfold Aby aC;rw[Aad,jR,<-we,<-p4,<-Aao,<-Aao];congr 2;unfold GR;rw[w2 l k ae,hY h1,EX,h1];rw[v' ae,Aay,yJ,Aa8];simp;omega
def nL(l:List au):List aj × Int:=if jz l=true then(cT l,0)else(aK,51)
def Jf(l:List au)(w:af)(e:Ab1)(w':af):Prop:=e=.returned (.tuple #[.agg (aC (nL l).1),.int .i64 (nL l).2])/\Up w w'
theorem Be(h:jz l=true):nL l=(cT l,0):=bo h
theorem P3(hk:k<κ l)(h:cw l[k]=false):nL l=(aK,51):=aM (λhh=>by rw[(m' l).1 hh _ (cJ hk)]at h;cases h)
theorem Bd(w:af)(l:List au)(hl:κ l=8)(hw:∀x∈l,x.wf):Aae Aag 160 #[.agg (aO l)] w λe w'=>Jf l w e w':=by
 have ZS:=hI;obtain⟨HL,HW⟩:=aw hl hw;clear hw;go_in;obtain⟨b0,b1,b2⟩:=db (aH.new w 176 (aO l)) (aH.new (w.alloc (.cells (aO l) 176)) 60 (aC aK)) (aH.new ((w.alloc (.cells (aO l) 176)).alloc (.cells (aC aK) 60)) 60 (aC aK));obtain⟨B1,B2,az⟩:=aW (b1.up (ai _ (.cells (aC aK) 60))) b2 (((ai w (.cells (aO l) 176)).trans (ai _ (.cells (aC aK) 60))).trans (ai _ (.cells (aC aK) 60)));go_wp2_with(refine iT rfl 176 (.tmp 1) rfl w.heap.size rfl 176 (aO l) ((b0.up (ai _ (.cells (aC aK) 60))).up (ai _ (.cells (aC aK) 60))) _ underlying176 rfl (by rw[b7,hl];exact qR) ?_);generalize aa:((w.alloc (.cells (aO l) 176)).alloc (.cells (aC aK) 60)).alloc (.cells (aC aK) 60)=w3 at *;simp only[Aa3]at B1 B2;clear aa ZS;go_loopw [10] (λi wr=>∃k:Nat,k<=8/\i=i6 k/\(∀j(h:j<κ l),j<k->cw l[j]=true)/\aH wr (w.heap.size+1) 60 (aC aK)/\aH wr (w.heap.size+1+1) 60 (aC (GR l k))/\Up w wr) (λi _=>8-(Aat i).toNat)
 case atStart=>exact⟨0,bE _,rfl,λj h h0=>ae,B1,B2,az⟩
 case round=>
  obtain⟨k,hk,rfl,ad,hz,hb,upr⟩:=hrel;obtain⟨HA,HZ,HB⟩:=aW ad hz hb;clear ad;by_cases hlt:k<8
  ·have hkl:k<κ l:=by omega
   have b2:((k:Int)<8)=True:=ab
   have IX:=(λk h W=>Aq l hl k h W) k hkl;obtain⟨PB,ST,GN⟩:=aW (λW=>nS W l[k] (HW _ (cJ hkl))) ((Rb l hl) k hkl) (λh=>P3 hkl h);have GY:=an (show cw l[k]=true->∀j(h:j<κ l),j<k+1->cw l[j]=true from λh j hj aL=>by
    by_cases e:j=k
    ·subst e;exact h
    ·exact HA j hj ae)
   have SL:∀W,(Abo 60 (pz (w.heap.size+1+1)) (some (i6 ((k:Int)*16))) (some (i6 (((k:Int)+1)*16))) none).run Aag W=.ok (sq (w.heap.size+1+1) (16*k) 16 (128-16*k)) W:=λW=>by have:=n5 (w.heap.size+1+1) (16*k) (16*k+16) ((k:Int)*16) (((k:Int)+1)*16) ae ae ae ae ae W;rwa [show 16*k+16-16*k=16 from ae]at this
   have sz:(aC (GR l k)).size=128:=by rw[bX];exact(IY l hl) k hk
   obtain⟨SC,PL⟩:=aw sz (jR l[k]);clear sz;generalize l[k]=p at *;obtain⟨pl,pb,ps⟩:=p;unfold be at IX;unfold fA RT at PB;simp only at IX PB;go_wp2_with fail;refine(PB _).mono ?_;rintro e w5(⟨hg,v5,rfl,aA,al⟩|⟨hg,rfl,al⟩)
   case inr=>
    have HN:=an (GN hg);clear hg;have aD:=HZ.up ((ai wr (.cells #[i6 pl,.int .u64 (pb:Int),.int .u32 (ps:Int)] 87)).trans al);go_wp2_with(first
     | (refine wpList_build rfl 60 #[] rfl av ?_;rw[show(prog.built 60 ((#[]:Array (Nat × bO)).map _).toList).getD #[]=aC aK from av])
     | (refine ek rfl 60 (.tmp 2) (.tmp 21) rfl (w.heap.size+1) (aC aK) rfl rfl 60 (aC aK) aD dx rfl (dj _) ?_))
    intro w6 ak ar;have aJ:=(upr.trans ((ai wr _).trans al)).aE (fc ar (oC aD.lt) (λj hj=>AW)) (ix _);go_wp2;refine bS (.tuple #[.agg (aC aK),i6 51]) ak ⟨by rw[HN.out],aJ⟩
   case inl=>
    have V5:=an aA.cC;obtain⟨va,vc,rfl⟩:=V5.slice;have aj:=(ai wr (.cells #[i6 pl,.int .u64 (pb:Int),.int .u32 (ps:Int)] 87)).trans al;have ax:=HB.up aj;go_wp2_with(refine hC rfl (.tmp 27) (.tmp 28) 30 30 rfl 5 Aa0 ay aF cp (w.heap.size+1+1) (16*k) 16 (128-16*k) rfl _ _ rfl V5 dL 60 _ ax dL ?_);intro w6 aV ao ar;rw[ST.out]at aV;have aJ:=(upr.trans aj).aE ao ae;have ak:=(HZ.up aj).grown ar aq;clear SL;go_wp2;go_roundw
    case rel=>exact⟨k+1,ae,fJ,(GY hg),ak,aV,aJ⟩
    case measure=>simp[Aat];omega
  ·obtain rfl:k=8:=by omega
   have b2:((8:Nat):Int)=8:=rfl;have HN:=an (Be ((m' l).2 (λx hx=>by obtain⟨j,hj,rfl⟩:=ls hx;exact HA j hj ae)))
   have HU:=an (show GR l 8=cT l by unfold GR;rw[dh ae];simp)
   have hb:=HB.out;rw[HU.out]at hb;have bs:(aC (cT l)).size=128:=by rw[bX,dZ,HL.out]
   have ag:=an (show(prog.info? 60).map (·.size)=some (aC (cT l)).size by rw[bs];exact dx);go_wp2_with(first
    | (refine iT rfl 60 (.tmp 4) rfl (w.heap.size+1+1) rfl 60 _ hb _ Acr rfl ag ?_)
    | (refine ek rfl 60 (.tmp 2) (.tmp 31) rfl (w.heap.size+1) (aC (cT l)) rfl rfl 60 (aC aK) HZ ag (by rw[bs];rfl) (dj _) ?_))
   intro w6 ak ar;have aJ:=upr.aE (fc ar (oC HZ.lt) (λj hj=>AW)) (ix _);go_wp2;refine bS (hi:=ag) (.tuple #[.agg (aC (cT l)),i6 0]) ak ⟨by rw[HN.out],aJ⟩
def lA(s:List aj):List au × Int:=match eU s 8 with
 | some l=>(l,0)
 | none=>(dK,51)
def aak(s:List aj)(w:af)(e:Ab1)(w':af):Prop:=e=.returned (.tuple #[.agg (aO (lA s).1),.int .i64 (lA s).2])/\Up w w'
theorem Gb(s:List aj):κ (lA s).1=8:=by
 unfold lA;split
 ·grind [kQ]
 ·rfl
def lv(l:List au):List au:=l++Aac (8-κ l) hole
theorem Cv(l:List au)(h:κ l<=8):κ (lv l)=8:=by grind [lv]
theorem KG(l:List au)(h:κ l=8):lv l=l:=by unfold lv;simp[h]
theorem Ia(l:List au)(h:κ l<8)(p:au):(lv l).set (κ l) p=lv (l++[p]):=by unfold lv;rw[yF _ _ (aG _),Nat.sub_self];rw[show 8-κ l=(8-κ (l++[p]))+1 from ab,List.replicate_succ,List.set_cons_zero,Aa8];rfl
theorem UZ(l:List au)(k:Nat)(hk:k<κ l)(p:au):(((aO l).setIfInBounds (k*3) (i6 p.loc)).setIfInBounds (k*3+1) (u6 (p.aT:Int))).setIfInBounds (k*3+2) (.int .u32 (p.sum:Int))=aO (l.set k p):=by
 apply hS.1;rw[Abl,Abl,Abl,fz,fz];apply wj;intro j;obtain⟨q,r,hr,hj⟩:∃q r,r<3/\j=q*3+r:=⟨j/3,j%3,ae,ae⟩;subst hj;simp only[List.getElem?_set,pw.flat,Aaz];by_cases hq:q<κ l
 ·rw[pw.at (l.set k p) q ab r hr,pw.at l q hq r hr];grind [dG]
 ·rw[aM ae,aM ae,aM ae];rw[sC (by rw[pw.flat];omega),sC (by rw[pw.flat,Aaz];omega)]
theorem aH.ZT(h:aH w g t (aO l))(k:Nat)(hk:k<κ l)(p:au):aH (((w.setCell ⟨g,k*3,none⟩ (i6 p.loc)).setCell ⟨g,k*3+1,none⟩ (u6 (p.aT:Int))).setCell ⟨g,k*3+2,none⟩ (.int .u32 (p.sum:Int))) g t (aO (l.set k p)):=by rw[<-UZ l k hk p];exact((h.setCell _ _).setCell _ _).setCell _ _
theorem SQ(h:aH w g t (aO l))(k:Nat)(p:au):w.grownBy (((w.setCell ⟨g,k*3,none⟩ (i6 p.loc)).setCell ⟨g,k*3+1,none⟩ (u6 (p.aT:Int))).setCell ⟨g,k*3+2,none⟩ (.int .u32 (p.sum:Int))) (some g):=by obtain⟨h1,g1⟩:=aA (h.setCell (k*3) (i6 p.loc)) (b0 h (k*3) (i6 p.loc));obtain⟨g2,g3⟩:=aA (b0 h1 (k*3+1) (u6 (p.aT:Int))) (b0 (h1.setCell (k*3+1) (u6 (p.aT:Int))) (k*3+2) (.int .u32 (p.sum:Int)));exact⟨ay,ay,ay,bN g1.size (bN g2.size g3.size),λj hj hne=>by rw[g3.block j (eg hj (bN g1.size g2.size)) hne,g2.block j (eg hj g1.size) hne,g1.block j hj hne]⟩
theorem QK{s:List aj}(h:aH w g t (aC s))(hs:κ s=128)(k:Nat)(hk:k<8):a8 w (sq g (16*k) 16 (128-16*k)) (jO s k):=by
 have hl:κ (jO s k)=16:=by grind [jO]
 refine .inr ⟨g,16*k,128-16*k,ab,ae,ae,dE,λi hi=>?_⟩;grind [IG,jO]
theorem KI{s:List aj}(h:eU s k=some l)(h2:mi (jO s k)=none)(hk:k<8):lA s=(dK,51):=by unfold lA;rw[qj s (k+1) (by grind [nv]) 8 ae]
theorem KJ{s:List aj}(h:eU s 8=some l):lA s=(l,0):=by grind [lA]
theorem Dq(w:af)(s:List aj)(hs:κ s=128)(h0:(lA s).2=0):Aae Aag 191 #[.agg (aC s)] w λe w'=>aak s w e w':=by
 obtain⟨HS,H0⟩:=aw hs h0;clear hs h0;go_in;obtain⟨b0,b1,b2⟩:=db (aH.new w 60 (aC s)) (aH.new (w.alloc (.cells (aC s) 60)) 176 (aO dK)) (aH.new ((w.alloc (.cells (aC s) 60)).alloc (.cells (aO dK) 176)) 176 (aO dK));obtain⟨B0,B1,B2,az⟩:=bR ((b0.up (ai _ (.cells (aO dK) 176))).up (ai _ (.cells (aO dK) 176))) (b1.up (ai _ (.cells (aO dK) 176))) b2 (((ai w (.cells (aC s) 60)).trans (ai _ (.cells (aO dK) 176))).trans (ai _ (.cells (aO dK) 176)));go_wp2_with(refine dk rfl 176 rfl (aO dK) o7 ?_);generalize aa:((w.alloc (.cells (aC s) 60)).alloc (.cells (aO dK) 176)).alloc (.cells (aO dK) 176)=w3 at *;simp only[Aa3]at B1 B2;clear aa;go_loopw [8] (λi wr=>∃(k:Nat)(l:List au),k<=8/\i=i6 k/\eU s k=some l/\aH wr w.heap.size 60 (aC s)/\aH wr (w.heap.size+1) 176 (aO dK)/\aH wr (w.heap.size+1+1) 176 (aO (lv l))/\Up w wr) (λi _=>8-(Aat i).toNat)
 case atStart=>exact⟨0,[],bE _,rfl,rfl,B0,B1,B2,az⟩
 case round=>
  obtain⟨k,l,hk,rfl,aL,hs,hz,hb,upr⟩:=hrel;obtain⟨av,ay,HZ,HB,ad⟩:=eI aL hs hz hb (kQ aL);clear aL;by_cases hlt:k<8
  ·have b2:((k:Int)<8)=True:=by simp;omega
   have SL:∀W,(Abo 60 (pz w.heap.size) (some (i6 ((k:Int)*16))) (some (i6 (((k:Int)+1)*16))) none).run Aag W=.ok (sq w.heap.size (16*k) 16 (128-16*k)) W:=λW=>by have:=n5 w.heap.size (16*k) (16*k+16) ((k:Int)*16) (((k:Int)+1)*16) ae ae ae ae ae W;rwa [show 16*k+16-16*k=16 from ae]at this
   have RD:=an (qk wr _ _ (QK ay HS k hlt) (by have:=HS.out;grind [jO]));unfold RU at RD;go_wp2_with fail;refine RD.mono ?_;rintro e w5(⟨p,hp,rfl,al⟩|⟨hp,rfl,al⟩)
   case inr=>exact absurd H0.out (by rw[KI av hp hlt];decide)
   case inl=>
    obtain⟨pl,pb,ps⟩:=p;unfold fA;simp only;have upa:=(ai w5 (.cells #[i6 pl,.int .u64 (pb:Int),.int .u32 (ps:Int)] 87));have ax:=(HB.up al).up upa;have hkl:k<κ (lv l):=by rw[Cv l dL];exact hlt
    obtain⟨d0,d1,d2,f0,f1,f2⟩:=qA ((wz ax k hkl).1) ((wz ax k hkl).2.1) ((wz ax k hkl).2.2) (ax.free (k*3)) (ax.free (k*3+1)) (ax.free (k*3+2));have aR:=an ax;have HST:=an (show(lv l).set k ⟨pl,pb,ps⟩=lv (l++[⟨pl,pb,ps⟩])by have:=Ia l dL ⟨pl,pb,ps⟩;rwa [ad.out]at this)
    have aI:=an hkl;clear SL;generalize(lv l)[k]=p0 at *;clear hkl;go_wp2;go_roundw
    case rel=>have G:=SQ aR k ⟨pl,pb,ps⟩;exact⟨k+1,l++[⟨pl,pb,ps⟩],ae,fJ,(by rw[nv av.out,hp];rfl),((ay.up al).up upa).grown G ab,((HZ.up al).up upa).grown G aq,by rw[<-HST.out];exact aR.ZT k aI ⟨pl,pb,ps⟩,((upr.trans al).trans upa).aE (fc G (oC aR.lt) (λj hj=>aQ)) ae⟩
    case measure=>simp[Aat];omega
  ·obtain rfl:k=8:=by omega
   have b2:((8:Nat):Int)=8:=rfl;have HN:=an (KJ av);have hb:=HB.out;rw[KG l ad.out]at hb;have bs:(aO l).size=24:=by rw[b7,ad.out]
   have ag:=an (show(prog.info? 176).map (·.size)=some (aO l).size by rw[bs];exact qR);go_wp2_with(first
    | (refine iT rfl 176 (.tmp 4) rfl (w.heap.size+1+1) rfl 176 _ hb _ underlying176 rfl ag ?_)
    | (refine ek rfl 176 (.tmp 2) (.tmp 28) rfl (w.heap.size+1) (aO l) rfl rfl 176 (aO dK) HZ ag (by rw[bs];rfl) (Qc _) ?_))
   intro w6 ak ar;have aJ:=upr.aE (fc ar (oC HZ.lt) (λj hj=>AW)) (ix _);go_wp2;refine bS (hi:=ag) (.tuple #[.agg (aO l),i6 0]) ak ⟨by rw[HN.out],aJ⟩

theorem rk(l:List au):κ (l.flatMap dG)=κ l*3:=pw.flat l
theorem Bg(h:aH w g t (aO l))(k m:Nat)(ab:k+m<=κ l):w.rangeAt g (k*3) (aO ((l.drop k).take m)).toList:=λj v hj=>by
 rw[fz]at hj;rw[h.cell];have e:(aO l)[k*3+j]?=(l.flatMap dG)[k*3+j]?:=by rw[<-fz];simp
 rw[e];have hs:l.flatMap dG=(l.take k).flatMap dG++(((l.drop k).take m).flatMap dG++((l.drop k).drop m).flatMap dG):=by rw[<-gC,<-gC,fH,fH]
 have aa:j<κ (((l.drop k).take m).flatMap dG):=by
  rcases ma j (κ (((l.drop k).take m).flatMap dG)) with h|h
  ·exact h
  ·rw[sC h]at hj;cases hj
 have hk:κ ((l.take k).flatMap dG)=k*3:=by rw[rk,ev];congr 1;omega
 rw[hs,EH ae,hk,E2,yn aa,hj]
theorem wB(h:aH w g t (aO l))(k:Nat)(hk:k<κ l):w.rangeAt g (k*3) (be l[k]).toList:=by have:=Bg h k 1 ae;rw[List.take_one,List.head?_drop,jE hk]at this;assumption
theorem nn(l m:List au)(k:Nat)(ab:k+κ m<=κ l):(Aby (aO l).toList (k*3) (aO m).toList).toArray=aO (l.take k++m++l.drop (k+κ m)):=by
 apply hS.1;rw[fz,fz,Acz,fz];have h1:κ ((l.take k).flatMap dG)=k*3:=by grind [rk]
 have h2:κ ((l.take (k+κ m)).flatMap dG)=k*3+κ m*3:=by grind [rk]
 unfold Aby;rw[rk m];have e1:(l.flatMap dG).take (k*3)=(l.take k).flatMap dG:=by
  conv=>lhs;rw[<-fH k l,gC]
  simp_all
 have e2:(l.flatMap dG).drop (k*3+κ m*3)=(l.drop (k+κ m)).flatMap dG:=by
  conv=>lhs;rw[<-fH (k+κ m) l,gC]
  simp_all
 simp_all
def jK(l:List au):(aO l).all (·.oneCell')=true:=AQ (pw.cC l)
theorem Ib(p:au):aO [p]=be p:=ay
theorem gX(l:List au)(h:κ l=8):(prog.info? 176).map (·.size)=some (aO l).size:=by grind [b7,qR]
theorem qT(l:List au)(h:κ l=17):(prog.info? 178).map (·.size)=some (aO l).size:=by rw[b7,h];kernel_rfl
def jZ:List au:=Aac 17 hole
theorem We:∀W:af,(Ab9 178).run Aag W=.ok (.agg (aO jZ)) W:=(lq (P:=Aag) (t:=178) (v:=.agg (aO jZ)) (n:=51) ay).1
def node8(C:List cN)(q:au):Option (List au):=(fE C q).bind λs=>if(lA s.val).2=0 then some (lA s.val).1 else none
theorem oR{C:List cN}{q:au}(h:node8 C q=some l):∃s,fE C q=some s/\lA s.val=(l,0):=by
 unfold node8 at h;cases hb:fE C q with
 | none=>simp_all
 | some s=>grind
theorem cH{C:List cN}{q:au}(h:node8 C q=some l):κ l=8:=by grind [oR,Gb]
theorem rG(w:af)(H:aP)(P:bu)(A:PA w H P)(q:au)(l:List au)(hq:node8 P.C q=some l):Aae Aag 120 #[pz H.pb,.agg (be q)] w λe w'=>e=rt #[.agg (aO l),i6 0]/\PG w H P w':=by
 have hl:=cH hq;obtain⟨s,hs,hn⟩:=oR hq;obtain⟨IS,IN,ON⟩:=aW (dD s) (gX l hl) (jK l);have HN:Hid ((aO dK).size=(aO l).size):=an (by rw[b7,b7,hl];rfl);obtain⟨U2,b2⟩:=aA (ai (w.alloc (.cells (be q) 87)) (.cells (aO dK) 176)) (aH.new (w.alloc (.cells (be q) 87)) 176 (aO dK));rw[aL]at b2;obtain⟨UU,NE,NS⟩:=aW ((ai w (.cells (be q) 87)).trans U2) hn (show ¬PF H (w.heap.size+1)from λhf=>wu);clear hq hn hl;go_in;go_wp2_with(refine arm ?_);refine(uU _ H P (A.up UU) q s hs).mono ?_;rintro e w3⟨rfl,g3⟩;go_wp2_with(first
  | refine arm ?_
  | ((with_reducible refine cu 60 (.tmp 6) (.tmp 13) ?_);refine fC w3 rfl 60 (.tmp 6) (.tmp 13) rfl (aC s.val) 60 (aC aK) rfl rfl rfl IS (an p') (dj s.val) ?_))
 refine((λW=>Dq W s.val s.property (by rw[NE.out])) _).mono ?_;rintro e w4⟨rfl,u4⟩;have U4:=an ((ai w3 (.cells (aC s.val) 60)).trans u4);rw[NE.out];go_wp2_with(first
  | refine arm ?_
  | ((with_reducible refine cu 176 (.tmp 8) (.tmp 22) ?_);refine fC w4 rfl 176 (.tmp 8) (.tmp 22) rfl (aO l) 176 (aO dK) rfl rfl rfl IN HN ON ?_)
  | refine cZ 176 4 27 (aO l) (((b2.az g3.2 NS).up U4).up (ai _ _)) (hi:=IN) (h1:=ON) (hold:=HN) ?_)
 intro w7 ag aB;go_wp2;exact bS (hi:=IN) (.tuple #[.agg (aO l),i6 0]) ag ⟨rfl,(((((PG.of A UU).trans g3).up U4).up (ai _ _)).grown aB NS ae)⟩
def bL(l:List au):cN:=if h:κ (nL l).1=128 then⟨(nL l).1,h⟩ else ep
theorem rj(hl:κ l=8)(hg:jz l=true):(bL l).val=(nL l).1/\(nL l).2=0/\(nL l).1=cT l:=by grind [Be,bL,nL,cT,dZ]
theorem Qn(s:cN):e2 s.val=s.val:=by unfold e2;rw[s.property];simp
def Vb(s:cN)(h:κ s.val<=128):eK s.val h=s:=Subtype.ext (Qn s)
theorem n'(w:af)(H:aP)(P:bu)(A:PA w H P)(l:List au)(hl:κ l=8)(aT:∀x∈l,x.wf)(hg:jz l=true)(hm:P.m<=900000)(hf:∀i,P.s i=1->i<κ P.C)(h0:0<bp P.s):Aae Aag 102 #[pz H.pb,.agg (aO l)] w (aam P H (bL l) w):=by
 obtain⟨v1,v2,v3⟩:=rj hl hg;have HA:=an A;have NB:=Bd ((w.alloc (.cells (aO l) 176)).alloc (.cells (be hole) 87)) l hl aT;unfold Jf at NB;rw[v2,<-v1]at NB;generalize bL l=s at *;have SL:=an my;obtain⟨U2,b2⟩:=aA (ai (w.alloc (.cells (aO l) 176)) (.cells (be hole) 87)) (aH.new (w.alloc (.cells (aO l) 176)) 87 (be hole));rw[aL]at b2;clear v1 v2 v3 aT hg;go_in;go_wp2_with(first
  | refine bD 87 e8 ?_
  | refine cU 176 3 ((aH.new w 176 (aO l)).up U2) (hi:=(gX l hl)) ?_)
 refine NB.mono ?_;rintro e w3⟨rfl,u3⟩;have U3:=an ((((ai w (.cells (aO l) 176)).trans U2).trans u3).trans (ai w3 (.cells (aC s.val) 60)));go_wp2_with(first
  | refine arm ?_
  | ((with_reducible refine cu 60 (.tmp 6) (.tmp 11) ?_);refine fC w3 rfl 60 (.tmp 6) (.tmp 11) rfl (aC s.val) 60 (aC aK) rfl rfl rfl (dD s) (an p') (dj s.val) ?_))
 have HB4:=an (show ∀w',Touch (PF H) (w3.alloc (.cells (aC s.val) 60)) w'->a8 w' (cv w3.heap.size 128 128) s.val from λw' T=>by have hb:=h8 ((aH.new w3 60 (aC s.val)).az T (λhf=>by have:=HA.lt _ hf;have:=(eg b2.lt u3.size);omega)) 0 128 128 ae ae ae ae;rw[Aax,dh ae]at hb;exact hb)
 have PU:=an ((λW (AW:PA W H P) vb hb=>Iq W H P AW vb s.val hb ae hm hf h0) _ (HA.up U3) _ HB4);rw[(Vb s ae)]at PU;refine PU.mono ?_;rintro e w5⟨i,hi,hs,rfl,T5⟩;have HS:=an hs;obtain⟨vp,A5,TT,O5⟩:=T5;obtain⟨B5,T5⟩:=aw (((b2.up u3).up (ai w3 (.cells (aC s.val) 60))).az TT (λhf=>by have:=HA.lt _ hf;omega)) (PT.pre U3 ⟨vp,A5,TT,O5⟩);clear O5 hs;go_wp2_with(first|refine arm ?_|refine pj ?_);intro w7 ag aB;go_wp2;exact bS (.tuple #[.agg (be ⟨(i:Int),P.st,dO s⟩),i6 0]) ag ⟨i,hi,HS,rfl,(T5.grow B5 rfl aB ae)⟩
theorem th(w:af)(i:Int):Aae Aag 99 #[i6 i] w λe w'=>e=.returned (.bool (decide (0<=i/\i<64)))/\w=w':=by
 by_cases h0:0<=i
 ·have t0:decide (0<=i)=true:=by simp;omega
  by_cases h1:i<64
  ·have t1:decide (i<64)=true:=by simp;omega
   have HR:=an (show decide (0<=i/\i<64)=true from ab);go_in;go_wp2;go_ret;simp;omega
  ·have t1:decide (i<64)=false:=by simp;omega
   exact Mn
 ·have t0:decide (0<=i)=false:=by simp;omega
  exact Mn
def a6(l:List au)(k:Nat):au:=l.getD k hole
def fi(F S:List au)(p:au):List au:=F++S++[p]
theorem fh{F S:List au}(hF:κ F=8)(hS:κ S=8)(p:au):κ (fi F S p)=17:=sK
theorem Rk{F S:List au}(hF:κ F=8)(p:au):((fi F S p).drop 0).take 8=F:=sK
theorem LF{F S:List au}(hF:κ F=8)(hS:κ S=8)(p:au):((fi F S p).drop 8).take 8=S:=sK
theorem Rj{F S:List au}(hF:κ F=8)(hS:κ S=8)(p:au)(h:16<κ (fi F S p)):(fi F S p)[16]=p:=sK
theorem aa8{F S:List au}(hF:κ F=8)(p:au)(k:Nat)(hk:k<8)(h:k<κ (fi F S p)):(fi F S p)[k]=F[k]:=sK
theorem aa9{F S:List au}(hF:κ F=8)(hS:κ S=8)(p:au)(k:Nat)(hk:k<8)(h:8+k<κ (fi F S p)):(fi F S p)[8+k]=S[k]:=sK
theorem Z6{F S:List au}(hF:κ F=8)(p:au)(k:Nat)(hk:k<8)(h:k<κ (fi F S p)):(fi F S p)[k]=a6 F k:=by grind [aa8,a6]
theorem Z7{F S:List au}(hF:κ F=8)(hS:κ S=8)(p:au)(k:Nat)(hk:k<8)(h:8+k<κ (fi F S p)):(fi F S p)[8+k]=a6 S k:=by grind [aa9,a6]
theorem Cd{F S:List au}(hb:aH W g t (aO (fi F S p)))(hF:κ F=8)(k:Nat)(hk:k<8):W.rangeAt g (k*3) (be (a6 F k)).toList:=by have:=wB hb k sK;grind [Z6]
theorem LD{F S:List au}(hb:aH W g t (aO (fi F S p)))(hF:κ F=8)(hS:κ S=8)(k:Nat)(hk:k<8):W.rangeAt g (24+k*3) (be (a6 S k)).toList:=by have:=wB hb (8+k) uk;grind [Z7]
theorem mF{F S:List au}(hb:aH W g t (aO (fi F S p)))(hF:κ F=8)(hS:κ S=8):W.rangeAt g 48 (be p).toList:=by have:=wB hb 16 uk;grind [Rj]
theorem Ce{F S:List au}(hb:aH W g t (aO (fi F S p)))(hF:κ F=8)(hS:κ S=8):W.rangeAt g 0 (aO F).toList:=by have:=Bg hb 0 8 uk;grind [Rk]
theorem Cf{F S:List au}(hb:aH W g t (aO (fi F S p)))(hF:κ F=8)(hS:κ S=8):W.rangeAt g 24 (aO S).toList:=by have:=Bg hb 8 8 uk;grind [LF]
theorem V2{F:List au}(lF:κ F=8):(Aby (aO jZ).toList 0 (aO F).toList).toArray=aO (fi F dK hole):=by have:=nn jZ F 0 (by rw[lF];decide);rw[Nat.zero_mul]at this;rw[this,lF,show List.drop (0+8) jZ=dK++[hole] from rfl,Abk,Aay,<-Aa8];rfl
theorem V3{F S:List au}(lF:κ F=8)(lS:κ S=8):(Aby (aO (fi F dK hole)).toList 24 (aO S).toList).toArray=aO (fi F S hole):=by have:=nn (fi F dK hole) S 8 (by rw[lS,fh lF rfl];decide);grind [fi,dK,hole]
theorem V4{F S:List au}(lF:κ F=8)(lS:κ S=8)(p:au):(Aby (aO (fi F S hole)).toList 48 (be p).toList).toArray=aO (fi F S p):=by have:=nn (fi F S hole) [p] 16 uk;rw[Ib]at this;rw[this];congr 1;unfold fi;rw[hY ab,v' ab,Ab5]
theorem wR(w:af)(H:aP)(P:bu)(A:PA w H P)(root:au)(i:Nat)(hi:i<64)(F S:List au)(hF:node8 P.C root=some F)(hS:node8 P.C (a6 F (i/8))=some S):Aae Aag 100 #[pz H.pb,.agg (be root),i6 (i:Int)] w λe w'=>e=rt #[.agg (aO (fi F S (a6 S (i%8)))),i6 0]/\PG w H P w':=by
 obtain⟨lF,lS⟩:=aA (cH hF) (cH hS);obtain⟨q,hq⟩:=bK (i/8);obtain⟨r,hr⟩:=bK (i%8);have ao:q<8:=ae
 have ak:r<8:=ae
 have ar:((i:Int)/8)=(q:Int):=ae
 have al:((i:Int)%8)=(r:Int):=ae
 rw[<-hq]at hS;rw[<-hr];obtain⟨LF,LS,IW⟩:=aW lF lS (qT (fi F S (a6 S r)) (fh lF lS _));obtain⟨U2,U3⟩:=aA (ai (w.alloc (.cells (be root) 87)) (.cells (aO jZ) 178)) (ai ((w.alloc (.cells (be root) 87)).alloc (.cells (aO jZ) 178)) (.cells (aO jZ) 178));obtain⟨b2,b3⟩:=aA ((aH.new (w.alloc (.cells (be root) 87)) 178 (aO jZ)).up U3) (aH.new ((w.alloc (.cells (be root) 87)).alloc (.cells (aO jZ) 178)) 178 (aO jZ));rw[aL]at b2;rw[aL,aL]at b3;obtain⟨UU,NS,NT⟩:=aW (((ai w (.cells (be root) 87)).trans U2).trans U3) (show ¬PF H (w.heap.size+1)from λhf=>wu) (show ¬PF H (w.heap.size+1+1)from λhf=>wu);clear hq hr;have b8:((q:Int)<8)=True:=ab
 have b9:((r:Int)<8)=True:=ab
 have wq:IntKind.i64.wrap (q:Int)=(q:Int):=aY q ae;have wr:IntKind.i64.wrap (r:Int)=(r:Int):=aY r ae;go_in;go_wp2_with(refine arm ?_);refine((λW (AW:PA W H P)=>rG W H P AW root F hF) _ (A.up UU)).mono ?_;rintro e w4⟨rfl,g4⟩;go_wp2_with(first
  | ((with_reducible refine cu 176 (.tmp 16) (.tmp 14) ?_);refine cj rfl 176 (.tmp 16) (.tmp 14) rfl (w.heap.size+1+1) 0 (aO F) rfl rfl 178 _ (b3.az g4.2 NT) (gX F lF) (by rw[b7,b7,lF];exact EP rfl) (jK F) ?_))
 intro w5 ax aD;rw[(V2 lF)]at ax;have G5:=an (((PG.of A UU).trans g4).grown aD NT ae);go_wp2_with(first
  | refine cK 87 26 (be (a6 F q)) (Cd ax LF q ao) ?_)
 refine((λW (AW:PA W H P)=>rG W H P AW (a6 F q) S hS) _ G5.1).mono ?_;rintro e w6⟨rfl,g6⟩;go_wp2_with(first
  | ((with_reducible refine cu 176 (.tmp 31) (.tmp 29) ?_);refine cj rfl 176 (.tmp 31) (.tmp 29) rfl (w.heap.size+1+1) 24 (aO S) rfl rfl 178 _ (ax.az g6.2 NT) (gX S lS) (by rw[b7,b7,lS,fh lF rfl];omega) (jK S) ?_))
 intro w7 ag aB;rw[(V3 lF lS)]at ag;go_wp2_with(first
  | refine cK 87 39 (be (a6 S r)) (LD ag LF LS r ak) ?_
  | ((with_reducible refine cu 87 (.tmp 41) (.tmp 40) ?_);refine cj rfl 87 (.tmp 41) (.tmp 40) rfl (w.heap.size+1+1) 48 (be (a6 S r)) rfl rfl 178 _ ag (hU (a6 S r)) (by rw[b7,fh lF lS];show 48+3<=17*3;omega) (jN (a6 S r)) ?_))
 intro w8 aa av;rw[(V4 lF lS (a6 S r))]at aa;go_wp2_with(first
  | refine arm ?_
  | refine cZ 178 6 42 (aO (fi F S (a6 S r))) (((((b2.az g4.2 NS).grown aD (λe=>aQ)).az g6.2 NS).grown aB (λe=>aQ)).grown av (λe=>aQ)) (hi:=IW) (h1:=(jK (fi F S (a6 S r)))) (hold:=(an (by rw[b7,b7,fh LF.out LS.out];rfl))) ?_)
 intro w9 aI aT;go_wp2;exact bS (hi:=IW) (.tuple #[.agg (aO (fi F S (a6 S r))),i6 0]) aI ⟨rfl,((((G5.trans g6).grown aB NT ae).grown av NT ae).grown aT NS ae)⟩

def okB(c:aj):Bool:=(decide (97<=c.toNat) && decide (c.toNat<=122)) || (decide (48<=c.toNat) && decide (c.toNat<=57)) || decide (c.toNat=45) || decide (c.toNat=95)
def ef(l:List aj):Bool:=decide (1<=κ l) && decide (κ l<=24) && l.all okB
theorem N8(c:aj):okB c=true↔(97<=c.toNat/\c.toNat<=122)\/(48<=c.toNat/\c.toNat<=57)\/c.toNat=45\/c.toNat=95:=by grind [okB]
theorem jk(l:List aj):ef l=true↔1<=κ l/\(κ l)<=24/\∀c∈l,okB c=true:=by grind [ef]
def QW(l:List aj)(i:Nat)(h:i<(strOf l).size)(h':i<κ l):(strOf l)[i]'h=l[i]:=rfl
theorem R3{l:List aj}(hk:k<κ l)(h:∀c∈l.take k,okB c=true)(hc:okB l[k]=true):∀c∈l.take (k+1),okB c=true:=by rw[en hk];grind
theorem U0{l:List aj}(hk:k<κ l)(hc:okB l[k]=false):ef l=false:=by grind [jk]
theorem Rm(s:ByteArray)(pos:Nat)(h:pos<s.size):1<=(Abu s pos).2:=by
 by_cases ha:(s[pos]'h).toNat<128
 ·rw[decode_ascii s pos h ha];omega
 ·exact(decode_high s pos h ae).2
theorem XM(s:ByteArray)(pos:Nat)(h:pos<s.size):((97<=(Abu s pos).1/\(Abu s pos).1<=122)\/(48<=(Abu s pos).1/\(Abu s pos).1<=57)\/(Abu s pos).1=45\/(Abu s pos).1=95->okB (s[pos]'h)=true/\(Abu s pos).2=1)/\(¬((97<=(Abu s pos).1/\(Abu s pos).1<=122)\/(48<=(Abu s pos).1/\(Abu s pos).1<=57)\/(Abu s pos).1=45\/(Abu s pos).1=95)->okB (s[pos]'h)=false):=by
 by_cases ha:(s[pos]'h).toNat<128
 ·rw[decode_ascii s pos h ha];grind [N8]
 ·have hd:=(decode_high s pos h ae).1;grind [N8]
theorem kE(w:af)(l:List aj):Aae Aag 150 #[.string (strOf l)] w λe w'=>e=.returned (.bool (ef l))/\Up w w':=by
 have aL:(strOf l).size=κ l:=rfl;obtain⟨R,Wd,G⟩:=aW (λi h=>XM (strOf l) i h) (λi h=>Rm (strOf l) i h) (QW l);generalize strOf l=s at *;by_cases hn:1<=κ l/\(κ l)<=24
 case neg=>
  have hb:ef l=false:=by rw[<-wb,jk];omega
  rw[hb];clear hb G R Wd;generalize (κ l)=n at *;by_cases h1:n<1
  ·obtain rfl:n=0:=by omega
   go_in;go_wp2;go_ret;exact⟨rfl,Up.refl _⟩
  ·have h2:decide ((n:Int)<1)=false:=by simp;omega
   have h3:decide ((24:Int)<(n:Int))=true:=ab
   clear h1 hn;go_in;go_wp2;go_ret;exact⟨rfl,Up.refl _⟩
 have h2:decide ((κ l:Int)<1)=false:=ab
 have h3:decide ((24:Int)<(κ l:Int))=false:=ab
 have Hn:=an hn;clear hn;go_in;go_wp2;clear h2 h3;go_loopw [4] (λ_ w'=>∃pos:Nat,pos<=κ l/\w'=w.iter s pos/\∀c∈l.take pos,okB c=true) (λ_ w'=>s.size-w'.iterPos w.heap.size)
 case atStart=>exact⟨0,bE _,rfl,aq⟩
 case round=>
  obtain⟨k,hk,rfl,ad⟩:=hrel;have ag:=an ad;clear ad;by_cases hlt:k<κ l
  ·have hp:k<s.size:=by omega
   have aC:∀ty,(Instr.next (pz w.heap.size) true ty).run Aag (w.iter s k)=_:=λty=>run_next_any w s k ty hp;obtain⟨hg,Rk⟩:=aA (G k hp hlt) (R k hp);rw[hg]at Rk;obtain⟨aT,aD⟩:=aw (λh=>U0 hlt h) (λh=>R3 hlt ag h);have aa:=Wd k hp;generalize Abu s k=dd at *;obtain⟨rn,wd⟩:=dd;simp only at Rk aC aa;have RK:=an Rk;generalize l[k]=c at *;clear Rk;go_wp2;all_goals
    try simp only[Bool.not_eq_false',Bool.not_eq_true',decide_eq_true_eq,decide_eq_false_iff_not,beq_iff_eq,beq_eq_false_iff_ne,Bool.not_eq_eq_eq_not,Bool.not_true,Bool.not_false,ne_eq]at *
    first
     | (go_roundw;(case rel=>(obtain⟨r1,rfl⟩:=RK.1 ae;exact⟨k+1,ae,rfl,aD r1⟩));(case measure=>(simp;omega)))
     | (go_ret;exact⟨by rw[aT.out (RK.out.2 ae)]<;>rfl,ai _ _⟩)
  ·have aC:∀ty,(Instr.next (pz w.heap.size) true ty).run Aag (w.iter s k)=_:=λty=>run_next_end w s k ty ae;obtain rfl:k=κ l:=by omega
   have hb:ef l=true:=by rw[jk];have:=Hn.out;have:=ag.out;grind
   go_wp2;go_ret;exact⟨ab,ai _ _⟩
structure al where
 id:Nat
 name:List aj
 aU:Bool
 owner:Nat
 prev:Nat
 ar:Nat
 blocks:Int
 root:au
 dead:List au
deriving DecidableEq
def al.wf(x:al):Prop:=x.id<18446744073709551616/\x.owner<18446744073709551616/\x.prev<18446744073709551616/\x.ar<18446744073709551616/\(-9223372036854775808<=x.blocks/\x.blocks<=9223372036854775807)/\x.root.wf/\∀p∈x.dead,p.wf
def cf(x:al)(vd:ah):Array ah:=#[.int .u64 (x.id:Int),.string (strOf x.name),.bool x.aU,.int .u64 (x.owner:Int),.int .u64 (x.prev:Int),.int .u64 (x.ar:Int),.int .i64 x.blocks,.int .i64 x.root.loc,.int .u64 (x.root.aT:Int),.int .u32 (x.root.sum:Int),vd]
def QN(x:al)(vd:ah):(cf x vd).size=11:=rfl
theorem mq(x:al)(a:Option Addr)(n c:Nat):(cf x (.slice a n c)).all (·.oneCell')=true:=by simp[cf,Ac8]
theorem ke(x:al)(vd:ah):(prog.info? 90).map (·.size)=some (cf x vd).size:=ay
structure RY(w:af)(g:Nat)(x:al)(vd:ah):Prop where
 c0:w.cell? ⟨g,0,none⟩=some (.int .u64 (x.id:Int))
 c1:w.cell? ⟨g,1,none⟩=some (.string (strOf x.name))
 c2:w.cell? ⟨g,2,none⟩=some (.bool x.aU)
 c3:w.cell? ⟨g,3,none⟩=some (.int .u64 (x.owner:Int))
 c4:w.cell? ⟨g,4,none⟩=some (.int .u64 (x.prev:Int))
 c5:w.cell? ⟨g,5,none⟩=some (.int .u64 (x.ar:Int))
 c6:w.cell? ⟨g,6,none⟩=some (.int .i64 x.blocks)
 c7:w.rangeAt g 7 (be x.root).toList
 zI:w.cell? ⟨g,10,none⟩=some vd
theorem aH.setAt{x:al}{vd:ah}(h:aH w g t (cf x vd)):RY w g x vd:=⟨jH,jH,jH,jH,jH,jH,jH,λj v hj=>by
  rw[h.cell];match j,hj with
  | 0,hj=>exact hj
  | 1,hj=>exact hj
  | 2,hj=>exact hj
  | (n+3),hj=>simp[be]at hj,jH⟩
def cD(x:al):Bool:=decide (1<=x.id) && decide (x.id<=281474976710655) && decide (1<=x.owner) && decide (x.owner<=281474976710655) && decide (x.prev<=281474976710655) && decide (1<=x.blocks) && decide (x.blocks<=64) && ef x.name && cw x.root && decide (κ x.dead<=4000) && hn x.dead && (if x.aU=true then decide (1<=x.ar) && decide (x.ar<=281474976710655)else decide (x.ar=0) && decide (x.owner=x.id))
theorem bH(x:al):cD x=true↔(1<=x.id/\x.id<=281474976710655)/\(1<=x.owner/\x.owner<=281474976710655)/\x.prev<=281474976710655/\(1<=x.blocks/\x.blocks<=64)/\ef x.name=true/\cw x.root=true/\(κ x.dead)<=4000/\hn x.dead=true/\(if x.aU=true then 1<=x.ar/\x.ar<=281474976710655 else x.ar=0/\x.owner=x.id):=by grind [cD]
def RY.Gn{id:Nat}{name:List aj}{aU:Bool}{owner prev ar:Nat}{blocks:Int}{root:au}{dead:List au}{vd:ah}(h:RY w g ⟨id,name,aU,owner,prev,ar,blocks,root,dead⟩ vd):w.cell? (ad g 0)=some (u6 (id:Int))/\w.cell? (ad g 1)=some (.string (strOf name))/\w.cell? (ad g 2)=some (.bool aU)/\w.cell? (ad g 3)=some (u6 (owner:Int))/\w.cell? (ad g 4)=some (u6 (prev:Int))/\w.cell? (ad g 5)=some (u6 (ar:Int))/\w.cell? (ad g 6)=some (i6 blocks)/\Hid (w.rangeAt g 7 (be root).toList)/\w.cell? (ad g 10)=some vd:=⟨h.c0,h.c1,h.c2,h.c3,h.c4,h.c5,h.c6,an h.c7,h.zI⟩
theorem BW(w:af)(x:al)(vd:ah)(hd:cX w vd x.dead):Aae Aag 182 #[.agg (cf x vd)] w λe w'=>j7 (cD x) w e w':=by
 have aN:=hd.length_le;obtain⟨da,dc,rfl⟩:=hd.slice;obtain⟨B1,U1,NR,PR,LR,IFF⟩:=im (aH.new w 90 (cf x (.slice da (κ x.dead) dc))) (ai w (.cells (cf x (.slice da (κ x.dead) dc)) 90)) (λW=>kE W x.name) (λW=>n2 W x.root) (λW U=>sx W (.slice da (κ x.dead) dc) x.dead (aI.up hd U)) (bH x);obtain⟨id,name,aU,owner,prev,ar,blocks,root,dead⟩:=x;dsimp only at NR PR LR IFF aN;obtain⟨c0,c1,c2,c3,c4,c5,c6,R7,zI⟩:=B1.setAt.Gn;by_cases h0:id<1
 ·have b0:((id:Int)<1)=True:=by simp;omega
  have HF:=an (show cD ⟨id,name,aU,owner,prev,ar,blocks,root,dead⟩=false by refine dV ?_;intro hh;exact absurd hh.1.1 ae)
  exact oJ
 have b0:((id:Int)<1)=False:=ab
 by_cases h1:281474976710655<id
 ·have b1:((281474976710655:Int)<(id:Int))=True:=by simp;omega
  have HF:=an (show cD ⟨id,name,aU,owner,prev,ar,blocks,root,dead⟩=false by refine dV ?_;intro hh;exact absurd hh.1.2 ae)
  exact oJ
 have b1:((281474976710655:Int)<(id:Int))=False:=ab
 by_cases h2:owner<1
 ·have b2:((owner:Int)<1)=True:=by simp;omega
  have HF:=an (show cD ⟨id,name,aU,owner,prev,ar,blocks,root,dead⟩=false by refine dV ?_;intro hh;exact absurd hh.2.1.1 ae)
  exact oJ
 have b2:((owner:Int)<1)=False:=ab
 by_cases h3:281474976710655<owner
 ·have b3:((281474976710655:Int)<(owner:Int))=True:=by simp;omega
  have HF:=an (show cD ⟨id,name,aU,owner,prev,ar,blocks,root,dead⟩=false by refine dV ?_;intro hh;exact absurd hh.2.1.2 ae)
  exact oJ
 have b3:((281474976710655:Int)<(owner:Int))=False:=ab
 by_cases h4:281474976710655<prev
 ·have b4:((281474976710655:Int)<(prev:Int))=True:=by simp;omega
  have HF:=an (show cD ⟨id,name,aU,owner,prev,ar,blocks,root,dead⟩=false by refine dV ?_;intro hh;exact absurd hh.2.2.1 ae)
  exact oJ
 have b4:((281474976710655:Int)<(prev:Int))=False:=ab
 by_cases h5:blocks<1
 ·have b5:(blocks<1)=True:=by simp;omega
  have HF:=an (show cD ⟨id,name,aU,owner,prev,ar,blocks,root,dead⟩=false by refine dV ?_;intro hh;exact absurd hh.2.2.2.1.1 ae)
  exact oJ
 have b5:(blocks<1)=False:=ab
 by_cases h6:64<blocks
 ·have b6:(64<blocks)=True:=by simp;omega
  have HF:=an (show cD ⟨id,name,aU,owner,prev,ar,blocks,root,dead⟩=false by refine dV ?_;intro hh;exact absurd hh.2.2.2.1.2 ae)
  exact oJ
 have b6:(64<blocks)=False:=ab
 go_in;go_wp2_with fail;refine(NR _).mono ?_;rintro e w2⟨rfl,U2⟩;obtain⟨B2,U3⟩:=aw (B1.up U2) (U1.trans U2);clear c0 c1 c2 c3 c4 c5 c6 zI;obtain⟨c0,c1,c2,c3,c4,c5,c6,R7,zI⟩:=B2.setAt.Gn;clear NR;cases hnm:ef name
 ·have HF:=an (show cD ⟨id,name,aU,owner,prev,ar,blocks,root,dead⟩=false by refine dV ?_;intro hh;rw[hnm]at hh;exact absurd hh.2.2.2.2.1 aq)
  go_wp2;go_ret;exact⟨AZ,U3⟩
 have ag:=an hnm;clear hnm;go_wp2_with(refine arm ?_);refine(PR _).mono ?_;rintro e w4⟨rfl,U4⟩;obtain⟨B4,U5⟩:=aw (B2.up U4) (U3.trans U4);clear c0 c1 c2 c3 c4 c5 c6 zI;obtain⟨c0,c1,c2,c3,c4,c5,c6,R7,zI⟩:=B4.setAt.Gn;clear PR;cases hgd:cw root
 ·have HF:=an (show cD ⟨id,name,aU,owner,prev,ar,blocks,root,dead⟩=false by refine dV ?_;intro hh;rw[hgd]at hh;exact absurd hh.2.2.2.2.2.1 aq)
  go_wp2;go_ret;exact⟨AZ,U5⟩
 have aa:=an hgd;clear hgd;by_cases aK:4000<κ dead
 ·have bd:((4000:Int)<(κ dead:Int))=True:=by simp;omega
  have HF:=an (show cD ⟨id,name,aU,owner,prev,ar,blocks,root,dead⟩=false by refine dV ?_;intro hh;exact absurd hh.2.2.2.2.2.2.1 ae)
  go_wp2;go_ret;exact⟨AZ,U5⟩
 have bd:((4000:Int)<(κ dead:Int))=False:=ab
 go_wp2_with fail;refine(LR _ U5).mono ?_;rintro e w6⟨rfl,U6⟩;have U7:=an (U5.trans U6);clear c0 c1 c2 c3 c4 c5 c6 zI;obtain⟨c0,c1,c2,c3,c4,c5,c6,R7,zI⟩:=(B4.up U6).setAt.Gn;clear LR;cases ad:hn dead
 ·have HF:=an (show cD ⟨id,name,aU,owner,prev,ar,blocks,root,dead⟩=false by refine dV ?_;intro hh;rw[ad]at hh;exact absurd hh.2.2.2.2.2.2.2.1 aq)
  go_wp2;go_ret;exact⟨AZ,U7⟩
 have aj:=an ad;clear ad;have TT:=an (show(if aU=true then 1<=ar/\ar<=281474976710655 else ar=0/\owner=id)->cD ⟨id,name,aU,owner,prev,ar,blocks,root,dead⟩=true from λht=>IFF.2 ⟨ae,ae,ae,ae,ag,aa,ae,aj,ht⟩);have FF:=an (show ¬(if aU=true then 1<=ar/\ar<=281474976710655 else ar=0/\owner=id)->cD ⟨id,name,aU,owner,prev,ar,blocks,root,dead⟩=false from λht=>by rw[<-wb,IFF.out];exact λhh=>ht hh.2.2.2.2.2.2.2.2)
 cases aU
 ·by_cases hz:ar=0
  ·by_cases ak:owner=id
   ·have q1:((ar:Int)==0)=true:=by simp;omega
    have q2:((owner:Int)==(id:Int))=true:=ab
    exact Mz
   ·have q1:((ar:Int)==0)=true:=by simp;omega
    have q2:((owner:Int)==(id:Int))=false:=ab
    exact yW
  ·have q1:((ar:Int)==0)=false:=by simp;omega
   exact yW
 ·by_cases h1:ar<1
  ·have q1:((1:Int)<=(ar:Int))=False:=by simp;omega
   exact yW
  ·have q1:((1:Int)<=(ar:Int))=True:=by simp;omega
   by_cases h2:281474976710655<ar
   ·have q2:((ar:Int)<=281474976710655)=False:=by simp;omega
    exact yW
   ·have q2:((ar:Int)<=281474976710655)=True:=by simp;omega
    exact Mz
theorem mB(w:af)(o:Obj):(w.alloc o).heap.size=w.heap.size+1:=aq
theorem BZ(a b:List aj):((strOf a).toList==(strOf b).toList)=decide (a=b):=by rw[Adl,Adl,mA,mA,AP];simp
theorem Ix{fn:Func}{p:Tmp}(h:fn.results=#[.cell p ty])(tmps:Array ah)(P:bx)(w:af)(g:Nat)(t:Aab)(C:Array ah)(hp:tmps.getD p Aar=pz g)(hb:aH w g t C)(d:eJ)(hd:P.underlying ty=some d)(hr:d.isRow=true)(hi:(P.info? ty).map (·.size)=some C.size):(results fn tmps).run P w=.ok (.agg C) w:=by
 simp only[results,h];have:=ij (P:=P) (w:=w) ty g t C hb d hd hr hi;have aJ:tmps[p]?.getD Aar=pz g:=aa
 simp[Aaw,Aap,hp,aJ,asAddr,this]
theorem ew{f:α->List ah}{xs:List α}(hne:t≠e)(hb:aH w g t C)(ho:ak f k e w base vp xs):vp.ownBlock≠some g:=λe0=>by exact My
def tn:al:=⟨0,[],false,0,0,0,0,hole,[]⟩
def b6:Array ah:=cf tn (.slice none 0 0)
theorem mJ:∀W:af,(Ab9 90).run Aag W=.ok (.agg b6) W:=(lq (P:=Aag) (t:=90) (v:=.agg b6) (n:=11) ay).1
def Vp(x:al)(v v':ah):(cf x v).setIfInBounds 10 v'=cf x v':=rfl
theorem kI(w:af)(x:al)(vd:ah)(hd:cX w vd x.dead)(hr:κ x.dead*24<=140737488355328):Aae Aag 143 #[.agg (cf x vd)] w λe w'=>∃v',e=.returned (.agg (cf x v'))/\bf w' w.heap.size v' x.dead/\Up w w':=by
 have aN:=hd.length_le;obtain⟨da,dc,rfl⟩:=hd.slice;obtain⟨upa,aa,sza⟩:=db (ai w (.cells (cf x (.slice da (κ x.dead) dc)) 90)) (ai (w.alloc (.cells (cf x (.slice da (κ x.dead) dc)) 90)) (.cells b6 90)) (mB w (.cells (cf x (.slice da (κ x.dead) dc)) 90));have B1:=an ((aH.new w 90 (cf x (.slice da (κ x.dead) dc))).up aa);have b2:=aH.new (w.alloc (.cells (cf x (.slice da (κ x.dead) dc)) 90)) 90 b6;rw[sza]at b2;have U1:=an (upa.trans aa);have zI:=B1.setAt.zI;clear sza;go_in;go_wp2_with(first
  | refine arm ?_
  | (at_builtin;refine bI pw rfl (.const (nl)) (.tmp 4) 88 rfl w.heap.size 87 _ 24 Aaq cy rfl (nl) [] rfl (ak.nil dG 3 87 ((w.alloc (.cells (cf x (.slice da (κ x.dead) dc)) 90)).alloc (.cells b6 90)) w.heap.size) (.slice da (κ x.dead) dc) x.dead rfl (aI.up hd U1) ab ab U1.size ?_))
 intro v' w3 hown hg hb;obtain⟨na,nc,rfl⟩:=(ak.row hown pw).slice;have b3:=B1.grown hg wq;obtain⟨d3,az,f10⟩:=db (b2.grown hg wq) (U1.aE hb (aG _)) (b3.free 10);have ad:=b3.setAt.zI;obtain⟨G,b4⟩:=aA (b0 b3 10 (.slice na (κ x.dead) nc)) (b3.setCell 10 (.slice na (κ x.dead) nc));rw[Vp]at b4;obtain⟨D4,O4,HN⟩:=aW (d3.grown G (λe=>aQ)) (hown.kept G (.inr (ew ax b3 hown))) (ke x (.slice na (κ x.dead) nc));clear zI;go_wp2_with(first
  | refine arm ?_
  | ((with_reducible refine cu 90 (.tmp 2) (.tmp 7) ?_);refine EK rfl 90 (.tmp 2) (.tmp 7) rfl (w.heap.size+1) (cf x (.slice na (κ x.dead) nc)) rfl rfl 90 _ D4 HN rfl (mq x na (κ x.dead) nc) ?_))
 obtain⟨G5,D5⟩:=aA (cQ (w3.setCell ⟨w.heap.size,10,none⟩ (.slice na (κ x.dead) nc)) (w.heap.size+1) (cf x (.slice na (κ x.dead) nc))) (D4.set (cf x (.slice na (κ x.dead) nc)));have O5:=O4.kept G5 (.inr (ew ax D4 O4));have U5:=(az.grown G (λk hk=>aQ)).grown G5 (λk hk=>aQ);exact kk (v:=.agg (cf x (.slice na (κ x.dead) nc))) (Ix rfl _ _ _ (w.heap.size+1) 90 _ rfl D5 _ underlying90 rfl HN) rfl ⟨_,rfl,O5,U5⟩
def vM(l:List au):Option (List aj):=if (κ l)<=4000/\hn l=true then some (cT l)else none
def BD:Option (List au)->Option (List au)
 | some l=>if hn l=true then some l else none
 | none=>none
def Oh(b:List aj):Option (List au):=if (κ b)%16=0/\(κ b)<=64000 then BD (eU b (κ b/16))else none
theorem BE(h:hn l=true):∀x∈l,cw x=true:=λx hx=>by obtain⟨i,hi,rfl⟩:=ls hx;have:=(ja l).1 h i hi;unfold sV nD at this;simp at this;exact this.1.2
theorem Iv(l:List au)(hw:∀x∈l,x.wf)(hl:κ l<=4000)(hr:hn l=true):Oh (cT l)=some l:=by unfold Oh;rw[dZ,bo ⟨ae,ae⟩,show 16*κ l/16=κ l from ae,oW l hw (BE hr) _ (aG _),fx];simp[BD,hr]
def OD(o:Option (List aj))(w:af)(e:Ab1)(w':af):Prop:=(o=none/\e=.returned (.tuple #[.slice none 0 0,.int .i64 131])/\Up w w')\/∃m u,o=some m/\e=.returned (.tuple #[u,.int .i64 0])/\Own aF 5 w' w.heap.size u m/\Up w w'
theorem Z'(n:Nat)(h:n<=4000):IntKind.i64.wrap ((n:Int)*16)=((n*16:Nat):Int):=by rw[show(n:Int)*16=((n*16:Nat):Int)from ae];exact aY _ ae
theorem J9(w:af)(v:ah)(l:List au)(hv:cX w v l)(aT:∀x∈l,x.wf):Aae Aag 273 #[v] w λe w'=>OD (vM l) w e w':=by
 have R:=an (λW (up:Up w W)=>sx W v l (aI.up hv up));have hlen:=hv.length_le;by_cases h4:κ l<=4000
 case neg=>
  have HN:=an (show vM l=none from aM (λh=>h4 h.1));obtain⟨a,cap,rfl⟩:=hv.slice;have t1:decide ((4000:Int)<(κ l:Int))=true:=ab
  have t2:decide (4000<κ l)=true:=ab
  clear h4;go_in;go_wp2;go_ret2;exact .inl ⟨HN,rfl,Up.refl _⟩
 have t1:decide ((4000:Int)<(κ l:Int))=false:=ab
 have t2:decide (4000<κ l)=false:=ab
 cases hR:hn l
 case false=>have HN:=an (show vM l=none from aM (λh=>aQ));rw[hR]at R;clear hR;obtain⟨a,cap,rfl⟩:=hv.slice;go_in;go_wp2_with fail;refine(R _ (Up.refl _)).mono ?_;rintro e w1⟨rfl,up1⟩;go_wp2;go_ret2;exact .inl ⟨HN,rfl,up1⟩
 obtain⟨HN,HW⟩:=aw (show vM l=some (cT l)from bo ⟨h4,hR⟩) aT;rw[hR]at R;clear aT;obtain⟨T,hT⟩:=bK (κ l*16);have MK:∀W:af,(Ach 30 (i6 0) (i6 (T:Int))).run Aag W=_:=λW=>kH (P:=Aag) 30 5 (.int .u8 0) 1 Aa0 eu T ae ae W;have RM:=an (λW (B:Nat) (hB:B<=W.heap.size)=>Own.room aF 5 W (.int .u8 0) B T hB ae);have wt:IntKind.i64.wrap ((κ l:Int)*16)=(T:Int):=by rw[hT];exact Z' _ h4
 generalize j2 (.int .u8 0) T=zr at *;have HT:=an hT;clear hT;have HV:=an hv;obtain⟨a,cap,rfl⟩:=hv.slice;go_in;go_wp2_with fail;refine(R _ (Up.refl _)).mono ?_;rintro e w1⟨rfl,up1⟩;go_wp2;obtain⟨aH,aP⟩:=aA (RM w1 w.heap.size up1.size) (up1.trans (ai w1 (.cells zr 5)));go_loopw [4,23] (λu i wr=>∃k:Nat,k<=κ l/\i=i6 k/\Own aF 5 wr w.heap.size u (cT (l.take k))/\Up w wr) (λ_ i _=>κ l-(Aat i).toNat)
 case atStart=>exact⟨0,bE _,rfl,aH,aP⟩
 case round=>
  obtain⟨k,hk,rfl,hown,upr⟩:=hrel;clear MK wt;have HO:=an hown;by_cases hlt:k<κ l
  ·obtain⟨b,off,rfl,_,_,hc⟩:=ru (aI.up HV upr) ae;obtain⟨aJ,al,aj⟩:=db ((hc k hlt).1) ((hc k hlt).2.1) ((hc k hlt).2.2);refine iP ?_;intro b2;have ag:=cJ hlt;obtain⟨B,SN,LE⟩:=aW (λW=>nS W l[k] (HW _ ag)) (w2 l k hlt) (show(cT (l.take k)).length<=64000 by rw[dZ,ev];omega);clear hc;generalize l[k]=p at *;obtain⟨pl,pb,ps⟩:=p;unfold fA at B;simp only at aJ al aj B;have upa:=ai wr (.cells #[i6 pl,.int .u64 (pb:Int),.int .u32 (ps:Int)] 87);go_wp2_with fail;refine(B _).mono ?_;rintro e w3 h3;obtain⟨u3,rfl,ao,az⟩:∃u3,e=rt #[u3,i6 0]/\Own aF 5 w3 (wr.alloc (.cells #[i6 pl,.int .u64 (pb:Int),.int .u32 (ps:Int)] 87)).heap.size u3 (bQ ⟨pl,pb,ps⟩)/\Up (wr.alloc (.cells #[i6 pl,.int .u64 (pb:Int),.int .u32 (ps:Int)] 87)) w3:=by
    rcases h3 with⟨_,u,rfl,h,h'⟩|⟨h,_⟩
    ·exact⟨u,rfl,h,h'⟩
    ·rw[((BE hR) _ ag)]at h;cases h
   have ad:=upa.trans az;obtain⟨o3,s3,ak⟩:=db (HO.up ad) ((upr.trans ad).size) (jR ⟨pl,pb,ps⟩);have PL:=an ak;have a7:=ao.cC;clear ak;generalize bQ ⟨pl,pb,ps⟩=aq at *;generalize cT (l.take k)=acc at *;go_wp2_with(at_builtin;refine bc aF cp rfl (.tmp 34) (.tmp 35) 30 rfl w.heap.size 5 (.int .u8 0) 1 Aa0 eu rfl _ acc rfl o3 u3 aq rfl a7 dL dL s3 ?_);intro v' w5 aa _ ax;go_wp2;go_roundw
   case rel=>exact⟨k+1,ae,fJ,by rw[SN.out];exact aa,(upr.trans ad).aE ax (aG _)⟩
   case measure=>simp[Aat];omega
  ·obtain rfl:k=κ l:=by omega
   go_wp2;go_ret2;exact .inr ⟨cT l,_,HN,rfl,by have:=HO.out;rw[(fx (l:=l))]at this;exact this,upr⟩

structure Wl where
 a:Option Addr
 n:Nat
 c:Nat
def fZ(s:Wl):ah:=.slice s.a s.n s.c
def BP(s:Wl):(fZ s).oneCell'=true:=rfl
def D3(w:af)(v:ah)(ts:List (List aj)):Prop:=∃vs:List Wl,κ vs=κ ts/\aD fZ w v vs/\∀i(h1:i<κ vs)(h2:i<κ ts),a8 w (fZ vs[i]) ts[i]
def tX(t:List aj):List aj:=aZ (κ t) 2++t
def c8(ts:List (List aj)):List aj:=ts.flatMap tX
def ey(ts:List (List aj)):List aj:=aZ (κ ts) 2++c8 ts
def k9(ts:List (List aj)):Prop:=∀t∈ts,κ t<=65535
def sW(ts:List (List aj)):Prop:=κ ts<=65535/\k9 ts
instance(ts:List (List aj)):Decidable (k9 ts):=by unfold k9;infer_instance
instance(ts:List (List aj)):Decidable (sW ts):=by unfold sW;infer_instance
theorem l8(ts:List (List aj))(k:Nat)(h:k<κ ts):c8 (ts.take (k+1))=c8 (ts.take k)++(aZ ts[k].length 2++ts[k]):=by grind [hg,c8,tX]
theorem l7{ts:List (List aj)}(h:k9 ts):κ (c8 ts)<=65537*κ ts:=by
 induction ts with
 | nil=>decide
 | cons t ts ih=>have:=ih (λx hx=>h x (bt _ hx));have:=h t (cV ..);grind [c8,tX,bA]
theorem s8{ts:List (List aj)}(h:k<κ ts)(h1:k9 (ts.take k))(h2:ts[k].length<=65535):k9 (ts.take (k+1)):=by
 intro x hx;rw[hg ts k h]at hx;rcases eT.1 hx with hx|hx
 ·exact h1 x hx
 ·simp_all
def DU(n:Nat):aZ n 2=[Ab8 (n%256),Ab8 (n/256%256)]:=rfl
theorem OA(n:Nat):IntKind.u8.wrap (n:Int)=((Ab8 (n%256)).toNat:Int):=by rw[GO,ET];omega
theorem Oz(n:Nat):IntKind.u8.wrap ((n:Int)/256)=((Ab8 (n/256%256)).toNat:Int):=by rw[GO,ET];omega
theorem AE(w:af)(v:ah)(ts:List (List aj))(hv:D3 w v ts)(ak:sW ts):Aae Aag 242 #[v] w λe w'=>∃v,e=.returned (.tuple #[v,.int .i64 0])/\Own aF 5 w' w.heap.size v (ey ts)/\Up w w':=by
 obtain⟨vs,aP,aK,aM⟩:=hv;have aR:=aK.length_le;obtain⟨a,cap,rfl⟩:=aK.slice;obtain⟨len,hl⟩:=bK (κ vs);rw[<-hl]at aK aR ⊢;have aB:len=κ ts:=hl.trans aP;obtain⟨Hl,Hl2⟩:=aw hl aB;clear hl aP;have aU:¬65535<len:=by have:=ak.1;omega
 have aS:=an ak;clear ak;clear aB;go_in;go_wp2;go_loop [4,15] (λs i=>∃k:Nat,k<=len/\i=i6 k/\k9 (ts.take k)/\s=i6 ((2+κ (c8 (ts.take k)):Nat):Int)) (λ_ i=>len-(Aat i).toNat)
 case atStart=>exact⟨0,bE _,rfl,by intro x hx;simp at hx,rfl⟩
 case round=>
  obtain⟨k,hk,rfl,aW,rfl⟩:=hrel;have aC:=l7 aW;have aL:κ (ts.take k)<=k:=yv _ _;have a6:=an aW;by_cases hlt:k<len
  ·have k1:k<κ vs:=by have:=Hl.out;omega
   have k2:k<κ ts:=FE
   obtain⟨b,off,rfl,_,hc⟩:=cg aK Hl ae;obtain⟨aQ,d1⟩:=aA (aM k k1 k2) (hc k k1);obtain⟨a3,c3,al⟩:=aQ.slice;rw[al]at d1;obtain⟨bd,ad⟩:=aA aQ.length_le (l8 ts k k2);have ag:ts[k]∈ts:=cJ k2;have aH:=λh=>s8 k2 a6 h;clear hc al;generalize ts[k]=t at *;obtain⟨aO,aI⟩:=aw ag aH;have ay:κ (c8 (ts.take (k+1)))=κ (c8 (ts.take k))+(2+κ t):=by rw[ad];simp[bA]
   have aT:=an ay;clear ag aH ad ay;generalize(c8 (ts.take k)).length=jl at *;have ht:¬65535<κ t:=by have:=aS.2 t aO;omega
   go_wp2;go_round
   case rel=>exact⟨k+1,ae,fJ,aI ae,by rw[aT.out];congr 1;omega⟩
   case measure=>simp[Aat];omega
  ·obtain rfl:k=len:=by omega
   have e1:ts.take k=ts:=dh FE;have aW:=a6.out;rw[e1]at aW aC ⊢;clear e1;rw[<-Hl2.out]at aC;clear aL;have bb:2+κ (c8 ts)<=5000000000:=ae
   generalize hJ:2+κ (c8 ts)=J at *;have HJ:=an hJ;obtain⟨mk,w1,w2,a7⟩:=iJ (kH (P:=Aag) 30 5 (.int .u8 0) 1 Aa0 eu J ae ae) (OA k) (Oz k) (DU k);clear hJ aC;generalize Ab8 (k%256)=ca at *;generalize Ab8 (k/256%256)=cb at *;have a':=an a7;clear a7;go_wp2_with(at_builtin;refine bc aF cp rfl (.tmp 30) (.tmp 38) 30 rfl w.heap.size 5 (.int .u8 0) 1 Aa0 eu rfl _ [] rfl ((Own.room aF 5 w (.int .u8 0) w.heap.size J (aG _) ae).up (ai _ _)) (cv (w.heap.size+1) 2 2) [ca,cb] rfl (aD.er (w.alloc _) (w.heap.size+1) aq #[.int .u8 (ca.toNat:Int),.int .u8 (cb.toNat:Int)] 5 (0,0) [ca,cb] 2 rfl dE rfl) aq aq ((((Up.refl w).alloc _).alloc _).size) ?_);intro v' w3 aJ _ ar;have az:Up w w3:=(((Up.refl w).alloc _).alloc _).aE ar (aG _);go_wp2;have hh:[ca,cb]=aZ k 2++c8 (ts.take 0):=by rw[a'.out];simp[c8]
   have Hh:=an hh;clear hh;go_loopw [7,42] (λx i wr=>∃j:Nat,j<=k/\i=i6 j/\Own aF 5 wr w.heap.size x (aZ k 2++c8 (ts.take j))/\Up w wr) (λ_ i _=>k-(Aat i).toNat)
   case atStart=>exact⟨0,bE _,rfl,by rw[<-Hh.out];exact aJ,az⟩
   case round=>
    obtain⟨j,hj,rfl,hown,upr⟩:=hrel;by_cases hlt:j<k
    ·have k1:j<κ vs:=by have:=Hl.out;omega
     have k2:j<κ ts:=FE
     obtain⟨b,off,rfl,_,hc⟩:=cg aK Hl ae;obtain⟨aQ,d1⟩:=aA (aM j k1 k2) (upr.cell (hc j k1));obtain⟨a3,c3,al⟩:=aQ.slice;rw[al]at d1 aQ;obtain⟨ad,aL,aC⟩:=db (l8 ts j k2) (aS.2 _ (cJ k2)) (l7 (ts:=ts.take j) (λx hx=>aS.2 x (sA hx)));have aY:κ (ts.take j)<=j:=yv _ _;have hlen:κ (aZ k 2++c8 (ts.take j))<=5000000000:=by rw[Aaf,bA];omega
     clear hc al aY aC;generalize ts[j]=t at *;have ao:aZ k 2++c8 (ts.take (j+1))=((aZ k 2++c8 (ts.take j))++aZ (κ t) 2)++t:=by rw[ad];simp
     generalize aZ k 2++c8 (ts.take j)=pb at *;obtain⟨x1,x2,aX⟩:=db (OA (κ t)) (Oz (κ t)) (DU (κ t));generalize Ab8 (κ t%256)=cc at *;generalize Ab8 (κ t/256%256)=cd at *;rw[aX]at ao;have aN:=an ao;have ba:=aQ.up upr;clear ad ao aX;go_wp2_with(at_builtin;refine bc aF cp rfl (.tmp 46) (.tmp 54) 30 rfl w.heap.size 5 (.int .u8 0) 1 Aa0 eu rfl _ _ rfl (hown.up (ai wr _)) (cv wr.heap.size 2 2) [cc,cd] rfl (aD.lit wr #[.int .u8 (cc.toNat:Int),.int .u8 (cd.toNat:Int)] 5 (0,0) [cc,cd] 2 rfl dE rfl) ab ab ((upr.alloc _).size) ?_);intro v4 w4 av _ au;have up4:=(upr.alloc _).aE au (aG _);have a1:=aQ.up up4;have a8:κ (pb++[cc,cd])<=5000000002:=ab
     generalize aV:pb++[cc,cd]=pc at *;clear aV;go_wp2_with(at_builtin;refine bc aF cp rfl (.tmp 56) (.tmp 57) 30 rfl w.heap.size 5 (.int .u8 0) 1 Aa0 eu rfl _ _ rfl av (.slice a3 (κ t) c3) t rfl a1 ae ae up4.size ?_);intro v5 w5 aa _ ax;go_wp2;go_roundw
     case rel=>exact⟨j+1,ae,fJ,by rw[aN.out];exact aa,up4.aE ax (aG _)⟩
     case measure=>simp[Aat];omega
    ·obtain rfl:j=k:=by omega
     have e1:ts.take j=ts:=dh FE;rw[e1]at hown;have bg:aZ j 2++c8 ts=ey ts:=by unfold ey;rw[<-Hl2.out]
     rw[bg]at hown;clear e1 bg;go_wp2;exact y6
def qw:Nat->List aj->Option (List (List aj))
 | 0,b=>if b=[] then some [] else none
 | k+1,b=>if (κ b)<2 then none else if (κ b)-2<bn (b.take 2)then none else
  (qw k ((b.drop 2).drop (bn (b.take 2)))).map (((b.drop 2).take (bn (b.take 2)))::·)
def mz(b:List aj):Option (List (List aj)):=if (κ b)<2 then none else qw (bn (b.take 2)) (b.drop 2)
theorem J1(a b:Nat)(ha:a<9223372036854775808)(hb:b<9223372036854775808):bits .or .i64 (a:Int) (b:Int)=((a ||| b:Nat):Int):=by
 have hx:a ||| b<2 ^ 63:=Nat.or_lt_two_pow ae ae
 show IntKind.i64.wrap ((BitVec.ofInt 64 (a:Int) ||| BitVec.ofInt 64 (b:Int)).toNat:Int)=_;rw[BitVec.toNat_or,ofInt_u64 a ae,ofInt_u64 b ae];exact IntWalk.i64_in _ ae
theorem KK(b:List aj)(h:2<=κ b):bn (b.take 2)=b[0].toNat+256*b[1].toNat:=by rw[hg b 1 ae,hg b 0 ae];rfl
theorem rY(b:List aj):bn (b.take 2)<65536:=by have h:=nZ (b.take 2);have:(256:Nat) ^ (κ (b.take 2))<=256 ^ 2:=ES ae ab;omega
theorem AJ(w:af)(v:ah)(b:List aj)(hv:a8 w v b)(h2:2<=κ b):Aae Aag 238 #[v] w λe w'=>∃a c,e=.returned (.tuple #[.int .i64 (bn (b.take 2):Nat),.slice a (κ b-2) c,.bool true])/\(∀w0,a8 w0 v b->a8 w0 (.slice a (κ b-2) c) (b.drop 2))/\∃n,w'=w.drewN n:=by
 have hl:=hv.length_le;obtain⟨a,c,rfl⟩:=hv.slice;obtain⟨bb,off,rfl,_,hc⟩:=cg hv rfl ae;have d0:=hc 0 ae;have d1:=hc 1 ae;unfold aF at d0 d1;have aO:=KK b ae;have x0:b[0].toNat<256:=b[0].toNat_lt;have x1:b[1].toNat<256:=b[1].toNat_lt;have aS:b[0].toNat ||| b[1].toNat*256=b[0].toNat+256*b[1].toNat:=Ig b[0].toNat b[1].toNat 1 ae
 have aV:∀w0,a8 w0 (sq bb off (κ b) c) b->a8 w0 (b8 (some ⟨bb,off,none⟩) 2 (κ b) c) (b.drop 2):=λw0 h0=>by have h:=h0.piece (lo:=2) (hi:=κ b) ae (aG _);grind
 have aa:=an aV;clear aV;have ag:=di (P:=Aag) 30 dr du (some ⟨bb,off,none⟩) (κ b) c 2 ae;have ar:∃a' c',b8 (some ⟨bb,off,none⟩) 2 (κ b) c=.slice a' (κ b-2) c':=⟨_,_,rfl⟩;obtain⟨a',c',ar⟩:=ar;have ab:∀W,(Aav 30 (sq bb off (κ b) c) (some (i6 2)) none none).run Aag W=.ok (.slice a' (κ b-2) c') W:=aQ
 rw[ar]at aa;clear hc ag ar;simp only[Nat.add_zero]at d0;generalize b[0].toNat=y0 at *;generalize b[1].toNat=y1 at *;have e1:bits .or .i64 (y0:Int) ((y1:Int)*256)=((bn (b.take 2):Nat):Int):=by have:=J1 y0 (y1*256) ae ae;grind
 generalize hN:bn (b.take 2)=N at *;have HN:=an hN;have i0:(0:Int)<(κ b:Int):=ae
 have i1:(1:Int)<(κ b:Int):=ae
 clear hN aS aO;go_in;go_wp2;go_quiet (fail);go_wp2;go_ret3;exact⟨a',c',rfl,aa,nq,rfl⟩
theorem ss:(prog.info? 30).map (λi=>(i.zero,i.size,i.bytes))=some (some (nl),1,24):=av
def eG(w:af)(base:Nat)(v:ah)(ts:List (List aj)):Prop:=∃vs:List Wl,κ vs=κ ts/\Own fZ 30 w base v vs/\∀i(h1:i<κ vs)(h2:i<κ ts),Own aF 5 w base (fZ vs[i]) ts[i]
theorem eG.texts{v:ah}{ts:List (List aj)}(h:eG w base v ts):D3 w v ts:=by obtain⟨vs,h1,h2,h3⟩:=h;exact⟨vs,h1,h2.cC,λi a b=>(h3 i a b).cC⟩
theorem eG.up{w w':af}{v:ah}{ts:List (List aj)}(h:eG w base v ts)(hu:Up w w'):eG w' base v ts:=by obtain⟨vs,h1,h2,h3⟩:=h;exact⟨vs,h1,h2.up hu,λi a b=>(h3 i a b).up hu⟩
theorem eG.nil(w:af)(base:Nat):eG w base (nl) []:=⟨[],rfl,Own.nil _ _ _ _,λi h=>absurd h (ER i)⟩
theorem eG.snoc{w w':af}{v v':ah}{x:Wl}{ts:List (List aj)}{vs:List Wl}{t:List aj}(h1:κ vs=κ ts)(h2:Own fZ 30 w base v vs)(h3:∀i(a:i<κ vs)(b:i<κ ts),Own aF 5 w base (fZ vs[i]) ts[i])(hx:Own aF 5 w base (fZ x) t)(hv:Own fZ 30 w' base v' (vs++[x]))(hg:w.grownBy w' v.ownBlock):eG w' base v' (ts++[t]):=by
 refine⟨vs++[x],ab,hv,λi a b=>?_⟩;by_cases hi:i<κ vs
 ·rw[yz hi,yz ae];exact(h3 i hi ae).AH h2 ax hg
 ·have e1:i=κ vs:=by grind
  subst e1;rw[Adw ae,Adw ae];simp only[Nat.sub_self,h1,Abx];exact hx.AH h2 ax hg
def Rest(b:List aj)(m:Nat)(r:List aj)(acc:List (List aj)):Prop:=mz b=(qw m r).map (acc++·)
theorem Rest.short(h:Rest b (m+1) r acc)(hr:κ r<2):mz b=none:=yS
theorem Rest.abj(h:Rest b (m+1) r acc)(h2:2<=κ r)(hr:κ r-2<bn (r.take 2)):mz b=none:=yS
theorem Rest.next(h:Rest b (m+1) r acc)(h2:2<=κ r)(hr:¬κ r-2<bn (r.take 2)):Rest b m ((r.drop 2).drop (bn (r.take 2))) (acc++[(r.drop 2).take (bn (r.take 2))]):=by unfold Rest at *;rw[h,qw,aM ae,aM hr,Option.map_map];congr 1;grind
theorem Rest.done(h:Rest b 0 r acc)(hr:r=[]):mz b=some acc:=yS
theorem Rest.more(h:Rest b 0 r acc)(hr:r≠[]):mz b=none:=yS
theorem Rest.start(h:2<=κ b):Rest b (bn (b.take 2)) (b.drop 2) []:=by unfold Rest mz;simp;omega
theorem Aj(w:af)(v:ah)(b:List aj)(hv:a8 w v b)(ts:List (List aj))(hs:mz b=some ts):Aae Aag 178 #[v] w λe w'=>∃v,e=.returned (.tuple #[v,.int .i64 0])/\eG w' w.heap.size v ts/\Up w w':=by
 have NO:mz b≠none:=by rw[hs];exact nofun
 have HS:=an hs;have h2:2<=κ b:=by
  rcases ma (κ b) 2 with h|h
  ·exact absurd (by unfold mz;rw[bo h]) NO
  ·exact h
 replace NO:=an NO;clear hs;have HL:=an (AJ w v b hv h2);obtain⟨a,c,rfl⟩:=hv.slice;go_in;go_wp2_with fail;refine HL.mono ?_;rintro e w1⟨a1,c1,rfl,bF,nq,rfl⟩;obtain⟨bF,ax,aU⟩:=db (bF w hv) (Rest.start h2) (rY b);have aK:κ (b.drop 2)=κ b-2:=aq
 rw[<-aK]at bF ⊢;generalize b.drop 2=r0 at *;generalize bn (b.take 2)=many at *;clear aK;go_wp2;go_loopw [0,6,20] (λy x i wr=>∃(j:Nat)(r:List aj)(acc:List (List aj)),j<=many/\(κ acc)=j/\i=i6 j/\Rest b (many-j) r acc/\(∃a' c',y=.slice a' (κ r) c'/\a8 w (.slice a' (κ r) c') r)/\eG wr w.heap.size x acc/\Up w wr) (λ_ _ i _=>many-(Aat i).toNat)
 case atStart=>exact⟨0,r0,[],bE _,rfl,rfl,ax,⟨a1,c1,rfl,bF⟩,eG.nil _ _,(Up.refl w).drewN nq⟩
 case round=>
  obtain⟨j,r,acc,hj,hacc,rfl,hrest,⟨a',c',rfl,hr⟩,hown,upr⟩:=hrel;obtain⟨wo,rfl⟩:∃wo:af,wo=wr:=⟨_,rfl⟩;have aa:=an hrest;have aM:=hr.length_le;by_cases hlt:j<many
  ·obtain⟨m,hm⟩:∃m,many-j=m+1:=⟨many-j-1,ae⟩;rw[hm]at aa;have aB:many-(j+1)=m:=by omega
   obtain⟨aY,ay⟩:=aw aB hacc;clear hm aB hacc;have aT:2<=κ r:=by
    rcases ma (κ r) 2 with h|h
    ·exact absurd (aa.short h) NO
    ·exact h
   have HL:=an (AJ wo _ r (hr.up upr) aT);go_wp2_with fail;refine HL.mono ?_;rintro e w1⟨a2,c2,rfl,aO,aX,rfl⟩;obtain⟨aO,aL⟩:=aA (aO w hr) (rY r);have up1:Up w (wo.drewN aX):=upr.drewN _;have ak:¬κ r-2<bn (r.take 2):=λh=>NO (aa.abj aT h);have aH:=aa.next ae ak
   have aK:κ (r.drop 2)=κ r-2:=aq
   rw[<-aK]at aO ak ⊢;have aN:κ (r.drop 2)<=9223372036854775807:=ae
   generalize bn (r.take 2)=sz at *;generalize r.drop 2=q at *;have aI:=an aH;clear aK;have mk:=DE (P:=Aag) 30 5 (.int .u8 0) 1 Aa0 eu sz ae ae;have ag:=di (P:=Aag) 30 dr du a2 (κ q) c2 sz ae;have aV:=aO.piece (lo:=sz) (hi:=κ q) ae (aG _);rw[fx]at aV;generalize al:wo.drewN aX=w1 at *;have aR:Up wo w1:=by rw[<-al];exact(Up.refl wo).drewN _
   clear al;have a6:a8 (w1.alloc (.cells (j2 (.int .u8 0) sz) 5)) (.slice a2 (κ q) c2) q:=aO.up (up1.alloc _);have aW:(w1.alloc (.cells (j2 (.int .u8 0) sz) 5)).heap[w1.heap.size]?=some (.cells (j2 (.int .u8 0) sz) 5):=heap_alloc_new w1 _;go_wp2_with(refine wX (o:=⟨some 40,_,_,_,_,_⟩) aF cp rfl (.tmp 38) (.tmp 39) 30 rfl 5 (.int .u8 0) 1 Aa0 eu w1.heap.size sz w.heap.size aW up1.size ae (.slice a2 (κ q) c2) q rfl rfl a6 ae ?_);intro w2 aS ar;have ao:=(ai w1 _).aE ar (aG _);have ad:=hown.up (aR.trans ao);obtain⟨vs,aP,hvo,aJ⟩:=ad;have a7:κ vs<=65535:=by have:=ay.out;omega
   clear aW mk;have aQ:κ q-sz=κ (q.drop sz):=aq
   have az:=an aQ;clear aQ;have aC:Own aF 5 w2 w.heap.size (fZ ⟨some ⟨w1.heap.size,0,none⟩,sz,sz⟩) (q.take sz):=aS;go_wp2_with(at_builtin;refine bc fZ BP rfl (.tmp 41) (.tmp 43) 40 rfl w.heap.size 30 (nl) 24 underlying40 ss rfl _ _ rfl (hvo.up (ai w2 _)) (cv w2.heap.size 1 1) [⟨some ⟨w1.heap.size,0,none⟩,sz,sz⟩] rfl (aD.lit w2 #[cv w1.heap.size sz sz] 30 (0,0) [_] 1 rfl dE rfl) ab ab (((up1.trans ao).alloc _).size) ?_);intro v' w4 av hg4 au;have up4:Up w w4:=((up1.trans ao).alloc _).aE au (aG _);have aZ:=eG.snoc aP (hvo.up (ai w2 _)) (λi a b=>(aJ i a b).up (ai w2 _)) (aC.up (ai w2 _)) av hg4;clear aJ;go_wp2;go_roundw
   case rel=>refine⟨j+1,q.drop sz,acc++[q.take sz],ae,by rw[Aaf,ay.out];rfl,fJ,by rw[aY.out];exact aI,⟨_,_,by rw[<-az.out];rfl,?_⟩,aZ,up4⟩;rw[<-az.out];exact aV
   case measure=>simp[Aat];omega
  ·obtain rfl:j=many:=by omega
   rw[Nat.sub_self]at aa;obtain rfl:r=[]:=yt λh=>NO (aa.more h);obtain rfl:=dB ((aa.done rfl).symm.trans HS);clear hacc;go_wp2;exact y6




def jq:List Int:=[8,1,8,8,8,1]
def h'(b:Bool):Nat:=if b=true then 1 else 0
def DH(x:al):List Nat:=[x.id,h' x.aU,x.owner,x.prev,x.ar,x.blocks.toNat]
def lO(x:al):List aj:=aX jq (DH x)++bQ x.root
def e1(x:al):List aj:=ey [lO x,x.name,cT x.dead]
def KZ(x:al):Option (List aj):=if cD x=true then some (e1 x)else none
def D5(o:Option (List aj))(w:af)(e:Ab1)(w':af):Prop:=(o=none/\e=.returned (.tuple #[.slice none 0 0,.int .i64 151])/\Up w w')\/∃m u,o=some m/\e=.returned (.tuple #[u,.int .i64 0])/\Own aF 5 w' w.heap.size u m/\Up w w'
theorem xz{x:al}(h:cD x=true):x.ar<=281474976710655:=by grind [bH]
theorem Dt{x:al}(h:cD x=true):nq jq (DH x):=by
 obtain⟨⟨_,h1⟩,⟨_,h2⟩,h3,⟨_,h4⟩,_⟩:=(bH x).1 h;have hn:h' x.aU<=1:=by grind [h']
 refine⟨rfl,ax,?_⟩;grind [jq,DH,fits]
theorem h9(x:al):κ (lO x)=50:=ay
theorem oO{l:List aj}(h:ef l=true):κ l<=24:=by grind [ef]
theorem Bk{x:al}(h:cD x=true):sW [lO x,x.name,cT x.dead]:=by obtain⟨_,_,_,_,h5,_,h7,_⟩:=(bH x).1 h;refine⟨aq,λt ht=>?_⟩;grind [h9,oO,dZ]
theorem aD.grown{f:α->ah}{w w':af}{v:ah}{l:List α}{row:Option Nat}(h:aD f w v l)(hg:w.grownBy w' row)(hne:∀b,v.ownBlock=some b->row≠some b):aD f w' v l:=by
 rcases h with h|⟨b,off,cap,h1,h2,h3,h4,h5⟩
 ·exact .inl h
 ·refine .inr ⟨b,off,cap,h1,h2,h3,h4,λi hi=>?_⟩;rw[nG (hg.block b (hX w _ (h5 i hi)) (λe=>hne b uo e.symm))];simp_all
section
variable {P:bx}
theorem tj{ops:Array Abn}{Q:Exit->Act->af->Prop}{i:Nat}{o:Abn}{K:Act->af->Prop}{a:Act}{w:af}(hi:ops[i]?=some o)(hw:Aaa o (Aa1 ops a.tmps)=true)(h:o.wp P a w K Q):wpOp P ops Q i K a w:=Fs
theorem o4{ops:Array Abn}{Q:Exit->Act->af->Prop}{md:Ab0}{fuel:Nat}{aZ:Array Bool}{a:Act}{w:af}(i:Nat)(o:Abn)(hr:Abb md ops aZ=[i])(hi:ops[i]?=some o)(hw:Aaa o (Aa1 ops a.tmps)=true)(h:o.wp P a w (wpAny P md ops Q fuel (aZ.setIfInBounds i true)) Q):wpAny P md ops Q (fuel+1) aZ a w:=ud hr aq (λj hj=>by simp at hj;subst hj;exact tj hi hw h)
theorem Ch{ops:Array Abn}{Q:Exit->Act->af->Prop}{md:Ab0}{fuel:Nat}{aZ:Array Bool}{a:Act}{w:af}(i j:Nat)(o o':Abn)(hr:Abb md ops aZ=[i,j])(hi:ops[i]?=some o)(hj:ops[j]?=some o')(hw:Aaa o (Aa1 ops a.tmps)=true)(ay:Aaa o' (Aa1 ops a.tmps)=true)(h:o.wp P a w (wpAny P md ops Q fuel (aZ.setIfInBounds i true)) Q)(h':o'.wp P a w (wpAny P md ops Q fuel (aZ.setIfInBounds j true)) Q):wpAny P md ops Q (fuel+1) aZ a w:=ud hr aq (λk hk=>by
  simp at hk;rcases hk with rfl|rfl
  ·exact tj hi hw h
  ·exact tj hj ay h')
def o3{ops:Array Abn}{Q:Exit->Act->af->Prop}{md:Ab0}{fuel:Nat}{aZ:Array Bool}{a:Act}{w:af}(i:Nat)(o:Abn)(hr:Abb md ops aZ=[i])(hi:ops[i]?=some o)(hw:Aaa o (Aa1 ops a.tmps)=true)(h:∀K:Act->af->Prop,(∀a w,wpAny P md ops Q fuel (aZ.setIfInBounds i true) a w->K a w)->o.wp P a w K Q):wpAny P md ops Q (fuel+1) aZ a w:=o4 i o hr hi hw (h _ (λ_ _ h=>h))
theorem r5{o:Abn}{a:Act}{w:af}{K:Act->af->Prop}{Q:Exit->Act->af->Prop}(ty:Aab)(x:bO)(ho:o.op=.load ty x)(ad:Addr)(hx:a.eval x=.pointer (some ad))(v:ah)(hc:w.cell? ad=some v)(hagg:(isAgg ty).run P w=.ok false w)(h:K (a.put o.dst v) w):o.wp P a w K Q:=by exact MA
end
theorem vy(x:bO)(ho:o.op=.convert 9 30 x)(l:List aj)(hx:a.eval x=.string (strOf l))(h0:0<κ l)(hl:κ l<=1000000)(h:∀v' w',a8 w' v' l->Up w w'->(∀b,v'.ownBlock=some b->w.heap.size<=b)->K (a.put o.dst v') w'):o.wp Aag a w K Q:=by
 obtain⟨hr,aX⟩:=aA (run_bytes_of_string (P:=Aag) w 9 30 5 (strOf l) underlying9 Aa0 underlying5) (grownCap_ge w (strOf l).size 0 5);have hle:=grownCap_le_maxLen w (strOf l).size 0 5 (by rw[tc];unfold maxLen;omega);unfold Acb;simp[Abs,ho,hx,hr,Aap];generalize grownCap w (strOf l).size 0 5=cap at *;rw[tc]at *;refine h _ _ (.inr ⟨w.heap.size,0,cap,rfl,h0,aX,hle,λi hi=>?_⟩) (((Up.refl w).drew).trans (ai _ _)) (λb hb=>?_)
 ·have:=World.cell?_alloc_mark w.drew (bytesRow (strOf l) cap) 5 ((bytesRow (strOf l) cap).size,(bytesRow (strOf l) cap).size+1) i;rw[Abr];refine this.trans ?_;unfold bytesRow;rw[Array.getElem?_append_left (by simp[strOf];exact hi),Array.getElem?_map];show Option.map _ (l.toArray[i]?)=_;rw[EU,jE hi];rfl
 ·obtain rfl:w.heap.size=b:=by simpa[Aan]using hb
  omega
theorem xL(w:af)(a1 a2 a3:Option Addr)(n1 n2 n3 c1 c2 c3:Nat)(x y z:List aj)(h1:a8 w (.slice a1 n1 c1) x)(h2:a8 w (.slice a2 n2 c2) y)(h3:a8 w (.slice a3 n3 c3) z):D3 (w.alloc (.cells #[.slice a1 n1 c1,.slice a2 n2 c2,.slice a3 n3 c3] 30)) (cv w.heap.size 3 3) [x,y,z]:=by
 refine⟨[⟨a1,n1,c1⟩,⟨a2,n2,c2⟩,⟨a3,n3,c3⟩],rfl,aD.lit w _ 30 (0,0) _ 3 rfl ax rfl,λi hi _=>?_⟩;have U:=ai w (.cells #[.slice a1 n1 c1,.slice a2 n2 c2,.slice a3 n3 c3] 30);match i,hi with
 | 0,_=>exact h1.up U
 | 1,_=>exact h2.up U
 | 2,_=>exact h3.up U
 | (k+3),hi=>grind
theorem K0(w:af)(x:al)(aT:x.wf)(vd:ah)(hd:cX w vd x.dead):Aae Aag 241 #[.agg (cf x vd)] w λe w'=>D5 (KZ x) w e w':=by
 obtain⟨da,dc,rfl⟩:=hd.slice;obtain⟨B1,U1,HR,PB,LB⟩:=eI (aH.new w 90 (cf x (.slice da (κ x.dead) dc))) (ai w (.cells (cf x (.slice da (κ x.dead) dc)) 90)) (λW U=>BW W x (.slice da (κ x.dead) dc) (aI.up hd U)) (λW=>nS W x.root aT.2.2.2.2.2.1) (λW U=>J9 W (.slice da (κ x.dead) dc) x.dead (aI.up hd U) aT.2.2.2.2.2.2);cases ab:cD x
 ·have HF:=an (show KZ x=none by unfold KZ;rw[ab];rfl);rw[ab]at HR;clear ab;go_in;go_wp2_with(refine arm ?_);refine(HR _ U1).mono ?_;rintro e w2⟨rfl,U2⟩;go_wp2;go_ret2;exact .inl ⟨HF,rfl,U1.trans U2⟩
 have HT:=an (show KZ x=some (e1 x)by unfold KZ;rw[ab];rfl);rw[ab]at HR;obtain⟨aP,OKJ,HL⟩:=aW (Dt ab) (Bk ab) (h9 x);obtain⟨⟨_,g1⟩,⟨_,g2⟩,g3,⟨g4,g5⟩,hnm,hgr,aK,aL,_⟩:=(bH x).1 ab;have g6:=xz ab;obtain⟨aY,aC,NM1,NM2,bb⟩:=eI (show cw x.root≠false by rw[hgr];simp) (show vM x.dead=some (cT x.dead)by unfold vM;rw[bo ⟨aK,aL⟩]) (show 0<κ x.name by have:=(jk _).1 hnm;omega) (show κ x.name<=1000000 by have:=(jk _).1 hnm;omega) (show(cT x.dead).length<=64000 by rw[dZ];omega);clear ab hnm hgr aL;obtain⟨HE,RB,PO,PL,RL⟩:=eI (show lO x=aX jq [x.id,h' x.aU,x.owner,x.prev,x.ar,x.blocks.toNat]++bQ x.root from rfl) (show e1 x=ey [lO x,x.name,cT x.dead] from rfl) (show nq jq [x.id,h' x.aU,x.owner,x.prev,x.ar,x.blocks.toNat] from aP) (show(aX jq [x.id,h' x.aU,x.owner,x.prev,x.ar,x.blocks.toNat]).length=34 by simp[jq,aX,bA]) (show(bQ x.root).length=16 by unfold bQ;simp[j4,Bx,aX,bA]);generalize aj:e1 x=out at *;generalize a8:lO x=hdr at *;clear aj a8;obtain⟨id,name,aU,owner,prev,ar,blocks,root,dead⟩:=x;dsimp only at *;obtain⟨nb,rfl⟩:∃n:Nat,blocks=n:=⟨blocks.toNat,ae⟩;simp only[Abq]at *;obtain⟨c0,c1,c2,c3,c4,c5,c6,R7,zI⟩:=B1.setAt.Gn;go_in;go_wp2_with(refine arm ?_);refine(HR _ U1).mono ?_;rintro e w2⟨rfl,U2⟩;obtain⟨B2,U3⟩:=aw (B1.up U2) (U1.trans U2);have a1:=an U3.size;clear c0 c1 c2 c3 c4 c5 c6 zI;obtain⟨c0,c1,c2,c3,c4,c5,c6,R7,zI⟩:=B2.setAt.Gn;clear HR;obtain⟨UA,sza⟩:=aA (ai w2 (.cells #[i6 8,i6 1,i6 8,i6 8,i6 8,i6 1] 3)) (mB w2 (.cells #[i6 8,i6 1,i6 8,i6 8,i6 8,i6 1] 3));obtain⟨e0,e3,e4,e5,e6⟩:=xN (UA.cell c0) (UA.cell c3) (UA.cell c4) (UA.cell c5) (UA.cell c6);have wn:=dP nb ae;have ak:∀m:Nat,m=h' aU->Hid (Aae Aag 240 #[cv w2.heap.size 6 6,cv (w2.heap.size+1) 6 6] ((w2.alloc (.cells #[i6 8,i6 1,i6 8,i6 8,i6 8,i6 1] 3)).alloc (.cells #[u6 (id:Int),u6 (m:Int),u6 (owner:Int),u6 (prev:Int),u6 (ar:Int),u6 (nb:Int)] 70)) λe w'=>∃v,e=rt #[v,i6 0]/\Own aF 5 w' (w2.heap.size+2) v (aX jq [id,h' aU,owner,prev,ar,nb])/\Up w2 w'/\w2.heap.size+2<=w'.heap.size):=λm hm=>by
  subst hm;have UB:=ai (w2.alloc (.cells #[i6 8,i6 1,i6 8,i6 8,i6 8,i6 1] 3)) (.cells #[u6 (id:Int),u6 (h' aU:Int),u6 (owner:Int),u6 (prev:Int),u6 (ar:Int),u6 (nb:Int)] 70);have i1:aD bz _ (cv w2.heap.size 6 6) jq:=(aD.er (f:=bz) w2 w2.heap.size rfl #[i6 8,i6 1,i6 8,i6 8,i6 8,i6 1] 3 (0,0) jq 6 rfl dE rfl).up UB;have i2:aD cM _ (cv (w2.heap.size+1) 6 6) [id,h' aU,owner,prev,ar,nb]:=aD.er (f:=cM) (w2.alloc (.cells #[i6 8,i6 1,i6 8,i6 8,i6 8,i6 1] 3)) (w2.heap.size+1) uy #[u6 (id:Int),u6 (h' aU:Int),u6 (owner:Int),u6 (prev:Int),u6 (ar:Int),u6 (nb:Int)] 70 (0,0) [id,h' aU,owner,prev,ar,nb] 6 rfl dE rfl;have aR:h' aU<=1:=by unfold h';split<;>omega
  refine an ((oV _ _ jq i1 (by simp[jq]) _ _ i2 AT PO).mono λe w' h=>?_);obtain⟨v,rfl,ho,hu⟩:=h;refine⟨v,rfl,?_,(UA.trans UB).trans hu,?_⟩
  ·rw[mB,sza]at ho;exact ho
  ·have:=hu.size;rw[mB,sza]at this;exact this
 have ad:∀m:Int,m=(h' aU:Int)->Hid (Aae Aag 240 #[cv w2.heap.size 6 6,cv (w2.heap.size+1) 6 6] ((w2.alloc (.cells #[i6 8,i6 1,i6 8,i6 8,i6 8,i6 1] 3)).alloc (.cells #[u6 (id:Int),u6 m,u6 (owner:Int),u6 (prev:Int),u6 (ar:Int),u6 (nb:Int)] 70)) λe w'=>∃v,e=rt #[v,i6 0]/\Own aF 5 w' (w2.heap.size+2) v (aX jq [id,h' aU,owner,prev,ar,nb])/\Up w2 w'/\w2.heap.size+2<=w'.heap.size):=λm hm=>by subst hm;exact ak _ rfl
 have aG:=an (show ∀m:Int,m=(h' aU:Int)->_ from λm hm=>(ad m hm).out);clear ak ad;have a6:∃m:Int,m=(h' aU:Int)/\((aU=true/\m=1)\/(aU=false/\m=0)):=by
  cases aU
  ·exact⟨0,rfl,.inr ⟨rfl,rfl⟩⟩
  ·exact⟨1,rfl,.inl ⟨rfl,rfl⟩⟩
 obtain⟨mv,ba,au⟩:=a6;have aQ:=an (aG mv ba);clear aG;rcases au with⟨rfl,rfl⟩|⟨rfl,rfl⟩
 all_goals
  clear ba;go_wp2_with fail;refine aQ.mono ?_;rintro e w4⟨v5,rfl,O5,U5,s4⟩;obtain⟨B4,U6,S4⟩:=aW (B2.up U5) (U3.trans U5) s4;clear s4 c0 c1 c2 c3 c4 c5 c6 zI e0 e3 e4 e5 e6 sza wn;obtain⟨c0,c1,c2,c3,c4,c5,c6,R7,zI⟩:=B4.setAt.Gn;go_wp2_with(refine arm ?_);refine(PB w4).mono ?_;rintro e w5 az;rcases az with⟨_,v7,rfl,O7,U7⟩|⟨ao,_⟩
  rotate_left
  ·exact absurd ao aY
  obtain⟨S45,OO⟩:=aw U7.size O5;have aO:=an (O5.up U7);obtain⟨B5,U8⟩:=aw (B4.up U7) (U6.trans U7);clear c0 c1 c2 c3 c4 c5 c6 zI;obtain⟨c0,c1,c2,c3,c4,c5,c6,R7,zI⟩:=B5.setAt.Gn;go_wp2_with fail;refine(LB w5 U8).mono ?_;rintro e w6 bL;rcases bL with⟨ao,_⟩|⟨aM,v8,ag,rfl,O8,U9⟩
  ·rw[aC.out]at ao;cases ao
  rw[aC.out]at ag;obtain rfl:=dB ag;obtain⟨O6,P6,B6,U10,S5⟩:=eI (aO.up U9) (O7.up U9) (B5.up U9) (U8.trans U9) (show w5.heap.size<=w6.heap.size from U9.size);clear c0 c1 c2 c3 c4 c5 c6 zI;obtain⟨c0,c1,c2,c3,c4,c5,c6,R7,zI⟩:=B6.setAt.Gn;clear ag;go_wp2;have e7:=(Up.refl w6).drew;obtain⟨Od,Pd,O8d,Ud⟩:=bR (O6.up e7) ((P6.up e7).cC) (O8.up e7) (U10.trans e7);obtain⟨aJ,sd⟩:=aA (e7.cell c1) e7.size;obtain⟨SB,SW⟩:=aw (show w2.heap.size+2<=w6.drew.heap.size by have:=S4.out;have:=S45.out;have:=S5.out;omega) (show w.heap.size<w2.heap.size+2 by have:=a1.out;omega);clear c0 c1 c2 c3 c4 c5 c6 zI;refine wp_region_any av ?_;change wpAny _ _ _ _ 14 _ _ w6.drew;generalize w6.drew=w7 at *;refine x1 0 (v5) rfl ?_;refine x1 1 (v7) rfl ?_;refine x1 3 (pq w.heap.size 1) rfl ?_;refine x1 6 (v8) rfl ?_;simp only[Aas,gh];obtain⟨hb1,hb2⟩:=aw (show(κ (aX jq [id,h' _,owner,prev,ar,nb])+κ (bQ root))*1<=140737488355328 by rw[PL.out,RL.out];omega) (show(aX jq [id,h' _,owner,prev,ar,nb]).length+κ (bQ root)<=9223372036854775807 by rw[PL.out,RL.out];omega);refine Ch 2 4 _ _ av rfl rfl rfl rfl ?_ ?_
  ·refine NR ?_;intro va w8 hoa hga hba;have a7:=(nG (oA hba w.heap.size SW)).trans aJ;refine o4 4 _ av rfl rfl ?_;refine r5 9 (.tmp 55) rfl ⟨w.heap.size,1,none⟩ rfl _ a7 av ?_;exact Yw
  ·refine r5 9 (.tmp 55) rfl ⟨w.heap.size,1,none⟩ rfl _ aJ av ?_;refine Ch 2 5 _ _ av rfl rfl rfl rfl ?_ ?_
   ·refine NR ?_;intro va w8 hoa hga hba;exact Yw
   ·refine vy (.tmp 56) rfl name rfl NM1 NM2 ?_;intro vn w8 hn hu aS;refine o4 2 _ av rfl rfl ?_;refine jY aF cp (.tmp 52) (.tmp 53) 30 rfl (w2.heap.size+2) 5 (.int .u8 0) 1 Aa0 eu rfl v5 _ rfl (Od.up hu) v7 _ rfl (aD.up Pd hu) hb1 hb2 (bN SB hu.size) ?_;intro va w9 hoa hga hba;rw[<-HE.out]at hoa;obtain⟨HO,HN,H8,HU⟩:=bR (hoa) (hn.grown hga (λb hb e=>by have h1:=aS b hb;have h2:=(OO.aN b e).2;have h3:=S45.out;have h4:=S5.out;omega)) ((O8d.up hu).vW OO S45 hga) ((Ud.trans hu).aE hba (oC SW));have HZ:=an (show w.heap.size<=w9.heap.size from HU.size);clear aS;obtain⟨aa,ac,rfl⟩:=HO.cC.slice;obtain⟨na,nc,rfl⟩:=HN.slice;obtain⟨la,lc,rfl⟩:=H8.cC.slice;have JN:=an (AE _ _ _ (xL w9 aa na la _ _ _ ac nc lc _ _ _ HO.cC HN H8.cC) OKJ);have aB:=mB w9 (.cells #[.slice aa (κ hdr) ac,.slice na (κ name) nc,.slice la (κ (cT dead)) lc] 30);have ax:=an (ai w9 (.cells #[.slice aa (κ hdr) ac,.slice na (κ name) nc,.slice la (κ (cT dead)) lc] 30));generalize cT dead=aM at *;refine o3 7 _ av rfl rfl ?_;intro K hK;go_simp;refine hK _ _ ?_;refine o3 8 _ av rfl rfl ?_;intro K2 aq;go_simp;refine JN.mono ?_;rintro e aV⟨vj,rfl,OJ,UJ⟩;refine aq _ _ ?_;refine x1 9 (.tuple #[vj,i6 0]) rfl ?_;simp only[Aas,gh];refine x1 10 (vj) rfl ?_;simp only[Aas,gh];refine x1 11 (i6 0) rfl ?_;simp only[Aas,gh];refine x1 12 (vj) rfl ?_;simp only[Aas,gh];refine x1 13 (i6 0) rfl ?_;simp only[Aas,gh];refine⟨av,?_⟩;(try simp only[Aas]);go_wp2;go_ret2;refine .inr ⟨_,_,HT,rfl,?_,HU.trans (ax.trans UJ)⟩;rw[RB.out];exact OJ.mono (by rw[aB];have:=HZ.out;omega)
end Go.Proofs.YtkpjfnbbkohciaaGreat
