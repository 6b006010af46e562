import Derived.Test.YtkpjfnbbkohciaaGreatCe
import Derived.Shelf.SlSortCmp.WholeK
import Derived.Shelf.Sort.Plain
import Derived.Shelf.SlSortCmp.NoneTotal
import Derived.Shelf.Slices.In.SortNone
set_option maxRecDepth 100000
set_option maxHeartbeats 16000000
set_option linter.all false
open Go renaming Oper->Abn,Ending->Ab1,TypeId->Aab,Calls->Aae,wpAnyH->Acp,zeroValue->Ab9,splice->Aby,execOp->Abs,wpList->Aak,undef->Aar,wpStill->Adc,yielded->Aa1,YieldsIf->Ace
open List renaming map_append->Aao,append_assoc->Aa8,length_map->Aad,nil_append->Aay,range->Aaj,range_succ->Abz,length_append->Aaf,length_cons->Aal,length_nil->Aa5,mem_cons->Aam,length_set->Aaz,replicate->Aac,size_toArray->Abh,flatMap_cons->Abg,mem_map->Abf,map_cons->Acf,take_zero->Abk,cons_append->Aa2,drop_drop->Ac3,length_range->Acx,length->κ
open Go.RowKit renaming intOf->Aat
open Nat renaming zero_add->Abr
open Go.Proofs.Tryz renaming prog->Aag,underlying30->Aa0
open And renaming intro->Adb
open Classical renaming not_forall->Acm
open Go.Value renaming slice->Acl,oneCell'->Ac8,int->Acj,ownBlock->Aan
open Except renaming map->Ac0
open Bool renaming and_eq_true->Abc
open Go.Op renaming equalIn->Ack
open Go.ByteArray renaming toList_eq->Adl
open Go.Sem renaming run_bind->Aaw,run_pure->Acq
open Go.Result renaming andThen_ok->Aau,andThen->Aap
open Option.some renaming injEq->Aai
open Go.Instr renaming index->Abi
open Go.Act renaming put->Aas
open Go.Oper renaming wp->Acb
open Go.Extern.MapsClone renaming clone->Acn
open Go.Region renaming wanted->Aaa
open List.Perm renaming refl->Adm
open List.Pairwise renaming nil->Ab6
open Go.Addr.mk renaming injEq->Abd
open Go.Sort renaming ahead->Ac6
open Int renaming toNat->Acs
open Go.Value.slice renaming injEq->Abp
namespace Go.Proofs.YtkpjfnbbkohciaaGreat
open Go.Proofs.Tryz Go.RowKit Go.Sort
variable{b cap g i j k m n p st:Nat}{ops:Array Abn}{N r:Int}{C:Array ah}{H:aP}{P:bx}{u:hG}{l:List al}{Q:Exit->Act->af->Prop}{a:Act}{root:au}{rest:List Abn}{o:Abn}{x:al}{e:Ab1}{G:ch}{w:af}{t:Aab}{vp:ah}
def tL(G:ch):Int:=if eS G=true then 0 else 71
def RD(id:Nat)(q:au)(x:al):al:=if x.id=id then {x with root:=q} else x
def mn(l:List al)(id:Nat)(q:au):List al:=l.map (RD id q)
def jo(l:List al)(id:Nat)(q:au)(k:Nat):List al:=(l.take k).map (RD id q)++l.drop k
theorem lN(l:List al)(id:Nat)(q:au)(k:Nat):κ (jo l id q k)=κ l:=by grind [jo]
theorem BF{id:Nat}{q:au}(hk:k<κ l)(h:k<κ (jo l id q k)):(jo l id q k)[k]=recAt l k:=by grind [jo,b']
theorem BG{id:Nat}{q:au}(hk:k<κ l):(jo l id q k).set k (RD id q (recAt l k))=jo l id q (k+1):=by
 have e:κ ((l.take k).map (RD id q))=k:=ab
 unfold jo;rw[yF _ _ ae,e,Nat.sub_self,wc hk,List.set_cons_zero,en hk,Aao,b' hk,Aa8];rfl
theorem K3{id:Nat}{q:au}(hk:k<κ l)(h:(recAt l k).id≠id):jo l id q (k+1)=jo l id q k:=by
 rw[<-BG hk];have:RD id q (recAt l k)=(jo l id q k)[k]'(by grind [lN]):=by grind [BF,RD]
 simp_all
theorem K4(l:List al)(id:Nat)(q:au):jo l id q 0=l:=ay
theorem QH(l:List al)(id:Nat)(q:au):jo l id q (κ l)=mn l id q:=by simp[jo,mn]
theorem Vl(id:Nat)(q:au)(x:al):(RD id q x).dead=x.dead:=by grind [RD]
theorem BH{id:Nat}{q:au}{p:List au->Prop}(h:∀x∈l,p x.dead):∀x∈mn l id q,p x.dead:=λx hx=>by obtain⟨y,hy,rfl⟩:=List.mem_map.mp hx;rw[Vl];exact h y hy
def Gs(l:List al)(id:Nat)(q:au):κ (mn l id q)=κ l:=Aad ..
theorem Qy(w:af)(gb:Nat)(H:aP)(G:ch)(A:GA w gb H G)(hl:κ G.l<=1000)(hr:∀x∈G.l,κ x.dead*24<=140737488355328)(aJ:∀x∈G.l,PW x.dead)(id:Nat)(q:au)(vo:ah)(old:List au)(ho:cX w vo old)(aF:κ old<=1000)(l2:List al)(gone:List au)(hk:pZ G.next (mn G.l id q) id old=.ok (G.next,l2,gone))(aW:κ gone<=100000)(aB:κ l2<=1000)(aO:∀x∈l2,κ x.dead*24<=140737488355328)(aT:∀x∈l2,x.wf)(hn:G.next<18446744073709551616)(vF:κ G.ms<=100000):Calls prog 49 #[lD gb,u6 (id:Int),.agg (be q),vo] w λe w'=>e=.returned (i6 (tL {G with P:={G.P with s:=bJ G.P.s G.P.ba gone},l:=l2}))/\GA w' gb H {G with P:={G.P with s:=bJ G.P.s G.P.ba gone},l:=l2}/\Touch (λk=>PF H k\/k=gb) w w':=by
 obtain⟨oa,oc,rfl⟩:=ho.slice;obtain⟨w2,hw2⟩:=bK ((w.alloc (.cells #[pz gb] 100)).alloc (.cells (be q) 87));obtain⟨U1,U2⟩:=aA (ai w (.cells #[pz gb] 100)) (ai (w.alloc (.cells #[pz gb] 100)) (.cells (be q) 87));obtain⟨b1,b2⟩:=aA ((aH.new w 100 #[pz gb]).up U2) (aH.new (w.alloc (.cells #[pz gb] 100)) 87 (be q));rw[aL]at b2;have uu:=U1.trans U2;rw[<-hw2]at b1 b2 uu;have c0:((w.alloc (.cells #[pz gb] 100)).alloc (.cells (be q) 87)).cell? (ad w.heap.size 0)=some (pz gb):=by rw[<-hw2];exact b1.cell 0
 obtain⟨HW2,A2,HK,aj,aY,a1,aD,HN,aK,bh,bB⟩:=VO hw2 (A.up uu) hk aO aT aF hl hn vF aW aB;clear hk aO aT aF hn vF aW aB;go_in;go_wp2_with(refine arm ?_);rw[<-HW2.out];clear c0;refine(gy _ _ H G A2 hl hr).mono ?_;rintro e w3⟨v3,rfl,bb,u3⟩;obtain⟨a3,c3,rfl⟩:=bb.cE.slice;have u4:=ai w3 (.cells (aS G.next (.slice a3 (κ G.l) c3)) 73);obtain⟨U4,aU,B9,ab,B2_4,A4,aa⟩:=xO ((uu.trans u3).trans u4) (u3.trans u4) (aH.new w3 73 (aS G.next (.slice a3 (κ G.l) c3))) ((b1.up u3).up u4) ((b2.up u3).up u4) ((A2.up u3).up u4) (bq.up bb u4);have c1:(w3.alloc (.cells (aS G.next (.slice a3 (κ G.l) c3)) 73)).cell? (ad w3.heap.size 1)=some (.slice a3 (κ G.l) c3):=(aH.new _ _ _).cell 1;go_wp2_with(refine arm ?_);obtain⟨w4,hw4⟩:=bK (w3.alloc (.cells (aS G.next (.slice a3 (κ G.l) c3)) 73));rw[<-hw4]at U4 aU B9 ab B2_4 A4 aa c1 ⊢;clear hw4;clear c1;go_loopw [19] (λi wr=>∃k:Nat,k<=κ G.l/\i=i6 k/\bq wr w2.heap.size (.slice a3 (κ G.l) c3) (jo G.l id q k)/\Up w2 wr/\aH wr w3.heap.size 73 (aS G.next (.slice a3 (κ G.l) c3))) (λi _=>κ G.l-(Aat i).toNat)
 case atStart=>exact⟨0,bE _,rfl,by rw[K4];exact aa,aU,B9⟩
 case round=>
  obtain⟨k,hk,rfl,aX,ur,br⟩:=hrel;have aR:κ G.l<=1000:=aD;by_cases hlt:k<κ G.l
  ·have b3:((k:Int)<(κ G.l:Int))=True:=by simp;omega
   obtain⟨g,cp,hv,hg⟩:=aX.at (by rw[lN];omega);rw[lN]at hv;obtain⟨rfl,rfl⟩:a3=some ⟨g,0,none⟩/\c3=cp:=by simpa using hv
   clear hv;have HG:=an hg;obtain⟨b5,o5,aC,_,da,dc,rg,dp⟩:=cn aX.cE (show k<κ (jo G.l id q k) from yO);obtain⟨rfl,rfl⟩:g=b5/\0=o5:=by simpa using aC
   rw[b' (show k<κ (jo G.l id q k) from yO),BF hlt]at rg dp;rw[Abr]at rg;have e1:=(cd rg).1;have c1:wr.cell? (ad w3.heap.size 1)=some (cv g (κ G.l) c3):=br.cell 1;obtain⟨RK,RA⟩:=aw (BG (id:=id) (q:=q) hlt) (show(jo G.l id q k)[k]' yO=recAt G.l k from BF hlt _);clear aC hg;by_cases hid:(recAt G.l k).id=id
   ·have b4:(((recAt G.l k).id:Int)==(id:Int))=true:=by rw[hid];simp
    have RT:=an (show RD id q (recAt G.l k)={recAt G.l k with root:=q} from by unfold RD;rw[bo hid]);obtain⟨cur,hb,aE,aQ⟩:=aX.ZP k yO q;obtain⟨aG,bg,IP,OP⟩:=bR aQ (show k*11+7+(be q).size<=cur.size from by show k*11+7+3<=cur.size;omega) (hU q) (jN q);clear aE aQ hid;obtain⟨xi,av⟩:=bK ((recAt G.l k).id);rw[<-av]at e1 b4;clear av;go_wp2_with(first
     | refine cU 87 6 (b2.up ur) ?_
     | ((with_reducible refine cu _ _ _ ?_);refine cj rfl _ (.tmp 35) (.tmp 33) rfl g (k*11+7) _ rfl rfl _ _ hb IP bg OP ?_))
    intro wz hbz ag;rw[lQ]at hbz;have OZ:=an (show bq wz w2.heap.size (cv g (κ G.l) c3) (jo G.l id q (k+1))from by have:=aG wz hbz ag;rw[RA.out,<-RT.out,RK.out]at this;exact this)
    go_wp2;go_roundw
    case rel=>exact⟨k+1,ae,aq,OZ,(ur.grown ag (λk hk=>by cases hk;exact HG)),(br.grown ag (by have:=fj br hb ax;simp;omega))⟩
    case measure=>simp only[Aat];omega
   ·have b4:(((recAt G.l k).id:Int)==(id:Int))=false:=by rw[beq_eq_false_iff_ne];omega
    have OZ:=an (show bq wr w2.heap.size (cv g (κ G.l) c3) (jo G.l id q (k+1))from by rw[(K3 (id:=id) (q:=q) hlt) hid];exact aX);clear hid;obtain⟨xi,av⟩:=bK ((recAt G.l k).id);rw[<-av]at e1 b4;clear av;go_wp2;go_roundw
    case rel=>exact⟨k+1,ae,aq,OZ,ur,br⟩
    case measure=>simp only[Aat];omega
  ·obtain rfl:k=κ G.l:=by omega
   have b3:((κ G.l:Int)<(κ G.l:Int))=False:=aq
   have bj:=an (show bq wr w2.heap.size (.slice a3 (κ G.l) c3) (mn G.l id q)from by rw[<-QH];exact aX);have KI:=an (Tb _ G.next _ _ bj.cE (by rw[Gs];exact hl) (BH (id:=id) (q:=q) (p:=λd=>κ d*24<=140737488355328) hr) id _ _ ((ho.up uu).up ur) (by have:=a1.out;omega) (BH (id:=id) (q:=q) (p:=PW) aJ));rw[HK.out]at KI;go_wp2_with(refine arm ?_);refine KI.mono ?_;rintro e w5(⟨_,_,_,_,_,ao,_⟩|⟨nx,l',gn,v5,vg,he,rfl,aN,bf,u5⟩)
   case inl=>cases ao
   obtain⟨rfl,rfl,rfl⟩:G.next=nx/\l2=l'/\gone=gn:=by simpa using he
   clear he;obtain⟨a5,c5,rfl⟩:=aN.cE.slice;have bc:=an (br.up u5);go_wp2_with(first|refine arm ?_|refine pj ?_);intro w6 aV ar;obtain⟨U6,bd⟩:=aw ((ur.trans u5).grown ar (λk hk=>by cases hk;have:=u3.size;omega)) (ak.kept bf ar (.inr (ew ax bc bf)));obtain⟨A6,aM⟩:=aw (A2.up U6) (b1.up U6);go_wp2_with(refine arm ?_);refine(sY _ _ H G A6 _ _ (ak.row bd pw) (ez A6.pa bd) bh).mono ?_;rintro e w7⟨rfl,a7,t7⟩;have a6:=an (aM.az t7 (A6.pa.cc aM ax));have c7:w7.cell? (ad w.heap.size 0)=some (pz gb):=a6.cell 0;go_wp2_with(first
    | refine cU 73 9 (aV.az t7 (A6.pa.cc aV ax)) ?_)
   refine(pS _ _ H _ a7 _ _ _ (wN A6.pa (aN.HR bc ar) t7).cE bB aj).mono ?_;rintro e w8⟨rfl,a8,t8⟩;obtain⟨bk,bl,g7,_⟩:=a7;obtain⟨r,hr⟩:∃r:Int,r=tL {G with P:={G.P with s:=bJ G.P.s G.P.ba gone},l:=l2}:=⟨_,rfl⟩;obtain⟨aI,FT⟩:=aw hr (show Aae Aag 44 #[lD gb] w8 λe w'=>e=.returned (i6 r)/\Up w8 w' from by rw[hr];exact Ik w8 gb H _ a8 HN aY aK);clear hr;clear c7;go_wp2_with(first
    | refine cU 100 4 (a6.az t8 (fj a6 g7 ax)) ?_)
   refine FT.mono ?_;rintro e w9⟨rfl,u9⟩;go_wp2;go_ret;have hr:=aI.out;subst hr;exact⟨rfl,(a8.up u9),(((((Touch.bW (F:=λk=>PF H k\/k=gb) (uu.trans U6)).trans (t7.mono (F':=λk=>PF H k\/k=gb) (λ_ h=>.inl h)) (λ_ h _=>h)).trans (t8.mono (F':=λk=>PF H k\/k=gb) (λ_ h=>.inr h)) (λ_ h _=>h)).iK u9))⟩
theorem w0{F:List au}{SS:Nat->List au}(h:∀j,j<8->κ (SS j)=8):κ (xU root F SS st)<=73:=by grind [xU,nF]
theorem Bv(w:af)(gb:Nat)(H:aP)(G:ch)(A:GA w gb H G)(hl:κ G.l<=1000)(hr:∀x∈G.l,κ x.dead*24<=140737488355328)(next' base:Nat)(v':ah)(l':List al)(hv:bq w base v' l')(ao:κ l'<=1000)(ar:∀x∈l',κ x.dead*24<=140737488355328)(x:al)(da:Option Addr)(dc:Nat)(F:List au)(SS:Nat->List au)(hF:node8 G.P.C x.root=some F)(hS:∀k,k<8->node8 G.P.C (a6 F k)=some (SS k))(gone:List au)(hg:gone=xU x.root F SS (bZ G.l x.id)):Aae Aag 132 #[lD gb,.agg (aS next' v'),.agg (cf x (.slice da (κ x.dead) dc))] w λe w'=>e=.returned (i6 0)/\GA w' gb H {G with P:={G.P with s:=bJ G.P.s G.P.ba gone},next:=next',l:=l'}/\Touch (λk=>PF H k\/k=gb) w w':=by
 obtain⟨a,cp,rfl⟩:=hv.cE.slice;obtain⟨U1,U2,U3⟩:=db (ai w (.cells #[pz gb] 100)) (ai (w.alloc (.cells #[pz gb] 100)) (.cells (aS next' (.slice a (κ l') cp)) 73)) (ai ((w.alloc (.cells #[pz gb] 100)).alloc (.cells (aS next' (.slice a (κ l') cp)) 73)) (.cells (cf x (.slice da (κ x.dead) dc)) 90));obtain⟨b1,b2,b3⟩:=db (((aH.new w 100 #[pz gb]).up U2).up U3) ((aH.new (w.alloc (.cells #[pz gb] 100)) 73 (aS next' (.slice a (κ l') cp))).up U3) (aH.new ((w.alloc (.cells #[pz gb] 100)).alloc (.cells (aS next' (.slice a (κ l') cp)) 73)) 90 (cf x (.slice da (κ x.dead) dc)));rw[aL]at b2;rw[aL,aL]at b3;have uu:=(U1.trans U2).trans U3;obtain⟨w3,aa⟩:=bK ((((w.alloc (.cells #[pz gb] 100)).alloc (.cells (aS next' (.slice a (κ l') cp)) 73)).alloc (.cells (cf x (.slice da (κ x.dead) dc)) 90)));rw[<-aa]at b1 b2 b3 uu;obtain⟨aC,UU,B2,A3⟩:=bR aa uu b2 (A.up uu);have GL:=an (show κ gone<=100000 from by rw[hg];have:=w0 (root:=x.root) (F:=F) (SS:=SS) (st:=bZ G.l x.id) (λj hj=>cH (hS j hj));omega)
 obtain⟨aD,aI,AL⟩:=aW ao ar (λW (u:Up w3 W)=>IU W H G.P (A3.up u).pa x.root (bZ G.l x.id) F SS hF hS);rw[<-hg]at AL;have FSx:=an (Adb b1 b3);clear aa ao ar hF hS hg;go_in;go_wp2_with(refine arm ?_);rw[<-aC.out];refine e3 (S:=(λW=>aH W w.heap.size 100 #[pz gb]/\aH W (w.heap.size+2) 90 (cf x (.slice da (κ x.dead) dc)))) av ?_;change Acp _ _ _ _ _ 18 _ _ (w3.drew);have UD:=an (Up.drew (Up.refl w3));obtain⟨ag,aA⟩:=aw (Adb (FSx.1.up UD) (FSx.2.up UD)) (UD);generalize w3.drew=w4 at *;refine ta 0 ?_;refine tb 1 rfl (yc (λW hS=>hS.1.cell 0)) ?_;refine ta 3 ?_;refine tb 4 rfl (Wb (λW hS=>hS.2.setAt.c7)) ?_;refine ta 5 ?_;refine tb 6 rfl (yc (λW hS=>hS.1.cell 0)) ?_;refine ta 9 ?_;refine tb 10 rfl (yc (λW hS=>hS.2.setAt.c0)) ?_;refine ok 2 ?_;intro K hK;go_simp;refine(ia _ _ H G (A3.up aA)).mono ?_;refine eO ?_;intro wx;refine hK _ _ ag ?_;clear hK K;refine ok 7 ?_;intro K hK;go_simp;refine((λW (u:Up w3 W)=>gy W _ H G (A3.up u) hl hr) w4 aA).mono ?_;rintro e w5⟨v5,rfl,aN,u5⟩;obtain⟨a5,c5,rfl⟩:=aN.cE.slice;obtain⟨ab,aj⟩:=aw (Adb (ag.1.up u5) (ag.2.up u5)) (aA.trans u5);refine hK _ _ ab ?_;clear hK K;refine tk 8 (.slice a5 (κ G.l) c5) rfl (qI rfl (λW=>by have:=LX G.next a5 (κ G.l) c5 W;go_simp)) (ab) ?_;refine ok 11 ?_;intro K hK;go_simp;refine(qN _ _ _ aN.cE _).mono ?_;rintro e wx⟨rfl,bd⟩;rw[bd];clear bd;refine hK _ _ ab ?_;clear hK K;refine ok 12 ?_;intro K hK;go_simp;refine(AL w5 aj).mono ?_;rintro e w6⟨vg,rfl,aE,ae⟩;have NP:=A3.up aj;obtain⟨aq,A6,aB⟩:=aW (Adb (ab.1.az ae.2 (NP.pa.cc ab.1 ax)) (ab.2.az ae.2 (NP.pa.cc ab.2 ax))) (show GA w6 gb H G from NP.n4 H.h.vp ae.1 ae.2) ((B2.up aj).az ae.2 (NP.pa.cc (B2.up aj) ax));refine hK _ _ aq ?_;clear hK K;refine ta 13 ?_;refine ta 14 ?_;refine ta 15 ?_;refine ta 16 ?_;refine ta 17 ?_;refine dn ?_;have aM:=an aq.1;go_wp2_with(refine arm ?_);refine(sY _ _ H G A6 _ _ (ak.row aE pw) (ez A6.pa aE) GL).mono ?_;rintro e w7⟨rfl,a7,t7⟩;have c7:w7.cell? (ad w.heap.size 0)=some (pz gb):=(aM.az t7 (A6.pa.cc aM ax)).cell 0;go_wp2_with(first
  | refine cU 73 4 (aB.az t7 (A6.pa.cc aB ax)) ?_)
 refine(pS _ _ H _ a7 _ _ _ (wN A6.pa (wN NP.pa (bq.up (bq.up hv uu) aj) ae.2) t7).cE aD aI).mono ?_;rintro e w8⟨rfl,a8,t8⟩;clear c7;go_wp2;go_ret;exact⟨rfl,a8,((((Touch.bW (F:=λk=>PF H k\/k=gb) (UU.trans aj)).trans (ae.2.mono (F':=λk=>PF H k\/k=gb) (λ_ h=>.inl h)) (λ_ h _=>h)).trans (t7.mono (F':=λk=>PF H k\/k=gb) (λ_ h=>.inl h)) (λ_ h _=>h)).trans (t8.mono (F':=λk=>PF H k\/k=gb) (λ_ h=>.inr h)) (λ_ h _=>h))⟩
def zt(gb:Nat)(H:aP)(R:Int->ch->Prop)(w:af)(e:Ab1)(w':af):Prop:=∃(r:Int)(G2:ch)(vp:ah),e=.returned (.int .i64 r)/\R r G2/\GA w' gb (H.at vp) G2/\Touch (λk=>PF H k\/k=gb) w w'/\∀b,vp.ownBlock=some b->H.h.vp.ownBlock=some b\/w.heap.size<=b
def JI(G G2:ch):ch:={G with P:={G.P with C:=G2.P.C,m:=G2.P.m,fl:=G2.P.fl}}
def rK(H H':aP)(n:Nat)(vp:ah):Prop:=(∀b,vp.ownBlock=some b->H.h.vp.ownBlock=some b\/n<=b)/\∀k,PF H' k->PF H k\/n<=k
theorem rK.of{H H':aP}(hH:H'.h={H.h with vp:=vp})(hv:∀b,vp.ownBlock=some b->H.h.vp.ownBlock=some b\/n<=b)(h1:H'.pb=H.pb\/n<=H'.pb)(h2:H'.mb=H.mb\/n<=H'.mb):rK H H' n vp:=by
 refine⟨hv,?_⟩;rintro k(rfl|rfl|h)
 ·exact h1.imp (λh=>.inl h) id
 ·exact h2.imp (λh=>.inr (.inl h)) id
 ·rw[hH]at h;rcases tM h with h|h
  ·exact .inl (.inr (.inr h))
  ·exact(hv k h).imp (λh=>.inr (.inr (.inr (.inr (.inr h))))) id
def rK.mono{H H':aP}(h:rK H H' m vp)(hn:n<=m):rK H H' n vp:=⟨λb hb=>(h.1 b hb).imp id (λh=>bN hn h),λk hk=>(h.2 k hk).imp id (λh=>bN hn h)⟩
theorem rK.refl(H:aP)(n:Nat):rK H H n H.h.vp:=⟨λ_ h=>.inl h,λ_ h=>.inl h⟩
def po(p gb:Nat)(H:aP)(G:ch)(R:Int->ch->Prop)(w:af)(e:Ab1)(w':af):Prop:=∃(r:Int)(G2:ch)(vp:ah)(gb':Nat)(H':aP),e=.returned (.int .i64 r)/\R r G2/\H'.h={H.h with vp:=vp}/\((r=0/\bT w' p gb' H' G2)\/(r≠0/\bT w' p gb' H' (JI G G2)))/\Touch (λk=>cI H.h k\/k=p) w w'/\rK H H' w.heap.size vp
theorem Jo(gb:Nat):prog.built 100 [(0,pz gb)]=some #[pz gb]:=av
theorem Ea:∀W:af,(Ab9 100).run Aag W=.ok (.agg #[.pointer none]) W:=aq
theorem GA.other{w w':af}{gb:Nat}(A:GA w gb H G)(hb:aH w p t C)(h1:uW t=false)(h2:t≠153)(h3:t≠90)(h4:t≠87)(T:Touch (·=p) w w'):GA w' gb H G:=by obtain⟨vb,vm,g1,os,om,pa⟩:=A;have KR:∀{α:Type}{f:α->List ah}{k:Nat}{e:Aab}{v:ah}{xs:List α},ak f k e w 0 v xs->t≠e->ak f k e w' 0 v xs:=λh hn=>ak.az h T (λb aG e=>ew hn hb h aa);obtain⟨ys,y1,y2,y3⟩:=os;exact⟨vb,vm,g1.az T (fj g1 hb (Ne.symm h2)),⟨ys,y1,KR y2 h3,λy hy=>KR (y3 y hy) h4⟩,KR om h4,pa.az T (λb aG e=>pa.cc hb h1 (e ▸ aG))⟩
theorem lX(w:af)(p gb:Nat)(H:aP)(G:ch)(A:bT w p gb H G)(hl:κ G.l<=1000)(hr:∀x∈G.l,κ x.dead*24<=140737488355328)(vF:κ G.ms<=100000)(f:FuncId)(ae:Array ah)(R:Int->ch->Prop)(aC:∀args W,(callFunc f args).run Aag W=.ok (.enter f args) W)(bb:∀W aa ad ab,Up w W->w.heap.size<=aa->w.heap.size<=ad->w.heap.size<=ab->GA W aa ⟨ad,ab,H.h⟩ G->Aae Aag f (#[lD aa]++ae) W (zt aa ⟨ad,ab,H.h⟩ R W)):Aae Aag 39 #[.pointer (some ⟨p,0,none⟩),.func (.func f) #[] ae] w (po p gb H G R w):=by
 obtain⟨PD,CP⟩:=aw (wD w p gb H G A) (C9 w gb H G A.ga hl hr vF);refine F5 ?_;intro c0;obtain⟨HA,HC,IW⟩:=aW A bb PK;clear A hl hr vF bb;go_in;go_wp2_with fail;refine uD ?_;intro wx;go_wp2_with fail;refine CP.mono ?_;rintro e w1⟨gb',pb,mb,rfl,h1,h2,h3,a1,u1⟩;obtain⟨A1,U1,B5,ag,H1,H2,H3,S1⟩:=Oo (a1.up (ai w1 (.cells #[.pointer (some ⟨gb',0,none⟩)] 100))) (u1.trans (ai w1 (.cells #[.pointer (some ⟨gb',0,none⟩)] 100))) (aH.new w1 100 #[.pointer (some ⟨gb',0,none⟩)]) (IW gb') h1 h2 h3 u1.size;clear h1 h2 h3 a1 u1 CP PD c0;go_wp2_with(first
  | ((with_reducible refine dI 100 #[(0,.tmp 13)] ?_);refine kU rfl 100 0 (.tmp 13) rfl _ rfl #[.pointer (some ⟨gb',0,none⟩)] (Jo gb') ?_)
  | refine bD 100 Ea ?_
  | refine ed 100 5 14 w1 #[.pointer (some ⟨gb',0,none⟩)] 100 #[.pointer none] (hi:=ag) (h1:=rfl) ?_
  | refine cU 100 5 B5 (hi:=ag) ?_)
 refine(HC _ _ _ _ U1 H1 H2 H3 A1).mono ?_;rintro e w2⟨r,G2,vp,rfl,hR,a2,t2,o2⟩;obtain⟨wv,aj⟩:=bK (w1.alloc (.cells #[.pointer (some ⟨gb',0,none⟩)] 100));rw[<-aj]at A1 U1 B5 t2 o2;have SV:=an U1.size;clear aj;refine NV ?_;intro NF;have HD:=HA.ga.pa;have PN:p<w.heap.size/\¬cI H.h p:=⟨HA.e5.lt,HD.dev.jL HA.e5 ax ax ax⟩;have BP:=an ((HA.e5.up U1).az t2 (NF p PN.1 PN.2));have ar:¬(PF ⟨pb,mb,H.h⟩ w1.heap.size\/w1.heap.size=gb'):=λh=>by
  obtain⟨vb,vm,g1,_,_,pa⟩:=A1.out;rcases h with h|h
  ·exact pa.cc B5 ax h
  ·exact fj B5 g1 ax h
 have aq:=an (B5.az t2 ar);have T2:=an ((Touch.bW (F:=λk=>cI H.h k\/k=p) U1).trans t2 (λn hn hlt=>by
  by_cases hf:cI H.h n
  ·exact .inl hf
  ·exact absurd hn (NF n hlt hf)))
 obtain⟨O2,A2⟩:=aw (show ∀b,vp.ownBlock=some b->H.h.vp.ownBlock=some b\/w.heap.size<=b from λb hb=>(o2 b hb).imp id (λh=>bN SV h)) a2;have G1:=an (show GA w2 gb (H.at vp) (JI G G2)from by obtain⟨vb,vm,g1,os,om,pa⟩:=HA.ga;have lt:=g1.lt;have au:¬cI H.h gb:=λh=>pa.cc g1 ax (.inr (.inr h));have K1:=(g1.up U1).az t2 (NF gb lt au);have KR:∀{α:Type}{f:α->List ah}{k:Nat}{e:Aab}{v:ah}{xs:List α},ak f k e w 0 v xs->(∀b,v.ownBlock=some b->¬cI H.h b)->ak f k e w2 0 v xs:=λh hn=>ak.az (ak.up h U1) t2 (λb hb=>NF b (h.aN b hb).2 (hn b hb));have aB:=KR om (λb hb h=>ez pa om b hb (.inr (.inr h)));obtain⟨ys,y1,y2,y3⟩:=os;have ao:bq w2 0 vb G.l:=⟨ys,y1,KR y2 (λb hb h=>BM pa y2 b hb (.inr (.inr h))),λy hy=>KR (y3 y hy) (λb hb h=>ez pa (y3 y hy) b hb (.inr (.inr h)))⟩;have al:=pa.e5;have aA:¬cI H.h H.pb:=pa.sX;have av:¬cI H.h H.mb:=pa.sQ;have PB:=(al.up U1).az t2 (NF _ al.lt aA);have MB:ck w2 H.mb G.P.s:=a7.az (ck.up pa.map U1) t2 (NF _ (pa.lt _ (.inr (.inl rfl))) av);exact⟨vb,vm,K1,ao,aB,⟨PB,MB,a2.pa.dev⟩⟩)
 clear a2 t2 o2 HC PN HD NF;by_cases hr:r=0
 ·subst hr;have c5:w2.cell? ⟨w1.heap.size,0,none⟩=some (.pointer (some ⟨gb',0,none⟩)):=aq.cell 0;have aI:=an hR;refine MP ?_;intro cp BQ GQ fp;clear hR;go_wp2_with fail;have TQ:=Touch.bg (F:=(·=p)) GQ (λk hk=>oI);have AQ:=A2.other BP ax ax ax ax TQ;go_ret;exact⟨0,G2,vp,gb',⟨pb,mb,{H.h with vp:=vp}⟩,rfl,aI,rfl,.inl ⟨rfl,⟨BQ,AQ⟩⟩,T2.trans (TQ.mono (F':=λk=>cI H.h k\/k=p) (λ_ h=>.inr h)) (λ_ h _=>h),rK.of rfl O2 (.inr H2) (.inr H3)⟩
 ·have nz:(r != 0)=true:=by simp[hr]
  obtain⟨aI,HR⟩:=aw hR hr;clear hR hr;go_wp2_with fail;go_ret;exact⟨r,G2,vp,gb,H.at vp,rfl,aI,rfl,.inr ⟨HR,⟨BP,G1⟩⟩,T2,rK.of rfl O2 (.inl rfl) (.inl rfl)⟩
def jv(G:ch)(X:Except Nat (Nat × List al))(f:ch->ch)(fit:Bool)(r:Int)(G2:ch):Prop:=(∃n:Nat,X=.error n/\r=(n:Int)/\n≠0/\G2=G)\/(∃nx l',X=.ok (nx,l')/\G2=f {G with next:=nx,l:=l'}/\r=if fit=true then tL G2 else 0)
structure vJ(X:Except Nat (Nat × List al)):Prop where
 nz:∀n,X=.error n->n≠0
 ok:∀nx l',X=.ok (nx,l')->nx<18446744073709551616/\(κ l')<=1000/\(∀x∈l',x.wf)/\∀x∈l',κ x.dead*24<=140737488355328
theorem Ve(w:af)(gb:Nat)(H:aP)(G:ch)(A:GA w gb H G)(hl:κ G.l<=1000)(hr:∀x∈G.l,κ x.dead*24<=140737488355328)(vF:κ G.ms<=100000)(hn:G.next<=100000000)(aE:G.P.st<=100000000)(c1:Nat)(c2:Nat)(full:List aj)(N:Int)(hf:κ full<=9223372036854775807)(h1:w.cell? ⟨c1,0,none⟩=some (.string (strOf full)))(h2:w.cell? ⟨c2,0,none⟩=some (.int .i64 N))(X:Except Nat (Nat × List al))(hX:X=cG G.next G.l full N)(K:vJ X):Aae Aag 40 #[lD gb,.pointer (some ⟨c1,0,none⟩),.pointer (some ⟨c2,0,none⟩)] w (zt gb H (jv G X id true) w):=by
 subst hX;have s:=Fr.start w;go_in;go_wp2_with(refine fw s ?_;intro _ w s);refine(Bw w gb H G (A.up s.pure) hl hr hn).mono ?_;refine eE ?_;intro w u s;go_wp2_with(refine fw s ?_;intro _ w s);refine kb s (λw s=>?_);repeat refine kt ?_
 refine kj 3 ?_;refine kj 4 ?_;refine Df (λw _ s=>gy w gb H G (A.up s.pure) hl hr) ?_;rintro w _ s _ w'⟨v,rfl,os,u⟩;obtain⟨ys,e0,z⟩:=Rz.s os u s.t.size;have e:=an e0;clear e0;refine⟨_,_,rfl,z,?_⟩;repeat(first|refine kx ?_|refine kt ?_)
 refine Df (λw _ s=>zP w G.next _ G.l AU hl hr ae full hf N) ?_;rintro w _ s _ w'(⟨n,nx,va,vm,vc,hx,rfl,u⟩|⟨nx,l',v',hx,rfl,os,u⟩)
 ·exact T0
 ·obtain⟨a2,c2,rfl⟩:=os.cE.slice;obtain⟨zs,e2,z⟩:=Rz.s os u s.t.size;refine⟨_,_,rfl,z,?_⟩;repeat refine kt ?_
  refine kn (λ_ w u s=>?_);refine ks (λw s=>?_);refine kt ?_;refine kd (λw u s=>?_);obtain⟨k1,k2,k3,k4⟩:=K.ok nx l' hx;go_wp2_with(refine fw s ?_;intro _ w s);have g6:=s.cE (ys:=zs);rw[e2]at g6;refine(pS w gb H G (A.up s.pure) nx _ l' g6.cE k2 k4).mono ?_;rintro e w6⟨rfl,a6,t6⟩;obtain⟨aa,ab,g1,_⟩:=A.up s.pure;have c:=s.e5 (t:=100) gR;replace c:=c.az t6 (fj c g1 ax);refine NH ?_;intro T s;have rg:=c.range;go_wp2_with(refine fw s ?_;intro _ w s);obtain⟨r,hr0⟩:∃r:Int,r=tL (id {G with next:=nx,l:=l'}):=⟨_,rfl⟩;exact T5
theorem ZJ(w:af)(gb:Nat)(H:aP)(G:ch)(A:GA w gb H G)(hl:κ G.l<=1000)(hr:∀x∈G.l,κ x.dead*24<=140737488355328)(vF:κ G.ms<=100000)(hn:G.next<=100000000)(aE:G.P.st<=100000000)(c1:Nat)(full:List aj)(hf:κ full<=9223372036854775807)(h1:w.cell? ⟨c1,0,none⟩=some (.string (strOf full)))(X:Except Nat (Nat × List al))(hX:X=eX G.next G.l full G.P.st)(K:vJ X):Calls prog 126 #[lD gb,.pointer (some ⟨c1,0,none⟩)] w (zt gb H (jv G X (λg:ch=>{g with P:={g.P with st:=g.P.st+1}}) true) w):=by
 subst hX;have s:=Fr.start w;go_in;go_wp2_with(refine fw s ?_;intro _ w s);refine(ia w gb H G (A.up s.pure)).mono ?_;rintro e _⟨rfl,rfl⟩;go_wp2_with(refine fw s ?_;intro _ w s);refine(oU w H G.P (A.up s.pure).pa).mono ?_;rintro e _⟨rfl,rfl⟩;have t9:((G.P.st:Int)>281474976710651)=False:=cz ae;go_wp2_with(refine fw s ?_;intro _ w s);refine(Bw w gb H G (A.up s.pure) hl hr hn).mono ?_;refine eE ?_;intro w u s;go_wp2_with(refine fw s ?_;intro _ w s);refine kb s (λw s=>?_);repeat refine kt ?_
 refine kj 3 ?_;refine kj 4 ?_;refine Df (λw _ s=>gy w gb H G (A.up s.pure) hl hr) ?_;rintro w _ s _ w'⟨v,rfl,os,u⟩;obtain⟨ys,e0,z⟩:=Rz.s os u s.t.size;have e:=an e0;clear e0;refine⟨_,_,rfl,z,?_⟩;repeat(first|refine kx ?_|refine kt ?_)
 refine Df (λw _ s=>IL w G.next _ G.l AU hl hr ae full hf G.P.st ae) ?_;rintro w _ s _ w'(⟨n,nx,va,vm,vc,hx,rfl,u⟩|⟨nx,l',v',hx,rfl,os,u⟩)
 ·exact T0
 ·obtain⟨a2,c2,rfl⟩:=os.cE.slice;obtain⟨zs,e2,z⟩:=Rz.s os u s.t.size;refine⟨_,_,rfl,z,?_⟩;repeat refine kt ?_
  refine kn (λ_ w u s=>?_);refine ks (λw s=>?_);refine kt ?_;refine kd (λw u s=>?_);obtain⟨k1,k2,k3,k4⟩:=K.ok nx l' hx;go_wp2_with(refine fw s ?_;intro _ w s);have g6:=s.cE (ys:=zs);rw[e2]at g6;refine(pS w gb H G (A.up s.pure) nx _ l' g6.cE k2 k4).mono ?_;rintro e w6⟨rfl,a6,t6⟩;obtain⟨aa,ab,g1,_⟩:=A.up s.pure;have c:=s.e5 (t:=100) gR;replace c:=c.az t6 (fj c g1 ax);refine NH ?_;intro T s;have c0:=c.cell 0;go_wp2_with(refine fw s ?_;intro _ w s);refine(ia _ gb H _ (a6.up s.pure)).mono ?_;rintro e _⟨rfl,rfl⟩;go_wp2_with(refine fw s ?_;intro _ w s);refine(Qt _ H _ (a6.up s.pure).pa (by show G.P.st<_;omega)).mono ?_;rintro e w7⟨rfl,p7,t7⟩;have c:=(c.up s.pure).az t7 ((a6.up s.pure).pa.cc (c.up s.pure) ax);have a6:GA w7 gb H ((λg:ch=>{g with P:={g.P with st:=g.P.st+1}}) {G with next:=nx,l:=l'}):=(a6.up s.pure).n4 H.h.vp p7 t7;obtain⟨T,s,rg⟩:=db ((T.iK s.pure).trans (t7.mono (F':=λk=>PF H k\/k=gb) (λ_ h=>.inl h)) (λ_ h _=>h)) (Fr.start w7) c.range;go_wp2_with(refine fw s ?_;intro _ w s);obtain⟨r,hr0⟩:∃r:Int,r=tL ((λg:ch=>{g with P:={g.P with st:=g.P.st+1}}) {G with next:=nx,l:=l'}):=⟨_,rfl⟩;exact T5
theorem Bt{l m:List al}(h:l.map (·.id)=m.map (·.id))(id:Nat):aV l id=aV m id:=by
 have:∀l:List al,aV l id=(l.map (·.id)).findIdx? (λx=>decide (x=id)):=λl=>by unfold aV gV;rw[List.findIdx?_map];rfl
 grind
theorem rA(hk:k<κ l)(x:al)(j:Nat):recAt (l.set k x) j=if j=k then x else recAt l j:=by grind [recAt]
theorem DD(h:ph l)(hk:k<κ l)(q:au):mn l (recAt l k).id q=l.set k {recAt l k with root:=q}:=by
 have key:∀j(h2:j<κ l),RD (recAt l k).id q l[j]=if k=j then {recAt l k with root:=q} else l[j]:=λj h2=>by
  rw[iF h2];unfold RD;by_cases e:k=j
  ·simp_all
  ·rw[aM e,aM (λe2=>e (h.mm hk h2 (h.inj (aJ hk) (aJ h2) e2.symm)))]
 apply wj;grind [mn]
theorem hK.ZY{next:Nat}(F:hK next l)(hk:k<κ l){x':al}(e:x'.id=(recAt l k).id)(e2:x'.prev=(recAt l k).prev)(hs:(recAt l k).aU=false):bZ (l.set k x') (recAt l k).id=wQ l (recAt l k).prev:=by
 have hm:=aJ hk;obtain⟨i,hi,h1,h2⟩:=ca F.gk hm;have ik:i=k:=F.gk.mm hi hk h2;subst ik;have P:∀id,aV (l.set i x') id=aV l id:=Bt (Eo e);by_cases h0:(recAt l i).prev=0
 ·rw[Ac (i:=i) aa uq,h0,F.ZX]
 ·obtain⟨y,hy,ey,au,_⟩:=F.pv _ hm h0;obtain⟨j,hj,h3,h4⟩:=ca F.gk hy;have ji:j≠i:=λe=>by rw[<-h4,e,hs]at au;cases au
  rw[Ad (i:=i) (j:=j) aa uq uq,rA hk,aM ji,h4,<-ey,Lm F.gk hy]
structure Yl(P P3:bu)(root:au)(i:Nat)(t m b:au):Prop where
 u:zw P.C P3.C root i P.st t m b
 st:P3.st=P.st
 ba:P3.ba=P.ba
 len:κ P3.C=κ P.C
 Qi:∀j,P.s j≠1->P3.C[j]?=P.C[j]?
 new:∀q,q≠hole->(q=t\/q=m\/q=b)->4<=q.loc/\q.loc<1024/\P.s q.loc.toNat=1/\P3.s q.loc.toNat=2
 dis:∀q q',q≠hole->q'≠hole->(q=t\/q=m\/q=b)->(q'=t\/q'=m\/q'=b)->q.loc=q'.loc->q=q'
 sl:∀j:Nat,(∀q,q≠hole->(q=t\/q=m\/q=b)->q.loc≠(j:Int))->P3.s j=P.s j
section
variable {G:ch}
theorem bm.GL(I:bm G){k:Nat}(hk:k<κ G.l)(hs:(recAt G.l k).aU=false){P3:bu}{i:Nat}(hi:i<64){t m b:au}(K:Yl G.P P3 (recAt G.l k).root i t m b){old:List au}(hold:∀p,p∈old↔p≠hole/\(p=(recAt G.l k).root\/p=eD G.P.C (recAt G.l k).root (1+i/8)\/p=eD G.P.C (recAt G.l k).root (9+i)))(aY:old.Nodup):∃d gone,pZ G.next (mn G.l (recAt G.l k).id t) (recAt G.l k).id old=.ok (G.next,G.l.set k {recAt G.l k with root:=t,dead:=d},gone)/\(κ gone)<=3/\PW d/\(κ d)<=73/\(∀p∈d,p.wf)/\(κ d<=κ (recAt G.l k).dead+3/\cD {recAt G.l k with root:=t,dead:=d}=true)/\
  (eS {G with P:={P3 with s:=bJ P3.s P3.ba gone},l:=G.l.set k {recAt G.l k with root:=t,dead:=d}}=true->bm {G with P:={P3 with s:=bJ P3.s P3.ba gone},l:=G.l.set k {recAt G.l k with root:=t,dead:=d}}):=by
 obtain⟨v,hv⟩:=bK (recAt G.l k);have vm:v∈G.l:=by grind [aJ]
 obtain⟨F,SI,TV⟩:=db I.hE I.si (I.tr v vm);obtain⟨aH,aD⟩:=aA (F.ZY (x':={recAt G.l k with root:=t}) hk rfl rfl hs) (DD F.gk hk t);rw[<-hv]at K hold hs aH aD ⊢;have oldIn:∀p,p∈old->gb G.P.C v.root p:=λp hp=>by
  obtain⟨hn,h⟩:=(hold p).mp hp;rcases h with h|h|h
  ·exact⟨hn,0,ae,h.symm⟩
  ·exact⟨hn,1+i/8,ae,h.symm⟩
  ·exact⟨hn,9+i,ae,h.symm⟩
 have bl:∀p∈old,1<=p.aT:=λp hp=>(SI.brt v vm p (oldIn p hp)).1;have NW:∀p,1<=p.aT->(cP G.l v p↔wQ G.l v.prev<p.aT):=λp hp=>F.UU vm hp;have aG:PW v.dead:=qm ((bH v).mp (F.rt v vm)).2.2.2.2.2.2.2.1;have az:∀q∈old,q ∉ v.dead:=λq hq hd=>by
  by_cases h0:v.prev=0
  ·rw[F.pz v vm h0]at hd;cases hd
  ·obtain⟨y,hy,e,_⟩:=F.pv v vm h0;exact((SI.dd v vm y hy e q).mp hd).2 (oldIn q hq)
 have ol:κ old<=3:=by
  have:=ei old [v.root,eD G.P.C v.root (1+i/8),eD G.P.C v.root (9+i)] aY (λp hp=>by rcases((hold p).mp hp).2 with h|h|h<;>simp[h])
  omega
 obtain⟨d,k1,k2,k3⟩:=pY (fl:=wQ G.l v.prev) old v.dead [] aG (λq hq=>L2.mpr ⟨((hold q).mp hq).1,((oldIn q hq).pR TV.pR).2⟩) aY az (by have:=I.mV vm;omega);rw[Aay]at k1;obtain⟨gone,an⟩:=bK (old.filter (λq=>decide (wQ G.l v.prev<q.aT)));rw[<-an]at k1;have gm:∀p,p∈gone↔p∈old/\cP G.l v p:=λp=>aa
 have dm:∀p,p∈d↔p∈v.dead\/(p∈old/\¬cP G.l v p):=λp=>aQ
 obtain⟨v2,ao⟩:∃v2:al,v2={v with root:=t,dead:=d}:=⟨_,rfl⟩;obtain⟨l2,aB⟩:=bK (G.l.set k v2);have mem:∀z,z∈l2↔z=v2\/(z∈G.l/\z≠v):=λz=>by rw[aB,mem_set F.gk hk,<-hv]
 have e1:aV (mn G.l v.id t) v.id=some k:=by obtain⟨j,hj,h1,h2⟩:=ca F.gk vm;have:j=k:=F.gk.mm hj hk (h2.trans hv);grind [Bt,Eo]
 have KX:pZ G.next (mn G.l v.id t) v.id old=.ok (G.next,l2,gone):=by
  have e2:recAt (mn G.l v.id t) k={v with root:=t}:=uq
  have e3:bZ (mn G.l v.id t) v.id=wQ G.l v.prev:=aa
  rw[Ez (i:=k) (d:=d) (gone:=gone) e1 aa,e2,aD,wk,aB,ao];rfl
 refine⟨d,gone,aa,?_,k2,?_,?_,?_,?_⟩
 ·grind
 ·by_cases h0:v.prev=0
  ·have:d=[]:=List.eq_nil_iff_forall_not_mem.mpr (λp hp=>by
    rcases(dm p).mp hp with h|⟨_,h⟩
    ·rw[F.pz v vm h0]at h;cases h
    ·exact h (λy hy e=>Fo))
   simp_all
  ·obtain⟨y,hy,e,_⟩:=F.pv v vm h0;have:=ei d ((Aaj 73).map (eD G.P.C y.root)) k2.nodup (λp hp=>by refine NX ?_;intro aq;obtain⟨_,a,ha,ea⟩:=aq;exact List.mem_map.mpr ⟨a,List.mem_range.mpr ha,ea⟩)
   assumption
 ·intro p hp;rcases(dm p).mp hp with h|⟨h,_⟩
  ·exact(I.wf v vm).2.2.2.2.2.2 p h
  ·exact((oldIn p h).pR TV.pR).1
 ·have dl:κ d<=κ v.dead+3:=by have:=ei d (v.dead++old) k2.nodup (λp hp=>List.mem_append.mpr (((dm p).mp hp).imp id (λh=>h.1)));grind
  refine⟨dl,(bH _).mpr ?_⟩;obtain⟨r1,r2,r3,r4,r5,r6,r7,r8,r9⟩:=(bH v).mp (F.rt v vm);have aK:=I.mV vm;refine⟨r1,r2,r3,r4,r5,K.u.pR.2,ab,Iy k2 (λp hp=>?_),r9⟩;rcases(dm p).mp hp with h|⟨h,_⟩
  ·exact wI r8 h
  ·exact L2.mpr ⟨((hold p).mp h).1,((oldIn p h).pR TV.pR).2⟩
 intro aj;rw[<-ao,<-aB]at aj ⊢;have KC:=λ(z:al) (hz:z∈G.l)=>I.L' K.Qi hz;have same:∀z∈G.l,∀p,gb P3.C z.root p↔gb G.P.C z.root p:=λz hz p=>I.YJ K.Qi hz p;have aN:∀p,gb G.P.C v.root p->p.aT<=G.P.st:=λp hp=>(SI.brt v vm p hp).2;have aE:eC P3.C t:=K.u.tree TV hi aN;have aO:v2.root=t:=by rw[ao]
 have av:∀p,gb P3.C v2.root p↔(p≠hole/\(p=t\/p=m\/p=b))\/(gb G.P.C v.root p/\¬p∈old):=λp=>by
  rw[aO,K.u.mem TV hi p];constructor
  ·grind
  ·rintro(⟨hn,h|h|h⟩|⟨h,ho⟩)
   ·simp_all
   ·simp_all
   ·simp_all
   ·exact⟨h.1,.inr (.inr (.inr ⟨h,λe=>ho ((hold p).mpr ⟨h.1,.inl e⟩),λe=>ho ((hold p).mpr ⟨h.1,.inr (.inl e)⟩),λe=>ho ((hold p).mpr ⟨h.1,.inr (.inr e)⟩)⟩))⟩
 have ax:∀p,(p≠hole/\(p=t\/p=m\/p=b))->p.aT=G.P.st/\∀z∈G.l,∀q,gb G.P.C z.root q->q.loc≠p.loc:=λp hp=>by
  refine⟨?_,λz hz q hq e=>?_⟩
  ·rcases hp.2 with h|h|h
   ·rw[h];exact(K.u.nt aa).1
   ·rw[h];exact(K.u.nm aa).1
   ·rw[h];exact(K.u.nb aa).1
  ·obtain⟨h1,h2⟩:=aA (I.taken hz hq) ((K.new p hp.1 hp.2).2.2.1);simp_all
 have aM:1<=G.P.st:=by have:=I.sb;omega
 obtain⟨aL,alone⟩:=SI.GL F (M':=gb P3.C) vm hs mem (·∈old) (λp=>p≠hole/\(p=t\/p=m\/p=b)) same av oldIn ax (λp q hp hq e=>K.dis p q hp.1 hq.1 hp.2 hq.2 e) aM aa (λp=>aa) aa aa;have sh:G.next<=281474976710655/\(κ l2)<=32/\∀x∈l2,cD x=true:=by unfold eS at aj;rw[decide_eq_true_eq]at aj;exact(lF aj.1).1
 have aP:v2∈l2:=(mem v2).mpr (.inl rfl);have gl:∀q∈gone,q≠hole:=λq hq=>((hold q).mp ((gm q).mp hq).1).1;have ag:∀p∈gone,∀q∈G.ms,q.loc≠p.loc:=λp hp q hq e=>I.mx q hq v vm p (oldIn p ((gm p).mp hp).1) e.symm;have aw:∀j:Nat,(∃q,(q≠hole/\(q=t\/q=m\/q=b))/\q.loc=(j:Int))->P3.s j=2/\G.P.s j=1:=λj ⟨q,hq,e⟩=>by have:=K.new q hq.1 hq.2;rw[e]at this;exact⟨this.2.2.2,this.2.2.1⟩
 have aI:∀j,j<1024->(P3.s j=2↔((∃z∈G.l,∃p,gb G.P.C z.root p/\p.loc=(j:Int))\/(∃q,(q≠hole/\(q=t\/q=m\/q=b))/\q.loc=(j:Int)))\/∃q∈G.ms,q.loc=(j:Int)):=λj hj=>by
  by_cases hx:∃q,(q≠hole/\(q=t\/q=m\/q=b))/\q.loc=(j:Int)
  ·grind
  ·rw[K.sl j (λq h1 h2 e=>hx ⟨q,⟨h1,h2⟩,e⟩),I.s2 j hj];grind
 have P0:∀j,P3.s j=0↔G.P.s j=0:=λj=>by
  by_cases hx:∃q,(q≠hole/\(q=t\/q=m\/q=b))/\q.loc=(j:Int)
  ·grind
  ·rw[K.sl j (λq h1 h2 e=>hx ⟨q,⟨h1,h2⟩,e⟩)]
 have aF:∀j,P3.s j<=3:=λj=>by
  by_cases hx:∃q,(q≠hole/\(q=t\/q=m\/q=b))/\q.loc=(j:Int)
  ·grind
  ·rw[K.sl j (λq h1 h2 e=>hx ⟨q,⟨h1,h2⟩,e⟩)];exact I.s3 j
 refine⟨?_,?_,λz hz=>?_,I.md,?_,λq hq z hz p hp=>?_,λj=>?_,?_,λj=>?_,?_,?_,?_,aj⟩
 ·refine F.back ⟨sh.1,sh.2.1,sh.2.2⟩ ?_ vm mem aQ (λh0=>?_) (λy hy e p hp=>?_) aQ aQ aQ aQ aQ
  ·show ph l2;rw[aB];exact rF F.gk aQ
  ·rw[ao];exact List.eq_nil_iff_forall_not_mem.mpr (λp hp=>by
    rcases(dm p).mp hp with h|⟨_,h⟩
    ·rw[F.pz v vm h0]at h;cases h
    ·exact h (λy hy e=>Fo))
  ·rw[ao]at hp;have ad:=F.e9 vm hy e;refine NX ?_;intro aq;exact(SI.sn y hy ad.1).2 p aq
 ·show h6 P3.st l2 (gb P3.C);rw[K.st];exact aL
 ·grind
 ·show ∀q∈G.ms,4<=q.loc/\q.loc<1024/\q.aT<=P3.ba;rw[K.ba];exact I.ml
 ·rcases(mem z).mp hz with rfl|⟨hz1,_⟩
  ·rcases(av p).mp hp with h|h
   ·intro e;obtain⟨h1,h2⟩:=aA (I.re hq) ((K.new p h.1 h.2).2.2.1);grind
   ·exact I.mx q hq v vm p h.1
  ·exact I.mx q hq z hz1 p ((same z hz1 p).mp hp)
 ·show bJ P3.s P3.ba gone j=0↔(j<4\/κ P3.C<=j);rw[hQ,P0,K.len];exact I.s0 j
 ·refine BQ (R:=λj=>(∃z∈G.l,∃p,gb G.P.C z.root p/\p.loc=(j:Int))\/(∃q,(q≠hole/\(q=t\/q=m\/q=b))/\q.loc=(j:Int))) aI gl ?_ ?_ ?_
  ·grind
  ·rintro j hj(⟨z,hz,p,hp,e⟩|⟨q,hq,e⟩)
   ·by_cases ak:z=v
    ·subst ak;by_cases ho:p∈old
     ·by_cases ai:cP G.l z p
      ·grind
      ·refine .inl ?_;unfold cP at ai;simp only[Acm]at ai;obtain⟨y,hy,ey,hle⟩:=ai;have ad:=F.e9 vm hy ey;have aC:y≠z:=λe2=>by rw[e2,hs]at ad;cases ad.1
       exact⟨y,(mem y).mpr (.inr ⟨hy,aC⟩),p,(same y hy p).mpr (SI.el z vm y hy ey p hp ae),e⟩
     ·grind
    ·grind
   ·grind
  ·grind
 ·by_cases hj:j<1024
  ·grind [vR]
  ·show bJ P3.s P3.ba gone j<=3;have:G.P.s j=0:=(I.s0 j).mpr (.inr (by have:=I.ln.2;omega));grind [hQ]
 ·show P3.ba<P3.st;rw[K.ba,K.st];exact I.sb
 ·show P3.st<=_;rw[K.st];exact I.st
 ·show 64<=κ P3.C/\(κ P3.C)<=1024;rw[K.len];exact I.ln
end
theorem tw{s s':Nat->Nat}:∀n,(∀k,k<n->s k=1->s' k=1)->gT s n<=gT s' n
 | 0,_=>aG _
 | n+1,h=>by
  have ih:=tw n (λk hk=>h k ae);have hn:=h n ae;unfold gT at ih ⊢;rw[Abz,ki,ki,Aaf,Aaf];by_cases h1:s n=1
  ·simp only[List.filter_cons,List.filter_nil,h1,hn h1,decide_true,if_true,Aal,Aa5];omega
  ·have:κ (List.filter (λk=>decide (s k=1)) [n])=0:=by simp[h1]
   omega
theorem hx(p:au)(n:Nat):e6 p n=true↔p≠hole/\n<p.aT:=by simp[e6]
theorem G6{C:List cN}(T:eC C root)(st:Nat)(p:au):p∈xU root (bF C root) (λk=>bF C (a6 (bF C root) k)) st↔gb C root p/\st<p.aT:=by
 have IT:∀k p,p∈xi (bF C root) (λk=>bF C (a6 (bF C root) k)) st k↔e6 (a6 (bF C root) k) st=true/\(p=a6 (bF C root) k\/(p∈bF C (a6 (bF C root) k)/\e6 p st=true)):=λk p=>by simp[xi]
 have IS:∀p,p∈jC (bF C root) (λk=>bF C (a6 (bF C root) k)) st 8↔∃k,k<8/\p∈xi (bF C root) (λk=>bF C (a6 (bF C root) k)) st k:=λp=>by simp[jC]
 unfold xU;constructor
 ·intro h;split at h
  ·rename_i hr;have hr:=(hx root st).mp hr;rcases List.mem_cons.mp h with rfl|h
   ·exact⟨⟨hr.1,0,ae,rfl⟩,hr.2⟩
   ·obtain⟨k,hk,h⟩:=(IS p).mp h;obtain⟨h1,h2⟩:=(IT k p).mp h;have h1:=(hx _ st).mp h1;rcases h2 with rfl|⟨h2,h3⟩
    ·exact⟨⟨h1.1,1+k,ae,df C root hk⟩,h1.2⟩
    ·have h3:=(hx _ st).mp h3;have hl:κ (bF C (a6 (bF C root) k))=8:=cH (T.S hk);obtain⟨j,hj,e⟩:=ls h2;have:=h7 C root (i:=8*k+j) ae;rw[show(8*k+j)/8=k from ae,show(8*k+j)%8=j from ae,df C root hk,rr _ j hj,e]at this;exact⟨⟨h3.1,9+(8*k+j),ae,this⟩,h3.2⟩
  ·cases h
 ·rintro⟨⟨hn,a,ha,rfl⟩,aE⟩;have ad:=(λa ha=>T.aba ha) a ha;have hr:root≠hole:=λe=>by rw[e,kV]at hn;exact hn rfl
  rw[bo ((hx root st).mpr ⟨hr,ae⟩),Aam];by_cases h0:a=0
  ·subst h0;exact .inl rfl
  right;rw[IS];by_cases h9:a<9
  ·have e:=df C root (k:=a-1) ae;rw[show 1+(a-1)=a from ae]at e;exact⟨a-1,ae,(IT _ _).mpr ⟨(hx _ st).mpr ⟨aa,aa⟩,.inl e⟩⟩
  ·have e:=h7 C root (i:=a-9) ae;rw[show 9+(a-9)=a from ae,df C root ae]at e;have ab:=T.aT a ae ha;unfold Br at ab;rw[aM h9,df C root ae]at ab;have hl:κ (bF C (a6 (bF C root) ((a-9)/8)))=8:=cH (T.S ae);refine⟨(a-9)/8,ae,(IT _ _).mpr ⟨(hx _ st).mpr ⟨(λe2=>by rw[e2,kD,gP]at e;exact hn e),ae⟩,.inr ⟨?_,(hx _ st).mpr ⟨hn,aE⟩⟩⟩⟩;grind [rr,bF,a6]
section
variable {G:ch}
theorem Pl{G G':ch}(hf:eS G=true)(h0:0<fe G')(h1:fe G'<=fe G)(hc:bp G.P.s<=bp G'.P.s)(hm:κ G'.ms=κ G.ms):eS G'=true:=by grind [eS]
theorem mS{s:Nat->Nat}{ba:Nat}(l:List au):bp s<=bp (bJ s ba l):=tw 1024 (λk _ h=>by grind [gU])
theorem bm.drop(I:bm G){l':List al}{gone:List au}(F':hK G.next l')(S':h6 G.P.st l' (gb G.P.C))(ab:∀p∈gone,∃z∈G.l,gb G.P.C z.root p)(ag:∀p∈gone,∀z∈l',¬gb G.P.C z.root p)(sub:∀z∈l',∃u∈G.l,u.root=z.root)(ah:∀z∈G.l,∀p,gb G.P.C z.root p->(∃z'∈l',gb G.P.C z'.root p)\/p∈gone)(hlen:cA l'<=cA G.l):bm {G with P:={G.P with s:=bJ G.P.s G.P.ba gone},l:=l'}:=by
 have gl:∀q∈gone,q≠hole:=λq hq=>by obtain⟨z,_,h⟩:=ab q hq;exact h.1
 have af:∀p∈gone,∀z∈l',∀q,gb G.P.C z.root q->q.loc≠p.loc:=λp hp z hz q hq e=>by obtain⟨u,hu,eu⟩:=sub z hz;obtain⟨x,hx,ad⟩:=ab p hp;have:=I.si.lc u hu x hx q p aa ad e;simp_all
 refine⟨F',S',λz hz=>?_,I.md,I.ml,λq hq z hz p hp=>?_,λj=>?_,?_,λj=>?_,I.sb,I.st,I.ln,?_⟩
 ·obtain⟨u,hu,e⟩:=sub z hz;rw[<-e];exact I.tr u hu
 ·obtain⟨u,hu,e⟩:=sub z hz;exact I.mx q hq u hu p aa
 ·show bJ G.P.s G.P.ba gone j=0↔_;rw[hQ];exact I.s0 j
 ·refine BQ (R:=λj=>∃z∈G.l,∃p,gb G.P.C z.root p/\p.loc=(j:Int)) I.s2 gl ?_ ?_ ?_
  ·grind
  ·grind
  ·rintro j hj⟨q,hq,e⟩p hp ep;obtain⟨x,hx,ad⟩:=ab p hp;exact I.mx q hq x hx p ad ae
 ·by_cases hj:j<1024
  ·exact vR gone (I.s3 j) gl hj
  ·show bJ G.P.s G.P.ba gone j<=3;have:G.P.s j=0:=(I.s0 j).mpr (.inr (by have:=I.ln.2;omega));grind [hQ]
 ·have h:=I.ft;have h0:0<fe G:=by grind [eS]
  obtain⟨k1,k2⟩:=Co (next':=G.next) (t:=κ G.P.C) (l':=l') ⟨F'.nx,F'.len,F'.rt⟩ h0 I.ln hlen;exact Pl h k1 k2 (mS gone) rfl
theorem Gp{x:al}(h:cD x=true){r:au}(hr:cw r=true):cD {x with root:=r,dead:=[]}=true:=by grind [bH,ja]
theorem bm.back(I:bm G){k j:Nat}(hk:k<κ G.l)(hs:(recAt G.l k).aU=false)(hj:j<κ G.l)(e:(recAt G.l j).id=(recAt G.l k).prev){gone:List au}(hg:∀p,p∈gone↔gb G.P.C (recAt G.l k).root p/\bZ G.l (recAt G.l k).id<p.aT):bm {G with P:={G.P with s:=bJ G.P.s G.P.ba gone},l:=G.l.set k (ir (recAt G.l k) (recAt G.l j))}:=by
 obtain⟨F,vm,ym⟩:=db I.hE (aJ hk) (aJ hj);obtain⟨mem,sm⟩:=aA (λz=>mem_set (x':=ir (recAt G.l k) (recAt G.l j)) (y:=z) F.gk hk) (GH hk (ir (recAt G.l k) (recAt G.l j)) nM);have ag:ph (G.l.set k (ir (recAt G.l k) (recAt G.l j))):=rF F.gk rfl;have ll:κ (G.l.set k (ir (recAt G.l k) (recAt G.l j)))<=32:=Ke
 generalize G.l.set k (ir (recAt G.l k) (recAt G.l j))=l' at *;generalize recAt G.l k=v at *;generalize recAt G.l j=y at *;have NW:∀p,gb G.P.C v.root p->(cP G.l v p↔bZ G.l v.id<p.aT):=λp hp=>Tr
 obtain⟨S',AL⟩:=I.si.back F vm hs ym e mem rfl rfl rfl hs rfl;have ad:=(F.e9 vm ym e).1;have aC:y≠v:=λh=>by rw[h,hs]at ad;cases ad
 refine I.drop ?_ S' (λp hp=>⟨v,vm,((hg p).mp hp).1⟩) (λp hp z hz=>?_) (λz hz=>?_) (λz hz p hp=>?_) ?_
 ·refine F.back ⟨F.nx,ll,λx hx=>?_⟩ ag vm mem rfl (λ_=>rfl) (λ_ _ _ p hp=>q3) rfl rfl rfl rfl rfl;rcases(mem x).mp hx with rfl|⟨h,_⟩
  ·exact Gp (F.rt v vm) ((bH y).mp (F.rt y ym)).2.2.2.2.2.1
  ·exact F.rt x h
 ·grind
 ·rcases(mem z).mp hz with rfl|⟨h,_⟩
  ·exact⟨y,ym,rfl⟩
  ·grind
 ·by_cases az:z=v
  ·subst az;by_cases hn:bZ G.l z.id<p.aT
   ·simp_all
   ·have aS:¬cP G.l z p:=λh=>hn ((NW p hp).mp h);unfold cP at aS;simp only[Acm]at aS;obtain⟨u,hu,eu,hle⟩:=aS;have uy:u=y:=F.gk.inj hu ym (eu.trans e.symm);subst uy;exact .inl ⟨u,(mem u).mpr (.inr ⟨ym,aC⟩),I.si.el z vm u ym e p hp ae⟩
  ·grind
 ·grind [cA,nM,ir]
theorem DY{l:List al}{id:Nat}:∀(n:Nat)(c:List Nat)(p:Nat),κ c<=κ (jX l id n c p).1
 | 0,c,p=>aG _
 | n+1,c,p=>by
  unfold jX;split
  ·exact aG _
  ·split
   ·exact aG _
   ·rename_i i _;split
    ·have:=DY (l:=l) (id:=id) n (c++[p]) (recAt l i).prev;rw[Aaf]at this;simp at this ⊢;exact Nat.le_of_succ_le this
    ·exact aG _
theorem hK.Xu{next:Nat}{l:List al}(F:hK next l){v:al}(hv:v∈l)(h0:v.aU=false)(hw:¬0<κ (gN l v.id).1):∀x∈l,x.aU=true->x.owner≠v.id:=by refine F.aaH hv h0 (λy hy e ho=>hw ?_);obtain⟨i,hi,h1,h2⟩:=ca F.gk hv;obtain⟨j,hj,h3,h4⟩:=ca F.gk hy;have:=F.L9 y hy;rw[Cc h1 aa,h2,<-e,DX ae h3 aa];have:=DY (l:=l) (id:=v.id) 31 ([]++[y.id]) (recAt l j).prev;exact this
theorem bm.tG(I:bm G){k:Nat}(hk:k<κ G.l)(hs:(recAt G.l k).aU=false)(hw:¬0<κ (gN G.l (recAt G.l k).id).1){gone:List au}(hg:∀p,p∈gone↔gb G.P.C (recAt G.l k).root p/\bZ G.l (recAt G.l k).id<p.aT):bm {G with P:={G.P with s:=bJ G.P.s G.P.ba gone},l:=G.l.eraseIdx k}:=by
 obtain⟨F,vm⟩:=aA I.hE (aJ hk);obtain⟨mem,sm⟩:=aA (λz=>mem_erase (y:=z) F.gk hk) (DR hk nM);have ag:ph (G.l.eraseIdx k):=DQ F.gk k;have ll:κ (G.l.eraseIdx k)<=32:=by rw[yN];have:=F.len;split<;>omega
 have no:=F.Xu vm hs hw;generalize G.l.eraseIdx k=l' at *;generalize recAt G.l k=v at *;have NW:∀p,gb G.P.C v.root p->(cP G.l v p↔bZ G.l v.id<p.aT):=λp hp=>Tr
 obtain⟨S',AL⟩:=I.si.tG F vm hs mem;refine I.drop (F.tG ag ll vm hs mem no) S' (λp hp=>⟨v,vm,((hg p).mp hp).1⟩) (λp hp z hz=>?_) (λz hz=>⟨z,((mem z).mp hz).1,rfl⟩) (λz hz p hp=>?_) ?_
 ·simp_all
 ·by_cases az:z=v
  ·subst az;by_cases hn:bZ G.l z.id<p.aT
   ·simp_all
   ·have aS:¬cP G.l z p:=λh=>hn ((NW p hp).mp h);unfold cP at aS;simp only[Acm]at aS;obtain⟨u,hu,eu,hle⟩:=aS;have ad:=(F.e9 vm hu eu).1;exact .inl ⟨u,(mem u).mpr ⟨hu,λh=>aa⟩,I.si.el z vm u hu eu p hp ae⟩
  ·grind
 ·grind [cA]
theorem bm.l4(I:bm G){i j:Nat}(hi:i<κ G.l)(hs:(recAt G.l i).aU=true)(hj:j<κ G.l)(e:(recAt G.l j).prev=(recAt G.l i).id)(eo:(recAt G.l j).owner=(recAt G.l i).owner)(only:∀z∈G.l,z.prev=(recAt G.l i).id->z=recAt G.l j):∃all,ea (k6 (bZ G.l (recAt G.l i).id) (recAt G.l j).dead) (recAt G.l i).dead=some all/\(κ all)<=4000/\
  bm {G with P:={G.P with s:=bJ G.P.s G.P.ba (hJ (bZ G.l (recAt G.l i).id) (recAt G.l j).dead)},l:=(G.l.set j (fm (recAt G.l j) all (recAt G.l i).prev)).eraseIdx i}:=by
 obtain⟨F,ym,jm⟩:=db I.hE (aJ hi) (aJ hj);have ij:i≠j:=λh=>by have:=(F.e9 jm ym e.symm).2;simp_all
 obtain⟨y,hy⟩:=bK (recAt G.l i);obtain⟨n,hn⟩:=bK (recAt G.l j);rw[<-hy]at hs e eo only ym;rw[<-hn]at e eo only jm;have pn:PW n.dead:=qm ((bH n).mp (F.rt n jm)).2.2.2.2.2.2.2.1;obtain⟨fy,fn,dn⟩:=db (λp hp=>wI ((bH y).mp (F.rt y ym)).2.2.2.2.2.2.2.1 (p:=p) hp) (λp hp=>wI ((bH n).mp (F.rt n jm)).2.2.2.2.2.2.2.1 (p:=p) hp) (I.si.dd n jm y ym e.symm);have NW:∀p,gb G.P.C y.root p->(cP G.l y p↔bZ G.l y.id<p.aT):=λp hp=>by rw[F.floor ym];exact F.UU ym (I.si.brt y ym p hp).1
 have dy:∀p∈y.dead,¬gb G.P.C y.root p:=λp hp=>by
  by_cases h0:y.prev=0
  ·rw[F.pz y ym h0]at hp;cases hp
  ·obtain⟨u,hu,eu,_⟩:=F.pv y ym h0;exact((I.si.dd y ym u hu eu p).mp hp).2
 have po:PW (k6 (bZ G.l y.id) n.dead):=pn.sublist List.filter_sublist;have om:∀p,p∈k6 (bZ G.l y.id) n.dead↔p∈n.dead/\¬cP G.l y p:=λp=>by grind [k6]
 have gm:∀p,p∈hJ (bZ G.l y.id) n.dead↔p∈n.dead/\cP G.l y p:=λp=>by grind [hJ]
 rcases sR _ _ _ (aG _) po (qm ((bH y).mp (F.rt y ym)).2.2.2.2.2.2.2.1)with⟨⟨p,h1,h2⟩,_⟩|⟨_,all,hm,pa,am⟩
 ·grind
 have ah:κ all<=κ n.dead+κ y.dead:=by have:=ei all (k6 (bZ G.l y.id) n.dead++y.dead) pa.nodup (λp hp=>List.mem_append.mpr ((am p).mp hp));grind [k6,bZ]
 obtain⟨jl,yl⟩:=aA (I.mV jm) (I.mV ym);refine⟨all,aQ,ae,?_⟩;rw[<-hy,<-hn];have aj:(fm n all y.prev).id=(recAt G.l j).id:=by rw[<-hn];rfl
 have aa:ph (G.l.set j (fm n all y.prev)):=rF F.gk aj;have ad:i<κ (G.l.set j (fm n all y.prev)):=ab
 have ri:recAt (G.l.set j (fm n all y.prev)) i=y:=uq
 have aq:n.id≠y.id:=λh=>by have h2:n=y:=F.gk.inj jm ym h;have:=(F.e9 jm ym e.symm).2;grind
 have mem:∀z,z∈(G.l.set j (fm n all y.prev)).eraseIdx i↔z=fm n all y.prev\/(z∈G.l/\z≠n/\z≠y):=λz=>by rw[mem_erase aa ad,mem_set F.gk hj,ri,<-hn];grind
 obtain⟨al,an⟩:=aA (GH hj (fm n all y.prev) nM) (DR ad nM);rw[ri]at an;rw[<-hn]at al;have ag:ph ((G.l.set j (fm n all y.prev)).eraseIdx i):=DQ aa i;have ll:κ ((G.l.set j (fm n all y.prev)).eraseIdx i)<=32:=by rw[yN,Aaz];have:=F.len;split<;>omega
 generalize(G.l.set j (fm n all y.prev)).eraseIdx i=l' at *;have j3:∀p,p∈(fm n all y.prev).dead↔(p∈n.dead/\¬cP G.l y p)\/p∈y.dead:=λp=>by show p∈all↔_;grind
 obtain⟨S',AL⟩:=I.si.l4 F ym hs jm e only mem rfl rfl j3 rfl rfl rfl;refine I.drop ?_ S' (λp hp=>⟨y,ym,((dn p).mp ((gm p).mp hp).1).1⟩) (λp hp z hz=>?_) (λz hz=>?_) (λz hz p hp=>?_) ?_
 ·refine F.l4 ⟨F.nx,ll,λx hx=>?_⟩ ag ym hs jm e eo only mem rfl (λh0=>?_) (λz hz ez p hp=>?_) rfl rfl rfl rfl rfl
  ·rcases(mem x).mp hx with rfl|⟨h,_⟩
   ·have h:=F.rt n jm;rw[bH]at h ⊢;obtain⟨h1,h2,h3,h4,h5,h6,h7,h8,h9⟩:=h;refine⟨h1,h2,((bH y).mp (F.rt y ym)).2.2.1,h4,h5,h6,by show κ all<=4000;omega,Iy pa (λp hp=>?_),h9⟩;grind
   ·exact F.rt x h
  ·refine List.eq_nil_iff_forall_not_mem.mpr (λp hp=>?_);rcases(j3 p).mp hp with⟨_,h⟩|h
   ·exact h (λu hu eu=>by have:=F.L9 u hu;omega)
   ·rw[F.pz y ym h0]at h;cases h
  ·have zs:=(F.e9 ym hz ez).1;refine(I.si.sn z hz zs).2 p ?_;rcases(j3 p).mp hp with⟨h1,h2⟩|h
   ·have:p.aT<=z.ar:=E9 λh3=>h2 (λu hu eu=>by rw[F.gk.inj hu hz (eu.trans ez.symm)];omega);exact I.si.el y ym z hz ez p ((dn p).mp h1).1 this
   ·exact((I.si.dd y ym z hz ez p).mp h).1
 ·grind
 ·rcases(mem z).mp hz with rfl|⟨h,_⟩
  ·exact⟨n,jm,rfl⟩
  ·grind
 ·by_cases hzn:z=n
  ·subst hzn;exact .inl ⟨_,(mem _).mpr (.inl rfl),hp⟩
  ·by_cases ak:z=y
   ·subst ak;by_cases ao:gb G.P.C n.root p
    ·exact .inl ⟨_,(mem _).mpr (.inl rfl),ao⟩
    ·have hd:=(dn p).mpr ⟨hp,ao⟩;by_cases ai:cP G.l z p
     ·grind
     ·unfold cP at ai;simp only[Acm]at ai;obtain⟨u,hu,eu,hle⟩:=ai;have us:=F.e9 ym hu eu;have h1:=I.si.el z ym u hu eu p hp ae;grind
   ·grind
 ·grind [cA,nM,fm]
end
theorem ob(s:Nat->Nat)(i x:Nat):e7 s i x i=x:=bo rfl
theorem o2{s:Nat->Nat}{i x j:Nat}(h:j≠i):e7 s i x j=s j:=aM h
section
variable {P:bu} {root:au} {i:Nat}
theorem XO(I:jw P root)(K:oi P)(hi:i<64)(b:cN){i1 i2 i3:Nat}(h1:P.s i1=1)(h2:e7 P.s i1 2 i2=1)(h3:e7 (e7 P.s i1 2) i2 2 i3=1){F S F' S':List au}(hF:F=bF P.C root)(hS:S=bF P.C (a6 F (i/8))){p1 p2 p3:au}(e1:p1=⟨(i1:Int),P.st,dO b⟩)(eS:S'=S.set (i%8) p1)(e2:p2=⟨(i2:Int),P.st,dO (bL S')⟩)(eF:F'=F.set (i/8) p2)(e3:p3=⟨(i3:Int),P.st,dO (bL F')⟩):Yl P (((P.put i1 b).put i2 (bL S')).put i3 (bL F')) root i p3 p2 p1/\fE (((P.put i1 b).put i2 (bL S')).put i3 (bL F')).C p1=some b:=by
 obtain⟨U,n12,n13,n23,s2,s3,B⟩:=XP I K hi b h1 h2 h3 hF hS e1 eS e2 eF e3;obtain⟨a1,b1⟩:=K.free i1 h1;obtain⟨a2,b2⟩:=K.free i2 s2;obtain⟨a3,b3⟩:=K.free i3 s3;have hl:=K.len;have SS:(((P.put i1 b).put i2 (bL S')).put i3 (bL F')).s=e7 (e7 (e7 P.s i1 2) i2 2) i3 2:=rfl;have CC:(((P.put i1 b).put i2 (bL S')).put i3 (bL F')).C=((P.C.set i1 b).set i2 (bL S')).set i3 (bL F'):=rfl;have w1:e7 (e7 (e7 P.s i1 2) i2 2) i3 2 i1=2:=by grind [o2,ob]
 have w2:e7 (e7 (e7 P.s i1 2) i2 2) i3 2 i2=2:=by rw[o2 n23,ob]
 have w3:e7 (e7 (e7 P.s i1 2) i2 2) i3 2 i3=2:=ob _ _ _;have l1:p1.loc=(i1:Int):=by rw[e1]
 have l2:p2.loc=(i2:Int):=by rw[e2]
 have l3:p3.loc=(i3:Int):=by rw[e3]
 have n1:p1≠hole:=lu
 have n2:p2≠hole:=lu
 have n3:p3≠hole:=lu
 refine⟨⟨U,rfl,rfl,aa,λj hj=>?_,λq _ hq=>?_,λq q' _ _ hq ab e=>?_,λj hj=>?_⟩,B⟩
 ·grind
 ·rw[SS];grind
 ·grind
 ·rw[SS,o2 (λe=>hj p3 n3 (.inl rfl) ae),o2 (λe=>hj p2 n2 (.inr (.inl rfl)) ae),o2 (λe=>hj p1 n1 (.inr (.inr rfl)) ae)]
theorem Q6(I:jw P root)(K:oi P)(hi:i<64){i1 i2:Nat}(h1:P.s i1=1)(h2:e7 P.s i1 2 i2=1){F S F' S':List au}(hF:F=bF P.C root)(hS:S=bF P.C (a6 F (i/8))){p2 p3:au}(eS:S'=S.set (i%8) hole)(e2:p2=⟨(i1:Int),P.st,dO (bL S')⟩)(eF:F'=F.set (i/8) p2)(e3:p3=⟨(i2:Int),P.st,dO (bL F')⟩):Yl P ((P.put i1 (bL S')).put i2 (bL F')) root i p3 p2 hole:=by
 obtain⟨U,n12,s2⟩:=Q9 I K hi h1 h2 hF hS eS e2 eF e3;obtain⟨a1,b1⟩:=K.free i1 h1;obtain⟨a2,b2⟩:=K.free i2 s2;have hl:=K.len;have SS:((P.put i1 (bL S')).put i2 (bL F')).s=e7 (e7 P.s i1 2) i2 2:=rfl;have CC:((P.put i1 (bL S')).put i2 (bL F')).C=(P.C.set i1 (bL S')).set i2 (bL F'):=rfl;have w1:e7 (e7 P.s i1 2) i2 2 i1=2:=by rw[o2 n12,ob]
 have w2:e7 (e7 P.s i1 2) i2 2 i2=2:=ob _ _ _;have l2:p2.loc=(i1:Int):=by rw[e2]
 have l3:p3.loc=(i2:Int):=by rw[e3]
 have n2:p2≠hole:=lu
 have n3:p3≠hole:=lu
 refine⟨U,rfl,rfl,aa,λj hj=>?_,λq hn hq=>?_,λq q' hn ag hq ab e=>?_,λj hj=>?_⟩
 ·grind
 ·rw[SS];grind
 ·grind
 ·rw[SS,o2 (λe=>hj p3 n3 (.inl rfl) ae),o2 (λe=>hj p2 n2 (.inr (.inl rfl)) ae)]
theorem Q5(I:jw P root)(K:oi P)(hi:i<64){i1:Nat}(h1:P.s i1=1){F S F':List au}(hF:F=bF P.C root)(hS:S=bF P.C (a6 F (i/8))){p3:au}(eS:fT (S.set (i%8) hole)=true)(eF:F'=F.set (i/8) hole)(e3:p3=⟨(i1:Int),P.st,dO (bL F')⟩):Yl P (P.put i1 (bL F')) root i p3 hole hole:=by
 have U:=Q8 I K hi h1 hF hS eS eF e3;obtain⟨a1,b1⟩:=K.free i1 h1;have hl:=K.len;have SS:(P.put i1 (bL F')).s=e7 P.s i1 2:=rfl;have CC:(P.put i1 (bL F')).C=P.C.set i1 (bL F'):=rfl;have l3:p3.loc=(i1:Int):=by rw[e3]
 have n3:p3≠hole:=lu
 refine⟨U,rfl,rfl,aa,λj hj=>?_,λq hn hq=>?_,λq q' hn ag hq ab e=>?_,λj hj=>?_⟩
 ·grind
 ·rw[SS];grind [ob]
 ·simp_all
 ·rw[SS,o2 (λe=>hj p3 n3 (.inl rfl) ae)]
theorem Q4(I:jw P root)(hi:i<64){F S:List au}(hF:F=bF P.C root)(hS:S=bF P.C (a6 F (i/8)))(eS:fT (S.set (i%8) hole)=true)(eF:fT (F.set (i/8) hole)=true):Yl P P root i hole hole hole:=⟨Q7 I hi hF hS eS eF,rfl,rfl,rfl,λ_ _=>rfl,λq hn hq=>aa,λq q' hn _ hq _ _=>aa,λ_ _=>rfl⟩
def Yl.read{P3:bu}{t m b:au}(K:Yl P P3 root i t m b)(hi:i<64){j:Nat}(hj:j<64):fE P3.C (eD P3.C t (9+j))=if j=i then fE P3.C b else fE P.C (eD P.C root (9+j)):=K.u.read hi hj
theorem Pq{l:List au}{p:au}:p∈jy l↔p∈l/\p≠hole:=by simp[jy]
theorem ZD(T:eC P.C root)(hi:i<64):(∀p,p∈jy [a6 (bF P.C (a6 (bF P.C root) (i/8))) (i%8),a6 (bF P.C root) (i/8),root]↔p≠hole/\(p=root\/p=eD P.C root (1+i/8)\/p=eD P.C root (9+i)))/\(jy [a6 (bF P.C (a6 (bF P.C root) (i/8))) (i%8),a6 (bF P.C root) (i/8),root]).Nodup:=by
 obtain⟨e1,e2⟩:=aA (df P.C root (k:=i/8) ae) (h7 P.C root hi);rw[e1]at e2;rw[<-e2,<-e1];refine⟨λp=>?_,?_⟩
 ·grind [Pq]
 ·have N:∀a b,a<73->b<73->a≠b->eD P.C root a≠hole->eD P.C root a≠eD P.C root b:=λa b ha hb hne hn e=>hne (T.inj a b ha hb e hn);have a0:eD P.C root 0=root:=rfl;grind [jy,eD,hole]
end
def aaI(C:List cN)(root:au)(i:Nat):List au:=jy [a6 (bF C (a6 (bF C root) (i/8))) (i%8),a6 (bF C root) (i/8),root]
def Yr(P:bu)(root:au)(i:Nat)(s:cN)(r:Int)(t:au)(old:List au)(P3:bu):Prop:=P3.m<=P.m+3/\((r=71/\P3=P/\bp P.s<3)\/(r=0/\((∃m b,Yl P P3 root i t m b/\fE P3.C b=some s/\old=aaI P.C root i)\/(P3=P/\t=root/\old=[]/\fE P.C (eD P.C root (9+i))=some s))))
def LQ(P:bu)(H:aP)(root:au)(i:Nat)(s:cN)(w:af)(e:Ab1)(w':af):Prop:=∃t va vm vc old r P3 vp,e=.returned (.tuple #[.agg (be t),.slice va vm vc,.int .i64 r])/\Yr P root i s r t old P3/\bf w' w.heap.size (.slice va vm vc) old/\PA w' (H.at vp) P3/\Touch (PF H) w w'/\∀b,vp.ownBlock=some b->H.h.vp.ownBlock=some b\/w.heap.size<=b
section
variable {P:bu} {H:aP} {root:au} {i:Nat} {w w':af} {e:Ab1}
theorem YZ.made(I:jw P root)(K:oi P)(hi:i<64){b:cN}(h:YZ P H root i b (bF P.C root) (bF P.C (a6 (bF P.C root) (i/8))) w e w'):LQ P H root i b w e w':=by
 rcases h with⟨hc,he,pg⟩|⟨hc,i1,i2,i3,v,l1,l2,l3,h1,h2,h3,he,ov,vp,pa,T,O⟩
 ·exact⟨root,none,0,0,[],71,P,H.h.vp,he,⟨ae,.inl ⟨rfl,rfl,hc⟩⟩,ak.nil _ _ _ _ _,pg.1,pg.2,λ_ h=>.inl h⟩
 ·obtain⟨va,vc,rfl⟩:=(ak.row ov pw).slice;obtain⟨C,B⟩:=XO I K hi b h1 h2 h3 rfl rfl rfl rfl rfl rfl rfl;refine⟨_,va,_,vc,_,0,_,vp,he,⟨?_,.inr ⟨rfl,.inl ⟨_,_,C,B,rfl⟩⟩⟩,ov,pa,T,O⟩;show P.m+1+1+1<=P.m+3;omega
theorem R0.made(I:jw P root)(K:oi P)(hi:i<64)(h:R0 P H root (i/8) (i%8) (bF P.C root) (bF P.C (a6 (bF P.C root) (i/8))) w e w'):LQ P H root i ep w e w':=by
 have EB:=h7 P.C root hi;rw[df P.C root ae]at EB;rcases h with⟨hh,he,pg⟩|⟨hh,hc,he,pg⟩|⟨hh,v,ov,h⟩
 ·exact⟨root,none,0,0,[],0,P,H.h.vp,he,⟨ae,.inr ⟨rfl,.inr ⟨rfl,rfl,rfl,by grind [je]⟩⟩⟩,ak.nil _ _ _ _ _,pg.1,pg.2,λ_ h=>.inl h⟩
 ·have h3:bp P.s<3:=by grind [qd]
  exact⟨root,none,0,0,[],71,P,H.h.vp,he,⟨ae,.inl ⟨rfl,rfl,h3⟩⟩,ak.nil _ _ _ _ _,pg.1,pg.2,λ_ h=>.inl h⟩
 ·obtain⟨va,vc,rfl⟩:=(ak.row ov pw).slice;rcases h with⟨hn,he,pg⟩|⟨hn,i1,l1,h1,he,vp,pa,T,O⟩|⟨hn,i1,i2,l1,l2,h1,h2,he,vp,pa,T,O⟩
  ·have e2:fT ((bF P.C (a6 (bF P.C root) (i/8))).set (i%8) hole)=true/\fT ((bF P.C root).set (i/8) hole)=true:=by grind [qd]
   exact⟨hole,va,_,vc,_,0,P,H.h.vp,he,⟨ae,.inr ⟨rfl,.inl ⟨_,_,Q4 I hi rfl rfl e2.1 e2.2,ay,rfl⟩⟩⟩,ov,pg.1,pg.2,λ_ h=>.inl h⟩
  ·have e2:fT ((bF P.C (a6 (bF P.C root) (i/8))).set (i%8) hole)=true:=by grind [qd]
   refine⟨_,va,_,vc,_,0,_,vp,he,⟨?_,.inr ⟨rfl,.inl ⟨_,_,Q5 I K hi h1 rfl rfl e2 rfl rfl,ay,rfl⟩⟩⟩,ov,pa,T,O⟩;show P.m+1<=P.m+3;omega
  ·refine⟨_,va,_,vc,_,0,_,vp,he,⟨?_,.inr ⟨rfl,.inl ⟨_,_,Q6 I K hi h1 h2 rfl rfl rfl rfl rfl rfl,ay,rfl⟩⟩⟩,ov,pa,T,O⟩;show P.m+1+1<=P.m+3;omega
end
def b9(x:al):al:={x with root:=hole,dead:=[]}
theorem QX(hk:k<κ l)(h:b9 x=b9 (recAt l k)):(l.set k x).map b9=l.map b9:=by rw[oH,h];apply wj;grind [b']
def rdI(G:ch)(id j:Nat):Option cN:=match aV G.l id with
 | none=>none
 | some k=>vG G.P.C (recAt G.l k) j
theorem zg(F:ph G.l)(hx:x∈G.l)(j:Nat):rdI G x.id j=vG G.P.C x j:=by grind [ca,rdI,vG,recAt]
structure aao(G G2:ch):Prop where
 mR:bp G.P.s<=bp G2.P.s+3
 ms:G2.ms=G.ms
 sl:cA G2.l<=cA G.l+48
 sh:G2.next<=281474976710655/\(κ G2.l)<=32/\∀x∈G2.l,cD x=true
 len:κ G2.P.C=κ G.P.C
def Yq(G:ch):Prop:=bp G.P.s<3\/∃G2,aao G G2/\eS G2=false
theorem Jy{s s':Nat->Nat}{L:List Nat}(h:∀j,j ∉ L->s' j=s j):bp s<=bp s'+κ L:=by
 have hn:((Aaj 1024).filter (λk=>decide (s k=1))).Nodup:=List.nodup_range.filter _;have:=ei _ ((Aaj 1024).filter (λk=>decide (s' k=1))++L) hn (λi hi=>by
  obtain⟨h1,h2⟩:=List.mem_filter.mp hi;by_cases hL:i∈L
  ·exact p6 _ hL
  ·exact oG _ (List.mem_filter.mpr ⟨h1,aa⟩))
 rw[Aaf]at this;exact this
structure kN(G:ch)(k i:Nat)(s:cN)(G2:ch):Prop where
 inv:eS G2=true->bm G2
 next:G2.next=G.next
 strip:G2.l.map b9=G.l.map b9
 st:G2.P.st=G.P.st
 m:G2.P.m<=G.P.m+3
 u:G2.u=G.u
 len:κ G2.P.C=κ G.P.C
 Qi:∀j,G.P.s j≠1->G2.P.C[j]?=G.P.C[j]?
 rd:∀x∈G2.l,∀j,j<64->vG G2.P.C x j=if x.id=(recAt G.l k).id/\j=i then some s else rdI G x.id j
 us:aao G G2
theorem bm.Oq(I:bm G)(hk:k<κ G.l)(hs:(recAt G.l k).aU=false)(hi:i<64){s:cN}{t:au}{old:List au}{P3:bu}(K:Yr G.P (recAt G.l k).root i s 0 t old P3):∃l2 gone,pZ G.next (mn G.l (recAt G.l k).id t) (recAt G.l k).id old=.ok (G.next,l2,gone)/\(κ old)<=3/\(κ gone)<=3/\(κ l2)<=32/\(∀x∈l2,κ x.dead<=73)/\(∀x∈l2,x.wf)/\kN G k i s {G with P:={P3 with s:=bJ P3.s P3.ba gone},l:=l2}:=by
 obtain⟨F,vm⟩:=aA I.hE (aJ hk);obtain⟨hm,K⟩:=K;rcases K with⟨h,_,_⟩|⟨_,⟨m,b,C,B,ho⟩|⟨hP,ht,ho,hb⟩⟩
 ·omega
 ·obtain⟨o1,o2⟩:=ZD (P:=G.P) (I.tr _ vm) hi;rw[show jy _=old from ho.symm]at o1 o2;obtain⟨d,gone,k1,k2,k3,k4,k5,⟨kd,kr⟩,k6⟩:=I.GL hk hs hi C o1 o2;have mem:=λz=>mem_set (x':={recAt G.l k with root:=t,dead:=d}) (y:=z) F.gk hk;refine⟨_,gone,k1,(by rw[ho];exact tO _),k2,Ke,λx hx=>?_,λx hx=>?_,⟨k6,rfl,QX hk rfl,C.st,hm,rfl,C.len,C.Qi,λx hx j hj=>?_,⟨?_,rfl,?_,⟨F.nx,Ke,λx hx=>?_⟩,C.len⟩⟩⟩
  ·rcases(mem x).mp hx with rfl|⟨h,_⟩
   ·exact k4
   ·exact I.mV h
  ·rcases(mem x).mp hx with rfl|⟨h,_⟩
   ·obtain⟨w1,w2,w3,w4,w5,w6,w7⟩:=I.wf _ vm;exact⟨w1,w2,w3,w4,w5,C.u.pR.1,k5⟩
   ·exact I.wf x h
  ·show vG P3.C x j=_;rcases(mem x).mp hx with rfl|⟨h,hne⟩
   ·show fE P3.C (eD P3.C t (9+j))=_;rw[C.read hi hj,zg F.gk vm];by_cases ab:j=i
    ·simp_all
    ·rw[aM ab,aM (λh=>ab h.2)];rfl
   ·rw[aM (λh2=>hne (F.gk.inj h vm h2.1)),zg F.gk h];exact I.YK C.Qi h hj
  ·refine bN (Jy (L:=[t.loc.toNat,m.loc.toNat,b.loc.toNat]) (λj hj=>C.sl j (λq hq h e=>?_))) (Nat.add_le_add_right (mS gone) 3);grind
  ·grind [GH,recAt,nM,cA]
  ·rcases(mem x).mp hx with rfl|⟨h,_⟩
   ·exact kr
   ·exact F.rt x h
 ·subst hP;subst ho;subst ht;have e1:mn G.l (recAt G.l k).id (recAt G.l k).root=G.l:=by
   rw[DD F.gk hk];have:({recAt G.l k with root:=(recAt G.l k).root}:al)=G.l[k]:=by rw[<-b' hk]
   simp_all
  obtain⟨k',aa,p1,p2⟩:=ca F.gk vm;have kk:k'=k:=F.gk.mm aa hk p2;subst kk;have e2:G.l.set k' (zQ (recAt G.l k') (recAt G.l k').dead)=G.l:=by
   have:zQ (recAt G.l k') (recAt G.l k').dead=G.l[k']:=by rw[<-b' aa];rfl
   simp_all
  refine⟨G.l,[],?_,bE _,bE _,F.len,λx hx=>I.mV hx,I.wf,⟨λ_=>I,rfl,rfl,rfl,hm,rfl,rfl,λ_ _=>rfl,λx hx j hj=>?_,⟨E' _ _,rfl,E' _ _,⟨F.nx,F.len,F.rt⟩,rfl⟩⟩⟩
  ·rw[e1,Ez (d:=(recAt G.l k').dead) (gone:=[]) p1 rfl,e2]
  ·rw[zg F.gk hx];split
   ·rename_i h;have:x=recAt G.l k':=F.gk.inj hx vm h.1;subst this;rw[h.2];exact hb
   ·rfl
section
variable {next nx n ar:Nat} {l l':List al} {full aa:List aj} {blocks:Int}
theorem lW{i:Nat}(h:dF l full=.ok i):i<κ l:=by
 unfold dF at h;split at h
 ·cases h
 ·split at h
  ·cases h
  ·rename_i i' hi;split at h
   ·cases h;exact(eP hi).1
   ·split at h
    ·cases h
    ·rename_i j hj;cases h;exact(eP hj).1
theorem w4(h:cG next l full blocks=.error n):n≠0:=sN
theorem oq(h:cG next l full blocks=.ok (nx,l')):∃fD,iL full=some fD/\(1<=blocks/\blocks<=64)/\(κ l)<32/\a1 l full=none/\nx=next+1/\l'=l++[dw next fD blocks]:=by grind [cG,fD]
theorem DL(h:eX next l full ar=.error n):n≠0:=qa
theorem Ju(h:l3 next l full aa=.error n):n≠0:=by unfold l3 at h;grind
theorem B8{n:Nat}(h:ec l full=.error n):n≠0:=by grind [tg]
theorem CP(h:gw next l full=.error n):n≠0:=by grind [gw,B8]
theorem tH(h:dQ next l full=.error n):n≠0:=by grind [dQ,B8]
theorem Cp(h:cr next l full=.error n):n≠0:=by unfold cr at h;grind
theorem tt{x:al}(h:gw next l full=.ok (nx,l',x)):∃i j,ec l full=.ok i/\aV l (recAt l i).prev=some j/\nx=next/\l'=l.set i (ir (recAt l i) (recAt l j))/\x=recAt l i:=by grind [gw]
theorem w9{x:al}(h:dQ next l full=.ok (nx,l',x)):∃i,ec l full=.ok i/\¬0<κ (gN l (recAt l i).id).1/\nx=next/\l'=l.eraseIdx i/\x=recAt l i:=by grind [dQ]
end
def jM(b:List aj):cN:=if h:κ b<=128 then eK b h else ep
def RI(G G2:ch):Prop:=κ G2.P.C=κ G.P.C/\(∀j,G.P.s j≠1->G2.P.C[j]?=G.P.C[j]?)/\G2.P.m<=G.P.m+3/\Yq G
theorem RI.refl(h:bp G.P.s<3):RI G G:=⟨rfl,λ_ _=>rfl,E' _ _,.inl h⟩
def j3(G:ch)(full:List aj)(N:Int)(aa:Bool)(s:cN)(r:Int)(G2:ch):Prop:=(∃n:Nat,iC G.l full N=.error n/\n≠0/\r=(n:Int)/\G2=G)\/(∃k,iC G.l full N=.ok k/\((aa=true/\r=92/\G2=G)\/(aa=false/\r=71/\RI G G2)\/(aa=false/\r=0/\kN G k N.toNat s G2/\eS G2=true)))
theorem Ow{full:List aj}(h:iC l full N=.error n):n≠0:=by grind [iC,e4]
theorem zm{next:Nat}(F:hK next l){full:List aj}(h:iC l full N=.ok k):k<κ l/\(recAt l k).aU=false/\0<=N/\N<(recAt l k).blocks/\dF l full=.ok k:=by
 unfold iC at h;split at h
 ·cases h
 ·rename_i vn hv;unfold e4 at h;split at h
  ·cases h
  ·rename_i k' hk;split at h
   ·cases h
   ·rename_i hb;cases h;refine⟨lW hk,?_,ae,ae,hk⟩;have ao:=hv;unfold iL at ao;split at ao
    ·rename_i v s hs;split at ao
     ·rename_i ag;unfold dF at hk;rw[hs]at hk;simp only at hk;split at hk
      ·cases hk
      ·rename_i i hi;rw[bo ag]at hk;cases hk;have h2:=eP hi;cases hsn:(recAt l k).aU with
       | false=>rfl
       | true=>have h3:=h2.2;unfold bY at h3;rw[hsn,bo rfl]at h3;have h4:(recAt l k).owner=0:=cb jt.owner h3;have:=((bH _).mp (F.rt _ (aJ h2.1))).2.1;omega
     ·cases ao
    ·cases ao
theorem XF(w:af)(gb:Nat)(H:aP)(G:ch)(A:GA w gb H G)(I:bm G)(hn:G.next<=100000000)(aE:G.P.st<=100000000)(hm:G.P.m<=700000)(c1:Nat)(c2:Nat)(c3:Nat)(full:List aj)(N:Int)(hf:κ full<=9223372036854775807)(ba:Option Addr)(bc:Nat)(b:List aj)(hb:a8 w (.slice ba (κ b) bc) b)(aX:∀k,(Acl ba (κ b) bc).ownBlock=some k->¬PF H k)(h1:w.cell? ⟨c1,0,none⟩=some (.string (strOf full)))(n1:¬PF H c1)(l1:c1<w.heap.size)(h2:w.cell? ⟨c2,0,none⟩=some (.int .i64 N))(n2:¬PF H c2)(l2:c2<w.heap.size)(h3:w.cell? ⟨c3,0,none⟩=some (.slice ba (κ b) bc))(n3:¬PF H c3)(l3:c3<w.heap.size):Aae Aag 45 #[lD gb,.pointer (some ⟨c1,0,none⟩),.pointer (some ⟨c2,0,none⟩),.pointer (some ⟨c3,0,none⟩)] w (zt gb H (j3 G full N (decide (128<κ b)) (jM b)) w):=by
 obtain⟨w0,rfl⟩:=bK w;have s:=Fr.n4 A.pa;go_in;go_wp2_with(refine fw s ?_;intro _ w s);refine(xv w gb H G (A.n4 H.h.vp s.pa s.t) I.hl I.hr full hf N).mono ?_;rintro e w(⟨n,hv,rfl,u⟩|⟨k,vd,hv,hkl,rfl,od,u⟩)
 ·exact UD
 ·have VA:=zm I.hE hv;obtain⟨da,dc,rfl⟩:=(ak.row od pw).slice;have s:=s.new (.q od u s.t.size);by_cases ab:128<κ b
  ·have b9:((κ b:Int)>128)=True:=eo ae;go_wp2_with(refine fw s ?_;intro _ w s);refine bB ?_;exact⟨92,G,H.h.vp,rfl,.inr ⟨k,hv,.inl ⟨gD ab,rfl,rfl⟩⟩,A.n4 H.h.vp s.pa s.t,s.t.mono (λ_ h=>.inl h),λ_ h=>.inl h⟩
  have b9:((κ b:Int)>128)=False:=cz ae;have ag:κ b<=128:=ae
  have ad:jM b=eK b ag:=dif_pos ag;go_wp2_with(refine fw s ?_;intro _ w s);refine NI ?_;intro TI aa;have TS:=an (λW (u:Touch (PF H) w0 W) (p:PA W H G.P)=>show Aae Aag 47 #[.pointer (some ⟨H.pb,0,none⟩),.agg (be (recAt G.l k).root),.int .i64 N,.slice ba (κ b) bc] W (LQ G.P H (recAt G.l k).root N.toNat (jM b) W)from by have:=VN W H G.P p (recAt G.l k).root N.toNat aa.out.1 _ _ TI.ok.F (TI.ok.S (by have:=aa.out.1;omega)) (.slice ba (κ b) bc) b (λw' T=>hb.az (u.trans T (λ_ h _=>h)) aX) ag ae I.qg.free I.qg.st.1 I.qg.st.2;rw[<-ad]at this;rw[show(N.toNat:Int)=N from aa.out.2.symm]at this;exact this.mono (λe w' h=>h.made TI I.qg aa.out.1))
  refine kpl s (λw s=>?_);repeat refine kt ?_
  refine kj 3 ?_;refine kj 4 ?_;refine kj 5 ?_;refine kj 6 ?_;refine kc (λw _ s=>ia w gb H G (A.n4 H.h.vp s.pa s.t)) ?_;rintro w _ s _ _⟨rfl,rfl⟩;refine lK ?_;repeat(first|refine kx ?_|refine kt ?_)
  refine Yu (λw _ s=>TS.out w s.t s.pa) ?_;rintro w _ s _ w'⟨t,va,vm,vc,old,r,P3,vp,rfl,tr,ov,pa,T,O⟩;refine⟨_,_,rfl,.pt s pa T O ov,Wj,?_⟩;repeat refine kt ?_
  refine kn (λ_ w u s=>?_);have ai:=an (jN t);refine ks (λw s=>?_);repeat refine kt ?_
  refine kd (λw u s=>?_);obtain⟨aV,tr⟩:=tr;have OV:=(s.p (pl _ H vp P3) gR).2;rcases tr with⟨rfl,rfl,av⟩|⟨rfl,tr⟩
  ·go_wp2_with(refine fw s ?_;intro _ w s);refine(Dz w).mono ?_;rintro e _⟨rfl,rfl⟩;go_wp2_with(refine fw s ?_;intro _ w s);refine bB ?_;exact⟨71,{G with P:=G.P},vp,rfl,.inr ⟨k,hv,.inr (.inl ⟨iY ab,rfl,RI.refl av⟩)⟩,A.n4 vp s.pa s.t,s.t.mono (λ_ h=>.inl h),OV⟩
  ·obtain⟨l2,gone,hk,ol,gl,ll,dl,wf,tn⟩:=I.Oq VA.1 VA.2.1 aa.out.1 (t:=t) (old:=old) (P3:=P3) (s:=jM b) ⟨aV,.inr ⟨rfl,tr⟩⟩;obtain⟨G9,hG9⟩:∃g:ch,g={G with P:={P3 with s:=bJ P3.s P3.ba gone},l:=l2}:=⟨_,rfl⟩;rw[<-hG9]at tn;replace hG9:=an hG9;obtain⟨r,hr0⟩:∃r:Int,r=tL G9:=⟨_,rfl⟩;have hr:=an hr0;clear hr0;go_wp2_with(refine fw s ?_;intro _ w s);refine MQ ?_;intro TU w7 a7 t7 s7;go_wp2_with fail;refine l5 s7 ?_;refine⟨r,G9,vp,rfl,.inr ⟨k,hv,?_⟩,a7,(s.t.mono (λ_ h=>.inl h)).trans t7 (λn hn hlt=>?_),OV⟩
   ·replace hr:=hr.out;unfold tL at hr;split at hr
    ·rename_i hf;exact .inr (.inr ⟨iY ab,hr,tn,hf⟩)
    ·rename_i hf;exact .inr (.inl ⟨iY ab,hr,tn.len,tn.Qi,tn.m,.inr ⟨_,tn.us,by simpa using hf⟩⟩)
   ·exact Ni
theorem ZL(w:af)(gb:Nat)(H:aP)(G:ch)(A:GA w gb H G)(I:bm G)(hn:G.next<=100000000)(aE:G.P.st<=100000000)(hm:G.P.m<=700000)(c1:Nat)(c2:Nat)(full:List aj)(N:Int)(hf:κ full<=9223372036854775807)(h1:w.cell? ⟨c1,0,none⟩=some (.string (strOf full)))(n1:¬PF H c1)(l1:c1<w.heap.size)(h2:w.cell? ⟨c2,0,none⟩=some (.int .i64 N))(n2:¬PF H c2)(l2:c2<w.heap.size):Aae Aag 124 #[lD gb,.pointer (some ⟨c1,0,none⟩),.pointer (some ⟨c2,0,none⟩)] w (zt gb H (j3 G full N false ep) w):=by
 obtain⟨w0,rfl⟩:=bK w;have s:=Fr.n4 A.pa;go_in;go_wp2_with(refine fw s ?_;intro _ w s);refine(xv w gb H G (A.n4 H.h.vp s.pa s.t) I.hl I.hr full hf N).mono ?_;rintro e w(⟨n,hv,rfl,u⟩|⟨k,vd,hv,hkl,rfl,od,u⟩)
 ·exact UD
 ·have VA:=zm I.hE hv;obtain⟨da,dc,rfl⟩:=(ak.row od pw).slice;have s:=s.new (.q od u s.t.size);go_wp2_with(refine fw s ?_;intro _ w s);refine NI ?_;intro TI aa;have TS:=an (λW (u:Touch (PF H) w0 W) (p:PA W H G.P)=>show Aae Aag 125 #[.pointer (some ⟨H.pb,0,none⟩),.agg (be (recAt G.l k).root),.int .i64 N] W (LQ G.P H (recAt G.l k).root N.toNat ep W)from by have:=Q' W H G.P p (recAt G.l k).root N.toNat (N.toNat/8) (N.toNat%8) aa.out.1 rfl rfl _ _ TI.ok.F (TI.ok.S (by have:=aa.out.1;omega)) ae I.qg.free I.qg.st.1 I.qg.st.2;rw[show(N.toNat:Int)=N from aa.out.2.symm]at this;exact this.mono (λe w' h=>h.made TI I.qg aa.out.1))
  refine kpl s (λw s=>?_);repeat refine kt ?_
  refine kj 3 ?_;refine kj 4 ?_;refine kj 5 ?_;refine kc (λw _ s=>ia w gb H G (A.n4 H.h.vp s.pa s.t)) ?_;rintro w _ s _ _⟨rfl,rfl⟩;refine lK ?_;repeat(first|refine kx ?_|refine kt ?_)
  refine Yu (λw _ s=>TS.out w s.t s.pa) ?_;rintro w _ s _ w'⟨t,va,vm,vc,old,r,P3,vp,rfl,tr,ov,pa,T,O⟩;refine⟨_,_,rfl,.pt s pa T O ov,Wj,?_⟩;repeat refine kt ?_
  refine kn (λ_ w u s=>?_);have ai:=an (jN t);refine ks (λw s=>?_);repeat refine kt ?_
  refine kd (λw u s=>?_);obtain⟨aV,tr⟩:=tr;have OV:=(s.p (pl _ H vp P3) gR).2;rcases tr with⟨rfl,rfl,av⟩|⟨rfl,tr⟩
  ·go_wp2_with(refine fw s ?_;intro _ w s);refine(Dz w).mono ?_;rintro e _⟨rfl,rfl⟩;go_wp2_with(refine fw s ?_;intro _ w s);refine bB ?_;exact⟨71,{G with P:=G.P},vp,rfl,.inr ⟨k,hv,.inr (.inl ⟨rfl,rfl,RI.refl av⟩)⟩,A.n4 vp s.pa s.t,s.t.mono (λ_ h=>.inl h),OV⟩
  ·obtain⟨l2,gone,hk,ol,gl,ll,dl,wf,tn⟩:=I.Oq VA.1 VA.2.1 aa.out.1 (t:=t) (old:=old) (P3:=P3) (s:=ep) ⟨aV,.inr ⟨rfl,tr⟩⟩;obtain⟨G9,hG9⟩:∃g:ch,g={G with P:={P3 with s:=bJ P3.s P3.ba gone},l:=l2}:=⟨_,rfl⟩;rw[<-hG9]at tn;replace hG9:=an hG9;obtain⟨r,hr0⟩:∃r:Int,r=tL G9:=⟨_,rfl⟩;have hr:=an hr0;clear hr0;go_wp2_with(refine fw s ?_;intro _ w s);refine MQ ?_;intro TU w7 a7 t7 s7;go_wp2_with fail;refine l5 s7 ?_;refine⟨r,G9,vp,rfl,.inr ⟨k,hv,?_⟩,a7,(s.t.mono (λ_ h=>.inl h)).trans t7 (λn hn hlt=>?_),OV⟩
   ·replace hr:=hr.out;unfold tL at hr;split at hr
    ·rename_i hf;exact .inr (.inr ⟨rfl,hr,tn,hf⟩)
    ·rename_i hf;exact .inr (.inl ⟨rfl,hr,tn.len,tn.Qi,tn.m,.inr ⟨_,tn.us,by simpa using hf⟩⟩)
   ·exact Ni
section
variable {X:Except Nat (Nat × List al × al)} {Y:Except Nat (Nat × List al × List au)} {W W' w w':af} {e:Ab1} {base base' nx:Nat} {v vg:ah} {y:al}
end
def Ak(G:ch)(x:al):List au:=xU x.root (bF G.P.C x.root) (λk=>bF G.P.C (a6 (bF G.P.C x.root) k)) (bZ G.l x.id)
def nB(G:ch)(X:Except Nat (Nat × List al × al))(r:Int)(G2:ch):Prop:=(∃n:Nat,X=.error n/\r=(n:Int)/\n≠0/\G2=G)\/(∃nx l' x,X=.ok (nx,l',x)/\r=0/\G2={G with P:={G.P with s:=bJ G.P.s G.P.ba (Ak G x)},next:=nx,l:=l'})
structure x'(G:ch)(X:Except Nat (Nat × List al × al)):Prop where
 nz:∀n,X=.error n->n≠0
 ok:∀nx l' x,X=.ok (nx,l',x)->κ l'<=1000/\(∀x∈l',κ x.dead*24<=140737488355328)/\x∈G.l
theorem ZH(w:af)(gb:Nat)(H:aP)(G:ch)(A:GA w gb H G)(I:bm G)(hn:G.next<=100000000)(c1:Nat)(full:List aj)(hf:κ full<=9223372036854775807)(h1:w.cell? ⟨c1,0,none⟩=some (.string (strOf full)))(X:Except Nat (Nat × List al × al))(hX:X=gw G.next G.l full)(K:x' G X):Aae Aag 130 #[lD gb,.pointer (some ⟨c1,0,none⟩)] w (zt gb H (nB G X) w):=by
 subst hX;have s:=Fr.start w;go_in;go_wp2_with(refine fw s ?_;intro _ w s);refine kb s (λw s=>?_);repeat refine kt ?_
 refine kj 3 ?_;refine Df (λw _ s=>gy w gb H G (A.up s.pure) I.hl I.hr) ?_;rintro w _ s _ w'⟨v,rfl,o1,u⟩;refine FN ?_;intro ys z e;repeat(first|refine kx ?_|refine kt ?_)
 refine Df (λw _ s=>G' w G.next _ G.l AU I.hl I.hr full hf) ?_;rintro w _ s _ w'(⟨n,nx,va,vm,vc,hx,rfl,u⟩|⟨nx,l',x,v',vd,hx,rfl,os,od,u⟩)
 ·refine zb ?_;repeat refine kt ?_
  refine kn (λ_ w u s=>?_);refine kn (λ_ w u s=>?_);refine ks (λw s=>?_);refine ks (λw s=>?_);repeat refine kt ?_
  refine kd (λw u s=>?_);have nz:((n:Int) != 0)=true:=by have:=K.nz n hx;simp;omega
  go_wp2_with fail;refine bB ?_;exact⟨(n:Int),G,H.h.vp,rfl,.inl ⟨n,hx,rfl,K.nz n hx,rfl⟩,A.up s.pure,Touch.bW s.pure,λ_ h=>.inl h⟩
 ·obtain⟨a2,c2,rfl⟩:=os.cE.slice;obtain⟨da,dc,rfl⟩:=(ak.row od pw).slice;obtain⟨zs,e2,z⟩:=Rz.s os u s.t.size;refine⟨_,_,rfl,z,?_⟩;repeat refine kt ?_
  refine kn (λ_ w u s=>?_);refine kn (λ_ w u s=>?_);refine ks (λw s=>?_);refine ks (λw s=>?_);repeat refine kt ?_
  refine kd (λw u s=>?_);obtain⟨k1,k2,k3⟩:=K.ok nx l' x hx;have TT:=I.tr x k3;go_wp2_with(refine fw s ?_;intro _ w s);have g6:=s.cE (ys:=zs);rw[e2]at g6;refine(Bv w gb H G (A.up s.pure) I.hl I.hr nx _ _ l' g6 k1 k2 x da dc _ (λk=>bF G.P.C (a6 (bF G.P.C x.root) k)) TT.F (λk hk=>TT.S hk) (Ak G x) rfl).mono ?_;rintro e w7⟨rfl,a7,t7⟩;have s7:=Fr.start w7;go_wp2_with fail;refine l5 s7 ?_;exact⟨0,_,H.h.vp,rfl,.inr ⟨nx,l',x,hx,rfl,rfl⟩,a7,(Touch.bW s.pure).trans t7 (λ_ h _=>h),λ_ h=>.inl h⟩
def RN(G:ch)(Y:Except Nat (Nat × List al × List au))(r:Int)(G2:ch):Prop:=(∃n:Nat,Y=.error n/\r=(n:Int)/\n≠0/\G2=G)\/(∃nx l' g,Y=.ok (nx,l',g)/\r=0/\G2={G with P:={G.P with s:=bJ G.P.s G.P.ba g},next:=nx,l:=l'})
structure RL(Y:Except Nat (Nat × List al × List au)):Prop where
 nz:∀n,Y=.error n->n≠0/\n≠131
 ok:∀nx l' g,Y=.ok (nx,l',g)->κ l'<=1000/\(∀x∈l',κ x.dead*24<=140737488355328)/\(κ g)<=100000
def dY(G:ch)(full:List aj)(r:Int)(G2:ch):Prop:=match cO full with
 | none=>r=141/\G2=G
 | some (_,s)=>if s=[] then nB G (dQ G.next G.l full) r G2 else RN G (cr G.next G.l full) r G2
theorem JH{full:List aj}(h:cO full=none):dY G full 141 G:=by grind [dY]
theorem zS{G G2:ch}{full v s:List aj}(h:cO full=some (v,s))(h0:s=[])(k:nB G (dQ G.next G.l full) r G2):dY G full r G2:=by grind [dY]
theorem zT{G G2:ch}{full v s:List aj}(h:cO full=some (v,s))(h0:¬s=[])(k:RN G (cr G.next G.l full) r G2):dY G full r G2:=by grind [dY]
theorem Qr(w:af)(gb:Nat)(H:aP)(G:ch)(A:GA w gb H G)(I:bm G)(hn:G.next<=100000000)(c1:Nat)(full:List aj)(hf:κ full<=9223372036854775807)(h1:w.cell? ⟨c1,0,none⟩=some (.string (strOf full)))(X:Except Nat (Nat × List al × al))(hX:X=dQ G.next G.l full)(K:x' G X)(Y:Except Nat (Nat × List al × List au))(hY:Y=cr G.next G.l full)(KY:RL Y):Aae Aag 133 #[lD gb,.pointer (some ⟨c1,0,none⟩)] w (zt gb H (dY G full) w):=by
 subst hX;subst hY;have s:=Fr.start w;go_in;go_wp2_with(refine fw s ?_;intro _ w s);refine(iZ w full hf).mono ?_;refine eE ?_;intro w u s;cases hs:cO full with
 | none=>simp only[gd];go_wp2_with fail;refine bB ?_;exact⟨141,G,H.h.vp,rfl,JH hs,A.up s.pure,Touch.bW s.pure,λ_ h=>.inl h⟩
 | some vs=>
  obtain⟨vn,sn⟩:=vs;simp only[gd];have aa:=fO sn;by_cases h0:sn=[]
  ·rw[show decide (sn=[])=true from uA]at aa;replace h0:=an h0;go_wp2_with(refine fw s ?_;intro _ w s);refine kb s (λw s=>?_);repeat refine kt ?_
   refine kj 3 ?_;refine Df (λw _ s=>gy w gb H G (A.up s.pure) I.hl I.hr) ?_;rintro w _ s _ w'⟨v,rfl,o1,u⟩;refine FN ?_;intro ys z e;repeat(first|refine kx ?_|refine kt ?_)
   refine Df (λw _ s=>xa w G.next _ G.l AU I.hl I.hr full hf) ?_;rintro w _ s _ w'(⟨n,nx,va,vm,vc,hx,rfl,u⟩|⟨nx,l',x,v',vd,hx,rfl,os,od,u⟩)
   ·refine zb ?_;repeat refine kt ?_
    refine kn (λ_ w u s=>?_);refine kn (λ_ w u s=>?_);refine ks (λw s=>?_);refine ks (λw s=>?_);repeat refine kt ?_
    refine kd (λw u s=>?_);have nz:((n:Int) != 0)=true:=by have:=K.nz n hx;simp;omega
    go_wp2_with fail;refine bB ?_;exact⟨(n:Int),G,H.h.vp,rfl,zS hs h0.out (.inl ⟨n,hx,rfl,K.nz n hx,rfl⟩),A.up s.pure,Touch.bW s.pure,λ_ h=>.inl h⟩
   ·obtain⟨a2,c2,rfl⟩:=os.cE.slice;obtain⟨da,dc,rfl⟩:=(ak.row od pw).slice;obtain⟨zs,e2,z⟩:=Rz.s os u s.t.size;refine⟨_,_,rfl,z,?_⟩;repeat refine kt ?_
    refine kn (λ_ w u s=>?_);refine kn (λ_ w u s=>?_);refine ks (λw s=>?_);refine ks (λw s=>?_);repeat refine kt ?_
    refine kd (λw u s=>?_);obtain⟨k1,k2,k3⟩:=K.ok nx l' x hx;have TT:=I.tr x k3;go_wp2_with(refine fw s ?_;intro _ w s);have g6:=s.cE (ys:=zs);rw[e2]at g6;refine(Bv w gb H G (A.up s.pure) I.hl I.hr nx _ _ l' g6 k1 k2 x da dc _ (λk=>bF G.P.C (a6 (bF G.P.C x.root) k)) TT.F (λk hk=>TT.S hk) (Ak G x) rfl).mono ?_;rintro e w7⟨rfl,a7,t7⟩;have s7:=Fr.start w7;go_wp2_with fail;refine l5 s7 ?_;exact⟨0,_,H.h.vp,rfl,zS hs h0.out (.inr ⟨nx,l',x,hx,rfl,rfl⟩),a7,(Touch.bW s.pure).trans t7 (λ_ h _=>h),λ_ h=>.inl h⟩
  ·rw[show decide (sn=[])=false from uA]at aa;go_wp2_with(refine fw s ?_;intro _ w s);refine kb s (λw s=>?_);repeat refine kt ?_
   refine kj 3 ?_;refine Df (λw _ s=>gy w gb H G (A.up s.pure) I.hl I.hr) ?_;rintro w _ s _ w'⟨v,rfl,o1,u⟩;refine FN ?_;intro ys z e;repeat(first|refine kx ?_|refine kt ?_)
   refine Df (λw _ s=>tF w G.next _ G.l AU I.hl I.hr full hf) ?_;rintro w _ s _ w'(⟨n,nx,va,vm,vc,hx,rfl,u⟩|⟨nx,l',g,v',vg,hx,rfl,ox,od,u⟩)
   ·refine zb ?_;repeat refine kt ?_
    refine kn (λ_ w u s=>?_);refine ks (λw s=>?_);repeat refine kt ?_
    refine kd (λw u s=>?_);have NZ:=KY.nz n hx;have nd:((n:Int)==131)=false:=by rw[beq_eq_false_iff_ne];omega
    have nz:((n:Int) != 0)=true:=ab
    go_wp2_with fail;refine bB ?_;exact⟨(n:Int),G,H.h.vp,rfl,zT hs h0 (.inl ⟨n,hx,rfl,NZ.1,rfl⟩),A.up s.pure,Touch.bW s.pure,λ_ h=>.inl h⟩
   ·obtain⟨a2,c2,rfl⟩:=ox.cE.slice;obtain⟨da,dc,rfl⟩:=(ak.row od pw).slice;obtain⟨zs,e2,z⟩:=Rz.s ox u s.t.size;refine⟨_,_,rfl,z.sj od s.t.size,?_⟩;repeat refine kt ?_
    refine kn (λ_ w u s=>?_);refine ks (λw s=>?_);repeat refine kt ?_
    refine kd (λw u s=>?_);obtain⟨k1,k2,k3⟩:=KY.ok nx l' g hx;go_wp2_with(refine fw s ?_;intro _ w s);have A6:=A.up s.pure;obtain⟨g6,og⟩:=s.p (jn (os _ (.slice a2 (κ l') c2) zs) (op _ (.slice da (κ g) dc) g)) gR;refine(sY w gb H G A6 _ g (ak.row og pw) (ez A6.pa og) k3).mono ?_;rintro e w7⟨rfl,a7,t7⟩;obtain⟨b7,b8⟩:=aA (s.e5 (t:=73) (C:=aS nx _) gR) (s.e5 (t:=100) gR);replace b7:=(b7.az t7 (A6.pa.cc b7 ax)).range;replace b8:=(b8.az t7 (A6.pa.cc b8 ax)).cell 0;obtain⟨T,g7,s⟩:=db ((Touch.bW (F:=λk=>PF H k\/k=gb) s.pure).trans (t7.mono (λ_ h=>.inl h)) (λ_ h _=>h)) (wN A6.pa (show bq w _ _ l' from⟨zs,e2,g6⟩) t7) (Fr.start w7);go_wp2_with(refine fw s ?_;intro _ w s);refine(pS w gb H _ (a7.up s.pure) nx _ l' (g7.up s.pure).cE k1 k2).mono ?_;rintro e w8⟨rfl,a8,t8⟩;have s8:=Fr.start w8;go_wp2_with fail;refine l5 s8 ?_;exact⟨0,_,H.h.vp,rfl,zT hs h0 (.inr ⟨nx,l',g,hx,rfl,rfl⟩),a8,(T.iK s.pure).trans (t8.mono (λ_ h=>.inr h)) (λ_ h _=>h),λ_ h=>.inl h⟩
theorem po.pre{p gb:Nat}{R:Int->ch->Prop}{w0 w w':af}(u:Up w0 w)(h:po p gb H G R w e w'):po p gb H G R w0 e w':=by obtain⟨r,G2,vp,gb',H',he,hR,hh,hp,T,O⟩:=h;exact⟨r,G2,vp,gb',H',he,hR,hh,hp,(Touch.bW (F:=λk=>cI H.h k\/k=p) u).trans T (λ_ h _=>h),O.mono u.size⟩
structure pf(G:ch):Prop where
 nx:G.next<=10000
 st:G.P.st<=10000
 m:G.P.m<=70000
 tx:G.u.dq<=10000
section
variable {G:ch}
theorem P9{next:Nat}{fD:List aj}{b:Int}(hn:next<=100000000)(hb:1<=b/\b<=64):(dw next fD b).wf:=by refine⟨by show next<_;omega,by show next<_;omega,by show 0<_;omega,by show 0<_;omega,by show _<=b/\b<=_;omega,gA.1,λp hp=>q3⟩
theorem bm.Hm(I:bm G)(B:pf G)(full:List aj)(N:Int):vJ (cG G.next G.l full N):=by
 refine⟨λn h=>w4 h,λnx l' h=>?_⟩;obtain⟨fD,hv,hb,hl,hr,rfl,rfl⟩:=oq h;have:=B.nx;refine⟨ae,ab,λx hx=>?_,λx hx=>?_⟩
 ·rcases jI.mp hx with h|rfl
  ·exact I.wf x h
  ·grind [P9]
 ·rcases jI.mp hx with h|rfl
  ·exact I.hr x h
  ·show 0*24<=_;omega
theorem qt{next nx ar:Nat}{l l':List al}{full:List aj}(h:eX next l full ar=.ok (nx,l')):∃fD sn i,dX full=some (fD,sn)/\a1 l fD=some i/\(κ l)<32/\a1 l full=none/\(1<=ar/\ar<=281474976710655/\bZ l (recAt l i).id<ar)/\nx=next+1/\l'=(l++[iA next (recAt l i) sn ar]).set i (lx next (recAt l i)):=by grind [eX,fD]
theorem CW{next nx:Nat}{l l':List al}{Jc to:List aj}(h:l3 next l Jc to=.ok (nx,l')):∃vs fD i,dX Jc=some vs/\iL to=some fD/\a1 l Jc=some i/\(κ l)<32/\a1 l to=none/\nx=next+1/\l'=l++[Eb next fD (recAt l i)]:=by unfold l3 at h;grind
theorem bm.Vu(I:bm G)(B:pf G)(full:List aj)(ar:Nat):vJ (eX G.next G.l full ar):=by
 refine⟨λn h=>DL h,λnx l' h=>?_⟩;obtain⟨fD,sn,i,hs,hi,hl,hr,aE,rfl,rfl⟩:=qt h;have:=B.nx;have hm:=aJ (jb hi);obtain⟨w1,w2,w3,w4,w5,w6,w7⟩:=I.wf _ hm;have M:∀x∈(G.l++[iA G.next (recAt G.l i) sn ar]).set i (lx G.next (recAt G.l i)),x∈G.l\/x=iA G.next (recAt G.l i) sn ar\/x=lx G.next (recAt G.l i):=λx hx=>aQ
 refine⟨ae,ab,λx hx=>?_,λx hx=>?_⟩
 ·rcases M x hx with h|rfl|rfl
  ·exact I.wf x h
  ·exact⟨FG,w1,w3,by show ar<_;omega,w5,w6,w7⟩
  ·exact⟨w1,w2,FG,w4,w5,w6,λp hp=>q3⟩
 ·rcases M x hx with h|rfl|rfl
  ·exact I.hr x h
  ·exact I.hr (recAt G.l i) hm
  ·show 0*24<=_;omega
theorem bm.WD(I:bm G)(B:pf G)(Jc to:List aj):vJ (l3 G.next G.l Jc to):=by
 refine⟨λn h=>Ju h,λnx l' h=>?_⟩;obtain⟨vs,fD,i,hs,hv,hi,hl,hr,rfl,rfl⟩:=CW h;have:=B.nx;obtain⟨w1,w2,w3,w4,w5,w6,w7⟩:=I.wf _ (aJ (jb hi));refine⟨ae,ab,λx hx=>?_,λx hx=>?_⟩
 ·rcases jI.mp hx with h|rfl
  ·exact I.wf x h
  ·exact⟨FG,FG,w1,by show 0<_;omega,w5,w6,λp hp=>q3⟩
 ·rcases jI.mp hx with h|rfl
  ·exact I.hr x h
  ·show 0*24<=_;omega
theorem bm.Y2(I:bm G)(full:List aj):x' G (gw G.next G.l full):=by
 refine⟨λn h=>CP h,λnx l' x h=>?_⟩;obtain⟨i,j,hi,hj,rfl,rfl,rfl⟩:=tt h;refine⟨by rw[Aaz];exact I.hl,λx hx=>?_,aJ (oe hi)⟩;rcases yG hx with h1|h1
 ·exact I.hr x h1
 ·rw[h1];show 0*24<=_;omega
theorem bm.Pf(I:bm G)(full:List aj):x' G (dQ G.next G.l full):=by refine⟨λn h=>tH h,λnx l' x h=>?_⟩;obtain⟨i,hi,hw,rfl,rfl,rfl⟩:=w9 h;exact⟨by rw[yN];have:=I.hl;split<;>omega,λx hx=>I.hr x (E7 hx),aJ (oe hi)⟩
theorem hK.Le{next:Nat}{l:List al}(F:hK next l){full:List aj}{vs:List aj × List aj}(h:dX full=some vs){i:Nat}(hi:a1 l full=some i):i<κ l/\(recAt l i).aU=true:=by
 refine⟨(jb hi),?_⟩;unfold a1 at hi;split at hi
 ·cases hi
 ·rename_i k hk;have hkl:=lW hk;have ik:i=k:=by obtain⟨j,hj,h1,h2⟩:=ca F.gk (aJ hkl);rw[h1]at hi;cases hi;exact F.gk.mm hj hkl h2
  subst ik;unfold dX at h;split at h
  ·rename_i v s hs;split at h
   ·cases h
   ·rename_i ag;unfold dF at hk;rw[hs]at hk;simp only at hk;split at hk
    ·cases hk
    ·rename_i a ha;rw[aM ag]at hk;split at hk
     ·cases hk
     ·rename_i b hb;cases hk;obtain⟨h2,h3⟩:=aA ((eP hb).2) (F.L9 _ (aJ (eP ha).1));cases hsn:(recAt l i).aU with
      | true=>rfl
      | false=>grind [bY,recAt]
  ·cases h
theorem hK.UW{next:Nat}{l:List al}(F:hK next l){i:Nat}(hi:i<κ l)(hs:(recAt l i).aU=true):∃j,j<κ l/\aV l (iH l (recAt l i).id)=some j/\(recAt l j).prev=(recAt l i).id/\(recAt l j).owner=(recAt l i).owner:=by
 have hm:=aJ hi;obtain⟨i',ag,h1,h2⟩:=ca F.gk hm;obtain⟨n,hn,e1,e2,_⟩:=F.nxt _ hm hs;cases hf:(fP l (recAt l i).id).find? (λj=>decide ((recAt l j).owner=(recAt l i').owner))with
 | none=>obtain⟨j,hj,e3⟩:=kB hn;have:=List.find?_eq_none.mp hf j (qb.mpr ⟨hj,aa⟩);simp_all
 | some j=>
  have hj:=qb.mp (List.mem_of_find?_eq_some hf);have ho:(recAt l j).owner=(recAt l i').owner:=aQ
  rw[h2]at ho;rw[N7 h1 aa hf];obtain⟨j',aj,h3,h4⟩:=ca F.gk (aJ hj.1);grind
theorem bm.cr(I:bm G)(full:List aj):(∃n,cr G.next G.l full=.error n/\n≠0/\n≠131)\/∃i j all,i<κ G.l/\(recAt G.l i).aU=true/\a1 G.l full=some i/\j<κ G.l/\(recAt G.l j).prev=(recAt G.l i).id/\(recAt G.l j).owner=(recAt G.l i).owner/\(∀z∈G.l,z.prev=(recAt G.l i).id->z=recAt G.l j)/\ea (k6 (bZ G.l (recAt G.l i).id) (recAt G.l j).dead) (recAt G.l i).dead=some all/\
  _root_.Go.Proofs.YtkpjfnbbkohciaaGreat.cr G.next G.l full=.ok (G.next,(G.l.set j (fm (recAt G.l j) all (recAt G.l i).prev)).eraseIdx i,hJ (bZ G.l (recAt G.l i).id) (recAt G.l j).dead):=by
 have F:=I.hE;cases h0:dX full with
 | none=>exact .inl ⟨141,mW h0,ae,ae⟩
 | some vs=>
  cases h1:a1 G.l full with
  | none=>exact .inl ⟨172,mX h0 h1,ae,ae⟩
  | some i=>
   obtain⟨hi,hs⟩:=F.Le h0 h1;by_cases h2:0<κ (et G.l (recAt G.l i).id)
   ·exact .inl ⟨173,mY h0 h1 h2,ae,ae⟩
   ·obtain⟨j,hj,h3,e1,e2⟩:=F.UW hi hs;have only:∀z∈G.l,z.prev=(recAt G.l i).id->z=recAt G.l j:=λz hz ez=>by
     by_cases ho:z.owner=(recAt G.l i).owner
     ·obtain⟨n,hn,_,_,h6⟩:=F.nxt _ (aJ hi) hs;grind [aJ]
     ·exfalso;apply h2;obtain⟨i',ag,p1,p2⟩:=ca F.gk (aJ hi);rw[vN p1 aa,p2];obtain⟨k,hk,ek⟩:=kB hz;unfold eh;rw[Aad];refine List.length_pos_of_mem (a:=k) ?_;rw[wa];exact⟨qb.mpr ⟨hk,aa⟩,aa⟩
    obtain⟨all,hm,ha,_⟩:=I.l4 hi hs hj e1 e2 only;grind [kX]
theorem bm.JJ(I:bm G)(full:List aj):RL (_root_.Go.Proofs.YtkpjfnbbkohciaaGreat.cr G.next G.l full):=by
 rcases I.cr full with⟨n,h,h0,h1⟩|⟨i,j,all,hi,hs,hr,hj,e1,e2,only,hm,h⟩
 ·rw[h];exact⟨λn' e=>aa,λ_ _ _ e=>aa⟩
 ·rw[h];refine⟨λn e=>aa,λnx l' g e=>?_⟩;cases e;obtain⟨ab,aD,ad,P⟩:=I.l4 hi hs hj e1 e2 only;rw[hm]at aD;cases aD;refine⟨P.hl,P.hr,?_⟩;have h1:κ (hJ (bZ G.l (recAt G.l i).id) (recAt G.l j).dead)<=κ (recAt G.l j).dead:=p5 _ _;have h2:=I.mV (aJ hj);omega
end
theorem xt(w:af)(p gb:Nat)(H:aP)(G:ch)(A:bT w p gb H G)(I:bm G)(B:pf G)(full:List aj)(hf:κ full<=9223372036854775807)(N:Int):Aae Aag 17 #[pz p,.string (strOf full),i6 N] w (po p gb H G (jv G (cG G.next G.l full N) id true) w):=by
 refine T6 ?_;intro u0 u1 w2 hw2 uu k0 k1 HW2;have CL:=an (lX w2 p gb H G (A.up uu) I.hl I.hr nI 40 #[pz w.heap.size,pz ((w.heap.size+1))] (jv G (cG G.next G.l full N) id true) (λ_ _=>ay) (λW aa ad ab u h1 h2 h3 a=>by
  exact Ve W _ _ G a I.hl I.hr nI sH sI _ _ _ N hf (u.cell k0) (u.cell k1) _ rfl (I.Hm B full N)
  ))
 clear hw2 k0 k1;go_in;exact wx
theorem Qw(w:af)(p gb:Nat)(H:aP)(G:ch)(A:bT w p gb H G)(I:bm G)(B:pf G)(full:List aj)(hf:κ full<=9223372036854775807):Calls prog 66 #[pz p,.string (strOf full)] w (po p gb H G (jv G (eX G.next G.l full G.P.st) (λg:ch=>{g with P:={g.P with st:=g.P.st+1}}) true) w):=by
 refine Kq ?_;intro u0 w2 hw2 uu k0 HW2;have CL:=an (lX w2 p gb H G (A.up uu) I.hl I.hr nI 126 #[pz w.heap.size] (jv G (eX G.next G.l full G.P.st) (λg:ch=>{g with P:={g.P with st:=g.P.st+1}}) true) (λ_ _=>ay) (λW aa ad ab u h1 h2 h3 a=>by
  exact ZJ W _ _ G a I.hl I.hr nI sH sI _ _ hf (u.cell k0) _ rfl (I.Vu B full G.P.st)
  ))
 clear hw2 k0;go_in;exact wx
theorem Qp(w:af)(p gb:Nat)(H:aP)(G:ch)(A:bT w p gb H G)(I:bm G)(B:pf G)(full:List aj)(hf:κ full<=9223372036854775807):Aae Aag 69 #[pz p,.string (strOf full)] w (po p gb H G (nB G (gw G.next G.l full)) w):=by
 refine Kq ?_;intro u0 w2 hw2 uu k0 HW2;have CL:=an (lX w2 p gb H G (A.up uu) I.hl I.hr nI 130 #[pz w.heap.size] (nB G (gw G.next G.l full)) (λ_ _=>ay) (λW aa ad ab u h1 h2 h3 a=>by
  exact ZH W _ _ G a I sH _ _ hf (u.cell k0) _ rfl (I.Y2 full)
  ))
 clear hw2 k0;go_in;exact wx
theorem Gi(w:af)(p gb:Nat)(H:aP)(G:ch)(A:bT w p gb H G)(I:bm G)(B:pf G)(full:List aj)(hf:κ full<=9223372036854775807):Aae Aag 70 #[pz p,.string (strOf full)] w (po p gb H G (dY G full) w):=by
 refine Kq ?_;intro u0 w2 hw2 uu k0 HW2;have CL:=an (lX w2 p gb H G (A.up uu) I.hl I.hr nI 133 #[pz w.heap.size] (dY G full) (λ_ _=>ay) (λW aa ad ab u h1 h2 h3 a=>by
  exact Qr W _ _ G a I sH _ _ hf (u.cell k0) _ rfl (I.Pf full) _ rfl (I.JJ full)
  ))
 clear hw2 k0;go_in;exact wx
theorem Qx(w:af)(p gb:Nat)(H:aP)(G:ch)(A:bT w p gb H G)(I:bm G)(B:pf G)(full:List aj)(hf:κ full<=9223372036854775807)(N:Int):Aae Aag 65 #[pz p,.string (strOf full),i6 N] w (po p gb H G (j3 G full N false ep) w):=by
 refine T6 ?_;intro u0 u1 w2 hw2 uu k0 k1 HW2;have CL:=an (lX w2 p gb H G (A.up uu) I.hl I.hr nI 124 #[pz w.heap.size,pz ((w.heap.size+1))] (j3 G full N false ep) (λ_ _=>ay) (λW aa ad ab u h1 h2 h3 a=>by
  have sz:w2.heap.size=w.heap.size+2:=by rw[hw2];simp only[aL]
  exact ZL W aa ⟨ad,ab,H.h⟩ G a I sH sI (by have:=B.m;omega) _ _ full N hf (u.cell k0) (λh=>by
   rcases h with h|h|h
   ·simp only at h;omega
   ·simp only at h;omega
   ·have:=A.ga.pa.dev.lt _ h;omega) AX (u.cell k1) (λh=>by
   rcases h with h|h|h
   ·simp only at h;omega
   ·simp only at h;omega
   ·have:=A.ga.pa.dev.lt _ h;omega) AX
  ))
 clear hw2 k0 k1;go_in;exact wx
theorem xw(w:af)(p gb:Nat)(H:aP)(G:ch)(A:bT w p gb H G)(I:bm G)(B:pf G)(full:List aj)(hf:κ full<=9223372036854775807)(N:Int)(ba:Option Addr)(bc:Nat)(b:List aj)(hb:a8 w (.slice ba (κ b) bc) b)(aX:∀k,(Acl ba (κ b) bc).ownBlock=some k->¬cI H.h k/\k<w.heap.size):Aae Aag 18 #[pz p,.string (strOf full),i6 N,.slice ba (κ b) bc] w (po p gb H G (j3 G full N (decide (128<κ b)) (jM b)) w):=by
 obtain⟨u0,u1,u2⟩:=db (ai w (.cells #[.string (strOf full)] 9)) (ai (w.alloc (.cells #[.string (strOf full)] 9)) (.cells #[i6 N] 3)) (ai ((w.alloc (.cells #[.string (strOf full)] 9)).alloc (.cells #[i6 N] 3)) (.cells #[.slice ba (κ b) bc] 30));obtain⟨k0,k1,k2,uu⟩:=iJ (u2.cell (u1.cell ((aH.new w 9 _).cell 0))) (u2.cell ((aH.new _ 3 _).cell 0)) ((aH.new ((w.alloc (.cells #[.string (strOf full)] 9)).alloc (.cells #[i6 N] 3)) 30 #[.slice ba (κ b) bc]).cell 0) (((u0).trans u1).trans u2);obtain⟨w2,hw2⟩:=bK ((((w.alloc (.cells #[.string (strOf full)] 9)).alloc (.cells #[i6 N] 3)).alloc (.cells #[.slice ba (κ b) bc] 30)));simp only[aL]at k1 k2;rw[<-hw2]at uu k0 k1 k2;have HW2:=an hw2;have CL:=an (lX w2 p gb H G (A.up uu) I.hl I.hr nI 45 #[pz w.heap.size,pz ((w.heap.size+1)),pz ((w.heap.size+1+1))] (j3 G full N (decide (128<κ b)) (jM b)) (λ_ _=>ay) (λW aa ad ab u h1 h2 h3 a=>by
  have sz:w2.heap.size=w.heap.size+3:=by rw[hw2];simp only[aL]
  exact XF W aa ⟨ad,ab,H.h⟩ G a I sH sI (by have:=B.m;omega) _ _ _ full N hf ba bc b ((hb.up uu).up u) (λk hk h=>by
   have h0:=aX k hk;rcases h with h|h|h
   ·simp only at h;omega
   ·simp only at h;omega
   ·exact h0.1 h) (u.cell k0) (λh=>by
   rcases h with h|h|h
   ·simp only at h;omega
   ·simp only at h;omega
   ·have:=A.ga.pa.dev.lt _ h;omega) AX (u.cell k1) (λh=>by
   rcases h with h|h|h
   ·simp only at h;omega
   ·simp only at h;omega
   ·have:=A.ga.pa.dev.lt _ h;omega) AX (u.cell k2) (λh=>by
   rcases h with h|h|h
   ·simp only at h;omega
   ·simp only at h;omega
   ·have:=A.ga.pa.dev.lt _ h;omega) AX
  ))
 clear hw2 k0 k1 k2;go_in;exact wx
def mN(G:ch)(b:List aj)(G2:ch):Prop:=∃q ps P8,LO G b P8 q ps/\G2=WV G P8 q ps
theorem zG(gb:Nat):prog.built 82 [(0,pz gb)]=some #[pz gb]:=av
theorem Qs(w:af)(h:iE)(C:List cN)(m:Nat)(fl:Bool)(D:DA w h C m fl)(b:List aj)(K:Cm (sT C m fl) b):Aae Aag 25 #[.pointer (some ⟨h.d,0,none⟩)] w λe w'=>∃p gb H G2 vp,e=.returned (.tuple #[.pointer (some ⟨p,0,none⟩),.int .i64 0])/\w.heap.size<=p/\bT w' p gb H G2/\H.h={h with vp:=vp}/\(w.heap.size<=H.pb/\w.heap.size<=H.mb)/\mN (sT C m fl) b G2/\Touch (cI h) w w'/\∀b,vp.ownBlock=some b->h.vp.ownBlock=some b\/w.heap.size<=b:=by
 obtain⟨FO,BP⟩:=aw (HC w h C m fl D b K) zG;clear D K;go_in;go_wp2_with fail;refine FO.mono ?_;rintro e w2⟨gb,pb,mb,w1,h1,h2,h3,u1,rfl,he,q,ps,P8,vp,sv,ga,T,O⟩;obtain⟨ab,ae⟩:=aw (BP gb) ga;have u3:=ai w2 (.cells #[.pointer (some ⟨gb,0,none⟩)] 82);obtain⟨aa,B3⟩:=aw (ga.up u3) (aH.new w2 82 #[.pointer (some ⟨gb,0,none⟩)]);have T2:=an ((Touch.bW (F:=cI h) u1).trans T (λn hn hlt=>by
  rcases hn with(hn|hn|hn)|hn
  ·simp only at hn;omega
  ·simp only at hn;omega
  ·exact hn
  ·omega))
 obtain⟨T3,O3,SV,S2,ad⟩:=eI (T2.iK u3) (show ∀b,vp.ownBlock=some b->h.vp.ownBlock=some b\/w.heap.size<=b from λb hb=>(O b hb).imp id (λh=>bN u1.size h)) sv T2.size (Adb h2 h3);clear he sv ga T O u3 u1 h1 h2 h3 FO;go_wp2_with(first
  | ((with_reducible refine dI 82 #[(0,.tmp 14)] ?_);refine kU rfl 82 0 (.tmp 14) rfl _ rfl #[.pointer (some ⟨gb,0,none⟩)] ab ?_)
  | refine gS 82 15 #[.pointer (some ⟨gb,0,none⟩)] ?_)
 go_ret2;exact⟨w2.heap.size,gb,⟨pb,mb,{h with vp:=vp}⟩,_,vp,rfl,S2,⟨B3,aa⟩,rfl,ad,⟨q,ps,P8,SV,rfl⟩,T3,O3⟩
theorem LY(I:bm G)(B:pf G):∃b,Cm G b/\(κ b)=cA G.l/\fe G<=bp G.P.s:=by
 obtain⟨s1,s2⟩:=I.shape;have hf:=I.ft;unfold eS at hf;rw[decide_eq_true_eq]at hf;have hc:fe G=dU (cA G.l) (κ G.P.C):=jg s1 s2 I.ln;have hb:=ql.mpr ⟨s1,s2,rfl⟩;have hl:=kJ G.next G.l
 refine⟨_,⟨sH,I.wf,hb,by grind [xC],I.ln,⟨by have:=I.sb;omega,sI⟩,by have:=B.m;omega,λi hi h0=>?_,?_,nI,by have:=B.tx;omega⟩,hl,hf.2.1⟩
 ·have:=mt (I.s0 i).mpr h0;omega
 ·grind [mS]
theorem wG(w:af)(p gb:Nat)(H:aP)(G:ch)(A:bT w p gb H G)(I:bm G)(B:pf G):Aae Aag 16 #[.pointer (some ⟨p,0,none⟩)] w λe w'=>∃b G2 gb' H' vp,e=.returned (.int .i64 0)/\(κ b)=cA G.l/\Cm G b/\mN G b G2/\H'.h={H.h with vp:=vp}/\bT w' p gb' H' G2/\Touch (λk=>cI H.h k\/k=p) w w'/\rK H H' w.heap.size vp:=by
 obtain⟨b,K,hb,hc⟩:=LY I B;obtain⟨ae,HBL,PD,CP⟩:=bR K hb (wD w p gb H G A) (C9 w gb H G A.ga I.hl I.hr nI);refine F5 ?_;intro c0;obtain⟨HA,SY⟩:=aw A (λW aa H1 (a:GA W aa H1 G)=>Pv W aa H1 G a b K hc);clear A I B K hb hc;go_in;go_wp2_with fail;refine uD ?_;intro wx;go_wp2_with fail;refine CP.mono ?_;rintro e w1⟨gb',pb,mb,rfl,h1,h2,h3,a1,u1⟩;obtain⟨A1,U1,H1,H2,H3,ab⟩:=im a1 u1 h1 h2 h3 (HA.e5.up u1);clear h1 h2 h3 a1 u1 CP PD c0;go_wp2_with fail;refine(SY _ _ _ A1).mono ?_;rintro e w2⟨rfl,q,ps,P8,vp,sv,ga,T,O⟩;have HD:=HA.ga.pa;refine NV ?_;intro NF;have BP:=an (ab.az T (NF p HA.e5.lt (HD.dev.jL HA.e5 ax ax ax)));have T2:=an ((Touch.bW (F:=λk=>cI H.h k\/k=p) U1).trans T (λn hn hlt=>by
  by_cases hf:cI H.h n
  ·exact .inl hf
  ·exact absurd hn (NF n hlt hf)))
 have ad:=an U1.size;obtain⟨O2,A2,SV⟩:=aW (show ∀b,vp.ownBlock=some b->H.h.vp.ownBlock=some b\/w.heap.size<=b from λb hb=>(O b hb).imp id (λh=>bN ad h)) ga sv;refine MP ?_;intro cp BQ GQ fp;clear ga T O sv SY HD NF;go_wp2_with fail;have TQ:=Touch.bg (F:=(·=p)) GQ (λk hk=>oI);have AQ:=A2.other BP ax ax ax ax TQ;go_ret;exact⟨b,_,gb',⟨pb,mb,{H.h with vp:=vp}⟩,vp,rfl,HBL,ae,⟨q,ps,P8,SV,rfl⟩,rfl,⟨BQ,AQ⟩,T2.trans (TQ.mono (F':=λk=>cI H.h k\/k=p) (λ_ h=>.inr h)) (λ_ h _=>h),rK.of rfl O2 (.inr H2) (.inr H3)⟩
abbrev j1(l:List al):List al:=l.map b9
section
variable {l:List al} {full Jc to:List aj} {next st:Nat} {N:Int}
theorem nA:κ (j1 l)=κ l:=aq
theorem tK{p:al->Bool}(hp:∀x,p (b9 x)=p x):gV p (j1 l)=gV p l:=by unfold gV j1;rw[List.findIdx?_map];congr 1;grind
theorem a'(i:Nat):recAt (j1 l) i=b9 (recAt l i):=by unfold recAt j1;rw[sB,sB,List.getElem?_map];cases l[i]?<;>rfl
theorem ee(id:Nat):aV (j1 l) id=aV l id:=tK (λ_=>rfl)
theorem Bu(c:jt):eb (j1 l) c=eb l c:=tK (λ_=>rfl)
theorem ZW(x:al):(b9 x).id=x.id:=rfl
theorem ss2(x:al):(b9 x).name=x.name:=rfl
theorem ss3(x:al):(b9 x).aU=x.aU:=rfl
theorem ss4(x:al):(b9 x).owner=x.owner:=rfl
theorem ss5(x:al):(b9 x).prev=x.prev:=rfl
theorem ss6(x:al):(b9 x).ar=x.ar:=rfl
theorem ss7(x:al):(b9 x).blocks=x.blocks:=rfl
theorem xg(id:Nat):fP (j1 l) id=fP l id:=by simp[fP,iV,nA,a',ss5]
theorem El(id:Nat):bZ (j1 l) id=bZ l id:=by simp[bZ,ee,a',ss5,ss6]
theorem xe(id:Nat):d' (j1 l) id=d' l id:=by unfold d';simp[ee,a',ss2,ss3,ss4]
theorem oP:dF (j1 l) full=dF l full:=by simp[dF,Bu,a',ZW]
theorem xR(id:Nat):∀(n:Nat)(c:List Nat)(p:Nat),jX (j1 l) id n c p=jX l id n c p
 | 0,_,_=>rfl
 | n+1,c,p=>by unfold jX;simp only[ee,a',ss4,ss5,xR id n]
theorem Cb(id:Nat):gN (j1 l) id=gN l id:=by unfold gN;simp[ee,a',ss3,ss5,xR]
theorem xo(id:Nat):iH (j1 l) id=iH l id:=by unfold iH;simp only[ee,a',ZW,ss3,ss4,xg]
theorem rR(id:Nat):et (j1 l) id=et l id:=by unfold et eh;simp only[ee,a',ZW,ss3,ss4,xg]
theorem hf:a1 (j1 l) full=a1 l full:=by simp[a1,oP,ee,a',ZW]
theorem vr:ec (j1 l) full=ec l full:=by simp[ec,hf]
theorem pI:e4 (j1 l) full N=e4 l full N:=by simp[e4,oP,a',ss7]
theorem B9:iC (j1 l) full N=iC l full N:=by simp[iC,pI]
theorem GG(i:Nat)(x:al):j1 (l.set i x)=(j1 l).set i (b9 x):=aq
theorem wP:∀(l:List al)(i:Nat),j1 (l.eraseIdx i)=(j1 l).eraseIdx i
 | [],_=>rfl
 | _::_,0=>rfl
 | x::l,i+1=>cb (b9 x::·) (wP l i)
theorem BY(x:al):j1 (l++[x])=j1 l++[b9 x]:=aq
def VB(r:Except Nat (Nat × List al)):Except Nat (Nat × List al):=r.map (λp=>(p.1,j1 p.2))
def VC(r:Except Nat (Nat × List al × al)):Except Nat (Nat × List al × al):=r.map (λp=>(p.1,j1 p.2.1,b9 p.2.2))
theorem rS:cG next (j1 l) full N=VB (cG next l full N):=by
 unfold cG;simp only[nA,hf];cases iL full with
 | none=>rfl
 | some fD=>
  simp only;split
  ·rfl
  ·split
   ·rfl
   ·cases a1 l full with
    | some _=>rfl
    | none=>simp only[VB,Ac0,BY];rfl
theorem xF:eX next (j1 l) full st=VB (eX next l full st):=by
 unfold eX;simp only[nA,hf,El,a',ZW];cases dX full with
 | none=>rfl
 | some vs=>
  obtain⟨fD,sn⟩:=vs;simp only;cases a1 l fD with
  | none=>rfl
  | some i=>
   simp only;split
   ·rfl
   ·cases a1 l full with
    | some _=>rfl
    | none=>
     simp only;split
     ·rfl
     ·simp only[VB,Ac0,GG,BY];rfl
theorem Ec:l3 next (j1 l) Jc to=VB (l3 next l Jc to):=by
 unfold l3;simp only[nA,hf,a'];cases dX Jc with
 | none=>rfl
 | some vs=>
  simp only;cases iL to with
  | none=>rfl
  | some fD=>
   simp only;cases a1 l Jc with
   | none=>rfl
   | some i=>
    simp only;split
    ·rfl
    ·cases a1 l to with
     | some _=>rfl
     | none=>simp only[VB,Ac0,BY];rfl
theorem G9:gw next (j1 l) full=VC (gw next l full):=by
 unfold gw;simp only[vr,a',ss5,ee];cases ec l full with
 | error n=>rfl
 | ok i=>
  simp only;cases aV l (recAt l i).prev with
  | none=>rfl
  | some j=>simp only[VC,Ac0,GG];rfl
theorem zW:dQ next (j1 l) full=VC (dQ next l full):=by
 unfold dQ;simp only[vr,a',ZW,Cb];cases ec l full with
 | error n=>rfl
 | ok i=>
  simp only;split
  ·rfl
  ·simp only[VC,Ac0,wP]
theorem xV(h:cr next l full≠.error 131):(cr next (j1 l) full).map (λr=>(r.1,r.2.1))=VB ((cr next l full).map (λr=>(r.1,r.2.1))):=by
 cases hs:dX full with
 | none=>rw[mW hs,mW hs];rfl
 | some vs=>
  cases hr:a1 l full with
  | none=>rw[mX hs (by grind [hf]),mX hs hr];rfl
  | some i=>
   have ar:a1 (j1 l) full=some i:=by grind [hf]
   by_cases hc:0<κ (et l (recAt l i).id)
   ·rw[mY hs ar (by rw[a',rR];exact hc),mY hs hr hc];rfl
   ·have aa:¬0<κ (et (j1 l) (recAt (j1 l) i).id):=by rw[a',rR];exact hc
    cases hp:aV l (iH l (recAt l i).id)with
    | none=>rw[pC hs ar aa (by rw[a',xo,ee];exact hp),pC hs hr hc hp];rfl
    | some j=>
     cases hm:ea (k6 (bZ l (recAt l i).id) (recAt l j).dead) (recAt l i).dead with
     | none=>grind [pD]
     | some all=>
      by_cases h4:4000<κ all
      ·grind [pE]
      ·have aD:ea (k6 (bZ (j1 l) (recAt (j1 l) i).id) (recAt (j1 l) j).dead) (recAt (j1 l) i).dead=some []:=by rw[a',a'];exact rb []
       rw[kX hs ar aa (by rw[a',xo,ee];exact hp) aD aq,kX hs hr hc hp hm h4];simp only[VB,Ac0,wP,GG,a'];rfl
end
section
variable {next:Nat} {l:List al}
structure WI(l:List al)(V:al)(c:List Nat)(p:Nat)(z:al):Prop where
 mem:∀m∈c,∃y∈l,y.id=m/\y.aU=true/\y.owner=V.id
 pw:c.Pairwise (λa b=>wQ l b<wQ l a)
 zl:z∈l/\z.prev=p/\z.owner=V.id
 nx:∀x∈l,(x=V\/x.id∈c)->x.prev∈c\/x=z
 lw:∀y∈l,y.id=p->y.aU=true/\∀m∈c,y.ar<wQ l m
 la:∀h:0<κ c,z.id=c[κ c-1]
 lk:∀j(h:j+1<κ c),∀x∈l,x.id=c[j]->x.prev=c[j+1]
end
theorem Ou{full fD:List aj}(h:iL full=some fD):cO full=some (fD,[]):=by grind [iL]
theorem Vt{full fD sn:List aj}(h:dX full=some (fD,sn)):cO full=some (fD,sn)/\sn≠[]:=by grind [dX]
theorem Lk{full fD sn:List aj}(h:cO full=some (fD,sn)):ef fD=true/\(sn≠[]->ef sn=true):=by
 rcases iO full 64 with h1|⟨k,h1,_⟩
 ·grind [qx]
 ·rw[qy h1]at h;grind
section
variable {next:Nat} {l:List al} {full fD sn:List aj} {i:Nat}
theorem hK.named(F:hK next l)(hi:a1 l full=some i):dF l full=.ok i:=by
 unfold a1 at hi;split at hi
 ·cases hi
 ·rename_i k hk;have hkl:=lW hk;obtain⟨j,hj,h1,h2⟩:=ca F.gk (aJ hkl);rw[h1]at hi;cases hi;rw[hk,F.gk.mm hj hkl h2]
theorem hK.Bc(F:hK next l)(hi:a1 l full=none):∃n,dF l full=.error n:=by
 unfold a1 at hi;split at hi
 ·simp_all
 ·rename_i k hk;obtain⟨j,hj,h1,h2⟩:=ca F.gk (aJ (lW hk));simp_all
theorem hK.YQ(F:hK next l)(hs:cO full=some (fD,[]))(hi:dF l full=.ok i):i<κ l/\(recAt l i).aU=false/\eb l ⟨0,fD⟩=some i/\(recAt l i).name=fD:=by
 unfold dF at hi;rw[hs]at hi;simp only at hi;split at hi
 ·cases hi
 ·rename_i k hk;rw[bo trivial]at hi;cases hi;obtain⟨h1,h2⟩:=eP hk;unfold bY at h2;have:=(bH _).mp (F.rt _ (aJ h1));grind
theorem hK.VW(F:hK next l)(hi:ec l full=.ok i):i<κ l/\(recAt l i).aU=false:=by
 unfold ec at hi;split at hi
 ·cases hi
 ·rename_i fD hv;split at hi
  ·cases hi
  ·rename_i k hk;cases hi;have:=F.YQ (Ou hv) (F.named hk);simp_all
theorem uX{c:jt}(h:eb l c=none):∀y∈l,bY y≠c:=λy hy e=>by have:=tJ.mp h y hy;simp[e]at this
theorem hK.WS(F:hK next l)(hv:iL full=some fD)(h:a1 l full=none):∀y∈l,bY y≠⟨0,fD⟩:=by obtain⟨n,hn⟩:=F.Bc h;unfold dF at hn;rw[Ou hv]at hn;grind [uX]
theorem hK.Ah(F:hK next l)(hs:dX full=some (fD,sn))(hv:a1 l fD=some i)(h:a1 l full=none):(i<κ l/\(recAt l i).aU=false)/\∀y∈l,bY y≠⟨(recAt l i).id,sn⟩:=by obtain⟨e,e0⟩:=Vt hs;obtain⟨a,b,c,d⟩:=F.YQ (A9 ((Lk e).1)) (F.named hv);refine⟨⟨a,b⟩,?_⟩;obtain⟨n,hn⟩:=F.Bc h;grind [dF,uX]
end
theorem h6.mono{st aa:Nat}{M:au->au->Prop}(I:h6 st l M)(h:st<=aa):h6 aa l M:=by obtain⟨a,b,c,d,e,f⟩:=I;exact⟨λx hx p hp=>aQ,λx hx hs=>⟨aQ,(b x hx hs).2⟩,c,d,e,f⟩
section
variable {G:ch}
theorem Ab(hf:eS G=true):Shape G.next G.l/\cA G.l<=65535:=by unfold eS at hf;have h:=lF (iy hf).1;exact⟨⟨h.1.1,h.1.2.1,h.1.2.2⟩,h.2⟩
theorem bm.book(I:bm G){next' aa:Nat}{l':List al}(F':hK next' l')(S':h6 aa l' (gb G.P.C))(h1:∀z∈l',z.root=hole\/∃u∈G.l,u.root=z.root)(h2:∀z∈G.l,∃z'∈l',z'.root=z.root)(aE:G.P.st<=aa)(ab:aa<=281474976710655)(hf:eS {G with P:={G.P with st:=aa},next:=next',l:=l'}=true):bm {G with P:={G.P with st:=aa},next:=next',l:=l'}:=by
 refine⟨F',S',λz hz=>?_,I.md,I.ml,λq hq z hz p hp=>?_,I.s0,λi hi=>?_,I.s3,?_,ab,I.ln,hf⟩
 ·rcases h1 z hz with h|⟨u,hu,e⟩
  ·grind [eC,PB]
  ·show eC G.P.C z.root;rw[<-e];exact I.tr u hu
 ·have hp:=hp;rcases h1 z hz with h|⟨u,hu,e⟩
  ·grind [An]
  ·rw[<-e]at hp;exact I.mx q hq u hu p hp
 ·refine(I.s2 i hi).trans (or_congr ?_ Iff.rfl);grind [gb,An]
 ·have:=I.sb;simp;omega
theorem bm.create(I:bm G)(hn:1<=G.next){full:List aj}{N:Int}{nx:Nat}{l':List al}(h:cG G.next G.l full N=.ok (nx,l'))(hf:eS {G with next:=nx,l:=l'}=true):bm {G with next:=nx,l:=l'}:=by
 obtain⟨fD,hv,hb,hl,hr,rfl,rfl⟩:=oq h;exact I.book (I.hE.create ((Ab hf).1) rfl rfl rfl rfl (I.hE.WS hv hr)) (I.si.create I.hE (λy=>by rw[jI,or_comm]) rfl rfl rfl rfl hn (An _)) (λz hz=>by
  rcases jI.mp hz with h|rfl
  ·exact .inr ⟨z,h,rfl⟩
  ·exact .inl rfl) (λz hz=>⟨z,jI.mpr (.inl hz),rfl⟩) (aG _) I.st hf
theorem ni{l:List al}(S:ph l){next i:Nat}(hi:i<κ l)(hn:∀x∈l,x.id<next){s v':al}(hs:s.id=next)(hv:v'.id=(recAt l i).id):ph ((l++[s]).set i v')/\∀y,y∈(l++[s]).set i v'↔y=v'\/y=s\/(y∈l/\y≠recAt l i):=by grind [recAt,b',rF,mem_set,jI]
theorem bm.aU(I:bm G)(aE:G.P.st<281474976710655){full:List aj}{nx:Nat}{l':List al}(h:eX G.next G.l full G.P.st=.ok (nx,l'))(hf:eS {G with P:={G.P with st:=G.P.st+1},next:=nx,l:=l'}=true):bm {G with P:={G.P with st:=G.P.st+1},next:=nx,l:=l'}:=by
 obtain⟨fD,sn,i,hs,hi,hl,hr,ab,rfl,rfl⟩:=qt h;obtain⟨⟨aI,ad⟩,fr⟩:=I.hE.Ah hs hi hr;obtain⟨hm,F⟩:=aA (aJ aI) I.hE;obtain⟨sr,mm⟩:=ni F.gk aI F.PC (s:=iA G.next (recAt G.l i) sn G.P.st) (v':=lx G.next (recAt G.l i)) rfl rfl;have F':=F.aU (st:=G.P.st) ((Ab hf).1) sr (λx hx hs=>(I.si.sn x hx hs).1) (λx hx y hy e p hp=>by
  by_cases h0:x.prev=0
  ·have:=F.L9 y hy;omega
  ·obtain⟨u,hu,eu,_,_,k⟩:=F.pv x hx h0;rw[F.gk.inj hy hu ae];exact k p hp) hm ad mm rfl rfl rfl rfl rfl rfl rfl rfl ad rfl rfl rfl (λy hy e=>fr y hy e)
 exact I.book F' (I.si.aU F hm ad mm rfl rfl rfl rfl rfl rfl rfl rfl rfl ad rfl) (λz hz=>by
  rcases(mm z).mp hz with rfl|rfl|h
  ·exact .inr ⟨_,hm,rfl⟩
  ·exact .inr ⟨_,hm,rfl⟩
  ·exact .inr ⟨z,h.1,rfl⟩) (λz hz=>by
  by_cases h:z=recAt G.l i
  ·exact⟨_,(mm _).mpr (.inl rfl),nK⟩
  ·exact⟨z,(mm z).mpr (.inr (.inr ⟨hz,h⟩)),rfl⟩) ae ae hf
end
theorem sm:∀(l:List au){s:Nat->Nat}{ba k:Nat},(∀q∈l,q.aT<=ba)->(bJ s ba l k=1↔s k=1)
 | [],_,_,_,_=>Iff.rfl
 | q::l,s,ba,k,h=>by
  show bJ (gO s ba q) ba l k=1↔_;rw[sm l (λx hx=>h x (bt _ hx))];have hq:=h q aq;unfold gO;split
  ·exact Iff.rfl
  ·rw[aM ae];unfold sc;split
   ·rename_i hb;unfold e7;split
    ·rename_i hk;unfold J7 at hb;simp only[Abc,decide_eq_true_eq]at hb;rw[<-hk]at hb;constructor
     ·intro h;cases h
     ·intro h;omega
    ·exact Iff.rfl
   ·exact Iff.rfl
theorem JM{s:Nat->Nat}{ba k:Nat}(hk:k<1024){l:List au}(hn:∀q∈l,q≠hole):bJ s ba l k=2↔s k=2/\∀q∈l,q.loc≠(k:Int):=by
 constructor
 ·intro h;by_cases hc:∀q∈l,q.loc≠(k:Int)
  ·grind [lU]
  ·by_cases h2:s k=2
   ·have hx:∃q∈l,q.loc=(k:Int):=by simp_all
    grind [ou]
   ·grind [gU]
 ·grind [lU]
section
variable {G:ch} {b:List aj} {P8:bu} {q:au} {ps:List au}
structure G4(G:ch)(b:List aj)(G2:ch)(ats:List Nat):Prop where
 len:κ ats=dU (κ b) (κ G.P.C)
 nd:ats.Nodup
 fr:∀i∈ats,i<1024/\G.P.s i=1
 loc:(G2.ms.map (·.loc)).Perm (ats.map (λk:Nat=>(k:Int)))
 bir:∀p∈G2.ms,p.aT=G.P.st
 cl:κ G2.P.C=κ G.P.C
 Qi:∀i,4<=i->i ∉ ats->G2.P.C[i]?=G.P.C[i]?
 one:∀i,i<1024->(G2.P.s i=1↔(G.P.s i=1/\i ∉ ats)\/(bJ G.P.s G.P.ba G.ms i=3/\i ∉ ats))
 two:∀i,i<1024->(G2.P.s i=2↔i∈ats\/(G.P.s i=2/\∀q∈G.ms,q.loc≠(i:Int)))
 zer:∀i,G2.P.s i=0↔G.P.s i=0
 le:∀i,G2.P.s i<=3
 no3:∀i,i<1024->G2.P.s i≠3
 nx:G2.next=G.next
 l:G2.l=G.l
 st:G2.P.st=G.P.st+1
 ba:G2.P.ba=G.P.st
 m:G2.P.m=0
 tx:G2.u.dq=G.u.dq+1
theorem vO(I:bm G){G2:ch}(h:mN G b G2):∃ats,G4 G b G2 ats:=by
 obtain⟨q,ps,P8,⟨ats,h1,h2,h3,h4,h5,h6,h7⟩,rfl⟩:=h;obtain⟨w1,w2,w3,w4,w5,w6,w7,w8⟩:=h5;have old:∀q∈G.ms,q.aT<=G.P.ba:=λq hq=>(I.ml q hq).2.2;have nh:∀q∈G.ms,q≠hole:=λq hq e=>Ts
 have w4:κ P8.C=κ G.P.C:=w4;have w2:P8.st=G.P.st:=w2;have w3:P8.ba=G.P.ba:=w3;have w6:∀i,i ∉ ats->P8.C[i]?=G.P.C[i]?:=w6;clear w5;have s8:∀i,(WV G P8 q ps).P.s i=if i<1024/\(if i∈ats then 2 else bJ G.P.s G.P.ba G.ms i)=3 then 1 else if i∈ats then 2 else bJ G.P.s G.P.ba G.ms i:=λi=>by show iv P8.s 1024 i=_;rw[w1];rfl
 have le:∀i,bJ G.P.s G.P.ba G.ms i<=3:=λi=>by
  by_cases hi:i<1024
  ·exact vR G.ms (I.s3 i) nh hi
  ·rw[lU G.ms (λq hq e=>by have:=(I.ml q hq).2.1;omega)];exact I.s3 i
 refine⟨ats,⟨h1,h2,(λi hi=>⟨(h3 i hi).1,(sm G.ms old).mp (h3 i hi).2⟩),w7,w8,?_,λi hi hn=>?_,λi hi=>?_,λi hi=>?_,λi=>?_,λi=>?_,λi hi=>?_,rfl,rfl,?_,?_,rfl,rfl⟩⟩
 ·show(P8.C.set _ _).length=_;simp;omega
 ·show(P8.C.set _ _)[i]?=_;grind
 ·grind [sm]
 ·grind [JM]
 ·grind [hQ]
 ·grind
 ·grind
 ·show P8.st+1=_;rw[w2]
 ·exact w2
theorem Hl{s:Nat->Nat}{L:List Nat}(hn:L.Nodup)(h:∀i∈L,i<1024/\s i=1):κ L<=bp s:=by unfold bp gT;exact ei L _ hn (λi hi=>List.mem_filter.mpr ⟨List.mem_range.mpr (h i hi).1,aa⟩)
theorem JP{L ats:List Nat}(hn:L.Nodup):κ L<=κ (L.filter (λi=>decide (i ∉ ats)))+κ ats:=by
 have h1:κ L=κ (L.filter (λi=>decide (i ∉ ats)))+κ (L.filter (λi=>decide (i∈ats))):=by
  induction L with
  | nil=>rfl
  | cons x L ih=>grind
 have h2:=ei (L.filter (λi=>decide (i∈ats))) ats (hn.filter _) (λi hi=>aa);omega
theorem G4.count(I:bm G){G2:ch}{ats:List Nat}(K:G4 G b G2 ats):bp G.P.s+κ G.ms<=bp G2.P.s+κ ats:=by
 have nh:∀q∈G.ms,q≠hole:=λq hq e=>Ts
 have loc:∀q∈G.ms,((q.loc.toNat:Nat):Int)=q.loc/\q.loc.toNat<1024:=λq hq=>Fp
 have mt:∀q∈G.ms,G.P.s q.loc.toNat=2:=λq hq=>I.re hq;let A:=(Aaj 1024).filter (λk=>decide (G.P.s k=1));let L:=A++G.ms.map (·.loc.toNat);have nd:L.Nodup:=by
  refine List.nodup_append.mpr ⟨List.nodup_range.filter _,?_,?_⟩
  ·have:=I.md;exact Nj
  ·grind
 have hl:κ L=bp G.P.s+κ G.ms:=by show(A++_).length=_;rw[Aaf,Aad];rfl
 have h1:=JP (ats:=ats) nd;have h2:κ (L.filter (λi=>decide (i ∉ ats)))<=bp G2.P.s:=Hl (nd.filter _) (λi hi=>by
  obtain⟨ad,ai⟩:=List.mem_filter.mp hi;have ai:i ∉ ats:=by simpa using ai
  rcases List.mem_append.mp ad with h|h
  ·obtain⟨r,s⟩:=List.mem_filter.mp h;have r:=List.mem_range.mp r;exact⟨r,(K.one i r).mpr (.inl ⟨aa,ai⟩)⟩
  ·obtain⟨q,hq,rfl⟩:=List.mem_map.mp h;refine⟨(loc q hq).2,(K.one _ (loc q hq).2).mpr (.inr ⟨?_,ai⟩)⟩;exact zX G.ms (λx hx=>⟨nh x hx,(I.ml x hx).2.2⟩) ⟨q,hq,(loc q hq).1.symm⟩ (loc q hq).2 (mt q hq))
 omega
theorem G4.YG(I:bm G){G2:ch}{ats:List Nat}(K:G4 G b G2 ats){x:al}(hx:x∈G.l){p:au}(hp:gb G.P.C x.root p):p.loc.toNat ∉ ats/\4<=p.loc/\p.loc<1024:=by obtain⟨h2,hl⟩:=aA (I.taken hx hp) (I.tr x hx);have:=gb.loc hl hp;exact⟨λh=>by have:=(K.fr _ h).2;omega,ae,ae⟩
theorem G4.tree(I:bm G){G2:ch}{ats:List Nat}(K:G4 G b G2 ats){x:al}(hx:x∈G.l):eC G2.P.C x.root/\(∀a,a<73->eD G2.P.C x.root a=eD G.P.C x.root a)/\(∀a,a<73->fE G2.P.C (eD G.P.C x.root a)=fE G.P.C (eD G.P.C x.root a)):=(I.tr x hx).congr (λp hp=>by obtain⟨h1,h2,_⟩:=K.YG I hx hp;exact K.Qi _ ae h1)
def G4.inT(I:bm G){G2:ch}{ats:List Nat}(K:G4 G b G2 ats){x:al}(hx:x∈G.l)(p:au):gb G2.P.C x.root p↔gb G.P.C x.root p:=gb.congr (K.tree I hx).2.1
theorem G4.read(I:bm G){G2:ch}{ats:List Nat}(K:G4 G b G2 ats){x:al}(hx:x∈G.l){j:Nat}(hj:j<64):vG G2.P.C x j=vG G.P.C x j:=by obtain⟨_,h2,h3⟩:=K.tree I hx;grind [vG]
theorem G4.cost{G2:ch}{ats:List Nat}(K:G4 G b G2 ats):fe G2=fe G:=by unfold fe;rw[K.nx,K.l,K.cl]
theorem G4.at(I:bm G){G2:ch}{ats:List Nat}(K:G4 G b G2 ats)(i:Nat):(∃p∈G2.ms,p.loc=(i:Int))↔i∈ats:=by have:=K.loc.mem_iff (a:=(i:Int));grind
theorem bm.com(I:bm G){G2:ch}{ats:List Nat}(K:G4 G b G2 ats)(hb:κ b=cA G.l)(aE:G.P.st<281474976710655):bm G2:=by
 have sh:=I.shape;have hk:κ ats=fe G:=by rw[K.len,hb];exact(jg sh.1 sh.2 I.ln).symm
 have ml:κ G2.ms=κ ats:=by have:=K.loc.length_eq;simp_all
 have ab:∀q∈G2.ms,q.loc.toNat∈ats/\((q.loc.toNat:Nat):Int)=q.loc:=λq hq=>by have:=K.loc.mem_iff.mp (List.mem_map.mpr ⟨q,hq,rfl⟩);grind
 refine⟨by rw[K.nx,K.l];exact I.hE,?_,?_,?_,?_,?_,?_,?_,K.le,?_,?_,?_,?_⟩
 ·rw[K.l,K.st];exact(I.si.mono (ix _)).congr (λx hx p=>K.inT I hx p)
 ·rw[K.l];exact λx hx=>(K.tree I hx).1
 ·exact(K.loc.nodup_iff).mpr (List.pairwise_map.mpr (List.Pairwise.imp (λ{a c:Nat} (h:a≠c) (e:(a:Int)=(c:Int))=>h ae) (by have h:List.Pairwise Ne ats:=K.nd;exact h)))
 ·intro q hq;obtain⟨h1,h2⟩:=ab q hq;obtain⟨h3,h4⟩:=K.fr _ h1;have h5:=mt (I.s0 q.loc.toNat).mpr ae;rw[K.bir q hq,K.ba];omega
 ·rw[K.l];intro q hq x hx p hp e;obtain⟨h1,h2⟩:=ab q hq;exact(K.YG I hx ((K.inT I hx p).mp hp)).1 aa
 ·intro i;rw[K.zer,K.cl];exact I.s0 i
 ·intro i hi;rw[K.two i hi,K.l];obtain⟨e,eA⟩:=aA (I.s2 i hi) (K.at I i);constructor
  ·rintro(h|⟨h,h2⟩)
   ·simp_all
   ·rcases e.mp h with⟨x,hx,p,hp,e⟩|⟨q,hq,e⟩
    ·exact .inl ⟨x,hx,p,(K.inT I hx p).mpr hp,e⟩
    ·simp_all
  ·rintro(⟨x,hx,p,hp,e1⟩|h)
   ·have hp:=(K.inT I hx p).mp hp;exact .inr ⟨e.mpr (.inl ⟨x,hx,p,hp,e1⟩),λq hq e2=>I.mx q hq x hx p hp ae⟩
   ·simp_all
 ·rw[K.ba,K.st];omega
 ·rw[K.st];omega
 ·rw[K.cl];exact I.ln
 ·obtain⟨h,hf⟩:=aA (K.count I) I.ft;unfold eS at hf ⊢;have hf:=iy hf;rw[K.cost,ml];simp;omega
end
def aan(G:ch)(p gb:Nat)(H:aP)(full:List aj)(N:Int)(w:af)(e:Ab1)(w':af):Prop:=((∃n:Nat,e4 G.l full N=.error n/\e=.returned (.tuple #[.agg (aC aK),.int .i64 (n:Int)]))\/(∃k s,e4 G.l full N=.ok k/\vG G.P.C (recAt G.l k) N.toNat=some s/\e=.returned (.tuple #[.agg (aC s.val),.int .i64 0])))/\bT w' p gb H G/\Touch (PF H) w w'
theorem GA.sec{W W':af}{gb g:Nat}(a:GA W gb H G)(hg:aH W g 60 C)(T:Touch (·=g) W W')(hn:∀b,PF H b->b≠g):GA W' gb H G:=by obtain⟨vb,vm,g1,os,om,pa⟩:=a;exact⟨vb,vm,g1.az T (fj g1 hg ax),(by obtain⟨ys,y1,y2,y3⟩:=os;exact⟨ys,y1,ak.az y2 T (λb hb e=>ew ax hg y2 aa),λy hy=>ak.az (y3 y hy) T (λb hb e=>ew ax hg (y3 y hy) aa)⟩),ak.az om T (λb hb e=>ew ax hg om aa),pa.az T (λb hb e=>hn b hb e)⟩
theorem pH{full:List aj}(h:e4 l full N=.ok k):k<κ l/\0<=N/\N<(recAt l k).blocks:=by
 unfold e4 at h;split at h
 ·cases h
 ·rename_i k' hk;split at h
  ·cases h
  ·cases h;exact⟨lW hk,ae,ae⟩
theorem Hu{full:List aj}(h:e4 l full N=.error n):n≠0:=uv
theorem bT.go{w w':af}{p gb:Nat}(A:bT w p gb H G)(pa:PA w' H G.P)(t:Touch (PF H) w w'):bT w' p gb H G:=⟨A.e5.az t (A.ga.pa.cc A.e5 ax),A.ga.n4 H.h.vp pa t⟩
theorem wF(w:af)(p gb:Nat)(H:aP)(G:ch)(A:bT w p gb H G)(I:bm G)(full:List aj)(hf:κ full<=9223372036854775807)(N:Int):Aae Aag 21 #[.pointer (some ⟨p,0,none⟩),.string (strOf full),.int .i64 N] w (aan G p gb H full N w):=by
 have cp:w.cell? ⟨p,0,none⟩=some (.pointer (some ⟨gb,0,none⟩)):=A.e5.cell 0;have np:¬PF H p:=A.ga.pa.cc A.e5 ax;have s:=Fr.n4 A.ga.pa;have ag:=an (dD ep);go_in;go_wp2_with(refine fw s ?_;intro _ w s);refine(wD w p gb H G (A.go s.pa s.t)).mono ?_;rintro e _⟨rfl,rfl⟩;go_wp2_with(refine fw s ?_;intro _ w s);refine(gy w gb H G (A.go s.pa s.t).ga I.hl I.hr).mono ?_;rintro e w⟨v2,rfl,ao,u⟩;obtain⟨a2,c2,rfl⟩:=ao.cE.slice;obtain⟨ys,e0,z⟩:=Rz.s ao u s.t.size;have e:=an e0;clear e0;have s:=s.new z;go_wp2_with(refine fw s ?_;intro _ w s);refine(Dx w G.next _ G.l (by have:=s.cE (ys:=ys);rw[e.out]at this;exact this.cE) I.hr full hf N).mono ?_;rintro e w(⟨n,hn,rfl,u⟩|⟨k,vd,hk,hkl,rfl,od,u⟩)
 ·have s:=s.up u;have nz:((n:Int) != 0)=true:=by have:=Hu hn;simp;omega
  go_wp2_with(refine fw s ?_;intro _ w s);refine bB ?_;exact⟨.inl ⟨n,hn,rfl⟩,A.go s.pa s.t,s.t⟩
 ·have VA:=pH hk;obtain⟨da,dc,rfl⟩:=(ak.row od pw).slice;obtain⟨s,xm⟩:=aA (s.new (.q od u s.t.size)) (aJ hkl);have aa:=an (show N.toNat<64/\N=(N.toNat:Int)by obtain⟨h1,h2⟩:=aA VA.2 (((bH _).mp (I.hE.rt _ xm)).2.2.2.1);omega)
  obtain⟨sc,aR,av⟩:=(I.tr _ xm).get (i:=N.toNat) aa.out.1;obtain⟨ad,ai,ab⟩:=aW (dD sc) (dj sc.val) (show(aC aK).size=(aC sc.val).size from by rw[n3];exact n3 ep);have TG:=an (λW (a:PA W H G.P)=>show Aae Aag 52 #[.pointer (some ⟨H.pb,0,none⟩),.agg (be (recAt G.l k).root),.int .i64 N] W (λe w'=>e=.returned (.tuple #[.agg (aC sc.val),.int .i64 0])/\PG W H G.P w')from by have:=VL W H G.P a (recAt G.l k).root N.toNat aa.out.1 sc aR;rw[show(N.toNat:Int)=N from aa.out.2.symm]at this;exact this)
  replace aR:=an aR;replace av:=an av;go_wp2_with(refine fw s ?_;intro _ w s);refine kpl s (λw s=>?_);repeat refine kt ?_
  refine kj 5 ?_;refine kj 6 ?_;refine kj 7 ?_;refine kc (λw _ s=>ia w gb H G (A.go s.pa s.t).ga) ?_;rintro w _ s _ _⟨rfl,rfl⟩;refine lK ?_;repeat(first|refine kx ?_|refine kt ?_)
  refine Yu (λw _ s=>TG.out w s.pa) ?_;rintro w _ s _ w'⟨rfl,pg⟩;refine⟨_,_,rfl,.pg s pg,Wj,?_⟩;repeat refine kt ?_
  refine kn (λ_ w u s=>?_);refine ks (λw s=>?_);repeat refine kt ?_
  refine kd (λw u s=>?_);go_wp2_with(refine fw s ?_;intro _ w s);refine bB ?_;exact⟨.inr ⟨k,sc,hk,av.out,rfl⟩,A.go s.pa s.t,s.t⟩
structure hT where
 name:List aj
 blocks:Int
 dead:Int
 Jc:List aj
deriving DecidableEq
def hp(x:hT):Array ah:=#[.string (strOf x.name),.int .i64 x.blocks,.int .i64 x.dead,.string (strOf x.Jc)]
def nE(x:hT):List ah:=(hp x).toList
theorem iw:hL nE 4:=⟨ae,λ_=>rfl,λx u hu=>by simp[nE,hp]at hu;rcases hu with rfl|rfl|rfl|rfl<;>rfl⟩
theorem Au(x:hT):(hp x).all (·.oneCell')=true:=by simp[hp,Ac8]
theorem Av(x:hT):(prog.info? 45).map (·.size)=some (hp x).size:=av
def aab:hT:=⟨[],0,0,[]⟩
theorem Wc:∀W:af,(Ab9 45).run Aag W=.ok (.agg (hp aab)) W:=gE
theorem Dc:(prog.info? 45).map (λi=>(i.zero,i.size,i.bytes))=some (some (.agg (hp aab)),4,48):=av
theorem Jj(s:List aj)(b d:Int):prog.built 45 [(0,.string (strOf s)),(1,i6 b),(2,i6 d)]=some (hp ⟨s,b,d,[]⟩):=av
theorem Ji(s:List aj)(b:Int):prog.built 45 [(0,.string (strOf s)),(1,i6 b)]=some (hp ⟨s,b,0,[]⟩):=av
abbrev D2(w:af)(v:ah)(l:List hT):Prop:=aI nE w v l
abbrev zu(w:af)(base:Nat)(v:ah)(l:List hT):Prop:=ak nE 4 45 w base v l
def JV(l:List al)(x:al):List aj:=if x.aU=true then [] else d' l (gN l x.id).2
def jB(l:List al)(x:al):hT:=⟨d' l x.id,x.blocks,κ x.dead,JV l x⟩
def fQ(l:List al)(x:al):hT:=⟨d' l x.id,x.blocks,0,JV l x⟩
section
variable {P:bx} {ops:Array Abn} {S:af->Prop} {o:Abn} {a:Act}
end
theorem abF:zc Aag 45=hp aab:=av
theorem wE(w:af)(p gb:Nat)(H:aP)(G:ch)(A:bT w p gb H G)(I:bm G):Aae Aag 11 #[.pointer (some ⟨p,0,none⟩)] w λe w'=>∃v,e=.returned v/\zu w' w.heap.size v (G.l.map (jB G.l))/\Up w w':=by
 refine F5 ?_;intro c0;obtain⟨BK,HL⟩:=aA (gy w gb H G A.ga I.hl I.hr) I.hl;clear A I;generalize G.l=l at *;generalize G.next=nx at *
 go_in;go_wp2_with fail;refine BK.mono ?_;rintro e w0⟨v0,rfl,aa,U0⟩;obtain⟨a,cap,rfl⟩:=aa.cE.slice;obtain⟨BF,hv,s⟩:=db (LX nx a (κ l) cap) aa.cE (Fr.start w0);go_wp2_with fail;have s:=s.ZA (f:=nE) (j:=4) (e:=45);go_loopw [4,16] (λv i wr=>∃k:Nat,k<=κ l/\i=.int .i64 k/\Fr no w0 [Gg nE 4 45 w0.heap.size v ((l.take k).map (jB l))] wr) (λ_ i _=>κ l-(Aat i).toNat)
 case atStart=>exact⟨0,bE _,rfl,s⟩
 case round=>
  obtain⟨k,hk,rfl,s⟩:=hrel;by_cases hlt:k<κ l
  ·refine oL ?_;intro b3;have NX:=an (show(l.take (k+1)).map (jB l)=(l.take k).map (jB l)++[jB l (recAt l k)] from Kc);have LL:κ ((l.take k).map (jB l))<=1000:=by rw[Aad,ev];omega
   obtain⟨b,off,aC,_,da,dc,rg,_⟩:=cn hv hlt;subst aC;have HIO:=an (show jB l (recAt l k)=⟨d' l (recAt l k).id,(recAt l k).blocks,(κ (recAt l k).dead:Int),if(recAt l k).aU=true then [] else d' l (gN l (recAt l k).id).2⟩ from rfl);generalize recAt l k=x at *;generalize(l.take k).map (jB l)=il at *;obtain⟨va,vc,rfl⟩:=(ak.row s.row iw).slice;obtain⟨i0,i1,i2,i3,i4,i5,ab,i7,i8⟩:=cd rg;have BU:=an (Jj (d' l x.id) x.blocks (κ x.dead:Int));go_wp2_with(refine fw s ?_;intro _ w s);refine kb s (λw s=>?_);repeat refine kt ?_
   refine kj 6 ?_;refine kj 7 ?_;refine kj 8 ?_;refine kj 9 ?_;refine kj 10 ?_;refine kj 11 ?_;refine kj 12 ?_;refine kj 13 ?_;refine kj 14 ?_;refine kc (λw _ s=>tP w _ l (hv.up s.pure) x.id) ?_;rintro w _ s _ w'⟨rfl,u⟩;refine⟨_,rfl,u,?_⟩;repeat(first|refine kx ?_|refine kt ?_)
   refine kn (λ_ w u s=>?_);obtain⟨II,OO⟩:=aw (Av ⟨d' l x.id,x.blocks,(κ x.dead:Int),[]⟩) (Au ⟨d' l x.id,x.blocks,(κ x.dead:Int),[]⟩);refine ks (λw s=>?_);refine kd (λw u s=>?_);have I3:=Dc;cases hsn:x.aU with
   | true=>
    rw[hsn]at i2;go_wp2_with(first|(refine fw s ?_;intro _ w s)|(refine Za s ?_;intro _ w s)|(at_builtin;refine far iw ⟨d' l x.id,x.blocks,(κ x.dead:Int),[]⟩ s ?_;intro a7 c7 w s));go_roundw
    case rel=>exact⟨k+1,ae,aq,Fz⟩
    case measure=>simp only[Aat];omega
   | false=>
    rw[hsn]at i2;go_wp2_with(refine fw s ?_;intro _ w s);refine(Bo w _ l (hv.up s.pure) x.id).mono ?_;refine eE ?_;intro w u s;go_wp2_with(refine fw s ?_;intro _ w s);refine(tP w _ l (hv.up s.pure) _).mono ?_;refine eE ?_;intro w u s;have SP:(Aby (hp ⟨d' l x.id,x.blocks,(κ x.dead:Int),[]⟩).toList 3 (#[.string (strOf (d' l (gN l x.id).2))]:Array ah).toList).toArray=hp ⟨d' l x.id,x.blocks,(κ x.dead:Int),d' l (gN l x.id).2⟩:=rfl;go_wp2_with(first|(refine fw s ?_;intro _ w s)|(refine Za s ?_;intro _ w s)|(at_builtin;refine far iw ⟨d' l x.id,x.blocks,(κ x.dead:Int),d' l (gN l x.id).2⟩ s ?_;intro a7 c7 w s));go_roundw
    case rel=>exact⟨k+1,ae,aq,Fz⟩
    case measure=>simp only[Aat];omega
  ·obtain rfl:k=κ l:=by omega
   have b3:((κ l:Int)<(κ l:Int))=False:=aq
   go_wp2_with fail;refine bB ?_;have r:=s.row (f:=nE) (j:=4) (e:=45);rw[dh (aG _)]at r;exact⟨_,rfl,r.mono U0.size,U0.trans s.pure⟩
def nY(next:Nat)(vb:ah)(vm:ah)(st made:Nat):Array ah:=#[.int .u64 (next:Int),vb,vm,.int .u64 (st:Int),.int .u64 (made:Int)]
theorem PY(w:af)(mb next:Nat)(vb vm:ah)(st made:Nat)(l:List al)(BM:aH w mb 76 (nY next vb vm st made))(hv:cB w vb l)(hl:κ l<=1000):Aae Aag 12 #[.pointer (some ⟨mb,0,none⟩)] w λe w'=>∃v,e=.returned v/\zu w' w.heap.size v (l.map (fQ l))/\Up w w':=by
 obtain⟨a,cap,rfl⟩:=hv.slice;have c1:w.cell? ⟨mb,1,none⟩=some (.slice a (κ l) cap):=BM.cell 1;clear BM;have s:=Fr.start w;go_in;go_wp2_with fail;have s:=s.ZA (f:=nE) (j:=4) (e:=45);go_loopw [4,15] (λv i wr=>∃k:Nat,k<=κ l/\i=.int .i64 k/\Fr no w [Gg nE 4 45 w.heap.size v ((l.take k).map (fQ l))] wr) (λ_ i _=>κ l-(Aat i).toNat)
 case atStart=>exact⟨0,bE _,rfl,s⟩
 case round=>
  obtain⟨k,hk,rfl,s⟩:=hrel;by_cases hlt:k<κ l
  ·refine oL ?_;intro b3;have NX:=an (show(l.take (k+1)).map (fQ l)=(l.take k).map (fQ l)++[fQ l (recAt l k)] from Kc);have LL:κ ((l.take k).map (fQ l))<=1000:=by rw[Aad,ev];omega
   obtain⟨b,off,aC,_,da,dc,rg,_⟩:=cn hv hlt;subst aC;have HIO:=an (show fQ l (recAt l k)=⟨d' l (recAt l k).id,(recAt l k).blocks,0,if(recAt l k).aU=true then [] else d' l (gN l (recAt l k).id).2⟩ from rfl);generalize recAt l k=x at *;generalize(l.take k).map (fQ l)=il at *;obtain⟨va,vc,rfl⟩:=(ak.row s.row iw).slice;obtain⟨i0,i1,i2,i3,i4,i5,ab,i7,i8⟩:=cd rg;have BU:=an (Ji (d' l x.id) x.blocks);go_wp2_with(refine fw s ?_;intro _ w s);refine kb s (λw s=>?_);repeat refine kt ?_
   refine kj 6 ?_;refine kj 7 ?_;refine kj 8 ?_;refine kj 9 ?_;refine kc (λw _ s=>tP w _ l (hv.up s.pure) x.id) ?_;rintro w _ s _ w'⟨rfl,u⟩;refine⟨_,rfl,u,?_⟩;repeat(first|refine kx ?_|refine kt ?_)
   refine kn (λ_ w u s=>?_);obtain⟨II,OO⟩:=aw (Av ⟨d' l x.id,x.blocks,0,[]⟩) (Au ⟨d' l x.id,x.blocks,0,[]⟩);refine ks (λw s=>?_);refine kd (λw u s=>?_);have I3:=Dc;cases hsn:x.aU with
   | true=>
    rw[hsn]at i2;go_wp2_with(first|(refine fw s ?_;intro _ w s)|(refine Za s ?_;intro _ w s)|(at_builtin;refine far iw ⟨d' l x.id,x.blocks,0,[]⟩ s ?_;intro a7 c7 w s));go_roundw
    case rel=>exact⟨k+1,ae,aq,Fz⟩
    case measure=>simp only[Aat];omega
   | false=>
    rw[hsn]at i2;go_wp2_with(refine fw s ?_;intro _ w s);refine(Bo w _ l (hv.up s.pure) x.id).mono ?_;refine eE ?_;intro w u s;go_wp2_with(refine fw s ?_;intro _ w s);refine(tP w _ l (hv.up s.pure) _).mono ?_;refine eE ?_;intro w u s;have SP:(Aby (hp ⟨d' l x.id,x.blocks,0,[]⟩).toList 3 (#[.string (strOf (d' l (gN l x.id).2))]:Array ah).toList).toArray=hp ⟨d' l x.id,x.blocks,0,d' l (gN l x.id).2⟩:=rfl;go_wp2_with(first|(refine fw s ?_;intro _ w s)|(refine Za s ?_;intro _ w s)|(at_builtin;refine far iw ⟨d' l x.id,x.blocks,0,d' l (gN l x.id).2⟩ s ?_;intro a7 c7 w s));go_roundw
    case rel=>exact⟨k+1,ae,aq,Fz⟩
    case measure=>simp only[Aat];omega
  ·obtain rfl:k=κ l:=by omega
   have b3:((κ l:Int)<(κ l:Int))=False:=aq
   go_wp2_with fail;refine bB ?_;have r:=s.row (f:=nE) (j:=4) (e:=45);rw[dh (aG _)]at r;exact⟨_,rfl,r,s.pure⟩
def hT.live(x:hT):hT:={x with dead:=0}
theorem S0(x y:hT)(W:af):(Ack 10000 45 (.agg (hp x)) (.agg (hp y))).run Aag W=.ok (decide (x=y)) W:=by
 obtain⟨n,b,d,f⟩:=x;obtain⟨n2,b2,d2,f2⟩:=y;have e:decide ((⟨n,b,d,f⟩:hT)=⟨n2,b2,d2,f2⟩)=((((strOf n).toList==(strOf n2).toList)) && ((b==b2) && ((d==d2) && ((strOf f).toList==(strOf f2).toList)))):=by rw[AP];simp[Adl,mA]
 rw[e];clear e;show(Ack (9999+1) 45 (.agg #[.string (strOf n),.int .i64 b,.int .i64 d,.string (strOf f)]) (.agg #[.string (strOf n2),.int .i64 b2,.int .i64 d2,.string (strOf f2)])).run Aag W=_;rw[yx W 9999 45 _ _ av av];cases h:((strOf n).toList==(strOf n2).toList)<;>cases h1:(b==b2)<;>cases h2:(d==d2)<;>cases h3:((strOf f).toList==(strOf f2).toList);all_goals go_simp
theorem WX(x1 x2:bO)(ho:o.op=.binOp .neq 45 x1 x2 45)(y:hT)(h1:a.eval x1=.agg (hp y))(h2:a.eval x2=.agg (hp y))(W:af):(Abs a.eval o).run Aag W=.ok (.value (.bool false)) W:=by
 have e:(Ack Op.maxDepth 45 (.agg (hp y)) (.agg (hp y))).run Aag W=.ok (decide (y=y)) W:=S0 y y W;rw[show decide (y=y)=true from aq]at e;unfold Abs;simp only[ho,h1,h2,binOp,Op.equal];have g:(eqGuard .neq 45 x1 x2 (.agg (hp y)) (.agg (hp y))).run Aag W=.ok () W:=by unfold eqGuard;go_simp
 simp only[Aaw,g,Aau,Acq];rw[e];rfl
theorem J5{a:Option Addr}{l:List hT}(h:D2 w (.slice a n cap) l)(hk:k<κ l):∃b off,a=some ⟨b,off,none⟩/\b<w.heap.size/\w.rangeAt b (off+k*4) (hp l[k]).toList:=by obtain⟨b,off,e,hb,_,hc⟩:=aI.get h iw ae;exact Nk
def Eg(l m:List hT):Prop:=m=l.map hT.live
section
open Go.Maps
abbrev lf:=cN × Nat
def Ry(x:lf):List ah:=x.1.val.map aF++[.int .u64 (x.2:Int)]
def vE(x:lf):Array ah:=(Ry x).toArray
def G1:lf:=(⟨aK,rfl⟩,0)
def kW(l:List lf):Array ah:=(l.flatMap Ry).toArray
def rN:List lf:=Aac 64 G1
theorem qK(x:lf):κ (Ry x)=129:=by grind [Ry]
theorem ps(x:lf):(vE x).size=129:=by simp[vE,qK]
theorem nR:∀l:List lf,(kW l).size=κ l*129
 | []=>rfl
 | x::l=>by have:=nR l;simp only[kW,Abh,Abg,Aaf,qK,Aal]at this ⊢;omega
theorem WY:(prog.info? 145).map (·.size)=some 129:=av
theorem S3:(prog.info? 146).map (·.size)=some 8256:=av
theorem Yh:∀W:af,(Ab9 145).run Aag W=.ok (.agg (vE G1)) W:=(lq (P:=Aag) (t:=145) (v:=.agg (vE G1)) (n:=129) ay).1
theorem Jb:∀W:af,(Ab9 146).run Aag W=.ok (.agg (kW rN)) W:=(lq (P:=Aag) (t:=146) (v:=.agg (kW rN)) (n:=8256) av).1
theorem D6(x:lf):∀v∈Ry x,∃k a,v=Acj k a:=λv hv=>by
 unfold Ry at hv;rw[eT,Abf,kl]at hv;rcases hv with⟨y,_,rfl⟩|rfl
 ·exact⟨_,_,rfl⟩
 ·exact⟨_,_,rfl⟩
theorem Ha(l:List lf):∀v∈(kW l).toList,∃k a,v=Acj k a:=by grind [kW,D6]
theorem HL(h:∀v∈C.toList,∃k a,v=Acj k a):C.all (·.oneCell')=true:=by rw[v8];intro v hv;obtain⟨k,a,rfl⟩:=h v (Array.mem_toList_iff.2 hv);rfl
def LW(x:lf):(vE x).all (·.oneCell')=true:=HL (λv hv=>D6 x v hv)
def Sb(l:List lf):(kW l).all (·.oneCell')=true:=HL (Ha l)
def SF:ah->DataW Unit
 | .int k a=>.lit (.int k a)
 | _=>.nil
def JN(C:Array ah):DataW Unit:=.agg (C.toList.map SF)
theorem SG{v:ah}{k:IntKind}{a:Int}(h:SF v=.lit (.int k a)):v=.int k a:=by unfold SF at h;grind
theorem C5:∀{l m:List ah},l.map SF=m.map SF->(∀v∈m,∃k a,v=Acj k a)->l=m
 | [],[],_,_=>rfl
 | [],_::_,h,_=>by simp at h
 | _::_,[],h,_=>by simp at h
 | x::l,y::m,h,hi=>by simp only[Acf,List.cons.injEq]at h;obtain⟨k,a,rfl⟩:=hi y (cV ..);rw[SG h.1,C5 h.2 (λv hv=>hi v (bt _ hv))]
def RB:ah->Option (DataW Unit × List MemPlace)
 | .agg C=>some (JN C,[])
 | _=>none
theorem YX{v:ah}{l:List lf}{ps:List MemPlace}(h:RB v=some (JN (kW l),ps)):v=.agg (kW l):=by
 unfold RB at h;split at h
 ·rename_i C;simp only[JN,Aai,Prod.mk.injEq,DataW.agg.injEq]at h;rw[hS.1 (C5 h.1 (Ha l))]
 ·cases h
def wS:Keyed Aag 70:=int_keyed underlying70
theorem Z1(n:Nat)(h:n<18446744073709551616):(Lit.int .u64 (n:Int)).wf=true:=by exact Nf
def GN(n:Nat)(h:n<18446744073709551616):keyOf Aag 70 (.int .u64 (n:Int))=some (.int .u64 (n:Int)):=keyOf_int_mk underlying70 (Z1 n h)
def eF(w:af)(b n:Nat)(B:Nat->List lf):Prop:=(∀i,κ (B i)=64)/\∃D:DataW Unit,w.ownsMap Aag 70 RB b n D/\∀i:Nat,i<18446744073709551616->D.atKey (.int .u64 (i:Int)) (JN (kW rN))=JN (kW (B i))
def mL(B:Nat->List lf)(i:Nat)(l:List lf):Nat->List lf:=λj=>if j=i then l else B j
theorem eF.made(w:af):eF (w.alloc (.map #[] 0)) w.heap.size 0 (λ_=>rN):=⟨λ_=>ay,.map [],E6 w _ _ _,λ_ _=>rfl⟩
theorem eF.lt{B:Nat->List lf}(h:eF w b n B):b<w.heap.size:=by obtain⟨_,D,h,_⟩:=h;exact h.lt
theorem eF.heap{w w':af}{b b' n:Nat}{B:Nat->List lf}(h:eF w b n B)(e:w'.heap[b']?=w.heap[b]?):eF w' b' n B:=by obtain⟨h0,D,⟨es,clock,hb,F,hs,hD⟩,Cr⟩:=h;exact⟨h0,D,⟨es,clock,e.trans hb,F,hs,hD⟩,Cr⟩
theorem eF.mono{b n n':Nat}{B:Nat->List lf}(h:eF w b n B)(hn:n<=n'):eF w b n' B:=by obtain⟨h0,D,ho,Cr⟩:=h;exact⟨h0,D,ho.mono hn,Cr⟩
theorem eF.look{B:Nat->List lf}(h:eF w b n B)(i:Nat)(hi:i<18446744073709551616):(Instr.lookup 74 (.map (some b)) (u6 (i:Int)) false).run Aag w=.ok (.agg (kW (B i))) w:=by obtain⟨h0,D,ho,Cr⟩:=h;obtain⟨v,ps,hr,hv⟩:=ho.lookup wS underlying74 (Jb w) (zd:=JN (kW rN)) (zp:=[]) rfl (GN i hi);grind [YX]
theorem W1(j:Nat):WideAt.IsKeyLit (.int .u64 (j:Int)):=by unfold WideAt.IsKeyLit;trivial
theorem Te(h:j≠i):(Lit.int .u64 (j:Int))≠.int .u64 (i:Int):=ab
theorem eF.put{B:Nat->List lf}(h:eF w b n B)(hn:n<1000000)(i:Nat)(hi:i<18446744073709551616)(l:List lf)(hl:κ l=64):∃w',(Instr.mapUpdate 74 (.map (some b)) (u6 (i:Int)) (.agg (kW l))).run Aag w=.ok () w'/\eF w' b (n+1) (mL B i l)/\w.grownBy w' (some b):=by
 obtain⟨h0,D,ho,Cr⟩:=h;obtain⟨w',hr,av,hg⟩:=ho.update wS underlying74 dE (GN i hi) (val:=.agg (kW l)) (d:=JN (kW l)) (ps:=[]) rfl;refine⟨w',hr,⟨λj=>by grind [mL],_,av,λj hj=>?_⟩,hg⟩;unfold mL;split
 ·rename_i e;subst e;exact atKey_put_same ho.isMap (W1 j) _ _
 ·rename_i e;rw[atKey_put_other (Te e),Cr j hj]
theorem eF.del{B:Nat->List lf}(h:eF w b n B)(i:Nat)(hi:i<18446744073709551616)(ty:Aab):∃w',(Builtin.delete_ #[74,70] ty #[.map (some b),u6 (i:Int)]).run Aag w=.ok (.tuple #[]) w'/\eF w' b n (mL B i rN)/\w.grownBy w' (some b):=by
 obtain⟨h0,D,ho,Cr⟩:=h;obtain⟨w',hr,av,ht⟩:=ho.drop wS underlying74 (GN i hi) ty;refine⟨w',hr,⟨λj=>by grind [mL,rN],_,av,λj hj=>?_⟩,ht.grown⟩;unfold mL;split
 ·rename_i e;subst e;exact atKey_del_same _
 ·rename_i e;rw[atKey_del_other (Te e),Cr j hj]
end
section
open Go.Maps
def rM(l:List lf)(k:Nat):lf:=l.getD k G1
theorem R8{l:List lf}(h:k<κ l):rM l k=l[k]:=by simp[rM,h]
theorem bw:hL Ry 129:=⟨ae,qK,λx u hu=>by obtain⟨k,a,rfl⟩:=D6 x u hu;rfl⟩
theorem vL(l:List lf):(kW l).toList=l.flatMap Ry:=ay
theorem ON(l:List lf)(k:Nat)(h:k<κ l):(kW l).extract (k*129) (k*129+129)=vE (rM l k):=by
 apply hS.1;rw[Array.toList_extract,vL,R8 h];show _=Ry l[k];apply wj;intro j;simp only[List.getElem?_take,List.getElem?_drop,List.extract];by_cases hj:j<129
 ·have h1:=bw.at l k h j hj;simp_all
 ·grind [qK]
theorem PE(l:List lf)(hl:κ l=64)(k:Nat)(h:k<64)(W:af):(Abi 146 (.agg (kW l)) (i6 (k:Int))).run Aag W=.ok (.agg (vE (rM l k))) W:=by
 have hs:(sizeOf 145).run Aag W=.ok 129 W:=av
 have hg:(isAgg 145).run Aag W=.ok true W:=av
 simp[Abi,asIntOf,run_underlying (P:=Aag) underlying146,ae,hs,part,hg,(ON l k ae)];omega
theorem Wx(x:lf):(vE x).extract 0 128=aC x.1.val:=by grind [rC,vE,Ry]
theorem SH(x:lf)(W:af):(Instr.field 145 (.agg (vE x)) 0).run Aag W=.ok (.agg (aC x.1.val)) W:=by
 have hp:=Wx x;have hs:(sizeOf 60).run Aag W=.ok 128 W:=av
 have hg:(isAgg 60).run Aag W=.ok true W:=av
 generalize vE x=C at *;simp[Instr.field,run_underlying (P:=Aag) underlying145,hs,part,hg,hp,asAgg,Aap]
theorem CT:prog.built 145 []=some (vE G1):=av
theorem OP(v:Nat):prog.built 145 [(1,u6 (v:Int))]=some (vE (G1.1,v)):=av
theorem Sa(l:List lf)(k:Nat)(hk:k<κ l)(x:lf):(Aby (kW l).toList (k*129) (vE x).toList).toArray=kW (l.set k x):=by apply hS.1;rw[lQ,vL,vL];have:=pL bw l k hk 0 (Ry x) x (by simp[qK]) (by simp[hs,qK]);rw[this];rfl
theorem Ww(b:List aj)(hb:κ b<=128)(v:Nat):(Aby (vE (G1.1,v)).toList 0 (b.map aF)).toArray=vE (eK b hb,v):=by apply hS.1;rw[lQ];unfold hs vE Ry eK e2;simp only[Abk,Aay,Abr,Aad];show _++List.drop (κ b) (aK.map aF++_)=_;rw[show aK.map aF=Aac 128 (aF 0)from List.map_replicate,List.drop_append_of_le_length cm,yJ,Aao,List.map_replicate,Aa8]
end
section
open Go.Maps
structure cS where
 next:Nat
 l:List al
 B:Nat->List lf
 st:Nat
 made:Nat
def bh(w:af)(mb kb n:Nat)(M:cS):Prop:=∃vb,aH w mb 76 (nY M.next vb (.map (some kb)) M.st M.made)/\bq w 0 vb M.l/\eF w kb n M.B
section
variable {w w':af} {mb kb n:Nat} {M:cS}
def eF.up{b:Nat}{B:Nat->List lf}(h:eF w b n B)(u:Up w w'):eF w' b n B:=h.heap (oA u b h.lt)
theorem eF.az{F:Nat->Prop}{b:Nat}{B:Nat->List lf}(h:eF w b n B)(T:Touch F w w')(hb:¬F b):eF w' b n B:=h.heap (T.block b h.lt hb)
theorem eF.ne{b g:Nat}{B:Nat->List lf}{t:Aab}{C:Array ah}(h:eF w b n B)(hg:aH w g t C):b≠g:=λe=>by subst e;obtain⟨_,D,⟨es,clock,hb,_⟩,_⟩:=h;unfold aH at hg;rw[hg]at hb;cases hb
theorem bh.up(h:bh w mb kb n M)(u:Up w w'):bh w' mb kb n M:=by obtain⟨vb,h1,h2,h3⟩:=h;exact⟨vb,h1.up u,h2.up u,h3.up u⟩
theorem xD{F:Nat->Prop}{v:ah}{l:List al}(h:bq w 0 v l)(T:Touch F w w')(hF:∀b,F b->(∃t C,aH w b t C/\t≠90/\t≠87)\/∃es c,w.heap[b]?=some (.map es c)):bq w' 0 v l:=by
 have KR:∀{α:Type}{f:α->List ah}{k:Nat}{e:Aab}{v:ah}{xs:List α},ak f k e w 0 v xs->(∀t:Aab,t≠90/\t≠87->t≠e)->ak f k e w' 0 v xs:=λho hn=>ak.az ho T (λb hb hf=>by
  rcases hF b hf with⟨t,C,hg,ht⟩|⟨es,c,hm⟩
  ·exact ew (hn t ht) hg ho hb
  ·obtain⟨_,h2⟩:=ho;rcases h2 with⟨rfl,_⟩|⟨g',cap,cur,rfl,_,hh,_⟩
   ·simp[Aan]at hb
   ·simp[Aan]at hb;subst hb;rw[hm]at hh;cases hh)
 obtain⟨ys,y1,y2,y3⟩:=h;exact⟨ys,y1,KR y2 (λt h=>h.1),λy hy=>KR (y3 y hy) (λt h=>h.2)⟩
theorem bh.az{F:Nat->Prop}(h:bh w mb kb n M)(T:Touch F w w')(h1:¬F mb)(h2:¬F kb)(hF:∀b,F b->(∃t C,aH w b t C/\t≠90/\t≠87)\/∃es c,w.heap[b]?=some (.map es c)):bh w' mb kb n M:=by obtain⟨vb,g1,g2,g3⟩:=h;exact⟨vb,g1.az T h1,xD g2 T hF,g3.az T h2⟩
end
theorem Dm(w:af)(mb kb n:Nat)(M:cS)(A:bh w mb kb n M)(hr:∀x∈M.l,κ x.dead*24<=140737488355328)(full:List aj)(hf:κ full<=9223372036854775807)(i:Int):Aae Aag 140 #[pz mb,.string (strOf full),i6 i] w λe w'=>LL M.l (e4 M.l full i) w e w':=by
 obtain⟨vb,bm,os,_⟩:=A;have hv:=os.cE;obtain⟨a,cap,rfl⟩:=hv.slice;obtain⟨l,ab⟩:=bK (M.l);rw[<-ab]at hv hr bm ⊢;have u1:=ai w (.cells b6 90);have c1:(w.alloc (.cells b6 90)).cell? (ad mb 1)=some (.slice a (κ l) cap):=(bm.up u1).cell 1;obtain⟨w2,hw2⟩:=bK (w.alloc (.cells b6 90));have b2:=aH.new w 90 b6;rw[<-hw2]at b2 u1;obtain⟨HW2,IZ,OZ⟩:=aW hw2 gB gL;clear hw2 ab;go_in;go_wp2_with(refine arm ?_);rw[<-HW2.out];clear c1;refine(rh _ _ l (hv.up u1) hr _ hf).mono ?_;rintro e w3(⟨n,hn,rfl,u3⟩|⟨k,vd,hk,hkl,rfl,od,u3⟩)
 ·have U3:=an (u1.trans u3);exact MN
 ·have U3:=an (u1.trans u3);obtain⟨x,hx⟩:=bK (recAt l k);obtain⟨HX,E2,E3,HK⟩:=bR hx (L1 (i:=i) hk) (Ej (i:=i) hk) hkl;rw[<-hx]at od E2 E3 ⊢;obtain⟨da,dc,rfl⟩:=(ak.row od pw).slice;refine Uj ?_;clear hx hk hkl;intro OD U4 B2_4 c6 g1 bl aB HBL;rw[<-aB]at c6 g1 E2 E3;clear aB;rcases g1 with g1|⟨g1,g2,g3⟩|⟨g1,g2,g3⟩
  ·exact Ur
  ·exact Us
  ·have HE:=an (E3 (λh=>by
    rcases h with h|h
    ·rw[g1]at h;exact h
    ·rw[g3]at h;exact h))
   go_wp2_with(first|refine arm ?_|refine pj ?_);intro wz hbz ag;obtain⟨UZ,OZ⟩:=aw (U4.grown ag (λk hk=>aQ)) (ak.kept OD ag (.inr (ew ax B2_4 OD)));go_wp2_with fail;exact bS (.tuple #[.agg (cf x (.slice da (κ x.dead) dc)),i6 0]) hbz (.inr ⟨k,_,HE,HK,by rw[<-HX.out],by rw[<-HX.out];exact OZ.mono (by have:=u1.size;omega),UZ⟩)
end
section
open Go.Maps
theorem xm(w:af)(mb kb n:Nat)(G:cS)(A:bh w mb kb n G)(hr:∀x∈G.l,κ x.dead*24<=140737488355328)(full:List aj)(hf:κ full<=9223372036854775807)(i:Int):Aae Aag 138 #[pz mb,.string (strOf full),i6 i] w λe w'=>LL G.l (iC G.l full i) w e w':=by
 have u1:=ai w (.cells b6 90);obtain⟨w2,hw2⟩:=bK (w.alloc (.cells b6 90));have b2:=aH.new w 90 b6;rw[<-hw2]at b2 u1;obtain⟨HW2,IZ,OZ,SP⟩:=bR hw2 gB gL (iZ w2 full hf);clear hw2;cases hs:cO full with
 | none=>have HE:=an (GU (l:=G.l) (i:=i) (Ly hs));rw[hs]at SP;unfold gd at SP;clear hs;exact TQ
 | some vs=>
  obtain⟨vn,sn⟩:=vs;have aa:=fO sn;by_cases h0:sn=[]
  ·have HE:=an (V0 (l:=G.l) (i:=i) (Lz hs h0));rw[hs]at SP;unfold gd at SP;simp only at SP;rw[show decide (sn=[])=true from ab]at aa;have ae:((strOf sn).toList != [])=false:=by grind
   clear hs h0;go_in;go_wp2_with(refine arm ?_);rw[<-HW2.out];refine SP.mono ?_;rintro e w3⟨rfl,u3⟩;obtain⟨U3,ad⟩:=aw (u1.trans u3) (b2.up u3);go_wp2_with fail;obtain⟨U4,B2_4⟩:=aw U3 ad;refine((λ(W:af) (u:Up w2 W)=>Dm W _ _ n G ((A.up u1).up u) hr _ hf i) w3 u3).mono ?_;exact Nh
  ·have HE:=an (GU (l:=G.l) (i:=i) (LA hs h0));rw[hs]at SP;unfold gd at SP;simp only at SP;rw[show decide (sn=[])=false from ab]at aa;have ae:((strOf sn).toList != [])=true:=by grind
   clear hs h0;exact TQ
end
section
open Go.Maps
theorem GV(hg:o.guard=none)(m x v:bO)(hop:o.op=Op.mapUpdate 74 m x v)(kb n:Nat)(B:Nat->List lf)(hm:a.eval m=.map (some kb))(h:eF w kb n B)(hn:n<1000000)(i:Nat)(hx:a.eval x=u6 (i:Int))(hi:i<18446744073709551616)(l:List lf)(hv:a.eval v=.agg (kW l))(hl:κ l=64)(hK:∀w',eF w' kb (n+1) (mL B i l)->w.grownBy w' (some kb)->Aak Aag ops Q rest (a.put o.dst Aar) w'):Aak Aag ops Q (o::rest) a w:=by refine gZ hg λK' hK'=>?_;obtain⟨w',hrun,r1,r2⟩:=h.put hn i hi l hl;exact Nl
def eF.len{B:Nat->List lf}(h:eF w b n B)(i:Nat):κ (B i)=64:=h.1 i
theorem CQ{l:List lf}(h:κ l=64):(prog.info? 146).map (·.size)=some (kW l).size:=by rw[S3,nR,h]
theorem zC(x:lf):(prog.info? 145).map (·.size)=some (vE x).size:=by rw[WY,ps]
theorem H5(w:af)(mb kb n:Nat)(M:cS)(A:bh w mb kb n M)(hn:n<1000000)(id:Nat)(hid:id<18446744073709551616)(k:Nat)(hk:k<64)(x:lf):Aae Aag 139 #[pz mb,u6 (id:Int),i6 (k:Int),.agg (vE x)] w λe w'=>e=rt #[]/\bh w' mb kb (n+1) {M with B:=mL M.B id ((M.B id).set k x)}/\Touch (·=kb) w w':=by
 have HA:=an A;obtain⟨vb,bm,os,ma⟩:=A;have u1:=ai w (.cells (vE x) 145);have c2:(w.alloc (.cells (vE x) 145)).cell? (ad mb 2)=some (.map (some kb)):=(bm.up u1).cell 2;have lk:=(ma.up u1).look id hid;have LL:=an (ma.len id);obtain⟨l,hl⟩:=bK (M.B id);have aD:=an hl;rw[<-hl]at lk LL;have IL:=an (zC x);obtain⟨u2,nb⟩:=aA (ai (w.alloc (.cells (vE x) 145)) (.cells (kW l) 146)) (aH.new (w.alloc (.cells (vE x) 145)) 146 (kW l));rw[aL]at nb;have NB:=an nb;have hb:(0:Int)<=(k:Int)/\(k:Int)<((64:Nat):Int):=ae
 have aj:((k:Int)<64)=True:=ab
 obtain⟨HN,HI,HK,HM,HB,HO⟩:=im hn hid hk ma bm os;clear hl hn hid;go_in;go_wp2_with(first
  | refine arm ?_
  | ((with_reducible refine cu _ _ _ ?_);refine fC _ rfl _ (.tmp 8) (.tmp 14) rfl _ _ (kW rN) rfl rfl rfl (CQ LL) (by rw[nR,nR,LL.out];rfl) (Sb l) ?_)
  | ((with_reducible refine cu _ _ _ ?_);refine cj rfl _ (.tmp 17) (.tmp 16) rfl _ (k*129) _ rfl rfl _ _ NB IL (by rw[ps,nR,LL.out];omega) (LW x) ?_))
 intro wz hbz ag;rw[(Sa l k dL x)]at hbz;obtain⟨BZ,UZ⟩:=aw hbz ((u1.trans u2).grown ag (λk hk=>aQ));have c2:=(HB.up UZ).cell 2;have MZ:=an (HM.up UZ);clear lk hb aj;go_wp2;refine Nz ?_;change Adc _ _ (wz).drew (λa'=>Aak _ _ _ _ a' (wz).drew) _ _;have UD:=an (Up.drew (Up.refl (wz)));replace c2:=UD.cell c2;generalize(wz).drew=w5 at *;try simp only[Aas,gh]
 repeat(first
  | refine ik rfl _ (.tmp 8) rfl _ rfl _ _ (BZ.up UD) _ underlying146 rfl (CQ (l:=l.set k x) (by rw[Aaz];exact LL)) ?_
  | still_step)
 refine hA ?_;go_wp2_with(first
  | (at_mapUpdate;refine GV rfl (.tmp 21) (.tmp 22) (.tmp 23) rfl _ n _ rfl (MZ.up UD) HN id rfl HI (l.set k x) rfl (by rw[Aaz];exact LL) ?_))
 intro w6 aE g6;go_wp2;go_end0;obtain⟨U5,aa⟩:=aA (UZ.trans UD) (MZ.up UD);have T5:=Touch.bg (F:=(·=kb)) g6 (λk hk=>aQ);refine⟨rfl,⟨vb,(HB.up U5).az T5 (λe=>aa.ne (HB.up U5) e.symm),xD (HO.up U5) T5 (λb hb=>.inr ?_),?_⟩,(Touch.bW U5).trans T5 (λ_ h _=>h)⟩
 ·subst hb;obtain⟨_,D,⟨es,clock,h,_⟩,_⟩:=aa;grind
 ·have:=aE;rw[aD.out]at this;exact this
end
section
open Go.Maps
def A6(nx:Nat)(vb vm:ah)(st made aa:Nat)(ab:ah):(Aby (nY nx vb vm st made).toList 0 (aS aa ab).toList).toArray=nY aa ab vm st made:=rfl
theorem Touch.and{F:Nat->Prop}{w w1 w2:af}(T:Touch F w w1){G:Nat->Prop}(S:Touch G w1 w2)(h:∀b,G b->F b\/w.heap.size<=b):Touch F w w2:=T.trans S (λb hb hl=>(h b hb).resolve_right ae)
def Ai(x:al):Nat:=if x.aU=true then x.owner else x.prev
def xf(M:cS)(nx:Nat)(l':List al)(x:al):cS:={M with next:=nx,l:=l',B:=mL M.B x.id (M.B (Ai x))}
theorem Kr(w:af)(mb nx n:Nat)(va:Option Addr)(vm vc:Nat)(hn:n≠0):Aae Aag 73 #[.pointer (some ⟨mb,0,none⟩),.agg (aS nx (.slice va vm vc)),.int .i64 (n:Int)] w λe w'=>e=.returned (.int .i64 (n:Int))/\Up w w':=by
 have nz:((n:Int) != 0)=true:=ab
 have U1:=an (ai w (.cells (aS nx (.slice va vm vc)) 73));go_in;go_wp2_with(first
  | refine gS 73 1 (aS nx (.slice va vm vc)) ?_)
 go_ret;exact⟨rfl,U1⟩
theorem PX(w:af)(mb kb n:Nat)(M:cS)(A:bh w mb kb n M)(hn:n<1000000)(nx:Nat)(v:ah)(l:List al)(base:Nat)(hv:bq w base v l)(hr:∀x∈l,κ x.dead*24<=140737488355328)(k:Nat)(hk:aV l M.next=some k)(hw:∀x∈l,x.wf):Aae Aag 73 #[.pointer (some ⟨mb,0,none⟩),.agg (aS nx v),.int .i64 0] w λe w'=>e=.returned (.int .i64 0)/\bh w' mb kb (n+1) (xf M nx l (recAt l k))/\Touch (λb=>b=mb\/b=kb) w w':=by
 obtain⟨w0,rfl⟩:=bK w;obtain⟨a,cap,rfl⟩:=hv.cE.slice;obtain⟨vb,bm,os,ma⟩:=A;have c0:w0.cell? ⟨mb,0,none⟩=some (.int .u64 (M.next:Int)):=bm.cell 0;obtain⟨WF,s⟩:=aA (hw _ (aJ (dH hk).1)) (Fr.start w0);go_in;go_wp2_with(refine fw s ?_;intro _ w s);refine ka _ s (λ_ h=>h) (λw s=>?_) av;repeat refine kt ?_
 refine Df (λw _ s=>z' w _ l (hv.cE.up s.pure) hr M.next) ?_;rintro w _ s _ w'(⟨ao,_⟩|⟨j2,vd,aa,rfl,od,u⟩)
 case inl=>rw[hk]at ao;cases ao
 obtain rfl:k=j2:=dB (hk.symm.trans aa);obtain⟨na,nc,rfl⟩:=(ak.row od pw).slice;refine⟨_,_,rfl,.q od u s.t.size,?_⟩;repeat(first|refine kx ?_|refine kt ?_)
 refine kn (λ_ w u s=>?_);refine ks (λw s=>?_);repeat(first|refine kx ?_|refine kt ?_)
 refine kd (λw u s=>?_);clear hk aa;generalize hy:recAt l k=y at *;replace hy:=an hy;have e0:w.cell? ⟨_,0,none⟩=some (.int .u64 (y.id:Int)):=(s.e5 (t:=90) gR).cell 0;have e2:w.cell? ⟨_,2,none⟩=some (.bool y.aU):=(s.e5 (t:=90) gR).cell 2;have e3:w.cell? ⟨_,3,none⟩=some (.int .u64 (y.owner:Int)):=(s.e5 (t:=90) gR).cell 3;have e4:w.cell? ⟨_,4,none⟩=some (.int .u64 (y.prev:Int)):=(s.e5 (t:=90) gR).cell 4;have c2:w.cell? ⟨mb,2,none⟩=some (.map (some kb)):=(bm.up s.pure).cell 2;obtain⟨fr,au⟩:=bK (Ai y);have ad:fr<18446744073709551616:=by rw[au];unfold Ai;split<;>first|exact WF.2.1|exact WF.2.2.1
 have HE:fr=if y.aU=true then y.owner else y.prev:=au;replace au:=an au;have lk:=((ma.up s.pure).up (Up.drew (Up.refl w))).look fr ad;generalize y.aU=sn at *;cases sn;case' false=>rw[aM ax]at HE;rw[<-HE]at e4;replace HE:=an HE;go_wp2_with fail
 case' true=>rw[bo rfl]at HE;rw[<-HE]at e3;replace HE:=an HE;go_wp2_with fail
 all_goals
  refine wg 12 av av ?_;refine q7 ?_;change Adc _ _ w.drew (λa'=>Aak _ _ _ _ a' w.drew) _ _;have UD:=Up.drew (Up.refl w);replace e0:=UD.cell e0;replace c2:=UD.cell c2;have s:=s.up UD;generalize w.drew=w7 at *;repeat still_step
  refine hA ?_;have m7:=ma.up s.pure;have B7:aH w7 _ 73 (aS nx (.slice a (κ l) cap)):=s.e5 gR;go_wp2_with(at_mapUpdate;refine GV rfl (.tmp 33) (.tmp 35) (.tmp 41) rfl kb n M.B rfl m7 hn y.id rfl WF.1 (M.B fr) rfl (ma.len fr) ?_);intro w8 ab g8;have T8:=Touch.bg (F:=(·=kb)) g8 (λk hk=>oI);have B8:=an (B7.az T8 (λe=>m7.ne B7 e.symm));have D8:=(bm.up s.pure).az T8 (λe=>m7.ne (bm.up s.pure) e.symm);clear lk e0 c2 e2;go_wp2_with(first
   | refine cU 73 4 B8 ?_
   | ((with_reducible refine cu 73 (.tmp 45) (.tmp 43) ?_);refine cj rfl 73 (.tmp 45) (.tmp 43) rfl mb 0 (aS nx (.slice a (κ l) cap)) rfl rfl 76 _ D8 (eY nx _) (by simp[nY,aS]) (jf nx a (κ l) cap) ?_))
  intro w9 aI aT;rw[A6]at aI;go_wp2_with fail;go_ret;have T9:=Touch.bg (F:=(·=mb)) aT (λk hk=>oI);have s8:=xD ((hv.mono (bE _)).up s.pure) T8 (λb hb=>.inr (by subst hb;obtain⟨_,D,⟨es,clock,h,_⟩,_⟩:=m7;exact⟨es,clock,h⟩));have s9:=xD s8 T9 (λb hb=>.inl ⟨_,_,by subst hb;exact D8,ax,ax⟩);refine⟨rfl,⟨_,aI,s9,?_⟩,((Touch.bW (F:=λb=>b=mb\/b=kb) s.pure).and T8 (λb hb=>.inl (.inr hb))).and T9 (λb hb=>.inl (.inl hb))⟩;have:=ab.az T9 (λe=>ab.ne D8 e);rw[au.out,<-hy.out]at this;exact this
end
section
open Go.Maps
theorem aD.VM{α:Type}{f:α->ah}{w w':af}{v:ah}{l:List α}{F:Nat->Prop}(h:aD f w v l)(T:Touch F w w')(hF:l≠[]->∀b,v.ownBlock=some b->¬F b):aD f w' v l:=by
 rcases h with h|⟨b,off,cap,h1,h2,h3,h4,h5⟩
 ·exact .inl h
 ·exact .inr ⟨b,off,cap,h1,h2,h3,h4,λi hi=>fk (h5 i hi) T (hF aQ b uo)⟩
def vI(mb kb n:Nat)(r:Nat × cS)(w:af)(e:Ab1)(w':af):Prop:=e=.returned (.int .i64 (r.1:Int))/\bh w' mb kb (n+1) r.2/\Touch (λb=>b=mb\/b=kb) w w'
theorem bh.more{w:af}{mb kb n:Nat}{M:cS}(h:bh w mb kb n M):bh w mb kb (n+1) M:=by obtain⟨vb,a,b,c⟩:=h;exact⟨vb,a,b,c.mono (ix _)⟩
structure G0(M:cS):Prop where
 hl:κ M.l<=1000
 hd:∀x∈M.l,x.dead=[]
 wf:∀x∈M.l,x.wf
 bl:∀x∈M.l,x.blocks<=64
 nx:M.next<=100000000
 st:M.st<=100000000
 mv:M.made<=100000000
theorem G0.hr{M:cS}(h:G0 M):∀x∈M.l,κ x.dead*24<=140737488355328:=λx hx=>by rw[h.hd x hx];simp
def Cz(M:cS)(id k:Nat)(x:lf):cS:={M with B:=mL M.B id ((M.B id).set k x)}
def ly(M:cS)(full:List aj)(i:Int)(b:List aj):Nat × cS:=match iC M.l full i with
 | .error n=>(n,M)
 | .ok k=>if h:κ b<=128 then(0,Cz {M with made:=M.made+1} (recAt M.l k).id i.toNat (eK b h,M.made+1))else(92,M)
def r4(M:cS)(full:List aj)(i:Int):Nat × cS:=match iC M.l full i with
 | .error n=>(n,M)
 | .ok k=>(0,Cz M (recAt M.l k).id i.toNat G1)
section
variable {M:cS} {full b:List aj} {i:Int} {n k:Nat}
theorem I9(h:iC M.l full i=.error n):ly M full i b=(n,M):=by grind [ly]
theorem I'(h:iC M.l full i=.ok k)(hb:¬κ b<=128):ly M full i b=(92,M):=by grind [ly]
theorem Cj(h:iC M.l full i=.ok k)(hb:κ b<=128):ly M full i b=(0,Cz {M with made:=M.made+1} (recAt M.l k).id i.toNat (eK b hb,M.made+1)):=by grind [ly]
theorem On(h:iC M.l full i=.error n):r4 M full i=(n,M):=by grind [r4]
theorem GK(h:iC M.l full i=.ok k):r4 M full i=(0,Cz M (recAt M.l k).id i.toNat G1):=by grind [r4]
end
theorem vI.bW{w w':af}{mb kb n r:Nat}{M:cS}(A:bh w mb kb n M)(u:Up w w'):vI mb kb n (r,M) w (.returned (i6 (r:Int))) w':=⟨rfl,(A.up u).more,Touch.bW u⟩
def Xp(nx:Nat)(vb vm:ah)(st made:Nat):(nY nx vb vm st made).setIfInBounds 4 (u6 ((made:Int)+1))=nY nx vb vm st (made+1):=rfl
theorem bh.made{mb kb n:Nat}{M:cS}(h:bh w mb kb n M):bh (w.setCell ⟨mb,4,none⟩ (u6 ((M.made:Int)+1))) mb kb n {M with made:=M.made+1}/\Touch (λb=>b=mb\/b=kb) w (w.setCell ⟨mb,4,none⟩ (u6 ((M.made:Int)+1))):=by obtain⟨vb,a,b,c⟩:=h;have T:=Touch.bg (F:=(·=mb)) (b0 a 4 (u6 ((M.made:Int)+1))) (λk hk=>aa);have a':=a.setCell 4 (u6 ((M.made:Int)+1));rw[Xp]at a';exact NY
theorem Kx(w:af)(mb kb n:Nat)(M:cS)(A:bh w mb kb n M)(hn:n<1000000)(I:G0 M)(full:List aj)(hf:κ full<=9223372036854775807)(i:Int):Aae Aag 75 #[pz mb,.string (strOf full),i6 i] w (vI mb kb n (r4 M full i) w):=by
 obtain⟨HN,IZ,OZ⟩:=aW hn gB gL;clear hn;go_in;go_wp2_with fail;refine(xm w _ _ n M A I.hr _ hf i).mono ?_;rintro e w2(⟨r,hv,rfl,u2⟩|⟨k,vd,hv,hkl,rfl,od,u2⟩)
 ·have E:=an (On hv);exact UE
 ·have E:=an (GK hv);have ao:=pH (show e4 M.l full i=.ok k from by unfold iC at hv;split at hv;cases hv;exact hv);obtain⟨x,hx⟩:=bK (recAt M.l k);obtain⟨aB,aT⟩:=aA (I.bl _ (aJ hkl)) (I.wf _ (aJ hkl));rw[<-hx]at od ao aB aT E ⊢;obtain⟨da,dc,rfl⟩:=(ak.row od pw).slice;have b3:=aH.new w2 90 (cf x (.slice da (κ x.dead) dc));have c0:(w2.alloc (.cells (cf x (.slice da (κ x.dead) dc)) 90)).cell? (ad w2.heap.size 0)=some (u6 (x.id:Int)):=b3.cell 0;have u3:=u2.trans (ai w2 (.cells (cf x (.slice da (κ x.dead) dc)) 90));obtain⟨j,hj⟩:∃j:Nat,i=(j:Int):=⟨i.toNat,ae⟩;subst hj;have PU:=an (H5 _ mb kb n M (A.up u3) HN x.id aT.1 j ae G1);clear hv hx hkl ao aB;go_wp2_with(refine arm ?_);refine PU.mono ?_;rintro e w4⟨rfl,A4,T4⟩;clear c0;go_wp2;go_ret;rw[E.out];exact⟨rfl,A4,(Touch.bW u3).and T4 (λb hb=>.inl (.inr hb))⟩
theorem H4(w:af)(mb kb n:Nat)(M:cS)(A:bh w mb kb n M)(hn:n<1000000)(I:G0 M)(full:List aj)(hf:κ full<=9223372036854775807)(i:Int)(v:ah)(b:List aj)(hb:a8 w v b)(aX:b≠[]->∀k,v.ownBlock=some k->k≠mb/\k≠kb):Aae Aag 74 #[pz mb,.string (strOf full),i6 i,v] w (vI mb kb n (ly M full i b) w):=by
 obtain⟨ba,bc,rfl⟩:=hb.slice;obtain⟨HN,bX,IZ,OZ⟩:=bR hn aX gB gL;clear hn aX;go_in;go_wp2_with fail;refine(xm w _ _ n M A I.hr _ hf i).mono ?_;rintro e w2(⟨r,hv,rfl,u2⟩|⟨k,vd,hv,hkl,rfl,od,u2⟩)
 ·have E:=an (I9 (b:=b) hv);exact UE
 ·obtain⟨x,hx⟩:=bK (recAt M.l k);obtain⟨HX,HV,aI⟩:=aW hx hv hkl;rw[<-hx]at od ⊢;obtain⟨da,dc,rfl⟩:=(ak.row od pw).slice;obtain⟨b3,u3⟩:=aA (aH.new w2 90 (cf x (.slice da (κ x.dead) dc))) (u2.trans (ai w2 (.cells (cf x (.slice da (κ x.dead) dc)) 90)));clear hv hx hkl;by_cases ab:κ b<=128
  ·have b9:((κ b:Int)>128)=False:=cz ae;have ag:=an ab;have E:=an (Cj HV ag);obtain⟨ao,aB,aT⟩:=db (pH (show e4 M.l full i=.ok k from by have hv:=HV.out;unfold iC at hv;split at hv;cases hv;exact hv)) (I.bl _ (aJ aI)) (I.wf _ (aJ aI));rw[<-HX.out]at ao aB aT E;obtain⟨j,hj⟩:∃j:Nat,i=(j:Int):=⟨i.toNat,ae⟩;subst hj;obtain⟨HJ,HW⟩:=aw (show j<64 from ae) aT.1;obtain⟨m,hm⟩:=bK (M.made);have aM:m<=100000000:=by rw[hm];exact I.mv
   have aq:=an hm;obtain⟨w3,aa⟩:=bK (w2.alloc (.cells (cf x (.slice da (κ x.dead) dc)) 90));rw[<-aa]at u3 b3;have A3:=A.up u3;have au:=an A3.made;obtain⟨vm,al,bb,aK⟩:=A3;have c4:w3.cell? (ad mb 4)=some (u6 (m:Int)):=by rw[hm];exact al.cell 4
   have f4:=al.free 4;rw[aa]at c4 f4;have aC:=an aa;clear ao aB hm aa ab;go_wp2_with(first
    | refine bD 90 mJ ?_
    | refine ed 90 9 17 w2 (cf x (.slice da (κ x.dead) dc)) 90 b6 ?_
    | ((with_reducible refine vs _ ?_);refine kS ?_))
   rw[<-aC.out];have h4:=au.out;rw[<-aq.out]at h4;obtain⟨w4,hw4⟩:=bK (w3.setCell ⟨mb,4,none⟩ (u6 ((m:Int)+1)));rw[<-hw4]at h4 ⊢;have A4:=an h4.1;clear c4 f4 hw4;refine an ?_;go_wp2_with(first
    | refine arm ?_
    | ((with_reducible refine dI _ _ ?_);refine wV rfl _ 1 (.tmp 35) rfl _ _ (OP _) rfl ?_)
    | ((with_reducible refine cu 145 (.tmp 11) (.tmp 36) ?_);refine fC w4 rfl 145 (.tmp 11) (.tmp 36) rfl (vE (G1.1,m+1)) 145 (vE G1) rfl rfl rfl (zC (G1.1,m+1)) (by rw[ps,ps]) (LW (G1.1,m+1)) ?_)
    | ((with_reducible refine zo (.tmp 38) (.tmp 39) 30 30 ?_);refine hC rfl (.tmp 38) (.tmp 39) 30 30 rfl 5 Aa0 av aF cp w4.heap.size 0 128 128 rfl (.slice ba (κ b) bc) b rfl (aD.up ((aD.up hb u3).VM h4.2 (λhne k hk=>by have:=bX hne k hk;omega)) (ai w4 (.cells (vE (G1.1,m+1)) 145))) ag 145 _ (aH.new w4 145 (vE (G1.1,m+1))) (by rw[ps];have:=ag.out;omega) ?_))
   intro w6 aV _ ar;rw[Ww b ag.out]at aV;have U6:=an ((ai w4 (.cells (vE (G1.1,m+1)) 145)).grown ar (λk hk=>sG));have e0:w6.cell? (ad w2.heap.size 0)=some (u6 (x.id:Int)):=((b3.az h4.2 (by have:=al;have hx:=fj b3 this ax;have hy:=aK.ne b3;rintro(h|h);exact hx h;exact hy h.symm)).up U6).cell 0;have PU:=an (H5 w6 mb kb n {M with made:=m+1} (A4.up U6) HN x.id HW j HJ (eK b ag,m+1));go_wp2_with(first
    | refine cU 145 11 aV (hi:=(zC (eK b ag,m+1))) ?_)
   refine PU.mono ?_;rintro e w7⟨rfl,A7,T7⟩;clear e0;go_wp2;go_ret;rw[E.out,<-aq.out];exact⟨rfl,A7,((Touch.bW u3).and h4.2 (λb hb=>.inl hb)).and ((Touch.bW (F:=λb=>b=mb\/b=kb) U6).and T7 (λb hb=>.inl (.inr hb))) (λb hb=>.inl hb)⟩
  ·have b9:((κ b:Int)>128)=True:=eo ae;have E:=an (I' HV ab);clear ab;go_wp2_with(first
    | refine bD 90 mJ ?_
    | refine ed 90 9 17 w2 (cf x (.slice da (κ x.dead) dc)) 90 b6 ?_)
   go_ret;rw[E.out];exact vI.bW A u3
end
section
open Go.Maps
def j5(M:cS)(full:List aj)(i:Int):cN × Nat:=match e4 M.l full i with
 | .error n=>(⟨aK,rfl⟩,n)
 | .ok k=>((rM (M.B (recAt M.l k).id) i.toNat).1,0)
section
variable {M:cS} {full:List aj} {i:Int} {n k:Nat}
theorem Oi(h:e4 M.l full i=.error n):j5 M full i=(⟨aK,rfl⟩,n):=by grind [j5]
theorem Gl(h:e4 M.l full i=.ok k):j5 M full i=((rM (M.B (recAt M.l k).id) i.toNat).1,0):=by grind [j5]
end
theorem Kw(w:af)(mb kb n:Nat)(M:cS)(A:bh w mb kb n M)(I:G0 M)(full:List aj)(hf:κ full<=9223372036854775807)(i:Int):Aae Aag 76 #[pz mb,.string (strOf full),i6 i] w λe w'=>e=rt #[.agg (aC (j5 M full i).1.val),i6 ((j5 M full i).2:Int)]/\Up w w':=by
 obtain⟨u1,b1⟩:=aA (ai w (.cells (aC aK) 60)) (aH.new w 60 (aC aK));obtain⟨w1,al⟩:=bK (w.alloc (.cells (aC aK) 60));rw[<-al]at u1 b1;obtain⟨HI,U1,B1,ab,IZ,OZ,IS⟩:=xO I u1 b1 al gB gL (show(prog.info? 60).map (·.size)=some (aC aK).size from dx);clear al;go_in;go_wp2_with(refine arm ?_);rw[<-ab.out];refine(Dm _ _ _ n M (A.up u1) I.hr _ hf i).mono ?_;rintro e w2(⟨r,hv,rfl,u2⟩|⟨k,vd,hv,hkl,rfl,od,u2⟩)
 ·have E:=an (Oi hv);have nz:((r:Int) != 0)=true:=by have:=Hu hv;simp;omega
  clear hv;go_wp2_with(first
   | refine bD 90 mJ ?_
   | refine ed 90 8 15 w2 b6 90 b6 (hi:=IZ) (h1:=OZ) ?_
   | refine l1 60 hZ ?_
   | refine cZ 60 6 19 (aC aK) ((B1.up u2).up (ai _ _)) (hi:=IS) ?_)
  intro wz hbz ag;obtain⟨BZ,UZ⟩:=aw hbz ((U1.trans (u2.trans (ai _ _))).grown ag (λk hk=>aQ));go_wp2;exact bS (hi:=IS) (.tuple #[.agg (aC aK),i6 (r:Int)]) BZ ⟨by rw[E.out],UZ⟩
 ·have E:=an (Gl hv);obtain⟨ao,aB,aT⟩:=db (pH hv) (HI.bl _ (aJ hkl)) (HI.wf _ (aJ hkl));obtain⟨x,hx⟩:=bK (recAt M.l k);rw[<-hx]at od ao aB aT E ⊢;obtain⟨da,dc,rfl⟩:=(ak.row od pw).slice;obtain⟨b3,u3⟩:=aA (aH.new w2 90 (cf x (.slice da (κ x.dead) dc))) (u2.trans (ai w2 (.cells (cf x (.slice da (κ x.dead) dc)) 90)));have e0:(w2.alloc (.cells (cf x (.slice da (κ x.dead) dc)) 90)).cell? (ad w2.heap.size 0)=some (u6 (x.id:Int)):=b3.cell 0;obtain⟨j,hj⟩:∃j:Nat,i=(j:Int):=⟨i.toNat,ae⟩;subst hj;have aa:j<64:=by omega
  have A3:=(A.up u1).up u3;obtain⟨vb,bm,os,ma⟩:=A3;have c2:(w2.alloc (.cells (cf x (.slice da (κ x.dead) dc)) 90)).cell? (ad mb 2)=some (.map (some kb)):=bm.cell 2;obtain⟨lk,ix⟩:=aA ((ma.up (Up.drew (Up.refl _))).look x.id aT.1) (PE (M.B x.id) (ma.len x.id) j aa);obtain⟨y,hy⟩:=bK (rM (M.B x.id) j);rw[<-hy]at ix;have HY:=an hy;have fx:=SH y;have IY:=an (show(prog.info? 60).map (·.size)=some (aC y.1.val).size from by rw[dx,bX,y.1.2]);clear hv hx hkl ao aB hy aa;go_wp2_with(refine arm ?_);refine wg 10 ay av ?_;refine q7 ?_;change Adc _ _ (w2.alloc (.cells (cf x (.slice da (κ x.dead) dc)) 90)).drew (λa'=>Aak _ _ _ _ a' (w2.alloc (.cells (cf x (.slice da (κ x.dead) dc)) 90)).drew) _ _;have UD:=an (Up.drew (Up.refl (w2.alloc (.cells (cf x (.slice da (κ x.dead) dc)) 90))));replace e0:=UD.cell e0;replace c2:=UD.cell c2;generalize(w2.alloc (.cells (cf x (.slice da (κ x.dead) dc)) 90)).drew=w5 at *;try simp only[Aas,gh]
  repeat(first
   | still_step)
  refine hA ?_;go_wp2_with(first
   | refine cZ 60 6 30 (aC y.1.val) ((B1.up u3).up UD) (hi:=IY) (hold:=(by rw[bX,bX,y.1.2];rfl)) ?_)
  intro wz hbz ag;have UZ:=an (((U1.trans u3).trans UD).grown ag (λk hk=>aQ));clear ix fx lk e0 c2;go_wp2;exact bS (hi:=IY) (.tuple #[.agg (aC y.1.val),i6 0]) hbz ⟨by rw[E.out,HY.out];rfl,UZ⟩
end
section
open Go.Maps
theorem rf{w:af}{mb nx st made:Nat}{vb vm:ah}(h:aH w mb 76 (nY nx vb vm st made)):w.rangeAt mb 0 (aS nx vb).toList:=λj v hj=>by
 rw[h.cell,Abr];match j,hj with
 | 0,hj=>exact hj
 | 1,hj=>exact hj
def rQ(M:cS)(full:List aj):Nat × cS:=match gw M.next M.l full with
 | .error n=>(n,M)
 | .ok (nx,l',x)=>(0,{M with next:=nx,l:=l',B:=mL M.B x.id (M.B x.prev)})
section
variable {M:cS} {full:List aj} {n nx:Nat} {l':List al} {x:al}
theorem LU(h:gw M.next M.l full=.error n):rQ M full=(n,M):=by grind [rQ]
theorem LV(h:gw M.next M.l full=.ok (nx,l',x)):rQ M full=(0,{M with next:=nx,l:=l',B:=mL M.B x.id (M.B x.prev)}):=by grind [rQ]
end
theorem N2{w w1 w2:af}{mb kb n nx:Nat}{M:cS}{B:Nat->List lf}{v:ah}(A:bh w mb kb n M)(hs:bq w 0 v l)(m1:eF w1 kb (n+1) B)(g1:w.grownBy w1 (some kb))(b2:aH w2 mb 76 (nY nx v (.map (some kb)) M.st M.made))(g2:w1.grownBy w2 (some mb)):bh w2 mb kb (n+1) {M with next:=nx,l:=l,B:=B}/\Touch (λb=>b=mb\/b=kb) w w2:=by obtain⟨vb,a,b,c⟩:=A;have T1:=Touch.bg (F:=(·=kb)) g1 (λk hk=>aa);obtain⟨T2,a1⟩:=aA (Touch.bg (F:=(·=mb)) g2 (λk hk=>aa)) (a.az T1 (λe=>c.ne a e.symm));exact⟨⟨_,b2,(xD (xD hs T1 (λb hb=>.inr (by subst hb;obtain⟨_,D,⟨es,clock,h,_⟩,_⟩:=c;exact⟨es,clock,h⟩))) T2 (λb hb=>.inl ⟨_,_,by subst hb;exact a1,ax,ax⟩)),m1.az T2 (λe=>m1.ne a1 e)⟩,(T1.mono (λ_ h=>.inr h)).and T2 (λb hb=>.inl (.inl hb))⟩
theorem Kt(w:af)(mb kb n:Nat)(M:cS)(A:bh w mb kb n M)(hn:n<1000000)(I:G0 M)(full:List aj)(hf:κ full<=9223372036854775807):Aae Aag 80 #[pz mb,.string (strOf full)] w (vI mb kb n (rQ M full) w):=by
 have HA:=an A;obtain⟨vb,bm,os,ma⟩:=A;have hv:=os.cE;obtain⟨a,cap,rfl⟩:=hv.slice;obtain⟨HI,HN,IZ,OZ⟩:=bR I hn gB gL;clear hn;go_in;go_wp2_with(first
  | refine cK 73 11 (aS M.next (.slice a (κ M.l) cap)) (rf bm) ?_)
 refine(G' w _ _ _ hv I.hl I.hr _ hf).mono ?_;rintro e w2(⟨r,nx,va,vm,vc,hr,rfl,u2⟩|⟨nx,l2,x,v',vd,hr,rfl,ao,aF,u2⟩)
 ·have E:=an (LU hr);have nz:((r:Int) != 0)=true:=by have:=CP hr;simp;omega
  obtain⟨IB,OB⟩:=aw (eY nx (.slice va vm vc)) (jf nx va vm vc);refine T7 ?_;intro u3 u4 ba bb U4 BA BB S2;go_wp2_with(first
   | refine bD 73 js ?_
   | refine bD 90 mJ ?_
   | refine cZ 73 5 15 (aS nx (.slice va vm vc)) BA ?_)
  intro w3 ar ax;obtain⟨B3,C3,U5,G3⟩:=bR ar (BB.grown ax aq) (U4.grown ax (λk hk=>FA)) ax;go_wp2_with(first
   | refine cZ 90 6 16 b6 C3 (hi:=IZ) (h1:=OZ) ?_)
  intro w4 au hg4;obtain⟨C4,B4,U6,G4⟩:=bR au (B3.grown hg4 aq) (U5.grown hg4 (λk hk=>FA)) hg4;clear hr;go_wp2;go_ret;rw[E.out];exact vI.bW HA U6
 ·have E:=an (LV hr);obtain⟨i,j,hi,-,rfl,-,hx⟩:=tt hr;have aT:x.wf:=by rw[hx];exact HI.wf _ (aJ (oe hi))
  obtain⟨da,dc,rfl⟩:=(ak.row aF pw).slice;clear hi hx hr;obtain⟨ab,cb,rfl⟩:=ao.cE.slice;obtain⟨IB,OB⟩:=aw (eY M.next (.slice ab (κ l2) cb)) (jf M.next ab (κ l2) cb);refine T7 ?_;intro u3 u4 ba bb U4 BA BB S2;go_wp2_with(first
   | refine bD 73 js ?_
   | refine bD 90 mJ ?_
   | refine cZ 73 5 15 (aS M.next (.slice ab (κ l2) cb)) BA ?_)
  intro w3 ar ax;obtain⟨B3,C3,U5,G3⟩:=bR ar (BB.grown ax aq) (U4.grown ax (λk hk=>FA)) ax;go_wp2_with(first
   | refine cZ 90 6 16 (cf x (.slice da (κ x.dead) dc)) C3 ?_)
  intro w4 au hg4;obtain⟨C4,B4,U6,G4⟩:=bR au (B3.grown hg4 aq) (U5.grown hg4 (λk hk=>FA)) hg4;have aa:=an (show bq w4 0 (.slice ab (κ l2) cb) l2 from by have h0:Up w2 w4:=(((ai w2 (.cells (aS 0 (nl)) 73)).trans (ai _ (.cells b6 90))).grown G3 (λk hk=>sG)).grown G4 (λk hk=>by cases hk;omega);exact(ao.mono (bE _)).up h0)
  have e0:=C4.cell 0;have e4:w4.cell? (ad (w2.heap.size+1) 4)=some (u6 (x.prev:Int)):=C4.cell 4;have A4:=an (HA.up U6);have A5:=an (A4.up (Up.drew (Up.refl w4)));obtain⟨aI,aC,ay,aK⟩:=A4.out;have c2:w4.cell? (ad mb 2)=some (.map (some kb)):=aC.cell 2;have ae:=an (aK.up (Up.drew (Up.refl _)));have lk:=ae.look x.prev aT.2.2.1;obtain⟨aA,aD,B5⟩:=aW (aC.up (Up.drew (Up.refl _))) (aa.up (Up.drew (Up.refl w4))) (B4.up (Up.drew (Up.refl _)));go_wp2;refine wg 13 av av ?_;refine q7 ?_;change Adc _ _ (w4).drew (λa'=>Aak _ _ _ _ a' (w4).drew) _ _;have UD:=an (Up.drew (Up.refl (w4)));replace e0:=UD.cell e0;replace e4:=UD.cell e4;replace c2:=UD.cell c2;generalize(w4).drew=w5 at *;try simp only[Aas,gh]
  repeat(first
   | still_step)
  refine hA ?_;go_wp2_with(first
   | (at_mapUpdate;refine GV rfl (.tmp 24) (.tmp 26) (.tmp 33) rfl _ n _ rfl ae HN x.id rfl aT.1 (M.B x.prev) rfl (ae.len x.prev) ?_))
  intro w6 aE g6;have T6:=Touch.bg (F:=(·=kb)) g6 (λk hk=>oI);clear lk e0 e4 c2;go_wp2_with(first
   | refine cU 73 5 (B5.az T6 (λe=>ae.ne B5 e.symm)) ?_
   | ((with_reducible refine cu _ _ _ ?_);refine cj rfl _ (.tmp 37) (.tmp 35) rfl _ 0 _ rfl rfl _ _ (aA.az T6 (λe=>ae.ne aA e.symm)) IB (by simp[nY,aS]) OB ?_))
  intro w7 ag aB;rw[A6]at ag;have H:=an (N2 A5 aD aE g6 ag aB);go_wp2;go_ret;rw[E.out];exact⟨rfl,H.1,(Touch.bW (U6.trans UD)).and H.2 (λb hb=>.inl hb)⟩
end
section
open Go.Maps
def Bm(l:List al)(full:List aj):al:=match dF l full with
 | .ok k=>recAt l k
 | .error _=>tn
def Pe(M:cS)(nx:Nat)(l':List al)(id:Nat):cS:={M with next:=nx,l:=l',B:=mL M.B id rN}
def C1(M:cS)(full:List aj):Bool->Except Nat (Nat × List al)
 | true=>(dQ M.next M.l full).map (λr=>(r.1,r.2.1))
 | false=>(cr M.next M.l full).map (λr=>(r.1,r.2.1))
def Eh(M:cS)(full:List aj)(r:Except Nat (Nat × List al)):Nat × cS:=match r with
 | .error n=>(n,M)
 | .ok (nx,l')=>(0,Pe M nx l' (Bm M.l full).id)
def nT(M:cS)(full:List aj):Nat × cS:=match cO full with
 | none=>(141,M)
 | some (_,sn)=>Eh M full (C1 M full (decide (sn=[])))
theorem Yf(hg:o.guard=none)(m x:bO)(hop:o.op=Op.call {callee:=Callee.builtin Builtin.delete,args:=#[m,x],argTypes:=#[74,70]})(kb n:Nat)(B:Nat->List lf)(hm:a.eval m=.map (some kb))(h:eF w kb n B)(i:Nat)(hx:a.eval x=u6 (i:Int))(hi:i<18446744073709551616)(hK:∀w',eF w' kb n (mL B i rN)->w.grownBy w' (some kb)->wpList prog ops Q rest (a.put o.dst (.tuple #[])) w'):wpList prog ops Q (o::rest) a w:=by refine gZ hg λK' hK'=>?_;obtain⟨w',hrun,r1,r2⟩:=h.del i hi o.type;unfold Acb;simp[Abs,hop,resolve,invoke,builtin,hm,hx,hrun,Aap];exact hK' _ _ (hK w' r1 r2)
def Jg(l:List al)(full:List aj)(w:af)(e:Ab1)(w':af):Prop:=∃(y:al)(da:Option Addr)(dc n:Nat),y=Bm l full/\e=.returned (.tuple #[.agg (cf y (.slice da (κ y.dead) dc)),.int .i64 (n:Int)])/\Up w w'
theorem Jg.of{full:List aj}{w w':af}(h:RR l (dF l full) w e w'):Jg l full w e w':=by
 rcases h with⟨n,hn,rfl,u⟩|⟨k,vd,hk,hkl,rfl,od,u⟩
 ·exact⟨tn,none,0,n,by grind [Bm],rfl,u⟩
 ·obtain⟨da,dc,rfl⟩:=(ak.row od pw).slice;exact⟨recAt l k,da,dc,0,by grind [Bm],rfl,u⟩
theorem Kv(w:af)(mb kb n:Nat)(M:cS)(A:bh w mb kb n M)(hn:n<1000000)(I:G0 M)(full:List aj)(hf:κ full<=9223372036854775807):Aae Aag 81 #[.pointer (some ⟨mb,0,none⟩),.string (strOf full)] w (vI mb kb n (nT M full) w):=by
 obtain⟨w0,rfl⟩:=bK w;have HA:=an A;obtain⟨vb,bm,os,ma⟩:=A;have hv:=os.cE;obtain⟨a,cap,rfl⟩:=hv.slice;have c1:w0.cell? ⟨mb,1,none⟩=some (.slice a (κ M.l) cap):=bm.cell 1;have rg:=rf bm;have YI:(Bm M.l full).id<18446744073709551616:=by
  unfold Bm;split
  ·rename_i k hk;exact(I.wf _ (aJ (lW hk))).1
  ·show(0:Nat)<_;omega
 have s:=Fr.start w0;go_in;go_wp2_with(refine fw s ?_;intro _ w s);refine(iZ _ full hf).mono ?_;refine eE ?_;intro w u s;cases hs:cO full with
 | none=>simp only[gd];go_wp2_with(refine fw s ?_;intro _ w s);refine bB ?_;rw[show nT M full=(141,M)from by unfold nT;rw[hs]];exact vI.bW HA s.pure
 | some vs=>
  obtain⟨vn,sn⟩:=vs;simp only[gd];have aa:=fO sn;have DM:=an (show nT M full=Eh M full (C1 M full (decide (sn=[])))from by unfold nT;rw[hs]);replace hs:=an hs;generalize decide (sn=[])=bs at *;go_wp2_with(refine fw s ?_;intro _ w s);refine(rh w _ M.l (hv.up s.pure) I.hr full hf).mono ?_;intro e w h4;obtain⟨y,da,dc,n4,ak,rfl,u⟩:=Jg.of h4;have hy:=an ak;rw[<-ak]at YI;clear ak h4;have s:=s.up u;cases bs
  ·go_wp2_with(refine fw s ?_;intro _ w s);refine(tF w M.next _ M.l (hv.up s.pure) I.hl I.hr full hf).mono ?_;rintro e w(⟨r,nx,va,vm,vc,hr,rfl,u⟩|⟨nx,l2,x,v',vd,hr,rfl,os7,ar,u⟩)
   ·have nz:((r:Int) != 0)=true:=by have:=Cp hr;simp;omega
    exact Mw
   ·exact Yz
  ·go_wp2_with(refine fw s ?_;intro _ w s);refine(xa w M.next _ M.l (hv.up s.pure) I.hl I.hr full hf).mono ?_;rintro e w(⟨r,nx,va,vm,vc,hr,rfl,u⟩|⟨nx,l2,x,v',vd,hr,rfl,os7,ar,u⟩)
   ·have nz:((r:Int) != 0)=true:=by have:=tH hr;simp;omega
    exact Mw
   ·exact Yz
end
section
open Go.Maps
structure mP where
 kind:Int
 name:List aj
 to:List aj
 n:Int
 data:List aj
def gi(o:mP)(vd vk:ah):Array ah:=#[.int .i64 o.kind,.string (strOf o.name),.string (strOf o.to),.int .i64 o.n,vd,vk]
def lz(r:Except Nat (Nat × List al))(W:af)(nx:Nat)(va:Option Addr)(vm vc n:Nat):Prop:=(r=.error n/\n≠0)\/∃l',r=.ok (nx,l')/\n=0/\bq W 0 (.slice va vm vc) l'
section
variable {r:Except Nat (Nat × List al)} {w w':af} {e:Ab1} {nx:Nat} {va:Option Addr} {vm vc n:Nat}
theorem lz.of(h:RX r w e w')(hn:∀n,r=.error n->n≠0):∃nx va vm vc n,e=rt #[.agg (aS nx (.slice va vm vc)),i6 ((n:Nat):Int)]/\lz r w' nx va vm vc n/\Up w w':=by
 rcases h with⟨n,nx,va,vm,vc,hr,rfl,u⟩|⟨nx,l',v',hr,rfl,os,u⟩
 ·exact⟨nx,va,vm,vc,n,rfl,.inl ⟨hr,hn n hr⟩,u⟩
 ·obtain⟨a,c,rfl⟩:=os.cE.slice;exact⟨nx,a,κ l',c,0,rfl,.inr ⟨l',hr,rfl,os.mono (bE _)⟩,u⟩
theorem lz.up(h:lz r w nx va vm vc n)(u:Up w w'):lz r w' nx va vm vc n:=by
 rcases h with h|⟨l',hr,h0,os⟩
 ·exact .inl h
 ·exact .inr ⟨l',hr,h0,os.up u⟩
theorem lz.grown{q:Nat}{t:Aab}{C:Array ah}(h:lz r w nx va vm vc n)(b:aH w q t C)(ht:t≠90/\t≠87)(g:w.grownBy w' (some q)):lz r w' nx va vm vc n:=by
 rcases h with h|⟨l',hr,h0,os⟩
 ·exact .inl h
 ·exact .inr ⟨l',hr,h0,xD os (Touch.bg (F:=(·=q)) g (λk hk=>aa)) (λk hk=>.inl ⟨_,_,by subst hk;exact b,ht⟩)⟩
end
def KB(M:cS)(l':List al):al:=match aV l' M.next with
 | some k=>recAt l' k
 | none=>tn
def nj(M:cS)(r:Except Nat (Nat × List al)):Nat × cS:=match r with
 | .error n=>(n,M)
 | .ok (nx,l')=>(0,xf M nx l' (KB M l'))
def DJ(M:cS)(r:Except Nat (Nat × List al)):Nat × cS:=match r with
 | .error n=>(n,M)
 | .ok (nx,l')=>(0,xf {M with st:=M.st+1} nx l' (KB M l'))
def aas(M:cS)(r:Except Nat (Nat × List al)):Nat × cS:=match r with
 | .error n=>(n,M)
 | .ok (nx,l')=>(0,{M with next:=nx,l:=l'})
def c':cN:=⟨aK,rfl⟩
def RJ(mb kb n:Nat)(s:cN)(r:Nat × cS)(w:af)(e:Ab1)(w':af):Prop:=e=.returned (.tuple #[.agg (aC s.val),.int .i64 (r.1:Int)])/\bh w' mb kb (n+1) r.2/\Touch (λb=>b=mb\/b=kb) w w'
theorem sg{w w7 wz:af}{mb kb n q:Nat}{M:cS}{F:Nat->Prop}(A:bh w7 mb kb n M)(T:Touch F w w7)(B:aH w7 q 60 C)(hq:w.heap.size<=q)(hg:w7.grownBy wz (some q)):bh wz mb kb n M/\Touch F w wz:=by have T1:=Touch.bg (F:=(·=q)) hg (λk hk=>aa);obtain⟨vb,a,b,c⟩:=A;refine⟨bh.az ⟨vb,a,b,c⟩ T1 (λe=>fj a B ax e) (λe=>c.ne B e) (λk hk=>.inl ⟨_,_,by subst hk;exact B,ax,ax⟩),T.and T1 (λk hk=>.inr ae)⟩
def JD{next:Nat}{full:List aj}{b:Int}(n:Nat)(h:cG next l full b=.error n):n≠0:=w4 h
def Vw{next:Nat}{full:List aj}(n:Nat)(h:eX next l full st=.error n):n≠0:=DL h
theorem do2(w:af)(mb kb n:Nat)(M:cS)(A:bh w mb kb n M)(hn:n<1000000)(I:G0 M)(o:mP)(vd vk:ah)(hk:o.kind=2)(hf:κ o.name<=9223372036854775807):Aae Aag 29 #[pz mb,.agg (gi o vd vk)] w (RJ mb kb n c' (r4 M o.name o.n) w):=by refine TK ?_;intro w2 hw2 u1 u2 b1 b2 UU HW2 HA HN IS c0 c1 c3;rw[hw2]at c1;rw[hw2]at c3;rw[hw2]at c0;rw[hk]at c0;clear hk;go_in;go_wp2_with(refine arm ?_);rw[<-HW2.out];refine(Kx _ _ _ n M HA hn I _ hf _).mono ?_;refine y9 ?_;intro w3 A3 T3 B3;clear c0 c1 c3;go_wp2_with(first|refine arm ?_|refine pj ?_);refine y' ?_;intro wz hbz ag H;go_wp2;exact bS (hi:=IS) (.tuple #[.agg (aC aK),i6 (((r4 M o.name o.n).1:Nat):Int)]) hbz ⟨rfl,H.1,H.2⟩
theorem do7(w:af)(mb kb n:Nat)(M:cS)(A:bh w mb kb n M)(hn:n<1000000)(I:G0 M)(o:mP)(vd vk:ah)(hk:o.kind=7)(hf:κ o.name<=9223372036854775807):Aae Aag 29 #[pz mb,.agg (gi o vd vk)] w (RJ mb kb n c' (rQ M o.name) w):=by refine YD ?_;clear hk;intro w2 hw2 u1 u2 b1 b2 UU HW2 HA HN IS c1 c0;go_wp2_with(refine arm ?_);rw[<-HW2.out];refine(Kt _ _ _ n M HA hn I _ hf).mono ?_;refine y9 ?_;intro w3 A3 T3 B3;clear c0 c1;go_wp2_with(first|refine arm ?_|refine pj ?_);refine y' ?_;intro wz hbz ag H;go_wp2;exact bS (hi:=IS) (.tuple #[.agg (aC aK),i6 (((rQ M o.name).1:Nat):Int)]) hbz ⟨rfl,H.1,H.2⟩
theorem do8(w:af)(mb kb n:Nat)(M:cS)(A:bh w mb kb n M)(hn:n<1000000)(I:G0 M)(o:mP)(vd vk:ah)(hk:o.kind=8)(hf:κ o.name<=9223372036854775807):Aae Aag 29 #[pz mb,.agg (gi o vd vk)] w (RJ mb kb n c' (nT M o.name) w):=by refine YD ?_;clear hk;intro w2 hw2 u1 u2 b1 b2 UU HW2 HA HN IS c1 c0;go_wp2_with(refine arm ?_);rw[<-HW2.out];refine(Kv _ _ _ n M HA hn I _ hf).mono ?_;refine y9 ?_;intro w3 A3 T3 B3;clear c0 c1;go_wp2_with(first|refine arm ?_|refine pj ?_);refine y' ?_;intro wz hbz ag H;go_wp2;exact bS (hi:=IS) (.tuple #[.agg (aC aK),i6 (((nT M o.name).1:Nat):Int)]) hbz ⟨rfl,H.1,H.2⟩
theorem do1(w:af)(mb kb n:Nat)(M:cS)(A:bh w mb kb n M)(hn:n<1000000)(I:G0 M)(o:mP)(vd vk:ah)(hk:o.kind=1)(hf:κ o.name<=9223372036854775807)(hb:a8 w vd o.data)(aX:o.data≠[]->∀k,vd.ownBlock=some k->k≠mb/\k≠kb):Aae Aag 29 #[pz mb,.agg (gi o vd vk)] w (RJ mb kb n c' (ly M o.name o.n o.data) w):=by refine TK ?_;intro w2 hw2 u1 u2 b1 b2 UU HW2 HA HN IS c0 c1 c3;have c4:w2.cell? (ad w.heap.size 4)=some vd:=b1.cell 4;rw[hw2]at c1;rw[hw2]at c3;rw[hw2]at c4;rw[hw2]at c0;rw[hk]at c0;clear hk;go_in;go_wp2_with(refine arm ?_);rw[<-HW2.out];refine(H4 _ _ _ n M HA hn I _ hf _ _ _ (aD.up hb UU) aX).mono ?_;refine y9 ?_;intro w3 A3 T3 B3;clear c0 c1 c3 c4;go_wp2_with(first|refine arm ?_|refine pj ?_);refine y' ?_;intro wz hbz ag H;go_wp2;exact bS (hi:=IS) (.tuple #[.agg (aC aK),i6 (((ly M o.name o.n o.data).1:Nat):Int)]) hbz ⟨rfl,H.1,H.2⟩
theorem do3(w:af)(mb kb n:Nat)(M:cS)(A:bh w mb kb n M)(hn:n<1000000)(I:G0 M)(o:mP)(vd vk:ah)(hk:o.kind=3)(hf:κ o.name<=9223372036854775807):Aae Aag 29 #[pz mb,.agg (gi o vd vk)] w (RJ mb kb n (j5 M o.name o.n).1 ((j5 M o.name o.n).2,M) w):=by
 refine TW ?_;intro w2 hw2 u1 u2 b1 b2 UU HW2 HA HN;have CA:=an (Kw _ _ _ n M HA I o.name hf o.n);obtain⟨sr,aa⟩:=bK (j5 M o.name o.n);rw[<-aa]at CA ⊢;have IR:=an (show(prog.info? 60).map (·.size)=some (aC sr.1.val).size from by rw[dx,bX,sr.1.2]);clear aa;refine Nn ?_;intro c0 c1 c3;rw[hw2]at c1;rw[hw2]at c3;rw[hw2]at c0;clear hn;rw[hk]at c0;clear hf hk;go_in;go_wp2_with(refine arm ?_);rw[<-HW2.out];refine CA.mono ?_;rintro e w3⟨rfl,u3⟩;have B3:=an (b2.up u3);clear c0 c1 c3;go_wp2_with(first
  | refine cZ 60 4 63 (aC sr.1.val) B3 (hi:=IR) (hold:=(by rw[bX,bX,sr.1.2];rfl)) ?_)
 intro wz hbz ag;have H:=an (sg ((HA.up u3).more) (Touch.bW (F:=λb=>b=mb\/b=kb) (UU.trans u3)) B3 (ix _) ag);go_wp2;exact bS (hi:=IR) (.tuple #[.agg (aC sr.1.val),i6 (sr.2:Int)]) hbz ⟨rfl,H.1,H.2⟩
def UJ(nx:Nat)(vb vm:ah)(st made:Nat):(nY nx vb vm st made).setIfInBounds 3 (u6 ((st:Int)+1))=nY nx vb vm (st+1) made:=rfl
theorem bh.stamped{mb kb n:Nat}{M:cS}(h:bh w mb kb n M):bh (w.setCell ⟨mb,3,none⟩ (u6 ((M.st:Int)+1))) mb kb n {M with st:=M.st+1}/\Touch (λb=>b=mb\/b=kb) w (w.setCell ⟨mb,3,none⟩ (u6 ((M.st:Int)+1))):=by obtain⟨vb,a,b,c⟩:=h;have T:=Touch.bg (F:=(·=mb)) (b0 a 3 (u6 ((M.st:Int)+1))) (λk hk=>aa);have a':=a.setCell 3 (u6 ((M.st:Int)+1));rw[UJ]at a';exact NY
theorem bh.H6{mb kb n:Nat}{M:cS}(h:bh w mb kb n M){q:Nat}(b:aH w q t C)(ht:t≠76):¬(q=mb\/q=kb):=by
 obtain⟨vb,a,_,c⟩:=h;rintro(h|h)
 ·grind [fj]
 ·exact c.ne b h.symm
theorem do9(w:af)(mb kb n:Nat)(M:cS)(A:bh w mb kb n M)(hn:n<1000000)(I:G0 M)(o:mP)(vd vk:ah)(hk:o.kind=9):Aae Aag 29 #[pz mb,.agg (gi o vd vk)] w (RJ mb kb n c' (0,{M with st:=M.st+1}) w):=by
 refine TW ?_;intro w2 hw2 u1 u2 b1 b2 UU HW2 HA HN;refine y4 ?_;intro IS c0;clear hn;rw[hk]at c0;obtain⟨m,hm⟩:=bK (M.st);have aM:m<=100000000:=by rw[hm];exact I.st
 have aq:=an hm;have A2:=HA.out;have HS:=an A2.stamped;obtain⟨vm,bm,_,_⟩:=A2;have c4:w2.cell? (ad mb 3)=some (u6 (m:Int)):=by rw[hm];exact bm.cell 3
 have f4:=bm.free 3;rw[hw2]at c4 f4;clear hk hm hw2;go_in;go_wp2_with(first
  | refine gS 33 1 (gi o vd vk) ?_
  | refine bD 60 hI ?_
  | ((with_reducible refine dI _ _ ?_);refine kS ?_))
 rw[<-HW2.out];have h4:=HS.out;rw[<-aq.out]at h4;have b3:=b2.az h4.2 (HA.H6 b2 ax);obtain⟨w4,hw4⟩:=bK (w2.setCell ⟨mb,3,none⟩ (u6 ((m:Int)+1)));rw[<-hw4]at h4 b3 ⊢;clear c4 f4 hw4 c0;refine an ?_;go_wp2_with(first
  | refine l1 60 hZ ?_
  | refine cZ 60 4 157 (aC aK) b3 (hi:=IS) ?_)
 intro wz hbz ag;have H:=an (sg h4.1.more ((Touch.bW (F:=λb=>b=mb\/b=kb) UU).and h4.2 (λb hb=>.inl hb)) b3 (ix _) ag);go_wp2;exact bS (hi:=IS) (.tuple #[.agg (aC aK),i6 0]) hbz ⟨rfl,by have:=H.1;rw[aq.out]at this;exact this,H.2⟩
theorem doN(w:af)(mb kb n:Nat)(M:cS)(A:bh w mb kb n M)(hn:n<1000000)(I:G0 M)(o:mP)(vd vk:ah)(hk:o.kind<0\/9<o.kind):Aae Aag 29 #[pz mb,.agg (gi o vd vk)] w (RJ mb kb n c' (0,M) w):=by
 refine F6 ?_;intro w2 hw2 u1 u2 b1 b2 UU HW2;have HN:=an hn;refine y4 ?_;intro IS c0;clear hn;obtain⟨kd,aa⟩:=bK (o.kind);rw[<-aa]at c0 hk;refine TX ?_;intro e0 e1 e2 e3 e4 e5 e6 e7 e8 e9 B3;clear hk aa hw2;go_in;go_wp2_with(first
  | refine gS 33 1 (gi o vd vk) ?_
  | refine bD 60 hI ?_
  | ((with_reducible refine dI _ _ ?_);refine kS ?_))
 rw[<-HW2.out];clear c0;refine an ?_;go_wp2_with(first
  | refine l1 60 hZ ?_
  | refine cZ 60 4 157 (aC aK) B3 (hi:=IS) ?_)
 intro wz hbz ag;have H:=an (sg ((A.up UU).more) (Touch.bW (F:=λb=>b=mb\/b=kb) UU) B3 (ix _) ag);go_wp2;exact bS (hi:=IS) (.tuple #[.agg (aC aK),i6 0]) hbz ⟨rfl,H.1,H.2⟩
end
section
open Go.Maps
def zv(next:Nat)(r:Except Nat (Nat × List al)):Prop:=∀nx l',r=.ok (nx,l')->(∀x∈l',x.dead=[]/\x.wf)/\∃k,aV l' next=some k
theorem wy(w:af)(mb kb n:Nat)(M:cS)(A:bh w mb kb n M)(hn:n<1000000)(r:Except Nat (Nat × List al))(nx:Nat)(va:Option Addr)(vm vc nn:Nat)(Q:lz r w nx va vm vc nn)(N:zv M.next r):Aae Aag 73 #[pz mb,.agg (aS nx (.slice va vm vc)),i6 (nn:Int)] w (vI mb kb n (nj M r) w):=by
 rcases Q with⟨hr,h0⟩|⟨l',hr,rfl,os⟩
 ·refine(Kr w mb nx nn va vm vc h0).mono ?_;grind [nj,vI.bW]
 ·obtain⟨h1,k,hk⟩:=N nx l' hr;refine(PX w mb kb n M A hn nx _ l' 0 os (λx hx=>aa) k hk (λx hx=>(h1 x hx).2)).mono ?_;rintro e w'⟨rfl,a,t⟩;rw[show nj M r=(0,xf M nx l' (recAt l' k))from by grind [nj,KB]];exact⟨rfl,a,t⟩
theorem do0(w:af)(mb kb n:Nat)(M:cS)(A:bh w mb kb n M)(hn:n<1000000)(I:G0 M)(o:mP)(vd vk:ah)(hk:o.kind=0)(hf:κ o.name<=9223372036854775807)(ae:zv M.next (cG M.next M.l o.name o.n)):Aae Aag 29 #[pz mb,.agg (gi o vd vk)] w (RJ mb kb n c' (nj M (cG M.next M.l o.name o.n)) w):=by
 refine TD ?_;intro w2 hw2 u1 u2 b1 b2 UU B1 B2 HW2 HA HN HI IS vb bm os ma hv;obtain⟨a,cap,rfl⟩:=hv.slice;obtain⟨CA,ak⟩:=aw (λW (u:Up w2.drew W)=>zP W M.next _ M.l ((hv.up (Up.drew (Up.refl w2))).up u) I.hl I.hr (by have:=I.nx;omega) o.name hf o.n) (λn (h:cG M.next M.l o.name o.n=.error n)=>JD n h);obtain⟨RR,au⟩:∃z:Subtype (λ_:Except Nat (Nat × List al)=>True),z=⟨cG M.next M.l o.name o.n,trivial⟩:=⟨_,rfl⟩;have aI:=an (show RR.val=cG M.next M.l o.name o.n from by rw[au]);rw[<-aI.out]at CA ak ae ⊢;have aj:=an ae;have c0:w2.cell? (ad w.heap.size 0)=some (i6 o.kind):=B1.cell 0;rw[hw2]at c0;clear hn;rw[hk]at c0;clear hf hk au;go_in;go_wp2_with(refine arm ?_);rw[<-HW2.out];refine e3 (S:=Up w2.drew) av ?_;change Acp _ _ _ _ _ 15 #[false,false,false,false,false,false,false,false,false,false,false,false,false,false,false] _ (w2.drew);have UD:=an (Up.drew (Up.refl w2));have ab:=an (B1.up UD);clear c0 hw2 HW2;generalize w2.drew=w4 at *;have us:=Up.refl w4;refine lI ?_;refine tb 3 rfl (yp (λ_ h=>h.range (UD.range (rf bm))) (eY _ _) underlying73) ?_;refine ta 4 ?_;refine tb 5 rfl (yc (λ_ h=>h.cell (ab.cell 1))) ?_;refine ta 6 ?_;refine tb 7 rfl (yc (λ_ h=>h.cell (ab.cell 3))) ?_;refine br ?_;refine(λ(FIN:∀(q:Nat)(W:af)(nx:Nat)(va:Option Addr)(vm vc nn:Nat),Hid (Up w4 W/\aH W q 73 (aS 0 (nl))/\w4.heap.size<=q/\lz RR.val W nx va vm vc nn)->(?G1:Nat->af->Nat->Option Addr->Nat->Nat->Nat->Prop) q W nx va vm vc nn)=>?main) ?tail
 case main=>
  refine so 8 12 av rfl rfl rfl rfl ?_ ?_
  ·intro K hK;go_simp;refine(CA w4 (Up.refl _)).mono ?_;intro e w5 h;obtain⟨nx,va,vm,vc,nn,rfl,rq,u5⟩:=lz.of h ak;refine Uu ?_;clear hK K;intro u6 b6 aD s5;refine ta 9 ?_;refine ta 10 ?_;refine ta 11 ?_;refine br ?_;refine ok 12 ?_;exact Uk
  ·refine Uv ?_;intro u5 b5;refine ok 8 ?_;intro K hK;go_simp;refine(CA _ u5).mono ?_;intro e W h;obtain⟨nx,va,vm,vc,nn,rfl,rq,aB⟩:=lz.of h ak;obtain⟨u6,b6,s5⟩:=db (u5.trans aB) (b5.up aB) (aG w4.heap.size);refine hK _ _ u6 ?_;refine gq ?_;clear hK K;obtain⟨q,hq⟩:=bK (w4.heap.size);rw[<-hq]at b6 ⊢;refine ta 9 ?_;refine ta 10 ?_;refine ta 11 ?_;exact NJ
 case tail=>intro q W nx va vm vc nn HP;refine ok 13 ?_;intro K hK;refine lS _ (.tmp 6) (.tmp 28) rfl q _ rfl rfl _ _ HP.2.1 (eY _ _) rfl (jf _ _ _ _) ?_;intro w6 aV ar;have u6:=HP.1.grown ar (λk hk=>by cases hk;exact HP.2.2.1);obtain⟨A6,aa⟩:=aw ((HA.up UD).up u6) ((B2.up UD).up u6);refine hK _ _ u6 ?_;clear hK K CA ak;refine br ?_;refine ta 14 ?_;refine nc ?_;go_wp2_with(refine arm ?_);refine(wy _ _ _ n M A6 HN RR.val _ _ _ _ _ (HP.2.2.2.grown HP.2.1 ax ar) aj).mono ?_;rintro e w7⟨rfl,A7,T7⟩;have B7:=an (aa.az T7 (A6.H6 aa ax));go_wp2_with(first|refine arm ?_|refine pj ?_);intro wz hbz ag;have H:=an (sg A7 ((Touch.bW (F:=λb=>b=mb\/b=kb) ((UU.trans UD).trans u6)).and T7 (λb hb=>.inl hb)) B7 (ix _) ag);go_wp2;(try simp only[exi]);exact bS (hi:=IS) (.tuple #[.agg (aC aK),i6 (((nj M RR.val).1:Nat):Int)]) hbz ⟨rfl,H.1,H.2⟩
end
section
open Go.Maps

end
section
open Go.Maps

end
section
open Go.Maps
theorem do4(w:af)(mb kb n:Nat)(M:cS)(A:bh w mb kb n M)(hn:n<1000000)(I:G0 M)(o:mP)(vd vk:ah)(hk:o.kind=4)(hf:κ o.name<=9223372036854775807)(ae:zv M.next (eX M.next M.l o.name M.st)):Aae Aag 29 #[pz mb,.agg (gi o vd vk)] w (RJ mb kb n c' (DJ M (eX M.next M.l o.name M.st)) w):=by
 refine TD ?_;intro w2 hw2 u1 u2 b1 b2 UU B1 B2 HW2 HA HN HI IS vb bm os ma hv;obtain⟨a,cap,rfl⟩:=hv.slice;obtain⟨CA,ak⟩:=aw (λW (u:Up w2.drew W)=>IL W M.next _ M.l ((hv.up (Up.drew (Up.refl w2))).up u) I.hl I.hr (by have:=I.nx;omega) o.name hf M.st (by have:=I.st;omega)) (λn (h:eX M.next M.l o.name M.st=.error n)=>Vw n h);obtain⟨RR,au⟩:∃z:Subtype (λ_:Except Nat (Nat × List al)=>True),z=⟨eX M.next M.l o.name M.st,trivial⟩:=⟨_,rfl⟩;have aI:=an (show RR.val=eX M.next M.l o.name M.st from by rw[au]);rw[<-aI.out]at CA ak ae ⊢;have aj:=an ae;have c0:w2.cell? (ad w.heap.size 0)=some (i6 o.kind):=B1.cell 0;rw[hw2]at c0;clear hn;rw[hk]at c0;clear hf hk au;go_in;go_wp2_with(refine arm ?_);rw[<-HW2.out];refine e3 (S:=Up w2.drew) av ?_;change Acp _ _ _ _ _ 17 #[false,false,false,false,false,false,false,false,false,false,false,false,false,false,false,false,false] _ (w2.drew);have UD:=an (Up.drew (Up.refl w2));have A4:=an (HA.up UD);clear c0 hw2 HW2;generalize w2.drew=w4 at *;have us:=Up.refl w4;refine lI ?_;refine tb 3 rfl (yp (λ_ h=>h.range (UD.range (rf bm))) (eY _ _) underlying73) ?_;refine ta 4 ?_;refine tb 5 rfl (yc (λ_ h=>h.cell ((B1.up UD).cell 1))) ?_;refine ta 6 ?_;refine ta 7 ?_;refine ta 8 ?_;refine tb 9 rfl (yc (λ_ h=>h.cell (by obtain⟨_,bm,_,_⟩:=A4.out;exact bm.cell 3))) ?_;refine br ?_;refine(λ(FIN:∀(q:Nat)(W:af)(nx:Nat)(va:Option Addr)(vm vc nn:Nat),Hid (Up w4 W/\aH W q 73 (aS 0 (nl))/\w4.heap.size<=q/\lz RR.val W nx va vm vc nn)->(?G1:Nat->af->Nat->Option Addr->Nat->Nat->Nat->Prop) q W nx va vm vc nn)=>?main) ?tail
 case main=>
  refine so 10 14 av rfl rfl rfl rfl ?_ ?_
  ·intro K hK;go_simp;refine(CA w4 (Up.refl _)).mono ?_;intro e w5 h;obtain⟨nx,va,vm,vc,nn,rfl,rq,u5⟩:=lz.of h ak;refine Uu ?_;clear hK K;intro u6 b6 aD s5;refine ta 11 ?_;refine ta 12 ?_;refine ta 13 ?_;refine br ?_;refine ok 14 ?_;exact Uk
  ·refine Uv ?_;intro u5 b5;refine ok 10 ?_;intro K hK;go_simp;refine(CA _ u5).mono ?_;intro e W h;obtain⟨nx,va,vm,vc,nn,rfl,rq,aB⟩:=lz.of h ak;obtain⟨u6,b6,s5⟩:=db (u5.trans aB) (b5.up aB) (aG w4.heap.size);refine hK _ _ u6 ?_;refine gq ?_;clear hK K;obtain⟨q,hq⟩:=bK (w4.heap.size);rw[<-hq]at b6 ⊢;refine ta 11 ?_;refine ta 12 ?_;refine ta 13 ?_;exact NJ
 case tail=>
  intro q W nx va vm vc nn HP;refine ok 15 ?_;intro K hK;refine lS _ (.tmp 8) (.tmp 79) rfl q _ rfl rfl _ _ HP.2.1 (eY _ _) rfl (jf _ _ _ _) ?_;intro w6 aV ar;have u6:=HP.1.grown ar (λk hk=>by cases hk;exact HP.2.2.1);obtain⟨U6,RQ,BQ,A6,aa⟩:=eI ((UU.trans UD).trans u6) (HP.2.2.2.grown HP.2.1 ax ar) aV (A4.up u6) ((B2.up UD).up u6);refine hK _ _ u6 ?_;clear hK K HP ar aV CA ak;refine br ?_;refine ta 16 ?_;refine br ?_;refine yq av ?_ _;clear u6;rcases RQ.out with⟨hr,h0⟩|⟨l2,hr,h0,ao⟩
  ·have hne:((nn:Int)==0)=false:=by simp;omega
   have E:=an (show DJ M RR.val=nj M RR.val from by rw[hr];rfl);clear hr h0;go_wp2_with(refine arm ?_);refine(wy _ _ _ n M A6 HN RR.val _ _ _ _ _ RQ aj).mono ?_;rintro e w7⟨rfl,A7,T7⟩;obtain⟨B7,AA,TT⟩:=aW (aa.az T7 ((A6).H6 aa ax)) A7 ((Touch.bW (F:=λb=>b=mb\/b=kb) U6).and T7 (λb hb=>.inl hb));clear A7 T7;go_wp2_with(first|refine arm ?_|refine pj ?_);intro wz hbz ag;obtain⟨BZ,H⟩:=aw hbz (sg AA TT B7 (ix _) ag);clear hbz ag;go_wp2_with fail;(try simp only[exi]);exact bS (hi:=IS) (.tuple #[.agg (aC aK),i6 ((nj (M) RR.val).1:Int)]) BZ ⟨by rw[E.out];rfl,by rw[E.out];exact H.1,H.2⟩
  ·subst h0;have E:=an (show DJ M RR.val=nj {M with st:=M.st+1} RR.val from by rw[hr];rfl);obtain⟨m,hm⟩:=bK (M.st);have aM:m<=100000000:=by rw[hm];exact HI.st
   have aq:=an hm;have aO:=A6;obtain⟨aP,ab,aN,aE⟩:=aO;have c4:w6.cell? (ad mb 3)=some (u6 (m:Int)):=by rw[hm];exact ab.cell 3
   have f4:=ab.free 3;have aF:=an (show lz RR.val (w6.setCell ⟨mb,3,none⟩ (u6 ((M.st:Int)+1))) nx va vm vc 0 from RQ.grown ab ax (b0 ab 3 _));clear hr ao ab aN aE hm;go_wp2_with(first
    | ((with_reducible refine dI _ _ ?_);refine kS ?_))
   obtain⟨h8,r8⟩:=aA A6.stamped aF.out;rw[<-aq.out]at h8 r8;have b8:=aa.az h8.2 (A6.H6 aa ax);have q8:=BQ.az h8.2 (A6.H6 BQ ax);obtain⟨w8,aJ⟩:=bK (w6.setCell ⟨mb,3,none⟩ (u6 ((m:Int)+1)));rw[<-aJ]at h8 b8 q8 r8 ⊢;obtain⟨A8,B8,Q8,R8⟩:=bR (show bh w8 mb kb n {M with st:=M.st+1} from by have:=h8.1;rw[aq.out]at this;exact this) b8 q8 r8;clear c4 f4 aJ b8 q8 r8 aF;refine an ?_;go_wp2_with(refine arm ?_);refine(wy _ _ _ n _ A8 HN RR.val _ _ _ _ _ R8 aj).mono ?_;rintro e w7⟨rfl,A7,T7⟩;obtain⟨B7,AA,TT⟩:=aW (B8.az T7 ((A8).H6 B8 ax)) A7 (((Touch.bW (F:=λb=>b=mb\/b=kb) U6).and h8.2 (λb hb=>.inl hb)).and T7 (λb hb=>.inl hb));clear A7 T7;go_wp2_with(first|refine arm ?_|refine pj ?_);intro wz hbz ag;obtain⟨BZ,H⟩:=aw hbz (sg AA TT B7 (ix _) ag);clear hbz ag;go_wp2_with fail;(try simp only[exi]);exact bS (hi:=IS) (.tuple #[.agg (aC aK),i6 ((nj ({M with st:=M.st+1}) RR.val).1:Int)]) BZ ⟨by rw[E.out];rfl,by rw[E.out];exact H.1,H.2⟩
end
section
open Go.Maps
theorem K6(w:af)(v:ah)(l:List al)(hv:bq w 0 v l)(hl:κ l<=1000):Aae Aag 71 #[v] w λe w'=>∃v',e=.returned v'/\bq w' 0 v' l/\Up w w':=by
 obtain⟨ys,hy,hr,hd⟩:=hv;have aB:κ ys<=1000:=aQ
 have row:=ak.row hr mw;obtain⟨a,cap,rfl⟩:=row.slice;obtain⟨HD,HY⟩:=aw hd hy;cases a with
 | none=>
  have h0:ys=[]:=by
   rcases row with⟨h,_⟩|⟨b,off,cp,h1,_⟩
   ·exact h
   ·simp at h1
  subst h0;have EQ:∀W,(binOp .eql 71 (.slice none 0 cap) (nl)).run Aag W=.ok (.bool true) W:=λW=>yM W 71 90 none _ cap 0 0 underlying71;clear hd hy;rw[Aa5];go_in;go_wp2;go_ret;exact⟨_,rfl,⟨[],HY,ak.nil _ _ _ _ _,λy hy=>aQ⟩,Up.refl _⟩
 | some ad=>
  have U0:=an (ai w (.cells #[] 90));have EQ:∀W,(binOp .eql 71 (.slice (some ad) (κ ys) cap) (nl)).run Aag W=.ok (.bool false) W:=λW=>yM W 71 90 (some ad) _ cap 0 0 underlying71;clear hd hy;go_in;go_wp2_with(first
   | (at_builtin;refine bI mw rfl (.tmp 5) (.tmp 6) 71 rfl _ _ _ _ underlying71 j' rfl _ _ rfl (ak.made _ _ _ w _ (aG _)) _ _ rfl (aI.up row U0) ab ab U0.size ?_))
  intro v2 w2 aa ag ae;have U2:=an (U0.aE ae (aG _));go_wp2_with fail;go_ret;exact⟨_,rfl,⟨ys,HY,aa.mono (bE _),λy hy=>ak.up (HD y hy) U2⟩,U2⟩
theorem Cq(w:af)(d:Nat)(t k e:Aab)(p:Option Nat)(h:P.underlying t=some (.map k e)):(Ack (d+1) t (.map p) (.map none)).run P w=.ok p.isNone w:=by cases p<;>simp[Ack,run_underlying h]
theorem Ht(w:af)(t k e:Aab)(p:Option Nat)(h:P.underlying t=some (.map k e)):(binOp .eql t (.map p) (.map none)).run P w=.ok (.bool p.isNone) w:=by simp only[binOp];simp[show Op.equal t (.map p) (.map none)=Ack (9999+1) t (.map p) (.map none)from rfl,Cq w 9999 t k e p h]
theorem Jh(w:af)(t k e xT:Aab)(v:ah)(h:P.underlying t=some (.map k e)):(Instr.typeAssert (.iface t v) xT t false).run P w=.ok v w:=by simp[Instr.typeAssert,run_underlying h,go_sem,Aap]
theorem Hi(w:af){r:Nat}{es:Array MapEntry}{clock:Nat}(t:Aab)(hb:w.heap[r]?=some (.map es clock)):(Acn #[.iface t (.map (some r))]).run Aag w=.ok (.iface t (.map (some w.heap.size))) (w.alloc (.map es clock)):=by
 have e:Acn #[.iface t (.map (some r))]=(getObj r >>= λo=>match o with
  | .map entries clock=>(newObj (.map entries clock) >>= λn=>pure (.iface t (.map (some n))))
  | _=>stuck "maps.clone: a map expected"):=rfl
 rw[e];simp[MapKept.run_getObj_map hb,Aap,go_sem]
theorem F9(w:af)(kb n:Nat)(B:Nat->List lf)(h:eF w kb n B):Aae Aag 72 #[.map (some kb)] w λe w'=>e=.returned (.map (some w.heap.size))/\eF w' w.heap.size n B/\Up w w':=by have HH:=an h;obtain⟨_,D,⟨es,clock,hb,_⟩,_⟩:=h;have hq:=λW=>Ht (P:=Aag) W 74 _ _ (some kb) underlying74;go_in;go_wp2;rw[run_callFunc_extern func136 ay ay av (e:=Acn) av,Hi w _ hb];simp only[Aap];rw[EV];go_wp2;rw[Jh _ _ _ _ _ _ underlying74];simp only[Aap];rw[EV];go_wp2;go_ret;have hB:Up w (w.alloc (.map es clock)):=ai w _;exact⟨rfl,HH.heap ((MapKept.heap_alloc w _).1.trans hb.symm),hB⟩
theorem OQ(nx:Nat)(a:Option Addr)(k c kb st made:Nat):prog.built 76 [(0,.agg (aS nx (.slice a k c))),(1,.map (some kb)),(2,u6 (st:Int)),(3,u6 (made:Int))]=some (nY nx (.slice a k c) (.map (some kb)) st made):=av
theorem OO(nx:Nat)(a:Option Addr)(k c:Nat):prog.built 73 [(0,u6 (nx:Int)),(1,.slice a k c)]=some (aS nx (.slice a k c)):=av
theorem Ku(w:af)(mb kb n:Nat)(M:cS)(A:bh w mb kb n M)(hl:κ M.l<=1000):Aae Aag 28 #[pz mb] w λe w'=>∃aa ab,e=.returned (pz aa)/\w.heap.size<=aa/\w.heap.size<=ab/\bh w' aa ab n M/\Up w w':=by have ud:=Up.drew (Up.refl w);obtain⟨vb,bm,os,ma⟩:=A.up ud;obtain⟨a,cap,rfl⟩:=os.cE.slice;obtain⟨SC,MC,BM,UD,HS⟩:=eI (λW (u:Up w.drew W)=>K6 W _ M.l (os.up u) hl) (λW (u:Up w.drew W)=>F9 W kb n M.B (ma.up u)) bm ud (show w.heap.size<=w.drew.heap.size from ud.size);clear hl;go_in;go_wp2;refine e3 (S:=Up w.drew) av ?_;change Acp _ _ _ _ _ 28 #[false,false,false,false,false,false,false,false,false,false,false,false,false,false,false,false,false,false,false,false,false,false,false,false,false,false,false,false] _ (w.drew);generalize w.drew=w1 at *;have us:=Up.refl w1;refine lI ?_;refine ta 3 ?_;refine tb 4 rfl (yc (λ_ h=>h.cell (BM.cell 0))) ?_;refine uF ?_;refine ta 8 ?_;refine tb 9 rfl (yc (λ_ h=>h.cell (BM.cell 1))) ?_;refine ta 12 ?_;refine ta 13 ?_;refine ta 14 ?_;refine tb 15 rfl (yc (λ_ h=>h.cell (BM.cell 2))) ?_;refine ta 17 ?_;refine ta 18 ?_;refine ta 19 ?_;refine tb 20 rfl (yc (λ_ h=>h.cell (BM.cell 3))) ?_;refine ta 21 ?_;refine ta 22 ?_;refine ta 23 ?_;refine tb 24 rfl (yc (λ_ h=>h.cell (BM.cell 4))) ?_;refine ok 10 ?_;intro K hK;go_simp;refine(SC w1 us).mono ?_;rintro e w2⟨v2,rfl,ao,u2⟩;obtain⟨a2,c2,rfl⟩:=ao.cE.slice;have ak:=MC w2 u2;refine hK _ _ u2 ?_;clear hK K SC MC;refine tb 11 rfl (wY av _ 0 1 (.tmp 7) (.tmp 13) rfl _ _ _ (OO _ _ _ _) rfl rfl) ?_;refine ok 16 ?_;intro K hK;go_simp;refine ak.mono ?_;rintro e w3⟨rfl,aj,u3⟩;obtain⟨S2,u4⟩:=aA u2.size (u2.trans u3);obtain⟨k3,ag⟩:=bK (w2.heap.size);rw[<-ag]at aj ⊢;have K3:=an (show w1.heap.size<=k3 from ae);refine hK _ _ u4 ?_;clear hK K S2 ag;refine tb 25 rfl (D1 av _ 0 1 2 3 (.tmp 14) (.tmp 19) (.tmp 23) (.tmp 27) rfl _ _ _ _ _ (OQ _ _ _ _ _ _ _) rfl rfl rfl rfl) ?_;refine ok 26 ?_;intro K hK;refine Ci _ (.tmp 28) rfl _ rfl ?_;have u5:=ai w3 (.cells (nY M.next (.slice a2 (κ M.l) c2) (.map (some k3)) M.st M.made) 76);have B5:=an (aH.new w3 76 (nY M.next (.slice a2 (κ M.l) c2) (.map (some k3)) M.st M.made));refine hK _ _ (u4.trans u5) ?_;clear hK K;refine tk 27 (pz w3.heap.size) rfl ya (u4.trans u5) ?_;refine dn ?_;go_wp2;go_ret;exact⟨_,k3,rfl,by have h1:=HS.out;have h2:=u4.size;omega,by have h1:=HS.out;have h2:=K3.out;omega,⟨_,B5,(ao.up u3).up u5,aj.up u5⟩,(UD.trans u4).trans u5⟩
end
section
open Go.Maps
theorem DZ(hw:Aaa o (Aa1 ops a.tmps)=true)(t:Aab)(i0 i1 i2:Nat)(x0 x1 x2:bO)(ho:o.op=.build t #[(i0,x0),(i1,x1),(i2,x2)])(v0 v1 v2:ah)(C:Array ah)(hb:P.built t [(i0,v0),(i1,v1),(i2,v2)]=some C)(h0:a.eval x0=v0)(h1:a.eval x1=v1)(h2:a.eval x2=v2)(h:Aak P ops Q rest (a.put o.dst (.agg C)) w):Aak P ops Q (o::rest) a w:=p3 hw λ_ hK=>wp_build t #[(i0,x0),(i1,x1),(i2,x2)] ho (by simp[hb,h0,h1,h2]) (hK _ _ (by simpa[hb,h0,h1,h2]using h))
def Ga:cS:=⟨1,[],λ_=>rN,2,0⟩
theorem Jk(kb:Nat):prog.built 76 [(0,.agg (aS 1 (nl))),(1,.map (some kb)),(2,u6 2)]=some (nY 1 (nl) (.map (some kb)) 2 0):=av
theorem PZ(w:af):Aae Aag 8 #[] w λe w'=>∃mb kb,e=.returned (.pointer (some ⟨mb,0,none⟩))/\w.heap.size<=mb/\w.heap.size<=kb/\bh w' mb kb 0 Ga/\Up w w':=by
 obtain⟨ma,u1,u2,b2⟩:=iJ (eF.made w) (ai w (.map #[] 0)) (ai (w.alloc (.map #[] 0)) (.cells (nY 1 (.slice none 0 0) (.map (some w.heap.size)) 2 0) 76)) (aH.new (w.alloc (.map #[] 0)) 76 (nY 1 (.slice none 0 0) (.map (some w.heap.size)) 2 0));rw[aL]at b2;obtain⟨MA,B2,UU,BM⟩:=bR (ma.up u2) b2 (u1.trans u2) (Jk w.heap.size);have aU:=@run_makeMap Aag;clear ma u1 u2 b2;go_in;go_wp2_with(first
  | ((with_reducible refine dI 73 _ ?_);refine wV rfl 73 0 (.const (.int .u64 1)) rfl _ _ Hb rfl ?_)
  | ((with_reducible refine dI 76 _ ?_);refine DZ rfl 76 0 1 2 (.tmp 1) (.tmp 2) (.const (.int .u64 2)) rfl _ _ _ _ BM rfl rfl rfl ?_)
  | refine gS 76 3 (nY 1 (.slice none 0 0) (.map (some w.heap.size)) 2 0) ?_)
 go_ret;exact⟨_,w.heap.size,rfl,ix _,aG _,⟨_,B2,⟨[],rfl,ak.nil _ _ _ _ _,λy hy=>by cases hy⟩,MA⟩,UU⟩
end
section
open Go.Maps
def lT(M:cS)(o:mP):cN × (Nat × cS):=if o.kind=0 then(c',nj M (cG M.next M.l o.name o.n)) else if o.kind=1 then(c',ly M o.name o.n o.data) else if o.kind=2 then(c',r4 M o.name o.n) else if o.kind=3 then((j5 M o.name o.n).1,((j5 M o.name o.n).2,M)) else if o.kind=4 then(c',DJ M (eX M.next M.l o.name M.st)) else if o.kind=5 then(c',nj M (l3 M.next M.l o.name o.to)) else if o.kind=6 then(c',aas M (Ir M.next M.l o.name)) else if o.kind=7 then(c',rQ M o.name) else if o.kind=8 then(c',nT M o.name) else if o.kind=9 then(c',(0,{M with st:=M.st+1})) else(c',(0,M))
structure RS(w:af)(vd:ah)(o:mP):Prop where
 nm:κ o.name<=9223372036854775807
 to:κ o.to<=9223372036854775807
 bs:a8 w vd o.data
structure Ym(M:cS)(o:mP):Prop where
 k0:zv M.next (cG M.next M.l o.name o.n)
 k4:zv M.next (eX M.next M.l o.name M.st)
 k5:zv M.next (l3 M.next M.l o.name o.to)
theorem A7(w:af)(mb kb n:Nat)(M:cS)(A:bh w mb kb n M)(hn:n<1000000)(I:G0 M)(o:mP)(aa:o.kind≠5/\o.kind≠6)(vd vk:ah)(hi:RS w vd o)(aX:o.data≠[]->∀k,vd.ownBlock=some k->k≠mb/\k≠kb)(N:Ym M o):Aae Aag 29 #[pz mb,.agg (gi o vd vk)] w (RJ mb kb n (lT M o).1 (lT M o).2 w):=by
 refine NZ ?_;intro hk;rcases hk with h|h|h|h|h|h|h|h|h|h|h
 ·rw[show lT M o=(c',nj M (cG M.next M.l o.name o.n))from iz];exact do0 w mb kb n M A hn I o vd vk h hi.nm N.k0
 ·rw[show lT M o=(c',ly M o.name o.n o.data)from iz];exact do1 w mb kb n M A hn I o vd vk h hi.nm hi.bs aX
 ·rw[show lT M o=(c',r4 M o.name o.n)from iz];exact do2 w mb kb n M A hn I o vd vk h hi.nm
 ·rw[show lT M o=((j5 M o.name o.n).1,((j5 M o.name o.n).2,M))from iz];exact do3 w mb kb n M A hn I o vd vk h hi.nm
 ·rw[show lT M o=(c',DJ M (eX M.next M.l o.name M.st))from iz];exact do4 w mb kb n M A hn I o vd vk h hi.nm N.k4
 ·exact absurd h aa.1
 ·exact absurd h aa.2
 ·rw[show lT M o=(c',rQ M o.name)from iz];exact do7 w mb kb n M A hn I o vd vk h hi.nm
 ·rw[show lT M o=(c',nT M o.name)from iz];exact do8 w mb kb n M A hn I o vd vk h hi.nm
 ·grind [lT,c',do9]
 ·rw[show lT M o=(c',(0,M))by unfold lT;rw[aM ae,aM ae,aM ae,aM ae,aM ae,aM ae,aM ae,aM ae,aM ae,aM ae]]
  grind [doN]
end
section
open Go.Maps
def dc(G:ch)(R:Int->ch->Prop)(s:cN)(r:Int)(G3:ch):Prop:=s=c'/\∃G2,R r G2/\((r=0/\G3=G2)\/(r≠0/\G3=JI G G2))
def LN(G:ch)(full:List aj)(N:Int)(s:cN)(r:Int)(G3:ch):Prop:=G3=G/\((∃n:Nat,e4 G.l full N=.error n/\r=(n:Int)/\s=c')\/(∃k,e4 G.l full N=.ok k/\vG G.P.C (recAt G.l k) N.toNat=some s/\r=0))
def LP(G:ch)(s:cN)(r:Int)(G3:ch):Prop:=s=c'/\r=0/\∃b,κ b=cA G.l/\Cm G b/\mN G b G3
def Wf(p:Nat)(H:aP)(R:cN->Int->ch->Prop)(w:af)(e:Ab1)(w':af):Prop:=∃(s:cN)(r:Int)(G3:ch)(gb':Nat)(H':aP)(vp:ah),e=.returned (.tuple #[.agg (aC s.val),.int .i64 r])/\R s r G3/\bT w' p gb' H' G3/\H'.h={H.h with vp:=vp}/\Touch (λk=>PF H k\/k=p) w w'/\rK H H' w.heap.size vp
theorem bT.sec{w w':af}{p gb q:Nat}(A:bT w p gb H G)(hq:aH w q 60 C)(hn:∀b,PF H b->b≠q)(g:w.grownBy w' (some q)):bT w' p gb H G:=by have T:=Touch.bg (F:=(·=q)) g (λk hk=>aa);exact⟨A.e5.az T (fj A.e5 hq ax),A.ga.sec hq T hn⟩
theorem PA.Xx{w0 w w':af}{H H':aP}{P:bu}{q:Nat}(A:PA w' H' P)(hq:aH w' q 60 C)(hH:H'.h={H.h with vp:=vp})(hF:∀b,cI H.h b->b≠q)(hv:∀b,vp.ownBlock=some b->b≠q):∀b,PF H' b->b≠q:=by
 rintro b(rfl|rfl|hb)
 ·exact fj A.e5 hq ax
 ·exact λe=>sa hq A.map ax e.symm
 ·grind [tM]
theorem pd0(w:af)(p gb:Nat)(H:aP)(G:ch)(A:bT w p gb H G)(I:bm G)(B:pf G)(o:mP)(vd vk:ah)(hk:o.kind=0)(hf:κ o.name<=9223372036854775807):Aae Aag 26 #[pz p,.agg (gi o vd vk)] w (Wf p H (dc G (jv G (cG G.next G.l o.name o.n) id true)) w):=by
 refine YC ?_;clear hk;intro w2 hw2 u1 u2 b1 b2 UU HW2 S2 LT IS c1 c3 c0;go_wp2_with(refine arm ?_);rw[<-HW2.out];refine(xt _ p _ H G (A.up UU) I B _ hf _).mono ?_;refine uJ ?_;intro w3 r G2 vp gb' H' hR hH hAt T3 al B3;have PP:=an (show ∃G3,dc G (jv G (cG G.next G.l o.name o.n) id true) c' r G3/\bT w3 p gb' H' G3 from by
  rcases hAt with⟨h0,ha⟩|⟨h0,ha⟩
  ·exact q8
  ·exact⟨_,⟨rfl,G2,hR,.inr ⟨h0,rfl⟩⟩,ha⟩)
 exact Uw
theorem pd2(w:af)(p gb:Nat)(H:aP)(G:ch)(A:bT w p gb H G)(I:bm G)(B:pf G)(o:mP)(vd vk:ah)(hk:o.kind=2)(hf:κ o.name<=9223372036854775807):Aae Aag 26 #[pz p,.agg (gi o vd vk)] w (Wf p H (dc G (j3 G o.name o.n false ep)) w):=by
 refine YC ?_;clear hk;intro w2 hw2 u1 u2 b1 b2 UU HW2 S2 LT IS c1 c3 c0;go_wp2_with(refine arm ?_);rw[<-HW2.out];refine(Qx _ p _ H G (A.up UU) I B _ hf _).mono ?_;refine uJ ?_;intro w3 r G2 vp gb' H' hR hH hAt T3 al B3;have PP:=an (show ∃G3,dc G (j3 G o.name o.n false ep) c' r G3/\bT w3 p gb' H' G3 from by
  rcases hAt with⟨h0,ha⟩|⟨h0,ha⟩
  ·exact q8
  ·exact⟨_,⟨rfl,G2,hR,.inr ⟨h0,rfl⟩⟩,ha⟩)
 exact Uw
theorem pd4(w:af)(p gb:Nat)(H:aP)(G:ch)(A:bT w p gb H G)(I:bm G)(B:pf G)(o:mP)(vd vk:ah)(hk:o.kind=4)(hf:κ o.name<=9223372036854775807):Calls prog 26 #[pz p,.agg (gi o vd vk)] w (Wf p H (dc G (jv G (eX G.next G.l o.name G.P.st) (λg:ch=>{g with P:={g.P with st:=g.P.st+1}}) true)) w):=by
 refine Un ?_;clear hk;intro w2 hw2 u1 u2 b1 b2 UU HW2 S2 LT IS c1 c0;go_wp2_with(refine arm ?_);rw[<-HW2.out];refine(Qw _ p _ H G (A.up UU) I B _ hf).mono ?_;refine uJ ?_;intro w3 r G2 vp gb' H' hR hH hAt T3 al B3;have PP:=an (show ∃G3,dc G (jv G (eX G.next G.l o.name G.P.st) (λg:ch=>{g with P:={g.P with st:=g.P.st+1}}) true) c' r G3/\bT w3 p gb' H' G3 from by
  rcases hAt with⟨h0,ha⟩|⟨h0,ha⟩
  ·exact q8
  ·exact⟨_,⟨rfl,G2,hR,.inr ⟨h0,rfl⟩⟩,ha⟩)
 exact Km
theorem pd7(w:af)(p gb:Nat)(H:aP)(G:ch)(A:bT w p gb H G)(I:bm G)(B:pf G)(o:mP)(vd vk:ah)(hk:o.kind=7)(hf:κ o.name<=9223372036854775807):Aae Aag 26 #[pz p,.agg (gi o vd vk)] w (Wf p H (dc G (nB G (gw G.next G.l o.name))) w):=by
 refine Un ?_;clear hk;intro w2 hw2 u1 u2 b1 b2 UU HW2 S2 LT IS c1 c0;go_wp2_with(refine arm ?_);rw[<-HW2.out];refine(Qp _ p _ H G (A.up UU) I B _ hf).mono ?_;refine uJ ?_;intro w3 r G2 vp gb' H' hR hH hAt T3 al B3;have PP:=an (show ∃G3,dc G (nB G (gw G.next G.l o.name)) c' r G3/\bT w3 p gb' H' G3 from by
  rcases hAt with⟨h0,ha⟩|⟨h0,ha⟩
  ·exact q8
  ·exact⟨_,⟨rfl,G2,hR,.inr ⟨h0,rfl⟩⟩,ha⟩)
 exact Km
theorem pd8(w:af)(p gb:Nat)(H:aP)(G:ch)(A:bT w p gb H G)(I:bm G)(B:pf G)(o:mP)(vd vk:ah)(hk:o.kind=8)(hf:κ o.name<=9223372036854775807):Aae Aag 26 #[pz p,.agg (gi o vd vk)] w (Wf p H (dc G (dY G o.name)) w):=by
 refine Un ?_;clear hk;intro w2 hw2 u1 u2 b1 b2 UU HW2 S2 LT IS c1 c0;go_wp2_with(refine arm ?_);rw[<-HW2.out];refine(Gi _ p _ H G (A.up UU) I B _ hf).mono ?_;refine uJ ?_;intro w3 r G2 vp gb' H' hR hH hAt T3 al B3;have PP:=an (show ∃G3,dc G (dY G o.name) c' r G3/\bT w3 p gb' H' G3 from by
  rcases hAt with⟨h0,ha⟩|⟨h0,ha⟩
  ·exact q8
  ·exact⟨_,⟨rfl,G2,hR,.inr ⟨h0,rfl⟩⟩,ha⟩)
 exact Km
end
section
open Go.Maps
theorem pd9(w:af)(p gb:Nat)(H:aP)(G:ch)(A:bT w p gb H G)(I:bm G)(B:pf G)(o:mP)(vd vk:ah)(hk:o.kind=9):Aae Aag 26 #[pz p,.agg (gi o vd vk)] w (Wf p H (LP G) w):=by refine F6 ?_;intro w2 hw2 u1 u2 b1 b2 UU HW2;refine NK ?_;intro S2 LT;refine y4 ?_;intro IS c0;rw[hk]at c0;clear hk;go_in;go_wp2_with(refine arm ?_);rw[<-HW2.out];refine(wG _ p _ H G (A.up UU) I B).mono ?_;rintro e w3⟨b,G3,gb',H',vp,rfl,hb1,hb2,ar,hH,aa,T3,al⟩;obtain⟨B3,HH⟩:=aw (b2.az T3 Kb) hH;clear hH c0;go_wp2_with(first|refine arm ?_|refine pj ?_);intro wz hbz ag;have TZ:=an (((Touch.bW (F:=λk=>PF H k\/k=p) UU).and T3 (λb hb=>.inl (hb.imp (λh=>.inr (.inr h)) id))).and (Touch.bg (F:=(·=w.heap.size+1)) ag (λk hk=>aQ)) (λb hb=>.inr ae));go_wp2;exact bS (hi:=IS) (.tuple #[.agg (aC aK),i6 0]) hbz (by obtain⟨h1,h2⟩:=(Adb (show LP G c' 0 G3 from⟨rfl,rfl,b,hb1,hb2,ar⟩) aa);exact⟨c',0,G3,gb',H',vp,rfl,h1,h2.sec B3 (PA.Xx (w0:=w) (w:=w) h2.ga.pa B3 HH (λb hb e=>by have:=LT.1 b hb;omega) (λb hb e=>by rcases al.1 b hb with h|h;have:=LT.1 b (.inr (.inr (.inr h)));omega;have:=S2.out;omega)) ag,HH,TZ,al.mono UU.size⟩)
theorem pdN(w:af)(p gb:Nat)(H:aP)(G:ch)(A:bT w p gb H G)(I:bm G)(B:pf G)(o:mP)(vd vk:ah)(hk:o.kind<0\/9<o.kind):Aae Aag 26 #[pz p,.agg (gi o vd vk)] w (Wf p H (λs r G3=>s=c'/\r=0/\G3=G) w):=by
 refine F6 ?_;intro w2 hw2 u1 u2 b1 b2 UU HW2;have HA:=an (A.up UU);refine y4 ?_;intro IS c0;obtain⟨kd,aa⟩:=bK (o.kind);rw[<-aa]at c0 hk;refine TX ?_;intro e0 e1 e2 e3 e4 e5 e6 e7 e8 e9 B3;clear aa hw2;go_in;go_wp2_with(first
  | refine gS 33 1 (gi o vd vk) ?_
  | refine bD 60 hI ?_
  | ((with_reducible refine dI _ _ ?_);refine kS ?_))
 rw[<-HW2.out];clear c0;refine an ?_;go_wp2_with(first
  | refine l1 60 hZ ?_
  | refine cZ 60 4 91 (aC aK) B3 (hi:=IS) ?_)
 intro wz hbz ag;go_wp2;exact bS (hi:=IS) (.tuple #[.agg (aC aK),i6 0]) hbz ⟨c',0,G,gb,H,H.h.vp,rfl,⟨rfl,rfl,rfl⟩,HA.sec B3 (λb hb e=>by have:=HA.ga.pa.lt b hb;have h9:=(λk (hk:PF H k)=>A.ga.pa.lt k hk) b hb;omega) ag,rfl,((Touch.bW (F:=λk=>PF H k\/k=p) UU).and (Touch.bg (F:=(·=w.heap.size+1)) ag (λk hk=>aQ)) (λb hb=>.inr ae)),rK.refl _ _⟩
theorem pd3(w:af)(p gb:Nat)(H:aP)(G:ch)(A:bT w p gb H G)(I:bm G)(B:pf G)(o:mP)(vd vk:ah)(hk:o.kind=3)(hf:κ o.name<=9223372036854775807):Aae Aag 26 #[pz p,.agg (gi o vd vk)] w (Wf p H (LN G o.name o.n) w):=by
 refine F6 ?_;intro w2 hw2 u1 u2 b1 b2 UU HW2;have al:=an (λk (hk:PF H k)=>A.ga.pa.lt k hk);refine Nn ?_;intro c0 c1 c3;rw[hw2]at c0;rw[hw2]at c1;rw[hw2]at c3;rw[hk]at c0;clear hk;go_in;go_wp2_with(refine arm ?_);rw[<-HW2.out];refine(wF _ p _ H G (A.up UU) I _ hf _).mono ?_;intro e w3 hR;have ab:∃(s:cN)(r:Int),e=rt #[.agg (aC s.val),i6 r]/\LN G o.name o.n s r G/\bT w3 p gb H G/\Touch (PF H) w2 w3:=by
  obtain⟨h,hp,ht⟩:=hR;rcases h with⟨n,h1,h2⟩|⟨k,s,h1,h2,h3⟩
  ·exact⟨c',_,h2,⟨rfl,.inl ⟨n,h1,rfl,rfl⟩⟩,hp,ht⟩
  ·exact⟨s,_,h3,⟨rfl,.inr ⟨k,h1,h2,rfl⟩⟩,hp,ht⟩
 obtain⟨s,r,rfl,hq,aa,T3⟩:=ab;obtain⟨B3,PP,IR⟩:=aW (b2.az T3 (λh=>by have:=al _ h;omega)) (Adb hq aa) (show(prog.info? 60).map (·.size)=some (aC s.val).size from by rw[dx,bX,s.2]);clear c0 c1 c3;go_wp2_with(first
  | refine cZ 60 4 47 (aC s.val) B3 (hi:=IR) (hold:=(by rw[bX,bX,s.2];rfl)) ?_)
 intro wz hbz ag;go_wp2;exact bS (hi:=IR) (.tuple #[.agg (aC s.val),i6 r]) hbz ⟨s,r,G,gb,H,H.h.vp,rfl,PP.1,PP.2.sec B3 (λb hb e=>by have h9:=al b hb;omega) ag,rfl,(((Touch.bW (F:=λk=>PF H k\/k=p) UU).and T3 (λb hb=>.inl (.inl hb))).and (Touch.bg (F:=(·=w.heap.size+1)) ag (λk hk=>aQ)) (λb hb=>.inr ae)),rK.refl _ _⟩
end
section
open Go.Maps
section
variable {P:bx} {ops:Array Abn} {S:af->Prop} {o:Abn} {a:Act}
theorem Rt(hw:Aaa o (Aa1 ops a.tmps)=true)(t:Aab)(ho:o.op=.build t #[])(C:Array ah)(hb:P.built t []=some C):Ace P ops S o (.agg C) a:=.inl ⟨hw,λw _=>by
  unfold Abs;simp only[ho,List.map_toArray,Acf,List.map_nil,Aaw,run_build w t _ C hb,Aau,Acq]⟩
end
theorem pd1(w:af)(p gb:Nat)(H:aP)(G:ch)(A:bT w p gb H G)(I:bm G)(B:pf G)(o:mP)(vd vk:ah)(hk:o.kind=1)(hf:κ o.name<=9223372036854775807)(hb:a8 w vd o.data)(hd:κ o.data<=140737488351232):Aae Aag 26 #[pz p,.agg (gi o vd vk)] w (Wf p H (dc G (j3 G o.name o.n (decide (128<κ o.data)) (jM o.data))) w):=by
 obtain⟨w2,hw2⟩:=bK ((w.alloc (.cells (gi o vd vk) 33)).alloc (.cells (aC aK) 60));obtain⟨u1,u2⟩:=aA (ai w (.cells (gi o vd vk) 33)) (ai (w.alloc (.cells (gi o vd vk) 33)) (.cells (aC aK) 60));obtain⟨b1,b2⟩:=aA ((aH.new w 33 (gi o vd vk)).up u2) (aH.new (w.alloc (.cells (gi o vd vk) 33)) 60 (aC aK));rw[aL]at b2;have UU:=an (u1.trans u2);rw[<-hw2]at b1 b2 UU;obtain⟨B1,B2,HW2⟩:=aW b1 b2 hw2;refine NK ?_;intro S2 LT;have IS:=an (show(prog.info? 60).map (·.size)=some (aC aK).size from dx);have c0:w2.cell? (ad w.heap.size 0)=some (i6 o.kind):=B1.cell 0;rw[hw2]at c0;obtain⟨ba,bc,rfl⟩:=hb.slice;obtain⟨HB,HD⟩:=aw (aD.up (aD.up hb UU) (Up.drew (Up.refl w2))) hd;rw[hk]at c0;have CA:=an (λ(W:af) (u:Up w2.drew W) (va:Option Addr) (n c:Nat) (h1:a8 W (.slice va n c) o.data) (h2:n=κ o.data) (h3:∀k,(Acl va n c).ownBlock=some k->w2.drew.heap.size<=k/\k<W.heap.size)=>show Aae Aag 18 #[pz p,.string (strOf o.name),i6 o.n,.slice va n c] W (po p gb H G (j3 G o.name o.n (decide (128<κ o.data)) (jM o.data)) W)from by subst h2;exact xw W p gb H G (((A.up UU).up (Up.drew (Up.refl w2))).up u) I B o.name hf o.n va c o.data h1 (λk hk=>⟨λhF=>by have h5:=h3 k hk;have h6:=LT.1 k hF;have h7:=S2.out;have h8:=(Up.drew (Up.refl w2)).size;omega,(h3 k hk).2⟩))
 clear hk hf hd;go_in;go_wp2_with(refine arm ?_);rw[<-HW2.out];refine e3 (S:=λW=>aH W w.heap.size 33 (gi o (.slice ba (κ o.data) bc) vk)) av ?_;change Acp _ _ _ _ _ 13 #[false,false,false,false,false,false,false,false,false,false,false,false,false] _ (w2.drew);have UD:=an (Up.drew (Up.refl w2));obtain⟨ab,S4⟩:=aw (B1.up UD) (show w.heap.size+2<=w2.drew.heap.size from by have h7:=S2.out;have h8:=UD.size;omega);clear c0 hw2 HW2 S2;generalize w2.drew=w4 at *;have us:=ab.out;refine tb 0 rfl (Rt av 60 rfl _ hZ) ?_;refine ta 1 ?_;refine ta 2 ?_;refine tb 3 rfl (yc (λ_ h=>h.cell 1)) ?_;refine ta 4 ?_;refine tb 5 rfl (yc (λ_ h=>h.cell 3)) ?_;refine ta 7 ?_;refine tb 8 rfl (yc (λ_ h=>h.cell 4)) ?_;refine ok 6 ?_;intro K hK;go_simp;have u5:=ai w4 (.cells #[] 5);obtain⟨O5,aR,m1,m2,m3⟩:=eI (Own.made aF 5 w4 w4.heap.size (aG _)) (aD.up HB u5) (show(κ ([]:List aj)+κ o.data)*1<=140737488355328 by have:=HD.out;simp;omega) (show([]:List aj).length+κ o.data<=9223372036854775807 by have:=HD.out;simp;omega) u5.size;refine hK _ _ (ab.up u5) ?_;clear hK K;refine ok 9 ?_;intro K hK;refine jY _ cp _ _ 30 rfl _ 5 _ 1 Aa0 eu rfl _ _ rfl O5 _ _ rfl aR m1 m2 m3 ?_;intro v6 w6 aa _ aU;obtain⟨u6,aV⟩:=aA (u5.aE aU (aG _)) aa.cC;obtain⟨va,vc,rfl⟩:=aV.slice;refine hK _ _ (ab.up u6) ?_;clear hK K;refine ok 10 ?_;intro K hK;go_simp;refine(CA w6 u6 va _ vc aV rfl (λk hk=>aa.aN k hk)).mono ?_;rintro e w7⟨r,G2,vp,gb',H',rfl,hR,hH,hAt,T7,al⟩;obtain⟨B3,C3⟩:=aw (((B2.up UD).up u6).az T7 Kb) ((ab.up u6).az T7 Kb);have PP:=an (show ∃G3,dc G (j3 G o.name o.n (decide (128<κ o.data)) (jM o.data)) c' r G3/\bT w7 p gb' H' G3 from by
  rcases hAt with⟨h0,ha⟩|⟨h0,ha⟩
  ·exact q8
  ·exact⟨_,⟨rfl,G2,hR,.inr ⟨h0,rfl⟩⟩,ha⟩)
 obtain⟨HH,S6⟩:=aw hH (show w.heap.size+2<=w6.heap.size from by have:=S4.out;have:=u6.size;omega);refine hK _ _ C3 ?_;clear hK K hH hAt;refine ok 11 ?_;intro K hK;refine lS _ (.tmp 4) (.tmp 19) rfl _ _ rfl rfl _ _ B3 IS rfl (dj _) ?_;intro wz hbz ag;have CZ:=an (C3.grown ag aq);refine hK _ _ CZ ?_;clear hK K;refine ta 12 ?_;refine dn ?_;go_wp2;exact bS (hi:=IS) (.tuple #[.agg (aC aK),i6 r]) hbz (by obtain⟨G3,h1,h2⟩:=PP.out;exact⟨c',r,G3,gb',H',vp,rfl,h1,h2.sec B3 (PA.Xx (w0:=w) (w:=w) h2.ga.pa B3 HH (λb hb e=>by have:=LT.1 b hb;omega) (λb hb e=>by rcases al.1 b hb with h|h;have:=LT.1 b (.inr (.inr (.inr h)));omega;have:=S6.out;omega)) ag,HH,(((Touch.bW (F:=λk=>PF H k\/k=p) ((UU.trans UD).trans u6)).and T7 (λb hb=>.inl (hb.imp (λh=>.inr (.inr h)) id))).and (Touch.bg (F:=(·=w.heap.size+1)) ag (λk hk=>oI)) (λb hb=>.inr ae)),al.mono (by have:=S6.out;omega)⟩)
end
section
open Go.Maps
def x9(G:ch)(o:mP):cN->Int->ch->Prop:=if o.kind=0 then dc G (jv G (cG G.next G.l o.name o.n) id true) else if o.kind=1 then dc G (j3 G o.name o.n (decide (128<κ o.data)) (jM o.data)) else if o.kind=2 then dc G (j3 G o.name o.n false ep) else if o.kind=3 then LN G o.name o.n else if o.kind=4 then dc G (jv G (eX G.next G.l o.name G.P.st) (λg:ch=>{g with P:={g.P with st:=g.P.st+1}}) true) else if o.kind=5 then dc G (jv G (l3 G.next G.l o.name o.to) id true) else if o.kind=6 then dc G (jv G (Ir G.next G.l o.name) id false) else if o.kind=7 then dc G (nB G (gw G.next G.l o.name)) else if o.kind=8 then dc G (dY G o.name) else if o.kind=9 then LP G else λs r G3=>s=c'/\r=0/\G3=G
theorem XB(w:af)(p gb:Nat)(H:aP)(G:ch)(A:bT w p gb H G)(I:bm G)(B:pf G)(o:mP)(aa:o.kind≠5/\o.kind≠6)(vd vk:ah)(hi:RS w vd o)(hd:κ o.data<=140737488351232):Aae Aag 26 #[pz p,.agg (gi o vd vk)] w (Wf p H (x9 G o) w):=by
 refine NZ ?_;intro hk;rcases hk with h|h|h|h|h|h|h|h|h|h|h
 ·unfold x9;rw[h];exact pd0 w p gb H G A I B o vd vk h hi.nm
 ·unfold x9;rw[h];exact pd1 w p gb H G A I B o vd vk h hi.nm hi.bs hd
 ·unfold x9;rw[h];exact pd2 w p gb H G A I B o vd vk h hi.nm
 ·unfold x9;rw[h];exact pd3 w p gb H G A I B o vd vk h hi.nm
 ·unfold x9;rw[h];exact pd4 w p gb H G A I B o vd vk h hi.nm
 ·exact absurd h aa.1
 ·exact absurd h aa.2
 ·unfold x9;rw[h];exact pd7 w p gb H G A I B o vd vk h hi.nm
 ·unfold x9;rw[h];exact pd8 w p gb H G A I B o vd vk h hi.nm
 ·grind [x9,pd9]
 ·unfold x9;rw[aM ae,aM ae,aM ae,aM ae,aM ae,aM ae,aM ae,aM ae,aM ae,aM ae];grind [pdN]
end
section
open Go.Maps
def hh(o:mP):Bool:=decide (o.kind=0\/o.kind=1\/o.kind=2\/o.kind=4\/o.kind=5)
theorem Dk(w:af)(o:mP)(vd vk:ah):Aae Aag 27 #[.agg (gi o vd vk)] w λe w'=>e=.returned (.bool (hh o))/\Up w w':=by
 have U:=an (ai w (.cells (gi o vd vk) 33));have c0:(w.alloc (.cells (gi o vd vk) 33)).cell? ⟨w.heap.size,0,none⟩=some (.int .i64 o.kind):=(aH.new w 33 (gi o vd vk)).cell 0;have M:=an (show hh o=(decide (o.kind=0\/o.kind=1\/o.kind=2\/o.kind=4\/o.kind=5))from rfl);obtain⟨k,hk⟩:=bK (o.kind);rw[<-hk]at c0 M;clear hk;have key:(k=0)\/(k=1)\/(k=2)\/(k=4)\/(k=5)\/((k==0)=false/\(k==1)=false/\(k==2)=false/\(k==4)=false/\(k==5)=false):=by simp only[beq_eq_false_iff_ne];omega
 rcases key with rfl|rfl|rfl|rfl|rfl|⟨e0,e1,e2,e4,e5⟩
 ·exact uE
 ·exact uE
 ·exact uE
 ·exact uE
 ·exact uE
 ·have MF:=an (show hh o=false from by rw[M.out];simp only[beq_eq_false_iff_ne]at e0 e1 e2 e4 e5;simp[e0,e1,e2,e4,e5])
  go_in;go_wp2_with(first
   | refine gS 33 0 (gi o vd vk) ?_)
  go_ret;exact⟨by rw[MF.out];rfl,U⟩
end
structure o8(G:ch)(M:cS):Prop where
 nx:M.next=G.next
 l:M.l=j1 G.l
 n1:1<=G.next
 z0:M.B 0=rN
 len:∀i,κ (M.B i)=64
 rd:∀x∈G.l,∀j,j<64->vG G.P.C x j=some (rM (M.B x.id) j).1
theorem Vj(C:List cN)(h:x.root=hole)(j:Nat):vG C x j=some ep:=by grind [vG,kV,je]
theorem Y3(j:Nat):(rM rN j).1=ep:=by unfold rM rN;rw[sB,List.getElem?_replicate];split<;>rfl
theorem R9{l:List lf}(h:i<κ l)(x:lf)(j:Nat):rM (l.set i x) j=if j=i then x else rM l j:=by grind [rM]
section
variable {G G2:ch} {M:cS}
theorem o8.grow(S:o8 G M){next':Nat}{l':List al}{x:al}(hn:next'=G.next+1)(e1:G2.next=next')(e2:G2.l=l')(e3:G2.P.C=G.P.C)(S':ph l')(hx:x∈l')(xi:x.id=G.next)(B':Nat->List lf)(hB:B'=mL M.B (b9 x).id (M.B (Ai (b9 x))))(M':cS)(m1:M'.next=next')(m2:M'.l=j1 l')(m3:M'.B=B')(src:(Ai x=0/\x.root=hole)\/∃u∈G.l,u.id=Ai x/\u.root=x.root)(rest:∀z∈l',z=x\/∃u∈G.l,u.id=z.id/\u.root=z.root):o8 G2 M':=by
 have hb:∀i,M'.B i=if i=x.id then M.B (Ai x)else M.B i:=λi=>by rw[m3,hB];rfl
 have n1:=S.n1;refine⟨ae,aa,ae,?_,λi=>?_,λz hz j hj=>?_⟩
 ·rw[hb,aM ae];exact S.z0
 ·rw[hb];split<;>exact S.len _
 ·rw[e2]at hz;rw[e3,hb];by_cases h:z=x
  ·subst h;rw[bo rfl];rcases src with⟨h1,h2⟩|⟨u,hu,h1,h2⟩
   ·rw[h1,S.z0,Y3];exact Vj _ h2 j
   ·rw[<-h1,<-S.rd u hu j hj];grind [vG]
  ·rw[aM (λe=>h (S'.inj hz hx e))];rcases rest z hz with h2|⟨u,hu,h1,h2⟩
   ·simp_all
   ·rw[<-h1,<-S.rd u hu j hj];grind [vG]
theorem N6(S:o8 G M){l':List al}(S':ph l'){x:al}(hx:x∈l')(xi:x.id=G.next):KB M (j1 l')=b9 x:=by obtain⟨i,hi,h1,h2⟩:=ca S' hx;unfold KB;rw[ee,S.nx,<-xi,h1];grind [a']
theorem o8.dev(S:o8 G M)(I:bm G)(hc:∀j,G.P.s j≠1->G2.P.C[j]?=G.P.C[j]?)(e1:G2.next=G.next)(e2:G2.l=G.l):o8 G2 M:=⟨by rw[e1];exact S.nx,by rw[e2];exact S.l,by rw[e1];exact S.n1,S.z0,S.len,λx hx j hj=>by rw[e2]at hx;rw[I.YK hc hx hj];exact S.rd x hx j hj⟩
theorem o8.GL(S:o8 G M)(I:bm G){k i:Nat}{s:cN}(T:kN G k i s G2)(hk:k<κ G.l)(hi:i<64)(v:Nat)(M':cS)(m1:M'.next=M.next)(m2:M'.l=M.l)(m3:M'.B=mL M.B (recAt G.l k).id ((M.B (recAt G.l k).id).set i (s,v))):o8 G2 M':=by
 have hb:∀a,M'.B a=if a=(recAt G.l k).id then(M.B (recAt G.l k).id).set i (s,v)else M.B a:=λa=>by rw[m3];rfl
 have i0:=I.hE.L9 _ (aJ hk);refine⟨by rw[m1,T.next];exact S.nx,by rw[m2,S.l];exact T.strip.symm,by rw[T.next];exact S.n1,?_,λa=>?_,λx hx j hj=>?_⟩
 ·rw[hb,aM ae];exact S.z0
 ·rw[hb];split
  ·rw[Aaz];exact S.len _
  ·exact S.len _
 ·rw[T.rd x hx j hj,hb];have hu:∃u∈G.l,u.id=x.id:=by
   have:b9 x∈G.l.map b9:=by rw[<-T.strip];exact List.mem_map.mpr ⟨x,hx,rfl⟩
   obtain⟨u,hu,e⟩:=List.mem_map.mp this;exact⟨u,hu,by have:=cb al.id e;exact this⟩
  obtain⟨u,hu,eu⟩:=hu;have old:rdI G x.id j=some (rM (M.B x.id) j).1:=by rw[<-eu,zg I.hE.gk hu];exact S.rd u hu j hj
  by_cases h:x.id=(recAt G.l k).id
  ·rw[bo h,R9 (by rw[S.len];exact hi)];grind
  ·simp_all
theorem o8.sub(S:o8 G M){l':List al}{B':Nat->List lf}(e1:G2.next=G.next)(e2:G2.l=l')(M':cS)(m1:M'.next=M.next)(m2:M'.l=j1 l')(b0:M'.B 0=rN)(bl:∀i,κ (M'.B i)=64)(rd:∀x∈l',∀j,j<64->vG G2.P.C x j=some (rM (M'.B x.id) j).1):o8 G2 M':=⟨by rw[m1,e1];exact S.nx,aa,by rw[e1];exact S.n1,b0,bl,λx hx=>rd x aa⟩
end
theorem Vv{next st n:Nat}{full:List aj}(h:eX next l full st=.error n):n≠71:=qa
theorem JC{next n:Nat}{full:List aj}(h:cG next l full N=.error n):n≠71:=sN
theorem Ov{full:List aj}(h:iC l full N=.error n):n≠71:=by grind [iC,e4]
def Ag(M:cS)(o:mP)(s:cN)(r:Int):Prop:=(r=71/\hh o=true/\(lT M o).2.1=0)\/(¬(r=71/\hh o=true)/\r=((lT M o).2.1:Int)/\s=(lT M o).1)
structure Step(G:ch)(M:cS)(o:mP)(s:cN)(r:Int)(M':cS)(G3:ch):Prop where
 ag:Ag M o s r
 pick:(r=71/\hh o=true/\M'=M)\/(¬(r=71/\hh o=true)/\M'=(lT M o).2.2)
 inv:bm G3
 sim:o8 G3 M'
 st:M.st=G.P.st->M'.st=G3.P.st
 b1:G3.next<=G.next+1
 b2:G3.P.st<=G.P.st+1
 b3:G3.P.m<=G.P.m+3
 b4:G3.u.dq<=G.u.dq+1
 b5:κ G3.P.C=κ G.P.C
 c1:M'.st<=M.st+1
 c2:M'.made<=M.made+1
section
variable {G G3:ch} {M:cS} {o:mP} {s:cN} {r:Int}
theorem Step.same(I:bm G)(S:o8 G M){n:Nat}(hn:r=71->hh o=false)(hd:lT M o=(s,(n,M)))(hr:r=(n:Int)):Step G M o s r M G:=by
 have h:¬(r=71/\hh o=true):=λh=>by have:=hn h.1;rw[this]at h;cases h.2
 exact⟨.inr ⟨h,aa,aa⟩,.inr ⟨h,aa⟩,I,S,id,ae,ae,ae,ae,rfl,ae,ae⟩
theorem Step.full(I:bm G)(S:o8 G M){M2:cS}(hm:hh o=true)(hd:(lT M o).2.1=0)(hc:∀j,G.P.s j≠1->G3.P.C[j]?=G.P.C[j]?)(hl:κ G3.P.C=κ G.P.C)(aV:G3.P.m<=G.P.m+3)(e:G3=JI G G3):Step G M o s 71 M G3:=by
 have e2:G3.next=G.next:=sL
 refine⟨.inl ⟨rfl,hm,hd⟩,.inl ⟨rfl,hm,rfl⟩,?_,S.dev I hc e2 sL,λh=>by rw[h,e];rfl,ae,?_,aV,?_,hl,ae,ae⟩
 ·rw[e];exact I.dev _ _ hl hc
 ·rw[show G3.P.st=G.P.st from sL];omega
 ·rw[show G3.u=G.u from sL];omega
theorem Step.done{M':cS}(I:bm G3)(S:o8 G3 M')(hd:lT M o=(s,(0,M')))(aE:M.st=G.P.st->M'.st=G3.P.st)(b1:G3.next<=G.next+1)(b2:G3.P.st<=G.P.st+1)(b3:G3.P.m<=G.P.m+3)(b4:G3.u.dq<=G.u.dq+1)(b5:κ G3.P.C=κ G.P.C)(c1:M'.st<=M.st+1)(c2:M'.made<=M.made+1):Step G M o s 0 M' G3:=by
 have h:¬((0:Int)=71/\hh o=true):=λh=>by have:=h.1;omega
 exact⟨.inr ⟨h,aa,aa⟩,.inr ⟨h,aa⟩,I,S,aE,b1,b2,b3,b4,b5,c1,c2⟩
theorem Aa(G:ch):(eS G=true/\tL G=0)\/(eS G=false/\tL G=71):=by grind [tL,eS]
theorem aaV(I:bm G)(S:o8 G M)(hk:o.kind=0)(h:dc G (jv G (cG G.next G.l o.name o.n) id true) s r G3):∃M',Step G M o s r M' G3:=by
 have hd:lT M o=(c',nj M (cG M.next M.l o.name o.n)):=iz
 rw[S.nx,S.l,rS]at hd;obtain⟨rfl,G2,R,e⟩:=h;rcases R with⟨n,hX,rfl,hn,rfl⟩|⟨nx,l',hX,rfl,rfl⟩
 ·obtain rfl:G3=G2:=by rcases e with⟨_,e⟩|⟨_,e⟩<;>exact e
  exact⟨M,Step.same I S (λh=>by grind [JC]) (by rw[hd,hX];rfl) rfl⟩
 ·rw[hX]at hd;obtain⟨fD,hv,hb,hl,hr,rfl,rfl⟩:=oq hX;have SR:=o1 (x:=dw G.next fD o.n) I.hE.gk I.hE.PC;have hx:dw G.next fD o.n∈G.l++[dw G.next fD o.n]:=by simp
  have hd:lT M o=(c',(0,xf M (G.next+1) (j1 (G.l++[dw G.next fD o.n])) (KB M (j1 (G.l++[dw G.next fD o.n]))))):=hd;rw[N6 S SR hx rfl]at hd;rcases Aa (id {G with next:=G.next+1,l:=G.l++[dw G.next fD o.n]})with⟨hf,aa⟩|⟨hf,aa⟩
  ·simp only[if_true]at e ⊢;rw[aa]at e ⊢;obtain rfl:G3={G with next:=G.next+1,l:=G.l++[dw G.next fD o.n]}:=by simp_all
   refine⟨_,Step.done (I.create S.n1 hX hf) (S.grow (G2:={G with next:=G.next+1,l:=G.l++[dw G.next fD o.n]}) (next':=G.next+1) (l':=G.l++[dw G.next fD o.n]) (x:=dw G.next fD o.n) rfl rfl rfl rfl SR hx rfl _ rfl (xf M (G.next+1) (j1 (G.l++[dw G.next fD o.n])) (b9 (dw G.next fD o.n))) rfl rfl rfl (.inl ⟨rfl,rfl⟩) (λz hz=>?_)) hd (λh=>h) (aG _) aq aq aq rfl Fu Fk⟩;grind
  ·simp only[if_true]at e ⊢;rw[aa]at e ⊢;exact NL
theorem aaZ(I:bm G)(B:pf G)(S:o8 G M)(aE:M.st=G.P.st)(hk:o.kind=4)(h:dc G (jv G (eX G.next G.l o.name G.P.st) (λg:ch=>{g with P:={g.P with st:=g.P.st+1}}) true) s r G3):∃M',Step G M o s r M' G3:=by
 have hd:lT M o=(c',DJ M (eX M.next M.l o.name M.st)):=iz
 rw[S.nx,S.l,aE,xF]at hd;obtain⟨rfl,G2,R,e⟩:=h;rcases R with⟨n,hX,rfl,hn,rfl⟩|⟨nx,l',hX,rfl,rfl⟩
 ·obtain rfl:G3=G2:=by rcases e with⟨_,e⟩|⟨_,e⟩<;>exact e
  exact⟨M,Step.same I S (λh=>by grind [Vv]) (by rw[hd,hX];rfl) rfl⟩
 ·rw[hX]at hd;obtain⟨fD,sn,i,hs,hi,hl,hr,ab,rfl,rfl⟩:=qt hX;obtain⟨⟨aI,ad⟩,fr⟩:=I.hE.Ah hs hi hr;have aB:=aJ aI;obtain⟨SR,mm⟩:=ni I.hE.gk aI I.hE.PC (s:=iA G.next (recAt G.l i) sn G.P.st) (v':=lx G.next (recAt G.l i)) rfl rfl;have hx:=(mm (iA G.next (recAt G.l i) sn G.P.st)).mpr (.inr (.inl rfl));obtain⟨l',ao⟩:∃y,y=(G.l++[iA G.next (recAt G.l i) sn G.P.st]).set i (lx G.next (recAt G.l i)):=⟨_,rfl⟩;rw[<-ao]at hd SR mm hx hX e;have hd:lT M o=(c',(0,xf {M with st:=M.st+1} (G.next+1) (j1 l') (KB M (j1 l')))):=hd;rw[N6 S SR hx rfl]at hd;simp only[if_true]at e ⊢;rcases Aa {G with P:={G.P with st:=G.P.st+1},next:=G.next+1,l:=l'} with⟨hf,aa⟩|⟨hf,aa⟩
  ·rw[aa]at e;rw[<-ao,aa];obtain rfl:G3={G with P:={G.P with st:=G.P.st+1},next:=G.next+1,l:=l'}:=by simp_all
   refine⟨_,Step.done (I.aU sI hX hf) (S.grow (G2:={G with P:={G.P with st:=G.P.st+1},next:=G.next+1,l:=l'}) (next':=G.next+1) (l':=l') (x:=iA G.next (recAt G.l i) sn G.P.st) rfl rfl rfl rfl SR hx rfl _ rfl (xf {M with st:=M.st+1} (G.next+1) (j1 l') (b9 (iA G.next (recAt G.l i) sn G.P.st))) rfl rfl rfl (.inr ⟨_,aB,rfl,rfl⟩) (λz hz=>?_)) hd (λh=>by show M.st+1=G.P.st+1;omega) (aG _) (aG _) aq aq rfl (aG _) Fk⟩;rcases(mm z).mp hz with h|h|h
   ·exact .inr ⟨_,aB,nK,nK⟩
   ·simp_all
   ·grind
  ·rw[aa]at e;rw[<-ao,aa];exact NL
end
section
variable {G G3:ch} {M:cS} {o:mP} {s:cN} {r:Int}
theorem aaW(I:bm G)(S:o8 G M)(hk:o.kind=1)(h:dc G (j3 G o.name o.n (decide (128<κ o.data)) (jM o.data)) s r G3):∃M',Step G M o s r M' G3:=by
 have hm:hh o=true:=q0
 have hd:lT M o=(c',ly M o.name o.n o.data):=iz
 have hv:iC M.l o.name o.n=iC G.l o.name o.n:=by rw[S.l,B9]
 obtain⟨rfl,G2,R,e⟩:=h;rcases R with⟨n,hX,hn,rfl,rfl⟩|⟨k,hX,R⟩
 ·obtain rfl:G3=G2:=by rcases e with⟨_,e⟩|⟨_,e⟩<;>exact e
  exact⟨M,Step.same I S (λh=>by grind [Ov]) (by grind [I9]) rfl⟩
 ·obtain⟨a1,a2,a3,a4,a5⟩:=zm I.hE hX;have hb:=((bH _).mp (I.hE.rt _ (aJ a1))).2.2.2.1.2;rcases R with⟨h1,rfl,rfl⟩|⟨h1,rfl,R⟩|⟨h1,rfl,T,hf⟩
  ·obtain rfl:G3=G2:=by rcases e with⟨_,e⟩|⟨_,e⟩<;>exact e
   have h1:=iy h1;exact⟨M,Step.same I S (n:=92) (λh=>ae) (by grind [I']) rfl⟩
  ·have h1:=Fa h1;obtain rfl:G3=JI G G2:=by simp_all
   exact⟨M,Step.full (M2:=M) I S hm (by rw[hd,Cj yP ae]) R.2.1 R.1 R.2.2.1 rfl⟩
  ·have h1:=Fa h1;obtain rfl:G3=G2:=by simp_all
   have hp:jM o.data=eK o.data ae:=by grind [jM]
   rw[hp]at T;refine⟨Cz {M with made:=M.made+1} (recAt M.l k).id o.n.toNat (eK o.data ae,M.made+1),Step.done (T.inv hf) (S.GL I T a1 ae (M.made+1) _ rfl rfl ?_) (by grind [Cj]) (λh=>by rw[T.st];exact h) (by rw[T.next];omega) (by rw[T.st];omega) T.m (by rw[T.u];omega) T.len Fu (aG _)⟩;show(Cz _ _ _ _).B=_;unfold Cz;rw[S.l,a'];rfl
theorem aaX(I:bm G)(S:o8 G M)(hk:o.kind=2)(h:dc G (j3 G o.name o.n false ep) s r G3):∃M',Step G M o s r M' G3:=by
 have hm:hh o=true:=q0
 have hd:lT M o=(c',r4 M o.name o.n):=iz
 have hv:iC M.l o.name o.n=iC G.l o.name o.n:=by rw[S.l,B9]
 obtain⟨rfl,G2,R,e⟩:=h;rcases R with⟨n,hX,hn,rfl,rfl⟩|⟨k,hX,R⟩
 ·obtain rfl:G3=G2:=by rcases e with⟨_,e⟩|⟨_,e⟩<;>exact e
  exact⟨M,Step.same I S (λh=>by grind [Ov]) (by grind [On]) rfl⟩
 ·obtain⟨a1,a2,a3,a4,a5⟩:=zm I.hE hX;have hb:=((bH _).mp (I.hE.rt _ (aJ a1))).2.2.2.1.2;rcases R with⟨h1,rfl,rfl⟩|⟨h1,rfl,R⟩|⟨h1,rfl,T,hf⟩
  ·cases h1
  ·obtain rfl:G3=JI G G2:=by simp_all
   exact⟨M,Step.full (M2:=M) I S hm (by rw[hd,GK yP]) R.2.1 R.1 R.2.2.1 rfl⟩
  ·obtain rfl:G3=G2:=by simp_all
   refine⟨Cz M (recAt M.l k).id o.n.toNat G1,Step.done (T.inv hf) (S.GL I T a1 ae 0 _ rfl rfl ?_) (by grind [GK]) (λh=>by rw[T.st];exact h) (by rw[T.next];omega) (by rw[T.st];omega) T.m (by rw[T.u];omega) T.len Fu Fk⟩;show(Cz _ _ _ _).B=_;unfold Cz;rw[S.l,a'];rfl
theorem aaY(I:bm G)(S:o8 G M)(hk:o.kind=3)(h:LN G o.name o.n s r G3):∃M',Step G M o s r M' G3:=by
 have hm:hh o=false:=q0
 have hd:lT M o=((j5 M o.name o.n).1,((j5 M o.name o.n).2,M)):=iz
 have hv:e4 M.l o.name o.n=e4 G.l o.name o.n:=by rw[S.l,pI]
 obtain⟨rfl,⟨n,hX,rfl,rfl⟩|⟨k,hX,hr,rfl⟩⟩:=h
 ·exact⟨M,Step.same I S (λ_=>hm) (by rw[hd,Oi yP];rfl) rfl⟩
 ·obtain⟨a1,a2,a3⟩:=pH hX;have km:=aJ a1;have hb:=((bH _).mp (I.hE.rt _ km)).2.2.2.1.2;refine⟨M,Step.same (n:=0) I S (λ_=>hm) ?_ rfl⟩;rw[hd,Gl yP,S.l,a'];have:=S.rd _ km o.n.toNat ae;rw[hr]at this;cases this;rfl
def HD(I:bm G){x:al}(hx:x∈G.l)(p:au):p∈Ak G x↔gb G.P.C x.root p/\bZ G.l x.id<p.aT:=G6 (I.tr x hx) _ p
theorem aa0(I:bm G)(S:o8 G M)(hk:o.kind=7)(h:dc G (nB G (gw G.next G.l o.name)) s r G3):∃M',Step G M o s r M' G3:=by
 have hd:lT M o=(c',rQ M o.name):=iz
 have hv:gw M.next M.l o.name=VC (gw G.next G.l o.name):=by rw[S.nx,S.l,G9]
 obtain⟨rfl,G2,R,e⟩:=h;rcases R with⟨n,hX,rfl,hn,rfl⟩|⟨nx,l',x,hX,rfl,rfl⟩
 ·obtain rfl:G3=G2:=by rcases e with⟨_,e⟩|⟨_,e⟩<;>exact e
  exact⟨M,Step.same I S (λ_=>q0) (by rw[hd,LU (by rw[hv,hX];rfl)]) rfl⟩
 ·obtain⟨i,j,hi,hj,rfl,rfl,rfl⟩:=tt hX;obtain⟨il,is⟩:=I.hE.VW hi;obtain⟨jl,ej⟩:=dH hj;have im:=aJ il;obtain rfl:=(by
   rcases e with⟨_,e⟩|⟨e,_⟩
   ·exact e
   ·exact absurd rfl e:G3=_)
  refine⟨{M with next:=G.next,l:=j1 (G.l.set i (ir (recAt G.l i) (recAt G.l j))),B:=mL M.B (b9 (recAt G.l i)).id (M.B (b9 (recAt G.l i)).prev)},Step.done (I.back il is jl ej (HD I im)) ?_ (by rw[hd,LV (by rw[hv,hX];rfl)]) (λh=>h) aq aq aq aq rfl aq aq⟩;have i0:=I.hE.L9 _ im;have hb:∀a,mL M.B (b9 (recAt G.l i)).id (M.B (b9 (recAt G.l i)).prev) a=if a=(recAt G.l i).id then M.B (recAt G.l i).prev else M.B a:=λa=>rfl;refine S.sub (G2:={G with P:={G.P with s:=bJ G.P.s G.P.ba (Ak G (recAt G.l i))},next:=G.next,l:=G.l.set i (ir (recAt G.l i) (recAt G.l j))}) (l':=G.l.set i (ir (recAt G.l i) (recAt G.l j))) (B':=M.B) rfl rfl {M with next:=G.next,l:=j1 (G.l.set i (ir (recAt G.l i) (recAt G.l j))),B:=mL M.B (b9 (recAt G.l i)).id (M.B (b9 (recAt G.l i)).prev)} S.nx.symm rfl ?_ (λa=>?_) (λx hx k hk=>?_)
  ·show mL _ _ _ 0=_;rw[hb,aM ae];exact S.z0
  ·show(mL _ _ _ a).length=_;rw[hb];split<;>exact S.len _
  ·show vG G.P.C x k=some (rM (mL _ _ _ x.id) k).1;rw[hb];rcases(mem_set I.hE.gk il).mp hx with rfl|⟨h1,h2⟩
   ·rw[bo (show(ir (recAt G.l i) (recAt G.l j)).id=(recAt G.l i).id from rfl),<-ej,<-S.rd _ (aJ jl) k hk];rfl
   ·rw[aM (λe=>h2 (I.hE.gk.inj h1 im e))];exact S.rd x h1 k hk
theorem GS{l:List al}{full:List aj}{i:Nat}(h:ec l full=.ok i):a1 l full=some i:=uu
theorem o8.gone(S:o8 G M)(I:bm G){G3:ch}{l':List al}{i:Nat}(hi:i<κ G.l)(e1:G3.next=G.next)(e2:G3.l=l')(e3:G3.P.C=G.P.C)(h:∀z∈l',z.id≠(recAt G.l i).id/\∃u∈G.l,u.id=z.id/\u.root=z.root):o8 G3 (Pe M G.next (j1 l') (recAt G.l i).id):=by
 have i0:=I.hE.L9 _ (aJ hi);have hb:∀a,(Pe M G.next (j1 l') (recAt G.l i).id).B a=if a=(recAt G.l i).id then rN else M.B a:=λa=>rfl;refine S.sub (B':=M.B) e1 e2 _ S.nx.symm rfl ?_ (λa=>?_) (λx hx k hk=>?_)
 ·rw[hb,aM ae];exact S.z0
 ·rw[hb];split
  ·rfl
  ·exact S.len _
 ·obtain⟨h1,u,hu,h2,h3⟩:=h x hx;rw[e3,hb,aM h1,<-h2,<-S.rd u hu k hk];grind [vG]
theorem aa1(I:bm G)(S:o8 G M)(hk:o.kind=8)(h:dc G (dY G o.name) s r G3):∃M',Step G M o s r M' G3:=by
 have hm:hh o=false:=q0
 have hd:lT M o=(c',nT M o.name):=iz
 obtain⟨rfl,G2,R,e⟩:=h;have hold:∀i,dF G.l o.name=.ok i->(Bm M.l o.name).id=(recAt G.l i).id:=λi hi=>by unfold Bm;rw[S.l,oP,hi];simp only;rw[a'];rfl
 unfold dY at R;unfold nT at hd;cases hs:cO o.name with
 | none=>
  rw[hs]at R hd;obtain⟨rfl,rfl⟩:=R;obtain rfl:G3=G2:=by rcases e with⟨_,e⟩|⟨_,e⟩<;>exact e
  exact⟨M,Step.same I S (n:=141) (λ_=>hm) hd rfl⟩
 | some vs=>
  obtain⟨v,sn⟩:=vs;rw[hs]at R hd;simp only at R hd;by_cases h0:sn=[]
  ·rw[bo h0]at R;rw[show decide (sn=[])=true from gD h0]at hd;have hv:C1 M o.name true=VB ((dQ G.next G.l o.name).map (λr=>(r.1,r.2.1))):=by show(dQ M.next M.l o.name).map _=_;rw[S.nx,S.l,zW];cases dQ G.next G.l o.name<;>rfl
   rw[hv]at hd;rcases R with⟨n,hX,rfl,hn,rfl⟩|⟨nx,l',x,hX,rfl,rfl⟩
   ·obtain rfl:G3=G2:=by rcases e with⟨_,e⟩|⟨_,e⟩<;>exact e
    exact⟨M,Step.same I S (λ_=>hm) (by rw[hd,hX];rfl) rfl⟩
   ·rw[hX]at hd;obtain⟨i,hi,hw,rfl,rfl,rfl⟩:=w9 hX;obtain⟨il,is⟩:=I.hE.VW hi;have im:=aJ il;obtain rfl:=(by
     rcases e with⟨_,e⟩|⟨e,_⟩
     ·exact e
     ·exact absurd rfl e:G3=_)
    have I3:=I.tG il is hw (HD I im);have hd:lT M o=(c',(0,Pe M G.next (j1 (G.l.eraseIdx i)) (Bm M.l o.name).id)):=hd;rw[hold i (I.hE.named (GS hi))]at hd;refine N0 ?_;intro z hz;obtain⟨h1,h2⟩:=(mem_erase I.hE.gk il).mp hz;exact⟨λe=>h2 (I.hE.gk.inj h1 im e),z,h1,rfl,rfl⟩
  ·rw[aM h0]at R;rw[show decide (sn=[])=false from iY h0]at hd;have ds:=I.cr o.name;have n131:cr G.next G.l o.name≠.error 131:=λh=>by simp_all
   have hv:C1 M o.name false=VB ((cr G.next G.l o.name).map (λr=>(r.1,r.2.1))):=by show(cr M.next M.l o.name).map _=_;rw[S.nx,S.l,xV n131]
   rw[hv]at hd;rcases ds with⟨n,hX,h1,h2⟩|⟨i,j,all,il,is,hi,jl,e1,e2,e3,aL,hX⟩
   ·rcases R with⟨n',ad,rfl,hn,rfl⟩|⟨nx,l',x,ad,rfl,rfl⟩
    ·obtain rfl:G3=G2:=by rcases e with⟨_,e⟩|⟨_,e⟩<;>exact e
     exact⟨M,Step.same I S (λ_=>hm) (by rw[hd,ad];rfl) rfl⟩
    ·simp_all
   ·rcases R with⟨n',ad,rfl,hn,rfl⟩|⟨nx,l',x,ad,rfl,rfl⟩
    ·simp_all
    ·rw[hX]at hd ad;cases ad;obtain⟨im,jm⟩:=aA (aJ il) (aJ jl);obtain rfl:=(by
      rcases e with⟨_,e⟩|⟨e,_⟩
      ·exact e
      ·exact absurd rfl e:G3=_)
     obtain⟨ae,aa,_,I3⟩:=I.l4 il is jl e1 e2 e3;rw[aL]at aa;cases aa;have hd:lT M o=(c',(0,Pe M G.next (j1 ((G.l.set j (fm (recAt G.l j) all (recAt G.l i).prev)).eraseIdx i)) (Bm M.l o.name).id)):=hd;rw[hold i (I.hE.named hi)]at hd;have ak:(recAt G.l j).id≠(recAt G.l i).id:=λe=>by have e4:=I.hE.gk.inj jm im e;have:=(I.hE.e9 jm im e1.symm).2;grind
     refine N0 ?_;intro z hz;have S2:ph (G.l.set j (fm (recAt G.l j) all (recAt G.l i).prev)):=rF I.hE.gk rfl;obtain⟨h1,h2⟩:=(mem_erase S2 ab).mp hz;rw[rA jl,aM (λe=>ak (by rw[e]))]at h2;rcases(mem_set I.hE.gk jl).mp h1 with rfl|⟨h3,h4⟩
     ·exact⟨ak,_,jm,rfl,rfl⟩
     ·exact⟨λe=>h2 (I.hE.gk.inj h3 im e),z,h3,rfl,rfl⟩
theorem aa2(I:bm G)(B:pf G)(S:o8 G M)(hk:o.kind=9)(h:LP G s r G3):∃M',Step G M o s r M' G3:=by
 have hd:lT M o=(c',(0,{M with st:=M.st+1})):=iz
 obtain⟨rfl,rfl,b,hb,_,hc⟩:=h;obtain⟨ats,K⟩:=vO I hc;refine⟨_,Step.done (I.com K hb sI) ?_ hd (λh=>by rw[K.st];show M.st+1=_;omega) (by rw[K.nx];omega) (by rw[K.st];omega) (by rw[K.m];omega) (by rw[K.tx];omega) K.cl (aG _) aq⟩;exact S.sub (B':=M.B) K.nx K.l _ rfl S.l S.z0 S.len (λx hx j hj=>by rw[K.read I hx hj];exact S.rd x hx j hj)
theorem VE(aa:o.kind≠5/\o.kind≠6)(I:bm G)(B:pf G)(S:o8 G M)(aE:o.kind=4->M.st=G.P.st)(h:x9 G o s r G3):∃M',Step G M o s r M' G3:=by
 unfold x9 at h;split at h
 ·grind [aaV]
 split at h
 ·grind [aaW]
 split at h
 ·grind [aaX]
 split at h
 ·grind [aaY]
 split at h
 ·grind [aaZ]
 split at h
 ·omega
 split at h
 ·omega
 split at h
 ·grind [aa0]
 split at h
 ·grind [aa1]
 split at h
 ·grind [aa2]
 obtain⟨rfl,rfl,rfl⟩:=h;rename_i k0 k1 k2 k3 k4 k5 k6 k7 k8 k9;exact⟨M,Step.same (n:=0) I S (λ_=>q0) iz rfl⟩
theorem BI{next:Nat}{X:Except Nat (Nat × List al)}(K:vJ X)(h:∀nx l',X=.ok (nx,l')->ph l'/\∃x∈l',x.id=next):zv next (VB X):=by
 intro nx l' e;cases X with
 | error n=>cases e
 | ok p=>
  obtain⟨aa,l0⟩:=p;cases e;obtain⟨_,_,h3,_⟩:=K.ok aa l0 rfl;obtain⟨S',x,hx,xi⟩:=h aa l0 rfl;refine⟨λy hy=>?_,?_⟩
  ·obtain⟨u,hu,rfl⟩:=List.mem_map.mp hy;obtain⟨w1,w2,w3,w4,w5,w6,w7⟩:=h3 u hu;exact⟨rfl,w1,w2,w3,w4,w5,gA.1,λp hp=>q3⟩
  ·grind [ca,ee]
theorem H8(I:bm G)(B:pf G)(S:o8 G M)(o:mP):Ym M o:=by
 have F:=I.hE;refine⟨?_,?_,?_⟩
 ·rw[S.nx,S.l,rS];refine BI (I.Hm B _ _) (λnx l' h=>?_);obtain⟨fD,_,_,_,_,_,rfl⟩:=oq h;exact⟨o1 F.gk F.PC,dw G.next fD o.n,aq,rfl⟩
 ·rw[S.nx,S.l,xF];refine BI (I.Vu B _ _) (λnx l' h=>?_);obtain⟨fD,sn,i,_,hi,_,_,_,_,rfl⟩:=qt h;obtain⟨SR,mm⟩:=ni F.gk (jb hi) F.PC (s:=iA G.next (recAt G.l i) sn M.st) (v':=lx G.next (recAt G.l i)) rfl rfl;exact⟨SR,_,(mm _).mpr (.inr (.inl rfl)),rfl⟩
 ·rw[S.nx,S.l,Ec];refine BI (I.WD B _ _) (λnx l' h=>?_);obtain⟨vs,fD,i,_,_,hi,_,_,_,rfl⟩:=CW h;exact⟨o1 F.gk F.PC,Eb G.next fD (recAt G.l i),aq,rfl⟩
theorem Th(I:bm G)(B:pf G)(S:o8 G M)(h1:M.st<=100000000)(h2:M.made<=100000000):G0 M:=by
 have:=B.nx;refine⟨by rw[S.l,nA];exact I.hl,λx hx=>?_,λx hx=>?_,λx hx=>?_,by rw[S.nx];omega,h1,h2⟩;all_goals rw[S.l]at hx;obtain⟨u,hu,rfl⟩:=List.mem_map.mp hx
 ·rfl
 ·obtain⟨w1,w2,w3,w4,w5,w6,w7⟩:=I.wf u hu;exact⟨w1,w2,w3,w4,w5,gA.1,λp hp=>q3⟩
 ·exact((bH _).mp (I.hE.rt u hu)).2.2.2.1.2
end
section
open Go.Shelf
def Lg:Go.Shelf.Ren:=⟨λ|6=>170|15=>122|14=>232|28=>201|29=>202|20=>265|21=>266|22=>267|23=>268|24=>269|25=>270|26=>271|27=>272|46=>286|47=>251|48=>252|49=>287|50=>288|57=>294|n=>n,λ|22=>192|24=>122|25=>253|3=>3|39=>210|0=>0|53=>85|55=>70|4=>4|46=>280|45=>279|50=>267|5=>5|9=>9|66=>331|70=>334|76=>348|77=>349|n=>n,λ|n=>n⟩
theorem Vx:Go.Proofs.SlLaysF0.n6 Aag Lg:={mixed:=av,f6:=⟨Tryz.f170.name,ax,func170.trans (cb some ay)⟩,f14:=⟨Tryz.f232.name,ax,func232.trans (cb some ay)⟩,f15:=func122.trans (cb some ay),f20:=⟨Tryz.f265.name,ax,func265.trans (cb some ay)⟩,f21:=⟨Tryz.f266.name,ax,func266.trans (cb some ay)⟩,f22:=⟨Tryz.f267.name,ax,func267.trans (cb some ay)⟩,f23:=⟨Tryz.f268.name,ax,func268.trans (cb some ay)⟩,f24:=⟨Tryz.f269.name,ax,func269.trans (cb some ay)⟩,f25:=⟨Tryz.f270.name,ax,func270.trans (cb some ay)⟩,f26:=⟨Tryz.f271.name,ax,func271.trans (cb some ay)⟩,f27:=⟨Tryz.f272.name,ax,func272.trans (cb some ay)⟩,f28:=func201.trans (cb some ay),f29:=func202.trans (cb some ay),f46:=⟨Tryz.f286.name,ax,func286.trans (cb some ay)⟩,f47:=func251.trans (cb some ay),f48:=func252.trans (cb some ay),f49:=⟨Tryz.f287.name,ax,func287.trans (cb some ay)⟩,f50:=⟨Tryz.f288.name,ax,func288.trans (cb some ay)⟩,f57:=⟨Tryz.f294.name,ax,func294.trans (cb some ay)⟩,t0:=underlying0,a0:=Tryz.isAgg0,z0:=Tryz.sizeOf0,v0:=Tryz.zeroValue0,t3:=underlying3,a3:=Tryz.isAgg3,z3:=Tryz.sizeOf3,v3:=Tryz.zeroValue3,t4:=underlying4,a4:=Tryz.isAgg4,z4:=Tryz.sizeOf4,v4:=Tryz.zeroValue4,t5:=underlying5,a5:=Tryz.isAgg5,z5:=Tryz.sizeOf5,v5:=Tryz.zeroValue5,t9:=underlying9,a9:=Tryz.isAgg9,z9:=Tryz.sizeOf9,v9:=Tryz.zeroValue9,t22:=underlying192,a22:=Tryz.isAgg192,z22:=Tryz.sizeOf192,v22:=Tryz.zeroValue192,t25:=underlying253,a25:=Tryz.isAgg253,z25:=Tryz.sizeOf253,v25:=Tryz.zeroValue253,t39:=underlying210,a39:=Tryz.isAgg210,z39:=Tryz.sizeOf210,v39:=Tryz.zeroValue210,t45:=underlying279,a45:=Tryz.isAgg279,z45:=Tryz.sizeOf279,v45:=Tryz.zeroValue279,t46:=underlying280,a46:=Tryz.isAgg280,z46:=Tryz.sizeOf280,v46:=Tryz.zeroValue280,t50:=underlying267,a50:=Tryz.isAgg267,z50:=Tryz.sizeOf267,v50:=Tryz.zeroValue267,t53:=underlying85,a53:=Tryz.isAgg85,z53:=Tryz.sizeOf85,v53:=Tryz.zeroValue85,t55:=underlying70,a55:=Tryz.isAgg70,z55:=Tryz.sizeOf70,v55:=Tryz.zeroValue70,t66:=underlying331,a66:=Tryz.isAgg331,z66:=Tryz.sizeOf331,v66:=Tryz.zeroValue331,t70:=underlying334,a70:=Tryz.isAgg334,z70:=Tryz.sizeOf334,v70:=Tryz.zeroValue334,t76:=underlying348,a76:=Tryz.isAgg348,z76:=Tryz.sizeOf348,v76:=Tryz.zeroValue348,t77:=underlying349,a77:=Tryz.isAgg349,z77:=Tryz.sizeOf349,v77:=Tryz.zeroValue349}
def Gy:Go.Shelf.Ren:=⟨λ|189=>61|125=>122|257=>121|128=>201|129=>202|294=>192|295=>193|296=>194|297=>195|298=>196|299=>197|216=>198|300=>199|301=>200|328=>250|329=>251|330=>252|331=>253|332=>254|215=>255|343=>277|n=>n,λ|28=>41|3=>3|46=>210|0=>0|51=>85|53=>70|4=>4|183=>280|182=>279|131=>267|5=>5|9=>9|218=>331|222=>334|228=>348|229=>349|n=>n,λ|n=>n⟩
theorem IM:Go.Proofs.Lays.n189 Aag Gy:={mixed:=av,f125:=func122.trans (cb some ay),f128:=func201.trans (cb some ay),f129:=func202.trans (cb some ay),f189:=func61.trans (cb some ay),f215:=func255.trans (cb some ay),f216:=func198.trans (cb some ay),f257:=func121.trans (cb some ay),f294:=func192.trans (cb some ay),f295:=func193.trans (cb some ay),f296:=func194.trans (cb some ay),f297:=func195.trans (cb some ay),f298:=func196.trans (cb some ay),f299:=func197.trans (cb some ay),f300:=func199.trans (cb some ay),f301:=func200.trans (cb some ay),f328:=func250.trans (cb some ay),f329:=func251.trans (cb some ay),f330:=func252.trans (cb some ay),f331:=func253.trans (cb some ay),f332:=func254.trans (cb some ay),f343:=func277.trans (cb some ay),t0:=underlying0,a0:=Tryz.isAgg0,z0:=Tryz.sizeOf0,v0:=Tryz.zeroValue0,t3:=underlying3,a3:=Tryz.isAgg3,z3:=Tryz.sizeOf3,v3:=Tryz.zeroValue3,t4:=underlying4,a4:=Tryz.isAgg4,z4:=Tryz.sizeOf4,v4:=Tryz.zeroValue4,t5:=underlying5,a5:=Tryz.isAgg5,z5:=Tryz.sizeOf5,v5:=Tryz.zeroValue5,t9:=underlying9,a9:=Tryz.isAgg9,z9:=Tryz.sizeOf9,v9:=Tryz.zeroValue9,t28:=underlying41,a28:=Tryz.isAgg41,z28:=Tryz.sizeOf41,v28:=Tryz.zeroValue41,t46:=underlying210,a46:=Tryz.isAgg210,z46:=Tryz.sizeOf210,v46:=Tryz.zeroValue210,t51:=underlying85,a51:=Tryz.isAgg85,z51:=Tryz.sizeOf85,v51:=Tryz.zeroValue85,t53:=underlying70,a53:=Tryz.isAgg70,z53:=Tryz.sizeOf70,v53:=Tryz.zeroValue70,t131:=underlying267,a131:=Tryz.isAgg267,z131:=Tryz.sizeOf267,v131:=Tryz.zeroValue267,t182:=underlying279,a182:=Tryz.isAgg279,z182:=Tryz.sizeOf279,v182:=Tryz.zeroValue279,t183:=underlying280,a183:=Tryz.isAgg280,z183:=Tryz.sizeOf280,v183:=Tryz.zeroValue280,t218:=underlying331,a218:=Tryz.isAgg331,z218:=Tryz.sizeOf331,v218:=Tryz.zeroValue331,t222:=underlying334,a222:=Tryz.isAgg334,z222:=Tryz.sizeOf334,v222:=Tryz.zeroValue334,t228:=underlying348,a228:=Tryz.isAgg348,z228:=Tryz.sizeOf348,v228:=Tryz.zeroValue348,t229:=underlying349,a229:=Tryz.isAgg349,z229:=Tryz.sizeOf349,v229:=Tryz.zeroValue349}
end
instance:Inhabited hG:=⟨tp⟩
def Ay(u:hG):List hG->List hG
 | []=>[u]
 | x::l=>if u.dq<x.dq then u::x::l else x::Ay u l
def Om(l:List hG):List hG:=l.foldl (λout u=>Ay u out) []
theorem qU(u:hG):∀l,(Ay u l).Perm (u::l)
 | []=>Adm _
 | x::l=>by
  rw[Ay];split
  ·exact Adm _
  ·exact((qU u l).cons x).trans (List.Perm.swap _ _ _)
theorem C6:∀(l out:List hG),(l.foldl (λout u=>Ay u out) out).Perm (out++l)
 | [],out=>aq
 | u::l,out=>by rw[yr];refine(C6 l (Ay u out)).trans ?_;refine((qU u out).append_right l).trans ?_;rw[Aa2];exact List.perm_middle.symm
theorem s9(l:List hG):(Om l).Perm l:=by have:=C6 l [];assumption
def Yk(l:List hG):Prop:=l.Pairwise (λa b=>a.dq<b.dq)
theorem HJ(u:hG):∀l:List hG,Yk l->(∀x∈l,x.dq≠u.dq)->Yk (Ay u l)
 | [],_,_=>by unfold Yk Ay;simp
 | x::l,h,hn=>by
  unfold Yk at *;rw[Ay];have hx:=fV.1 h;split
  ·rename_i hlt;refine fV.2 ⟨λy hy=>?_,h⟩;rcases Aam.1 hy with rfl|hy
   ·exact hlt
   ·exact Nat.lt_trans hlt (hx.1 y hy)
  ·rename_i hlt;have hne:=hn x cV;refine fV.2 ⟨λy hy=>?_,HJ u l hx.2 (λz hz=>hn z (bt _ hz))⟩;rcases Aam.1 ((qU u l).mem_iff.1 hy)with rfl|hy
   ·omega
   ·exact hx.1 y hy
def OF(l:List hG):Prop:=l.Pairwise (λa b=>a.dq≠b.dq)
theorem Hy:∀(l out:List hG),Yk out->OF l->(∀x∈out,∀y∈l,x.dq≠y.dq)->Yk (l.foldl (λout u=>Ay u out) out)
 | [],out,h,_,_=>h
 | u::l,out,h,hd,hx=>by
  rw[yr];have ab:=fV.1 hd;refine Hy l (Ay u out) (HJ u out h (λx aa=>hx x aa u cV)) ab.2 (λx aa y hy=>?_);rcases Aam.1 ((qU u out).mem_iff.1 aa)with rfl|aa
  ·exact ab.1 y hy
  ·exact hx x aa y (bt _ hy)
theorem DM{l:List hG}(h:OF l):Yk (Om l):=Hy l [] Ab6 h (λx hx=>aa)
theorem L0:∀{l:List hG},OF l->∀a∈l,∀b∈l,a.dq=b.dq->a=b
 | [],_,a,ha,_,_,_=>by cases ha
 | x::l,h,a,ha,b,hb,e=>by
  have hx:=fV.1 h;rcases Aam.1 ha with h1|h1
  ·rcases Aam.1 hb with h2|h2
   ·rw[h1,h2]
   ·subst h1;exact absurd e (hx.1 b h2)
  ·rcases Aam.1 hb with h2|h2
   ·subst h2;exact absurd e.symm (hx.1 a h1)
   ·exact L0 hx.2 a h1 b h2 e
theorem Lf{l m:List hG}(h:OF l)(hp:m.Perm l)(hs:m.Pairwise (λa b=>¬b.dq<a.dq)):m=Om l:=by refine List.Perm.eq_of_pairwise (le:=λa b=>a.dq<=b.dq) (λa b ha hb h1 h2=>?_) (hs.imp (λh=>ae)) ((DM h).imp (λh=>oC h)) (hp.trans (s9 l).symm);grind [L0,s9]
theorem yj(u v:hG):ltOf Hk u v=decide (u.dq<v.dq):=by unfold ltOf Hk;simp;omega
theorem VJ:SWO (ltOf Hk) where
 irrefl x:=by rw[yj];simp
 trans x y z h1 h2:=by rw[yj]at *;simp at *;omega
 ntrans x y z h1 h2:=by rw[yj]at *;simp at *;omega
theorem Sp(e5 off size:Nat)(w:af):CmpLays Aag 171 #[] fK 7 Hk e5 off size w:=λm os dk _ x y=>by show Aae Aag 171 #[.agg (uC x),.agg (uC y)] _ _;exact(VR _ x y).mono λe w' h=>⟨h.1,0,#[.cells (uC x) 122]++#[.cells (uC y) 122],h.2.trans ay⟩
theorem aI.Zg{l:List hG}(hc:∀i(hi:i<κ l) j u,(fK l[i])[j]?=some u->w.cell? (ad g (0+(i*7+j)))=some u)(hf:∀i:Nat,w.frozen? ⟨g,i,none⟩=false):HoldsK fK 7 w g 0 l.toArray:=by
 intro j hj;rw[size_flatK]at hj;refine⟨?_,aa⟩;have hi:j/7<κ l:=aQ
 have hlen:κ (fK l[j/7])=7:=rfl;have ag:j%7<κ (fK l[j/7]):=ae
 have:=hc (j/7) hi (j%7) (fK l[j/7])[j%7] (jE ag);rw[get_flatK _ _ _ _ ae];grind
theorem aI.U2{d:Array hG}(h:HoldsK fK 7 w g 0 d)(h0:0<d.size)(hc:d.size<=cap)(hm:cap<=maxLen):aI fK w (cv g d.size cap) d.toList:=by
 refine .inr ⟨g,0,cap,aq,ae,ae,hm,λj u hj=>?_⟩;have hlt:j<d.size*7:=by have:=(lp.1 hj).1;rw[uw.flat]at this;omega
 have h7:j%7<7:=Nat.mod_lt _ ae;have hi:j/7<κ d.toList:=ab
 have Cr:=uw.at d.toList (j/7) hi (j%7) h7;rw[show j/7*7+j%7=j from ae,hj]at Cr;have aj:=(h.cell (i:=j/7) (c:=j%7) ae h7).1;grind
theorem Vy(w:af)(base:Nat)(v:ah)(l:List hG)(h:ak fK 7 122 w base v l)(hl:κ l<=1000):Aae Aag 170 #[v,.func (.func 171) #[] #[]] w λe w'=>e=rt #[]/\∃l',l'.Perm l/\l'.Pairwise (λa b=>¬b.dq<a.dq)/\aI fK w' v l'/\Touch (λb=>v.ownBlock=some b) w w':=by
 by_cases h0:l=[]
 ·subst h0;have hr:=ak.row h uw;obtain⟨a,cap,hv⟩:=hr.slice;rw[Aa5]at hv;subst hv;have ad:=AnyF.slices_SortFunc_none Vx a cap (.func (.func 171) #[] #[]) w;change Aae Aag 170 _ _ _ at ad;refine ad.mono λe w' hh=>?_;obtain⟨he,rfl⟩:=hh;exact⟨he,[],Adm _,Ab6,hr,Touch.refl _ _⟩
 ·have hr:=ak.row h uw;have ag:0<κ l:=List.length_pos_iff.2 h0;obtain⟨_,h2⟩:=id h;rcases h2 with⟨_,hz⟩|⟨g,cap,cur,rfl,aX,ai,hn,hm,aE,aM⟩
  ·omega
  obtain⟨b,off,hb,hlt,ar,hc⟩:=aI.get hr uw ag;simp only[Aai,Abd,and_true]at hb;obtain⟨rfl,rfl⟩:=hb;have hH:=aI.Zg hc (λi=>World.ownsRow.frozenAt h i);have ad:=AnyQ.slices_SortFunc Vx 7 (λw=>ay) (λw=>ay) fK uw.len uw.one Hk VJ 171 #[] g 0 cap l.toArray w (enters_of func171 ay rfl) (Sp g 0 l.toArray.size w) hH hlt ab;change Aae Aag 170 _ _ _ at ad;rw[show l.toArray.size=κ l from aq]at ad;refine ad.mono λe w' hh=>?_;obtain⟨he,d',n,os,hp,hs,hw⟩:=hh;have aL:d'.size=κ l:=by rw[hp.1];simp
  refine⟨he,d'.toList,?_,?_,?_,?_⟩
  ·have h3:=hp.2.2;rw[Mh ae,Mh aq]at h3;exact h3
  ·rw[List.pairwise_iff_getElem];intro i j hi hj aj;have h3:=hs i j (bE _) aj aa;grind [yj]
  ·have aF:HoldsK fK 7 (sortWorldK fK 7 w g 0 n d' os) g 0 d':=by unfold sortWorldK;refine holdsK_grow fK 7 _ os g 0 d' ?_ (holdsK_putRowK fK 7 (Ac6 w n) g 0 l.toArray d' (holdsK_ahead fK 7 w n g 0 _ hH) ae);unfold putRowK putRow mapBlock Ac6;simp;omega
   grind [aI.U2]
  ·rw[hw];unfold sortWorldK putRowK putRow mapBlock Ac6 grow;exact No
def bC.counts(v:bC):Nat->bC
 | 0=>v
 | k+1=>(v.counts k).bb
theorem Ee(v:bC):v.bb.aR=v.aR/\v.bb.ct=v.ct/\v.bb.bP=v.bP/\v.bb.dead=v.dead/\v.bb.left=v.left:=by simp[bC.bb]
theorem pA(v:bC):∀k,(v.counts k).aR=v.aR/\(v.counts k).ct=v.ct/\(v.counts k).bP=v.bP/\(v.counts k).dead=v.dead/\(v.counts k).left=v.left
 | 0=>⟨rfl,rfl,rfl,rfl,rfl⟩
 | k+1=>by obtain⟨h1,h2,h3,h4,h5⟩:=pA v k;obtain⟨g1,g2,g3,g4,g5⟩:=Ee (v.counts k);exact⟨g1.trans h1,g2.trans h2,g3.trans h3,g4.trans h4,g5.trans h5⟩
theorem w5(v:bC)(k:Nat)(i:Int):(v.counts k).jT i=v.jT i/\(v.counts k).mj i=v.mj i:=by simp[pA,bC.jT,bC.mj,bC.nowAt,bC.hasB]
def bC.r9(v:bC)(i:Nat):Option hG:=if v.jT (i:Int)=0 then(lb (v.mj (i:Int)).val).bind λu=>if u.dq%4=i then some u else none else none
def bC.k3(v:bC):Nat->List hG
 | 0=>[]
 | k+1=>v.k3 k++(v.r9 k).toList
def bC.Iz(v:bC):List hG:=Om (v.k3 4)
theorem LS{v:bC}(h:v.r9 i=some u):u.dq%4=i:=by grind [bC.r9,lb]
theorem Is{v:bC}:∀k,∀u∈v.k3 k,u.dq%4<k
 | 0,u,h=>fI
 | k+1,u,h=>by
  rw[bC.k3]at h;rcases eT.1 h with h|h
  ·exact Nat.lt_succ_of_lt (Is k u h)
  ·have:=LS (Option.mem_toList.1 h);omega
theorem wH(v:bC):∀k,OF (v.k3 k)
 | 0=>Ab6
 | k+1=>by
  unfold OF;rw[bC.k3,AS];refine⟨wH v k,?_,λa ha b hb=>?_⟩
  ·cases v.r9 k with
   | none=>exact Ab6
   | some x=>exact EM _ _
  ·obtain⟨h1,h2⟩:=aA (Is k a ha) (LS (Option.mem_toList.1 hb));intro e;rw[e]at h1;omega
theorem qi(v:bC):∀k,κ (v.k3 k)<=k
 | 0=>aG _
 | k+1=>by
  have:=qi v k;rw[bC.k3,Aaf];have h2:κ (v.r9 k).toList<=1:=by cases v.r9 k<;>simp
  omega
theorem Iu(v:bC)(i:Int):v.jT i=0\/v.jT i=42\/v.jT i=41:=by grind [bC.jT]
theorem S6:(prog.info? 122).map (λi=>(i.zero,i.size,i.bytes))=some (some (.agg (uC tp)),7,56):=av
def RP(v:bC)(h:iE)(w:af)(e:Ab1)(w':af):Prop:=∃a n c,e=.returned (.slice a n c)/\aI fK w' (.slice a n c) v.Iz/\(∀b,Aan (.slice a n c)=some b->w.heap.size<=b)/\Dv w' h (v.counts 4)/\Touch (cI h) w w'
theorem Td(w:af)(h:iE)(v:bC)(D:Dv w h v):Aae Aag 110 #[pz h.d] w λe w'=>RP v h w e w':=by
 obtain⟨DH,al⟩:=aw D D.oy;go_in;go_wp2;go_loopw [3,9] (λlv i wr=>∃k:Nat,k<=4/\i=i6 k/\ak fK 7 122 wr w.heap.size lv (v.k3 k)/\Dv wr h (v.counts k)/\Touch (cI h) w wr) (λ_ i _=>4-(Aat i).toNat)
 case atStart=>exact⟨0,bE _,rfl,(ak.nil _ 7 _ w _),DH,Touch.refl _ _⟩
 case round=>
  obtain⟨k,hk,rfl,ow,dv,tc⟩:=hrel;obtain⟨OW,DK,TC⟩:=aW ow dv tc;by_cases hlt:k<4
  ·have b2:((k:Int)<4)=True:=by simp;omega
   have RD:=C0 _ h _ DK (k:Int) ae;rw[(w5 v k _).1,(w5 v k _).2]at RD;obtain⟨aP,RS,AT,RL⟩:=bR RD (show v.k3 (k+1)=v.k3 k++(v.r9 k).toList from rfl) (show v.r9 k=if v.jT (k:Int)=0 then(lb (v.mj (k:Int)).val).bind λu=>if u.dq%4=k then some u else none else none from rfl) (qi v k);have EC:=Iu v (k:Int);generalize v.mj (k:Int)=sv at *;generalize v.jT (k:Int)=se at *;go_wp2_with fail;refine aP.mono ?_;rintro e w2⟨rfl,D2,T2⟩;have UX:=ai w2 (.cells (aC sv.val) 60);obtain⟨aB,ag,aD,au,D3⟩:=eI (vT sv) (dj sv.val) (show(aC aK).size=(aC sv.val).size by rw[bX,bX,sv.property];rfl) ((TC.trans T2 (λn hn _=>hn)).trans (Touch.bW (F:=λ_=>False) UX) (λn hn _=>hn.elim)) (show Dv _ h (v.counts (k+1))from D2.up UX);have ao:=an (ak.up (ak.az OW T2 (λb hb hf=>by obtain⟨h1,h2⟩:=aA ((ak.aN OW b hb).1) (al b hf);omega)) UX)
   rcases EC with rfl|he
   rotate_left
   ·have aj:=an (show v.k3 (k+1)=v.k3 k by rw[RS.out,AT.out,aM ae];simp);have ad:=ao.out;rw[<-aj.out]at ad;have hb:∃z:Int,z=se/\z≠0:=⟨se,rfl,ae⟩;rcases he with rfl|rfl
    all_goals
     go_wp2_with(first
      | refine arm ?_
      | ((with_reducible refine cu _ _ _ ?_);refine fC _ rfl _ (.tmp 5) (.tmp 16) rfl _ _ (aC aK) rfl rfl rfl aB aD ag ?_))
     refine⟨⟨k+1,ae,aq,ad,D3,au⟩,?_⟩;simp only[Aat];omega
   ·have bQ:=an (show v.r9 k=(lb sv.val).bind λu=>if u.dq%4=k then some u else none by rw[AT.out,bo rfl]);go_wp2_with(first
     | refine arm ?_
     | ((with_reducible refine cu _ _ _ ?_);refine fC _ rfl _ (.tmp 5) (.tmp 16) rfl _ _ (aC aK) rfl rfl rfl aB aD ag ?_))
    refine((λW=>Re W _ sv.property) _).mono ?_;rintro e w4 aO;unfold R1 at aO;obtain⟨rfl,U4⟩:=aO;cases hs:lb sv.val with
    | none=>have aj:=an (show v.k3 (k+1)=v.k3 k by rw[RS.out,bQ.out,hs];simp);have UX:=U4.trans (ai w4 (.cells (uC tp) 122));have ad:=ak.up ao UX;rw[<-aj.out]at ad;obtain⟨D4,aE⟩:=aw (D3.up UX) (au.trans (Touch.bW (F:=λ_=>False) UX) (λn hn _=>hn.elim));have SC:=run_storeCells_new (P:=Aag) w4 122 (uC tp) (uC tp) (Es tp) rfl (wT tp);clear hs;simp only[Option.getD_none,Option.isSome_none];go_wp2_with(refine arm ?_);refine⟨⟨k+1,ae,aq,ad,D4,aE⟩,?_⟩;simp only[Aat];omega
    | some u=>
     have UX:=U4.trans (ai w4 (.cells (uC u) 122));obtain⟨BU,ad,D4,aE,ax,bM⟩:=im (aH.new w4 122 (uC u)) (ak.up ao UX) (D3.up UX) (au.trans (Touch.bW (F:=λ_=>False) UX) (λn hn _=>hn.elim)) (IK (w4.alloc (.cells (uC u) 122)) u) (show v.r9 k=if u.dq%4=k then some u else none by rw[bQ.out,hs];rfl);clear hs;simp only[Option.getD_some,Option.isSome_some];generalize u.dq%4=tx at *;go_wp2_with(first
      | refine arm ?_
      | ((with_reducible refine cu _ _ _ ?_);refine fC _ rfl _ (.tmp 7) (.tmp 23) rfl _ _ (uC tp) rfl rfl rfl (Es u) rfl (wT u) ?_))
     refine ax.mono ?_;rintro e w6⟨rfl,U6⟩;obtain⟨aF,D6,aJ⟩:=aW (ak.up ad U6) (D4.up U6) (aE.trans (Touch.bW (F:=λ_=>False) U6) (λn hn _=>hn.elim));by_cases aa:tx=k;rotate_left
     ·have aj:=an (show v.k3 (k+1)=v.k3 k by rw[RS.out,bM.out,aM aa];simp);have ow:=aF.out;rw[<-aj.out]at ow;have bt:((tx:Int)==(k:Int))=false:=by simp;omega
      clear aa;go_wp2;refine⟨⟨k+1,ae,aq,ow,D6,aJ⟩,?_⟩;simp only[Aat];omega
     ·have aj:=an (show v.k3 (k+1)=v.k3 k++[u] by rw[RS.out,bM.out,bo aa];rfl);have bt:((tx:Int)==(k:Int))=true:=by simp;omega
      have UY:=ai w6 (.cells (uC u) 122);obtain⟨RW,aG,D7,aL,hb1,hb2⟩:=im (show aI fK (w6.alloc (.cells (uC u) 122)) (cv w6.heap.size 1 1) [u] from aI.er _ _ rfl (uC u) 122 (0,0) [u] 1 rfl dE (by simp[fK])) (ak.up aF UY) (D6.up UY) (aJ.trans (Touch.bW (F:=λ_=>False) UY) (λn hn _=>hn.elim)) (show(κ (v.k3 k) + [u].length)*56<=140737488355328 by have:=RL.out;simp;omega) (show(v.k3 k).length + [u].length<=9223372036854775807 by have:=RL.out;simp;omega);obtain⟨ar,II⟩:=aw aL.size S6;clear aa;go_wp2_with(first
       | refine arm ?_
       | ((with_reducible refine dJ _ 1 _ ?_);refine ti rfl 192 _ (.tmp 33) rfl _ 7 _ _ rfl underlying192 II ae ae rfl ?_)
       | (at_builtin;refine bI uw rfl (.tmp 32) (.tmp 34) 192 rfl _ _ _ _ underlying192 II rfl _ _ rfl aG _ _ rfl RW hb1 hb2 ar ?_))
      intro v8 w8 ab av aR;rw[<-aj.out]at ab;have GT:=Touch.bg (F:=λb=>w.heap.size<=b) av (λb hb=>(ak.aN aG b hb).1);obtain⟨D8,aQ⟩:=aw (D7.az GT (λb hb hle=>by have:=al b hb;omega)) (aL.trans GT (λn hn hl=>ae));go_wp2;refine⟨⟨k+1,ae,aq,ab,D8,aQ⟩,?_⟩;simp only[Aat];omega
  ·obtain rfl:k=4:=by omega
   have b2:((4:Nat):Int)=4:=rfl;obtain⟨sa,sc,a6⟩:=(ak.row OW uw).slice;subst a6;have SO:=an (Vy wr w.heap.size _ (v.k3 4) OW (by have:=qi v 4;omega));generalize(v.k3 4).length=rn at *;go_wp2_with fail;refine SO.mono ?_;rintro e w6⟨rfl,l',hp,hs,hr,T6⟩;have hl:=Lf (wH v 4) hp hs;subst hl;go_wp2;go_ret;refine⟨sa,rn,sc,rfl,hr,λb hb=>(ak.aN OW b hb).1,DK.az T6 (λb hb hf=>?_),TC.trans T6 (λn hn hlt=>?_)⟩
   ·obtain⟨h1,h2⟩:=aA ((ak.aN OW b hf).1) (al b hb);omega
   ·have h1:=(ak.aN OW n hn).1;omega
def bC.zB(v:bC):Option hG:=v.Iz.getLast?
def RF(v:bC)(h:iE)(w:af)(e:Ab1)(w':af):Prop:=e=.returned (.tuple #[.agg (uC (v.zB.getD tp)),.bool v.zB.isSome])/\Dv w' h (v.counts 4)/\Touch (cI h) w w'
theorem R7(w:af)(h:iE)(v:bC)(D:Dv w h v):Aae Aag 54 #[pz h.d] w λe w'=>RF v h w e w':=by
 obtain⟨al,U1,BZ,BB⟩:=bR D.oy (ai w (.cells (uC tp) 122)) CV (show v.zB=v.Iz.getLast? from rfl);go_in;go_wp2_with(refine arm ?_);refine(Td _ h v (D.up U1)).mono ?_;rintro e w3⟨a,n,c,rfl,IR,FR,D3,T3⟩;have T3':=an ((Touch.bW (F:=cI h) U1).trans T3 (λn hn _=>hn));have Z3:=an ((aH.new w 122 (uC tp)).az T3 (λhf=>by have:=al _ hf;omega));obtain⟨l,hl⟩:=bK (v.Iz);rw[<-hl]at IR BB;clear hl FR;obtain rfl:n=κ l:=by obtain⟨_,_,h⟩:=IR.slice;simp at h;exact h.2.1
 have NF:=an (show ¬cI h w.heap.size from λhf=>by have:=al _ hf;omega);by_cases h0:κ l=0
 ·have HB:=an (show v.zB=none by rw[BB.out,oz.1 h0];rfl);rw[h0];clear h0 BB;go_wp2_with(first|refine arm ?_|refine pj ?_);refine MR ?_;intro w9 b9 g9 GT D9 T9;go_wp2;exact bS (.tuple #[.agg (uC tp),.bool false]) b9 ⟨by rw[HB.out];rfl,D9,T9⟩
 obtain⟨m,hm⟩:∃m,κ l=m+1:=⟨κ l-1,ae⟩;have aj:m<κ l:=ae
 obtain⟨b,off,rfl,_,_,hc⟩:=aI.get IR uw ae;have RG:=an (show w3.rangeAt b (off+m*7) (uC l[m]).toList from λj u hj=>by have:=hc m aj j u hj;rwa [show off+(m*7+j)=off+m*7+j from ae]at this)
 have HB:=an (show v.zB=some l[m] by rw[BB.out,List.getLast?_eq_getElem?,hm,Nat.add_sub_cancel,jE aj])
 have hlen:=IR.length_le;generalize l[m]=u at *;rw[hm]at hlen ⊢;have b1:(((m+1:Nat):Int)==0)=false:=ay
 have wm:((m+1:Nat):Int)-1=(m:Int):=ae
 have aa:m<m+1:=ae
 obtain⟨n,hn⟩:=bK (m+1);rw[<-hn]at b1 wm hlen aa ⊢;have ab:=aY m ae;clear hm aj hc h0 BB hn;go_wp2_with(first|refine arm ?_|refine pj ?_);refine MR ?_;intro w9 b9 g9 GT D9 T9;go_wp2;exact bS (.tuple #[.agg (uC u),.bool true]) b9 ⟨by rw[HB.out];rfl,D9,T9⟩
theorem Lt(hr:eL u=true)(hw:u.wf):B2 (eQ u)=u:=by
 obtain⟨⟨g1,g2⟩,⟨g3,g4⟩,⟨hg,_⟩,⟨g5,g6⟩,⟨g7,g8⟩⟩:=(kG u).1 hr;obtain⟨rest,hs⟩:∃rest,eQ u=mc++(aZ u.dq 8++(aZ u.ar 8++(bQ u.iD++(aZ u.len.toNat 4++(aZ u.sec.toNat 4++rest))))):=by simp[aX,B6,eQ,qC,DV]
 have d4:(eQ u).drop 4=aZ u.dq 8++(aZ u.ar 8++(bQ u.iD++(aZ u.len.toNat 4++(aZ u.sec.toNat 4++rest)))):=by rw[hs];exact lr rfl
 have d12:(eQ u).drop 12=aZ u.ar 8++(bQ u.iD++(aZ u.len.toNat 4++(aZ u.sec.toNat 4++rest))):=by rw[show(12:Nat)=4+8 from rfl,<-Ac3,d4];exact lr (bA _ _)
 have d20:(eQ u).drop 20=bQ u.iD++(aZ u.len.toNat 4++(aZ u.sec.toNat 4++rest)):=by rw[show(20:Nat)=12+8 from rfl,<-Ac3,d12];exact lr (bA _ _)
 have d36:(eQ u).drop 36=aZ u.len.toNat 4++(aZ u.sec.toNat 4++rest):=by rw[show(36:Nat)=20+16 from rfl,<-Ac3,d20];exact lr (fg _)
 have d40:(eQ u).drop 40=aZ u.sec.toNat 4++rest:=by rw[show(40:Nat)=36+4 from rfl,<-Ac3,d36];exact lr (bA _ _)
 have hp:mh (bQ u.iD)=u.iD:=by have:=nu u.iD hw.2.2.1 hg;unfold mi at this;simp_all
 unfold B2;rw[d4,d12,d20,d36,d40,hY (bA _ _),hY (bA _ _),hY (fg _),hY (bA _ _),hY (bA _ _),ha 8 u.dq ae,ha 8 u.ar ae,ha 4 u.len.toNat ae,ha 4 u.sec.toNat ae,hp];obtain⟨t,s,p,l,m⟩:=u;grind
theorem Lv(hr:eL u=true)(hw:u.wf):lb (eQ u)=some u:=by grind [lb,Lt]
def r9(C:List cN)(i:Nat):Option hG:=(C[i]?).bind (λs=>(lb s.val).bind λu=>if u.dq%4=i then some u else none)
theorem R5{l:List hG}(h:Yk l)(hu:u∈l)(hm:∀x∈l,x.dq<=u.dq):l.getLast?=some u:=by
 rcases E3 l with rfl|⟨l',z,rfl⟩
 ·cases hu
 ·rw[E4]at *;rw[List.getLast?_append];simp only[List.getLast?_singleton,Option.some_or,Aai];rcases List.mem_append.mp hu with h1|h1
  ·have h2:=(List.pairwise_append.mp h).2.2 u h1 z aq;grind
  ·simp_all
theorem bC.Y1{v:bC}(hd:v.dead=false)(hs:κ v.ct=κ v.aR)(hi:i<κ v.ct):v.r9 i=_root_.Go.Proofs.YtkpjfnbbkohciaaGreat.r9 v.ct i:=by have hb:v.hasB (i:Int)=true:=(nU v i).2 ae;unfold bC.r9 _root_.Go.Proofs.YtkpjfnbbkohciaaGreat.r9;grind [bC.jT,bC.mj,bC.nowAt]
theorem Wv{v:bC}(hd:v.dead=false)(hs:κ v.ct=κ v.aR)(h4:4<=κ v.ct)(hu:_root_.Go.Proofs.YtkpjfnbbkohciaaGreat.r9 v.ct (u.dq%4)=some u)(hm:∀i,i<4->∀x,_root_.Go.Proofs.YtkpjfnbbkohciaaGreat.r9 v.ct i=some x->x.dq<=u.dq):v.zB=some u:=by
 have mem:∀k,k<=4->∀x,x∈v.k3 k↔∃i,i<k/\_root_.Go.Proofs.YtkpjfnbbkohciaaGreat.r9 v.ct i=some x:=by
  intro k;induction k with
  | zero=>simp[bC.k3]
  | succ k ih=>grind [bC.k3,bC.Y1]
 unfold bC.zB bC.Iz;grind [R5,DM,wH,s9]
theorem Wu(w:af)(h:iE)(C:List cN)(m:Nat)(fl:Bool)(D:DA w h C m fl)(h4:4<=κ C)(u:hG)(hu:r9 C (u.dq%4)=some u)(hm:∀i,i<4->∀x,r9 C i=some x->x.dq<=u.dq):Aae Aag 54 #[pz h.d] w λe w'=>e=rt #[.agg (uC u),.bool true]/\DA w' h C m fl/\Touch (cI h) w w':=by obtain⟨v,h1,h2,h3,h5,h6,h7,h8⟩:=D;refine(R7 w h v h1).mono ?_;rintro e w'⟨rfl,D',T⟩;rw[(Wv (v:=v) h3 h1.len aa (u:=u) aa aQ)];obtain⟨c1,c2,c3,c4,c5⟩:=pA v 4;exact⟨rfl,⟨v.counts 4,D',cm,cm,ae,cm,aa,cm⟩,T⟩
theorem uO(h1:1<=n)(h2:n<=128):dM n=1:=by grind [dM,eB,lR,hi]
theorem US:dM 1024=9:=by simp[dM,eB,lR,kh,hi]
theorem oQ{t:Nat}(ht:64<=t/\t<=400):dM (cF t)<=9:=by
 have h:cF t=2+5*((t+1)/2):=by grind [cF]
 rw[<-US];exact Bf ae ae ae
theorem CY(hn:n<=1024):n-4<=bp (j0 n):=by
 have h:((Aaj (n-4)).map (· + 4)).Nodup:=List.pairwise_map.mpr (List.nodup_range.imp (λh e=>h ae));have:=Hl (s:=j0 n) h (λi hi=>by obtain⟨k,hk,rfl⟩:=List.mem_map.mp hi;have:=List.mem_range.mp hk;exact⟨ae,by grind [j0]⟩)
 simp_all
theorem P5{C:List cN}{fl:Bool}(h:64<=κ C/\(κ C)<=400):fe (sT C m fl)<=11/\0<fe (sT C m fl):=by have e:fe (sT C m fl)=dU 12 (κ C):=jg (next:=1) (l:=[]) ⟨ae,aq,aq⟩ ax TB;grind [dU,uO,oQ]
theorem H7{C:List cN}{fl:Bool}(h:64<=κ C/\(κ C)<=400):bm (sT C m fl):=by
 have hc:=CY (n:=κ C) ae;obtain⟨f1,f2⟩:=P5 (m:=m) (fl:=fl) h;refine⟨⟨wv,A0,?_,Ab6,?_,?_,?_,?_,?_,?_⟩,⟨?_,?_,?_,?_,?_,?_⟩,?_,Ab6,?_,?_,λi=>?_,λi hi=>?_,λi=>?_,by show 0<1;omega,wv,TB,?_⟩;all_goals first
  | (intro x hx;cases hx;done)
  | skip
 ·show j0 (κ C) i=0↔(i<4\/κ C<=i);grind [j0]
 ·show j0 (κ C) i=2↔_;constructor
  ·grind [j0]
  ·rintro(⟨x,hx,_⟩|⟨q,hq,_⟩)
   ·cases hx
   ·cases hq
 ·show j0 (κ C) i<=3;grind [j0]
 ·unfold eS;refine gD ⟨f2,?_,?_⟩
  ·show _<=bp (j0 (κ C));omega
  ·show _<=bp (j0 (κ C))+0;omega
structure Ring(G:ch):Prop where
 le:∀i,i<4->∀u,r9 G.P.C i=some u->u.dq<=G.u.dq
 here:1<=G.u.dq->r9 G.P.C (G.u.dq%4)=some G.u
theorem Ring.congr{G G2:ch}(R:Ring G)(I:bm G)(hu:G2.u=G.u)(hc:∀j,G.P.s j≠1->G2.P.C[j]?=G.P.C[j]?):Ring G2:=by
 have e:∀i,i<4->r9 G2.P.C i=r9 G.P.C i:=λi hi=>by unfold r9;rw[hc i (by have:=(I.s0 i).mpr (.inl hi);omega)]
 exact⟨λi hi u h=>by rw[hu];exact R.le i hi u aa,λh=>by rw[hu]at h ⊢;rw[e _ ae];exact R.here h⟩
section
variable {G:ch} {b:List aj}
structure Wg(G:ch)(b:List aj):Prop where
 ex:lh G.P.C G.u.iD b (iB (κ G.P.C) (aB (gf G.P.s) 4096)) G.ms
 YN:eV G.next G.l=some b
 ub:G.u.sec=(κ G.P.C:Int)/\G.u.len=40/\G.u.ar=G.P.ba/\G.P.st=G.P.ba+1/\1<=G.u.dq
 no3:∀i,G.P.s i≠3
theorem yd(I:bm G)(B:pf G)(R:Ring G){G2:ch}(h:mN G b G2)(K:Cm G b):Wg G2 b/\Ring G2:=by
 obtain⟨ats,CO⟩:=vO I h;obtain⟨q,ps,P8,⟨ab,h1,h2,h3,h4,h5,h6,h7⟩,rfl⟩:=h;have qn:q≠hole:=ID ⟨ab,h1,h2,h3,h4,h5,h6,h7⟩;obtain⟨ln,aE,hba,aa⟩:=iJ I.ln I.st I.sb B.tx;have ru:eL (nN G q)=true:=(kG _).mpr ⟨⟨Nat.le_add_left _ _,by show G.u.dq+1<=_;omega⟩,⟨by show 1<=G.P.st;omega,aE⟩,⟨h7,qn⟩,⟨by show(1:Int)<=40;omega,by show(40:Int)<=_;omega⟩,⟨by show(64:Int)<=(κ G.P.C:Int);omega,by show(κ G.P.C:Int)<=_;omega⟩⟩;have wu:(nN G q).wf:=⟨by show G.u.dq+1<_;omega,by show G.P.st<_;omega,h6,by show(_:Int)<=40/\(40:Int)<=_;omega,by show(_:Int)<=(κ G.P.C:Int)/\(κ G.P.C:Int)<=_;omega⟩;have c4:∀i,i<4->P8.C[i]?=G.P.C[i]?:=λi hi=>h5.other i (λha=>by have:=(h3 i ha).2;have hz:=(hQ (s:=G.P.s) (ba:=G.P.ba) (k:=i) G.ms).mpr ((I.s0 i).mpr (.inl hi));omega)
 have ad:∀i,i<4->r9 (WV G P8 q ps).P.C i=if i=(G.u.dq+1)%4 then some (nN G q)else r9 G.P.C i:=λi hi=>by show r9 (P8.C.set _ _) i=_;grind [r9,qD,nN,eQ,Lv]
 refine⟨⟨?_,K.YN,⟨by rw[CO.cl];rfl,rfl,?_,?_,Nat.le_add_left _ _⟩,λi=>?_⟩,⟨λi hi u hu=>?_,λ_=>?_⟩⟩
 ·have tf:gf (WV G P8 q ps).P.s=gf (e' (bJ G.P.s G.P.ba G.ms) ab):=by funext i;show decide (i<1024/\iv P8.s 1024 i=2)=decide (i<1024/\e' (bJ G.P.s G.P.ba G.ms) ab i=2);rw[h5.s];grind [iv]
  have e:Wi {G.P with s:=e' (bJ G.P.s G.P.ba G.ms) ab}=iB (κ (WV G P8 q ps).P.C) (aB (gf (WV G P8 q ps).P.s) 4096):=by rw[tf,CO.cl];rfl
  rw[<-e];show lh (P8.C.set _ _) q b _ ps;refine h4.congr (λp hp=>E5 (λh=>?_));obtain⟨k,hk,e⟩:=(List.mem_map.mp (h5.AL.mem_iff.mp (List.mem_map.mpr ⟨p,hp,rfl⟩)));have hz:=mt (I.s0 k).mpr (λh=>by grind [hQ]);omega
 ·show G.P.st=P8.st;rw[h5.st]
 ·rfl
 ·by_cases hi:i<1024
  ·exact CO.no3 i hi
  ·have:(WV G P8 q ps).P.s i=0:=(CO.zer i).mpr ((I.s0 i).mpr (.inr ae));omega
 ·rw[ad i hi]at hu;split at hu
  ·cases hu;exact aG _
  ·have:=R.le i hi u hu;show u.dq<=G.u.dq+1;omega
 ·have:(WV G P8 q ps).u.dq%4=(G.u.dq+1)%4:=rfl;rw[this,ad _ ae,bo rfl];rfl
end
theorem Lw:lb aK=none:=ay
theorem P6(n m:Nat)(fl:Bool):Ring (sT (Aac n ep) m fl):=by
 refine⟨λi hi u h=>?_,λh=>by have h:1<=0:=h;omega⟩;have h:r9 (Aac n ep) i=some u:=h;unfold r9 at h;rw[List.getElem?_replicate]at h;split at h
 ·have e:lb ep.val=none:=Lw;simp_all
 ·cases h
structure gl(n:Nat)(G:ch)(b:List aj):Prop where
 inv:bm G
 ring:Ring G
 dsk:Wg G b
 nx:G.next=1
 l:G.l=[]
 st:G.P.st=2
 tx:G.u.dq=1
 m:G.P.m=0
 len:κ G.P.C=n
 room:n<=bp G.P.s+κ G.ms+4
 few:κ G.ms<=11
 msl:κ G.ms=dU 12 n
theorem xn(n:Nat):pf (sT (Aac n ep) 0 true):=⟨wv,wv,A0,A0⟩
theorem KC(hn:64<=n/\n<=400){b:List aj}(h:mN (sT (Aac n ep) 0 true) b G)(K:Cm (sT (Aac n ep) 0 true) b)(hb:κ b=cA []):gl n G b:=by
 have I:=H7 (C:=Aac n ep) (m:=0) (fl:=true) ab;obtain⟨ats,CO⟩:=vO I h;obtain⟨d,r⟩:=yd I (xn n) (P6 n 0 true) h K;have hc:=CO.count I;have hl:κ (Aac n ep)=n:=wh;have h2:n-4<=bp (sT (Aac n ep) 0 true).P.s:=by have:=CY (n:=n) ae;show n-4<=bp (j0 (κ (Aac n ep)));simp;omega
 have ml:κ G.ms=κ ats:=by have:=CO.loc.length_eq;simp_all
 have hc:=hc;exact⟨I.com CO hb (by show 1<_;omega),r,d,CO.nx,CO.l,CO.st,CO.tx,CO.m,by rw[CO.cl];exact hl,ae,by
  rw[ml,CO.len,hb];show dU 12 (κ (Aac n ep))<=11;rw[hl];unfold dU;rw[uO ae ae];have:=oQ hn;omega,by
  rw[ml,CO.len,hb];show dU 12 (κ (Aac n ep))=_;rw[hl]⟩
theorem Ek(S:G.next<=281474976710655/\(κ G.l)<=32/\∀x∈G.l,cD x=true)(hs:cA G.l<=128)(h1:12<=cA G.l)(ht:64<=κ G.P.C/\(κ G.P.C)<=400)(hc:11<=bp G.P.s)(h2:22<=bp G.P.s+κ G.ms):eS G=true:=by have e:fe G=dU (cA G.l) (κ G.P.C):=jg S ae ae;grind [fe,dU,uO,oQ,eS]
def zj:List aj:=[118]
def jW(G:ch):ch:={G with next:=2,l:=[dw 1 zj 4]}
section
variable {G G2 G3:ch} {b:List aj} {n:Nat}
theorem I0(N:gl 64 G b):cG G.next G.l zj 4=.ok (2,[dw 1 zj 4]):=by rw[N.nx,N.l];rfl
theorem VU(N:gl 64 G b):eS (jW G)=true:=by obtain⟨h1,h2,h3⟩:=db N.room N.few N.len;refine Ek ⟨yQ,by show 1<=32;omega,?_⟩ (by show cA [dw 1 zj 4]<=128;decide) (by simp[cA,dw,zj]) Tv (by show 11<=bp G.P.s;omega) TC;intro x hx;have hx:=hx;rw[List.mem_singleton.mp hx];decide
theorem Z5(N:gl 64 G b){r:Int}(h:jv G (cG G.next G.l zj 4) id true r G2):r=0/\G2=jW G:=by
 rw[I0 N]at h;rcases h with⟨n,h,_⟩|⟨nx,l',h,rfl,rfl⟩
 ·cases h
 ·cases h;grind [tL,jW,VU]
theorem YO(N:gl 64 G b):bm (jW G):=N.inv.create yT (I0 N) (VU N)
theorem aa5(N:gl 64 G b):pf (jW G):=⟨yQ,by show G.P.st<=_;rw[N.st];omega,by show G.P.m<=_;rw[N.m];omega,by show G.u.dq<=_;rw[N.tx];omega⟩
theorem YP:iC [dw 1 zj 4] zj 1=.ok 0:=ay
theorem Z3{x:al}(h:b9 x=b9 (dw 1 zj 4)):e4 [x] zj 1=.ok 0:=by obtain⟨a1,a2,a3,a4,a5,a6,a7,a8,a9⟩:=x;simp only[b9,dw,al.mk.injEq]at h;obtain⟨rfl,rfl,rfl,rfl,rfl,rfl,rfl,_,_⟩:=h;rfl
theorem X8(N:gl 64 G b):¬Yq (jW G):=by
 obtain⟨h1,h2,h3⟩:=db N.room N.few N.len;rintro(h|⟨G2,U,hf⟩)
 ·have h:bp G.P.s<3:=h;omega
 ·have c:=U.mR;have c:bp G.P.s<=bp G2.P.s+3:=c;have s:=U.sl;have e:cA (jW G).l=73:=by rfl
  rw[e]at s;have l:κ G2.P.C=κ G.P.C:=U.len;have:=Ek (G:=G2) U.sh ae (by simp[cA]) ae ae ae;simp_all
theorem Ya(N:gl 64 G b){r:Int}(h:j3 (jW G) zj 1 (decide (128 < [(97:aj)].length)) (jM [97]) r G2):r=0/\kN (jW G) 0 1 (jM [97]) G2/\eS G2=true:=by
 rcases h with⟨n,h,_⟩|⟨k,h,h2⟩
 ·grind [iC,jW,zj,YP]
 ·have e:iC (jW G).l zj 1=.ok 0:=YP;rw[e]at h;cases h;rcases h2 with⟨h,_⟩|⟨_,_,h⟩|⟨_,h,t,f⟩
  ·cases h
  ·exact absurd h.2.2.2 (X8 N)
  ·simp_all
theorem aa7(N:gl 64 G b)(T:kN (jW G) 0 1 (jM [97]) G2):∃x,G2.l=[x]/\b9 x=b9 (dw 1 zj 4):=by have h:G2.l.map b9=[b9 (dw 1 zj 4)]:=T.strip;simp_all
theorem abD{x:al}(h:b9 x=b9 (dw 1 zj 4)):x.id=1:=by
 have:(b9 x).id=1:=nK
 exact this
theorem VV(T:kN (jW G) 0 1 (jM [97]) G2){x:al}(hx:G2.l=[x])(hs:b9 x=b9 (dw 1 zj 4)):vG G2.P.C x 1=some (jM [97]):=by have:=T.rd x aa 1 ae;rw[this,bo ⟨abD hs,rfl⟩]
theorem ZG:jM [97]≠ep:=ax
theorem aa6(I:bm G2){x:al}(hx:G2.l=[x])(hr:vG G2.P.C x 1=some (jM [97])):∃a b c:Int,[a,b,c].Nodup/\∀k∈[a,b,c],∃p,gb G2.P.C x.root p/\p.loc=k:=by
 have hm:x∈G2.l:=aa
 have T:=I.tr x hm;unfold vG at hr;have n10:eD G2.P.C x.root 10≠hole:=λe=>by grind [je,ZG]
 have ab:eD G2.P.C x.root 10=a6 (bF G2.P.C (eD G2.P.C x.root 1)) 1:=h7 G2.P.C x.root (i:=1) ae;have n1:eD G2.P.C x.root 1≠hole:=λe=>n10 (by grind [kD,gP]);have e1:eD G2.P.C x.root 1=a6 (bF G2.P.C x.root) 0:=df G2.P.C x.root (k:=0) ae;have n0:x.root≠hole:=λe=>n1 (by grind [kD,gP]);have i0:gb G2.P.C x.root (eD G2.P.C x.root 0):=⟨n0,0,ae,rfl⟩;have i1:gb G2.P.C x.root (eD G2.P.C x.root 1):=⟨n1,1,ae,rfl⟩;have i2:gb G2.P.C x.root (eD G2.P.C x.root 10):=⟨n10,10,ae,rfl⟩;refine⟨(eD G2.P.C x.root 0).loc,(eD G2.P.C x.root 1).loc,(eD G2.P.C x.root 10).loc,?_,?_⟩
 ·have d:∀a b,a<73->b<73->gb G2.P.C x.root (eD G2.P.C x.root a)->gb G2.P.C x.root (eD G2.P.C x.root b)->a≠b->(eD G2.P.C x.root a).loc≠(eD G2.P.C x.root b).loc:=λa b ha hb ia ib hn e=>hn (T.inj a b ha hb (I.si.lc x hm x hm _ _ ia ib e) ia.1);grind
 ·grind
theorem xp:∀{L:List Int},L.Nodup->(∀k∈L,0<=k)->(L.map Acs).Nodup:=λ{L} h h0=>by refine List.Pairwise.map Acs ?_ (List.Pairwise.imp_of_mem (S:=λa b=>a∈L/\b∈L/\a≠b) (λ{a b} ha hb hn=>⟨ha,hb,hn⟩) h);rintro a b⟨ha,hb,hn⟩e;have:=h0 a ha;have:=h0 b hb;omega
theorem Z4(N:gl 64 G b)(T:kN (jW G) 0 1 (jM [97]) G2)(I:bm G2){L:List Int}(hn:L.Nodup)(hL:∀k∈L,∃x∈G2.l,∃p,gb G2.P.C x.root p/\p.loc=k):κ L<=3:=by
 have c:bp G.P.s<=bp G2.P.s+3:=T.us.mR;have m:G2.ms=G.ms:=T.us.ms;have l:κ G2.P.C=κ G.P.C:=T.len;obtain⟨h1,h3⟩:=aA N.room N.len;have rg:∀k∈L,4<=k/\k<1024:=λk hk=>by obtain⟨x,hx,p,hp,rfl⟩:=hL k hk;exact⟨(gb.loc (I.tr x hx) hp).1,(gb.loc (I.tr x hx) hp).2.1⟩
 have nB:((G2.ms.map (·.loc)).map Acs).Nodup:=xp I.md (λk hk=>by obtain⟨q,hq,rfl⟩:=List.mem_map.mp hk;have:=I.ml q hq;omega)
 have sB:∀j∈(G2.ms.map (·.loc)).map Acs,j<1024/\G2.P.s j=2:=λj hj=>by obtain⟨k,hk,rfl⟩:=List.mem_map.mp hj;obtain⟨q,hq,rfl⟩:=List.mem_map.mp hk;have:=I.ml q hq;exact⟨ae,I.re hq⟩
 have sL:∀j∈L.map Acs,j<1024/\G2.P.s j=2:=λj hj=>by obtain⟨k,hk,rfl⟩:=List.mem_map.mp hj;have h:=rg k hk;obtain⟨x,hx,p,hp,rfl⟩:=hL k hk;exact⟨ae,I.taken hx hp⟩
 have aa:∀a∈(G2.ms.map (·.loc)).map Acs,∀c∈L.map Acs,a≠c:=λa ha c hc e=>by obtain⟨k,hk,rfl⟩:=List.mem_map.mp ha;obtain⟨q,hq,rfl⟩:=List.mem_map.mp hk;obtain⟨k,hk,rfl⟩:=List.mem_map.mp hc;have h:=rg k hk;obtain⟨x,hx,p,hp,rfl⟩:=hL k hk;have:=I.ml q hq;exact I.mx q hq x hx p hp ae
 have key:=ei (((Aaj 1024).filter (λk=>decide (G2.P.s k=1)))++(((G2.ms.map (·.loc)).map Acs)++L.map Acs)) ((Aaj 60).map (· + 4)) (List.nodup_append.mpr ⟨(List.nodup_range.filter _),List.nodup_append.mpr ⟨nB,(xp hn (λk hk=>aQ)),aa⟩,λa ha c hc e=>by
  have h1:=iy (List.mem_filter.mp ha).2;rcases List.mem_append.mp hc with hc|hc
  ·have:=(sB c hc).2;rw[<-e]at this;omega
  ·have:=(sL c hc).2;rw[<-e]at this;omega⟩) (λj hj=>by
  have hne:G2.P.s j≠0:=by
   rcases List.mem_append.mp hj with hj|hj
   ·have h1:=iy (List.mem_filter.mp hj).2;omega
   ·rcases List.mem_append.mp hj with hj|hj
    ·have:=(sB j hj).2;omega
    ·have:=(sL j hj).2;omega
  have:=mt (I.s0 j).mpr hne;exact List.mem_map.mpr ⟨j-4,List.mem_range.mpr ae,ae⟩)
 simp only[Aaf,Aad,Acx]at key;have e:bp G2.P.s=κ ((Aaj 1024).filter (λk=>decide (G2.P.s k=1))):=rfl;grind
theorem X7(N:gl 64 G b)(T:kN (jW G) 0 1 (jM [97]) G2)(I:bm G2){x:al}(hx:G2.l=[x])(hs:b9 x=b9 (dw 1 zj 4)){ks:List Int}{f:Int->Bool}(hk:ks.Nodup)(hf:∀k,(k∈ks/\f k=true)↔∃y∈G2.l,∃p,gb G2.P.C y.root p/\p.loc=k):κ (ks.filter f)=3:=by
 have up:=Z4 N T I (L:=ks.filter f) (hk.filter f) (λk hk=>(hf k).mp (List.mem_filter.mp hk));obtain⟨a,c,d,hn,h⟩:=aa6 I hx (VV T hx hs);have low:=ei [a,c,d] (ks.filter f) hn (λk hk=>by obtain⟨p,hp,e⟩:=h k hk;exact List.mem_filter.mpr ((hf k).mpr ⟨x,aa,p,hp,e⟩))
 grind
end
section
open Go.Shelf
theorem QS(w:af)(base:Nat)(v:ah)(l:List Int)(h:Own bz 3 w base v l)(hl:κ l<=5000):Aae Aag 61 #[v] w λe w'=>e=rt #[]/\∃l',l'.Perm l/\aD bz w' v l'/\Touch (λb=>v.ownBlock=some b) w w':=by
 by_cases h0:l=[]
 ·subst h0;have hr:=h.cC;obtain⟨a,cap,hv⟩:=hr.slice;rw[Aa5]at hv;subst hv;have ad:=Any.slices_Sort_int_none IM a cap w;change Aae Aag 61 _ _ _ at ad;refine ad.mono λe w' hh=>?_;grind [Touch.refl]
 ·have ag:=List.length_pos_iff.2 h0;obtain⟨_,h2⟩:=id h;rcases h2 with⟨_,hz⟩|⟨g,cap,cur,rfl,aX,ai,hn,hm,aE,aM⟩
  ·omega
  obtain⟨g',av,e1,_,hlt,hc,al,_⟩:=h.row ag;simp only[Abp,Aai,Abd,and_true,true_and]at e1;obtain⟨rfl,rfl⟩:=e1;have hH:Holds (Acj .i64) w g 0 l.toArray:=λj hj=>by grind [bz]
  have ad:=Any.slices_Sort_int IM g 0 cap l w hH hlt ae;change Aae Aag 61 _ _ _ at ad;refine ad.mono λe w' hh=>?_;obtain⟨he,n,os,hw⟩:=hh;refine⟨he,l.mergeSort (λx y=>decide (x<=y)),List.mergeSort_perm _ _,?_,?_⟩
  ·have aL:κ (l.mergeSort (λx y=>decide (x<=y)))=κ l:=List.length_mergeSort _;have aF:=holds_grow (Acj .i64) (putRow (Acj .i64) (Ac6 w n) g 0 (l.mergeSort (λx y=>decide (x<=y))).toArray) os g 0 _ ab (holds_putRow (Acj .i64) (Ac6 w n) g 0 l.toArray (l.mergeSort (λx y=>decide (x<=y))).toArray (holds_ahead _ w n g 0 _ hH) aq);rw[hw];generalize l.mergeSort (λx y=>decide (x<=y))=l' at *;rw[<-aL];refine .inr ⟨g,0,cap,rfl,ae,ae,hm,λi hi=>?_⟩;have:=(aF i ae).1;grind [bz]
  ·rw[hw];unfold putRow mapBlock Ac6 grow;exact No
theorem GC{l l':List Int}(h:l'.Perm l):jV l'=jV l:=by unfold jV;congr 1;grind [rU]
end
def xM(G:ch)(x:al):List au:=xU x.root (bF G.P.C x.root) (λk=>bF G.P.C (a6 (bF G.P.C x.root) k)) 0
def hN(G:ch)(k:Nat):List py:=(G.l.take k).foldl (λL x=>h3 false L (xM G x)) (h3 true [] G.ms)
section
variable {G:ch}
theorem lY(I:bm G){x:al}(hx:x∈G.l)(p:au):p∈xM G x↔gb G.P.C x.root p:=by unfold xM;rw[G6 (I.tr x hx)];exact⟨λh=>h.1,λh=>⟨h,by have:=(I.si.brt x hx p h).1;omega⟩⟩
def Q3(I:bm G){x:al}(hx:x∈G.l):κ (xM G x)<=73:=w0 (λj hj=>cH ((I.tr x hx).S hj))
theorem oM{k:Nat}(hk:k<κ G.l):hN G (k+1)=h3 false (hN G k) (xM G (recAt G.l k)):=by unfold hN;rw[en hk,EY,b' hk];rfl
theorem kz(I:bm G):∀(k:Nat),k<=κ G.l->∀x∈hN G k,(x.1∈G.ms/\x.2=true)\/((∃y∈G.l,gb G.P.C y.root x.1)/\x.2=false)
 | 0,_,x,hx=>by
  rcases oN (show x∈h3 true [] G.ms from hx)with h|h
  ·cases h
  ·exact .inl h
 | k+1,hk,x,hx=>by
  rw[oM ae]at hx;rcases oN hx with h|⟨h,h2⟩
  ·exact kz I k ae x h
  ·have hm:=aJ (show k<κ G.l from ae);exact .inr ⟨⟨_,hm,(lY I hm x.1).mp h⟩,h2⟩
theorem H0{q:au}(hq:q∈G.ms):∀(k:Nat),k<=κ G.l->∃x∈hN G k,x.1.loc=q.loc
 | 0,_=>sP (own:=true) (L:=[]) hq
 | k+1,hk=>by obtain⟨x,hx,e⟩:=H0 hq k ae;exact⟨x,by rw[oM ae];exact kZ hx,e⟩
theorem A3(I:bm G){j:Nat}(hj:j<κ G.l){q:au}(hq:gb G.P.C (recAt G.l j).root q):∀(k:Nat),j<k->k<=κ G.l->∃x∈hN G k,x.1.loc=q.loc
 | 0,h,_=>ae
 | k+1,h,hk=>by
  rw[oM ae];by_cases e:j=k
  ·subst e;exact sP ((lY I (aJ hj) q).mpr hq)
  ·obtain⟨x,hx,e2⟩:=A3 I hj hq k ae ae;exact⟨x,kZ hx,e2⟩
theorem aaF(I:bm G){q:au}(hq:q∈G.ms):0<=q.loc/\q.loc<=4096:=Fp
theorem aa3(I:bm G){x:al}(hx:x∈G.l){p:au}(hp:gb G.P.C x.root p):0<=p.loc/\p.loc<=4096:=by have:=gb.loc (I.tr x hx) hp;omega
theorem Zb(I:bm G):RO [] G.ms:=by refine⟨aq,λp hp q hq e=>?_,λq hq=>aaF I hq⟩;have:=I.md;obtain⟨i,hi,rfl⟩:=ls hp;obtain⟨j,hj,rfl⟩:=ls hq;have:=List.pairwise_iff_getElem.mp this;grind
theorem Zc(I:bm G){k:Nat}(hk:k<κ G.l):RO (hN G k) (xM G (recAt G.l k)):=by
 have hm:=aJ hk;refine⟨λx hx q hq e=>?_,λp hp q hq e=>I.si.lc _ hm _ hm p q ((lY I hm p).mp hp) ((lY I hm q).mp hq) e,λq hq=>aa3 I hm ((lY I hm q).mp hq)⟩;have hq:=(lY I hm q).mp hq;rcases kz I k ae x hx with⟨h,_⟩|⟨⟨y,hy,h⟩,_⟩
 ·exact absurd e.symm (I.mx _ h _ hm q hq)
 ·exact I.si.lc y hy _ hm x.1 q h hq e
theorem H3(I:bm G)(i:Int):(∃x∈hN G (κ G.l),x.1.loc=i)↔∃n:Nat,i=(n:Int)/\n<1024/\G.P.s n=2:=by
 constructor
 ·rintro⟨x,hx,rfl⟩;have h:0<=x.1.loc/\x.1.loc<1024:=by
   rcases kz I _ (aG _) x hx with⟨h,_⟩|⟨⟨y,hy,h⟩,_⟩
   ·have:=I.ml _ h;omega
   ·have:=gb.loc (I.tr y hy) h;omega
  refine⟨x.1.loc.toNat,ae,ae,?_⟩;rcases kz I _ (aG _) x hx with⟨h,_⟩|⟨⟨y,hy,h⟩,_⟩
  ·exact I.re h
  ·exact I.taken hy h
 ·rintro⟨n,rfl,hn,h2⟩;rcases(I.s2 n hn).mp h2 with⟨x,hx,p,hp,e⟩|⟨q,hq,e⟩
  ·grind [kB,A3]
  ·obtain⟨y,hy,ey⟩:=H0 hq (κ G.l) (aG _);grind
def RC(L:List py)(k:Int):Bool:=decide (∃x∈L,x.1.loc=k/\x.2=false)
theorem F'(I:bm G)(k:Int):RC (hN G (κ G.l)) k=true↔∃y∈G.l,∃p,gb G.P.C y.root p/\p.loc=k:=by
 unfold RC;rw[decide_eq_true_eq];constructor
 ·rintro⟨x,hx,e,h2⟩;rcases kz I _ (aG _) x hx with⟨_,h⟩|⟨⟨y,hy,h⟩,_⟩
  ·simp_all
  ·grind
 ·rintro⟨y,hy,p,hp,e⟩;obtain⟨j,hj,rfl⟩:=kB hy;obtain⟨x,hx,ex⟩:=A3 I hj hp (κ G.l) hj (aG _);rcases kz I _ (aG _) x hx with⟨h,_⟩|⟨_,h⟩
  ·exact absurd ex.symm (I.mx _ h _ hy p hp)
  ·grind
structure Seen(G:ch)(ks:List Int):Prop where
 nd:ks.Nodup
 all:∀k,k∈ks↔∃x∈hN G (κ G.l),x.1.loc=k
theorem Seen.set(I:bm G){ks:List Int}(S:Seen G ks):jV ks=aB (gf G.P.s) 4096:=by unfold jV;congr 1;funext i;unfold rU gf;rw[EO,S.all,H3 I];grind
end
theorem aaP(x y:bM)(W:af):(Ack 10000 139 (.agg (lg x)) (.agg (lg y))).run Aag W=.ok (decide (x=y)) W:=by
 obtain⟨a,b⟩:=x;obtain⟨c,d⟩:=y;have e:decide ((⟨a,b⟩:bM)=⟨c,d⟩)=((a==c) && (b==d)):=aQ
 rw[e];clear e;show(Ack (9999+1) 139 (.agg #[i6 a,i6 b]) (.agg #[i6 c,i6 d])).run Aag W=_;rw[yx W 9999 139 _ _ ay aq];cases h:(a==c)<;>cases h1:(b==d);all_goals go_simp
theorem ZU(x1 x2:bO)(ho:o.op=.binOp .neq 139 x1 x2 139)(y:bM)(h1:a.eval x1=.agg (lg y))(h2:a.eval x2=.agg (lg y))(W:af):(Abs a.eval o).run Aag W=.ok (.value (.bool false)) W:=by
 have e:(Ack Op.maxDepth 139 (.agg (lg y)) (.agg (lg y))).run Aag W=.ok (decide (y=y)) W:=aaP y y W;rw[show decide (y=y)=true from aq]at e;unfold Abs;simp only[ho,h1,h2,binOp,Op.equal];have g:(eqGuard .neq 139 x1 x2 (.agg (lg y)) (.agg (lg y))).run Aag W=.ok () W:=by unfold eqGuard;go_simp
 simp only[Aaw,g,Aau,Acq];rw[e];rfl
theorem YM{a:Option Addr}{l:List bM}(h:dS w (.slice a n cap) l)(hk:k<κ l):∃b off,a=some ⟨b,off,none⟩/\b<w.heap.size/\w.rangeAt b (off+k*2) (lg l[k]).toList:=by obtain⟨b,off,e,hb,_,hc⟩:=aI.get h BV ae;exact Nk
theorem JO(w:af)(va vb:ah)(l:List bM)(ha:dS w va l)(hb:dS w vb l)(hl:κ l<=100000):Aae Aag 63 #[va,vb] w λe w'=>e=.returned (.bool true)/\Up w w':=by
 obtain⟨a,ca,rfl⟩:=aI.slice ha;obtain⟨b,cb,rfl⟩:=aI.slice hb;obtain⟨n,hn⟩:=bK (κ l);rw[<-hn]at ha hb hl ⊢;obtain⟨HA,HB,HN⟩:=aW ha hb hn;have hne:((n:Int) != (n:Int))=false:=aq
 clear hn;go_in;go_wp2;go_loopw [13] (λi wr=>∃k:Nat,k<=n/\i=i6 k/\Up w wr) (λi _=>n-(Aat i).toNat)
 case atStart=>exact⟨0,bE _,rfl,Up.refl _⟩
 case round=>
  obtain⟨k,hk,rfl,ar⟩:=hrel;have UR:=an ar;by_cases hlt:k<n
  ·have b3:((k:Int)<(n:Int))=True:=by simp;omega
   have KA:=an (show k<κ l from dL);obtain⟨ba,oa,ea,_,ra⟩:=YM (aI.up HA UR) KA.out;obtain⟨bb,ob,eb,_,rb⟩:=YM (aI.up HB UR) KA.out;subst ea;subst eb;obtain⟨y,hy⟩:=bK (l[k]'KA.out);rw[<-hy]at ra rb;obtain⟨RA,RB⟩:=aw ra rb;clear hy;go_wp2;have II:=an (S5 y);refine e3 (S:=λW=>W.rangeAt ba (oa+k*2) (lg y).toList/\W.rangeAt bb (ob+k*2) (lg y).toList) ay ?_;change Acp _ _ _ _ _ 9 #[false,false,false,false,false,false,false,false,false] _ (wr.drew);have ud:=Up.drew (Up.refl wr);have F0:(λW=>W.rangeAt ba (oa+k*2) (lg y).toList/\W.rangeAt bb (ob+k*2) (lg y).toList) wr.drew:=⟨ud.range RA,ud.range RB⟩;generalize wr.drew=w3 at *;refine lI ?_;refine tb 3 rfl (yp (λW h=>h.1) II underlying139) ?_;refine ta 4 ?_;refine ta 5 ?_;refine ta 6 ?_;refine tb 7 rfl (yp (λW h=>h.2) II underlying139) ?_;refine tb 8 rfl (ya (h:=ZU (.tmp 19) (.tmp 23) rfl y av av)) ?_;refine nc ?_;go_wp2;have e1:(k:Int)+1=((k+1:Nat):Int):=ae
   have KN:=an hlt;go_roundw
   case rel=>exact⟨k+1,hlt,rfl,(UR.trans ud)⟩
   case measure=>simp only[Aat];have:=KN.out;omega
  ·have b3:((k:Int)<(n:Int))=False:=by simp;omega
   go_wp2;go_ret;simp;omega
def lM(vr vt:ah)(tw:Bool)(cE blocks:Int):Array ah:=#[vr,vt,.bool tw,.int .i64 cE,.int .i64 blocks]
theorem zx(w:af)(va vb:ah)(l:List bM)(ha:dS w va l)(hb:dS w vb l)(hl:κ l<=100000)(cE blocks:Int):Aae Aag 23 #[.agg (lM va vb false cE blocks)] w λe w'=>e=.returned (.bool true)/\Up w w':=by obtain⟨u1,B1⟩:=aA (ai w (.cells (lM va vb false cE blocks) 65)) (aH.new w 65 (lM va vb false cE blocks));have c0:(w.alloc (.cells (lM va vb false cE blocks) 65)).cell? (ad w.heap.size 0)=some va:=B1.cell 0;have c1:(w.alloc (.cells (lM va vb false cE blocks) 65)).cell? (ad w.heap.size 1)=some vb:=B1.cell 1;have EQ:=an (JO _ va vb l (aI.up ha u1) (aI.up hb u1) hl);have c2:(w.alloc (.cells (lM va vb false cE blocks) 65)).cell? (ad w.heap.size 2)=some (.bool false):=B1.cell 2;have C2:=an c2;obtain⟨a,ca,rfl⟩:=aI.slice ha;obtain⟨b,cb,rfl⟩:=aI.slice hb;clear c2;go_in;go_wp2_with(refine arm ?_);refine EQ.mono ?_;rintro e w2⟨rfl,u2⟩;have U2:=an (u1.trans u2);have c2:=u2.cell C2;clear c0 c1;exact uG
section
open Go.Maps
theorem ak.e5{α:Type}{f:α->List ah}{e:Aab}{base:Nat}{v:ah}{xs:List α}(h:ak f k e w base v xs)(hb:v.ownBlock=some b):∃C,aH w b e C:=by
 obtain⟨_,h2⟩:=h;rcases h2 with⟨rfl,_⟩|⟨g',cap,cur,rfl,_,hh,_⟩
 ·simp[Aan]at hb
 ·simp[Aan]at hb;subst hb;exact⟨cur,hh⟩
theorem aaO{F:Nat->Prop}{w w':af}{v:ah}(h:bq w 0 v l)(T:Touch F w w')(hF:∀b C,(aH w b 90 C\/aH w b 87 C)->¬F b):bq w' 0 v l:=by obtain⟨ys,y1,y2,y3⟩:=h;exact⟨ys,y1,ak.az y2 T (λb hb hf=>by obtain⟨C,hC⟩:=ak.e5 y2 hb;exact hF b C (.inl hC) hf),λy hy=>ak.az (y3 y hy) T (λb hb hf=>by obtain⟨C,hC⟩:=ak.e5 (y3 y hy) hb;exact hF b C (.inr hC) hf)⟩
theorem bT.Xw{p gb:Nat}(A:bT w p gb H G)(hb:aH w b t C)(h1:uW t=false)(h2:t≠82):¬(PF H b\/b=p):=by
 rintro((rfl|rfl|h)|rfl)
 ·exact fj A.ga.pa.e5 hb um rfl
 ·exact sa hb A.ga.pa.map um rfl
 ·exact A.ga.pa.dev.jL hb um um um h
 ·exact fj A.e5 hb (λe=>h2 e.symm) rfl
theorem bh.XD{w w':af}{p gb mb kb n:Nat}{M:cS}(h:bh w mb kb n M)(A:bT w p gb H G)(T:Touch (λk=>PF H k\/k=p) w w')(hk:¬(PF H kb\/kb=p)):bh w' mb kb n M:=by obtain⟨vb,a,b,c⟩:=h;exact⟨vb,a.az T (A.Xw a ax ax),aaO b T (λk C hC=>hC.elim (λh=>A.Xw h ax ax) (λh=>A.Xw h ax ax)),c.az T hk⟩
def XA(t:Aab):Bool:=uW t || decide (t=153) || decide (t=90) || decide (t=87) || decide (t=82)
def Yj(w:af)(b:Nat):Prop:=(∃t C,aH w b t C/\XA t=false)\/∃es c,w.heap[b]?=some (.map es c)
theorem OI(hb:aH w g t C)(ht:XA t=true):¬Yj w g:=by
 rintro(⟨t',C',aG,h⟩|⟨es,c,h⟩)
 ·grind [fj]
 ·grind [aH]
theorem bT.aar{w w':af}{p gb:Nat}(A:bT w p gb H G){F:Nat->Prop}(T:Touch F w w')(hF:∀b,F b->Yj w b):bT w' p gb H G:=by
 have K:∀{g:Nat}{t:Aab}{C:Array ah},aH w g t C->XA t=true->¬F g:=λhb ht h=>OI hb ht (hF _ h);have R:∀{α:Type}{f:α->List ah}{k:Nat}{e:Aab}{v:ah}{xs:List α},ak f k e w 0 v xs->XA e=true->∀b,v.ownBlock=some b->¬F b:=λh he b hb=>by obtain⟨C,hC⟩:=ak.e5 h hb;grind
 obtain⟨vb,vm,g1,⟨ys,y1,y2,y3⟩,om,pa⟩:=A.ga;refine⟨A.e5.az T (K A.e5 rfl),vb,vm,g1.az T (K g1 rfl),⟨ys,y1,ak.az y2 T (R y2 rfl),λy hy=>ak.az (y3 y hy) T (R (y3 y hy) rfl)⟩,ak.az om T (R om rfl),pa.az T ?_⟩;rintro b(rfl|rfl|h)
 ·exact K pa.e5 rfl
 ·obtain⟨C,hC,_⟩:=pa.map;exact K hC rfl
 ·obtain⟨v,D,_⟩:=pa.dev;rcases h with rfl|rfl|rfl|h
  ·exact K D.dev rfl
  ·exact K D.b1 rfl
  ·exact K D.b2 rfl
  ·exact R D.bP rfl b h
theorem bT.model{w w':af}{p gb mb kb n:Nat}{M:cS}(A:bT w p gb H G)(h:bh w mb kb n M)(T:Touch (λb=>b=mb\/b=kb) w w'):bT w' p gb H G:=by
 obtain⟨vb,a,b,c⟩:=h;refine A.aar T (λb hb=>?_);rcases hb with rfl|rfl
 ·exact .inl ⟨_,_,a,rfl⟩
 ·obtain⟨_,D,⟨es,clock,hb,_⟩,_⟩:=c;exact .inr ⟨_,_,hb⟩
theorem WZ(o:mP)(vd vk:ah):(prog.info? 33).map (·.size)=some (gi o vd vk).size:=av
def aaf(p mb kb n:Nat)(H:aP)(G:ch)(M:cS)(o:mP)(w:af)(e:Ab1)(w':af):Prop:=e=.returned (.bool true)/\∃s r G3 gb' H' vp M',x9 G o s r G3/\Step G M o s r M' G3/\bT w' p gb' H' G3/\bh w' mb kb (n+1) M'/\H'.h={H.h with vp:=vp}/\Touch (λk=>PF H k\/k=p\/k=mb\/k=kb) w w'/\rK H H' w.heap.size vp
def rsv(F:Nat->Prop):As:=⟨F,λw=>∀n,F n->n<w.heap.size,λh T _ n hn=>eg (h n hn) T.size⟩
theorem Sd(w:af)(p gb:Nat)(H:aP)(G:ch)(A:bT w p gb H G)(I:bm G)(B:pf G)(mb kb n:Nat)(M:cS)(AM:bh w mb kb n M)(hn:n<900000)(SM:o8 G M)(m1:M.st<=100000000)(m2:M.made<=100000000)(o:mP)(aa:o.kind≠5/\o.kind≠6)(ad ak:Option Addr)(nd cd nk ck:Nat)(aE:o.kind=4->M.st=G.P.st)(hi:RS w (.slice ad nd cd) o)(hd:κ o.data<=140737488351232)(hb1:o.data≠[]->∀k,(Acl ad nd cd).ownBlock=some k->k≠mb/\k≠kb/\¬PF H k/\k≠p/\k<w.heap.size)(aS:∀k,(PF H k\/k=p)->k≠mb/\k≠kb):Aae Aag 9 #[.pointer (some ⟨p,0,none⟩),.pointer (some ⟨mb,0,none⟩),.agg (gi o (.slice ad nd cd) (.slice ak nk ck))] w (aaf p mb kb n H G M o w):=by
 obtain⟨IM,N⟩:=aw (Th I B SM m1 m2) (H8 I B SM o);obtain⟨w0,rfl⟩:=bK w;have al:∀k,(PF H k\/k=p)->k<w0.heap.size:=λk hk=>hk.elim (λh=>A.ga.pa.lt k h) (λh=>by subst h;exact A.e5.lt);have aF:=an (WZ o (.slice ad nd cd) (.slice ak nk ck));have s:=Fr.start w0;go_in;go_wp2_with(refine fw s ?_;intro _ w s);refine(XB w p gb H G (A.up s.pure) I B o aa (.slice ad nd cd) (.slice ak nk ck) ⟨hi.nm,hi.to,aD.up hi.bs s.pure⟩ hd).mono ?_;rintro e w3⟨sc,r,G3,gb',H',vp,rfl,hR,hP,hH,hT,hV⟩;obtain⟨b3,g3⟩:=aA (s.e5 (t:=33) gR) ((s.f _ (cV (a:=bk _ 33 _)) _ rfl).2.resolve_left id);replace b3:=(b3.az hT (λh=>by have:=al _ h;omega)).range;have M3:=(AM.up s.pure).XD (A.up s.pure) hT (λh=>(aS _ h).2 rfl);obtain⟨O3,T3⟩:=aA ((aD.up hi.bs s.pure).VM hT (λhne k hk h=>by have h5:=hb1 hne k hk;exact h.elim h5.2.2.1 h5.2.2.2.1)) (Touch.and (Touch.bW (F:=λk=>PF H k\/k=p\/k=mb\/k=kb) s.pure) hT (λb hb=>.inl (hb.imp id .inl)));obtain⟨IR,SR⟩:=aw (show(prog.info? 60).map (·.size)=some (aC sc.val).size from by rw[dx,bX,sc.2]) (show(aC aK).size=(aC sc.val).size from by rw[bX,bX,sc.2];rfl);have S1:=s.pure.size;obtain⟨M',ST⟩:=VE aa I B SM aE hR;have PK:(r=71/\hh o=true/\(lT M o).2.1=0)\/(r=71/\hh o=false/\r=((lT M o).2.1:Int)/\sc=(lT M o).1)\/((r==71)=false/\r=((lT M o).2.1:Int)/\sc=(lT M o).1):=by
  rcases ST.ag with⟨h1,h2,h3⟩|⟨h1,h2,h3⟩
  ·exact .inl ⟨h1,h2,h3⟩
  ·by_cases ab:r=71
   ·exact .inr (.inl ⟨ab,by simpa[ab]using h1,h2,h3⟩)
   ·exact .inr (.inr ⟨by simpa using ab,h2,h3⟩)
 obtain⟨MS,aI,aj⟩:=aW ST hR hH;clear hR hH ST aE I B SM A AM;obtain⟨s,OB⟩:=aA (Fr.start w3) (λW (u:Up w3 W)=>show RS W (.slice ad nd cd) o from⟨hi.nm,hi.to,aD.up O3 u⟩);rcases PK with⟨h1,h2,h3⟩|⟨h1,h2,h3⟩|⟨h1,h3⟩
 case' inl=>
  subst h1;go_wp2_with(refine fw s ?_;intro _ w s);refine(Dk w o (.slice ad nd cd) (.slice ak nk ck)).mono ?_;refine eE ?_;intro w u s;have H2:=an h2;rw[h2];have z8:(((lT M o).2.1:Int)==0)=true:=by rw[h3];rfl
  replace h3:=an h3;clear h2;go_wp2_with(refine fw s ?_;intro _ w s);refine ka _ s (λ_ h=>h) (λw s=>?_) av;repeat refine kt ?_
  refine kj 2 ?_;refine Df (λw _ s=>Ku w mb kb n M (M3.up s.pure) IM.out.hl) ?_;rintro w _ s _ w'⟨m2,k2,rfl,aB,ar,a2,u⟩;have e2:w3.heap.size<=m2/\w3.heap.size<=k2:=⟨bN s.pure.size aB,bN s.pure.size ar⟩;have l2:m2<w'.heap.size/\k2<w'.heap.size:=by obtain⟨_,a,_,c⟩:=a2;exact⟨a.lt,c.lt⟩
  refine⟨_,rsv (λb=>b=m2\/b=k2),rfl,.one u (λb hb=>by rcases hb with rfl|rfl<;>first|exact l2.1|exact l2.2) (λb hb=>by rcases hb with rfl|rfl<;>exact⟨cm,ae⟩),?_⟩;repeat(first|refine kx ?_|refine kt ?_)
  refine Yu (λw u s=>A7 w m2 k2 n M (a2.up u) ae IM o aa (.slice ad nd cd) (.slice ak nk ck) (OB w s.pure) (λhne k hk=>?hne) N) ?_
  case hne=>have h5:=(hb1 hne k hk).2.2.2.2;have:=hT.size;exact⟨ae,ae⟩
  rintro w _ s _ w'⟨rfl,-,t2⟩;refine⟨_,_,rfl,.zK s (B:=rsv (λb=>b=m2\/b=k2)) .head t2 (λb hb=>?hb) (λb hb=>?hF),Wj,?_⟩
  case hb=>exact eg (s.p _ cV b hb) t2.size
  case hF=>exact⟨eg (s.p _ cV b hb) t2.size,.inl hb⟩
  obtain⟨ao,au,aq⟩:=aW (show(prog.info? 60).map (·.size)=some (aC (lT M o).1.val).size from by rw[dx,bX,(lT M o).1.2]) (show(aC aK).size=(aC (lT M o).1.val).size from by rw[bX,bX,(lT M o).1.2];rfl) (dj (lT M o).1.val);repeat(first|refine kx ?_|refine kt ?_)
  refine kn (λ_ w u s=>?_);refine ks (λw s=>?_);repeat(first|refine kx ?_|refine kt ?_)
  refine kd (λw u s=>?_);go_wp2_with(refine fw s ?_;intro _ w s);refine bB ?_;have PK:M'=M:=by
   rcases MS.out.pick with⟨_,_,h⟩|⟨h,_⟩
   ·exact h
   ·exact absurd ⟨rfl,H2⟩ h
  subst PK;exact⟨rfl,sc,71,G3,gb',H',vp,_,aI,MS,hP.up s.pure,(M3.up s.pure).more,aj,T3.iK s.pure,hV.mono S1⟩
 case' inr.inl=>
  replace h3:=an h3;have H2:=an h2;have aG:(r==71)=true:=uo
  clear h1;go_wp2_with(refine fw s ?_;intro _ w s);refine(Dk w o (.slice ad nd cd) (.slice ak nk ck)).mono ?_;refine eE ?_;intro w u s;rw[h2];clear h2;have PK:M'=(lT M o).2.2:=by
   rcases MS.out.pick with⟨h4,h5,_⟩|⟨_,h⟩
   ·rw[H2.out]at h5;cases h5
   ·exact h
  replace PK:=an PK
 case' inr.inr=>
  replace h3:=an h3;have PK:M'=(lT M o).2.2:=by
   rcases MS.out.pick with⟨h4,h5,_⟩|⟨_,h⟩
   ·rw[h4]at h1;cases h1
   ·exact h
  replace PK:=an PK
 case' inr.inl|inr.inr=>
  obtain⟨ds,aH⟩:=bK ((lT M o).1);obtain⟨dc,ai⟩:∃x:Int,x=((lT M o).2.1:Int):=⟨_,rfl⟩;obtain⟨HC,HS⟩:=aw (h3.out.1.trans ai.symm) (h3.out.2.trans aH.symm);have rr:(r==dc)=true:=by rw[HC.out];simp
  clear h3;obtain⟨ao,au,aq⟩:=aW (show(prog.info? 60).map (·.size)=some (aC ds.val).size from by rw[dx,bX,ds.2]) (show(aC aK).size=(aC ds.val).size from by rw[bX,bX,ds.2];rfl) (dj ds.val);have EQ:∀W:af,(Ack 10000 60 (.agg (aC sc.val)) (.agg (aC ds.val))).run Aag W=.ok true W:=λW=>by rw[K8 sc.val ds.val sc.2 ds.2 W,HS.out,gD rfl]
  go_wp2_with(refine fw s ?_;intro _ w s);have M5:=M3.up s.pure;have DD:=A7 _ mb kb n M M5 ae IM o aa (.slice ad nd cd) (.slice ak nk ck) (OB _ s.pure) (λhne k hk=>⟨(hb1 hne k hk).1,(hb1 hne k hk).2.1⟩) N;unfold RJ at DD;rw[<-aH,<-ai]at DD;clear aH ai;refine DD.mono ?_;rintro e w6⟨rfl,m6,t6⟩;have D5:=s.e5 (t:=60) gR;obtain⟨D6,P6,T6,s⟩:=iJ ((D5.az t6 (λh=>bh.H6 M5 D5 ax h)).range) ((hP.up s.pure).model M5 t6) ((T3.iK s.pure).and t6 (λb hb=>.inl (hb.elim (λh=>.inr (.inr (.inl h))) (λh=>.inr (.inr (.inr h)))))) (Fr.start w6);go_wp2_with(refine fw s ?_;intro _ w s);refine bB ?_;rw[<-PK.out]at m6;exact⟨rfl,sc,r,G3,gb',H',vp,_,aI,MS,P6.up s.pure,m6.up s.pure,aj,T6.iK s.pure,hV.mono S1⟩
end
end Go.Proofs.YtkpjfnbbkohciaaGreat
