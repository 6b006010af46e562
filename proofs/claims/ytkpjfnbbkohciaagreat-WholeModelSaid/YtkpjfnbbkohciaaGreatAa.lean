import Derived.Test.YtkpjfnbbkohciaaGreatRows
import Derived.Lib.Hide
import Derived.BigQuiet
import Derived.Carry
import Derived.ChangeKeysEq
import Derived.ChangeOld
import Derived.ChangeSame
import Derived.Deep.DeepAppendRoom
import Derived.Deep.MidRow
import Derived.Deep.QuietTactic
import Derived.Deep.RegionHeld3
import Derived.Deep.WholeRow
import Derived.DeepKeys4
import Derived.JoinedOf
import Derived.Laws.AppendOwnNone
import Derived.Laws.CopyOwn
import Derived.Laws.CopyRow
import Derived.Laws.IdiomStrings
import Derived.Laws.RangeAny
import Derived.Laws.RangeString
import Derived.Laws.ResultCell
import Derived.Lib.AppendZeros
import Derived.Lib.BufferWrite
import Derived.Lib.Bytealg
import Derived.Lib.IndexLaws
import Derived.Lib.QuietBelow
import Derived.Lib.SlBytesConst
import Derived.Lib.SliceRun
import Derived.Lib.Slices
import Derived.Lib.Strings
import Derived.LoopIn
import Derived.LoopNIn
import Derived.MapKept
import Derived.Maps.AppendAt
import Derived.Maps.Own
import Derived.Maps.OwnSet
import Derived.Maps.RangeWalk
import Derived.OpenShut
import Derived.Orders
import Derived.OrdersHeld
import Derived.OrdersIn
import Derived.OwnWalkIn
import Derived.ProofKit
import Derived.RangeFuncBound
import Derived.RangeFuncBox
import Derived.RangeFuncCalls
import Derived.RangeFuncFrom
import Derived.RangeFuncLeaves
import Derived.RangeFuncNested
import Derived.Shelf.Abstract
import Derived.Shelf.RegionOpen
import Derived.ShutString
import Derived.SizedLaws
import Derived.StillTail
import Derived.Stop.BytesEq
import Derived.TacticsInMore
import Derived.WalkKit
set_option maxRecDepth 100000
set_option maxHeartbeats 16000000
set_option linter.all false
open Go renaming TypeId->Aab,Addr->Adr,Oper->Abn,Ending->Ab2,madeCells->Acv,splice->Abx,execOp->Abt,yielded->Aa1,wpList->Aal,zeroValue->Acj,undef->Aas,YieldsIf->Acb,wpAnyH->Acp,Calls->Aae,results_none->Adv,wpAnyIn->Acy
open Go.Region renaming Mode->Ab0,wanted->Aaa,ready->Abi
open Go.RowKit renaming Hid->Aah,intOf->Aau
open List renaming getElem_cons_succ->Adi,replicate->Aad,flatMap_cons->Abc,length_append->Aaf,length_cons->Aaj,append_assoc->Aa9,range->Aak,all_eq_true->Ac9,mem_map->Abd,cons_append->Aa2,drop_drop->Ac4,mem_append->Aa8,range_succ->Ab5,map_append->Aar,size_toArray->Abh,length_nil->Aa4,push_toArray->Abj,append_toArray->Aba,nil_append->Aaz,length_map->Aac,length_range->Acm,length_set->Aat,mem_cons->Aam,toList_toArray->Ac0,append_nil->Ab1,length->κ
open Go.World renaming cell?->Aco,size_alloc->Aa3
open Nat renaming zero_add->Aby
open UInt8 renaming ofNat->Ab6
open Go.World.ownsRow renaming lt->Ady
open Go.Value.slice renaming injEq->Abg
open Go.Instr renaming slice->Aav,makeSlice->Acf,sureAddr->Adg,sliceAt->Abo,index->Adf
open Go.Value renaming ownBlock->Aan,int->Ack
open Go.Oper renaming wp->Aca
open Go.Result renaming andThen->Aap,andThen_ok->Aax
open Go.Sem renaming run_bind->Aay,run_pure->Ac7
open Go.Op renaming equalIn->Ach
open Go.Proofs.Tryz renaming prog->Aag,underlying60->Acs,underlying30->Aa0
open Int renaming toNat_natCast->Abp,toNat->Adp
open Bool renaming false_eq_true->Ab3,and_eq_true->Abe,and_eq_false_iff->Ac3
open Go.Result.ok renaming injEq->Adh
open Go.Fence renaming wide->Abv
open Array renaming replicate_succ->Aa6,replicate_zero->Aa7,toList_setIfInBounds->Abl
open Option.some renaming injEq->Aai
open Go.Addr.mk renaming injEq->Abq
namespace Go.Proofs.YtkpjfnbbkohciaaGreat
open Go.Proofs.Tryz Go.RowKit Go.Sort
variable{e t ty:Aab}{B b base base' cap fuel g j k m n:Nat}{a:Adr}{o:Abn}{p:Nat->Aab->Prop}{H α β:Type}{md:Ab0}{ops:Array Abn}
structure dG(p:Prop):Prop where
 dH:p
abbrev pz(b:Nat):Value:=.pointer (some ⟨b,0,none⟩)
abbrev pq(b o:Nat):Value:=.pointer (some ⟨b,o,none⟩)
abbrev i6(b:Int):Value:=.int .i64 b
abbrev u6(b:Int):Value:=.int .u64 b
abbrev cD(b n c:Nat):Value:=.slice (some ⟨b,0,none⟩) n c
abbrev sq(b o n c:Nat):Value:=.slice (some ⟨b,o,none⟩) n c
abbrev nl:Value:=.slice none 0 0
abbrev ad(b o:Nat):Adr:=⟨b,o,none⟩
abbrev rt(a:Array Value):Ab2:=.returned (.tuple a)
def an{p:Prop}(h:p):Aah p:=h
def bE{α:Sort _}(x:α):∃y,y=x:=⟨_,rfl⟩
theorem fB:(∀{α:Type}{xs:List α}{i:Nat}(h:i<xs.toArray.size),xs.toArray[i]=xs[i]'(by simpa using h))/\(∀{α:Type}(a:α)(l:List α)(i:Nat)(h:i+1<κ (a::l)),(a::l)[i+1]=l[i]'(by simpa using h))/\(∀{α:Type}(a:α)(l:List α)(h:0<κ (a::l)),(a::l)[0]=a)/\(∀{α:Type}(l:List α)(i:Nat)(a:α),l.toArray.setIfInBounds i a=(l.set i a).toArray)/\(∀{α:Type}(l:List α)(a b:α),(a::l).set 0 b=b::l)/\(∀{α:Type}(l:List α)(a b:α)(n:Nat),(a::l).set (n+1) b=a::l.set n b):=⟨λh=>List.getElem_toArray h,λa l i h=>Adi a l i h,λ_ _ _=>rfl,λ_ _ _=>List.setIfInBounds_toArray ..,λ_ _ _=>rfl,λ_ _ _ _=>rfl⟩
def aw{p0 p1:Prop}(aa:p0)(aC:p1):Aah p0/\Aah p1:=⟨aa,aC⟩
def az{p0 p1:Prop}(aa:p0)(aC:p1):p0/\p1:=⟨aa,aC⟩
def aV{p0 p1 p2:Prop}(aa:p0)(aC:p1)(aI:p2):Aah p0/\Aah p1/\Aah p2:=⟨aa,aC,aI⟩
def cZ{p0 p1 p2:Prop}(aa:p0)(aC:p1)(aI:p2):p0/\p1/\p2:=⟨aa,aC,aI⟩
def bW{p0 p1 p2 p3:Prop}(aa:p0)(aC:p1)(aI:p2)(ab:p3):Aah p0/\Aah p1/\Aah p2/\Aah p3:=⟨aa,aC,aI,ab⟩
def iv{p0 p1 p2 p3:Prop}(aa:p0)(aC:p1)(aI:p2)(ab:p3):p0/\p1/\p2/\p3:=⟨aa,aC,aI,ab⟩
def eW{p0 p1 p2 p3 p4:Prop}(aa:p0)(aC:p1)(aI:p2)(ab:p3)(ad:p4):Aah p0/\Aah p1/\Aah p2/\Aah p3/\Aah p4:=⟨aa,aC,aI,ab,ad⟩
def yj{p0 p1 p2 p3 p4:Prop}(aa:p0)(aC:p1)(aI:p2)(ab:p3)(ad:p4):p0/\p1/\p2/\p3/\p4:=⟨aa,aC,aI,ab,ad⟩
def ix{p0 p1 p2 p3 p4 p5:Prop}(aa:p0)(aC:p1)(aI:p2)(ab:p3)(ad:p4)(ae:p5):Aah p0/\Aah p1/\Aah p2/\Aah p3/\Aah p4/\Aah p5:=⟨aa,aC,aI,ab,ad,ae⟩
def q5{p0 p1 p2 p3 p4 p5:Prop}(aa:p0)(aC:p1)(aI:p2)(ab:p3)(ad:p4)(ae:p5):p0/\p1/\p2/\p3/\p4/\p5:=⟨aa,aC,aI,ab,ad,ae⟩
def yk{p0 p1 p2 p3 p4 p5 p6:Prop}(aa:p0)(aC:p1)(aI:p2)(ab:p3)(ad:p4)(ae:p5)(af:p6):Aah p0/\Aah p1/\Aah p2/\Aah p3/\Aah p4/\Aah p5/\Aah p6:=⟨aa,aC,aI,ab,ad,ae,af⟩
def Ju{p0 p1 p2 p3 p4 p5 p6 p7:Prop}(aa:p0)(aC:p1)(aI:p2)(ab:p3)(ad:p4)(ae:p5)(af:p6)(ah:p7):Aah p0/\Aah p1/\Aah p2/\Aah p3/\Aah p4/\Aah p5/\Aah p6/\Aah p7:=⟨aa,aC,aI,ab,ad,ae,af,ah⟩
def abP{p0 p1 p2 p3 p4 p5 p6 p7 p8:Prop}(aa:p0)(aC:p1)(aI:p2)(ab:p3)(ad:p4)(ae:p5)(af:p6)(ah:p7)(ai:p8):Aah p0/\Aah p1/\Aah p2/\Aah p3/\Aah p4/\Aah p5/\Aah p6/\Aah p7/\Aah p8:=⟨aa,aC,aI,ab,ad,ae,af,ah,ai⟩
def WE{p0 p1 p2 p3 p4 p5 p6 p7 p8 p9 aj:Prop}(aa:p0)(aC:p1)(aI:p2)(ab:p3)(ad:p4)(ae:p5)(af:p6)(ah:p7)(ai:p8)(al:p9)(ag:aj):Aah p0/\Aah p1/\Aah p2/\Aah p3/\Aah p4/\Aah p5/\Aah p6/\Aah p7/\Aah p8/\Aah p9/\Aah aj:=⟨aa,aC,aI,ab,ad,ae,af,ah,ai,al,ag⟩
def aaH{p0 p1 p2 p3 p4 p5 p6 p7 p8 p9 aj an:Prop}(aa:p0)(aC:p1)(aI:p2)(ab:p3)(ad:p4)(ae:p5)(af:p6)(ah:p7)(ai:p8)(al:p9)(ag:aj)(ak:an):Aah p0/\Aah p1/\Aah p2/\Aah p3/\Aah p4/\Aah p5/\Aah p6/\Aah p7/\Aah p8/\Aah p9/\Aah aj/\Aah an:=⟨aa,aC,aI,ab,ad,ae,af,ah,ai,al,ag,ak⟩
section
variable{P K:Prop}(k:K)
def abh(h:P:=by
  have b3:((k:Int)<(κ l:Int))=True:=by simp;omega
  clear k0;obtain⟨b,off,rfl,aB,da,dc,rg,dp⟩:=cf (HV.up UR) hlt;obtain⟨RG,GE⟩:=aw rg (b9 hlt);obtain⟨SC,TS,ML⟩:=aV (kS wr _ _ dp (by rw[GE.out];exact HR _ (List.getElem_mem hlt))) (C2 hlt) (show(l.take k++List.replicate (κ l-k) xk).length=κ l from by rw[List.length_append,List.length_take,List.length_replicate];omega);generalize l.take k++List.replicate (κ l-k) xk=M at *;rw[<-GE.out]at TS;generalize recAt l k=x at *;clear rg dp;go_wp2_with(first
   | refine cT 90 20 (b8 x (.slice da (κ x.dead) dc)) RG ?_)
  refine SC.mono ?_;rintro e w4⟨v',rfl,ho,u4⟩;have aa:=OS.up u4;obtain⟨cur,va,vc,aj,hn,hfit,_,_,_,aU⟩:=aa.part k (by rw[ML.out];exact hlt);obtain⟨HP,ad,HF,HO⟩:=bW aU aj hfit (ho.mono (base':=w.heap.size) UR.size);obtain⟨na,nc,rfl⟩:=(ak.row ho pw).slice;obtain⟨IN,ON,U4,D0,D1,E4⟩:=ix (ku x (.slice na (κ x.dead) nc)) (mC x na (κ x.dead) nc) (UR.trans u4) (u4.cell C0) (u4.cell C1) (BR.up u4);clear aU aj hn aa ho u4 SC OS C0 C1 BR k1;go_wp2_with(first
   | ((with_reducible refine cx 90 (.tmp 23) (.tmp 22) ?_);refine ch rfl 90 (.tmp 23) (.tmp 22) rfl (w.heap.size+2) (k*11) (b8 x (.slice na (κ x.dead) nc)) rfl rfl 90 _ ad IN HF ON ?_))
  intro w5 ar aq;have ab:=ar;rw[lX]at ab;have T5:=Touch.bg (F:=(·=w.heap.size+2)) aq (λkk aG=>by cases aG;rfl);have O5:=an (HP x na (κ x.dead) nc 0 (b8 x (.slice na (κ x.dead) nc)).toList w5 (by simp[b8]) (RJ _ _ _ _) HO ab aq);rw[TS.out]at O5;obtain⟨U5,Z0,Z1,Z2⟩:=bW (U4.grown aq (λkk aG=>by cases aG;omega)) (fC D0 T5 (by omega)) (fC D1 T5 (by omega)) (E4.ax T5 (by omega));clear ar ab aq T5 HP ad HF HO D0 D1 E4;go_wp2_with fail;go_roundw
  case rel=>exact⟨k+1,by omega,by simp,O5,U5,Z0,Z1,Z2⟩
  case measure=>simp only[intOf];omega):P:=h
def Zo(h:P:=by
  refine pL 5 _ (by kernel_rfl) rfl rfl ?_;refine wa (.tmp 56) rfl name rfl NM1 NM2 ?_;intro vn w9 hn hu aO;rw[<-HE.out]at hoa;obtain⟨HO,HN,H8,HU⟩:=bW (hoa.up hu) (hn) ((O8d.wA OO S45 hga).up hu) ((Ud.aG hba (Nat.le_of_lt SW)).trans hu);have HZ:=an (show w.heap.size<=w9.heap.size from HU.size);clear aO;obtain⟨aa,ac,rfl⟩:=HO.cu.slice;obtain⟨na,nc,rfl⟩:=HN.slice;obtain⟨la,lc,rfl⟩:=H8.cu.slice;have JN:=an (A5 _ _ _ (yh w9 aa na la _ _ _ ac nc lc _ _ _ HO.cu HN H8.cu) OKJ);have av:=mI w9 (.cells #[.slice aa (κ hdr) ac,.slice na (κ name) nc,.slice la (κ (cX dead)) lc] 30);have au:=an (ai w9 (.cells #[.slice aa (κ hdr) ac,.slice na (κ name) nc,.slice la (κ (cX dead)) lc] 30));generalize cX dead=aI at *;refine pK 7 _ (by kernel_rfl) rfl rfl ?_;intro K hK;go_simp;refine hK _ _ ?_;refine pK 8 _ (by kernel_rfl) rfl rfl ?_;intro K2 aq;go_simp;refine JN.mono ?_;rintro e aQ⟨vj,rfl,OJ,UJ⟩;refine aq _ _ ?_;refine yz 9 (.tuple #[vj,i6 0]) rfl ?_;simp only[Act.put,fB];refine yz 10 (vj) rfl ?_;simp only[Act.put,fB];refine yz 11 (i6 0) rfl ?_;simp only[Act.put,fB];refine yz 12 (vj) rfl ?_;simp only[Act.put,fB];refine yz 13 (i6 0) rfl ?_;simp only[Act.put,fB];refine⟨by kernel_rfl,?_⟩;(try simp only[Act.put]);go_wp2;go_ret2;refine .inr ⟨_,_,HT,rfl,?_,HU.trans (au.trans UJ)⟩;rw[RB.out];exact OJ.mono (by rw[av];have:=HZ.out;omega)):P:=h
def Zp(h:P:=by
  go_in;go_wp2;refine wp_region_held (S:=(λW=>aF W gb 153 (fD H.pb G.next vb vm G.u))) (by kernel_rfl) ?_;change wpAnyH _ _ _ _ _ 10 _ _ (w.drew);generalize w.drew=w1 at *;refine ta 0 ?_;refine ta 2 ?_;refine ta 3 ?_;refine ta 4 ?_;refine tb 5 rfl (yc (λW hS=>hS.cell 0)) ?_;refine ok 1 ?_;intro K hK;go_simp;refine CO.mono ?_;rintro e w2⟨rfl,u2⟩;obtain⟨FS2,U2⟩:=aw (Fzq.up u2) (UD.trans u2);refine hK _ _ FS2 ?_;clear hK K;refine ok 6 ?_;intro K hK;go_simp;refine(PM w2 U2).mono ?_;rintro e wx⟨rfl,aM⟩;rw[<-aM];clear aM;refine hK _ _ FS2 ?_;clear hK K;refine ok 7 ?_;intro K hK;go_simp;refine(CN w2 U2).mono ?_;rintro e wx⟨rfl,aM⟩;rw[<-aM];clear aM;refine hK _ _ FS2 ?_;clear hK K;refine ta 8 ?_;refine ta 9 ?_;refine dn ?_;go_wp2;go_ret;exact⟨by rw[HR.out];rfl,U2⟩):P:=h
def Zq(h:P:=by
  clear sza;go_wp2_with fail;refine PT.mono ?_;rintro e w7⟨vp,rfl,op,u7⟩;obtain⟨U7,OP,ar⟩:=aV (U6.trans u7) op.cu (OL6.up u7);obtain⟨pa,pc,ag⟩:=op.cu.slice;rw[ij]at ag;subst ag;have P2:=an (ij (κ l));have MK:=λW=>D5 (P:=prog) 30 5 (.int .u8 0) 1 underlying30 eX n (by omega) (by omega) W;have U8:=an (ai w7 (.cells (kg (.int .u8 0) n) 5));obtain⟨aE,aA,NE⟩:=aV (OP.up U8) (ar.up U8) (show(Value.slice la (5*κ l) lc).ownBlock≠some w7.heap.size from λe=>by have:=(ar.aJ _ e).2;omega);have Z8:=aF.new w7 5 (kg (.int .u8 0) n);obtain⟨WN,aH⟩:=aw (show w.heap.size<=w7.heap.size from U7.size) (U7.trans U8);have ba:∀W,(Instr.slice 30 (cD w7.heap.size n n) (some (i6 2)) none none).run prog W=.ok (sq w7.heap.size 2 (n-2) (n-2)) W:=λW=>by exact X6
  go_wp2_with((with_reducible refine zU (.tmp 74) (.tmp 75) 30 30 ?_);refine hJ rfl (.tmp 74) (.tmp 75) 30 30 rfl 5 underlying30 (by kernel_rfl) aK cy w7.heap.size 0 n n rfl (.slice pa 2 pc) (aW [2] [κ l]) rfl aE (by rw[P2.out];omega) 5 _ Z8 (by rw[P2.out,sd];omega) ?_);intro w9 aM aI ax;obtain⟨B9,aC,U9⟩:=aV (show aF w9 w7.heap.size 5 ((splice (List.replicate n (0:UInt8)) 0 (aW [2] [κ l])).map aK).toArray from by rw[<-Ch];have:=aM;rw[Mm]at this;exact this) (show Own aK 5 w9 w4.heap.size (.slice la (5*κ l) lc) (iC (l.map dI))from World.ownsRow.kept aA ax (.inr NE)) (aH.aG aI WN);clear MK;go_wp2_with((with_reducible refine zU (.tmp 78) (.tmp 79) 30 30 ?_);refine hJ rfl (.tmp 78) (.tmp 79) 30 30 rfl 5 underlying30 (by kernel_rfl) aK cy w7.heap.size 2 (n-2) (n-2) rfl (.slice la (5*κ l) lc) (iC (l.map dI)) rfl aC.cu (by rw[LB.out];omega) 5 _ B9 (by rw[LB.out];unfold splice;simp;omega) ?_);intro aQ aq ao aO;have bo:=an (show aF aQ w7.heap.size 5 ((iS t l).map aK).toArray from by rw[HST.out,<-LB.out,<-G5 P2.out (by rw[LB.out];omega),<-Ch];exact aq)
  obtain⟨U10,av⟩:=aw (U9.aG ao WN) (show(iS t l).length=n by rw[HST.out,List.length_append,List.length_append,P2.out,LB.out,List.length_replicate];omega);go_wp2;go_ret2;refine⟨_,rfl,?_,U10⟩;have:=Lr bo WN (by rw[av.out];omega);rw[av.out]at this;exact this):P:=h
def Zr(h:P:=by
  obtain⟨ab,cb,rfl⟩:=os7.cm.slice;obtain⟨zs,e,z⟩:=Rz.s os7 u s.t.size;have s:=s.new z;have E:=an (show n9 M full=(0,Qe M nx l2 (BM M.l full).id)from by rw[DM.out];unfold Dq EG;rw[hr];rfl);clear hr;go_wp2_with(refine fw s ?_;intro _ w s);have e0:w.cell? ⟨_,0,none⟩=some (.int .u64 (y.id:Int)):=(s.fg (t:=90) gG).cell 0;have c2:w.cell? ⟨mb,2,none⟩=some (.map (some kb)):=(bm.up s.pure).cell 2;refine wp_region_still_tail 6 (by kernel_rfl) (by kernel_rfl) ?_;simp only[List.take_succ_cons,List.take_zero,List.drop_succ_cons,List.drop_zero];change wpStill _ _ w.drew (λa'=>wpList _ _ _ _ a' w.drew) _ _;have UD:=Up.drew (Up.refl w);replace e0:=UD.cell e0;replace c2:=UD.cell c2;have s:=s.up UD;generalize w.drew=w9 at *;repeat still_step
  refine wpStill_nil ?_;have A9:=an (HA.up s.pure);obtain⟨au,aq,-,ao⟩:=A9.out;have B9:aF w9 _ 73 (aO nx (.slice ab (κ l2) cb)):=s.fg gG;have O9:=s.cm (ys:=zs);rw[e]at O9;go_wp2_with(at_delete;refine Y8 rfl (.tmp 57) (.tmp 59) rfl kb n M.B rfl ao y.id rfl YI ?_);intro aQ al g10;have bB:=Touch.bg (F:=(·=kb)) g10 (λk hk=>by cases hk;rfl);have bo:=an (B9.ax bB (λe=>ao.ne B9 e.symm));have ag:=aq.ax bB (λe=>ao.ne aq e.symm);go_wp2_with(first
   | refine cY 73 10 bo ?_
   | ((with_reducible refine cx 73 (.tmp 63) (.tmp 61) ?_);refine ch rfl 73 (.tmp 63) (.tmp 61) rfl mb 0 (aO nx (.slice ab (κ l2) cb)) rfl rfl 76 _ ag (dW nx _) (by simp[nT,aO]) (hZ nx ab (κ l2) cb) ?_))
  intro w11 ad ai;rw[vq]at ad;have H:=OW A9 (O9.mono (Nat.zero_le _)) (al.mono (Nat.le_succ _)) g10 ad ai;go_wp2_with fail;go_ret;rw[E.out,<-hy.out];exact⟨rfl,H.1,(Touch.bP s.pure).and H.2 (λb hb=>.inl hb)⟩):P:=h
def Zs(h:P:=by
  have aB:=up1.trans up4;clear up1 up4;obtain⟨c0,d0,d1,d2⟩:=CA' w4 aB;have aR:=ai w4 (.cells zr 87);obtain⟨aj,ar⟩:=az (aB.trans aR) (RM w4 w0.heap.size aB.size);have p1:=aH.up PI1' aj;obtain⟨f0,f1,f2,f3⟩:=CA' _ aj;have hz0:=aj.size;go_wp2_with(at_builtin;refine eU pw rfl (.tmp 33) (.tmp 36) 88 rfl w0.heap.size 87 (.agg #[i6 0,u6 0,.int .u32 0]) 24 underlying88 hy w4.heap.size (κ l+1) 0 [] rfl rfl ar pv1 (l.take i) rfl p1 i (by simp;omega) (by omega) hz0 ?_);intro w6 aa _ b6;try rw[List.nil_append]at aa
  have aK:Up w0 w6:=aj.aG b6 (Nat.le_refl _);clear c0 d0 d1 d2 f0 f1 f2 f3 ar p1 b6 hz0 aR aj aB;obtain⟨c0,d0,d1,d2⟩:=CA' _ aK;obtain⟨aC,aI⟩:=az (aK.trans (ai w6 (.cells #[i6 ql,u6 (qb:Int),.int .u32 (qs:Int)] 87))) (aa.up (ai w6 (.cells #[i6 ql,u6 (qb:Int),.int .u32 (qs:Int)] 87)));have aM:=aC.size;obtain⟨f0,f1,f2,f3⟩:=CA' _ aC;go_wp2_with(at_builtin;refine eU pw rfl (.tmp 38) (.tmp 40) 88 rfl w0.heap.size 87 (.agg #[i6 0,u6 0,.int .u32 0]) 24 underlying88 hy w4.heap.size (κ l+1) i (l.take i) Lt.symm rfl aI (cD w6.heap.size 1 1) [⟨ql,qb,qs⟩] rfl (rU w6 _ rfl ql qb qs) (i+1) (by simp;omega) (by omega) aM ?_);intro w8 ax _ b8;have aD:Up w0 w8:=aC.aG b8 (Nat.le_refl _);clear c0 d0 d1 d2 f0 f1 f2 f3 aa aI b8 aM aC aK;obtain⟨c0,d0,d1,d2⟩:=CA' _ aD;obtain⟨p2,a6⟩:=az (aH.up PI2' aD) aD.size;go_wp2_with(at_builtin;refine eU pw rfl (.tmp 42) (.tmp 45) 88 rfl w0.heap.size 87 (.agg #[i6 0,u6 0,.int .u32 0]) 24 underlying88 hy w4.heap.size (κ l+1) (i+1) (l.take i++[⟨ql,qb,qs⟩]) (by simp;omega) rfl ax pv2 (l.drop i) rfl p2 (κ l+1) (by simp;omega) (by omega) a6 ?_);intro w9 aA _ b9;go_wp2_with fail;go_ret2;exact⟨_,rfl,aA.mono aJ.size,(aJ.trans aD).aG b9 aJ.size⟩):P:=h
def abi(h:P:=by
  obtain⟨a2,c2,rfl⟩:=os.cm.slice;obtain⟨zs,e2,z⟩:=Rz.s os u s.t.size;refine⟨_,_,rfl,z,?_⟩;repeat refine kt ?_
  refine kn (λ_ w u s=>?_);refine ks (λw s=>?_);refine kt ?_;refine kd (λw u s=>?_);obtain⟨k1,k2,k3,k4⟩:=K.ok nx l' hx;go_wp2_with(refine fw s ?_;intro _ w s);have g6:=s.cm (ys:=zs);rw[e2]at g6;refine(n' w gb H G (A.up s.pure) nx _ l' g6.cm k2 k4).mono ?_;rintro e w6⟨rfl,a6,t6⟩;obtain⟨aa,ab,g1,_⟩:=A.up s.pure;have c:=s.fg (t:=100) gG;replace c:=c.ax t6 (e5 c g1 (by decide));obtain⟨T,s,rg⟩:=cZ ((Touch.bP (F:=λk=>PF H k\/k=gb) s.pure).trans (t6.mono (F':=λk=>PF H k\/k=gb) (λ_ h=>.inr h)) (λ_ h _=>h)) (Fr.start w6) c.range;go_wp2_with(refine fw s ?_;intro _ w s);obtain⟨r,ag⟩:∃r:Int,r=wu (id {G with next:=nx,l:=l'}):=⟨_,rfl⟩;have hr:=an ag;clear ag;have FT:Calls prog 44 #[j9 gb] w λe w'=>e=.returned (.int .i64 r)/\Up w w':=by rw[hr.out];exact BQ w gb H _ (a6.up s.pure) k1 k3 s4
  refine FT.mono ?_;rintro e w⟨rfl,u⟩;have s:=s.up u;go_wp2_with fail;refine me s ?_;exact⟨r,_,H.h.vp,rfl,.inr ⟨nx,l',hx,rfl,hr⟩,a6.up s.pure,T.iZ s.pure,λ_ h=>.inl h⟩):P:=h
def Zt(h:P:=by
  refine hK _ _ F7.1 ?_;clear hK K;refine tk 12 (.tuple #[vp,i6 0]) rfl ya (F7.1) ?_;refine tk 13 (vp) rfl ya (F7.1) ?_;refine tk 14 (i6 0) rfl ya (F7.1) ?_;refine tk 15 (vp) rfl ya (F7.1) ?_;refine tk 16 (i6 0) rfl ya (F7.1) ?_;refine dn ?_;obtain⟨OP,OZ,UZ⟩:=aV (show Own aK 5 w7 w4.heap.size vp bb from by rw[BB.out];exact OP) (O3.up F7.2) (U3.trans F7.2);have aq:=an (show a8 w7 vp bb from OP.cu);clear F4 F5 F6 F7 BB wx wy HRR;obtain⟨za,zc,ak⟩:=aq.slice;rw[HBL.out]at ak;subst ak;obtain⟨n1,n2⟩:=aw (show(κ il+κ bb)*1<=140737488355328 by have:=HBL.out;omega) (show κ il+κ bb<=9223372036854775807 by have:=HBL.out;omega);go_wp2_with(at_builtin;refine bu aK cy rfl (.tmp 45) (.tmp 46) 30 rfl w.heap.size 5 (.int .u8 0) 1 underlying30 eX rfl _ _ rfl OZ (.slice za 5 zc) bb rfl aq n1 n2 UZ.size ?_);intro v8 w8 ax aB av;obtain⟨U8,O8⟩:=aw (UZ.aG av (Nat.le_refl _)) ax;go_wp2;go_roundw
  case rel=>exact⟨k+1,by omega,by simp,by rw[NX.out];exact O8,U8⟩
  case measure=>simp[intOf];omega):P:=h
def abj(h:P:=by
  intro K hK;refine fm _ rfl _ iL ?_;obtain⟨u5,b5⟩:=az (ai w4 (.cells (aO 0 (nl)) 73)) (aF.new w4 73 (aO 0 (nl)));refine hK _ _ u5 ?_;clear hK K;(try simp only[Act.put,fB]);refine ok 8 ?_;intro K hK;go_simp;refine(CA _ u5).mono ?_;intro e W h;obtain⟨nx,va,vm,vc,nn,rfl,rq,au⟩:=jr.of h RNZ;obtain⟨u6,b6,s5⟩:=cZ (u5.trans au) (b5.up au) (Nat.le_refl w4.heap.size);refine hK _ _ u6 ?_;clear hK K;(try simp only[Act.put,fB]);obtain⟨q,hq⟩:=bE (w4.heap.size);rw[<-hq]at b6 ⊢;refine ta 9 ?_;refine ta 10 ?_;refine ta 11 ?_;(try simp only[Act.put,fB]);exact FIN q W nx va vm vc nn (an ⟨u6,b6,by omega,rq⟩)):P:=h
def Zu(h:P:=by
  refine hK _ _ F7.1 ?_;clear hK K;refine tk 12 (.tuple #[vp,i6 0]) rfl ya (F7.1) ?_;refine tk 13 (vp) rfl ya (F7.1) ?_;refine tk 14 (i6 0) rfl ya (F7.1) ?_;refine tk 15 (vp) rfl ya (F7.1) ?_;refine tk 16 (i6 0) rfl ya (F7.1) ?_;refine dn ?_;obtain⟨OP,OZ,UZ⟩:=aV (show Own aK 5 w7 w4.heap.size vp bb from by rw[BB.out];exact OP) (O3.up F7.2) (U3.trans F7.2);have aq:=an (show a8 w7 vp bb from OP.cu);clear F4 F5 F6 F7 BB wx wy HRR;obtain⟨za,zc,ak⟩:=aq.slice;rw[HBL.out]at ak;subst ak;obtain⟨n1,n2⟩:=aw (show(κ il+κ bb)*1<=140737488355328 by have:=HBL.out;omega) (show κ il+κ bb<=9223372036854775807 by have:=HBL.out;omega);go_wp2_with(at_builtin;refine bu aK cy rfl (.tmp 45) (.tmp 46) 30 rfl w.heap.size 5 (.int .u8 0) 1 underlying30 eX rfl _ _ rfl OZ (.slice za 5 zc) bb rfl aq n1 n2 UZ.size ?_);intro v8 w8 ax aB av;have U8:=an (UZ.aG av (Nat.le_refl _));go_wp2;go_roundw
  case rel=>exact⟨k+1,by omega,by simp,by rw[NX.out];exact ax,U8⟩
  case measure=>simp[intOf];omega):P:=h
def Z7(h:P:=by
  intro K hK;go_simp;refine(CA w4 (Up.refl _)).mono ?_;intro e w5 h;obtain⟨nx,va,vm,vc,nn,rfl,rq,u5⟩:=jr.of h RNZ;obtain⟨u6,b6,aD,s5⟩:=iv (u5.trans (ai w5 (.cells (aO 0 (nl)) 73))) (aF.new w5 73 (aO 0 (nl))) (rq.up (ai w5 (.cells (aO 0 (nl)) 73))) u5.size;refine hK _ _ u5 ?_;clear hK K;(try simp only[Act.put,fB]);refine ta 9 ?_;refine ta 10 ?_;refine ta 11 ?_;(try simp only[Act.put,fB]);refine ok 12 ?_;intro K hK;refine fm _ rfl _ iL ?_;refine hK _ _ u6 ?_;clear hK K;(try simp only[Act.put,fB]);generalize w5.alloc (.cells (aO 0 (nl)) 73)=W at *;generalize w5.heap.size=q at *;exact FIN q W nx va vm vc nn (an ⟨u6,b6,s5,aD⟩)):P:=h
def Uw(h:P:=by
  go_in;go_wp2_with(refine arm ?_);refine wp_region_still_tail 6 (by kernel_rfl) (by kernel_rfl) ?_;simp only[List.take_succ_cons,List.take_zero,List.drop_succ_cons,List.drop_zero];change wpStill _ _ (World.drew _) (λa'=>wpList _ _ _ _ a' (World.drew _)) _ _;repeat still_step
  refine wpStill_nil ?_;go_wp2;refine wp_region_still_tail 6 (by kernel_rfl) (by kernel_rfl) ?_;simp only[List.take_succ_cons,List.take_zero,List.drop_succ_cons,List.drop_zero];change wpStill _ _ (World.drew _) (λa'=>wpList _ _ _ _ a' (World.drew _)) _ _;repeat still_step
  refine wpStill_nil ?_;go_wp2_with fail;refine FR.mono ?_;rintro e w5⟨rfl,S5,T5⟩;obtain⟨A5,T5⟩:=aw (A2.G2 S5 T5) ((Touch.bP (F:=PF H) U2).trans (T5.mono (F':=PF H) (λn h=>.inr (.inl h))) (λn h _=>h));go_wp2;go_ret;exact⟨⟨_,rfl⟩,by rw[HS.out];exact A5,T5⟩):P:=h
def Ux(h:dG K->P:=by
  intro ζ;obtain⟨w2,hw2⟩:=bE ((w.alloc (.cells (gx o vd vk) 33)).alloc (.cells (aC aM) 60));obtain⟨u1,u2⟩:=az (ai w (.cells (gx o vd vk) 33)) (ai (w.alloc (.cells (gx o vd vk) 33)) (.cells (aC aM) 60));obtain⟨b1,b2⟩:=az ((aF.new w 33 (gx o vd vk)).up u2) (aF.new (w.alloc (.cells (gx o vd vk) 33)) 60 (aC aM));rw[aN]at b2;have UU:=an (u1.trans u2);rw[<-hw2]at b1 b2 UU;obtain⟨HW2,S2,LT,IS⟩:=bW hw2 (show w2.heap.size=w.heap.size+2 from by rw[hw2];simp only[aN]) (show(∀k,cM H.h k->k<w.heap.size)/\p<w.heap.size from⟨λk hk=>A.ga.pa.lt k (.inr (.inr hk)),A.fg.lt⟩) (show(prog.info? 60).map (·.size)=some (aC aM).size from dw);have c0:w2.cell? (ad w.heap.size 0)=some (i6 o.kind):=b1.cell 0;have c1:w2.cell? (ad w.heap.size 1)=some (.string (strOf o.name)):=b1.cell 1;have c3:w2.cell? (ad w.heap.size 3)=some (i6 o.n):=b1.cell 3;rw[hw2]at c0;rw[hw2]at c1;rw[hw2]at c3;rw[hk]at c0;go_in;revert c0;revert c3;revert c1;revert IS;revert LT;revert S2;revert HW2;revert UU;revert b2;revert b1;revert u2;revert u1;revert hw2;revert w2;exact ζ.dH):P:=h ⟨k⟩
def Uy(h:P:=by
  (try simp only[Act.put,fB]);refine Z5 4 (u6 (pv:Int)) rfl rfl (QO x4) ?_;(try simp only[Act.put,fB]);refine zQ 6 (.bool false) rfl rfl ?_;(try simp only[Act.put,fB]);refine zQ 7 (.bool false) rfl rfl ?_;(try simp only[Act.put,fB]);refine wpAnyIn_take (i:=8) (v:=undef) rfl rfl (by kernel_rfl) (by kernel_rfl) (by kernel_rfl) (λ_ _ _ h=>h) (⟨.inr ⟨rfl,rfl⟩,λ_=>rfl⟩) ?_;(try simp only[Act.put,fB]);refine wpAnyIn_take (i:=9) (v:=undef) rfl rfl (by kernel_rfl) (by kernel_rfl) (by kernel_rfl) (λ_ _ _ h=>h) (⟨.inr ⟨rfl,rfl⟩,λ_=>rfl⟩) ?_;(try simp only[Act.put,fB]);refine wpAnyIn_take (i:=10) (v:=undef) rfl rfl (by kernel_rfl) (by kernel_rfl) (by kernel_rfl) (λ_ _ _ h=>h) (⟨.inr ⟨rfl,rfl⟩,λ_=>rfl⟩) ?_;(try simp only[Act.put,fB]);refine wpAnyIn_take (i:=11) (v:=undef) rfl rfl (by kernel_rfl) (by kernel_rfl) (by kernel_rfl) (λ_ _ _ h=>h) (⟨.inr ⟨rfl,rfl⟩,λ_=>rfl⟩) ?_;(try simp only[Act.put,fB]);refine zQ 12 (.bool false) rfl rfl ?_;(try simp only[Act.put,fB]);refine wpAnyIn_done (by kernel_rfl) ?_ _;gi_wp2;exact⟨⟨k+1,hlt,by simp,by rw[HP.out];exact JD,KD⟩,by simp only[intOf];omega⟩):P:=h
def Uz(h:P:=by
  intro w6 aY aH;have u6:=HP.1.grown aH (λk hk=>by cases hk;exact HP.2.2.1);obtain⟨A6,aa⟩:=aw ((HA.up UD).up u6) ((B2.up UD).up u6);refine hK _ _ u6 ?_;clear hK K CA RNZ;(try simp only[Act.put,fB]);refine ta 14 ?_;(try simp only[Act.put,fB]);refine dn ?_;go_wp2_with(refine arm ?_);refine(wS _ _ _ n M A6 HN RR.val _ _ _ _ _ (HP.2.2.2.grown HP.2.1 (by decide) aH) HNEW).mono ?_;rintro e w7⟨rfl,A7,T7⟩;have B7:=an (aa.ax T7 (A6.IC aa (by decide)));go_wp2_with(first|refine arm ?_|refine oJ ?_);intro wz hbz ag;have H:=an (oP A7 ((Touch.bP (F:=λb=>b=mb\/b=kb) ((UU.trans UD).trans u6)).and T7 (λb hb=>.inl hb)) B7 (Nat.le_succ _) ag);go_wp2;(try simp only[exi]);exact bG (hi:=IS) (.tuple #[.agg (aC aM),i6 (((lg M RR.val).1:Nat):Int)]) hbz ⟨rfl,H.1,H.2⟩):P:=h
def Ga(h:dG K->P:=by
  intro ζ;obtain⟨w2,hw2⟩:=bE ((w.alloc (.cells (gx o vd vk) 33)).alloc (.cells (aC aM) 60));obtain⟨u1,u2⟩:=az (ai w (.cells (gx o vd vk) 33)) (ai (w.alloc (.cells (gx o vd vk) 33)) (.cells (aC aM) 60));obtain⟨b1,b2⟩:=az ((aF.new w 33 (gx o vd vk)).up u2) (aF.new (w.alloc (.cells (gx o vd vk) 33)) 60 (aC aM));rw[aN]at b2;have UU:=an (u1.trans u2);rw[<-hw2]at b1 b2 UU;obtain⟨HW2,S2,LT,IS⟩:=bW hw2 (show w2.heap.size=w.heap.size+2 from by rw[hw2];simp only[aN]) (show(∀k,cM H.h k->k<w.heap.size)/\p<w.heap.size from⟨λk hk=>A.ga.pa.lt k (.inr (.inr hk)),A.fg.lt⟩) (show(prog.info? 60).map (·.size)=some (aC aM).size from dw);have c0:w2.cell? (ad w.heap.size 0)=some (i6 o.kind):=b1.cell 0;have c1:w2.cell? (ad w.heap.size 1)=some (.string (strOf o.name)):=b1.cell 1;rw[hw2]at c0;rw[hw2]at c1;rw[hk]at c0;go_in;revert c0;revert c1;revert IS;revert LT;revert S2;revert HW2;revert UU;revert b2;revert b1;revert u2;revert u1;revert hw2;revert w2;exact ζ.dH):P:=h ⟨k⟩
def UA(h:dG K->P:=by
  intro ζ;obtain⟨w2,hw2⟩:=bE ((w.alloc (.cells (gx o vd vk) 33)).alloc (.cells (aC aM) 60));obtain⟨u1,u2⟩:=az (ai w (.cells (gx o vd vk) 33)) (ai (w.alloc (.cells (gx o vd vk) 33)) (.cells (aC aM) 60));obtain⟨b1,b2⟩:=az ((aF.new w 33 (gx o vd vk)).up u2) (aF.new (w.alloc (.cells (gx o vd vk) 33)) 60 (aC aM));rw[aN]at b2;have UU:=an (u1.trans u2);rw[<-hw2]at b1 b2 UU;obtain⟨HW2,HA,HN,IS⟩:=bW hw2 (A.up UU) hn (show(prog.info? 60).map (·.size)=some (aC aM).size from dw);have c0:w2.cell? (ad w.heap.size 0)=some (i6 o.kind):=b1.cell 0;have c1:w2.cell? (ad w.heap.size 1)=some (.string (strOf o.name)):=b1.cell 1;rw[hw2]at c1;rw[hw2]at c0;rw[hk]at c0;go_in;revert c0;revert c1;revert IS;revert HN;revert HA;revert HW2;revert UU;revert b2;revert b1;revert u2;revert u1;revert hw2;revert w2;exact ζ.dH):P:=h ⟨k⟩
def Z8(h:P:=by
  obtain rfl:k=κ l:=by omega
  have b3:((κ l:Int)<(κ l:Int))=False:=by simp
  have os:=OS.out;rw[List.take_length,Nat.sub_self,List.replicate_zero,List.append_nil]at os;obtain⟨O9,a7,IB⟩:=aV os (Ac next (some ⟨w.heap.size+2,0,none⟩) (κ l) (κ l)) (dW next (.slice (some ⟨w.heap.size+2,0,none⟩) (κ l) (κ l)));clear os OS k1;go_wp2_with(first
   | ((with_reducible refine eP 73 #[(0,.tmp 26),(1,.tmp 27)] ?_);refine kV rfl 73 0 1 (.tmp 26) (.tmp 27) rfl _ _ (aO next (.slice (some ⟨w.heap.size+2,0,none⟩) (κ l) (κ l))) a7 rfl rfl ?_)
   | refine db 73 2 28 (aO next (.slice (some ⟨w.heap.size+2,0,none⟩) (κ l) (κ l))) BR ?_)
  intro wz hbz ag;obtain⟨BZ,UZ⟩:=aw hbz (UR.grown ag (λkk aG=>by cases aG;omega));obtain⟨ys,h1,h2,h3⟩:=O9.out;have OZ:=an (show bc wz w.heap.size (.slice (some ⟨w.heap.size+2,0,none⟩) (κ l) (κ l)) l from⟨ys,h1,ak.kept h2 ag (.inr (by simp[Value.ownBlock])),λy hy=>ak.kept (h3 y hy) ag (.inr (eB (by decide) BR (h3 y hy)))⟩);clear hbz ag h1 h2 h3;go_wp2_with fail;(try simp only[exi]);exact bodyPost_ret (v:=.agg (aO next (.slice (some ⟨w.heap.size+2,0,none⟩) (κ l) (κ l)))) (nG rfl _ _ _ (w.heap.size+1) 73 _ rfl BZ _ underlying73 rfl IB) rfl ⟨_,rfl,OZ,UZ⟩):P:=h
def UB(h:P:=by
  (try simp only[Act.put,fB]);refine Z5 4 (u6 (id:Int)) rfl rfl (QO x4) ?_;(try simp only[Act.put,fB]);refine zQ 6 (.bool true) rfl rfl ?_;(try simp only[Act.put,fB]);refine zQ 7 (.bool true) rfl rfl ?_;(try simp only[Act.put,fB]);refine zQ 8 (.func (.yield lp) #[] #[]) rfl rfl ?_;(try simp only[Act.put,fB]);refine zQ 9 (i6 (k:Int)) rfl rfl ?_;(try simp only[Act.put,fB]);refine vY 10 (by kernel_rfl) rfl rfl ?_;intro K hK;go_simp;refine HR.mono ?_;rintro e W3(⟨rfl,aC,aA⟩|⟨rfl,ak⟩)
  ·exact UU
  ·exact UP):P:=h
def Gf(h:dG K->P:=by
  intro ζ;obtain⟨w2,hw2⟩:=bE ((w.alloc (.cells (gx o vd vk) 33)).alloc (.cells (aC aM) 60));obtain⟨u1,u2⟩:=az (ai w (.cells (gx o vd vk) 33)) (ai (w.alloc (.cells (gx o vd vk) 33)) (.cells (aC aM) 60));obtain⟨b1,b2⟩:=az ((aF.new w 33 (gx o vd vk)).up u2) (aF.new (w.alloc (.cells (gx o vd vk) 33)) 60 (aC aM));rw[aN]at b2;have UU:=an (u1.trans u2);rw[<-hw2]at b1 b2 UU;obtain⟨B1,B2,HW2,HA,HN,HI,IS⟩:=yk b1 b2 hw2 (A.up UU) hn I (show(prog.info? 60).map (·.size)=some (aC aM).size from dw);obtain⟨vb,bm,os,ma⟩:=HA.out;have hv:=os.cm;revert hv;revert ma;revert os;revert bm;revert vb;revert IS;revert HI;revert HN;revert HA;revert HW2;revert B2;revert B1;revert UU;revert b2;revert b1;revert u2;revert u1;revert hw2;revert w2;exact ζ.dH):P:=h ⟨k⟩
def UC(h:dG K->P:=by
  intro ζ;obtain⟨HV,HR,U1,U2⟩:=bW hv hr (ai w (.cells (aO next (.slice la (κ l) lc)) 73)) (ai (w.alloc (.cells (aO next (.slice la (κ l) lc)) 73)) (.cells (aO 0 (.slice none 0 0)) 73));have b1:=(aF.new w 73 (aO next (.slice la (κ l) lc))).up U2;have c0:((w.alloc (.cells (aO next (.slice la (κ l) lc)) 73)).alloc (.cells (aO 0 (.slice none 0 0)) 73)).cell? ⟨w.heap.size,0,none⟩=some (.int .u64 (next:Int)):=b1.cell 0;have c1:((w.alloc (.cells (aO next (.slice la (κ l) lc)) 73)).alloc (.cells (aO 0 (.slice none 0 0)) 73)).cell? ⟨w.heap.size,1,none⟩=some (.slice la (κ l) lc):=b1.cell 1;have b2:=aF.new (w.alloc (.cells (aO next (.slice la (κ l) lc)) 73)) 73 (aO 0 (.slice none 0 0));rw[aN]at b2;obtain⟨B2,UU,C1,C0,SZ⟩:=eW b2 (U1.trans U2) c1 c0 (show((w.alloc (.cells (aO next (.slice la (κ l) lc)) 73)).alloc (.cells (aO 0 (.slice none 0 0)) 73)).heap.size=w.heap.size+2 by rw[aN,aN]);have MK:∀W:World,(Instr.makeSlice 71 (.int .i64 (κ l:Int)) (.int .i64 (κ l:Int))).run prog W=.ok (.slice (some ⟨W.heap.size,0,none⟩) (κ l) (κ l)) (W.alloc (.cells (madeCells b6 (κ l*11)) 90)):=λW=>B8 71 90 (.agg b6) 11 112 underlying71 kr (κ l) (by omega) (by omega) W;clear b1 b2;revert MK;revert SZ;revert C0;revert C1;revert UU;revert B2;revert c1;revert c0;revert U2;revert U1;revert HR;revert HV;exact ζ.dH):P:=h ⟨k⟩
def UD(h:P:=by
  clear hvo hn;go_in;go_wp2_with(first
   | refine hs 73 0 (aO next (.slice a (κ l) cap)) ?_)
  refine VN.mono ?_;rintro e w2⟨rfl,u2⟩;obtain⟨U2,B2⟩:=aw (U1.trans u2) (B1.up u2);clear u2;go_wp2_with(first
   | refine cY 73 2 B2 ?_)
  refine(RN _ U2).mono ?_;rintro e w3⟨rfl,u3⟩;have U3:=an (U2.trans u3);clear u3;go_wp2_with fail;go_ret2;exact⟨by rw[HE.out];rfl,U3⟩):P:=h
def UE(h:P:=by
  clear h2 HF2 HF3;go_in;go_wp2_with fail;refine P1.mono ?_;rintro e w2⟨rfl,hw2⟩;rw[hw2];clear hw2;go_wp2_with fail;refine P2.mono ?_;rintro e w2⟨rfl,hw2⟩;rw[hw2];clear hw2;go_wp2;go_ret;exact⟨by rw[HE.out];rfl,rfl⟩):P:=h
def UF(h:dG K->P:=by
  intro ζ;obtain⟨G7,GV,GL⟩:=aV (show w.heap.size+7<=w5.heap.size from by have:=J5.c2.lt;omega) (show(Value.slice vd (κ pre) vc).ownBlock≠some w5.heap.size from λe=>by have:=(J5.ov.aJ _ e).2;omega) (show ga<w5.heap.size from World.block_lt_of_cell? w5 _ CA5);refine ok 11 ?_;intro K hK;refine fm 87 rfl (be hole) fL ?_;have u8:=ai w5 (.cells (be hole) 87);obtain⟨J6,aq,B8,K8⟩:=bW (J5.up u8) (u8.cell CA5) (aF.new w5 87 (be hole)) (KeepsOthers.alloc w5 (.cells (be hole) 87));have S8:=an (show aF (w5.alloc (.cells (be hole) 87)) w.heap.size 94 #[pz H.pb]/\aF (w5.alloc (.cells (be hole) 87)) (w.heap.size+1) 41 #[sq ga offa (κ ats) ac]/\aF (w5.alloc (.cells (be hole) 87)) (w.heap.size+1+1+1+1) 88 #[.slice vd (κ pre) vc]/\(w5.alloc (.cells (be hole) 87)).cell? (ad ga (offa+κ pre))=some (i6 (i:Int))from⟨J6.x3,J6.x5,J6.x8,aq⟩);refine hK _ _ S8 ?_;clear hK K;(try simp only[Act.put,fB]);revert S8;revert K8;revert B8;revert aq;revert J6;revert u8;revert GL;revert GV;revert G7;exact ζ.dH):P:=h ⟨k⟩
def UG(h:dG K->P:=by
  intro ζ;obtain⟨w2,hw2⟩:=bE ((w.alloc (.cells (gx o vd vk) 33)).alloc (.cells (aC aM) 60));obtain⟨u1,u2⟩:=az (ai w (.cells (gx o vd vk) 33)) (ai (w.alloc (.cells (gx o vd vk) 33)) (.cells (aC aM) 60));obtain⟨b1,b2⟩:=az ((aF.new w 33 (gx o vd vk)).up u2) (aF.new (w.alloc (.cells (gx o vd vk) 33)) 60 (aC aM));rw[aN]at b2;have UU:=an (u1.trans u2);rw[<-hw2]at b1 b2 UU;obtain⟨HW2,HA,HN,IS⟩:=bW hw2 (A.up UU) hn (show(prog.info? 60).map (·.size)=some (aC aM).size from dw);have c0:w2.cell? (ad w.heap.size 0)=some (i6 o.kind):=b1.cell 0;have c1:w2.cell? (ad w.heap.size 1)=some (.string (strOf o.name)):=b1.cell 1;have c3:w2.cell? (ad w.heap.size 3)=some (i6 o.n):=b1.cell 3;revert c3;revert c1;revert c0;revert IS;revert HN;revert HA;revert HW2;revert UU;revert b2;revert b1;revert u2;revert u1;revert hw2;revert w2;exact ζ.dH):P:=h ⟨k⟩
def UH(h:dG K->P:=by
  intro ζ;obtain⟨G7,GV,GL,aX⟩:=bW (show w.heap.size+7<=w4.heap.size from by have:=J4.c2.lt;omega) (show(Value.slice vd (κ pre) vc).ownBlock≠some w4.heap.size from λe=>by have:=(J4.ov.aJ _ e).2;omega) (show ga<w4.heap.size from World.block_lt_of_cell? w4 _ CA4) (HB4.up (ai w4 (.cells (be hole) 87)));refine fm 87 rfl (be hole) fL ?_;have u8:=ai w4 (.cells (be hole) 87);obtain⟨J5,CA5,B8,K8⟩:=bW (J4.up u8) (u8.cell CA4) (aF.new w4 87 (be hole)) (KeepsOthers.alloc w4 (.cells (be hole) 87));have S8:=an (show aF (w4.alloc (.cells (be hole) 87)) w.heap.size 94 #[pz H.pb]/\aF (w4.alloc (.cells (be hole) 87)) (w.heap.size+1) 41 #[sq ga offa (κ ats) ac]/\aF (w4.alloc (.cells (be hole) 87)) (w.heap.size+1+1+1+1) 88 #[.slice vd (κ pre) vc]/\(w4.alloc (.cells (be hole) 87)).cell? (ad ga (offa+κ pre))=some (i6 (i:Int))from⟨J5.x3,J5.x5,J5.x8,CA5⟩);refine hK _ _ S8 ?_;(try simp only[Act.put,fB]);revert S8;revert K8;revert B8;revert CA5;revert J5;revert u8;revert aX;revert GL;revert GV;revert G7;exact ζ.dH):P:=h ⟨k⟩
def Z9(h:P:=by
  obtain⟨al,U5,HN,HK⟩:=bW (B2_4.up u5) (U4.trans u5) hk hkl;obtain⟨x,hx⟩:=bE (recAt G.l k);have HX:=an hx;rw[<-hx]at od ⊢;obtain⟨da,dc,rfl⟩:=(ak.row od pw).slice;clear hk hkl hx;go_wp2_with(first|refine arm ?_|refine oJ ?_);intro wz hbz ag;have UZ:=an (U5.grown ag (λk hk=>by grind));go_wp2_with fail;exact bG (.tuple #[.agg (b8 x (.slice da (κ x.dead) dc)),i6 0]) hbz (.inr ⟨k,_,by rw[HE.out];exact HN,HK,by rw[<-HX.out],by rw[<-HX.out];exact(ak.kept od ag (.inr (eB (by decide) al od))).mono U4.size,UZ⟩)):P:=h
def UI(h:dG K->P:=by
  intro ζ;rintro e w6⟨rfl,D7⟩;obtain⟨⟨bm,j7⟩,T7⟩:=J5.put D7;obtain⟨J6,aq,K7⟩:=aV j7 (show w6.cell? (ad ga (offa+κ pre))=some (i6 (i:Int))from fC CA5 T7 hga) (show KeepsOthers w5 w6 from Touch.others T7 (λk hk=>J5.pa.cellsOf hk));have nB:=J5.pa.cc B8 (by decide);have B8:=an (B8.ax T7 nB);clear nB;have S7:=an (show aF w6 w.heap.size 94 #[pz H.pb]/\aF w6 (w.heap.size+1) 41 #[sq ga offa (κ ats) ac]/\aF w6 (w.heap.size+1+1+1+1) 88 #[.slice vd (κ pre) vc]/\w6.cell? (ad ga (offa+κ pre))=some (i6 (i:Int))from⟨J6.x3,J6.x5,J6.x8,aq⟩);refine hK _ _ S7 ?_;(try simp only[Act.put,fB]);refine ta 8 ?_;revert S7;revert B8;revert K7;revert aq;revert J6;revert T7;revert j7;revert bm;revert D7;revert w6;exact ζ.dH):P:=h ⟨k⟩
def UJ(h:P:=by
  go_in;go_wp2_with(refine arm ?_);rw[<-HW1.out];refine wp_region_quiet_below (by rfl) (by kernel_rfl) ?_;repeat(go_big_quiet_step (fail))
  refine wpQuiet_nil ?_;intro w4 av;obtain⟨⟨d,os⟩,hw4⟩:=av;have up4:Up w1 w4:=by rw[hw4];exact below_regrown _ _ _
  clear hw4;go_wp2;go_ret;exact⟨by simp;omega,U1.trans up4⟩):P:=h
def UK(h:P:=by
  go_in;go_wp2_with(refine arm ?_);rw[<-HW2.out];refine SP.mono ?_;rintro e w3⟨rfl,u3⟩;obtain⟨U3,ad⟩:=aw (UU.trans u3) (b2.up u3);have c0:=(b1.up u3).cell 0;go_wp2_with(first|refine arm ?_|refine oJ ?_);intro wz hbz ag;have UZ:=an (U3.grown ag (λk hk=>by grind));go_wp2;exact bG (hi:=IZ) (.tuple #[.agg b6,i6 141]) hbz (.inl ⟨141,HE,rfl,UZ⟩)):P:=h
def UL(h:dG K->P:=by
  intro ζ;obtain⟨w2,hw2⟩:=bE ((w.alloc (.cells (gx o vd vk) 33)).alloc (.cells (aC aM) 60));obtain⟨u1,u2⟩:=az (ai w (.cells (gx o vd vk) 33)) (ai (w.alloc (.cells (gx o vd vk) 33)) (.cells (aC aM) 60));obtain⟨b1,b2⟩:=az ((aF.new w 33 (gx o vd vk)).up u2) (aF.new (w.alloc (.cells (gx o vd vk) 33)) 60 (aC aM));rw[aN]at b2;have UU:=an (u1.trans u2);rw[<-hw2]at b1 b2 UU;obtain⟨HW2,S2,LT,IS⟩:=bW hw2 (show w2.heap.size=w.heap.size+2 from by rw[hw2];simp only[aN]) (show(∀k,cM H.h k->k<w.heap.size)/\p<w.heap.size from⟨λk hk=>A.ga.pa.lt k (.inr (.inr hk)),A.fg.lt⟩) (show(prog.info? 60).map (·.size)=some (aC aM).size from dw);have c0:w2.cell? (ad w.heap.size 0)=some (i6 o.kind):=b1.cell 0;revert c0;revert IS;revert LT;revert S2;revert HW2;revert UU;revert b2;revert b1;revert u2;revert u1;revert hw2;revert w2;exact ζ.dH):P:=h ⟨k⟩
def UM(h:P:=by
  rw[<-hzn]at hz;clear hzn;subst hz;obtain⟨bs,y8,bB⟩:=J10.push gr11 own11;obtain⟨d8,f8⟩:=az (y8.cell 0) (y8.free 0);simp only[List.getElem?_toArray,List.getElem?_cons_zero]at d8;obtain⟨bD,bt⟩:=aw bs (((KW.trans KK).trans (r8 U10)).trans (bB.trans (KeepsOthers.setCell w11 ⟨w.heap.size+1+1+1+1,0,none⟩ (.slice za zn zc))));clear c8;go_wp2;exact⟨bt.from _,JJ.wz bD,bm,_,by rw[bh.out,List.map_append];exact bD⟩):P:=h
def UN(h:P:=by
  go_wp2_with(first
   | refine hs 73 0 (aO next (.slice la (κ l) lc)) ?_
   | refine bB 73 iL ?_)
  have OS0:=an ((bc.abk ((w.alloc (.cells (aO next (.slice la (κ l) lc)) 73)).alloc (.cells (aO 0 (.slice none 0 0)) 73)) (κ l) (by unfold maxLen;omega)).mono (base':=w.heap.size) UU.size);have U3:=ai ((w.alloc (.cells (aO next (.slice la (κ l) lc)) 73)).alloc (.cells (aO 0 (.slice none 0 0)) 73)) (.cells (madeCells b6 (κ l*11)) 90);obtain⟨K0,K1,KB,KU⟩:=bW (U3.cell C0) (U3.cell C1) (B2.up U3) (UU.trans U3);rw[SZ.out]at OS0;clear U3 c0 c1 C0 C1 B2 UU U1 U2 SZ MK;go_loopw [12] (λi wr=>∃k:Nat,k<=κ l/\i=.int .i64 k/\bc wr w.heap.size (.slice (some ⟨w.heap.size+2,0,none⟩) (κ l) (κ l)) (l.take k++List.replicate (κ l-k) xk)/\Up w wr/\wr.cell? ⟨w.heap.size,0,none⟩=some (.int .u64 (next:Int))/\wr.cell? ⟨w.heap.size,1,none⟩=some (.slice la (κ l) lc)/\aF wr (w.heap.size+1) 73 (aO 0 (.slice none 0 0))) (λi _=>κ l-(intOf i).toNat)
  case atStart=>exact⟨0,Nat.zero_le _,rfl,by rw[List.take_zero,List.nil_append,Nat.sub_zero];exact OS0,KU,K0,K1,KB⟩
  case round=>exact Z'):P:=h
def UO(h:P:=by
  go_in;go_wp2_with(refine arm ?_);rw[<-HW2.out];refine SP.mono ?_;rintro e w3⟨rfl,u3⟩;obtain⟨U3,ad⟩:=aw (u1.trans u3) (b2.up u3);go_wp2_with(first|refine arm ?_|refine oJ ?_);intro wz hbz ag;have UZ:=an (U3.grown ag (λk hk=>by grind));go_wp2;exact bG (hi:=IZ) (.tuple #[.agg b6,i6 141]) hbz (.inl ⟨141,HE,rfl,UZ⟩)):P:=h
def UP(h:P:=by
  refine hK _ _ ?_;clear hK K;(try simp only[Act.put,fB]);refine zQ 11 (.bool true) rfl rfl ?_;(try simp only[Act.put,fB]);refine zQ 12 (.bool true) rfl rfl ?_;(try simp only[Act.put,fB]);refine wpAnyIn_done (by kernel_rfl) ?_ _;gi_wp2;refine bodyPost_ret (results_none rfl _ _ _) rfl ?_;exact⟨⟨_,rfl⟩,.inr ⟨_,aT,ak⟩⟩):P:=h
def UQ(h:dG K->P:=by
  intro ζ;refine ta 13 ?_;(try simp only[Act.put,fB]);refine dn ?_;have U10:=an (ai w9 (.cells (be (ar P.st (i,dB b j))) 87));obtain⟨J10,PR,LO⟩:=aV (J9.up U10) (vF w9 _ rfl (ar P.st (i,dB b j))) (show(its.map (ar P.st)).length=κ pre by rw[List.length_map,IL]);obtain⟨n1,n2⟩:=aw (show(κ (its.map (ar P.st)) + [(ar P.st (i,dB b j))].length)*24<=140737488355328 by rw[LO.out];simp;omega) (show(its.map (ar P.st)).length + [(ar P.st (i,dB b j))].length<=9223372036854775807 by rw[LO.out];simp;omega);have c8:=J9.x8.cell 0;simp only[List.getElem?_toArray,List.getElem?_cons_zero]at c8;revert c8;revert n2;revert n1;revert LO;revert PR;revert J10;revert U10;exact ζ.dH):P:=h ⟨k⟩
def UR(h:P:=by
  rw[<-hzn]at hz;clear hzn;subst hz;obtain⟨bs,y8,bB⟩:=J10.push gr11 own11;obtain⟨d8,f8⟩:=az (y8.cell 0) (y8.free 0);simp only[List.getElem?_toArray,List.getElem?_cons_zero]at d8;have bt:=an (((KW.trans KK).trans (r8 U10)).trans (bB.trans (KeepsOthers.setCell w11 ⟨w.heap.size+1+1+1+1,0,none⟩ (.slice za zn zc))));clear c8;go_wp2;exact⟨bt.from _,JJ.wz bs,bm,_,by rw[bh.out,List.map_append];exact bs⟩):P:=h
def US(h:dG K->P:=by
  intro ζ;refine ta 13 ?_;(try simp only[Act.put,fB]);refine dn ?_;have U10:=an (ai w9 (.cells (be (ar P.st (i,sn))) 87));obtain⟨J10,PR,LO⟩:=aV (J9.up U10) (vF w9 _ rfl (ar P.st (i,sn))) (show(its.map (ar P.st)).length=κ pre by rw[List.length_map,IL]);obtain⟨n1,n2⟩:=aw (show(κ (its.map (ar P.st)) + [(ar P.st (i,sn))].length)*24<=140737488355328 by rw[LO.out];simp;omega) (show(its.map (ar P.st)).length + [(ar P.st (i,sn))].length<=9223372036854775807 by rw[LO.out];simp;omega);have c8:=J9.x8.cell 0;simp only[List.getElem?_toArray,List.getElem?_cons_zero]at c8;revert c8;revert n2;revert n1;revert LO;revert PR;revert J10;revert U10;exact ζ.dH):P:=h ⟨k⟩
def UT(h:P:=by
  unfold sk;by_cases h0:a=0
  ·simp_all
  rw[if_neg h0];by_cases hq:a=1+i/8
  ·simp_all
  rw[if_neg hq,if_neg (by omega)];have e:=dr P.C root (k:=a-1) (by omega);rw[show 1+(a-1)=a from by omega,<-hF]at e;rw[e,NK _ (by omega),<-e];exact I.ok.node a ha):P:=h
def UW(h:dG K->P:=by
  intro ζ;obtain⟨w2,hw2⟩:=bE ((w.alloc (.cells (gx o vd vk) 33)).alloc (.cells (aC aM) 60));obtain⟨u1,u2⟩:=az (ai w (.cells (gx o vd vk) 33)) (ai (w.alloc (.cells (gx o vd vk) 33)) (.cells (aC aM) 60));obtain⟨b1,b2⟩:=az ((aF.new w 33 (gx o vd vk)).up u2) (aF.new (w.alloc (.cells (gx o vd vk) 33)) 60 (aC aM));rw[aN]at b2;have UU:=an (u1.trans u2);rw[<-hw2]at b1 b2 UU;obtain⟨HW2,HA,HN⟩:=aV hw2 (A.up UU) hn;revert HN;revert HA;revert HW2;revert UU;revert b2;revert b1;revert u2;revert u1;revert hw2;revert w2;exact ζ.dH):P:=h ⟨k⟩
def UX(h:dG K->P:=by
  intro ζ;have e0:(kd==0)=false:=by simp;omega
  have e1:(kd==1)=false:=by simp;omega
  have e2:(kd==2)=false:=by simp;omega
  have e3:(kd==3)=false:=by simp;omega
  have e4:(kd==4)=false:=by simp;omega
  have e5:(kd==5)=false:=by simp;omega
  have e6:(kd==6)=false:=by simp;omega
  have e7:(kd==7)=false:=by simp;omega
  have e8:(kd==8)=false:=by simp;omega
  have e9:(kd==9)=false:=by simp;omega
  have B3:=an b2;revert B3;revert e9;revert e8;revert e7;revert e6;revert e5;revert e4;revert e3;revert e2;revert e1;revert e0;exact ζ.dH):P:=h ⟨k⟩
def KS(h:P:=by
  refine⟨_,_,rfl,.q (v:=nl) (ak.nil _ _ _ _ _) u s.t.size,?_⟩;repeat refine kt ?_
  refine kn (λ_ w u s=>?_);refine ks (λw s=>?_);refine kt ?_;refine kd (λw u s=>?_);have nz:((n:Int) != 0)=true:=by have:=K.nz n hx;simp;omega
  go_wp2_with fail;refine me s ?_;exact⟨(n:Int),G,H.h.vp,rfl,.inl ⟨n,hx,rfl,K.nz n hx,rfl⟩,A.up s.pure,Touch.bP s.pure,λ_ h=>.inl h⟩):P:=h
def UU(h:P:=by
  refine hK _ _ ?_;clear hK K;(try simp only[Act.put,fB]);refine zQ 11 (.bool false) rfl rfl ?_;(try simp only[Act.put,fB]);refine zQ 12 (.bool false) rfl rfl ?_;(try simp only[Act.put,fB]);refine wpAnyIn_done (by kernel_rfl) ?_ _;gi_wp2;exact⟨⟨k+1,hlt,by simp,by rw[HP.out];exact aC,KD.trans aA⟩,by simp only[intOf];omega⟩):P:=h
def UY(h:P:=by
  go_in;go_wp2_with fail;refine(R1 _).mono ?_;rintro e w1⟨rfl,up1⟩;go_wp2_with fail;refine(R2 _).mono ?_;rintro e w2⟨rfl,ao⟩;go_wp2;go_ret;exact⟨rfl,up1.trans ao⟩):P:=h
def UZ(h:P:=by
  simp only[Act.put,fB];refine iG 5 _ (by kernel_rfl) rfl rfl ?_;refine aaP _ (.tmp 11) rfl _ rfl ?_;simp only[Act.put,fB,size_alloc];refine wpAny_take (i:=6) (v:=pz (w5.heap.size+2)) rfl (by kernel_rfl) (by rfl) (by kernel_rfl) (λ_ _ _ h=>h) (.inl ⟨rfl,λ_=>rfl⟩) ?_;refine⟨by rfl,?_⟩;simp only[Act.put,fB];go_wp2;go_ret;exact⟨_,rfl,F.1,F.2⟩):P:=h
def Z'(h:P:=by
  obtain⟨k,hk,rfl,os,ur,k0,k1,kb⟩:=hrel;obtain⟨OS,UR,C0,C1,BR⟩:=eW os ur k0 k1 kb;clear os ur kb OS0 KU K0 K1 KB;by_cases hlt:k<κ l
  ·exact abh
  ·exact Z8):P:=h
def aaa(h:P:=by
  have HE:=an (XE (i:=i) hn);clear hn;obtain⟨U4,B2_4⟩:=aw (U3.trans (ai w3 (.cells b6 90))) ((b2.up u3).up (ai w3 (.cells b6 90)));go_wp2_with(first|refine arm ?_|refine oJ ?_);intro wz hbz ag;obtain⟨BZ,UZ⟩:=aw hbz (U4.grown ag (λk hk=>by grind));go_wp2;exact bG (hi:=IZ) (.tuple #[.agg b6,i6 141]) BZ (.inl ⟨141,HE,rfl,UZ⟩)):P:=h
def aab(h:P:=by
  obtain⟨al,U5,HN⟩:=aV (B2_4.up u5) (U4.trans u5) hn;clear hn;go_wp2_with(first|refine arm ?_|refine oJ ?_);intro wz hbz ag;obtain⟨BZ,UZ⟩:=aw hbz (U5.grown ag (λk hk=>by grind));go_wp2;exact bG (hi:=IZ) (.tuple #[.agg b6,i6 (n:Int)]) BZ (.inl ⟨n,by rw[HE.out];exact HN,rfl,UZ⟩)):P:=h
def qF(h:P:=by
  go_wp2_with(refine arm ?_);rw[<-HW2.out];refine CL.mono ?_;intro e w3 hr;have HR:=an (hr.pre uu);obtain⟨r,G2,vp,bg,H2,rfl,_⟩:=hr;go_wp2;go_ret;exact HR):P:=h
def KT(h:P:=by
  obtain rfl:j=κ x.dead:=by omega
  have b8:((κ x.dead:Int)<(κ x.dead:Int))=False:=by simp
  have hd:=HD.out;rw[List.take_length]at hd;have HF:=an (HE.trans hd);clear hd;go_wp2;go_ret;exact⟨by rw[HF.out];rfl,UR⟩):P:=h
def KU(h:P:=by
  go_in;go_wp2_with fail;refine P1.mono ?_;rintro e w2⟨rfl,hw2⟩;rw[hw2];clear hw2;go_wp2;go_ret;exact⟨by rw[HE.out];rfl,Up.refl _⟩):P:=h
def KV(h:dG K->P:=by
  intro ζ;obtain⟨w2,hw2⟩:=bE ((w.alloc (.cells (gx o vd vk) 33)).alloc (.cells (aC aM) 60));obtain⟨u1,u2⟩:=az (ai w (.cells (gx o vd vk) 33)) (ai (w.alloc (.cells (gx o vd vk) 33)) (.cells (aC aM) 60));obtain⟨b1,b2⟩:=az ((aF.new w 33 (gx o vd vk)).up u2) (aF.new (w.alloc (.cells (gx o vd vk) 33)) 60 (aC aM));rw[aN]at b2;have UU:=an (u1.trans u2);rw[<-hw2]at b1 b2 UU;have HW2:=an hw2;revert HW2;revert UU;revert b2;revert b1;revert u2;revert u1;revert hw2;revert w2;exact ζ.dH):P:=h ⟨k⟩
def U0(h:P:=by
  simp at h2;subst h2;obtain rfl:lo=0:=by omega
  simp only[Value.slice.injEq]at hv;obtain⟨rfl,_,rfl⟩:=hv;refine .inl ⟨by simp,_,cap,rfl,hm,λh=>?_⟩;by_cases hc:cap=0
  ·exact hc
  ·simp_all):P:=h
def U1(h:P:=by
  go_in;go_wp2_with fail;refine P1.mono ?_;rintro e w2⟨rfl,hw2⟩;rw[hw2];clear hw2;go_wp2;go_ret;exact⟨by rw[HE.out];rfl,rfl⟩):P:=h
def U2(h:dG K->P:=by
  intro ζ;have b5:((2:Int)+5*(κ l:Int)>(n:Int))=False:=by simp;omega
  have wl:=dT (κ l) (by omega);have UA:=an (ai w5 (.cells #[i6 2] 3));have sza:=aN w5 (.cells #[i6 2] 3);have UB:=an (ai (w5.alloc (.cells #[i6 2] 3)) (.cells #[u6 (κ l:Int)] 70));have i1:=(aD.ew (f:=bC) w5 w5.heap.size rfl #[i6 2] 3 (0,0) [2] 1 rfl (by unfold maxLen;omega) rfl).up UB;have i2:=aD.ew (f:=cr) (w5.alloc (.cells #[i6 2] 3)) (w5.heap.size+1) (by rw[sza]) #[u6 (κ l:Int)] 70 (0,0) [κ l] 1 rfl (by unfold maxLen;omega) rfl;obtain⟨PT,U6⟩:=aw (yG _ _ [2] i1 (by simp) _ [κ l] i2 (by intro k hk;simp at hk;omega) (O2 (by omega))) ((U5.trans UA).trans UB);revert U6;revert PT;revert i2;revert i1;revert UB;revert sza;revert UA;revert wl;revert b5;exact ζ.dH):P:=h ⟨k⟩
def U3(h:P:=by
  go_in;go_wp2_with fail;refine P1.mono ?_;rintro e w2⟨rfl,hw2⟩;rw[hw2];clear hw2;go_wp2;go_ret2;exact⟨_,by rw[HE.out]<;>rfl,by rw[HE.out];exact Own.nil _ _ _ _,Up.refl _⟩):P:=h
def aac(h:P:=by
  have HE:=an (XF (i:=i) hn (by omega));clear hn;obtain⟨U4,B2_4⟩:=aw (U3.trans (ai w3 (.cells b6 90))) ((b2.up u3).up (ai w3 (.cells b6 90)));go_wp2_with(first|refine arm ?_|refine oJ ?_);intro wz hbz ag;have UZ:=an (U4.grown ag (λk hk=>by grind));go_wp2;exact bG (hi:=IZ) (.tuple #[.agg b6,i6 172]) hbz (.inl ⟨172,HE,rfl,UZ⟩)):P:=h
def U4(h:dG K->P:=by
  intro ζ;obtain⟨u0,u1⟩:=az (ai w (.cells #[.string (strOf full)] 9)) (ai (w.alloc (.cells #[.string (strOf full)] 9)) (.cells #[i6 N] 3));obtain⟨k0,k1,uu⟩:=cZ (u1.cell ((aF.new w 9 _).cell 0)) ((aF.new (w.alloc (.cells #[.string (strOf full)] 9)) 3 #[i6 N]).cell 0) ((u0).trans u1);obtain⟨w2,hw2⟩:=bE (((w.alloc (.cells #[.string (strOf full)] 9)).alloc (.cells #[i6 N] 3)));simp only[aN]at k1;rw[<-hw2]at uu k0 k1;have HW2:=an hw2;revert HW2;revert k1;revert k0;revert uu;revert hw2;revert w2;revert u1;revert u0;exact ζ.dH):P:=h ⟨k⟩
def U7(h:dG K->P:=by
  intro ζ;have u3:=u2.trans (ai w2 (.cells (aO 0 (nl)) 73));obtain⟨u4,ba,bb⟩:=cZ (u3.trans (ai (w2.alloc (.cells (aO 0 (nl)) 73)) (.cells b6 90))) ((aF.new w2 73 (aO 0 (nl))).up (ai (w2.alloc (.cells (aO 0 (nl)) 73)) (.cells b6 90))) (aF.new (w2.alloc (.cells (aO 0 (nl)) 73)) 90 b6);rw[aN]at bb;obtain⟨U4,BA,BB,S2⟩:=bW u4 ba bb (u2.size);revert S2;revert BB;revert BA;revert U4;revert bb;revert ba;revert u4;revert u3;exact ζ.dH):P:=h ⟨k⟩
def U5(h:P:=by
  rw[hs]at hf;simp only[Nat.zero_add]at hf;have hne:¬k=0:=by omega
  have hle:¬16777216<k:=by omega
  simp only[Array.size_zipIdx,hC]at hf;have hv:(Value.agg C).cells=C:=rfl;simp[Instr.buildSlice,run_underlying ht,sizeOf,typeInfo,hi,hz0,hz1,zeroValue,Instr.fill,hv,hC,hne,hle,newRow];rw[hf]):P:=h
def U6(h:dG K->P:=by
  intro ζ;refine wpStill_nil ?_;obtain⟨HA,HT⟩:=aw (a7.set HS (i:=1024+q) (by omega) (i6 ((r-1:Nat):Int))) (tM HS (1024+q) (i6 ((r-1:Nat):Int)));have aa:=HA.cell (i:=i) (by omega);have aA:=HA.cell (i:=1024+q) (by omega);have ag:=HA.free i;have al:=HA.free (1024+q);simp only[show ¬i=1024+q by omega,if_false,if_true,rN hi]at aa aA;revert aA;revert aa;revert al;revert ag;revert HT;revert HA;exact ζ.dH):P:=h ⟨k⟩
def U8(h:P:=by
  rw[Bool.not_eq_true]at he;have HF:=an (HS he);have b3:=he;clear he HS HK;go_wp2;go_roundw
  case rel=>exact⟨k+1,by omega,by simp,HF,U3⟩
  case measure=>simp only[intOf];omega):P:=h
def U9(h:dG K->P:=by
  intro ζ;(try simp only[Act.put,fB]);refine ta 7 ?_;(try simp only[Act.put,fB]);refine ta 8 ?_;(try simp only[Act.put,fB]);refine ta 9 ?_;(try simp only[Act.put,fB]);exact ζ.dH):P:=h ⟨k⟩
def U'(h:dG K->P:=by
  intro ζ;have ao:q<8:=by omega
  have ak:r<8:=by omega
  have av:((i:Int)/8)=(q:Int):=by omega
  have al:((i:Int)%8)=(r:Int):=by omega
  have b8:((q:Int)<8)=True:=by simp;omega
  have b9:((r:Int)<8)=True:=by simp;omega
  have wq:IntKind.i64.wrap (q:Int)=(q:Int):=aX q (by omega);have wr:IntKind.i64.wrap (r:Int)=(r:Int):=aX r (by omega);revert wr;revert wq;revert b9;revert b8;revert al;revert av;revert ak;revert ao;exact ζ.dH):P:=h ⟨k⟩
def Va(h:P:=by
  simp only[<-hmm];obtain⟨fn,tmps,assign,body,hy,hR⟩:=(hY _ j _ ((λs A B hs hu=>hJ s A B none hs (oa hu) (λr e=>by cases e)) _ _ _ HJ ag) aj);clear hmm hY;gi_wp2;refine hR.mono ?_;rintro e W3(⟨rfl,aC,aA⟩|⟨rfl,ak⟩)
  ·exact aag
  ·exact X0):P:=h
def Vb(h:dG K->P:=by
  intro ζ;obtain⟨c8,c6,c7,f6,f7⟩:=yj (HJ.x8.cell 0) (HJ.x6.cell 0) (HJ.x7.cell 0) (HJ.x6.free 0) (HJ.x7.free 0);simp only[List.getElem?_toArray,List.getElem?_cons_zero]at c8 c6 c7;obtain⟨za,zc,hz⟩:=(ak.row HJ.ov pw).slice;revert hz;revert zc;revert za;revert c7;revert c6;revert c8;revert f7;revert f6;exact ζ.dH):P:=h ⟨k⟩
def Vc(h:dG K->P:=by
  intro ζ;rintro e w5⟨rfl,D7⟩;obtain⟨⟨bm,j7⟩,T7⟩:=J4.put D7;obtain⟨J5,CA5,K7⟩:=aV j7 (show w5.cell? (ad ga (offa+κ pre))=some (i6 (i:Int))from fC CA4 T7 hga) (show KeepsOthers w4 w5 from Touch.others T7 (λk hk=>J4.pa.cellsOf hk));have S7:=an (show aF w5 w.heap.size 94 #[pz H.pb]/\aF w5 (w.heap.size+1) 41 #[sq ga offa (κ ats) ac]/\aF w5 (w.heap.size+1+1+1+1) 88 #[.slice vd (κ pre) vc]/\w5.cell? (ad ga (offa+κ pre))=some (i6 (i:Int))from⟨J5.x3,J5.x5,J5.x8,CA5⟩);refine hK _ _ S7 ?_;revert S7;revert K7;revert CA5;revert J5;revert T7;revert j7;revert bm;revert D7;revert w5;exact ζ.dH):P:=h ⟨k⟩
def Vd(h:P:=by
  go_wp2_with fail;refine P2.mono ?_;rintro e w2⟨rfl,hw2⟩;rw[hw2];clear hw2;go_wp2;go_ret2;exact⟨_,by rw[HR.out]<;>rfl,by rw[HR.out];exact oc,ur⟩):P:=h
def Ve(h:dG K->P:=by
  intro ζ;have HB:=an hB;have x3:=hB.cell (p:=⟨b,off+x*11+3,none⟩) HBS;rw[(CX.out x hx).1]at x3;have x0:=hB.cell (p:=⟨b,off+x*11,none⟩) HBS;rw[(CX.out x hx).2]at x0;have x4:=hB.cell (p:=⟨b,off+i*11+3,none⟩) HBS;rw[CO.out]at x4;have b3:((x:Int)<(κ l:Int))=True:=by simp;omega
  revert b3;revert x4;revert x0;revert x3;revert HB;exact ζ.dH):P:=h ⟨k⟩
def Vf(h:P:=by
  clear hs h0;go_in;go_wp2_with fail;refine SP.mono ?_;rintro e w2⟨rfl,u2⟩;go_wp2;go_ret2;simp;omega):P:=h
def Vg(h:P:=by
  clear hs h0;go_in;go_wp2_with fail;refine SP.mono ?_;rintro e w2⟨rfl,u2⟩;go_wp2;go_ret3;simp;omega):P:=h
def Vh(h:P:=by
  go_in;go_wp2_with(refine arm ?_);refine FT.mono ?_;rintro e w2⟨rfl,u2⟩;have U2:=an (U1.trans u2);go_wp2;go_ret;exact⟨rfl,U2⟩):P:=h
def Vi(h:dG K->P:=by
  intro ζ;obtain⟨OD,U4,B2_4⟩:=aV (ak.up od (ai w3 (.cells (b8 x (.slice da (κ x.dead) dc)) 90))) (U3.trans (ai w3 (.cells (b8 x (.slice da (κ x.dead) dc)) 90))) ((b2.up u3).up (ai w3 (.cells (b8 x (.slice da (κ x.dead) dc)) 90)));have c6:(w3.alloc (.cells (b8 x (.slice da (κ x.dead) dc)) 90)).cell? (ad w3.heap.size 6)=some (i6 x.blocks):=(aF.new w3 90 (b8 x (.slice da (κ x.dead) dc))).cell 6;have g1:(i<0)\/((i<0)=False/\(i>=x.blocks)=True/\(x.blocks<=i)=True)\/((i<0)=False/\(i>=x.blocks)=False/\(x.blocks<=i)=False):=by simp;omega
  obtain⟨bl,aB⟩:=bE (x.blocks);have HBL:=an aB;revert HBL;revert aB;revert bl;revert g1;revert c6;revert B2_4;revert U4;revert OD;exact ζ.dH):P:=h ⟨k⟩
def Vj(h:P:=by
  intro K hK;refine fm _ rfl _ iL ?_;refine hK _ _ u6 ?_;clear hK K;(try simp only[Act.put,fB]);generalize w5.alloc (.cells (aO 0 (nl)) 73)=W at *;generalize w5.heap.size=q at *;exact FIN q W nx va vm vc nn (an ⟨u6,b6,s5,aD⟩)):P:=h
def Gy(h:P:=by
  have HH:=an hH;clear hH hAt c0 c1;go_wp2_with(first|refine arm ?_|refine oJ ?_);intro wz hbz ag;have TZ:=an (((Touch.bP (F:=λk=>PF H k\/k=p) UU).and T3 (λb hb=>.inl (hb.imp (λh=>.inr (.inr h)) id))).and (Touch.bg (F:=(·=w.heap.size+1)) ag (λk hk=>by grind)) (λb hb=>.inr (by omega)));go_wp2;exact bG (hi:=IS) (.tuple #[.agg (aC aM),i6 r]) hbz (by obtain⟨G3,h1,h2⟩:=PP.out;exact⟨cC,r,G3,gb',H',vp,rfl,h1,h2.sec B3 (PA.VQ (w0:=w) (w:=w) h2.ga.pa B3 HH (λb hb e=>by have:=LT.1 b hb;omega) (λb hb e=>by rcases ao.1 b hb with h|h;have:=LT.1 b (.inr (.inr (.inr h)));omega;have:=S2.out;omega)) ag,HH,TZ,ao.mono UU.size⟩)):P:=h
def KW(h:dG K->P:=by
  intro ζ;obtain⟨x0,x1,x2,x3,x4,x5⟩:=q5 (cell_regrown c0) (cell_regrown d0) (cell_regrown d1) (cell_regrown d2) (cell_regrown e0) (cell_regrown e1);have x6:=cell_regrown e2;revert x6;revert x5;revert x4;revert x3;revert x2;revert x1;revert x0;exact ζ.dH):P:=h ⟨k⟩
def Vk(h:P:=by
  go_in;go_wp2_with fail;refine(hc _).mono ?_;rintro e w'⟨rfl,up⟩;go_wp2;go_ret3;simp;omega):P:=h
def Vl(h:P:=by
  go_in;go_wp2_with fail;refine(R1 _).mono ?_;rintro e w1⟨rfl,up1⟩;go_wp2;go_ret;simp;omega):P:=h
def aad(h:P:=by
  go_ret;refine⟨?_,ai _ _⟩;refine abv ?_;rw[d'];try simp only[decide_eq_true_eq,Bool.and_eq_true,Bool.or_eq_true,Bool.and_eq_false_iff,decide_eq_false_iff_not]at *
  try simp only[Bool.false_eq_true,false_iff,true_iff]
  omega):P:=h
def Vm(h:dG K->P:=by
  intro ζ;refine wpQuiet_nil ?_;intro w4 av;obtain⟨⟨d,os⟩,hw4⟩:=av;have up4:Up wr w4:=by rw[hw4];exact below_regrown _ _ _
  clear hw4;obtain⟨y0,y1⟩:=az (cell_regrown (up4.cell c0)) (cell_regrown (up4.cell c1));revert y1;revert y0;revert up4;revert os;revert d;revert w4;exact ζ.dH):P:=h ⟨k⟩
def Vn(h:P:=by
  have HP:=an (HK he);try simp only at he
  have b3:=he;clear he HS HK;go_wp2;go_ret;exact⟨by rw[HP.out];rfl,U3⟩):P:=h
def aae(h:P:=by
  have b9:(((p.aU:Nat):Int)>(fl:Int))=False:=by simp;omega
  have av:=an (DT.trans (decide_eq_true hb));clear hb;go_wp2_with(first
   | refine cT 87 54 (be p) RC ?_
   | refine bB 87 fL ?_
   | refine eh 87 8 55 wr (be p) 87 (be hole) ?_)
  go_roundw
  case rel=>exact⟨j+1,by omega,by simp,av,U2⟩
  case measure=>simp only[intOf];omega):P:=h
def Vo(h:P:=by
  have HE:=an (E2 (.inl g1));go_wp2_with(first|refine arm ?_|refine oJ ?_);intro wz hbz ag;obtain⟨BZ,UZ⟩:=aw hbz (U4.grown ag (λk hk=>by grind));go_wp2;exact bG (hi:=IZ) (.tuple #[.agg b6,i6 176]) BZ (.inl ⟨176,HE,rfl,UZ⟩)):P:=h
def Vp(h:P:=by
  have HE:=an (E2 (.inr (of_eq_true g3)));go_wp2_with(first|refine arm ?_|refine oJ ?_);intro wz hbz ag;obtain⟨BZ,UZ⟩:=aw hbz (U4.grown ag (λk hk=>by grind));go_wp2;exact bG (hi:=IZ) (.tuple #[.agg b6,i6 176]) BZ (.inl ⟨176,HE,rfl,UZ⟩)):P:=h
def Vq(h:P:=by
  unfold sk;by_cases h0:a=0
  ·rw[if_pos h0,h0];rfl
  rw[if_neg h0];by_cases h9:a<9
  ·have:=A1 (a-1) (by omega);grind [dr]
  ·exact XV):P:=h
def Vr(h:dG K->P:=by
  intro ζ;obtain⟨u6,b6,aD,s5⟩:=iv (u5.trans (ai w5 (.cells (aO 0 (nl)) 73))) (aF.new w5 73 (aO 0 (nl))) (rq.up (ai w5 (.cells (aO 0 (nl)) 73))) u5.size;refine hK _ _ u5 ?_;(try simp only[Act.put,fB]);revert s5;revert aD;revert b6;revert u6;exact ζ.dH):P:=h ⟨k⟩
def Vs(h:dG K->P:=by
  intro ζ;intro K hK;refine fm _ rfl _ iL ?_;obtain⟨u5,b5⟩:=az (ai w4 (.cells (aO 0 (nl)) 73)) (aF.new w4 73 (aO 0 (nl)));refine hK _ _ u5 ?_;clear hK K;(try simp only[Act.put,fB]);revert b5;revert u5;exact ζ.dH):P:=h ⟨k⟩
def Vt(h:P:=by
  have HH:=an hH;clear hH hAt c0 c1 c3;go_wp2_with(first|refine arm ?_|refine oJ ?_);intro wz hbz ag;have TZ:=an (((Touch.bP (F:=λk=>PF H k\/k=p) UU).and T3 (λb hb=>.inl (hb.imp (λh=>.inr (.inr h)) id))).and (Touch.bg (F:=(·=w.heap.size+1)) ag (λk hk=>by grind)) (λb hb=>.inr (by omega)));go_wp2;exact bG (hi:=IS) (.tuple #[.agg (aC aM),i6 r]) hbz (by obtain⟨G3,h1,h2⟩:=PP.out;exact⟨cC,r,G3,gb',H',vp,rfl,h1,h2.sec B3 (PA.VQ (w0:=w) (w:=w) h2.ga.pa B3 HH (λb hb e=>by have:=LT.1 b hb;omega) (λb hb e=>by rcases ao.1 b hb with h|h;have:=LT.1 b (.inr (.inr (.inr h)));omega;have:=S2.out;omega)) ag,HH,TZ,ao.mono UU.size⟩)):P:=h
def Gz(h:dG K->P:=by
  intro ζ;obtain⟨u0,k0⟩:=az (ai w (.cells #[.string (strOf full)] 9)) ((aF.new w 9 #[.string (strOf full)]).cell 0);have uu:=u0;obtain⟨w2,hw2⟩:=bE ((w.alloc (.cells #[.string (strOf full)] 9)));rw[<-hw2]at uu k0;have HW2:=an hw2;revert HW2;revert k0;revert uu;revert hw2;revert w2;revert u0;exact ζ.dH):P:=h ⟨k⟩
def KX(h:P:=by
  go_wp2_with fail;refine C.mono ?_;rintro e w1⟨rfl,S1,T1⟩;go_wp2;go_ret;exact⟨rfl,S1,T1⟩):P:=h
def KY(h:P:=by
  rw[List.length_append]at hv;subst hv;refine h a' c' w' (s.Aj (hU _) (Touch.bg h2 λk hk=>show v.ownBlock=some k from hk) h1 λk hk=>⟨(h1.aJ k hk).2,?_⟩);rcases h4 with h4|⟨g',h4,h5⟩
  ·exact .inl (h4.symm.trans hk)
  ·exact X3):P:=h
def KZ(h:dG K->P:=by
  intro ζ;have hi:=l5 hva;simp only[Mf];have b1:((i:Int)<0)=False:=by simp
  have b2:((i:Int)<(κ l:Int))=True:=by simp;omega
  have b3:((i:Int)>=0)=True:=by simp
  obtain⟨b,off,ar,aB,da,dc,rg,dp⟩:=cf hv hi;revert dp;revert rg;revert dc;revert da;revert aB;revert ar;revert off;revert b;revert b3;revert b2;revert b1;revert hi;exact ζ.dH):P:=h ⟨k⟩
def K0(h:dG K->P:=by
  intro ζ;have lF:κ F=8:=by rw[hF];exact vs I.ok
  have nS:=I.ok.S (k:=i/8) (by omega);rw[<-hF,<-hS]at nS;have lS:κ S=8:=cN nS;have nF:=I.ok.F;rw[<-hF]at nF;revert nF;revert lS;revert nS;revert lF;exact ζ.dH):P:=h ⟨k⟩
def K1(h:dG K->P:=by
  intro ζ;have c0:w2.cell? (ad w.heap.size 0)=some (i6 o.kind):=B1.cell 0;rw[hw2]at c0;rw[hk]at c0;go_in;revert c0;exact ζ.dH):P:=h ⟨k⟩
def aaf(h:P:=by
  rename_i hh;have h2:=(vI.1 (ja.1 hf).1).1;refine hh ⟨hm,?_⟩;rcases Nat.lt_or_ge i l.size with h'|h'
  ·exact h'
  ·simp[Array.getElem?_eq_none h',Array.getD,Nat.not_lt.2 h']at h2):P:=h
def Vu(h:dG K->P:=by
  intro ζ;have ff:=upa.drew;obtain⟨D5,X5,T5⟩:=aV (HDR.up ff) (W2 ((aF.new wr 116 (ls x)).up ((Up.refl _).drew))) (HTR.trans (Touch.bP (F:=cM h) ff) (λn hn _=>hn));obtain⟨av,c0⟩:=az X5.1 D5.cells.1;revert c0;revert av;revert T5;revert X5;revert D5;revert ff;exact ζ.dH):P:=h ⟨k⟩
def Vv(h:P:=by
  rintro e w2⟨rfl,hw2⟩;rw[hw2];clear hw2;go_wp2;go_ret;exact⟨by rw[HE.out];rfl,Up.refl _⟩):P:=h
def aag(h:P:=by
  have y1:=aA.cell (a:=⟨Bs+1,0,none⟩) (λt=>.inr rfl) z1;clear z0 z1 SL;gi_wp2;go_roundw
  case rel=>exact⟨j+1,by omega,by go_num,by rw[List.range_succ];exact aC,((HK.trans (kz ag)).trans aA)⟩
  case measure=>simp[intOf];omega):P:=h
def Vw(h:dG K->P:=by
  intro ζ;(try simp only[Act.put,fB]);refine Z5 0 (sq b off (κ l) cap) rfl rfl (QO x1) ?_;(try simp only[Act.put,fB]);refine zQ 2 (pq b (off+k*11)) rfl rfl ?_;(try simp only[Act.put,fB]);refine zQ 3 (pq b (off+k*11+4)) rfl rfl ?_;exact ζ.dH):P:=h ⟨k⟩
def Vx(h:P:=by
  (try simp only[Act.put,fB]);refine vZ 5 (u6 ((recAt l x).id:Int)) w6 (by kernel_rfl) rfl rfl (iB 70 (.tmp 40) rfl ⟨b,off+x*11,none⟩ rfl y0 (λ_=>by kernel_rfl)) ?_;(try simp only[Act.put,fB]);refine vZ 6 (cD w6.heap.size 1 1) (w6.alloc (.cells #[u6 ((recAt l x).id:Int)] 70)) (by kernel_rfl) rfl rfl (qV 156 (.tmp 41) rfl (u6 ((recAt l x).id:Int)) rfl (qS w6 _)) ?_;(try simp only[Act.put,fB]);exact FIN):P:=h
def XU(h:P:=by
  have b9:(((p.aU:Nat):Int)>(fl:Int))=True:=by simp;omega
  have DF:=an (HE.trans (DN hb));clear hb;go_wp2_with(first
   | refine cT 87 54 (be p) RC ?_
   | refine bB 87 fL ?_
   | refine eh 87 8 55 wr (be p) 87 (be hole) ?_)
  go_ret;exact⟨by rw[DF.out];rfl,U2⟩):P:=h
def XV(h:P:=by
  have:=iz C' p3 (i:=a-9) (by omega);rw[show 9+(a-9)=a from by omega,A1 _ (by omega)]at this;rw[this,if_neg (show ¬a=1+i/8 by omega)];by_cases hq:(a-9)/8=i/8
  ·grind [pk,kP,sO]
  ·exact X7):P:=h
def XW(h:P:=by
  have:=H1.out;have:=H2.out;have:=H3.out;rcases h with(h|h|h)|h
  ·simp only at h;omega
  ·simp only at h;omega
  ·exact hf h
  ·omega):P:=h
def M0(h:P:=by
  obtain⟨s,NZ⟩:=az (s.up u) (Pm hv);have nz:((n:Int) != 0)=true:=by simp;omega
  go_wp2_with(refine fw s ?_;intro _ w s);refine me s ?_;exact⟨(n:Int),G,H.h.vp,rfl,.inl ⟨n,hv,NZ,rfl,rfl⟩,A.nV H.h.vp s.pa s.t,s.t.mono (λ_ h=>.inl h),λ_ h=>.inl h⟩):P:=h
def M1(h:P:=by
  have nz:((r:Int) != 0)=true:=by have:=Pm hv;simp;omega
  clear hv;go_wp2_with(refine arm ?_);go_ret;rw[E.out];exact wh.bP A (u2.trans (ai _ _))):P:=h
def M2(h:dG K->P:=by
  intro ζ;rw[<-HW2.out];refine wp_region_held (S:=Up w2.drew) (by kernel_rfl) ?_;change wpAnyH _ _ _ _ _ 15 #[false,false,false,false,false,false,false,false,false,false,false,false,false,false,false] _ (w2.drew);have UD:=an (Up.drew (Up.refl w2));have ab:=an (B1.up UD);revert ab;revert UD;exact ζ.dH):P:=h ⟨k⟩
def zp(h:dG K->P:=by
  intro ζ;rintro e wx⟨rfl,aM⟩;rw[<-aM];clear aM;refine hK _ _ Fzq ?_;revert wx;exact ζ.dH):P:=h ⟨k⟩
def zq(h:dG K->P:=by
  intro ζ;rintro e wx⟨rfl,aM⟩;rw[<-aM];clear aM;refine hK _ _ FS2 ?_;revert wx;exact ζ.dH):P:=h ⟨k⟩
def M3(h:P:=by
  obtain⟨h1,h2⟩:=h;refine⟨h1,?_⟩;rcases h2 with h2|⟨g,cap,cur,hv,hg,r⟩
  ·simp_all
  ·exact .inr ⟨g,cap,cur,hv,by omega,r⟩):P:=h
def M4(h:P:=by
  obtain⟨h1,h2⟩:=h;refine⟨h1,?_⟩;rcases h2 with h2|⟨g,cap,cur,hv,hg,hh,r⟩
  ·simp_all
  ·exact Yb):P:=h
def XX(h:P:=by
  simp[Value.ownBlock]at e0;subst e0;have:=hb.symm.trans hh;simp at this;exact hne this.2):P:=h
def M5(h:P:=by
  rw[ih,Array.toList_setIfInBounds];have h1:(cs.toList.set (off+k) v).take (off+(k+1))=cs.toList.take (off+k)++[v]:=by exact Ye
  have h2:(cs.toList.set (off+k) v).drop (off+(k+1)+κ l)=cs.toList.drop (off+k+κ (v::l)):=by rw[List.drop_set_of_lt (by omega)];congr 1;simp;omega
  rw[h1,h2];simp):P:=h
def XY(h:P:=by
  have:=Cu hir;rw[k7]at this;split at this
  ·cases this
  ·exact aaf):P:=h
def M6(h:P:=by
  have HF:=an (show lL next l=none by unfold lL;rw[if_neg (by omega)]);go_in;go_wp2;go_ret2;exact .inl ⟨HF,rfl,Up.refl w⟩):P:=h
def M7(h:dG K->P:=by
  intro ζ;intro w6 aY aH;rw[(Jf _ x.loc hxl x.s)]at aY;obtain⟨D6,T6⟩:=aw (Dv.RL D5 x.loc x.s aY aH) (T5.trans (Touch.bg (F:=cM h) aH (λj hj=>by cases hj;exact .inr (.inl rfl))) (λn hn _=>hn));clear aY aH;revert T6;revert D6;revert w6;exact ζ.dH):P:=h ⟨k⟩
def M8(h:P:=by
  clear upa;go_wp2_with(first
   | (refine iH rfl 116 (.tmp 14) rfl g (k*129) rfl (ls x) RG _ underlying116 rfl (od x) ?_)
   | (refine dS rfl 116 rfl (ls Pt) CE ?_)
   | (refine iI (w:=wr) rfl 116 (.tmp 5) (.tmp 15) rfl wr.heap.size rfl (ls x) rfl rfl 116 (ls Pt) (od x) (AZ x) (Hp x) ?_))
  refine⟨⟨k+1,hlt,by simp,by rw[ay.out];exact D1,T1⟩,?_⟩;simp only[intOf];omega):P:=h
def M9(h:P:=by
  have hS:=an (show pY wr w.heap.size (sx (l.take (k+1)))from a7.congr HB (λi hi=>by
   rw[hT.out i];have:¬(i:Int)=x:=by omega
   simp[this]))
  go_wp2_with fail;go_roundw
  case rel=>exact⟨k+1,by omega,by simp,hS,upr⟩
  case measure=>simp[intOf];omega):P:=h
def M'(h:P:=by
  have HR:=an (show decide (0<=i/\i<64)=false by simp;omega);go_in;go_wp2;go_ret;simp):P:=h
def Na(h:P:=by
  obtain⟨_,h2⟩:=h;obtain⟨_,h3⟩:=h';rcases h2 with⟨h4,_⟩|⟨g,cap,cur,h4,_,h5,_⟩
  ·left;rw[h4];rfl
  ·exact X5):P:=h
def XZ(h:P:=by
  right;rw[h4,h6];intro hc;simp only[Value.ownBlock,Option.some.injEq]at hc;simp_all):P:=h
def Nb(h:P:=by
  rintro pre x W1⟨ps,rfl,h⟩hp;refine(hY ps ⟨x,(by simpa using hp.subset (show x∈_++[x] by simp))⟩ W1 h (by have:=hp.length_le;simp at this;omega)).mono ?_;rintro e W'(⟨rfl,h1,h2⟩|⟨rfl,h1⟩)
  ·exact .inl ⟨rfl,⟨_,by simp,h1⟩,h2⟩
  ·exact .inr ⟨rfl,⟨_,by simp,h1⟩⟩):P:=h
def Nc(h:P:=by
  have HE:=an (show cL n=0 by unfold cL;rw[if_neg (by omega)]);go_in;go_wp2;go_ret;exact⟨by rw[HE.out];rfl,rfl⟩):P:=h
def Nd(h:dG K->P:=by
  intro ζ;(try simp only[Act.put,fB]);refine zQ 2 (pq b (off+k*11)) rfl rfl ?_;(try simp only[Act.put,fB]);refine zQ 3 (pq b (off+k*11+4)) rfl rfl ?_;(try simp only[Act.put,fB]);exact ζ.dH):P:=h ⟨k⟩
def Nf(h:dG K->P:=by
  intro ζ;refine(callsIn_wide (n:=6)).1 ?_;have h1:1<=6:=by omega
  refine callsIn_of_wp_marks func206 rfl trivial ?_ rfl;simp only[ntmps206,List.size_toArray,List.length_cons,List.length_nil,Nat.reduceAdd,Nat.reduceSub,Array.replicate_succ,Array.replicate_zero,List.push_toArray,List.append_toArray,List.nil_append,List.cons_append];revert h1;exact ζ.dH):P:=h ⟨k⟩
def Ng(h:dG K->P:=by
  intro ζ;refine(callsIn_wide (n:=6)).1 ?_;have h1:1<=6:=by omega
  refine callsIn_of_wp_marks func205 rfl trivial ?_ rfl;simp only[ntmps205,List.size_toArray,List.length_cons,List.length_nil,Nat.reduceAdd,Nat.reduceSub,Array.replicate_succ,Array.replicate_zero,List.push_toArray,List.append_toArray,List.nil_append,List.cons_append];revert h1;exact ζ.dH):P:=h ⟨k⟩
def Nh(h:dG K->P:=by
  intro ζ;obtain⟨RC,DT,DN,BX⟩:=bW (hc j hlt) (xv hlt HD) (@Dn (fl) j x.dead hlt) (aF.new wr 87 (be x.dead[j]));have cb:(wr.alloc (.cells (be x.dead[j]) 87)).cell? (ad wr.heap.size 1)=some (u6 (x.dead[j].aU:Int)):=by rw[BX.out.cell];rfl
  revert cb;revert BX;revert DN;revert DT;revert RC;exact ζ.dH):P:=h ⟨k⟩
def Ni(h:P:=by
  generalize x.dead[j]=p at *;clear hc;by_cases hb:p.aU<=fl
  ·exact aae
  ·exact XU):P:=h
def Nj(h:P:=by
  have s:=s.up u;go_wp2_with(refine fw s ?_;intro _ w s);refine me s ?_;rw[show n9 M full=(r,M)from by rw[DM.out];unfold Dq EG;rw[hr];rfl];exact wh.bP HA s.pure):P:=h
def o7(h:P:=by
  go_in;go_wp2;go_ret;exact⟨by rw[HF.out]<;>rfl,U1⟩):P:=h
def rH(h:dG K->P:=by
  intro ζ;refine P1.mono ?_;rintro e w2⟨rfl,hw2⟩;rw[hw2];clear hw2;revert w2;exact ζ.dH):P:=h ⟨k⟩
def ve(h:dG K->P:=by
  intro ζ;refine wpQuiet_nil ?_;intro w4 av;obtain⟨⟨d,os⟩,hw4⟩:=av;have up4:Up w1 w4:=by rw[hw4];exact below_regrown _ _ _
  revert up4;revert hw4;revert os;revert d;revert w4;exact ζ.dH):P:=h ⟨k⟩
def vd(h:dG K->P:=by
  intro ζ;refine SP.mono ?_;rintro e w2⟨rfl,u2⟩;obtain⟨U2,B2⟩:=aw (U1.trans u2) (B1.up u2);revert B2;revert U2;revert u2;revert w2;exact ζ.dH):P:=h ⟨k⟩
def vf(h:P:=by
  go_in;go_wp2_with(first
   | refine hs 33 0 (gx o vd vk) ?_)
  go_ret;exact⟨by rw[M.out];rfl,U⟩):P:=h
def zr(h:P:=by
  have HF:=an (FF (by simp;omega));go_wp2;go_ret;exact⟨by rw[HF.out]<;>rfl,U7⟩):P:=h
def zs(h:dG K->P:=by
  intro ζ;refine wpQuiet_nil ?_;intro w4 av;obtain⟨⟨d,os⟩,hw4⟩:=av;have up4:Up wr w4:=by rw[hw4];exact below_regrown _ _ _
  revert up4;revert hw4;revert os;revert d;revert w4;exact ζ.dH):P:=h ⟨k⟩
def zt(h:P:=by
  go_in;go_wp2;go_ret;exact⟨by rw[HF.out]<;>rfl,U1⟩):P:=h
def zu(h:dG K->P:=by
  intro ζ;refine(PL1 _ U2).mono ?_;rintro e w3⟨rfl,u3⟩;obtain⟨U3,B3⟩:=aw (U2.trans u3) (B2.up u3);revert B3;revert U3;revert u3;revert w3;exact ζ.dH):P:=h ⟨k⟩
def zv(h:dG K->P:=by
  intro ζ;refine PD.mono ?_;rintro e wx⟨rfl,aM⟩;rw[<-aM];clear aM;revert wx;exact ζ.dH):P:=h ⟨k⟩
def zw(h:dG K->P:=by
  intro ζ;refine LE.mono ?_;rintro e wx⟨rfl,aM⟩;rw[<-aM];clear aM;revert wx;exact ζ.dH):P:=h ⟨k⟩
def zx(h:dG K->P:=by
  intro ζ;obtain⟨ys,e0,z⟩:=Rz.s os u s.t.size;have e:=an e0;clear e0;refine⟨_,_,rfl,z,?_⟩;revert e;revert z;revert ys;exact ζ.dH):P:=h ⟨k⟩
def zy(h:dG K->P:=by
  intro ζ;have us:=Up.refl w4;refine ta 0 ?_;refine ta 1 ?_;refine ta 2 ?_;revert us;exact ζ.dH):P:=h ⟨k⟩
def F5(h:dG K->P:=by
  intro ζ;refine wpQuiet_nil ?_;intro w4 av;obtain⟨⟨d,os⟩,hw4⟩:=av;have up4:Up w3 w4:=by rw[hw4];exact below_regrown _ _ _
  revert up4;revert hw4;revert os;revert d;revert w4;exact ζ.dH):P:=h ⟨k⟩
def F6(h:P:=by
  go_in;go_wp2;go_ret;simp):P:=h
def F7(h:dG K->P:=by
  intro ζ;refine wpQuiet_nil ?_;intro w5 av;obtain⟨⟨d,os⟩,aO⟩:=av;have ao:Up w4 w5:=by rw[aO];exact below_regrown _ _ _
  revert ao;revert aO;revert os;revert d;revert w5;exact ζ.dH):P:=h ⟨k⟩
def F'(h:dG K->P:=by
  intro ζ;refine ta 7 ?_;refine ta 8 ?_;refine ta 9 ?_;(try simp only[Act.put,fB]);exact ζ.dH):P:=h ⟨k⟩
def F8(h:dG K->P:=by
  intro ζ;simp only[eJ];have b1:((i:Int)<0)=False:=by simp
  have b2:((i:Int)<(κ l:Int))=True:=by simp;omega
  have b3:((i:Int)>=0)=True:=by simp
  revert b3;revert b2;revert b1;exact ζ.dH):P:=h ⟨k⟩
def Nk(h:P:=by
  have e:eK P.C root (1+k)=a6 F k:=by grind [dr]
  by_cases hh:a6 F k=hole
  ·grind [kM]
  ·exact nw (ET _ ⟨hh,1+k,by omega,e⟩)):P:=h
def F9(h:dG K->P:=by
  intro ζ;obtain⟨ys,e0,z⟩:=Rz.s o1 u s.t.size;have e:=an e0;clear e0;refine⟨_,_,rfl,z,?_⟩;revert e;revert z;revert ys;exact ζ.dH):P:=h ⟨k⟩
def Nl(h:P:=by
  subst h0;have:l=[]:=List.length_eq_zero_iff.1 h1;subst this;exact .inl ⟨rfl,_,cap,rfl,hm,λh=>by simp_all⟩):P:=h
def Nn(h:P:=by
  obtain⟨_,h2⟩:=ho;rcases h2 with⟨rfl,_⟩|⟨g',cap,cur,rfl,_,hh,_⟩
  ·simp[Value.ownBlock]at e0
  ·exact XX):P:=h
def No(h:P:=by
  have HF:=an (TT (by simp;omega));go_wp2;go_ret;exact⟨by rw[HF.out]<;>rfl,U7⟩):P:=h
def Np(h:P:=by
  have hl:(load ad).run P w=.ok v w:=by simp[hc]
  unfold Oper.wp execOp;simp only[ho,hx,Instr.loadAt,Instr.sureAddr,loadVar,Sem.run_bind,Sem.run_pure,Result.andThen_ok,hagg,Bool.false_eq_true,if_false,hl];exact h):P:=h
def Nq(h:P:=by
  go_in;go_wp2_with fail;go_ret;exact⟨by rw[HR.out];rfl,rfl⟩):P:=h
def Nr(h:P:=by
  go_in;go_wp2_with fail;go_ret;exact⟨by rw[HR.out];rfl,by rw[HV.out];exact D,Touch.refl _ _⟩):P:=h
def Ns(h:P:=by
  go_in;go_wp2;go_ret;exact⟨by rw[HR.out];simp[e],rfl⟩):P:=h
def Nt(h:dG K->P:=by
  intro ζ;have g9:=cV w5 g (aC s.val);have G9:=G5.grown g9 (λhf=>by have:=HA.lt _ hf;omega) (by omega);have B9:=B5.grown g9 (λe=>by have:=Option.some.inj e;omega);have C9:=C5.grown g9 (λe=>by have:=Option.some.inj e;omega);revert C9;revert B9;revert G9;revert g9;exact ζ.dH):P:=h ⟨k⟩
def Nu(h:dG K->P:=by
  intro ζ;refine(yG _ _ ts OW.cu (by simp[ts]) _ [0,x,y] IN (by intro n hn;simp at hn;omega) (BL (by omega) hx hy)).mono ?_;rintro e w7⟨vp,rfl,op,u7⟩;obtain⟨OP,F7⟩:=aw (op.mono F6.2.size) (show aF w7 wr.heap.size 326 (iy ⟨false,(x:Int),(y:Int)⟩)/\Up w4 w7 from⟨F6.1.up u7,F6.2.trans u7⟩);revert F7;revert OP;revert u7;revert op;revert vp;revert w7;exact ζ.dH):P:=h ⟨k⟩
def Nv(h:dG K->P:=by
  intro ζ;refine(yG _ _ ts OW.cu (by simp[ts]) _ [1,x,y] IN (by intro n hn;simp at hn;omega) (BL (by omega) hx hy)).mono ?_;rintro e w7⟨vp,rfl,op,u7⟩;obtain⟨OP,F7⟩:=aw (op.mono F6.2.size) (show aF w7 wr.heap.size 326 (iy ⟨true,(x:Int),(y:Int)⟩)/\Up w4 w7 from⟨F6.1.up u7,F6.2.trans u7⟩);revert F7;revert OP;revert u7;revert op;revert vp;revert w7;exact ζ.dH):P:=h ⟨k⟩
def Nw(h:P:=by
  simp only[Result.andThen_ok,sliced,e1,e2];rw[if_neg (by omega)];unfold gJ;simp[add_plain]):P:=h
def X0(h:P:=by
  clear z0 z1 SL;gi_wp2;refine bodyPost_ret (results_none rfl _ _ _) rfl ?_;exact⟨⟨_,rfl⟩,.inr ⟨_,aj,ak⟩⟩):P:=h
def Nx(h:P:=by
  go_in;go_wp2_with fail;go_ret;exact⟨_,rfl,by rw[HL.out];exact Own.nil _ _ _ _,Up.refl _⟩):P:=h
def Ny(h:dG K->P:=by
  intro ζ;refine⟨by simp,.inl ⟨_,_,rfl,run_takeDeferred FIN.1,?_⟩⟩;obtain⟨h6,h7⟩:=az FIN.2.1 FIN.2.2.1;refine⟨.tuple #[.slice za zn zc,i6 0],?_,_,rfl,FIN.2.2.2.1,FIN.2.2.2.2⟩;revert h7;revert h6;exact ζ.dH):P:=h ⟨k⟩
def X1(h:P:=by
  obtain⟨g1,o1,e1,_,aN⟩:=cg ha (by rw[List.length_map]) (by rw[List.length_map];omega);have:=aN 0 (by rw[List.length_map];omega);simp only[Option.some.injEq,Addr.mk.injEq]at e1;exact qJ HA0 J.o (by rw[e1.1];exact World.block_lt_of_cell? w _ this) (han ga rfl)):P:=h
def Nz(h:P:=by
  go_wp2_with(refine arm ?_);go_roundw
  case rel=>exact⟨i+1,by omega,by simp,HOWN.up UA,GR.up UA,NB.up UA⟩
  case measure=>simp[intOf];omega):P:=h
def NA(h:dG K->P:=by
  intro ζ;obtain⟨ak,HBS,CO⟩:=aV how hbs (show w.cell? (ad b (off+i*11+3))=some (u6 (ow:Int))from by rw[how];exact(cd RG).2.2.2.1);have CX:=an (show ∀x,x<κ l->w.cell? (ad b (off+x*11+3))=some (u6 ((recAt l x).owner:Int))/\w.cell? (ad b (off+x*11))=some (u6 ((recAt l x).id:Int))from λx hx=>by obtain⟨b',aC,ar,_,aJ,aK,aB,_⟩:=cf HV hx;simp only[Option.some.injEq,Addr.mk.injEq,and_true]at ar;obtain⟨rfl,rfl⟩:=ar;exact⟨(cd aB).2.2.2.1,(cd aB).1⟩)
  revert CX;revert CO;revert HBS;revert ak;exact ζ.dH):P:=h ⟨k⟩
def NB(h:dG K->P:=by
  intro ζ;(try simp only[Act.put,fB]);refine yz 3 (pq b (off+x*11)) rfl ?_ (hy:=(.inl ⟨rfl,λ_=>by go_simp⟩));(try simp only[Act.put,fB]);refine yz 4 (pq b (off+x*11)) rfl ?_ (hy:=(.inl ⟨rfl,λ_=>by go_simp⟩));exact ζ.dH):P:=h ⟨k⟩
def NC(h:P:=by
  rintro(h|h|h)
  ·exact .inr (.inl h)
  ·exact .inl h
  ·exact .inr (.inr h)):P:=h
def ND(h:P:=by
  obtain⟨_,h4⟩:=h2;rcases h4 with⟨h5,_⟩|⟨g,cap,cur,h5,_,h6,_⟩
  ·rw[h5]at hb;cases hb
  ·exact X2):P:=h
def X2(h:P:=by
  rw[h5]at hb;simp only[Value.ownBlock,Option.some.injEq]at hb;subst hb;exact A.cc (t:=90) (C:=cur) h6 (by decide) hf):P:=h
def NF(h:P:=by
  have:n=141\/n=161:=BA hn;rcases this with rfl|rfl
  ·exact aaa
  ·exact aac):P:=h
def NG(h:dG K->P:=by
  intro ζ;obtain⟨b2,b3,J,PS⟩:=iv F.JM F.pv (λ(x:ao) (hx:x∈l) (y:ao) (hy:y∈l)=>F.fP.inj (x:=x) (y:=y) hx hy) (λ(x:ao) (hx:x∈l) (y:ao) (hy:y∈l)=>F.eM (x:=x) (y:=y) hx hy);revert PS;revert J;revert b3;revert b2;exact ζ.dH):P:=h ⟨k⟩
def NH(h:dG K->P:=by
  intro ζ;have cp:w2.cell? ⟨p,0,none⟩=some (.pointer (some ⟨gb,0,none⟩)):=BP.cell 0;obtain⟨BQ,GQ⟩:=aw (BP.setCell 0 (.pointer (some ⟨gb',0,none⟩))) (bZ BP 0 (.pointer (some ⟨gb',0,none⟩)));have fp:=BP.free 0;revert fp;revert GQ;revert BQ;revert cp;exact ζ.dH):P:=h ⟨k⟩
def NI(h:dG K->P:=by
  intro ζ;have TU:Calls prog 49 #[j9 gb,.int .u64 ((recAt G.l k).id:Int),.agg (be t),.slice va vm vc] w λe w'=>e=.returned (.int .i64 r)/\GA w' gb (H.at vp) G9/\Touch (λk=>PF (H.at vp) k\/k=gb) w w':=by exact Yd
  refine TU.mono ?_;rintro e w7⟨rfl,a7,t7⟩;have s7:=Fr.start w7;revert s7;revert t7;revert a7;revert w7;revert TU;exact ζ.dH):P:=h ⟨k⟩
def NJ(h:P:=by
  simp only[if_true]at e ⊢;rw[hf2]at e ⊢;obtain rfl:G3=G:=by exact NL
  exact⟨M,Step.full (M2:=M) I S (by grind [hG]) (by grind) (λ_ _=>rfl) rfl (by omega) rfl⟩):P:=h
def NK(h:dG K->P:=by
  intro ζ;intro w9 b9 g9;have GT:=Touch.bg (F:=λb=>b=w.heap.size) g9 (λb hb=>by grind);obtain⟨D9,T9⟩:=aw (D3.ax GT (λb hb e=>NF (e ▸ hb))) (T3'.trans GT (λn hn hl=>by omega));revert T9;revert D9;revert GT;revert g9;revert b9;revert w9;exact ζ.dH):P:=h ⟨k⟩
def e3(h:P:=by
  go_wp2;go_ret;simp):P:=h
def f'(h:dG K->P:=by
  intro ζ;rintro e wx⟨rfl,aM⟩;rw[<-aM];clear aM;revert wx;exact ζ.dH):P:=h ⟨k⟩
def lP(h:P:=by
  intro l x W K hK;gi_wp2;exact hK):P:=h
def o8(h:dG K->P:=by
  intro ζ;refine ta 0 ?_;refine ta 1 ?_;refine ta 2 ?_;exact ζ.dH):P:=h ⟨k⟩
def o9(h:dG K->P:=by
  intro ζ;rintro e w2⟨rfl,hw2⟩;rw[hw2];clear hw2;revert w2;exact ζ.dH):P:=h ⟨k⟩
def rI(h:P:=by
  go_wp2_with(refine arm ?_);go_ret;exact⟨by rw[HF.out]<;>rfl,U3⟩):P:=h
def vg(h:dG K->P:=by
  intro ζ;refine ta 5 ?_;refine ta 6 ?_;refine ta 7 ?_;exact ζ.dH):P:=h ⟨k⟩
def zz(h:P:=by
  rintro e W'⟨h1,⟨ys,rfl,ps,h2,h3⟩|⟨pre,h2,ps,rfl,h3⟩⟩
  ·exact⟨h1,.inl ⟨ps,h2,h3⟩⟩
  ·exact⟨h1,.inr ⟨ps,h2,h3⟩⟩):P:=h
def zA(h:dG K->P:=by
  intro ζ;refine ta 10 ?_;(try simp only[Act.put,fB]);refine dn ?_;exact ζ.dH):P:=h ⟨k⟩
def zB(h:P:=by
  go_roundw
  case rel=>exact⟨k+1,by omega,by simp,by rw[NX.out,aa.out,ag];exact(s.rem .head).rem .head⟩
  case measure=>simp only[intOf];omega):P:=h
def Gb(h:P:=by
  try simp only[decide_eq_true_eq,beq_iff_eq,bne_iff_ne,beq_eq_false_iff_ne,bne_eq_false_iff_eq,Bool.not_eq_true',Bool.and_eq_true,Bool.or_eq_true,Bool.and_eq_false_iff,decide_eq_false_iff_not]at *
  try simp only[Bool.false_eq_true,false_iff,true_iff]
  omega):P:=h
def Gc(h:P:=by
  go_wp2;go_ret;exact⟨by rw[HR.out];rfl,rfl⟩):P:=h
def Gd(h:P:=by
  go_wp2;go_ret;exact⟨by rw[HP.out];rfl,UR⟩):P:=h
def X3(h:P:=by
  right;have:=Option.some.inj (h4.symm.trans hk);omega):P:=h
def Ge(h:dG K->P:=by
  intro ζ;refine(mz w next _ l (hv.up s.pure) hr full hf).mono ?_;rintro e w⟨rfl,u⟩;have s:=s.up u;revert s;revert u;revert w;exact ζ.dH):P:=h ⟨k⟩
def Gg(h:dG K->P:=by
  intro ζ;refine(Sh w next _ l (hv.up s.pure) hr full hf).mono ?_;rintro e w⟨rfl,u⟩;have s:=s.up u;revert s;revert u;revert w;exact ζ.dH):P:=h ⟨k⟩
def Gh(h:dG K->P:=by
  intro ζ;have hn:=Cv hva;have nz:((n:Int) != 0)=true:=by rcases hn with rfl|rfl<;>rfl
  simp only[Mf];revert nz;revert hn;exact ζ.dH):P:=h ⟨k⟩
def Gi(h:dG K->P:=by
  intro ζ;refine(Ly w gb H G (A.up s.pure) hl hr hn).mono ?_;rintro e w⟨rfl,u⟩;have s:=s.up u;revert s;revert u;revert w;exact ζ.dH):P:=h ⟨k⟩
def Gj(h:P:=by
  refine⟨b,off,e,hb,λj v hj=>?_⟩;rw[Nat.add_assoc];exact hc k hk j v hj):P:=h
def Gk(h:dG K->P:=by
  intro ζ;have IS:=an (show(prog.info? 60).map (·.size)=some (aC aM).size from dw);have c0:w2.cell? (ad w.heap.size 0)=some (i6 o.kind):=b1.cell 0;rw[hw2]at c0;revert c0;revert IS;exact ζ.dH):P:=h ⟨k⟩
def NL(h:P:=by
  rcases e with⟨e,_⟩|⟨_,e⟩
  ·cases e
  ·exact e):P:=h
def NM(h:P:=by
  rcases h with⟨rfl,_⟩|⟨b,off,cap,_,_,h1,h2,_⟩
  ·simp
  ·unfold maxLen at h2;omega):P:=h
def NN(h:P:=by
  have:l=[]:=List.length_eq_zero_iff.1 h0;subst this;exact .inl ⟨rfl,_,cap,rfl,hm,λh=>by simp_all⟩):P:=h
def NO(h:P:=by
  have:l=[]:=List.length_eq_zero_iff.1 h0;subst this;exact .inl ⟨rfl,_,0,rfl,Nat.zero_le _,λ_=>rfl⟩):P:=h
def NP(h:P:=by
  unfold Oper.wp;simp[execOp,ho,resolve,invoke,builtin,hs,hx,hrun,Result.andThen];exact h v w (by simp;omega) ⟨rfl,rfl,rfl,Nat.le_refl _,λ_ _ _=>rfl⟩ (Below.refl _ _)):P:=h
def NQ(h:dG K->P:=by
  intro ζ;obtain⟨i,hi,hz0,hz1,ar⟩:=info_parts hinfo;have hb:(bytes:Int)*(c:Int)<=281474976710656:=by omega
  have:=run_make (P:=P) w t e i z ht hi hz0 .i64 .i64 0 c (by omega) (by omega) (by simp_all) (by omega);revert this;revert hb;revert ar;revert hz1;revert hz0;revert hi;revert i;exact ζ.dH):P:=h ⟨k⟩
def NR(h:dG K->P:=by
  intro ζ;obtain⟨i,hi,hz0,hz1,ar⟩:=info_parts hinfo;have hb:(bytes:Int)*(c:Int)<=281474976710656:=by omega
  have:=run_make (P:=P) w t e i z ht hi hz0 .i64 .i64 c c (by omega) (by omega) (by simp_all) (by omega);revert this;revert hb;revert ar;revert hz1;revert hz0;revert hi;revert i;exact ζ.dH):P:=h ⟨k⟩
def NS(h:P:=by
  induction h with
  | head=>exact List.mem_cons_self
  | tail _ ih=>exact List.mem_cons_of_mem _ ih):P:=h
def NT(h:P:=by
  have e:put ops a ((i,w.heap.size)::E)=(put ops a E).put y.dst (pz w.heap.size):=by simp[put,HT,hy]
  rw[e]at this;exact this):P:=h
def NU(h:P:=by
  have e:mR (Array.replicate ops.size false)=ops.size:=by rw[mR,Array.toList_replicate,List.countP_replicate];rfl
  simp only[ml,List.map_nil,nZ,put,XS,e]at this;exact this):P:=h
def NV(h:P:=by
  go_wp2_with fail;go_ret2;exact⟨.inr ⟨λhh=>by have:=hh x aL;omega,rfl⟩,rfl⟩):P:=h
def NW(h:dG K->P:=by
  intro ζ;have q1:bn (l.take 4)<4294967296:=fU (k:=4) (by simp;omega);have q2:bn ((l.drop 4).take 8)<18446744073709551616:=fU (k:=8) (by simp;omega);have q3:bn (l.drop 12)<4294967296:=fU (k:=4) (by simp;omega);revert q3;revert q2;revert q1;exact ζ.dH):P:=h ⟨k⟩
def NX(h:P:=by
  go_in;go_wp2;all_goals
   exact aad):P:=h
def NY(h:P:=by
  rcases Nat.lt_or_ge b W.heap.size with h|h
  ·exact h
  ·simp[Array.getElem?_eq_none h]at hb):P:=h
def NZ(h:dG K->P:=by
  intro ζ;refine wp_region_still_tail 11 (by kernel_rfl) (by kernel_rfl) ?_;simp only[List.take_succ_cons,List.take_zero,List.drop_succ_cons,List.drop_zero];change wpStill _ _ w.drew (λa'=>wpList _ _ _ _ a' w.drew) _ _;exact ζ.dH):P:=h ⟨k⟩
def N0(h:dG K->P:=by
  intro ζ;refine wp_region_still_tail 11 (by kernel_rfl) (by kernel_rfl) ?_;simp only[List.take_succ_cons,List.take_zero,List.drop_succ_cons,List.drop_zero];change wpStill _ _ w2.drew (λa'=>wpList _ _ _ _ a' w2.drew) _ _;exact ζ.dH):P:=h ⟨k⟩
def N1(h:P:=by
  rcases ag with ag|⟨y,hy,ag⟩
  ·exact .inl (.inl ag)
  ·exact X4):P:=h
def X4(h:P:=by
  rcases List.mem_or_eq_of_mem_set hy with hy|rfl
  ·exact .inl (.inr ⟨y,hy,ag⟩)
  ·exact .inr ag):P:=h
def N2(h:P:=by
  rcases List.mem_or_eq_of_mem_set hy with hy|rfl
  ·exact key (h3 y hy)
  ·exact key h4):P:=h
def N3(h:P:=by
  rintro e W'(⟨rfl,h1,h2⟩|⟨rfl,h1⟩)
  ·exact .inl ⟨rfl,⟨_,by simp,h1⟩,h2⟩
  ·exact .inr ⟨rfl,⟨_,by simp,h1⟩⟩):P:=h
def N4(h:P:=by
  unfold jH;rw[List.take_succ_eq_append_getElem h,List.filter_append];simp[hx]):P:=h
def X5(h:P:=by
  rcases h3 with⟨h6,_⟩|⟨g',al,aB,h6,_,h7,_⟩
  ·right;rw[h4,h6];simp[Value.ownBlock]
  ·exact XZ):P:=h
def N5(h:dG K->P:=by
  intro ζ;have ca:=hca (κ pre) (by rw[List.length_map];omega);rw[List.getElem_map]at ca;have hga:¬PF (H.at vp) ga:=by exact X1
  revert hga;revert ca;exact ζ.dH):P:=h ⟨k⟩
def N6(h:P:=by
  rcases h with h|⟨b,off,cap,h1,h2,h3,h4,h5⟩
  ·exact .inl h
  ·exact Yf):P:=h
def N7(h:P:=by
  simp only[e,List.length_cons,List.length_nil]at h ⊢;obtain rfl:k=0:=by omega
  simp;omega):P:=h
def X6(h:P:=by
  have:=dg (P:=prog) 30 dC dD (some ⟨w7.heap.size,0,none⟩) n n 2 (by omega) W;rw[show bY (some ⟨w7.heap.size,0,none⟩) 2 n n=sq w7.heap.size 2 (n-2) (n-2)from by unfold bY;rw[if_neg (by omega)];simp[add_plain]]at this;exact this):P:=h
def N8(h:P:=by
  have e1:IntKind.u64.min=0:=by decide
  have e2:IntKind.u64.max=18446744073709551615:=by decide
  simp[Lit.wf,e1,e2];omega):P:=h
def X7(h:P:=by
  rw[if_neg hq,if_neg (show ¬a=9+i from λh=>hq (by omega))];have e:=iz P.C root (i:=a-9) (by omega);grind [dr,bD]):P:=h
def N9(h:P:=by
  induction l generalizing i with
  | nil=>simp at hi
  | cons a l ih=>
   cases i with
   | zero=>grind [recAt]
   | succ i=>grind [recAt]):P:=h
def N'(h:P:=by
  rintro e w5(⟨n,hn,rfl,u5⟩|⟨k,vd,hk,hkl,rfl,od,u5⟩)
  ·exact aab
  ·exact Z9):P:=h
def Oa(h:P:=by
  rintro w _ s _ w'(⟨n,nx,va,vm,vc,hx,rfl,u⟩|⟨nx,l',v',hx,rfl,os,u⟩)
  ·exact KS
  ·exact abi):P:=h
def X8(h:P:=by
  rcases(dm p).mp hp with h|⟨h1,h2⟩
  ·exact((SI.dd v vm y hy e p).mp h).1
  ·exact Yc):P:=h
def Ob(h:P:=by
  rcases hn with hn|hn
  ·exact X9
  ·exact .inr hn):P:=h
def X9(h:P:=by
  rcases V8 hn with h|h
  ·exact .inl h
  ·exact X'):P:=h
def X'(h:P:=by
  rcases OV n h with h|h
  ·exact Gs
  ·omega):P:=h
def Oc(h:P:=by
  unfold Oper.wp;simp[execOp,hop,hm,hx,hv,hrun,Result.andThen];exact hK' _ _ (hK w' r1 r2)):P:=h
def Od(h:dG K->P:=by
  intro ζ;have c0:w2.cell? (ad w.heap.size 0)=some (i6 o.kind):=b1.cell 0;have c1:w2.cell? (ad w.heap.size 1)=some (.string (strOf o.name)):=b1.cell 1;have c3:w2.cell? (ad w.heap.size 3)=some (i6 o.n):=b1.cell 3;revert c3;revert c1;revert c0;exact ζ.dH):P:=h ⟨k⟩
def Oe(h:P:=by
  refine qa 8 12 (by kernel_rfl) rfl rfl rfl rfl ?_ ?_
  ·exact Z7
  ·exact abj):P:=h
def Of(h:P:=by
  refine⟨rfl,rfl,rfl,by simp,λk hk hF=>?_⟩;have hne:g≠k:=λe=>hF (by rw[<-e];rfl);grind):P:=h
def cH(h:dG K->P:=by
  intro ζ;refine(I2 w next _ l (hv.up s.pure) hl hr).mono ?_;rintro e w⟨vx,rfl,ox,u⟩;revert u;revert ox;revert vx;revert w;exact ζ.dH):P:=h ⟨k⟩
def cQ(h:dG K->P:=by
  intro ζ;obtain⟨ys,e,z⟩:=Rz.s ox u s.t.size;have s:=s.new z;revert s;revert z;revert e;revert ys;exact ζ.dH):P:=h ⟨k⟩
def er(h:dG K->P:=by
  intro ζ;rintro e w⟨rfl,u⟩;have s:=s.up u;revert s;revert u;revert w;exact ζ.dH):P:=h ⟨k⟩
def dZ(h:dG K->P:=by
  intro ζ;rw[<-Bool.not_eq_true,IFF.out];intro hh;revert hh;exact ζ.dH):P:=h ⟨k⟩
def gC(h:dG K->P:=by
  intro ζ;(try simp only[Act.put,fB]);exact ζ.dH):P:=h ⟨k⟩
def np(h:P:=by
  simp only[intOf];omega):P:=h
def nq(h:dG K->P:=by
  intro ζ;have b1:((i:Int)<0)=False:=by simp
  have b2:((i:Int)<(κ l:Int))=True:=by simp;omega
  revert b2;revert b1;exact ζ.dH):P:=h ⟨k⟩
def nr(h:dG K->P:=by
  intro ζ;(try simp only[Act.put,fB]);refine dn ?_;exact ζ.dH):P:=h ⟨k⟩
def ns(h:dG K->P:=by
  intro ζ;refine ta 2 ?_;refine ta 3 ?_;exact ζ.dH):P:=h ⟨k⟩
def o'(h:dG K->P:=by
  intro ζ;rintro e w3⟨r,G2,vp,gb',H',rfl,hR,hH,hAt,T3,ao⟩;have B3:=an (b2.ax T3 (by rintro(h|h);have:=LT.1 _ h;omega;have:=LT.2;omega));revert B3;revert ao;revert T3;revert hAt;revert hH;revert hR;revert H';revert gb';revert vp;revert G2;revert r;revert w3;exact ζ.dH):P:=h ⟨k⟩
def rJ(h:dG K->P:=by
  intro ζ;refine(callsIn_wide (n:=6)).1 ?_;have h1:1<=6:=by omega
  revert h1;exact ζ.dH):P:=h ⟨k⟩
def vh(h:dG K->P:=by
  intro ζ;refine wpList_plain hgd λK hK=>?_;unfold Oper.wp execOp;revert hK;revert K;exact ζ.dH):P:=h ⟨k⟩
def Ya(h:P:=by
  refine⟨rfl,by decide,?_⟩;grind [fits]):P:=h
def vi(h:dG K->P:=by
  intro ζ;refine ta 10 ?_;(try simp only[Act.put,fB]);exact ζ.dH):P:=h ⟨k⟩
def zC(h:P:=by
  simp[IntKind.wrap,IntKind.bits,IntKind.signed];omega):P:=h
def zD(h:P:=by
  go_ret2;exact⟨_,rfl,hown,upr⟩):P:=h
def zE(h:dG K->P:=by
  intro ζ;have ho:=HOWN.out;rw[List.take_of_length_le (Nat.le_refl _)]at ho;revert ho;exact ζ.dH):P:=h ⟨k⟩
def zF(h:dG K->P:=by
  intro ζ;obtain⟨J,PS⟩:=az (λ(x:ao) (hx:x∈l) (y:ao) (hy:y∈l)=>F.fP.inj (x:=x) (y:=y) hx hy) (λ(x:ao) (hx:x∈l) (y:ao) (hy:y∈l)=>F.eM (x:=x) (y:=y) hx hy);revert PS;revert J;exact ζ.dH):P:=h ⟨k⟩
def zG(h:dG K->P:=by
  intro ζ;rintro e w3⟨rfl,A3,T3⟩;have B3:=an (b2.ax T3 (by obtain⟨vb,a,b,c⟩:=HA.out;rintro(h|h);exact e5 a b2 (by decide) h.symm;exact c.ne b2 h.symm));revert B3;revert T3;revert A3;revert w3;exact ζ.dH):P:=h ⟨k⟩
def zH(h:dG K->P:=by
  intro ζ;intro wz hbz ag;have H:=an (oP A3 ((Touch.bP (F:=λb=>b=mb\/b=kb) UU).and T3 (λb hb=>.inl hb)) B3 (Nat.le_succ _) ag);revert H;revert ag;revert hbz;revert wz;exact ζ.dH):P:=h ⟨k⟩
def Gl(h:dG K->P:=by
  intro ζ;have aT:prog.arrayLen 60=128:=by kernel_rfl
  have hs:(sizeOf (prog.elem 60)).run prog W=.ok 1 W:=by kernel_rfl
  revert hs;revert aT;exact ζ.dH):P:=h ⟨k⟩
def Gm(h:dG K->P:=by
  intro ζ;simp only[Bool.false_eq_true,false_and,and_false,and_self,if_false,if_true,reduceIte];go_in;exact ζ.dH):P:=h ⟨k⟩
def Gn(h:dG K->P:=by
  intro ζ;have b4:((j:Int)<0)=False:=by simp
  have b5:((j:Int)<(κ l:Int))=True:=by simp;omega
  revert b5;revert b4;exact ζ.dH):P:=h ⟨k⟩
def Gp(h:dG K->P:=by
  intro ζ;have t1:decide ((128:Int)<(κ b:Int))=false:=by simp;omega
  have t2:decide (128<κ b)=false:=by simp;omega
  revert t2;revert t1;exact ζ.dH):P:=h ⟨k⟩
def Gq(h:dG K->P:=by
  intro ζ;have hs:(sizeOf 87).run prog W=.ok 3 W:=by kernel_rfl
  have hg:(isAgg 87).run prog W=.ok true W:=by kernel_rfl
  revert hg;revert hs;exact ζ.dH):P:=h ⟨k⟩
def Gr(h:dG K->P:=by
  intro ζ;have u1:=ai w (.cells #[pz gb] 100);have c0:(w.alloc (.cells #[pz gb] 100)).cell? (ad w.heap.size 0)=some (pz gb):=(aF.new w 100 #[pz gb]).cell 0;revert c0;revert u1;exact ζ.dH):P:=h ⟨k⟩
def Yb(h:P:=by
  have hlt:g<w.heap.size:=by grind
  exact .inr ⟨g,cap,cur,hv,hg,by rw[Below.block hu g hlt];exact hh,r⟩):P:=h
def Og(h:P:=by
  rw[run_slice_lh W T a len cap ht .i64 .i64 lo hi (by omega) (by omega) (by omega),hs];rfl):P:=h
def Oh(h:P:=by
  cases h:(l==l2)<;>cases h2:((b:Int)==(b2:Int))<;>cases h3:((s:Int)==(s2:Int));all_goals go_simp):P:=h
def Oi(h:P:=by
  obtain⟨vs,h1,h2,h3⟩:=h;exact⟨vs,h1,h2.up hu,λi a b=>(h3 i a b).up hu⟩):P:=h
def Oj(h:P:=by
  rw[List.take_zero,List.nil_append,List.drop_of_length_le (by simp;omega)];simp):P:=h
def Ol(h:dG K->P:=by
  intro ζ;refine JE 60 (.tmp 5) rfl w.heap.size rfl 60 _ B5 _ underlying60 rfl (dJ s) ?_;refine yz 7 (.agg (ls ⟨n,s⟩)) rfl ?_ (hy:=(C6 rfl 116 0 1 (.tmp 21) (.tmp 22) rfl (i6 (n:Int)) (.agg (aC s.val)) rfl rfl (ls ⟨n,s⟩) (Te ⟨n,s⟩)));exact ζ.dH):P:=h ⟨k⟩
def Om(h:dG K->P:=by
  intro ζ;refine iG 8 _ (by kernel_rfl) rfl rfl ?_;refine mO 112 116 (.tmp 23) rfl _ 129 136 (ls ⟨n,s⟩) rfl underlying112 uA (by omega) (by omega) (oB _) ?_;exact ζ.dH):P:=h ⟨k⟩
def On(h:dG K->P:=by
  intro ζ;refine wp_region_still_tail 8 (by rfl) (by kernel_rfl) ?_;simp only[List.take_succ_cons,List.take_zero,List.drop_succ_cons,List.drop_zero];exact ζ.dH):P:=h ⟨k⟩
def Oo(h:dG K->P:=by
  intro ζ;refine wp_region_still_tail 8 (by kernel_rfl) (by kernel_rfl) ?_;simp only[List.take_succ_cons,List.take_zero,List.drop_succ_cons,List.drop_zero];exact ζ.dH):P:=h ⟨k⟩
def Oq(h:dG K->P:=by
  intro ζ;refine⟨by simp,.inl ⟨_,_,rfl,run_takeDeferred hK,?_⟩⟩;have aa:=cell_kept hcr (grownBy_putObj' _ D (.deferred none)) (λr e=>by cases e;exact⟨_,hK,rfl⟩);revert aa;exact ζ.dH):P:=h ⟨k⟩
def Ot(h:dG K->P:=by
  intro ζ;obtain⟨NS,NR⟩:=aw (show ¬PF H (w.heap.size+1)from λhf=>by have:=HA.lt _ hf;omega) (show ¬PF H w.heap.size from λhf=>by have:=HA.lt _ hf;omega);revert NR;revert NS;exact ζ.dH):P:=h ⟨k⟩
def Ou(h:dG K->P:=by
  intro ζ;refine wp_region_still_tail 6 (by rfl) (by kernel_rfl) ?_;simp only[List.take_succ_cons,List.take_zero,List.drop_succ_cons,List.drop_zero];exact ζ.dH):P:=h ⟨k⟩
def Ov(h:dG K->P:=by
  intro ζ;have key:∀{v:Value}{ps:List au},bf w b v ps->bf w' b v ps:=λhop=>ak.kept hop hgr (by have:=iE (by decide) hop h2;simpa[Value.ownBlock]using this)
  have T:Touch (jn (os b (cD g n cap) ys) (op b (.slice da dn dc) l)).F w w':=Touch.bg hgr (λk e=>by cases e;exact .inl (.inl rfl));revert T;revert key;exact ζ.dH):P:=h ⟨k⟩
def Ow(h:P:=by
  go_wp2;exact bG (hi:=IZ) (.tuple #[.agg b6,i6 161]) hbz (.inl ⟨161,HE,rfl,UZ⟩)):P:=h
def Ox(h:P:=by
  rw[List.length_append,List.length_singleton,List.take_succ_eq_append_getElem h,List.map_append,List.map_singleton,List.zip_append (by simp;omega)];rfl):P:=h
def Oy(h:P:=by
  rw[List.length_append,List.length_append,ij,jv,List.length_map,List.length_replicate];omega):P:=h
def Oz(h:P:=by
  obtain⟨k,hk,he⟩:=List.mem_map.1 this;rw[<-he,Int.toNat_natCast];exact hk):P:=h
def OA(h:dG K->P:=by
  intro ζ;have NK:∀k,k<8->node8 C' (a6 F k)=node8 P.C (a6 F k):=λk hk=>by exact Nk
  have A1:∀k,k<8->eK C' p3 (1+k)=if k=i/8 then p2 else a6 F k:=λk hk=>by grind [dr,pk,kP]
  revert A1;revert NK;exact ζ.dH):P:=h ⟨k⟩
def OB(h:P:=by
  intro x' ag y' aw;obtain⟨x,hx,rfl⟩:=(m _).mp ag;obtain⟨y,hy,rfl⟩:=(m _).mp aw;grind):P:=h
def OC(h:dG K->P:=by
  intro ζ;obtain⟨T,s⟩:=az ((Touch.bP (F:=λk=>PF H k\/k=gb) s.pure).trans (t6.mono (F':=λk=>PF H k\/k=gb) (λ_ h=>.inr h)) (λ_ h _=>h)) (Fr.start w6);revert s;revert T;exact ζ.dH):P:=h ⟨k⟩
def Yc(h:P:=by
  have:p.aU<=y.ay:=Classical.byContradiction λh3=>h2 (λz hz ez=>by rw[F.fP.inj hz hy (ez.trans e.symm)];omega);exact SI.el v vm y hy e p (oldIn p h1) this):P:=h
def OD(h:dG K->P:=by
  intro ζ;have TI:jF G.P (recAt G.l k).root:=I.aaG (aI VA.1);have aa:=an (show N.toNat<64/\N=(N.toNat:Int)by obtain⟨h1,h2⟩:=az VA.2.2 (((br _).mp (I.hY.rt _ (aI VA.1))).2.2.2.1);omega)
  revert aa;revert TI;exact ζ.dH):P:=h ⟨k⟩
def Yd(h:P:=by
  rw[hr.out,hG9.out];exact Rr w gb (H.at vp) {G with P:=P3} (A.nV vp s.pa s.t) I.hl I.hr (λx hx=>qR ((br x).mp (I.hY.rt x hx)).2.2.2.2.2.2.2.1) (recAt G.l k).id t _ old (ak.row s.CU pw) (by omega) l2 gone hk (by omega) (by omega) (λx hx=>by have:=dl x hx;omega) wf (by show G.next<_;omega) (by have:=I.s4;show κ G.ms<=_;omega)):P:=h
def OE(h:dG K->P:=by
  intro ζ;change wpAnyH _ _ _ _ _ 13 #[false,false,false,false,false,false,false,false,false,false,false,false,false] _ (w2.drew);have UD:=an (Up.drew (Up.refl w2));revert UD;exact ζ.dH):P:=h ⟨k⟩
def OF(h:dG K->P:=by
  intro ζ;intro wz hbz ag;have TZ:=an (((Touch.bP (F:=λk=>PF H k\/k=p) UU).and T3 (λb hb=>.inl (hb.imp (λh=>.inr (.inr h)) id))).and (Touch.bg (F:=(·=w.heap.size+1)) ag (λk hk=>by grind)) (λb hb=>.inr (by omega)));revert TZ;revert ag;revert hbz;revert wz;exact ζ.dH):P:=h ⟨k⟩
def OG(h:dG K->P:=by
  intro ζ;obtain⟨HU,BE⟩:=aw hu (λW (d:DA W h G.P.C m ff)=>Xn W h G.P.C m ff d (by have:=I.ln;omega) ⟨tx,G.P.ba,iV,40,(κ G.P.C:Int)⟩ (by rw[hu];exact R.here K.ub.2.2.2.2) (by rw[hu];exact R.le));revert BE;revert HU;exact ζ.dH):P:=h ⟨k⟩
def OH(h:dG K->P:=by
  intro ζ;have e1:(fN M.l (recAt M.l k)).name=ec G.l (recAt G.l k).id:=by show ec M.l (recAt M.l k).id=_;rw[S.l,a',xE];rfl
  have e2:(fN M.l (recAt M.l k)).blocks=(recAt G.l k).blocks:=by show(recAt M.l k).blocks=_;rw[S.l,a'];rfl
  revert e2;revert e1;exact ζ.dH):P:=h ⟨k⟩
def bj(h:dG K->P:=by
  intro ζ;refine me s ?_;exact ζ.dH):P:=h ⟨k⟩
def bA(h:dG K->P:=by
  intro ζ;(try simp only[Act.put,fB]);exact ζ.dH):P:=h ⟨k⟩
def gD(h:dG K->P:=by
  intro ζ;refine wp_region_quiet_below (by rfl) (by kernel_rfl) ?_;exact ζ.dH):P:=h ⟨k⟩
def hB(h:dG K->P:=by
  intro ζ;refine wpStill_nil ?_;exact ζ.dH):P:=h ⟨k⟩
def iD(h:dG K->P:=by
  intro ζ;have b2:((k:Int)<(κ l:Int))=True:=by simp;omega
  revert b2;exact ζ.dH):P:=h ⟨k⟩
def lQ(h:dG K->P:=by
  intro ζ;refine⟨_,rfl,Up.refl _,?_⟩;exact ζ.dH):P:=h ⟨k⟩
def nu(h:P:=by
  exact⟨G2,⟨rfl,G2,hR,.inl ⟨h0,rfl⟩⟩,ha⟩):P:=h
def rK(h:dG K->P:=by
  intro ζ;simp only[List.take_succ_cons,List.take_zero,List.drop_succ_cons,List.drop_zero];exact ζ.dH):P:=h ⟨k⟩
def vj(h:dG K->P:=by
  intro ζ;refine wp_region_quiet_below (by kernel_rfl) (by kernel_rfl) ?_;exact ζ.dH):P:=h ⟨k⟩
def vk(h:dG K->P:=by
  intro ζ;have b3:((k:Int)<(κ l:Int))=True:=by simp;omega
  revert b3;exact ζ.dH):P:=h ⟨k⟩
def vl(h:dG K->P:=by
  intro ζ;have b2:((κ l:Int)<(κ l:Int))=False:=by simp
  revert b2;exact ζ.dH):P:=h ⟨k⟩
def vm(h:dG K->P:=by
  intro ζ;refine⟨_,_,rfl,.q od u s.t.size,?_⟩;exact ζ.dH):P:=h ⟨k⟩
def zI(h:dG K->P:=by
  intro ζ;refine⟨by simp,.inl ⟨_,_,rfl,run_takeDeferred hK,?_⟩⟩;exact ζ.dH):P:=h ⟨k⟩
def Gs(h:P:=by
  exact .inl (.inr (.inr (.inr (.inr (.inr h)))))):P:=h
def zJ(h:dG K->P:=by
  intro ζ;refine⟨_,_,rfl,.q (v:=nl) (ak.nil _ _ _ _ _) u s.t.size,?_⟩;exact ζ.dH):P:=h ⟨k⟩
def Gt(h:dG K->P:=by
  intro ζ;have hh:(w.alloc (.cells cs t fr)).heap[w.heap.size]?=some (.cells cs t fr):=by show(w.heap.push _)[w.heap.size]?=_;simp
  revert hh;exact ζ.dH):P:=h ⟨k⟩
def Gu(h:dG K->P:=by
  intro ζ;simp only[Bool.false_eq_true,false_and,and_false,and_self,if_false,if_true,reduceIte];exact ζ.dH):P:=h ⟨k⟩
def Gv(h:P:=by
  refine(HL.trans T2 (λn hn _=>hn)).trans (Touch.bg (F:=λb=>b=w.heap.size) hg4 (λk hk=>by grind)) (λn hn hlt=>by omega)):P:=h
def Gw(h:dG K->P:=by
  intro ζ;have ag:=an (show ∀g,w.heap.size<=g->¬PF H g from λg hg hf=>by have:=HA.lt _ hf;omega);revert ag;exact ζ.dH):P:=h ⟨k⟩
def Gx(h:dG K->P:=by
  intro ζ;have c0:w.cell? ⟨p,0,none⟩=some (.pointer (some ⟨gb,0,none⟩)):=A.fg.cell 0;revert c0;exact ζ.dH):P:=h ⟨k⟩
def OI(h:P:=by
  exact .inr ⟨g,cap,cur,hv,hg,by rw[ht.block g hlt (hf g (by rw[hv];rfl))];exact hh,r⟩):P:=h
def Ye(h:P:=by
  rw[show off+(k+1)=off+k+1 by omega,List.take_succ_eq_append_getElem (by simp;omega),List.getElem_set_self,List.take_set_of_le (Nat.le_refl _)]):P:=h
def OJ(h:dG K->P:=by
  intro ζ;have ab:i ∉ E.map (·.1):=λhm=>by exact XY
  revert ab;exact ζ.dH):P:=h ⟨k⟩
def OK(h:dG K->P:=by
  intro ζ;have MK:∀W:World,(Instr.makeSlice 88 (i6 0) (i6 (T:Int))).run prog W=_:=λW=>mB (P:=prog) 88 87 _ 3 24 underlying88 hy T (by omega) (by omega) W;revert MK;exact ζ.dH):P:=h ⟨k⟩
def OL(h:dG K->P:=by
  intro ζ;refine j' aK cy (.tmp 52) (.tmp 53) 30 rfl (w2.heap.size+2) 5 (.int .u8 0) 1 underlying30 eX rfl v5 _ rfl Od v7 _ rfl Pd hb1 hb2 SB ?_;exact ζ.dH):P:=h ⟨k⟩
def OM(h:dG K->P:=by
  intro ζ;change wpStill _ _ (wr.alloc (.cells (ls x) 116)).drew (λa'=>wpList _ _ _ _ a' (wr.alloc (.cells (ls x) 116)).drew) _ _;exact ζ.dH):P:=h ⟨k⟩
def ON(h:dG K->P:=by
  intro ζ;have S4:=an (show aF w4 w.heap.size 94 #[pz H.pb]/\aF w4 (w.heap.size+1) 41 #[sq ga offa (κ ats) ac]/\aF w4 (w.heap.size+1+1+1+1) 88 #[.slice vd (κ pre) vc]/\w4.cell? (ad ga (offa+κ pre))=some (i6 (i:Int))from⟨J4.x3,J4.x5,J4.x8,CA4⟩);revert S4;exact ζ.dH):P:=h ⟨k⟩
def Yf(h:P:=by
  exact .inr ⟨b,off,cap,h1,h2,h3,h4,λj u hj=>fC (h5 j u hj) T (hF b (by rw[h1];rfl))⟩):P:=h
def OO(h:dG K->P:=by
  intro ζ;have N:∀z∈l,z≠v->∀p,cz l' z p->cz l z p:=λz hz hne p h x hx ex=>by
   by_cases ab:x=v
   ·grind
   ·exact h x ((m x).mpr (.inr ⟨hx,ab⟩)) ex
  revert N;exact ζ.dH):P:=h ⟨k⟩
def OP(h:P:=by
  refine⟨S.nx,S.len,S.rt,mG a3 (by simp_all),?_,?_,?_,?_,?_,?_⟩<;>simp only[ih]<;>grind):P:=h
def OQ(h:dG K->P:=by
  intro ζ;have NF:∀n,n<w.heap.size->¬cM H.h n->¬(PF ⟨pb,mb,H.h⟩ n\/n=gb'):=λn hn hf h=>by exact XW
  revert NF;exact ζ.dH):P:=h ⟨k⟩
def OR(h:dG K->P:=by
  intro ζ;have an:gf G.P.C y.root p:=by exact X8
  revert an;exact ζ.dH):P:=h ⟨k⟩
def OS(h:P:=by
  exact⟨⟨vb,a',vM b T (λk hk=>.inl ⟨_,_,by subst hk;exact a,by decide,by decide⟩),c.ax T (λe=>c.ne a e)⟩,T.mono (λ_ h=>.inl h)⟩):P:=h
def OT(h:dG K->P:=by
  intro ζ;have hk:o.kind=0\/o.kind=1\/o.kind=2\/o.kind=3\/o.kind=4\/o.kind=5\/o.kind=6\/o.kind=7\/o.kind=8\/o.kind=9\/(o.kind<0\/9<o.kind):=by omega
  revert hk;exact ζ.dH):P:=h ⟨k⟩
def OU(h:dG K->P:=by
  intro ζ;refine⟨_,Step.done I3 (S.gone I il rfl rfl rfl (λz hz=>?_)) hd (λh=>h) (by simp) (by simp) (by simp) (by simp) rfl (by show M.st<=_;omega) (by show M.made<=_;omega)⟩;revert hz;revert z;exact ζ.dH):P:=h ⟨k⟩
abbrev af:=Go.World
abbrev ah:=Go.Value
abbrev aj:=UInt8
def aE:=@Nat.le_refl
def aY:=@if_neg
abbrev bp:=Go.Program
def bt:=@List.mem_cons_of_mem
def bI:=@if_pos
def bT:=@Nat.zero_le
abbrev bU:=Go.Operand
def bK:=@Nat.le_trans
def cn:=@congrArg
def cw:=@List.getElem_mem
def cI:=@eq_false
def df:=@List.mem_cons_self
def dk:=@Go.cell_regrown
def dq:=@List.take_of_length_le
def dE:=@Option.some.inj
def et:=@List.take_succ_eq_append_getElem
def ee:=@eq_true
def ej:=@Nat.lt_of_lt_of_le
def ez:=@List.length_take
abbrev eQ:=Go.TypeDesc
def e6:=@Go.RowKit.Below.refl
def e7:=@Go.wp_region_held
def fF:=@List.take_length
def fG:=@Go.callsIn_wide
def fQ:=@List.take_append_drop
def gk:=@List.flatMap_append
def gl:=@List.pairwise_cons
def hA:=@List.length_drop
def h':=@Go.wpList_plain
def h3:=@Array.toList_inj
def h8:=@decide_eq_true
def hU:=@Nat.le_succ
def ie:=@Go.World.block_lt_of_cell?
def h6:=@List.getElem?_eq_getElem
def h5:=@List.take_left'
def ji:=@Int.eq_ofNat_of_zero_le
def jj:=@decide_eq_false
def jk:=@of_decide_eq_true
def jN:=@Go.info_parts
def jO:=@Nat.lt_or_ge
def kD:=@List.filter_append
def jP:=@List.getElem_of_mem
def kE:=@List.getElem?_eq_some_iff
def kF:=@Go.bodyPost_ret
def kG:=@List.mem_singleton
def kH:=@Go.Calls.regrown_of
def kI:=@Go.Oper.semAt_some
def lz:=@Go.cell_kept
def lA:=@Go.zero_of_info
def lB:=@List.drop_left'
def nN:=@Go.World.cell?_of_block
def nO:=@List.mem_append_left
def nP:=@Go.OwnFrom.and
def nQ:=@List.map_set
def oV:=@Go.RowKit.Below.block
def oW:=@Array.getElem?_toList
def oX:=@List.mem_append_right
def oY:=@Nat.le_of_lt
def oZ:=@Go.callsIn_of_wp_marks
def o0:=@Go.ownFrom_below
def o1:=@Go.belowK_b
def qt:=@List.length_eq_zero_iff
def qu:=@List.map_map
def qv:=@Array.getElem?_eq_some_iff
def qw:=@Go.BigFrame.wpList_want
def qx:=@List.length_filter_le
def qy:=@List.map_drop
def qz:=@Go.KeepsOthers.setCell
def qA:=@Option.bind_some
def s8:=@Go.World.ownsRow.kept
def s9:=@List.mem_of_mem_take
def td:=@List.drop_eq_getElem_cons
def s':=@List.getD_eq_getElem?_getD
def tc:=@List.getElem?_eq_none
def te:=@Go.results_tmp
def tf:=@Go.wp_store_row
def tg:=@List.mem_of_mem_drop
def wB:=@Go.size_madeCells
def wC:=@Nat.succ_mul
def wD:=@Go.run_storeCells_at
def wE:=@Array.all_eq_true_iff_forall_mem
def wF:=@List.drop_of_length_le
def wG:=@List.mem_filter
def wH:=@List.getElem_append_left
def wI:=@List.map_take
def wJ:=@Go.wp_region_still_tail
def wK:=@List.length_replicate
def wL:=@Go.wpIn_rangeFunc_ownF
def wM:=@List.ext_getElem?
def wN:=@List.set_set
def wO:=@List.sum_append
def Be:=@Go.World.ownsRow_made
def Bf:=@Bool.eq_iff_iff
def Bg:=@List.ext_getElem
def Bh:=@Go.all_oneCell_toArray
def Bi:=@Go.wpAny_take
def Bj:=@List.pairwise_append
def uI:=@Nat.mul_comm
def uJ:=@Bool.not_eq_true
def uK:=@Go.wpAny_all
def uL:=@Nat.lt_irrefl
def uM:=@Go.callsIn_of_wp
def uN:=@List.nodup_append
def uO:=@List.mem_or_eq_of_mem_set
def uP:=@Nat.ne_of_lt
def uQ:=@List.getElem?_set_self
def uR:=@Go.wpAnyIn_take
def uS:=@List.eraseIdx_eq_take_drop_succ
def yK:=@Go.World.ownsRow_nil
def yL:=@Go.run_append_owned_none
def yM:=@List.getElem?_append_left
def yN:=@List.getElem?_append_right
def yO:=@Go.wpAnyH_done
def yP:=@List.foldl_cons
def yQ:=@List.pairwise_singleton
def yR:=@Go.Region.noSelect_spec
def yS:=@Decidable.by_contra
def yT:=@Nat.pow_succ
def yU:=@Nat.add_assoc
def yV:=@List.length_take_le
def yW:=@Nat.pow_mul
def yX:=@Go.run_equalIn_struct
def yY:=@Go.wpQuiet_nil
def XT:=@Go.below_regrown
def yZ:=@Go.World.ownsRow_lit
def y1:=@List.findIdx?_eq_some_iff_getElem
def y0:=@Go.World.grownBy_alloc
def y2:=@Go.World.cell?_setCell_same'
def y3:=@Go.grownBy_putObj'
def y4:=@List.set_append_right
def y5:=@List.mem_range
def y6:=@List.map_singleton
def y7:=@Go.wpIn_region_any
def y8:=@List.drop_replicate
def y9:=@Go.KeepsOthers.drew
def y':=@Go.Lib.run_eql_slice_nil
def za:=@Nat.le_of_eq
def E3:=@Option.bind_eq_some_iff
def E4:=@List.map_congr_left
def E5:=@Array.getElem?_modify
def E6:=@Go.run_loadVar_mid
def E7:=@Go.wpList_store_row
def E8:=@Go.results_cell_tmp
def E9:=@Go.Oper.apart_spec
def E':=@decide_eq_decide
def Fa:=@Nat.le_of_ble_eq_true
def Fb:=@Nat.not_lt_zero
def Fc:=@Nat.pow_le_pow_right
def Fe:=@Go.IntKind.wrap_u8'
def Ff:=@List.getElem_append_right
def Fg:=@List.getElem?_toArray
def Fh:=@Array.all_eq_true'
def Fi:=@Go.Oper.upon_value
def Fj:=@Nat.xor_lt_two_pow
def Fk:=@List.drop_append
def Fl:=@List.foldl_append
def Fm:=@Array.length_toList
def Fo:=@Go.run_takeDeferred
def Fp:=@Go.wpIn_rangeFunc_ownG
def Fq:=@Nat.add_sub_cancel_left
def Fs:=@List.eq_nil_or_concat
def Ft:=@List.concat_eq_append
def Fu:=@List.drop_length
def Fv:=@List.getElem?_set_ne
def Fw:=@Go.World.ownsMap_made
def Fx:=@List.mem_of_mem_eraseIdx
def Fy:=@List.length_eraseIdx
def Fz:=@Nat.le_add_right
def FA:=@of_decide_eq_false
def FB:=@List.length_pos_iff
def MT:=@List.eq_nil_of_length_eq_zero
def MU:=@Array.getD_eq_getD_getElem?
def MV:=@List.set_eq_take_append_cons_drop
def MW:=@Array.extract_eq_self_of_le
def ae(h:P:=by omega):P:=h
def ab(h:P:=by simp;omega):P:=h
def al(h:P:=by kernel_rfl):P:=h
def aq(h:P:=by simp):P:=h
def av(h:P:=by decide):P:=h
def aa(h:P:=by simp_all):P:=h
def di(h:P:=by simp only[Hid]at *;omega):P:=h
def aA(h:P:=by rfl):P:=h
def dK(h:P:=by unfold maxLen;omega):P:=h
def aQ(h:P:=by grind):P:=h
def cj(h:P:=by assumption):P:=h
def ab5(h:P:=by intro _ h;first|with_reducible exact mM h (by assumption) (by assumption)|with_reducible exact Cy h (by assumption) (by assumption)|with_reducible exact Cz h (by assumption) (by assumption)|with_reducible exact Ca h|with_reducible exact Cs h):P:=h
def mg(h:P:=by rw[List.length_map];omega):P:=h
def kJ(h:P:=by with_reducible rfl):P:=h
def jQ(h:P:=by have:=I.s4;omega):P:=h
def FT(h:P:=by obtain⟨ps,e,h⟩:=hs;exact⟨ps,e,hJ ps A B row h hg hr⟩):P:=h
def T6(h:P:=by have:=uc (l:=nZ l (E.map (·.1))) (i:=i) (Cu hir);show mR ((nZ l (E.map (·.1))).setIfInBounds i true)=n;omega):P:=h
def jR(h:P:=by simpa using h):P:=h
def gN(h:P:=by grind [lb]):P:=h
def jS(h:P:=by rw[h.cell];rfl):P:=h
def th(h:P:=by rw[<-e.out];exact s.cm.cm):P:=h
def lC(h:P:=by rw[HE.out];rfl):P:=h
def T'(h:P:=by rcases ao.1 b hb with h|h;have:=LT.1 b (.inr (.inr (.inr h)));omega;have:=S2.out;omega):P:=h
def hE(h:P:=by cases h):P:=h
def ab6(h:P:=by rw[<-HQ.out]at hne;simp[hne,show ¬1024+j=i by omega,rM]):P:=h
def o5(h:P:=by have:=B.nx;omega):P:=h
def o6(h:P:=by have:=B.st;omega):P:=h
def ti(h:P:=by simp[Value.ownBlock]):P:=h
def wP(h:P:=by rw[SPL.out];exact spn.1):P:=h
def KM(h:P:=by rintro(h|h);have:=LT.1 _ h;omega;have:=LT.2;omega):P:=h
def qB(h:P:=by simp at hD;omega):P:=h
def Bk(h:P:=by intro n hn;simp at hn;omega):P:=h
def Ua(h:P:=by simpa[Lit.wf,IntKind.min,IntKind.max,IntKind.signed,IntKind.bits]using hw):P:=h
def tj(h:P:=by cases hk;exact aE _):P:=h
def Ub(h:P:=by obtain⟨pr,x,e1,e2,e3,e4⟩:=hs.2;exact⟨pr,x,e1,e2,e3,lz e4 hg hr⟩):P:=h
def ab7(h:P:=by rw[run_slice_l W T a len cap ht .i64 lo (by omega) (by omega),hs];rfl):P:=h
def ab8(h:P:=by rw[run_slice_h W T a len cap ht .i64 hi (by omega) (by omega),hs];rfl):P:=h
def gO(h:P:=by go_num):P:=h
def wQ(h:P:=by have:=A.lt _ hf;omega):P:=h
def lD(h:P:=by grind [VK]):P:=h
def Bl(h:P:=by rw[SPL.out];exact spn.2):P:=h
def nR(h:P:=by cases hk;rfl):P:=h
def ab9(h:P:=by have:=iE (by decide) hop h2;simpa[Value.ownBlock]using this):P:=h
def Uc(h:P:=by have h3:=(OM.aJ k hk).1;have:=HA.lt k hpf;have:=UUS.out;omega):P:=h
def aca(h:P:=by simp[show ¬k=1024+q by omega,hne,rN hk]):P:=h
def Ud(h:P:=by have:=PS j hj y hy e.symm;rw[h]at this;have:=this.2 h0;omega):P:=h
def Ue(h:P:=by unfold eH;split<;>exact⟨rfl,rfl,rfl,rfl,rfl,rfl,rfl,rfl⟩):P:=h
def acb(h:P:=by refine dZ ?_;intro hh;exact absurd hh.2.2.2.1.1 (by omega)):P:=h
def acd(h:P:=by refine dZ ?_;intro hh;exact absurd hh.2.2.2.1.2 (by omega)):P:=h
def KN(h:P:=by rw[et hlt,List.map_append,b9 hlt];rfl):P:=h
def Uf(h:P:=by unfold nA;rw[List.range_succ,kD,List.map_append];simp[h]):P:=h
def KO(h:P:=by show -1<=(-1:Int)/\(-1:Int)<=_;omega):P:=h
def Ug(h:P:=by have:=(ja.1 (r.ok e he).1).2;rw[e2,c2]at this;cases this):P:=h
def Uh(h:P:=by obtain⟨e,he,h2⟩:=List.mem_map.1 hm;exact hE e he h2):P:=h
def ace(h:P:=by refine dZ ?_;intro hh;exact absurd hh.2.1.1 (by omega)):P:=h
def acf(h:P:=by refine dZ ?_;intro hh;exact absurd hh.2.1.2 (by omega)):P:=h
def FU(h:P:=by cases hk;have:=S2.out;omega):P:=h
def acg(h:P:=by refine dZ ?_;intro hh;exact absurd hh.1.1 (by omega)):P:=h
def ach(h:P:=by refine dZ ?_;intro hh;exact absurd hh.1.2 (by omega)):P:=h
def Ui(h:P:=by obtain⟨vp,d,t,o⟩:=D;exact⟨vp,d.up u,t.iZ u,o⟩):P:=h
def Uj(h:P:=by have hk:k=_:=hk;subst hk;rcases hp with h|h|h<;>omega):P:=h
def Uk(h:P:=by show(match aL l m with|none=>_|some j=>_)=_;simp_all):P:=h
def Bm(h:P:=by cases hj;exact aE _):P:=h
def Bn(h:P:=by have:=u.size;omega):P:=h
def qC(h:P:=by rw[om];rfl):P:=h
def Ul(h:P:=by rw[F.floor vm];exact F.VL vm (I.si.brt v vm p hp).1):P:=h
def Um(h:P:=by have:=(I.ml q hq).1;rw[e]at this;revert this;decide):P:=h
def nS(h:P:=by rw[h];rfl):P:=h
def Un(h:P:=by rw[List.length_map,HAL.out,HND.out];exact aE _):P:=h
def Uo(h:P:=by obtain⟨_,_,h⟩:=hv.slice;simp at h;exact h.2.1):P:=h
def FV(h:P:=by rw[hw4];exact XT _ _ _):P:=h
def FW(h:P:=by cases hk;exact .inl rfl):P:=h
def FX(h:P:=by rw[<-e,List.length_map]):P:=h
def KP(h:P:=by rw[List.length_set];exact F.len):P:=h
def qD(h:P:=by grind [hG]):P:=h
def FY(h:P:=by show M.made<=_;omega):P:=h
def Uq(h:P:=by have hk:k=_:=hk;subst hk;exact⟨_,_,_,qb⟩):P:=h
def qE(h:P:=by grind [e4]):P:=h
def KQ(h:P:=by first|assumption|exact lO):P:=h
def KR(h:P:=by rw[List.length_set];exact lF):P:=h
def aci(h:P:=by unfold cL;rw[bI (by omega)]):P:=h
def Ur(h:P:=by rw[LQ.out,List.length_append,LP.out];omega):P:=h
def Us(h:P:=by rw[<-List.length_map (f:=gH.d),e];exact hi):P:=h
def Bo(h:P:=by simpa using hi):P:=h
def Bp(h:P:=by rw[HF.out]<;>rfl):P:=h
def F1(h:P:=by intro _;kernel_rfl):P:=h
def FZ(h:P:=by have:=Hl2.out;omega):P:=h
def Ut(h:P:=by unfold ff at h2;rw[bI e.symm]at h2;omega):P:=h
def F0(h:P:=by show M.st<=_;omega):P:=h
def F2(h:P:=by have:=LN.out;omega):P:=h
def Uu(h:P:=by unfold gP;rw[List.length_append,fx,jA]):P:=h
def acj(h:P:=by have:=j0 (by simp;omega) eS j;grind [kP]):P:=h
def Uv(h:P:=by show 64<=κ C/\(κ C)<=1024;omega):P:=h
def Bq(h:P:=by show 0<=_;omega):P:=h
def Br(h:P:=by unfold bo;omega):P:=h
def F3(h:P:=by show G.next<_;omega):P:=h
def F4(h:P:=by rw[E.out];exact H.1):P:=h
def Bt(h:P:=by rw[hd,hX];rfl):P:=h
def tl(h:P:=by grind [fA]):P:=h
def tp(h:P:=by rw[e];rfl):P:=h
def o2(h:P:=by simp[D7]):P:=h
def o3(h:P:=by grind [cU]):P:=h
def o4(h:P:=by grind [cE]):P:=h
def zb(h:P:=by intro W;kernel_rfl):P:=h
def MX(h:P:=by have:=K.ex;rw[<-hu]at this;exact this):P:=h
def FC(h:P:=by have:=(iY RW5 h).2;omega):P:=h
def FD(h:P:=by rw[b9 hi];exact cw hi):P:=h
def MY(h:P:=by apply h3.1;unfold splice;simp;omega):P:=h
def MZ(h:P:=by obtain⟨h1,h2,_⟩:=Kr h;grind [b9]):P:=h
def FE(h:P:=by rw[sn.property];omega):P:=h
def FF(h:P:=by unfold sS;grind [KH,ff]):P:=h
def zd(h:P:=by rw[lT];exact hlt):P:=h
def ze(h:P:=by rw[hv];exact hX):P:=h
def FG(h:P:=by simp[Value.oneCell']):P:=h
def FH(h:P:=by rw[HL.out];exact hlt):P:=h
def FI(h:P:=by rw[HB.out];simp;omega):P:=h
def rD(h:P:=by grind [dP]):P:=h
def FJ(h:P:=by rw[List.length_map]):P:=h
def rE(h:P:=by grind [dO]):P:=h
def rF(h:P:=by grind [Yj]):P:=h
def FK(h:P:=by have:=F.JM y hy;omega):P:=h
def FL(h:P:=by rw[hw2];simp only[aN]):P:=h
def FM(h:P:=by have:=LT.1 b hb;omega):P:=h
def uT(h:P:=by grind [fy]):P:=h
def uU(h:P:=by grind [vA]):P:=h
def zf(h:P:=by rw[HZ.out];rfl):P:=h
def zg(h:P:=by grind [Rest,qY]):P:=h
def zh(h:P:=by show 1<=_;omega):P:=h
def FN(h:P:=by unfold wpOp;simp_all):P:=h
def FO(h:P:=by unfold dO at h;grind):P:=h
def zi(h:P:=by rw[HP.out];rfl):P:=h
def uV(h:P:=by grind [r']):P:=h
def FP(h:P:=by have:=HI.s4;omega):P:=h
def FQ(h:P:=by have:=K.nx;omega):P:=h
def uW(h:P:=by grind [cb]):P:=h
def FR(h:P:=by have:=I.nx;omega):P:=h
def zj(h:P:=by simp[cG,<-hg]):P:=h
def zm(h:P:=by rw[E.out];rfl):P:=h
def uX(h:P:=by grind [oR]):P:=h
def uY(h:P:=by grind [dy]):P:=h
def uZ(h:P:=by grind [cB]):P:=h
def u'(h:P:=by grind [e9]):P:=h
def va(h:P:=by grind [Q5]):P:=h
def rG(h:P:=by cases hp):P:=h
def zo(h:P:=by rw[hy];rfl):P:=h
def zn(h:P:=by rw[h1];rfl):P:=h
def vb(h:P:=by rw[sza]):P:=h
def vc(h:P:=by exact Ya):P:=h
end
def Up(w w':af):Prop:=Below w.heap.size w w'
theorem Up.refl(w:af):Up w w:=e6 _ _
def Up.trans{a b c:af}(h:Up a b)(k:Up b c):Up a c:=Below.trans h (Below.mono k (Below.size h))
def Up.size{a b:af}(h:Up a b):a.heap.size<=b.heap.size:=Below.size h
theorem Up.cell{w w':af}(h:Up w w'){v:ah}(hc:w.cell? a=some v):w'.cell? a=some v:=(Below.cell h (ie w a hc)).trans hc
def Up.frozen{w w':af}(h:Up w w')(ha:a.block<w.heap.size):w'.frozen? a=w.frozen? a:=Below.frozen h ha
theorem Up.alloc{w w':af}(h:Up w w')(o:Obj):Up w (w'.alloc o):=Below.alloc h h.size o
def Up.drew{w w':af}(h:Up w w'):Up w w'.drew:=Below.drew h
def Up.drewN{w w':af}(h:Up w w')(n:Nat):Up w (w'.drewN n):=⟨h.os,h.tape,h.output,h.size,h.block⟩
def ai(w:af)(o:Obj):Up w (w.alloc o):=(Up.refl w).alloc o
def Up.setCell{w w':af}(h:Up w w')(ha:w.heap.size<=a.block)(u:ah):Up w (w'.setCell a u):=Below.setCell h ha u
def Up.grown{w w' aa:af}{row:Option Nat}(h:Up w w')(hg:w'.grownBy aa row)(hr:∀k,row=some k->w.heap.size<=k):Up w aa:=Below.grown h hg h.size hr
def Up.below{w w':af}(h:Up w w'):Below w.heap.size w w':=h
def aD(f:α->ah)(w:af)(v:ah)(l:List α):Prop:=(l=[]/\∃a cap,v=.slice a 0 cap/\cap<=maxLen/\(a=none->cap=0))\/∃b off cap,v=.slice (some ⟨b,off,none⟩) (κ l) cap/\0<κ l/\(κ l)<=cap/\cap<=maxLen/\∀i(h:i<κ l),w.cell? ⟨b,off+i,none⟩=some (f l[i])
theorem aD.up{f:α->ah}{w w':af}{v:ah}{l:List α}(h:aD f w v l)(hu:Up w w'):aD f w' v l:=by
 rcases h with h|⟨b,off,cap,h1,h2,h3,h4,h5⟩
 ·exact .inl h
 ·exact .inr ⟨b,off,cap,h1,h2,h3,h4,λi hi=>hu.cell (h5 i hi)⟩
theorem aD.length_le{f:α->ah}{w:af}{v:ah}{l:List α}(h:aD f w v l):κ l<=9223372036854775807:=by exact NM
theorem aD.slice{f:α->ah}{w:af}{v:ah}{l:List α}(h:aD f w v l):∃a cap,v=.slice a (κ l) cap:=by
 rcases h with⟨rfl,a,cap,rfl,_⟩|⟨b,off,cap,rfl,_⟩
 ·simp
 ·simp
theorem aD.nil(f:α->ah)(w:af):aD f w (.slice none 0 0) []:=.inl ⟨rfl,none,0,rfl,bT _,λ_=>rfl⟩
theorem cg{f:α->ah}{w:af}{a:Option Adr}{l:List α}(h:aD f w (.slice a n cap) l)(hn:n=κ l)(h0:0<κ l):∃b off,a=some ⟨b,off,none⟩/\b<w.heap.size/\∀i(h:i<κ l),w.cell? ⟨b,off+i,none⟩=some (f l[i]):=by
 rcases h with⟨rfl,_⟩|⟨b,off,al,hv,_,_,_,hc⟩
 ·simp at h0
 ·simp at hv;exact⟨b,off,hv.1,ie w _ (hc 0 h0),hc⟩
def bC(n:Int):ah:=.int .i64 n
def cr(n:Nat):ah:=.int .u64 (n:Int)
def qm(n:Int):(bC n).oneCell'=true:=rfl
def q2(n:Nat):(cr n).oneCell'=true:=rfl
def aK(c:aj):ah:=.int .u8 (c.toNat:Int)
abbrev a8(w:af)(v:ah)(l:List aj):Prop:=aD aK w v l
theorem aD.owned{f:α->ah}{w:af}{v:ah}{l:List α}(h:w.ownsRow base e 1 v (κ l) (l.map f)):aD f w v l:=by
 obtain⟨_,h2⟩:=h;rcases h2 with⟨rfl,h0⟩|⟨g,cap,cur,rfl,_,hg,hn,hm,hs,ht⟩
 ·grind [aD.nil]
 ·by_cases h0:κ l=0
  ·exact NN
  ·refine .inr ⟨g,0,cap,rfl,ae,hn,hm,λi hi=>?_⟩;have hc:w.cell? ⟨g,0+i,none⟩=cur[0+i]?:=by simp[Aco,hg]
   rw[hc,Aby];have h1:(cur.toList.take (κ l*1))[i]?=(l.map f)[i]?:=by rw[ht]
   grind
theorem aD.lit{f:α->ah}(w:af)(cs:Array ah)(t:Aab)(fr:Nat × Nat)(l:List α)(n:Nat)(hn:n=κ l)(hm:n<=maxLen)(aC:cs.toList=l.map f):aD f (w.alloc (.cells cs t fr)) (.slice (some ⟨w.heap.size,0,none⟩) n n) l:=by
 subst hn;by_cases h0:κ l=0
 ·exact NO
 ·refine .inr ⟨w.heap.size,0,κ l,rfl,ae,aE _,hm,λi hi=>?_⟩;refine Gt ?_;intro hh;have hc:(w.alloc (.cells cs t fr)).cell? ⟨w.heap.size,0+i,none⟩=cs[0+i]?:=by unfold Aco;rw[hh];rfl
  rw[hc,Aby];have h1:cs.toList[i]?=(l.map f)[i]?:=by rw[aC]
  grind
theorem aD.ew{f:α->ah}(w:af)(b:Nat)(hb:b=w.heap.size)(cs:Array ah)(t:Aab)(fr:Nat × Nat)(l:List α)(n:Nat)(hn:n=κ l)(hm:n<=maxLen)(aC:cs.toList=l.map f):aD f (w.alloc (.cells cs t fr)) (.slice (some ⟨b,0,none⟩) n n) l:=by grind [aD.lit]
theorem lx{l:List α}{x:α}(h:l[j]?=some x):∃hj:j<κ l,l[j]=x:=aQ
def Tq{H:Type}:DataW H->Nat
 | .slice e s=>κ e+κ s
 | .lit (.string b)=>κ b
 | _=>0
theorem DU(f:α->ah)(Q:α->Prop){enc:Aab × ah->H}{P:bp}{W:af}{v:ah}{d:DataW H}{ps:List MemPlace}(ht:P.underlying t=some (.slice e))(aN:P.cellsOf e=1)(ai:∀n c y,DataW.trod enc P W 0 (λ_=>true) true n e [c]=some y->∃x,c=f x/\Q x)(hf:DataW.trod enc P W 0 (λ_=>true) true fuel t [v]=some (d,ps)):∃l:List α,aD f W v l/\(κ l)<=Tq d/\(d=.nil\/∃x y,d=.slice x y)/\∀x∈l,Q x:=by
 rcases DataW.trod_slice ht hf with⟨h1,h2⟩|⟨a,len,cap,elems,rest,n,_,aC,hx,_,hl,hm,ak,ad,aY,_⟩
 ·simp at h1;subst h1;simp only[Prod.mk.injEq]at h2;exact⟨[],aD.nil f W,aq,.inl h2.1,aq⟩
 ·simp at aC;subst aC;simp only[Prod.mk.injEq]at hx;obtain⟨rfl,_⟩:=hx;have each:∀i,i<len->∃x,W.cell? (a.add i)=some (f x)/\Q x:=by intro i hi;have h:=ad i hi;rw[aN,Nat.mul_one,h6 ae,E3]at h;obtain⟨cs,aC,hy⟩:=h;obtain⟨c,rfl⟩:=List.length_eq_one_iff.1 ((World.cells?_some aC).2.1);obtain⟨x,rfl,hq⟩:=ai n c _ hy;exact⟨x,ChangeShapes.cell_of_cells?_one aC,hq⟩
  have all:∀k,k<=len->∃l:List α,κ l=k/\(∀i(h:i<κ l),W.cell? (a.add i)=some (f l[i]))/\∀x∈l,Q x:=by
   intro k;induction k with
   | zero=>simp
   | succ k ih=>
    intro hk;obtain⟨l,h1,h2,h3⟩:=ih ae;obtain⟨x,hx,hq⟩:=each k ae;refine⟨l++[x],ab,λi hi=>?_,λy hy=>?_⟩
    ·grind
    ·grind
  obtain⟨l,h1,h2,h3⟩:=all len (aE _);refine⟨l,?_,by grind [Tq],.inr ⟨_,_,rfl⟩,h3⟩;by_cases h0:len=0
  ·exact Nl
  ·have aM:=h2 0 ae;obtain⟨b,off,spot⟩:=a;have aa:spot=none:=by simpa[Addr.add]using World.cell?_spot aM
   subst aa;refine .inr ⟨b,off,cap,ab,ae,ae,hm,λi hi=>?_⟩;have:=h2 i hi;unfold Addr.add at this;split at this
   ·simp_all
   ·exact this
theorem ZW{enc:Aab × ah->H}{P:bp}{W:af}(he:P.underlying e=some (.int .u8)):∀n c y,DataW.trod enc P W 0 (λ_=>true) true n e [c]=some y->∃x,c=aK x/\True:=by
 intro n c y hy;obtain⟨m,hm,_,hw⟩:=DataW.trod_int he hy;simp at hm;subst hm;have hb:0<=m/\m<=255:=Ua
 refine⟨Ab6 m.toNat,?_,trivial⟩;unfold aK;simp;omega
theorem VZ{enc:Aab × ah->H}{P:bp}{W:af}{v:ah}{d:DataW H}{ps:List MemPlace}(ht:P.underlying t=some (.int .i64))(ab:Value.okWide P W .any base t v)(hd:DataW.Trod enc P W 0 (λ_=>true) true t v d ps):∃n:Int,v=.int .i64 n/\-9223372036854775808<=n/\n<=9223372036854775807:=by
 obtain⟨m,rfl,_,_,hw⟩:=ChangeShapes.open_int ht ab hd;have hb:-9223372036854775808<=m/\m<=9223372036854775807:=Ua
 simp;omega
theorem zR(a:Nat)(ha:a<4294967296):bits .xor .u32 (4294967295) (a:Int)=((4294967295-a:Nat):Int):=by
 show IntKind.u32.wrap ((BitVec.ofInt 32 4294967295^^^BitVec.ofInt 32 (a:Int)).toNat:Int)=_;have h1:BitVec.ofInt 32 4294967295=BitVec.allOnes 32:=av
 rw[h1,BitVec.allOnes_xor,BitVec.toNat_not,ofInt_u32 a ae];exact zC
theorem add_plain(b off j:Nat):(⟨b,off,none⟩:Adr).add j=⟨b,off+j,none⟩:=by unfold Addr.add;split<;>simp_all
def Own(f:α->ah)(e:Aab)(w:af)(base:Nat)(v:ah)(xs:List α):Prop:=w.ownsRow base e 1 v (κ xs) (xs.map f)
def Own.cu{f:α->ah}{w:af}{v:ah}{xs:List α}(h:Own f e w base v xs):aD f w v xs:=aD.owned h
theorem Own.nil(f:α->ah)(e:Aab)(w:af)(base:Nat):Own f e w base (.slice none 0 0) []:=yK _ _ _ _
theorem Own.mono{f:α->ah}{w:af}{v:ah}{xs:List α}(h:Own f e w base v xs)(hb:base'<=base):Own f e w base' v xs:=by exact M3
theorem Own.up{f:α->ah}{w w':af}{v:ah}{xs:List α}(h:Own f e w base v xs)(hu:Up w w'):Own f e w' base v xs:=by exact M4
def Own.made(f:α->ah)(e:Aab)(w:af)(base:Nat)(hb:base<=w.heap.size):Own f e (w.alloc (.cells #[] e)) base (.slice (some ⟨w.heap.size,0,none⟩) 0 0) []:=Be w #[] 0 hb (bT _) rfl
def Own.aJ{f:α->ah}{w:af}{v:ah}{xs:List α}(h:Own f e w base v xs):∀k,v.ownBlock=some k->base<=k/\k<w.heap.size:=Ady h
theorem fo{w w':af}{row:Option Nat}(hg:w.grownBy w' row)(hb:base<=w.heap.size)(hr:∀k,row=some k->base<=k):Below base w w':=(e6 base w).grown hg hb hr
theorem Own.row{f:α->ah}{w:af}{v:ah}{xs:List α}(h:Own f e w base v xs)(h0:0<κ xs):∃g cap,v=.slice (some ⟨g,0,none⟩) (κ xs) cap/\base<=g/\g<w.heap.size/\(∀i(h:i<κ xs),w.cell? ⟨g,i,none⟩=some (f xs[i]))/\(∀i,w.frozen? ⟨g,i,none⟩=false)/\
  ∀i x,Own f e (w.setCell ⟨g,i,none⟩ (f x)) base v (xs.set i x):=by
 have hb:=h.aJ;rcases h.2 with⟨_,h'⟩|⟨g,cap,cur,rfl,_⟩
 ·omega
 ·refine⟨g,cap,rfl,(hb g rfl).1,(hb g rfl).2,λi hi=>?_,λi=>World.ownsRow.frozenAt h i,λi x=>?_⟩
  ·rw[World.ownsRow.cellAt h i ae,List.getElem?_map,h6 hi];rfl
  ·have:=(World.ownsRow.stored h i (f x)).1;unfold Own;simp;omega
theorem Up.aG{w0 w w':af}(h:Up w0 w)(hb:Below base w w')(ag:w0.heap.size<=base):Up w0 w':=Below.trans h (hb.mono ag)
section
variable {α:Type} {P:bp}
theorem j'(f:α->ah)(hf:∀x,(f x).oneCell'=true){w:af}{o:Oper}{a:Act}{K:Act->af->Prop}{Q:Exit->Act->af->Prop}(s x:bU)(t:TypeId)(ho:o.op=.call {callee:=.builtin .append,args:=#[s,x],argTypes:=#[t,t]})(base:Nat)(e:TypeId)(z:ah)(bytes:Nat)(ht:P.underlying t=some (.slice e))(hinfo:(P.info? e).map (λi=>(i.zero,i.size,i.bytes))=some (some z,1,bytes))(aw:z.cells.size=1)(v:ah)(xs:List α)(hs:a.eval s=v)(hown:Own f e w base v xs)(vx:ah)(ys:List α)(hx:a.eval x=vx)(al:aD f w vx ys)(ai:(κ xs+κ ys)*bytes<=140737488355328)(an:κ xs+κ ys<=9223372036854775807)(ag:base<=w.heap.size)(h:∀v' w',Own f e w' base v' (xs++ys)->w.grownBy w' v.ownBlock->Below base w w'->K (a.put o.dst v') w'):o.wp P a w K Q:=by
 obtain⟨i,hi,hz0,hz1,ar⟩:=jN hinfo;have au:κ xs+κ ys<=maxLen:=cj
 have key:∀(ad:Adr)(c:Nat),vx=.slice (some ad) (κ ys) c->(∀j u,(ys.map f)[j]?=some u->w.cell? (ad.add j)=some u)->o.wp P a w K Q:=by
  intro ad c ax aj;refine wp_append_own w s x t ho base e i z 1 bytes ht hi hz0 hz1 ar aw av v (κ xs) (xs.map f) hs hown ad (κ ys) c (ys.map f) aa aq aj (λu hu=>?_) au ai ag ?_
  ·grind
  ·intro v' w' h1 h2 _;refine h v' w' ?_ h2 (fo h2 ag λk hk=>(hown.aJ k hk).1);grind [Own]
 rcases al with⟨rfl,ad,cap,rfl,hc,hn⟩|⟨b,off,cap,rfl,h0,hl,hm,hc⟩
 ·cases ad with
  | none=>obtain rfl:=hn rfl;have hrun:=yL (P:=P) (w:=w) base t o.type e i 1 ht hi v (κ xs) (xs.map f) hown;exact NP
  | some ad=>simp_all
 ·grind [lx,add_plain]
def bu(f:α->ah)(hf:∀x,(f x).oneCell'=true){w:af}{ops:Array Oper}{rest:List Oper}{o:Oper}{a:Act}{Q:Exit->Act->af->Prop}(hgd:o.guard=none)(s x:bU)(t:TypeId)(ho:o.op=.call {callee:=.builtin .append,args:=#[s,x],argTypes:=#[t,t]})(base:Nat)(e:TypeId)(z:ah)(bytes:Nat)(ht:P.underlying t=some (.slice e))(hinfo:(P.info? e).map (λi=>(i.zero,i.size,i.bytes))=some (some z,1,bytes))(aw:z.cells.size=1)(v:ah)(xs:List α)(hs:a.eval s=v)(hown:Own f e w base v xs)(vx:ah)(ys:List α)(hx:a.eval x=vx)(al:aD f w vx ys)(ai:(κ xs+κ ys)*bytes<=140737488355328)(an:κ xs+κ ys<=9223372036854775807)(ag:base<=w.heap.size)(h:∀v' w',Own f e w' base v' (xs++ys)->w.grownBy w' v.ownBlock->Below base w w'->wpList P ops Q rest (a.put o.dst v') w'):wpList P ops Q (o::rest) a w:=h' hgd λ_ hK=>j' f hf s x t ho base e z bytes ht hinfo aw v xs hs hown vx ys hx al ai an ag λv' w' h1 h2 h3=>hK _ _ (h v' w' h1 h2 h3)
end
def bY(a:Option Adr)(lo hi cap:Nat):ah:=.slice (if cap=lo then a else a.map (·.add (lo*1))) (hi-lo) (cap-lo)
theorem aD.piece{f:α->ah}{w:af}{a:Option Adr}{l:List α}(h:aD f w (.slice a n cap) l){lo hi:Nat}(h1:lo<=hi)(h2:hi<=κ l):aD f w (bY a lo hi cap) ((l.take hi).drop lo):=by
 have hlen:κ ((l.take hi).drop lo)=hi-lo:=ab
 rcases h with⟨rfl,a',al,hv,hm,hn⟩|⟨b,off,al,hv,h0,hl,hm,hc⟩
 ·exact U0
 ·simp only[Abg]at hv;obtain⟨rfl,_,rfl⟩:=hv;by_cases he:hi=lo
  ·subst he;have:(l.take hi).drop hi=[]:=qt.1 ae;rw[this];refine .inl ⟨rfl,_,cap-hi,by unfold bY;rw[Nat.sub_self],ae,λh=>?_⟩;grind
  ·refine .inr ⟨b,off+lo,cap-lo,?_,ae,ae,ae,λi aC=>?_⟩
   ·grind [bY,add_plain]
   ·grind
theorem D'{P:bp}(T:Aab)(ht:P.underlying T=some (.slice (P.elem T)))(hs:∀W:af,(sizeOf (P.elem T)).run P W=.ok 1 W)(a:Option Adr)(len cap lo hi:Nat)(h1:lo<=hi)(h2:hi<=cap)(W:af):(Aav T (.slice a len cap) (some (.int .i64 (lo:Int))) (some (.int .i64 (hi:Int))) none).run P W=.ok (bY a lo hi cap) W:=by exact Og
theorem dg{P:bp}(T:Aab)(ht:P.underlying T=some (.slice (P.elem T)))(hs:∀W:af,(sizeOf (P.elem T)).run P W=.ok 1 W)(a:Option Adr)(len cap lo:Nat)(h1:lo<=len)(W:af):(Aav T (.slice a len cap) (some (.int .i64 (lo:Int))) none none).run P W=.ok (bY a lo len cap) W:=by rw[run_slice_l W T a len cap ht .i64 lo ae ae,hs];rfl
theorem hj{P:bp}(T:Aab)(ht:P.underlying T=some (.slice (P.elem T)))(hs:∀W:af,(sizeOf (P.elem T)).run P W=.ok 1 W)(a:Option Adr)(len cap hi:Nat)(h2:hi<=cap)(W:af):(Aav T (.slice a len cap) none (some (.int .i64 (hi:Int))) none).run P W=.ok (bY a 0 hi cap) W:=by rw[run_slice_h W T a len cap ht .i64 hi ae ae,hs];rfl
def kg(z:ah)(n:Nat):Array ah:=Acv z.cells n
theorem sd(z:ah)(n:Nat):(kg z n).size=n:=by unfold kg;exact wB _ _
theorem St(z:ah)(hz:z.cells=#[z])(n:Nat):(kg z n).toList=Aad n z:=by unfold kg;rw[hz,toList_madeCells_one]
theorem kR{P:bp}(t e:Aab)(z:ah)(bytes:Nat)(ht:P.underlying t=some (.slice e))(hinfo:(P.info? e).map (λi=>(i.zero,i.size,i.bytes))=some (some z,1,bytes))(c:Nat)(hc:bytes*c<=281474976710656)(hm:c<=9223372036854775807)(w:af):(Acf t (.int .i64 0) (.int .i64 (c:Int))).run P w=.ok (.slice (some ⟨w.heap.size,0,none⟩) 0 c) (w.alloc (.cells (kg z c) e)):=by refine NQ ?_;intro i hi hz0 hz1 ar hb this;grind [kg]
theorem D5{P:bp}(t e:Aab)(z:ah)(bytes:Nat)(ht:P.underlying t=some (.slice e))(hinfo:(P.info? e).map (λi=>(i.zero,i.size,i.bytes))=some (some z,1,bytes))(c:Nat)(hc:bytes*c<=281474976710656)(hm:c<=9223372036854775807)(w:af):(Acf t (.int .i64 (c:Int)) (.int .i64 (c:Int))).run P w=.ok (.slice (some ⟨w.heap.size,0,none⟩) c c) (w.alloc (.cells (kg z c) e)):=by refine NR ?_;intro i hi hz0 hz1 ar hb this;grind [kg]
theorem Own.room(f:α->ah)(e:Aab)(w:af)(z:ah)(base c:Nat)(hb:base<=w.heap.size)(hc:c<=9223372036854775807):Own f e (w.alloc (.cells (kg z c) e)) base (.slice (some ⟨w.heap.size,0,none⟩) 0 c) []:=Be w (kg z c) c hb cj (by simp[sd])
theorem Own.A8{f:α->ah}{f':β->ah}{e e':Aab}{w w':af}{v v':ah}{xs:List α}{ys:List β}(h:Own f e w base v xs)(h2:Own f' e' w base' v' ys)(hne:e≠e')(hg:w.grownBy w' v'.ownBlock):Own f e w' base v xs:=by
 refine s8 h hg ?_;obtain⟨_,h⟩:=h;obtain⟨_,h2⟩:=h2;rcases h with⟨rfl,_⟩|⟨g,cap,cur,rfl,_,hh,_⟩
 ·exact .inl rfl
 ·right;rcases h2 with⟨rfl,_⟩|⟨g',al,aB,rfl,_,aa,_⟩
  ·simp[Aan]
  ·intro heq;simp[Aan]at heq;simp_all
theorem xi{P:bp}(f:α->ah)(hf:∀x,(f x).oneCell'=true){w:af}{rest:List Oper}{a:Act}{Q:Exit->Act->af->Prop}(hgd:o.guard=none)(d s:bU)(t:TypeId)(ho:o.op=.call {callee:=.builtin .copy,args:=#[d,s],argTypes:=#[t,t]})(e:TypeId)(z:ah)(bytes:Nat)(ht:P.underlying t=some (.slice e))(hinfo:(P.info? e).map (λi=>(i.zero,i.size,i.bytes))=some (some z,1,bytes))(g n base:Nat)(hg:w.heap[g]?=some (.cells (kg z n) e))(hb:base<=g)(aH:n<=9223372036854775807)(vs:ah)(ys:List α)(hd:a.eval d=.slice (some ⟨g,0,none⟩) n n)(hs:a.eval s=vs)(al:aD f w vs ys)(hn:n<=κ ys)(h:∀w',Own f e w' base (.slice (some ⟨g,0,none⟩) n n) (ys.take n)->Below g w w'->wpList P ops Q rest (a.put o.dst (goInt n)) w'):wpList P ops Q (o::rest) a w:=by
 obtain⟨i,hi,hz0,hz1,ar⟩:=jN hinfo;obtain⟨sa,sc,rfl⟩:=al.slice;have hlen:κ ((ys.take n).map f)=n:=ab
 have aC:κ (kg z n).toList=n:=by simp[sd]
 refine wpList_copy_splice hgd d s t t ho e ht aa (some ⟨g,0,none⟩) sa n n (κ ys) sc hd hs g 0 (kg z n).toList e ae ((ys.take n).map f) aa ?_ ae ?_ g w (e6 _ _) (aE _) ?_
 ·grind [cg,lx,add_plain]
 ·grind
 ·intro w' hh ak;rw[hlen];refine h w' ?_ ak;have hh:=hh.out;have aY:Abx (kg z n).toList 0 ((ys.take n).map f)=(ys.take n).map f:=by unfold Abx;simp_all
  rw[aY]at hh;have aB:κ (ys.take n)=n:=ab
  refine⟨aq,.inr ⟨g,n,((ys.take n).map f).toArray,ab,hb,hh,ae,cj,ab,?_⟩⟩;grind
def cy(c:aj):(aK c).oneCell'=true:=rfl
def strOf(l:List aj):ByteArray:=⟨l.toArray⟩
theorem mH(l:List aj):(strOf l).data.toList=l:=rfl
def tK(l:List aj):(strOf l).size=κ l:=rfl
theorem lK{P:bp}(src e:Aab)(hs:P.underlying src=some (.slice e))(he:P.underlying e=some (.int .u8))(dst:Aab)(hd:P.underlying dst=some .string)(w:af)(v:ah)(l:List aj)(h:a8 w v l):(convert src dst v).run P w=.ok (.string (strOf l)) w:=by
 have conv:∀b off cap,(∀i(h:i<κ l),w.cell? ⟨b,off+i,none⟩=some (aK l[i]))->(convert src dst (.slice (some ⟨b,off,none⟩) (κ l) cap)).run P w=.ok (.string (strOf l)) w:=by
  intro b off cap hc;have hx:=run_convert_bytes_arg (P:=P) w src e hs he b off (κ l) cap (l.map λc=>(c.toNat:Int)) aq (λi hi=>by rw[hc i hi];unfold aK;simp[List.getD,h6 hi]) dst hd
  rw[hx];congr 2;unfold strOf strOfNums;congr 2;rw[qu];conv=>rhs;rw[<-List.map_id l]
  apply E4;simp
 rcases h with⟨rfl,a,cap,rfl,_,hn⟩|⟨b,off,cap,rfl,_,_,_,hc⟩
 ·cases a with
  | none=>exact run_convert_bytes_nil w src e hs he 0 cap dst hd
  | some a=>rw[run_convert_bytes_string w src dst e _ 0 cap hs he hd,run_bytesToString w _ 0 cap [] aA];rfl
 ·simp_all
structure hh{α:Type}(f:α->List ah)(k:Nat):Prop where
 pos:0<k
 len:∀x,κ (f x)=k
 one:∀x,∀u∈f x,u.oneCell'=true
theorem hh.flat{f:α->List ah}(h:hh f k)(l:List α):κ (l.flatMap f)=κ l*k:=by
 induction l with
 | nil=>simp
 | cons x l ih=>rw[Abc,Aaf,h.len,ih,Aaj,wC];omega
theorem hh.cu{f:α->List ah}(h:hh f k)(l:List α):∀u∈l.flatMap f,u.oneCell'=true:=by intro u hu;obtain⟨x,_,hx⟩:=List.mem_flatMap.1 hu;exact h.one x u hx
theorem hh.at{α:Type}{f:α->List ah}{k:Nat}(h:hh f k):∀(l:List α)(i:Nat)(hi:i<κ l)(j:Nat),j<k->(l.flatMap f)[i*k+j]?=(f l[i])[j]?
 | x::l,0,_,j,hj=>by rw[Abc,yM (by rw[h.len];omega)];simp
 | x::l,i+1,hi,j,hj=>by rw[Abc,yN (by rw[h.len,wC];omega),h.len];rw[show(i+1)*k+j-k=i*k+j from by rw[wC];omega];exact h.at l i Bo j hj
def aH(f:α->List ah)(w:af)(v:ah)(l:List α):Prop:=(l=[]/\∃a cap,v=.slice a 0 cap/\cap<=maxLen/\(a=none->cap=0))\/∃b off cap,v=.slice (some ⟨b,off,none⟩) (κ l) cap/\0<κ l/\(κ l)<=cap/\cap<=maxLen/\∀j u,(l.flatMap f)[j]?=some u->w.cell? ⟨b,off+j,none⟩=some u
def ak(f:α->List ah)(k:Nat)(e:Aab)(w:af)(base:Nat)(v:ah)(xs:List α):Prop:=w.ownsRow base e k v (κ xs) (xs.flatMap f)
section
variable {α:Type} {f:α->List ah} {k:Nat} {e:Aab}
theorem aH.up{w w':af}{v:ah}{l:List α}(h:aH f w v l)(hu:Up w w'):aH f w' v l:=by
 rcases h with h|⟨b,off,cap,h1,h2,h3,h4,h5⟩
 ·exact .inl h
 ·exact .inr ⟨b,off,cap,h1,h2,h3,h4,λj u hj=>hu.cell (h5 j u hj)⟩
theorem aH.length_le{w:af}{v:ah}{l:List α}(h:aH f w v l):κ l<=9223372036854775807:=by exact NM
theorem aH.slice{w:af}{v:ah}{l:List α}(h:aH f w v l):∃a cap,v=.slice a (κ l) cap:=by
 rcases h with⟨rfl,a,cap,rfl,_⟩|⟨b,off,cap,rfl,_⟩
 ·simp
 ·simp
theorem aH.nil(f:α->List ah)(w:af):aH f w (.slice none 0 0) []:=.inl ⟨rfl,none,0,rfl,bT _,λ_=>rfl⟩
theorem aH.get{w:af}{a:Option Adr}{n cap:Nat}{l:List α}(h:aH f w (.slice a n cap) l)(hw:hh f k)(h0:0<κ l):∃b off,a=some ⟨b,off,none⟩/\b<w.heap.size/\n<=cap/\∀i(hi:i<κ l) j u,(f l[i])[j]?=some u->w.cell? ⟨b,off+(i*k+j),none⟩=some u:=by
 rcases h with⟨rfl,_⟩|⟨b,off,al,hv,_,hl,_,hc⟩
 ·simp at h0
 ·simp at hv;obtain⟨rfl,rfl,rfl⟩:=hv;have key:∀i(hi:i<κ l) j u,(f l[i])[j]?=some u->w.cell? ⟨b,off+(i*k+j),none⟩=some u:=λi hi j u hu=>by
   have hj:j<k:=by rw[<-hw.len l[i]];exact(kE.1 hu).1
   exact hc _ _ ((hw.at l i hi j hj).trans hu)
  refine⟨b,off,rfl,?_,hl,key⟩;exact ie w _ (key 0 h0 0 _ (h6 (by rw[hw.len];exact hw.pos)))
theorem aH.owned{w:af}{base:Nat}{v:ah}{l:List α}(hw:hh f k)(h:w.ownsRow base e k v (κ l) (l.flatMap f)):aH f w v l:=by
 obtain⟨_,h2⟩:=h;rcases h2 with⟨rfl,h0⟩|⟨g,cap,cur,rfl,_,hg,hn,hm,hs,ht⟩
 ·grind [aH.nil]
 ·by_cases h0:κ l=0
  ·exact NN
  ·refine .inr ⟨g,0,cap,rfl,ae,hn,hm,λj u hj=>?_⟩;have hc:w.cell? ⟨g,0+j,none⟩=cur[0+j]?:=by simp[Aco,hg]
   grind
def ak.row{w:af}{base:Nat}{v:ah}{l:List α}(h:ak f k e w base v l)(hw:hh f k):aH f w v l:=aH.owned hw h
theorem ak.nil(f:α->List ah)(k:Nat)(e:Aab)(w:af)(base:Nat):ak f k e w base (.slice none 0 0) []:=yK _ _ _ _
theorem ak.mono{w:af}{base base':Nat}{v:ah}{xs:List α}(h:ak f k e w base v xs)(hb:base'<=base):ak f k e w base' v xs:=by exact M3
theorem ak.up{w w':af}{base:Nat}{v:ah}{xs:List α}(h:ak f k e w base v xs)(hu:Up w w'):ak f k e w' base v xs:=by exact M4
theorem ak.made(f:α->List ah)(k:Nat)(e:Aab)(w:af)(base:Nat)(hb:base<=w.heap.size):ak f k e (w.alloc (.cells #[] e)) base (.slice (some ⟨w.heap.size,0,none⟩) 0 0) []:=Be w #[] 0 hb (bT _) aq
def ak.aJ{w:af}{base:Nat}{v:ah}{xs:List α}(h:ak f k e w base v xs):∀n,v.ownBlock=some n->base<=n/\n<w.heap.size:=Ady h
def ak.kept{w w':af}{row:Option Nat}{base:Nat}{v:ah}{xs:List α}(h:ak f k e w base v xs)(hg:w.grownBy w' row)(hne:v.ownBlock=none\/v.ownBlock≠row):ak f k e w' base v xs:=s8 h hg hne
theorem aH.ew(w:af)(b:Nat)(hb:b=w.heap.size)(cs:Array ah)(t:Aab)(fr:Nat × Nat)(l:List α)(n:Nat)(hn:n=κ l)(hm:n<=maxLen)(aC:cs.toList=l.flatMap f):aH f (w.alloc (.cells cs t fr)) (.slice (some ⟨b,0,none⟩) n n) l:=by
 subst hb hn;by_cases h0:κ l=0
 ·exact NO
 ·refine .inr ⟨w.heap.size,0,κ l,rfl,ae,aE _,hm,λj u hj=>?_⟩;refine Gt ?_;intro hh;have hc:(w.alloc (.cells cs t fr)).cell? ⟨w.heap.size,0+j,none⟩=cs[0+j]?:=by unfold Aco;rw[hh];rfl
  grind
end
section
variable {α:Type} {P:bp}
theorem C4{f:α->List ah}{k:Nat}(hw:hh f k){w:af}{o:Oper}{a:Act}{K:Act->af->Prop}{Q:Exit->Act->af->Prop}(s x:bU)(t:TypeId)(ho:o.op=.call {callee:=.builtin .append,args:=#[s,x],argTypes:=#[t,t]})(base:Nat)(e:TypeId)(z:ah)(bytes:Nat)(ht:P.underlying t=some (.slice e))(hinfo:(P.info? e).map (λi=>(i.zero,i.size,i.bytes))=some (some z,k,bytes))(aw:z.cells.size=k)(v:ah)(xs:List α)(hs:a.eval s=v)(hown:ak f k e w base v xs)(vx:ah)(ys:List α)(hx:a.eval x=vx)(al:aH f w vx ys)(ai:(κ xs+κ ys)*bytes<=140737488355328)(an:κ xs+κ ys<=9223372036854775807)(ag:base<=w.heap.size)(h:∀v' w',ak f k e w' base v' (xs++ys)->w.grownBy w' v.ownBlock->Below base w w'->K (a.put o.dst v') w'):o.wp P a w K Q:=by
 obtain⟨i,hi,hz0,hz1,ar⟩:=jN hinfo;have au:κ xs+κ ys<=maxLen:=cj
 have key:∀(ad:Adr)(c:Nat),vx=.slice (some ad) (κ ys) c->(∀j u,(ys.flatMap f)[j]?=some u->w.cell? (ad.add j)=some u)->o.wp P a w K Q:=by intro ad c ax aj;refine wp_append_own w s x t ho base e i z k bytes ht hi hz0 hz1 ar aw hw.pos v (κ xs) (xs.flatMap f) hs hown ad (κ ys) c (ys.flatMap f) aa (hw.flat ys) aj (hw.cu ys) au ai ag ?_;intro v' w' h1 h2 _;refine h v' w' ?_ h2 (fo h2 ag λk hk=>(hown.aJ k hk).1);grind [ak]
 rcases al with⟨rfl,ad,cap,rfl,hc,hn⟩|⟨b,off,cap,rfl,h0,hl,hm,hc⟩
 ·cases ad with
  | none=>obtain rfl:=hn rfl;have hrun:=yL (P:=P) (w:=w) base t o.type e i k ht hi v (κ xs) (xs.flatMap f) hown;exact NP
  | some ad=>simp_all
 ·grind [add_plain]
def bH{f:α->List ah}{k:Nat}(hw:hh f k){w:af}{ops:Array Oper}{rest:List Oper}{o:Oper}{a:Act}{Q:Exit->Act->af->Prop}(hgd:o.guard=none)(s x:bU)(t:TypeId)(ho:o.op=.call {callee:=.builtin .append,args:=#[s,x],argTypes:=#[t,t]})(base:Nat)(e:TypeId)(z:ah)(bytes:Nat)(ht:P.underlying t=some (.slice e))(hinfo:(P.info? e).map (λi=>(i.zero,i.size,i.bytes))=some (some z,k,bytes))(aw:z.cells.size=k)(v:ah)(xs:List α)(hs:a.eval s=v)(hown:ak f k e w base v xs)(vx:ah)(ys:List α)(hx:a.eval x=vx)(al:aH f w vx ys)(ai:(κ xs+κ ys)*bytes<=140737488355328)(an:κ xs+κ ys<=9223372036854775807)(ag:base<=w.heap.size)(h:∀v' w',ak f k e w' base v' (xs++ys)->w.grownBy w' v.ownBlock->Below base w w'->wpList P ops Q rest (a.put o.dst v') w'):wpList P ops Q (o::rest) a w:=h' hgd λ_ hK=>C4 hw s x t ho base e z bytes ht hinfo aw v xs hs hown vx ys hx al ai an ag λv' w' h1 h2 h3=>hK _ _ (h v' w' h1 h2 h3)
theorem mN{f:α->List ah}{k:Nat}(hw:hh f k){w:af}{o:Oper}{a:Act}{K:Act->af->Prop}{Q:Exit->Act->af->Prop}(s x:bU)(t:TypeId)(ho:o.op=.call {callee:=.builtin .append,args:=#[s,x],argTypes:=#[t,t]})(base:Nat)(e:TypeId)(z:ah)(bytes:Nat)(ht:P.underlying t=some (.slice e))(hinfo:(P.info? e).map (λi=>(i.zero,i.size,i.bytes))=some (some z,k,bytes))(g cap n:Nat)(xs:List α)(hn:n=κ xs)(hs:a.eval s=cD g n cap)(hown:ak f k e w base (cD g n cap) xs)(vx:ah)(ys:List α)(hx:a.eval x=vx)(al:aH f w vx ys)(m:Nat)(hm:m=κ xs+κ ys)(ao:m<=cap)(ag:base<=w.heap.size)(h:∀w',ak f k e w' base (cD g m cap) (xs++ys)->w.grownBy w' (some g)->Below base w w'->K (a.put o.dst (cD g m cap)) w'):o.wp P a w K Q:=by
 subst hn hm;obtain⟨i,hi,hz0,hz1,ar⟩:=jN hinfo;have hg:=hown.aJ g rfl;have key:∀(ad:Adr)(c:Nat),vx=.slice (some ad) (κ ys) c->(∀j u,(ys.flatMap f)[j]?=some u->w.cell? (ad.add j)=some u)->o.wp P a w K Q:=by intro ad c ax aj;refine wp_append_own_spare w s x t ho base e i k ht hi hz1 g (κ xs) cap (xs.flatMap f) hs hown ad (κ ys) c (ys.flatMap f) aa (hw.flat ys) aj (hw.cu ys) ao ?_;grind [fo,ak]
 rcases al with⟨rfl,ad,c,rfl,hc,hn⟩|⟨b,off,c,rfl,h0,hl,aB,hc⟩
 ·cases ad with
  | none=>obtain rfl:=hn rfl;have hrun:=yL (P:=P) (w:=w) base t o.type e i k ht hi _ (κ xs) (xs.flatMap f) hown;unfold Aca;simp[Abt,ho,resolve,invoke,builtin,hs,hx,hrun,Aap];exact h w ab ⟨rfl,rfl,rfl,aE _,λ_ _ _=>rfl⟩ (e6 _ _)
  | some ad=>simp_all
 ·grind [add_plain]
def eU{f:α->List ah}{k:Nat}(hw:hh f k){w:af}{ops:Array Oper}{rest:List Oper}{o:Oper}{a:Act}{Q:Exit->Act->af->Prop}(hgd:o.guard=none)(s x:bU)(t:TypeId)(ho:o.op=.call {callee:=.builtin .append,args:=#[s,x],argTypes:=#[t,t]})(base:Nat)(e:TypeId)(z:ah)(bytes:Nat)(ht:P.underlying t=some (.slice e))(hinfo:(P.info? e).map (λi=>(i.zero,i.size,i.bytes))=some (some z,k,bytes))(g cap n:Nat)(xs:List α)(hn:n=κ xs)(hs:a.eval s=cD g n cap)(hown:ak f k e w base (cD g n cap) xs)(vx:ah)(ys:List α)(hx:a.eval x=vx)(al:aH f w vx ys)(m:Nat)(hm:m=κ xs+κ ys)(ao:m<=cap)(ag:base<=w.heap.size)(h:∀w',ak f k e w' base (cD g m cap) (xs++ys)->w.grownBy w' (some g)->Below base w w'->wpList P ops Q rest (a.put o.dst (cD g m cap)) w'):wpList P ops Q (o::rest) a w:=h' hgd λ_ hK=>mN hw s x t ho base e z bytes ht hinfo g cap n xs hn hs hown vx ys hx al m hm ao ag λw' h1 h2 h3=>hK _ _ (h w' h1 h2 h3)
theorem step_append_room{f:α->List ah}{k:Nat}(hw:hh f k){w:af}{ops:Array Oper}{o:Oper}{a:Act}{K:Act->af->Prop}{Q:Exit->Act->af->Prop}{E:Prop}(hgd:o.guard=none)(s x:bU)(t:TypeId)(ho:o.op=.call {callee:=.builtin .append,args:=#[s,x],argTypes:=#[t,t]})(base:Nat)(e:TypeId)(z:ah)(bytes:Nat)(ht:P.underlying t=some (.slice e))(hinfo:(P.info? e).map (λi=>(i.zero,i.size,i.bytes))=some (some z,k,bytes))(g cap n:Nat)(xs:List α)(hn:n=κ xs)(hs:a.eval s=cD g n cap)(hown:ak f k e w base (cD g n cap) xs)(vx:ah)(ys:List α)(hx:a.eval x=vx)(al:aH f w vx ys)(m:Nat)(hm:m=κ xs+κ ys)(ao:m<=cap)(ag:base<=w.heap.size)(h:∀w',ak f k e w' base (cD g m cap) (xs++ys)->w.grownBy w' (some g)->Below base w w'->K (a.put o.dst (cD g m cap)) w'):if Region.wanted o (yielded ops a.tmps)=true then Oper.wp P o a w K Q else E:=by
 have hw2:Aaa o (Aa1 ops a.tmps)=true:=by simp[Aaa,hgd]
 grind [mN]
end
def partOf(k:Nat)(a:Option Adr)(lo hi cap:Nat):ah:=.slice (if cap=lo then a else a.map (·.add (lo*k))) (hi-lo) (cap-lo)
theorem aH.part{f:α->List ah}(hw:hh f k){w:af}{a:Option Adr}{l:List α}(h:aH f w (.slice a n cap) l){lo hi:Nat}(h1:lo<=hi)(h2:hi<=κ l):aH f w (partOf k a lo hi cap) ((l.take hi).drop lo):=by
 have hlen:κ ((l.take hi).drop lo)=hi-lo:=ab
 rcases h with⟨rfl,a',al,hv,hm,hn⟩|⟨b,off,al,hv,h0,hl,hm,hc⟩
 ·exact U0
 ·simp only[Abg]at hv;obtain⟨rfl,_,rfl⟩:=hv;by_cases he:hi=lo
  ·subst he;have:(l.take hi).drop hi=[]:=qt.1 ae;rw[this];refine .inl ⟨rfl,_,cap-hi,by unfold partOf;rw[Nat.sub_self],ae,λh=>?_⟩;grind
  ·refine .inr ⟨b,off+lo*k,cap-lo,?_,ae,ae,ae,λj u hj=>?_⟩
   ·grind [partOf,add_plain]
   ·have ay:l.flatMap f=(l.take lo).flatMap f++(((l.take hi).drop lo).flatMap f++(l.drop hi).flatMap f):=by
     rw[<-gk,<-gk];congr 1;have e1:l.take hi=l.take lo++(l.take hi).drop lo:=by have:=fQ lo (l.take hi);grind
     rw[<-Aa9,<-e1,fQ]
    have aB:κ ((l.take lo).flatMap f)=lo*k:=by rw[hw.flat,ez,Nat.min_eq_left ae]
    have:=hc (lo*k+j) u (by rw[ay,yN ae,aB,show lo*k+j-lo*k=j from ae];rw[yM (kE.1 hj).1];exact hj)
    grind
theorem Wd{P:bp}(T:Aab)(k:Nat)(ht:P.underlying T=some (.slice (P.elem T)))(hs:∀W:af,(sizeOf (P.elem T)).run P W=.ok k W)(a:Option Adr)(len cap lo hi:Nat)(h1:lo<=hi)(h2:hi<=cap)(W:af):(Aav T (.slice a len cap) (some (.int .i64 (lo:Int))) (some (.int .i64 (hi:Int))) none).run P W=.ok (partOf k a lo hi cap) W:=by exact Og
theorem gq{P:bp}(T:Aab)(k:Nat)(ht:P.underlying T=some (.slice (P.elem T)))(hs:∀W:af,(sizeOf (P.elem T)).run P W=.ok k W)(a:Option Adr)(len cap lo:Nat)(h1:lo<=len)(W:af):(Aav T (.slice a len cap) (some (.int .i64 (lo:Int))) none none).run P W=.ok (partOf k a lo len cap) W:=by rw[run_slice_l W T a len cap ht .i64 lo ae ae,hs];rfl
theorem x9{P:bp}(T:Aab)(k:Nat)(ht:P.underlying T=some (.slice (P.elem T)))(hs:∀W:af,(sizeOf (P.elem T)).run P W=.ok k W)(a:Option Adr)(len cap hi:Nat)(h2:hi<=cap)(W:af):(Aav T (.slice a len cap) none (some (.int .i64 (hi:Int))) none).run P W=.ok (partOf k a 0 hi cap) W:=by rw[run_slice_h W T a len cap ht .i64 hi ae ae,hs];rfl
theorem mB{P:bp}(t e:Aab)(z:ah)(k bytes:Nat)(ht:P.underlying t=some (.slice e))(hinfo:(P.info? e).map (λi=>(i.zero,i.size,i.bytes))=some (some z,k,bytes))(c:Nat)(hc:bytes*c<=281474976710656)(hm:c<=9223372036854775807)(w:af):(Acf t (.int .i64 0) (.int .i64 (c:Int))).run P w=.ok (.slice (some ⟨w.heap.size,0,none⟩) 0 c) (w.alloc (.cells (Acv z.cells (c*k)) e)):=by refine NQ ?_;intro i hi hz0 hz1 ar hb this;simp_all
theorem ak.room(f:α->List ah)(k:Nat)(e:Aab)(w:af)(z:ah)(base c:Nat)(hb:base<=w.heap.size)(hc:c<=9223372036854775807):ak f k e (w.alloc (.cells (Acv z.cells (c*k)) e)) base (.slice (some ⟨w.heap.size,0,none⟩) 0 c) []:=Be w _ c hb cj (wB _ _)
def aF(w:af)(g:Nat)(t:Aab)(C:Array ah):Prop:=w.heap[g]?=some (.cells C t (0,0))
section
variable {w w':af} {g:Nat} {t:Aab} {C:Array ah}
def aF.lt(h:aF w g t C):g<w.heap.size:=(qv.1 h).1
theorem aF.up(h:aF w g t C)(hu:Up w w'):aF w' g t C:=by unfold aF;rw[oV hu g h.lt];exact h
theorem aF.grown(h:aF w g t C){row:Option Nat}(hg:w.grownBy w' row)(hne:row≠some g):aF w' g t C:=by unfold aF;rw[hg.block g h.lt (λe=>hne e.symm)];exact h
theorem aF.new(w:af)(t:Aab)(C:Array ah):aF (w.alloc (.cells C t)) w.heap.size t C:=by unfold aF;show(w.heap.push _)[w.heap.size]?=_;simp
theorem aF.newAt(w:af)(g:Nat)(hg:g=w.heap.size)(t:Aab)(C:Array ah):aF (w.alloc (.cells C t)) g t C:=by grind [aF.new]
theorem aF.cell(h:aF w g t C)(i:Nat):w.cell? ⟨g,i,none⟩=C[i]?:=by unfold Aco;rw[h];rfl
theorem aF.free(h:aF w g t C)(i:Nat):w.frozen? ⟨g,i,none⟩=false:=by unfold World.frozen?;rw[h];simp
theorem aF.range(h:aF w g t C):w.rangeAt g 0 C.toList:=λj v hj=>by rw[h.cell,Aby];simpa using hj
end
theorem cV(w:af)(g:Nat)(cs:Array ah):w.grownBy (w.setRow g cs) (some g):=⟨rfl,rfl,rfl,aq,λk hk hne=>by
  simp only[World.setRow];rw[E5];rw[aY (λe=>hne (by rw[e]))]⟩
def aF.set{w:af}{C:Array ah}(h:aF w g t C)(C':Array ah):aF (w.setRow g C') g t C':=setRow_heap w g C C' t _ h
theorem aF.setCell{w:af}{C:Array ah}(h:aF w g t C)(i:Nat)(v:ah):aF (w.setCell ⟨g,i,none⟩ v) g t (C.setIfInBounds i v):=by rw[setCell_eq_setRow w g i C t (0,0) v h];exact h.set _
theorem bZ{w:af}{C:Array ah}(h:aF w g t C)(i:Nat)(v:ah):w.grownBy (w.setCell ⟨g,i,none⟩ v) (some g):=by rw[setCell_eq_setRow w g i C t (0,0) v h];simp[cV]
section
variable {P:bp}
theorem jf{ops:Array Abn}{rest:List Abn}{op:Abn}{a:Act}{w:af}{Q:Exit->Act->af->Prop}(hgd:op.guard=none)(ty:Aab)(x:bU)(ho:op.op=.load ty x)(g:Nat)(hx:a.eval x=.pointer (some ⟨g,0,none⟩))(t:Aab)(C:Array ah)(hb:aF w g t C)(d:eQ)(hu:P.underlying ty=some d)(hd:d.isRow=true)(hi:(P.info? ty).map (·.size)=some C.size)(h:Aal P ops Q rest (a.put op.dst (.agg C)) w):Aal P ops Q (op::rest) a w:=wpList_load_mid hgd ty x ho g 0 hx C.toList d hb.range hu hd ae jR
theorem oz{ops:Array Abn}{rest:List Abn}{op:Abn}{a:Act}{w:af}{Q:Exit->Act->af->Prop}(hw:Aaa op (Aa1 ops a.tmps)=true)(ty:Aab)(x:bU)(ho:op.op=.load ty x)(g:Nat)(hx:a.eval x=pz g)(t:Aab)(C:Array ah)(hb:aF w g t C)(d:eQ)(hu:P.underlying ty=some d)(hd:d.isRow=true)(hi:(P.info? ty).map (·.size)=some C.size)(h:Aal P ops Q rest (a.put op.dst (.agg C)) w):Aal P ops Q (op::rest) a w:=qw hw λ_ hK=>wp_load_mid ty x ho g 0 hx C.toList d hb.range hu hd ae (hK _ _ jR)
theorem k3{ops:Array Abn}{rest:List Abn}{o:Abn}{a:Act}{w:af}{Q:Exit->Act->af->Prop}(hw:Aaa o (Aa1 ops a.tmps)=true)(t:Aab)(ho:o.op=.build t #[])(C:Array ah)(hb:P.built t []=some C)(h:Aal P ops Q rest (a.put o.dst (.agg C)) w):Aal P ops Q (o::rest) a w:=qw hw λ_ hK=>wp_build t #[] ho aa (hK _ _ (by simpa[hb]using h))
theorem dS{ops:Array Abn}{rest:List Abn}{op:Abn}{a:Act}{w:af}{Q:Exit->Act->af->Prop}(hgd:op.guard=none)(ty:Aab)(ho:op.op=.alloc ty)(C:Array ah)(hz:∀W:af,(Acj ty).run P W=.ok (.agg C) W)(h:Aal P ops Q rest (a.put op.dst (.pointer (some ⟨w.heap.size,0,none⟩))) (w.alloc (.cells C ty))):Aal P ops Q (op::rest) a w:=by refine vh ?_;intro K hK;simp[ho,Instr.alloc,Aay,hz,newVar,newRow,Value.cells,Aap];exact hK _ _ h
theorem iF{w:af}(ty:Aab)(g:Nat)(t:Aab)(C:Array ah)(hb:aF w g t C)(d:eQ)(hu:P.underlying ty=some d)(hd:d.isRow=true)(hi:(P.info? ty).map (·.size)=some C.size):(loadVar ty ⟨g,0,none⟩).run P w=.ok (.agg C) w:=by have:=E6 (P:=P) w g 0 ty C.toList d hb.range hu hd ae;omega
theorem iH{ops:Array Abn}{rest:List Abn}{op:Abn}{a:Act}{w:af}{Q:Exit->Act->af->Prop}(hgd:op.guard=none)(ty:Aab)(x:bU)(ho:op.op=.load ty x)(g off:Nat)(hx:a.eval x=.pointer (some ⟨g,off,none⟩))(C:Array ah)(hc:w.rangeAt g off C.toList)(d:eQ)(hu:P.underlying ty=some d)(hd:d.isRow=true)(hi:(P.info? ty).map (·.size)=some C.size)(h:Aal P ops Q rest (a.put op.dst (.agg C)) w):Aal P ops Q (op::rest) a w:=wpList_load_mid hgd ty x ho g off hx C.toList d hc hu hd ae jR
def ep{ops:Array Abn}{rest:List Abn}{op:Abn}{a:Act}{w:af}{Q:Exit->Act->af->Prop}(hgd:op.guard=none)(ty:Aab)(x y:bU)(ho:op.op=.store ty x y)(g:Nat)(C':Array ah)(hx:a.eval x=.pointer (some ⟨g,0,none⟩))(hy:a.eval y=.agg C')(t:Aab)(C:Array ah)(hb:aF w g t C)(hi:(P.info? ty).map (·.size)=some C'.size)(hold:C.size=C'.size)(h1:C'.all (·.oneCell')=true)(h:∀w',aF w' g t C'->w.grownBy w' (some g)->Aal P ops Q rest (a.put op.dst Aas) w'):Aal P ops Q (op::rest) a w:=E7 hgd ty x y ho g C' hx hy t C hb hi hold h1 (h _ (hb.set C') (cV w g C'))
theorem iI{ops:Array Abn}{rest:List Abn}{op:Abn}{a:Act}{w:af}{Q:Exit->Act->af->Prop}(hgd:op.guard=none)(ty:Aab)(x y:bU)(ho:op.op=.store ty x y)(g:Nat)(hg:g=w.heap.size)(C':Array ah)(hx:a.eval x=.pointer (some ⟨g,0,none⟩))(hy:a.eval y=.agg C')(t:Aab)(C:Array ah)(hi:(P.info? ty).map (·.size)=some C'.size)(hold:C.size=C'.size)(h1:C'.all (·.oneCell')=true)(h:Aal P ops Q rest (a.put op.dst Aas) (w.alloc (.cells C' t))):Aal P ops Q (op::rest) a (w.alloc (.cells C t)):=by
 subst hg;refine E7 hgd ty x y ho w.heap.size C' hx hy t C (aF.new w t C) hi hold h1 ?_;have e:(w.alloc (.cells C t)).setRow w.heap.size C'=w.alloc (.cells C' t):=by simp only[World.setRow,World.alloc];congr 1;grind
 simp_all
theorem ch{ops:Array Abn}{rest:List Abn}{op:Abn}{a:Act}{w:af}{Q:Exit->Act->af->Prop}(hgd:op.guard=none)(ty:Aab)(x y:bU)(ho:op.op=.store ty x y)(g off:Nat)(V:Array ah)(hx:a.eval x=.pointer (some ⟨g,off,none⟩))(hy:a.eval y=.agg V)(t:Aab)(C:Array ah)(hb:aF w g t C)(hi:(P.info? ty).map (·.size)=some V.size)(hfit:off+V.size<=C.size)(h1:V.all (·.oneCell')=true)(h:∀w',aF w' g t (Abx C.toList off V.toList).toArray->w.grownBy w' (some g)->Aal P ops Q rest (a.put op.dst Aas) w'):Aal P ops Q (op::rest) a w:=by
 have aG:=wD (P:=P) g off t V.toList 0 C w hb ae (λv hv=>(wE.1 h1) v aa);have a6:(storeVar ty ⟨g,off,none⟩ (.agg V)).run P w=.ok () (w.setRow g (Abx C.toList off V.toList).toArray):=by
  cases hq:P.info? ty with
  | none=>simp_all
  | some i=>
   have hs:V.size=i.size:=aa
   simp[storeVar,sizeOf,typeInfo,hq,Value.cells,hs];simp at aG;assumption
 refine vh ?_;intro K hK;simp only[ho,hx,hy,Instr.storeAt,Adg,Aay,Ac7,Aax,a6];exact hK _ _ (h _ (hb.set _) (cV w g _))
theorem hJ{ops:Array Oper}{rest:List Oper}{op:Oper}{a:Act}{w:af}{Q:Exit->Act->af->Prop}(hgd:op.guard=none)(d s:bU)(dT sT:TypeId)(ho:op.op=.call {callee:=.builtin .copy,args:=#[d,s],argTypes:=#[dT,sT]})(elem:TypeId)(hu:P.underlying dT=some (.slice elem))(aN:(P.info? elem).map (·.size)=some 1)(f:aj->ah)(hf:∀x,(f x).oneCell'=true)(g off n cap:Nat)(hd:a.eval d=.slice (some ⟨g,off,none⟩) n cap)(vs:ah)(ys:List aj)(hs:a.eval s=vs)(al:aD f w vs ys)(hn:κ ys<=n)(t:TypeId)(C:Array ah)(hb:aF w g t C)(hfit:off+κ ys<=C.size)(h:∀w',aF w' g t (splice C.toList off (ys.map f)).toArray->Below g w w'->w.grownBy w' (some g)->wpList P ops Q rest (a.put op.dst (goInt (κ ys))) w'):wpList P ops Q (op::rest) a w:=by
 obtain⟨sa,sc,rfl⟩:=al.slice;have hlen:κ (ys.map f)=κ ys:=aq
 by_cases h0:κ ys=0
 ·obtain rfl:ys=[]:=MT h0;refine wpList_copy_nothing hgd d s dT sT ho elem hu aN (some ⟨g,off,none⟩) sa n cap 0 sc hd hs aq ?_;exact h w (by simpa[Abx]using hb) (e6 _ _) ⟨rfl,rfl,rfl,aE _,λ_ _ _=>rfl⟩
 ·obtain⟨b,o,rfl,_,hc⟩:=cg al rfl ae;refine wpList_copy_own hgd d s dT sT ho elem hu aN g off n cap _ (κ ys) sc hd hs C t hb (ys.map f) aa (λj u hj=>?_) ae (λu hu=>?_) ?_
  ·grind [lx,add_plain]
  ·grind
  ·have:=h _ (hb.set (Abx C.toList off (ys.map f)).toArray) (below_setRow (e6 _ _) (aE _) _) (cV w g _);rw[hlen];simpa[Abx]using this
theorem vL{α:Type}(d:Nat){t e:Aab}{n:Nat}{i:TypeInfo}(hu:P.underlying t=some (.array n e))(hi:P.info? e=some i)(xs ys:Array ah)(l m:List α)(hl:κ l=n)(hm:κ m=n)(F:α->ah)(B:α->α->Bool)(hB:∀x y,B x y=true↔x=y)(px:∀j(h:j<κ l) W,(part e xs (j*P.cellsOf e)).run P W=.ok (F l[j]) W)(py:∀j(h:j<κ m) W,(part e ys (j*P.cellsOf e)).run P W=.ok (F m[j]) W)(pe:∀x y W,(Ach d e (F x) (F y)).run P W=.ok (B x y) W)(w:af)(r:Bool)(hr:r=true↔l=m):(Ach (d+1) t (.agg xs) (.agg ys)).run P w=.ok r w:=by
 rw[run_equalIn_array w d xs ys hu hi];have key:∀(is:List Nat),(∀j∈is,j<n)->(Op.eqItems d e (P.cellsOf e) xs ys is).run P w=.ok (is.all λj=>if h:j<κ l/\j<κ m then B l[j] m[j] else true) w:=by
  intro is;induction is with
  | nil=>intro _;rfl
  | cons j is ih=>
   intro hj;have h1:j<κ l:=aa
   have h2:j<κ m:=ae
   simp only[Op.eqItems,Aay,px j h1,py j h2,pe,Aax,List.all_cons];rw[dif_pos ⟨h1,h2⟩];cases hb:B l[j] m[j]
   ·simp
   ·simp_all
 rw[key (Aak n) (λj hj=>aa)];congr 1;rw[Bf,hr,Ac9];constructor
 ·intro h;apply Bg ae;simp_all
 ·simp_all
end
section
variable {P:bp} {ops:Array Abn} {Q:Exit->Act->af->Prop} {rest:List Abn} {a:Act} {w:af} {dst:Option Tmp} {type:Aab} {pos:String} {after:Array Edge} {guard:Option (Nat × Bool)}
def r9(ty:TypeId)(x:bU)(h:wpList P ops Q ({dst:=dst,op:=.load ty x,type:=type,pos:=pos,after:=after,guard:=guard}::rest) a w):wpList P ops Q ({dst:=dst,op:=.load ty x,type:=type,pos:=pos,after:=after,guard:=guard}::rest) a w:=h
def cx(ty:TypeId)(x y:bU)(h:wpList P ops Q ({dst:=dst,op:=.store ty x y,type:=type,pos:=pos,after:=after,guard:=guard}::rest) a w):wpList P ops Q ({dst:=dst,op:=.store ty x y,type:=type,pos:=pos,after:=after,guard:=guard}::rest) a w:=h
def WY(ty:TypeId)(h:wpList P ops Q ({dst:=dst,op:=.alloc ty,type:=type,pos:=pos,after:=after,guard:=guard}::rest) a w):wpList P ops Q ({dst:=dst,op:=.alloc ty,type:=type,pos:=pos,after:=after,guard:=guard}::rest) a w:=h
def eP(ty:TypeId)(parts:Array (Nat × bU))(h:wpList P ops Q ({dst:=dst,op:=.build ty parts,type:=type,pos:=pos,after:=after,guard:=guard}::rest) a w):wpList P ops Q ({dst:=dst,op:=.build ty parts,type:=type,pos:=pos,after:=after,guard:=guard}::rest) a w:=h
def eo(ty:TypeId)(n:Nat)(parts:Array (Nat × bU))(h:wpList P ops Q ({dst:=dst,op:=.buildSlice ty n parts,type:=type,pos:=pos,after:=after,guard:=guard}::rest) a w):wpList P ops Q ({dst:=dst,op:=.buildSlice ty n parts,type:=type,pos:=pos,after:=after,guard:=guard}::rest) a w:=h
end
section
variable {P:bp} {ops:Array Abn} {rest:List Abn} {op:Abn} {a:Act} {Q:Exit->Act->af->Prop}
theorem Po{w:af}(hw:Aaa op (Aa1 ops a.tmps)=true)(ty:Aab)(x:bU)(ho:op.op=.load ty x)(g off:Nat)(hx:a.eval x=pq g off)(C:Array ah)(hc:w.rangeAt g off C.toList)(d:eQ)(hu:P.underlying ty=some d)(hd:d.isRow=true)(hi:(P.info? ty).map (·.size)=some C.size)(h:Aal P ops Q rest (a.put op.dst (.agg C)) w):Aal P ops Q (op::rest) a w:=qw hw λ_ hK=>wp_load_mid ty x ho g off hx C.toList d hc hu hd ae (hK _ _ jR)
theorem fK{W:af}(w:af)(hgd:op.guard=none)(ty:Aab)(x y:bU)(ho:op.op=.store ty x y)(C':Array ah)(t:Aab)(C:Array ah)(hW:W=w.alloc (.cells C t))(hx:a.eval x=.pointer (some ⟨w.heap.size,0,none⟩))(hy:a.eval y=.agg C')(hi:(P.info? ty).map (·.size)=some C'.size)(hold:C.size=C'.size)(h1:C'.all (·.oneCell')=true)(h:Aal P ops Q rest (a.put op.dst Aas) (w.alloc (.cells C' t))):Aal P ops Q (op::rest) a W:=by subst hW;exact iI hgd ty x y ho _ rfl C' hx hy t C hi hold h1 h
end
def aC(s:List aj):Array ah:=(s.map aK).toArray
def aM:List aj:=Aad 128 0
theorem bX(s:List aj):(aC s).size=κ s:=by simp[aC]
theorem r3(s:List aj):(aC s).toList=s.map aK:=aA
theorem dx(s:List aj):(aC s).all (·.oneCell')=true:=Bh (λv hv=>by obtain⟨y,_,rfl⟩:=Abd.1 hv;rfl)
theorem dw:(prog.info? 60).map (·.size)=some 128:=al
theorem hP:∀W:af,(Acj 60).run Aag W=.ok (.agg (aC aM)) W:=(lA (P:=Aag) (t:=60) (v:=.agg (aC aM)) (n:=128) aA).1
theorem ib:prog.built 60 []=some (aC aM):=al
theorem LQ(s t:List aj)(hs:κ s=128)(ht:κ t=128)(W:af):(Ach 10000 60 (.agg (aC s)) (.agg (aC t))).run Aag W=.ok (decide (s=t)) W:=by
 have:=run_equalIn_bytes (P:=Aag) W 9998 60 5 128 Acs underlying5 (λw=>aA) s t hs ht;have e:(s==t)=decide (s=t):=aQ
 rw[e]at this;exact this
theorem I5{fn:Func}{p u:Tmp}(h:fn.results=#[.cell p ty,.tmp u])(tmps:Array ah)(P:bp)(w:af)(g:Nat)(t:Aab)(C:Array ah)(x:ah)(hp:tmps.getD p Aas=.pointer (some ⟨g,0,none⟩))(hu:tmps.getD u Aas=x)(hb:aF w g t C)(d:eQ)(hd:P.underlying ty=some d)(hr:d.isRow=true)(hi:(P.info? ty).map (·.size)=some C.size):(results fn tmps).run P w=.ok (.tuple #[.agg C,x]) w:=by rw[E8 h,hp,hu];simp[asAddr,Aap,iF (P:=P) ty g t C hb d hd hr hi]
theorem oo(g lo hi:Nat)(x y:Int)(hx:x=(lo:Int))(hy:y=(hi:Int))(h1:lo<=hi)(h2:hi<=128)(h3:lo<128)(W:af):(Abo 60 (.pointer (some ⟨g,0,none⟩)) (some (.int .i64 x)) (some (.int .i64 y)) none).run Aag W=.ok (.slice (some ⟨g,lo,none⟩) (hi-lo) (128-lo)) W:=by refine Gl ?_;intro aT hs;rw[run_sliceAt_array_lh W 60 ⟨g,0,none⟩ aA .i64 .i64 x y ae ae ae,hs,aT];subst hx hy;simp only[Aax,slicedAt,Abp];grind [add_plain]
theorem Je{w:af}{s:List aj}(h:aF w g t (aC s))(k:Nat)(hk:k<κ s):w.cell? ⟨g,k,none⟩=some (aK s[k]):=by rw[h.cell];simp[aC,hk]
def Up.range{w w':af}(h:Up w w'){b off:Nat}{l:List ah}(hc:w.rangeAt b off l):w'.rangeAt b off l:=λj v hj=>h.cell (hc j v hj)
section
variable {P:bp} {ops:Array Abn} {S:af->Prop} {o:Abn} {a:Act} {v:ah}
theorem kW{Q:Exit->Act->af->Prop}{i:Nat}{K:Act->af->Prop}{w:af}(hi:ops[i]?=some o)(hw:Aaa o (Aa1 ops a.tmps)=true)(h:o.wp P a w K Q):wpOp P ops Q i K a w:=FN
def rf(hw:Aaa o (Aa1 ops a.tmps)=true)(h:∀w,(Abt a.eval o).run P w=.ok (.value v) w):Acb P ops S o v a:=.inl ⟨hw,λw _=>h w⟩
theorem zV(hw:Aaa o (Aa1 ops a.tmps)=true)(ty:Aab)(x:bU)(ho:o.op=.load ty x)(ad:Adr)(hx:a.eval x=.pointer (some ad))(hc:∀w,S w->w.cell? ad=some v)(hagg:∀w:af,(isAgg ty).run P w=.ok false w):Acb P ops S o v a:=.inl ⟨hw,λw hS=>by
  have hl:(load ad).run P w=.ok v w:=by simp[hc w hS]
  unfold Abt;simp only[ho,hx,Instr.loadAt,Adg,loadVar,Aay,Ac7,Aax,hagg,Ab3,if_false,hl]⟩
theorem wb(hw:Aaa o (Aa1 ops a.tmps)=true)(ty:Aab)(x:bU)(ho:o.op=.load ty x)(g off:Nat)(hx:a.eval x=.pointer (some ⟨g,off,none⟩))(C:Array ah)(hc:∀w,S w->w.rangeAt g off C.toList)(d:eQ)(hu:P.underlying ty=some d)(hd:d.isRow=true)(hi:(P.info? ty).map (·.size)=some C.size):Acb P ops S o (.agg C) a:=.inl ⟨hw,λw hS=>by
  have:=E6 (P:=P) w g off ty C.toList d (hc w hS) hu hd ae;unfold Abt;simp only[ho,hx,Instr.loadAt,Adg,Aay,Ac7,Aax,this]⟩
theorem re{Q:Exit->Act->af->Prop}{md:Ab0}{fuel:Nat}{aZ:Array Bool}{w:af}(i:Nat)(hr:Abi md ops aZ=[i])(hi:ops[i]?=some o)(hw:Aaa o (Aa1 ops a.tmps)=true)(h:∀K:Act->af->Prop,(∀a w,S w->Acp P md ops Q S fuel (aZ.setIfInBounds i true) a w->K a w)->o.wp P a w K Q):Acp P md ops Q S (fuel+1) aZ a w:=wpAnyH_all hr aq (λj hj=>by
  simp at hj;subst hj;exact kW hi hw (h _ λ_ _ h1 h2=>⟨h1,h2⟩))
theorem fm{w:af}{K:Act->af->Prop}{Q:Exit->Act->af->Prop}(ty:Aab)(ho:o.op=.alloc ty)(C:Array ah)(hz:∀W:af,(Acj ty).run P W=.ok (.agg C) W)(h:K (a.put o.dst (pz w.heap.size)) (w.alloc (.cells C ty))):o.wp P a w K Q:=by unfold Aca Abt;simp[ho,Instr.alloc,Aay,hz,newVar,newRow,Value.cells,Aap];exact h
end
section
variable {P:bp} {ops:Array Abn} {S:af->Prop} {a:Act} {w:af} {oi:Abn} {v:ah} {ty:Aab} {x:bU} {ad:Adr}
theorem ya(hw:Region.wanted oi (yielded ops a.tmps)=true:=by kernel_rfl)(h:∀w,(execOp a.eval oi).run P w=.ok (.value v) w:=by intro _;go_simp):YieldsIf P ops S oi v a:=rf hw h
theorem yc(hc:∀w,S w->w.cell? ad=some v)(hw:Region.wanted oi (yielded ops a.tmps)=true:=by kernel_rfl)(ho:oi.op=.load ty x:=by rfl)(hx:a.eval x=.pointer (some ad):=by kernel_rfl)(hagg:∀w:af,(isAgg ty).run P w=.ok false w:=by intro _;kernel_rfl):YieldsIf P ops S oi v a:=by grind [zV]
theorem yp{g off:Nat}{C:Array ah}{d:eQ}(hc:∀w,S w->w.rangeAt g off C.toList)(hi:(P.info? ty).map (·.size)=some C.size)(hu:P.underlying ty=some d)(hd:d.isRow=true:=by rfl)(hw:Region.wanted oi (yielded ops a.tmps)=true:=by kernel_rfl)(ho:oi.op=.load ty x:=by rfl)(hx:a.eval x=.pointer (some ⟨g,off,none⟩):=by kernel_rfl):YieldsIf P ops S oi (.agg C) a:=by grind [wb]
theorem tk{md:Region.Mode}{Q:Exit->Act->af->Prop}{fuel:Nat}{aZ:Array Bool}(i:Nat)(v:ah)(hi:ops[i]?=some oi)(hy:YieldsIf P ops S oi v a)(hS:S w)(h:wpAnyH P md ops Q S fuel (aZ.setIfInBounds i true) (a.put oi.dst v) w)(hs:Region.noSelect ops=true:=by kernel_rfl)(hf:Region.free md ops aZ i=true:=by kernel_rfl)(hr:(Region.ready md ops aZ).contains i=true:=by kernel_rfl)(hQ:∀c a w,Q (.panic c) (a.put oi.dst v) w->Q (.panic c) a w:=by exact λ_ _ _ h=>h):wpAnyH P md ops Q S (fuel+1) aZ a w:=wpAnyH_take hi hs hf hr hQ hy hS h
end
theorem hM{P:bp}{d:eQ}(h:P.underlying ty=some d:=by first|with_reducible exact underlying73|with_reducible exact underlying87|with_reducible exact underlying60|with_reducible exact underlying90|with_reducible exact underlying88|with_reducible exact underlying30|with_reducible exact underlying176|with_reducible exact underlying122|with_reducible exact underlying100|with_reducible exact underlying71|with_reducible exact underlying3|with_reducible exact underlying111|with_reducible exact underlying33|with_reducible exact underlying9|with_reducible exact underlying5|with_reducible exact underlying41|with_reducible exact underlying139|with_reducible exact underlying326|with_reducible exact underlying45|with_reducible exact underlying36|with_reducible exact underlying70|with_reducible exact underlying270|with_reducible exact underlying178|with_reducible exact underlying246|with_reducible exact underlying116|with_reducible exact underlying4|with_reducible exact underlying74|with_reducible exact underlying156|with_reducible exact underlying112|with_reducible exact underlying129|with_reducible exact underlying65|with_reducible exact underlying85|with_reducible exact underlying63|with_reducible exact underlying163|with_reducible exact underlying145|with_reducible exact underlying192|with_reducible exact underlying40|with_reducible exact underlying211|with_reducible exact underlying265|with_reducible exact underlying146|with_reducible exact underlying0|with_reducible exact underlying210|with_reducible exact underlying279|with_reducible exact underlying280|with_reducible exact underlying267|with_reducible exact underlying331|with_reducible exact underlying334|with_reducible exact underlying348|with_reducible exact underlying349|with_reducible exact underlying22|with_reducible exact underlying114|with_reducible exact underlying165|with_reducible exact underlying239|with_reducible exact underlying354|with_reducible exact underlying253|with_reducible exact underlying31):P.underlying ty=some d:=h
theorem lO{P:bp}{C:Array ah}(h:(P.info? ty).map (·.size)=some C.size:=by first|(rw[RO];kernel_rfl)|(rw[Y1];kernel_rfl)|kernel_rfl):(P.info? ty).map (·.size)=some C.size:=h
theorem vz{C:Array ah}(h:C.all (·.oneCell')=true:=by first|rfl|with_reducible exact hZ .. | with_reducible exact PX .. | with_reducible exact AV .. | with_reducible exact Yh .. | with_reducible exact OY .. | with_reducible exact O' .. | with_reducible exact jX .. | with_reducible exact Yx .. | with_reducible exact Wb .. | with_reducible exact dx .. | with_reducible exact mC .. | with_reducible exact YT .. | with_reducible exact xd ..):C.all (·.oneCell')=true:=h
section
variable {P:bp} {ops:Array Abn} {Q:Exit->Act->af->Prop} {rest:List Abn} {a:Act} {w:af} {dst:Option Tmp} {type:Aab} {pos:String} {after:Array Edge} {guard:Option (Nat × Bool)}
theorem cY{op:Oper}(ty:TypeId)(n:Nat){g:Nat}{t:TypeId}{C:Array ah}(hb:aF w g t C)(h:wpList P ops Q rest (a.put op.dst (.agg C)) w)(ho:op.op=.load ty (.tmp n):=by with_reducible rfl)(hi:(P.info? ty).map (·.size)=some C.size:=by exact lO){d:eQ}(hu:P.underlying ty=some d:=by exact hM)(hd:d.isRow=true:=by rfl)(hw:Region.wanted op (yielded ops a.tmps)=true:=by rfl)(hx:a.eval (.tmp n)=.pointer (some ⟨g,0,none⟩):=by rfl):wpList P ops Q (op::rest) a w:=oz hw ty (.tmp n) ho g hx t C hb d hu hd hi h
theorem cT{op:Oper}(ty:TypeId)(n:Nat){g off:Nat}(C:Array ah)(hc:w.rangeAt g off C.toList)(h:wpList P ops Q rest (a.put op.dst (.agg C)) w)(ho:op.op=.load ty (.tmp n):=by with_reducible rfl)(hi:(P.info? ty).map (·.size)=some C.size:=by exact lO){d:eQ}(hu:P.underlying ty=some d:=by exact hM)(hd:d.isRow=true:=by rfl)(hw:Region.wanted op (yielded ops a.tmps)=true:=by rfl)(hx:a.eval (.tmp n)=.pointer (some ⟨g,off,none⟩):=by rfl):wpList P ops Q (op::rest) a w:=Po hw ty (.tmp n) ho g off hx C hc d hu hd hi h
theorem db{op:Oper}(ty:TypeId)(m n:Nat)(C':Array ah){g:Nat}{t:TypeId}{C:Array ah}(hb:aF w g t C)(h:∀w',aF w' g t C'->w.grownBy w' (some g)->wpList P ops Q rest (a.put op.dst undef) w')(ho:op.op=.store ty (.tmp m) (.tmp n):=by with_reducible rfl)(hgd:op.guard=none:=by rfl)(hi:(P.info? ty).map (·.size)=some C'.size:=by exact lO)(h1:C'.all (·.oneCell')=true:=by exact vz)(hold:C.size=C'.size:=by rfl)(hx:a.eval (.tmp m)=.pointer (some ⟨g,0,none⟩):=by rfl)(hy:a.eval (.tmp n)=.agg C':=by rfl):wpList P ops Q (op::rest) a w:=ep hgd ty (.tmp m) (.tmp n) ho g C' hx hy t C hb hi hold h1 h
theorem eh{op:Oper}{W:af}(ty:TypeId)(m n:Nat)(w:af)(C':Array ah)(t:TypeId)(C:Array ah)(h:wpList P ops Q rest (a.put op.dst undef) (w.alloc (.cells C' t)))(ho:op.op=.store ty (.tmp m) (.tmp n):=by with_reducible rfl)(hgd:op.guard=none:=by rfl)(hi:(P.info? ty).map (·.size)=some C'.size:=by exact lO)(h1:C'.all (·.oneCell')=true:=by exact vz)(hW:W=w.alloc (.cells C t):=by rfl)(hold:C.size=C'.size:=by rfl)(hx:a.eval (.tmp m)=.pointer (some ⟨w.heap.size,0,none⟩):=by rfl)(hy:a.eval (.tmp n)=.agg C':=by rfl):wpList P ops Q (op::rest) a W:=fK w hgd ty (.tmp m) (.tmp n) ho C' t C hW hx hy hi hold h1 h
theorem bB{op:Oper}(ty:TypeId){C:Array ah}(hz:∀W:af,(zeroValue ty).run P W=.ok (.agg C) W)(h:wpList P ops Q rest (a.put op.dst (.pointer (some ⟨w.heap.size,0,none⟩))) (w.alloc (.cells C ty)))(ho:op.op=.alloc ty:=by with_reducible rfl)(hgd:op.guard=none:=by rfl):wpList P ops Q (op::rest) a w:=dS hgd ty ho C hz h
theorem hs{op:Oper}(ty:TypeId)(n:Nat)(C:Array ah)(h:wpList P ops Q rest (a.put op.dst (.pointer (some ⟨w.heap.size,0,none⟩))) (w.alloc (.cells C ty)))(ho:op.op=.box ty (.tmp n):=by with_reducible rfl)(hgd:op.guard=none:=by rfl)(hx:a.eval (.tmp n)=.agg C:=by rfl):wpList P ops Q (op::rest) a w:=by refine h' hgd λ_ hK=>?_;unfold Aca Abt;simp[ho,hx,Instr.box,Value.cells,Aap];exact hK _ _ h
theorem l7{op:Oper}(ty:TypeId){C:Array ah}(hb:P.built ty []=some C)(h:wpList P ops Q rest (a.put op.dst (.agg C)) w)(ho:op.op=.build ty #[]:=by with_reducible rfl)(hw:Region.wanted op (yielded ops a.tmps)=true:=by rfl):wpList P ops Q (op::rest) a w:=k3 hw ty ho C hb h
theorem bG{fn:Func}{R:Ending->af->Prop}{p u:Tmp}{ty:TypeId}{g:Nat}{t:TypeId}{C:Array ah}{x:ah}(v:ah)(hb:aF w g t C)(hR:R (.returned v) w)(hv:v=.tuple #[.agg C,x]:=by rfl)(h:fn.results=#[.cell p ty,.tmp u]:=by rfl)(hi:(P.info? ty).map (·.size)=some C.size:=by exact lO){d:eQ}(hd:P.underlying ty=some d:=by exact hM)(hr:d.isRow=true:=by rfl)(hp:a.tmps.getD p undef=.pointer (some ⟨g,0,none⟩):=by rfl)(hu:a.tmps.getD u undef=x:=by rfl)(b':a.defers=[]:=by rfl):bodyPost P fn R .ret a w:=by subst hv;exact kF (I5 h a.tmps P w g t C x hp hu hb d hd hr hi) b' hR
end
section
variable {P:bp} {ops:Array Abn} {S:af->Prop} {a:Act} {w:af} {oi:Abn} {v:ah} {ty:Aab} {x:bU}
theorem W7{g off:Nat}{C:Array ah}{d:eQ}(hc:∀w,S w->w.rangeAt g off C.toList)(ho:oi.op=.load ty x:=by rfl)(hi:(P.info? ty).map (·.size)=some C.size:=by exact lO)(hu:P.underlying ty=some d:=by exact hM)(hd:d.isRow=true:=by rfl)(hw:Region.wanted oi (yielded ops a.tmps)=true:=by kernel_rfl)(hx:a.eval x=.pointer (some ⟨g,off,none⟩):=by kernel_rfl):YieldsIf P ops S oi (.agg C) a:=wb hw ty x ho g off hx C hc d hu hd hi
theorem yz{md:Region.Mode}{Q:Exit->Act->af->Prop}{fuel:Nat}{aZ:Array Bool}(i:Nat)(v:ah)(hi:ops[i]?=some oi)(h:wpAny P md ops Q fuel (aZ.setIfInBounds i true) (a.put oi.dst v) w)(hy:Yields P ops oi v a:=by exact .inl ⟨rfl,λ_=>rfl⟩)(hs:Region.noSelect ops=true:=by kernel_rfl)(hf:Region.free md ops aZ i=true:=by kernel_rfl)(hr:(Region.ready md ops aZ).contains i=true:=by kernel_rfl)(hQ:∀c a w,Q (.panic c) (a.put oi.dst v) w->Q (.panic c) a w:=by exact λ_ _ _ h=>h):wpAny P md ops Q (fuel+1) aZ a w:=Bi hi hs hf hr hQ hy h
end
def ZQ(P:bp)(ops:Array Abn)(op:Abn)(a a':Act)(w w':af):Prop:=∀(Q:Exit->Act->af->Prop)(rest:List Abn),Aal P ops Q rest a' w'->Aal P ops Q (op::rest) a w
section
variable {P:bp} {ops:Array Abn} {Q:Exit->Act->af->Prop} {rest:List Abn} {a a':Act} {w w':af} {op:Abn}
def Wv{ty:Aab}{n g:Nat}{t:Aab}{C:Array ah}{d:eQ}(ho:op.op=.load ty (.tmp n))(hu:P.underlying ty=some d)(hd:d.isRow=true)(hx:a.eval (.tmp n)=.pointer (some ⟨g,0,none⟩))(hb:aF w g t C)(hi:(P.info? ty).map (·.size)=some C.size)(hw:Aaa op (Aa1 ops a.tmps)=true):ZQ P ops op a (a.put op.dst (.agg C)) w w:=λ_ _ h=>oz hw ty (.tmp n) ho g hx t C hb d hu hd hi h
def Wx{ty:Aab}{n g off:Nat}{C:Array ah}{d:eQ}(ho:op.op=.load ty (.tmp n))(hu:P.underlying ty=some d)(hd:d.isRow=true)(hx:a.eval (.tmp n)=.pointer (some ⟨g,off,none⟩))(hc:w.rangeAt g off C.toList)(hi:(P.info? ty).map (·.size)=some C.size)(hw:Aaa op (Aa1 ops a.tmps)=true):ZQ P ops op a (a.put op.dst (.agg C)) w w:=λ_ _ h=>Po hw ty (.tmp n) ho g off hx C hc d hu hd hi h
def RU{ty:Aab}{C:Array ah}(ho:op.op=.alloc ty)(hz:∀W:af,(Acj ty).run P W=.ok (.agg C) W)(hgd:op.guard=none):ZQ P ops op a (a.put op.dst (.pointer (some ⟨w.heap.size,0,none⟩))) w (w.alloc (.cells C ty)):=λ_ _ h=>dS hgd ty ho C hz h
def L6{ty:Aab}{C:Array ah}(ho:op.op=.build ty #[])(hb:P.built ty []=some C)(hw:Aaa op (Aa1 ops a.tmps)=true):ZQ P ops op a (a.put op.dst (.agg C)) w w:=λ_ _ h=>k3 hw ty ho C hb h
def YY{ty:Aab}{n:Nat}{C:Array ah}(ho:op.op=.box ty (.tmp n))(hx:a.eval (.tmp n)=.agg C)(hgd:op.guard=none):ZQ P ops op a (a.put op.dst (.pointer (some ⟨w.heap.size,0,none⟩))) w (w.alloc (.cells C ty)):=λ_ _ h=>hs ty n C h ho hgd hx
def YZ{W:af}{ty:Aab}{m n:Nat}{C C':Array ah}{t:Aab}(ho:op.op=.store ty (.tmp m) (.tmp n))(hW:W=w.alloc (.cells C t))(hy:a.eval (.tmp n)=.agg C')(hx:a.eval (.tmp m)=.pointer (some ⟨w.heap.size,0,none⟩))(hi:(P.info? ty).map (·.size)=some C'.size)(hold:C.size=C'.size)(h1:C'.all (·.oneCell')=true)(hgd:op.guard=none):ZQ P ops op a (a.put op.dst Aas) W (w.alloc (.cells C' t)):=λ_ _ h=>fK w hgd ty (.tmp m) (.tmp n) ho C' t C hW hx hy hi hold h1 h
theorem arm(h:wpList P ops Q rest a' w')(s:ZQ P ops op a a' w w':=by first|exact Wv kJ hM rfl aA (by first|assumption|exact aF.up cj cj|with_reducible exact aF.new _ _ _|with_reducible exact aF.up (aF.new _ _ _) (ai _ _)|with_reducible exact aF.up (aF.up (aF.new _ _ _) (ai _ _)) (ai _ _)) KQ aA|exact Wx kJ hM rfl aA cj KQ aA|exact RU kJ (by first|assumption|with_reducible exact mQ|with_reducible exact hP|with_reducible exact iL|with_reducible exact fL|with_reducible exact pO|with_reducible exact Za|with_reducible exact Xb|with_reducible exact zW|with_reducible exact wg|with_reducible exact we|with_reducible exact Er|with_reducible exact zero_rep|with_reducible exact W8|with_reducible exact Es|with_reducible exact Sw|with_reducible exact Su|with_reducible exact Pu|with_reducible exact JL|with_reducible exact Xa|with_reducible exact zero_bookW|with_reducible exact JK|with_reducible exact Y'|with_reducible exact xm|with_reducible exact JI) aA|exact L6 kJ (by first|assumption|with_reducible exact ib|with_reducible exact sQ|with_reducible exact Af|with_reducible exact Dg|with_reducible exact De) aA|exact YY kJ aA aA|exact YZ kJ kJ aA aA KQ aA (by first|assumption|exact vz) rfl):wpList P ops Q (op::rest) a w:=s _ _ h
theorem oJ{ty:TypeId}{m n g:Nat}{t:TypeId}{C C':Array ah}(h:∀w',aF w' g t C'->w.grownBy w' (some g)->wpList P ops Q rest (a.put op.dst undef) w')(ho:op.op=.store ty (.tmp m) (.tmp n):=by with_reducible rfl)(hy:a.eval (.tmp n)=.agg C':=by rfl)(hx:a.eval (.tmp m)=.pointer (some ⟨g,0,none⟩):=by rfl)(hb:aF w g t C:=by first|assumption|exact aF.up cj cj|with_reducible exact aF.new _ _ _|with_reducible exact aF.up (aF.new _ _ _) (ai _ _)|with_reducible exact aF.up (aF.up (aF.new _ _ _) (ai _ _)) (ai _ _))(hgd:op.guard=none:=by rfl)(hi:(P.info? ty).map (·.size)=some C'.size:=by first|assumption|exact lO)(h1:C'.all (·.oneCell')=true:=by first|assumption|exact vz)(hold:C.size=C'.size:=by rfl):wpList P ops Q (op::rest) a w:=ep hgd ty (.tmp m) (.tmp n) ho g C' hx hy t C hb hi hold h1 h
end
section
variable {P:bp} {ops:Array Abn} {S:af->Prop} {a:Act} {w:af} {oi:Abn} {v:ah}
theorem ym(h:∀w,(execOp a.eval oi).run P w=.ok (.value v) w:=by intro _;go_simp;exact rfl)(hw:Region.wanted oi (yielded ops a.tmps)=true:=by kernel_rfl):YieldsIf P ops S oi v a:=rf hw h
theorem ta{md:Region.Mode}{Q:Exit->Act->af->Prop}{fuel:Nat}{aZ:Array Bool}(i:Nat)(h:wpAnyH P md ops Q S fuel (aZ.setIfInBounds i true) (a.put oi.dst v) w)(hi:ops[i]?=some oi:=by rfl)(hy:YieldsIf P ops S oi v a:=by exact ym)(hS:S w:=by first|assumption|exact Up.refl _|exact trivial)(hs:Region.noSelect ops=true:=by kernel_rfl)(hf:Region.free md ops aZ i=true:=by kernel_rfl)(hr:(Region.ready md ops aZ).contains i=true:=by kernel_rfl)(hQ:∀c a w,Q (.panic c) (a.put oi.dst v) w->Q (.panic c) a w:=by exact λ_ _ _ h=>h):wpAnyH P md ops Q S (fuel+1) aZ a w:=wpAnyH_take hi hs hf hr hQ hy hS h
theorem tb{md:Region.Mode}{Q:Exit->Act->af->Prop}{fuel:Nat}{aZ:Array Bool}(i:Nat)(hi:ops[i]?=some oi)(hy:YieldsIf P ops S oi v a)(h:wpAnyH P md ops Q S fuel (aZ.setIfInBounds i true) (a.put oi.dst v) w)(hS:S w:=by first|assumption|exact Up.refl _|exact trivial)(hs:Region.noSelect ops=true:=by kernel_rfl)(hf:Region.free md ops aZ i=true:=by kernel_rfl)(hr:(Region.ready md ops aZ).contains i=true:=by kernel_rfl)(hQ:∀c a w,Q (.panic c) (a.put oi.dst v) w->Q (.panic c) a w:=by exact λ_ _ _ h=>h):wpAnyH P md ops Q S (fuel+1) aZ a w:=wpAnyH_take hi hs hf hr hQ hy hS h
end
theorem ok{P:bp}{Q:Exit->Act->af->Prop}{S:af->Prop}{aZ:Array Bool}{a:Act}{w:af}(i:Nat)(h:∀K:Act->af->Prop,(∀a w,S w->wpAnyH P md ops Q S fuel (aZ.setIfInBounds i true) a w->K a w)->o.wp P a w K Q)(hi:ops[i]?=some o:=by rfl)(hr:Region.ready md ops aZ=[i]:=by kernel_rfl)(hw:Region.wanted o (yielded ops a.tmps)=true:=by rfl):wpAnyH P md ops Q S (fuel+1) aZ a w:=re i hr hi hw h
theorem dn{P:bp}{Q:Exit->Act->af->Prop}{S:af->Prop}{aZ:Array Bool}{a:Act}{w:af}(h:Q .normal a w)(hr:Region.ready md ops aZ=[]:=by kernel_rfl):wpAnyH P md ops Q S fuel aZ a w:=yO hr h _
theorem hg(l:List α)(k:Nat)(h:k<κ l):l.take (k+1)=l.take k++[l[k]]:=aq
def aZ(n:Nat):Nat->List aj
 | 0=>[]
 | w+1=>Ab6 (n%256)::aZ (n/256) w
def bn:List aj->Nat
 | []=>0
 | c::r=>c.toNat+256*bn r
theorem bx(w:Nat):∀n,κ (aZ n w)=w:=by
 induction w with
 | zero=>exact λ_=>rfl
 | succ w ih=>grind [aZ]
theorem CS(k:Nat):∀n,aZ n (k+1)=aZ n k++[Ab6 (n/256 ^ k%256)]:=by
 induction k with
 | zero=>simp[aZ]
 | succ k ih=>intro n;rw[aZ,ih (n/256),aZ,Aa2,Nat.div_div_eq_div_mul,yT,uI 256]
theorem Hg(n:Nat):(Ab6 (n%256)).toNat=n%256:=aq
theorem hc(w:Nat):∀n,n<256 ^ w->bn (aZ n w)=n:=by
 induction w with
 | zero=>decide
 | succ w ih=>grind [aZ,bn,Hg]
theorem oh:∀l:List aj,bn l<256 ^ (κ l)
 | []=>by simp[bn]
 | c::r=>by have:=oh r;have hc:c.toNat<256:=c.toNat_lt;rw[bn,Aaj,yT];omega
theorem vt:∀l:List aj,aZ (bn l) (κ l)=l
 | []=>rfl
 | c::r=>by
  have hc:c.toNat<256:=c.toNat_lt;rw[bn,Aaj,aZ];have e1:(c.toNat+256*bn r)%256=c.toNat:=ae
  have e2:(c.toNat+256*bn r)/256=bn r:=ae
  rw[e1,e2,vt r];congr 1;exact UInt8.toNat_inj.1 (UInt8.toNat_ofNat_of_lt' (by show c.toNat<256;omega))
theorem sB:∀(l m:List aj),bn (l++m)=bn l+256 ^ (κ l)*bn m
 | [],m=>by simp[bn]
 | c::r,m=>by rw[Aa2,bn,sB r m,bn,Aaj,yT,Nat.mul_add,yU,<-Nat.mul_assoc,uI 256 (256 ^ (κ r))]
theorem IL(l:List aj)(c:aj):bn (l++[c])=bn l+256 ^ (κ l)*c.toNat:=by simp[sB,bn]
def yv(ws:List Int):Prop:=∀w∈ws,1<=w/\w<=8
instance(ws:List Int):Decidable (yv ws):=by unfold yv;infer_instance
def total(ws:List Int):Nat:=(ws.map Adp).sum
theorem mK(w:Int)(ws:List Int):total (w::ws)=w.toNat+total ws:=aA
theorem vW(a b:List Int):total (a++b)=total a+total b:=by simp[total]
theorem Cp{ws:List Int}(h:yv ws):total ws<=8*κ ws:=by
 induction ws with
 | nil=>decide
 | cons w ws ih=>have:=ih (λx hx=>h x (bt _ hx));have:=h w (df ..);grind [mK]
theorem pT(ws:List Int)(k:Nat)(h:k<κ ws):total (ws.take (k+1))=total (ws.take k)+ws[k].toNat:=by grind [hg,vW,total]
def fits:List Int->List Nat->Prop
 | w::ws,n::ns=>n<256 ^ w.toNat/\fits ws ns
 | _,_=>True
instance XG:(ws:List Int)->(ns:List Nat)->Decidable (fits ws ns)
 | [],_=>.isTrue trivial
 | _::_,[]=>.isTrue trivial
 | w::ws,n::ns=>by unfold fits;have:=XG ws ns;infer_instance
def aW:List Int->List Nat->List aj
 | w::ws,n::ns=>aZ n w.toNat++aW ws ns
 | _,_=>[]
def nB(ws:List Int)(ns:List Nat):Prop:=κ ws=κ ns/\yv ws/\fits ws ns
instance(ws:List Int) (ns:List Nat):Decidable (nB ws ns):=by unfold nB;infer_instance
theorem H0:∀(ws:List Int)(ns:List Nat),fits ws ns↔∀i(h1:i<κ ws)(h2:i<κ ns),ns[i]<256 ^ ws[i].toNat
 | [],ns=>⟨λ_ i h1=>absurd h1 (Fb i),λ_=>trivial⟩
 | _::_,[]=>⟨λ_ i _ h2=>absurd h2 (Fb i),λ_=>trivial⟩
 | w::ws,n::ns=>by
  rw[fits,H0 ws ns];constructor
  ·rintro⟨h0,h⟩ i h1 h2;cases i with
   | zero=>exact h0
   | succ i=>exact h i (by simpa using h1) (by simpa using h2)
  ·intro h;exact⟨h 0 aq aq,λi h1 h2=>h (i+1) (by simpa using h1) (by simpa using h2)⟩
theorem pR:∀(ws:List Int)(ns:List Nat),κ ws=κ ns->κ (aW ws ns)=total ws
 | [],[],_=>rfl
 | w::ws,n::ns,h=>by rw[aW,Aaf,bx,pR ws ns jR,mK]
theorem pQ:∀(ws:List Int)(ns:List Nat)(aa:List Int)(ab:List Nat),κ ws=κ ns->aW (ws++aa) (ns++ab)=aW ws ns++aW aa ab
 | [],[],_,_,_=>rfl
 | w::ws,n::ns,aa,ab,h=>by rw[Aa2,Aa2,aW,pQ ws ns aa ab jR,aW,Aa9]
theorem tE(ws:List Int)(ns:List Nat)(k:Nat)(h1:k<κ ws)(h2:k<κ ns):aW (ws.take (k+1)) (ns.take (k+1))=aW (ws.take k) (ns.take k)++aZ ns[k] ws[k].toNat:=by grind [hg,pQ,aW]
def c8:List Int->List aj->List Nat
 | [],_=>[]
 | w::ws,b=>bn (b.take w.toNat)::c8 ws (b.drop w.toNat)
def BJ(ws:List Int)(b:List aj):Prop:=yv ws/\(κ b)=total ws
instance(ws:List Int) (b:List aj):Decidable (BJ ws b):=by unfold BJ;infer_instance
theorem qf:∀(ws:List Int)(b:List aj),κ (c8 ws b)=κ ws
 | [],_=>rfl
 | w::ws,b=>by simp[c8,qf ws]
theorem qe:∀(ws aa:List Int)(b:List aj),c8 (ws++aa) b=c8 ws b++c8 aa (b.drop (total ws))
 | [],aa,b=>by simp[c8,total]
 | w::ws,aa,b=>by rw[Aa2,c8,c8,qe ws aa,Ac4,mK,Aa2]
theorem ux(ws:List Int)(b:List aj)(k:Nat)(h:k<κ ws):c8 (ws.take (k+1)) b=c8 (ws.take k) b++[bn ((b.drop (total (ws.take k))).take ws[k].toNat)]:=by grind [hg,qe,c8]
theorem Pa:∀(ws:List Int)(b:List aj),κ b=total ws->aW ws (c8 ws b)=b
 | [],b,h=>by simp[total]at h;subst h;rfl
 | w::ws,b,h=>by
  rw[mK]at h;rw[c8,aW,Pa ws _ ab];have hl:κ (b.take w.toNat)=w.toNat:=ab
  conv=>lhs;lhs;rw[<-hl,ez,Nat.min_eq_left ae]
  have:=vt (b.take w.toNat);rw[hl]at this;rw[this,fQ]
theorem rm:∀(ws:List Int)(ns:List Nat),κ ws=κ ns->fits ws ns->c8 ws (aW ws ns)=ns
 | [],[],_,_=>rfl
 | w::ws,n::ns,h,hf=>by rw[fits]at hf;rw[aW,c8,h5 (bx _ _),lB (bx _ _),hc _ _ hf.1,rm ws ns jR hf.2]
theorem eX:(prog.info? 5).map (λi=>(i.zero,i.size,i.bytes))=some (some (.int .u8 0),1,1):=al
theorem uz:(prog.info? 70).map (λi=>(i.zero,i.size,i.bytes))=some (some (.int .u64 0),1,8):=al
theorem AX:(prog.info? 3).map (λi=>(i.zero,i.size,i.bytes))=some (some (.int .i64 0),1,8):=al
def SR(ws:List Int)(e:Ab2):Prop:=(yv ws/\e=.returned (.tuple #[.int .i64 (total ws:Nat),.bool true]))\/(¬yv ws/\e=.returned (.tuple #[.int .i64 0,.bool false]))
theorem I'(w:af)(v:ah)(ws:List Int)(h:aD bC w v ws)(hlen:κ ws*8<=140737488351232):Aae Aag 237 #[v] w λe w'=>SR ws e/\w=w':=by
 obtain⟨a,cap,rfl⟩:=h.slice;go_in;go_wp2_with fail;go_loop [4,9] (λs i=>∃k:Nat,k<=κ ws/\i=i6 k/\s=i6 (total (ws.take k):Nat)/\yv (ws.take k)) (λ_ i=>κ ws-(Aau i).toNat)
 case atStart=>exact⟨0,bT _,rfl,rfl,by intro x hx;simp at hx⟩
 case round=>
  obtain⟨k,hk,rfl,rfl,ak⟩:=hrel;have aH:=Cp ak;have aO:κ (ws.take k)<=k:=yV _ _;by_cases hlt:k<κ ws
  ·obtain⟨b,off,rfl,_,hc⟩:=cg h rfl ae;have al:=hc k hlt;unfold bC at al;have aJ:=pT ws k hlt;have ag:ws[k]∈ws:=cw hlt;have ad:1<=ws[k]/\ws[k]<=8->yv (ws.take (k+1)):=by
    intro h1 x hx;rw[hg ws k hlt]at hx;rcases Aa8.1 hx with hx|hx
    ·exact ak x hx
    ·simp_all
   clear hc;generalize hx:ws[k]=x at *;obtain⟨aL,ai,aa,aY⟩:=bW ag aJ ad ak;by_cases h1:x<1
   ·exact NV
   by_cases h8:8<x
   ·exact NV
   obtain⟨y,rfl⟩:=ji (show 0<=x from ae);generalize total (ws.take k)=tk at *;go_wp2_with fail;all_goals
    go_round
    case rel=>exact⟨k+1,ae,gO,ab,aa ⟨ae,ae⟩⟩
    case measure=>simp[Aau];omega
  ·obtain rfl:k=κ ws:=by omega
   rw[fF]at *;go_wp2;go_ret2;exact⟨.inl ⟨ak,rfl⟩,rfl⟩
theorem dC:prog.underlying 30=some (.slice (prog.elem 30)):=al
theorem dD(W:af):(sizeOf (prog.elem 30)).run Aag W=.ok 1 W:=al
theorem drop_cons(l:List α)(i:Nat)(h:i<κ l):l.drop i=l[i]::l.drop (i+1):=aq
theorem BH(l:List aj)(h:κ l<=8):bn l<18446744073709551616:=by have h1:=oh l;have h2:(256:Nat) ^ (κ l)<=256 ^ 8:=Fc ae h;omega
theorem Jt(ws:List Int)(k:Nat)(h:k<κ ws):total ws=total (ws.take k)+ws[k].toNat+total (ws.drop (k+1)):=by
 conv=>lhs;rw[<-fQ k ws,vW,drop_cons ws k h,mK]
 omega
theorem IM(n c k:Nat)(h:n<256 ^ k):n ||| (c*2 ^ (8*k))=n+256 ^ k*c:=by
 have h2:(2:Nat) ^ (8*k)=256 ^ k:=by rw[yW]
 have h3:=Nat.shiftLeft_add_eq_or_of_lt (b:=n) (i:=8*k) ae c;rw[Nat.shiftLeft_eq,h2]at h3;grind
theorem uy(w:af)(v:ah)(ws:List Int)(hv:aD bC w v ws)(hlen:κ ws*8<=140737488351232)(u:ah)(b:List aj)(hu:a8 w u b)(ak:BJ ws b):Aae Aag 177 #[v,u] w λe w'=>∃v,e=.returned (.tuple #[v,.int .i64 0])/\Own cr 70 w' w.heap.size v (c8 ws b)/\Up w w':=by
 obtain⟨aL,heq⟩:=ak;have aB:=hu.length_le;have HR:=an (I' w v ws hv hlen);obtain⟨a,cap,rfl⟩:=hv.slice;obtain⟨a2,ax,rfl⟩:=hu.slice;have ht:((κ b:Int) != (total ws:Int))=false:=ab
 have mk:=kR (P:=Aag) 156 70 (u6 0) 8 underlying156 uz (κ ws) ae ae;obtain⟨bc,ar⟩:=aw heq aL;clear heq;go_in;go_wp2_with fail;refine HR.mono ?_;rintro e w1⟨⟨_,rfl⟩|⟨hh,_⟩,rfl⟩
 case inr=>exact absurd ar hh
 clear aL;go_wp2_with fail;go_loopw [1,8,31] (λy x i wr=>∃k:Nat,k<=κ ws/\i=i6 k/\(∃a' c',y=.slice a' (κ b-total (ws.take k)) c'/\(κ b)-total (ws.take k)<=c'/\a8 w (.slice a' (κ b-total (ws.take k)) c') (b.drop (total (ws.take k))))/\Own cr 70 wr w.heap.size x (c8 (ws.take k) b)/\Up w wr) (λ_ _ i _=>κ ws-(Aau i).toNat)
 case atStart=>
  refine⟨0,bT _,rfl,⟨a2,ax,aA,?_,cj⟩,Own.room cr _ w _ _ _ (aE _) ae,ai _ _⟩;rcases hu with⟨hb,a',c',h1,_⟩|⟨bb,oo,cc,h1,_,h2,_⟩
  ·grind
  ·grind
 case round=>
  obtain⟨k,hk,rfl,⟨a',c',rfl,aP,hrest⟩,hown,upr⟩:=hrel;obtain⟨wo,rfl⟩:∃wo:af,wo=wr:=⟨_,rfl⟩;have aV:=qf (ws.take k) b;have aU:κ (ws.take k)<=k:=yV _ _;by_cases hlt:k<κ ws
  ·obtain⟨bb,off,rfl,_,hc⟩:=cg hv rfl ae;have d1:=upr.cell (hc k hlt);unfold bC at d1;obtain⟨aJ,aY,bd,a1⟩:=iv (pT ws k hlt) (Jt ws k hlt) (ux ws b k hlt) (ar _ (cw hlt));clear hc;generalize ws[k]=x at *;obtain⟨m,rfl⟩:=ji (show 0<=x from ae);simp only[Abp]at aJ aY bd;have bg:κ (c8 (ws.take k) b)<=k:=by omega
   have aC:=bc.out;have ao:m<=κ b-total (ws.take k):=ae
   have aM:κ (b.drop (total (ws.take k)))=κ b-total (ws.take k):=aq
   have ay:b.drop (total (ws.take (k+1)))=(b.drop (total (ws.take k))).drop m:=ab
   have aO:κ b-total (ws.take (k+1))=κ b-total (ws.take k)-m:=ae
   generalize b.drop (total (ws.take k))=r at *;generalize (κ b)-total (ws.take k)=rl at *;generalize c8 (ws.take k) b=gn at *;obtain⟨ba,bf,be,a7⟩:=bW ay aO bd aM;clear ay aO bd aJ aY aV aU aC aM;obtain⟨b3,o3,aS,_,aa⟩:=cg hrest a7.symm di;subst aS;have aI:=dg (P:=Aag) 30 dC dD (some ⟨b3,o3,none⟩) rl c' m ao;have aT:=hrest.piece (lo:=m) (hi:=rl) ae di;rw[show r.take rl=r from dq di]at aT;have a6:=an aa;clear aa;go_wp2_with fail;go_loop [11,36] (λn i=>∃j:Nat,j<=m/\i=i6 j/\n=u6 (bn (r.take j):Nat)) (λ_ i=>m-(Aau i).toNat)
   case atStart=>exact⟨0,bT _,rfl,rfl⟩
   case round=>
    obtain⟨j,hj,rfl,rfl⟩:=hrel;by_cases aQ:j<m
    ·have aZ:j<κ r:=by simp only[Hid]at *;omega
     have d3:=upr.cell (a6 j aZ);unfold aK at d3;have aH:κ (r.take j)=j:=ab
     have ad:bn (r.take (j+1))=bn (r.take j)+256 ^ j*r[j].toNat:=by rw[hg r j aZ,IL,aH]
     have aF:bn (r.take j)<256 ^ j:=by have:=oh (r.take j);rwa [aH]at this
     have bh:r[j].toNat<256:=r[j].toNat_lt;obtain⟨bj,aW⟩:=az (BH (r.take (j+1)) ab) (IM (bn (r.take j)) r[j].toNat j aF);generalize aP:r[j].toNat=c at *;have hmul:c*2 ^ (8*j)<18446744073709551616:=by
      have:c*2 ^ (8*j)=256 ^ j*c:=by rw[show(2:Nat) ^ (8*j)=256 ^ j from by rw[yW],uI]
      omega
     have ag:bn (r.take j)<18446744073709551616:=ae
     generalize bn (r.take j)=x at *;have e1:IntKind.u64.wrap ((c:Int)*2 ^ (8*j))=((c*2 ^ (8*j):Nat):Int):=by rw[show((c:Int)*2 ^ (8*j))=((c*2 ^ (8*j):Nat):Int)from aq];exact IntWalk.u64_in _ ae
     have e2:bits .or .u64 (x:Int) ((c*2 ^ (8*j):Nat):Int)=((x+256 ^ j*c:Nat):Int):=by rw[u64_or_nat _ _ ag hmul,aW]
     generalize hz:c*2 ^ (8*j)=z at *;generalize hy:x+256 ^ j*c=y at *;obtain⟨aX,Hz⟩:=aw ad hz;go_wp2;go_round
     case rel=>exact⟨j+1,ae,gO,ab⟩
     case measure=>simp[Aau];omega
    ·obtain rfl:j=m:=by omega
     have aR:=BH (r.take j) ab;generalize aN:bn (r.take j)=nv at *;go_wp2_with(at_builtin;refine bu cr q2 rfl (.tmp 50) (.tmp 52) 156 rfl w.heap.size 70 (u6 0) 8 underlying156 uz rfl _ _ rfl (hown.up (ai wo _)) (cD wo.heap.size 1 1) [nv] rfl (aD.lit wo #[u6 (nv:Int)] 70 (0,0) [nv] 1 rfl av rfl) ab ab ((upr.alloc _).size) ?_);intro v' w4 al _ au;go_wp2_with fail;go_roundw
     case rel=>exact⟨k+1,ae,gO,by rw[bf.out,ba.out];exact⟨_,_,rfl,ae,aT⟩,by rw[be.out];exact al,(upr.alloc _).aG au (aE _)⟩
     case measure=>simp[Aau];omega
  ·obtain rfl:k=κ ws:=by omega
   rw[fF]at hown;go_wp2;exact zD
structure au where
 loc:Int
 aU:Nat
 sum:Nat
deriving DecidableEq
def au.wf(p:au):Prop:=(-9223372036854775808<=p.loc/\p.loc<=9223372036854775807)/\p.aU<18446744073709551616/\p.sum<4294967296
def hole:au:=⟨0,0,0⟩
def fI(p:au):ah:=.agg #[.int .i64 p.loc,.int .u64 (p.aU:Int),.int .u32 (p.sum:Int)]
def cA(p:au):Bool:=decide (p=hole) || (decide (4<=p.loc) && decide (p.loc<1024) && decide (1<=p.aU) && decide (p.aU<=281474976710655))
def dA(p q:au):Bool:=if p.aU≠q.aU then decide (p.aU<q.aU)else if p.loc≠q.loc then decide (p.loc<q.loc)else decide (p.sum<q.sum)
def fj(p:au)(s:Nat):Bool:=decide (p≠hole) && decide (s<p.aU)
def kk(b:Bool)(w:af)(e:Ab2)(w':af):Prop:=e=.returned (.bool b)/\Up w w'
theorem YC{x b:Bool}(h:x=true↔b=true):Ending.returned (.bool x)=.returned (.bool b):=aa
theorem wv(l:Int)(b s:Nat):cA ⟨l,b,s⟩=true↔(l=0/\b=0/\s=0)\/(4<=l/\l<1024/\1<=b/\b<=281474976710655):=by grind [cA,hole]
theorem rC(l l2:Int)(b s b2 s2:Nat):dA ⟨l,b,s⟩ ⟨l2,b2,s2⟩=true↔b<b2\/(b=b2/\(l<l2\/(l=l2/\s<s2))):=by grind [dA]
theorem Cc(l:Int)(b s n:Nat):fj ⟨l,b,s⟩ n=true↔¬(l=0/\b=0/\s=0)/\n<b:=by grind [fj,hole]
theorem oj(w:af)(p:au):Aae Aag 236 #[fI p] w λe w'=>kk (cA p) w e w':=by
 obtain⟨l,b,s⟩:=p;unfold fI;go_in;go_wp2_with fail;all_goals
  go_ret;refine⟨?_,ai _ _⟩;refine YC ?_;rw[wv];exact Gb
theorem uE(w:af)(p q:au):Aae Aag 224 #[fI p,fI q] w λe w'=>kk (dA p q) w e w':=by
 obtain⟨l,b,s⟩:=p;obtain⟨l2,b2,s2⟩:=q;unfold fI;go_in;go_wp2_with fail;all_goals
  go_ret;refine⟨?_,(ai _ _).alloc _⟩;refine YC ?_;rw[rC];exact Gb
theorem D8(w:af)(p:au)(n:Nat):Aae Aag 119 #[fI p,.int .u64 (n:Int)] w λe w'=>kk (fj p n) w e w':=by
 obtain⟨l,b,s⟩:=p;unfold fI;go_in;go_wp2_with fail;all_goals
  go_ret;refine⟨?_,ai _ _⟩;refine YC ?_;rw[Cc];exact Gb
theorem Wi{x m:Nat}(h:x<256 ^ m):x/2 ^ (8*m)=0:=by rw[show(2:Nat) ^ (8*m)=256 ^ m from by rw[yW]];simp;omega
theorem ps(w:af)(v:ah)(ws:List Int)(hv:aD bC w v ws)(hlen:κ ws*8<=140737488351232)(u:ah)(ns:List Nat)(hu:aD cr w u ns)(aj:∀n∈ns,n<18446744073709551616)(ak:nB ws ns):Aae Aag 240 #[v,u] w λe w'=>∃v,e=.returned (.tuple #[v,.int .i64 0])/\Own aK 5 w' w.heap.size v (aW ws ns)/\Up w w':=by
 have aY:=an ak;obtain⟨heq,aL,aX⟩:=ak;have HF:=an ((H0 ws ns).1 aX);clear aX;have aU:=hu.length_le;have HR:=an (I' w v ws hv hlen);obtain⟨a,cap,rfl⟩:=hv.slice;obtain⟨a2,ax,rfl⟩:=hu.slice;have aH:=Cp aL;obtain⟨len,hl⟩:=bE (κ ws);rw[<-heq]at hu aU ⊢;rw[<-hl]at hv hu hlen aU aH HR ⊢;have ht:((len:Int) != (len:Int))=false:=aq
 have aB:len=κ ns:=hl.trans heq;obtain⟨Hl,Hl2,ar⟩:=aV hl aB aL;clear hl aB heq;have aT:=an aj;clear aj;have mk:=kR (P:=Aag) 30 5 (.int .u8 0) 1 Aa0 eX (total ws) ae ae;go_in;go_wp2_with fail;refine HR.mono ?_;rintro e w1⟨⟨_,rfl⟩|⟨hh,_⟩,rfl⟩
 case inr=>exact absurd ar hh
 clear aL;go_wp2_with fail;go_loop [30] (λi=>∃k:Nat,k<=len/\i=i6 k) (λi=>len-(Aau i).toNat)
 case atStart=>exact⟨0,bT _,rfl⟩
 case round=>
  obtain⟨k,hk,rfl⟩:=hrel;by_cases hlt:k<len
  ·have k1:k<κ ws:=by simp only[Hid]at *;omega
   have k2:k<κ ns:=di
   obtain⟨b,off,rfl,_,hc⟩:=cg hv Hl ae;obtain⟨b2,aF,rfl,_,al⟩:=cg hu Hl2 ae;obtain⟨d1,d2⟩:=az (hc k k1) (al k k2);unfold bC at d1;unfold cr at d2;have a7:ns[k]<18446744073709551616:=aT _ (cw k2);obtain⟨a1,hf⟩:=az (ar _ (cw k1)) (HF k k1 k2);clear hc al;generalize ws[k]=x at *;generalize ns[k]=y at *;obtain⟨m,rfl⟩:=ji (show 0<=x from ae);simp only[Abp]at hf;have hz:=Wi hf;have e1:((y:Int)/2 ^ (8*m))=0:=aQ
   have e2:(((y:Int)/2 ^ (8*m)) != 0)=false:=ab
   clear hf hz e1;go_wp2_with fail;go_round
   case rel=>exact⟨k+1,ae,gO⟩
   case measure=>simp[Aau];omega
  ·obtain rfl:k=len:=by omega
   go_wp2_with fail;go_loopw [10,48] (λx i wr=>∃j:Nat,j<=k/\i=i6 j/\Own aK 5 wr w.heap.size x (aW (ws.take j) (ns.take j))/\Up w wr) (λ_ i _=>k-(Aau i).toNat)
   case atStart=>exact⟨0,bT _,rfl,Own.room aK _ w _ _ _ (aE _) ae,ai _ _⟩
   case round=>
    obtain⟨j,hj,rfl,hown,upr⟩:=hrel;obtain⟨wo,rfl⟩:∃wo:af,wo=wr:=⟨_,rfl⟩;by_cases hlt:j<k
    ·have k1:j<κ ws:=by simp only[Hid]at *;omega
     have k2:j<κ ns:=di
     obtain⟨b,off,rfl,_,hc⟩:=cg hv Hl ae;obtain⟨b2,aF,rfl,_,al⟩:=cg hu Hl2 ae;obtain⟨d1,d2⟩:=az (upr.cell (hc j k1)) (upr.cell (al j k2));unfold bC at d1;unfold cr at d2;have ag:=tE ws ns j k1 k2;have a7:ns[j]<18446744073709551616:=aT _ (cw k2);have a1:=ar _ (cw k1);have bL:κ (aW (ws.take j) (ns.take j))<=8*j:=by rw[pR _ _ ab];have:=Cp (ws:=ws.take j) (λx hx=>ar x (s9 hx));simp at this;omega
     clear hc al;generalize ws[j]=x at *;generalize ns[j]=y at *;obtain⟨m,rfl⟩:=ji (show 0<=x from ae);simp only[Abp]at ag;generalize aW (ws.take j) (ns.take j)=pb at *;have aN:=an ag;clear ag;go_wp2_with fail;go_loopw [10,57] (λx i wr=>∃i':Nat,i'<=m/\i=i6 i'/\Own aK 5 wr w.heap.size x (pb++aZ y i')/\Up w wr) (λ_ i _=>m-(Aau i).toNat)
     case atStart=>exact⟨0,bT _,rfl,by simpa[aZ]using hown,upr⟩
     case round=>
      obtain⟨i',aC,rfl,ad,au⟩:=hrel;have ao:=bx i' y;by_cases aO:i'<m
      ·have aJ:=CS i' y;have hle:y/2 ^ (8*i')<=y:=Nat.div_le_self _ _;have aR:=Hg (y/256 ^ i');have aI:y/2 ^ (8*i')=y/256 ^ i':=by rw[show(2:Nat) ^ (8*i')=256 ^ i' from by rw[yW]]
       obtain⟨c,hc⟩:=bE (Ab6 (y/256 ^ i'%256));rw[<-hc]at aJ aR;have e1:IntKind.u8.wrap ((y:Int)/2 ^ (8*i'))=(c.toNat:Int):=by
        have h:(y:Int)/2 ^ (8*i')=((y/2 ^ (8*i'):Nat):Int):=aA
        rw[h,aR,Fe,aI];omega
       generalize aa:aZ y i'=nb at *;obtain⟨aM,a6⟩:=aw aJ ao;have a8:κ nb<=8:=ae
       clear aJ aR aI hc aa ao;go_wp2_with(at_builtin;refine bu aK cy rfl (.tmp 60) (.tmp 66) 30 rfl w.heap.size 5 (.int .u8 0) 1 Aa0 eX rfl _ _ rfl (ad.up (ai wr _)) (cD wr.heap.size 1 1) [c] rfl (aD.lit wr #[.int .u8 (c.toNat:Int)] 5 (0,0) [c] 1 rfl av rfl) ab ab ((au.alloc _).size) ?_);intro v' w3 ay _ aP;go_wp2_with fail;go_roundw
       case rel=>exact⟨i'+1,ae,gO,by rw[aM.out];exact ay,(au.alloc _).aG aP (aE _)⟩
       case measure=>simp[Aau];omega
      ·obtain rfl:i'=m:=by omega
       clear ao;generalize aa:aZ y i'=nb at *;have aS:=an aa;clear aa;go_wp2_with fail;go_roundw
       case rel=>exact⟨j+1,ae,gO,by rw[aN.out];exact ad,au⟩
       case measure=>simp[Aau];omega
    ·obtain rfl:j=k:=by omega
     have e1:ws.take j=ws:=dq di;have e2:ns.take j=ns:=dq di;rw[e1,e2]at hown;clear e1 e2;go_wp2_with fail;exact zD
theorem du(w:af)(cs:Array ah)(t:Aab)(fr:Nat × Nat)(i:Nat)(v:ah)(h:cs[i]?=some v):(w.alloc (.cells cs t fr)).cell? ⟨w.heap.size,i,none⟩=some v:=by refine Gt ?_;intro hh;unfold Aco;simp_all
theorem Own.wA{f:α->ah}{f':β->ah}{e e':Aab}{w w' w0:af}{v v':ah}{xs:List α}{ys:List β}(h:Own f e w base v xs)(h2:Own f' e' w0 base' v' ys)(hb:w0.heap.size<=base)(hg:w.grownBy w' v'.ownBlock):Own f e w' base v xs:=by
 refine s8 h hg ?_;cases ho:v.ownBlock with
 | none=>simp
 | some k=>right;intro heq;obtain⟨h3,h4⟩:=az ((h.aJ k ho).1) ((h2.aJ k heq.symm).2);omega
theorem dT(n:Nat)(h:n<18446744073709551616):IntKind.u64.wrap (n:Int)=(n:Int):=by exact zC
def kh:List Int:=[4,8,4]
def BX(p:au):List Nat:=[p.loc.toNat,p.aU,p.sum]
def bR(p:au):List aj:=aW kh (BX p)
theorem H9{l:Int}{b s:Nat}(h:cA ⟨l,b,s⟩=true):∃n:Nat,l=n/\n<1024:=by rw[wv]at h;exact⟨l.toNat,ae,ae⟩
theorem DR(n b s:Nat)(h1:n<1024)(h2:b<18446744073709551616)(h3:s<4294967296):nB kh [n,b,s]:=by
 refine⟨rfl,?_,?_⟩
 ·decide
 ·grind [kh,fits]
theorem CA(w:af):Aae Aag 235 #[] w λe w'=>e=.returned (cD w.heap.size 3 3)/\w'=w.alloc (.cells #[i6 4,i6 8,i6 4] 3 (0,0)):=by go_in;exact e3
def It{f:α->ah}(w:af)(B:Obj)(cs:Array ah)(t:Aab)(fr:Nat × Nat)(l:List α)(n b:Nat)(hb:b=w.heap.size)(hn:n=κ l)(hm:n<=maxLen)(aC:cs.toList=l.map f):aD f ((w.alloc (.cells cs t fr)).alloc B).drew (.slice (some ⟨b,0,none⟩) n n) l:=(aD.ew w b hb cs t fr l n hn hm aC).up ((ai _ _).drew)
def vV{f:α->ah}(w:af)(B:Obj)(cs:Array ah)(t:Aab)(fr:Nat × Nat)(l:List α)(n b:Nat)(hb:b=(w.alloc B).heap.size)(hn:n=κ l)(hm:n<=maxLen)(aC:cs.toList=l.map f):aD f ((w.alloc B).alloc (.cells cs t fr)).drew (.slice (some ⟨b,0,none⟩) n n) l:=(aD.ew _ b hb cs t fr l n hn hm aC).up ((Up.refl _).drew)
theorem mJ:3<=maxLen:=av
def MQ{w1 w':af}{a b c:Adr}{x y z:ah}(h0:w1.cell? a=some x)(h1:w1.cell? b=some y)(h2:w1.cell? c=some z)(h:Up w1 w'):Up w1 w'/\w'.cell? a=some x/\w'.cell? b=some y/\w'.cell? c=some z:=⟨h,h.cell h0,h.cell h1,h.cell h2⟩
def SO(p:au)(w:af)(e:Ab2)(w':af):Prop:=(cA p=true/\∃v,e=.returned (.tuple #[v,.int .i64 0])/\Own aK 5 w' w.heap.size v (bR p)/\Up w w')\/(cA p=false/\e=.returned (.tuple #[.slice none 0 0,.int .i64 51])/\Up w w')
theorem n5(w:af)(p:au)(hp:p.wf):Aae Aag 221 #[fI p] w λe w'=>SO p w e w':=by
 obtain⟨l,b,s⟩:=p;obtain⟨h1,h2,h3⟩:=hp;simp only at h1 h2 h3;have HR:=an (λw0=>oj w0 ⟨l,b,s⟩);unfold fI at *;by_cases hg:cA ⟨l,b,s⟩=true
 case neg=>
  have aa:cA ⟨l,b,s⟩=false:=aQ
  rw[aa]at HR;go_in;go_wp2_with fail;refine(HR _).mono ?_;rintro e w1⟨rfl,up1⟩;go_wp2;go_ret2;exact .inr ⟨aa,rfl,(ai _ _).trans up1⟩
 obtain⟨n,rfl,hn⟩:=H9 hg;rw[hg]at HR;go_in;go_wp2_with fail;refine(HR _).mono ?_;rintro e w1⟨rfl,up1⟩;have c0:w1.cell? (ad w.heap.size 0)=some (i6 n):=up1.cell (du w _ _ _ 0 _ rfl);have c1:w1.cell? (ad w.heap.size 1)=some (u6 b):=up1.cell (du w _ _ _ 1 _ rfl);have c2:w1.cell? (ad w.heap.size 2)=some (.int .u32 s):=up1.cell (du w _ _ _ 2 _ rfl);obtain⟨ar,s1⟩:=az ((ai w _).trans up1) up1.size;go_wp2;have wn:=dT n ae;obtain⟨ws,hi⟩:=az (dT s ae) ar;go_region_held3 (λw'=>Up w1 w'/\w'.cell? (ad w.heap.size 0)=some (i6 n)/\w'.cell? (ad w.heap.size 1)=some (u6 b)/\w'.cell? (ad w.heap.size 2)=some (.int .u32 s))
  ((refine MQ c0 c1 c2 ?_;(first|(refine Up.trans ?_ up4;(repeat(first|exact Up.refl _|apply Up.alloc|apply Up.drew));done)|((repeat(first|exact Up.refl _|apply Up.alloc|apply Up.drew));done))))
  ((first
   | (go_at_call 235;refine(CA _).mono ?_;rintro e w2 ⟨rfl,rfl⟩)
   | (go_at_call 240;refine(ps _ _ kh (by first | exact It w1 _ #[i6 4,i6 8,i6 4] 3 _ kh 3 _ rfl rfl mJ rfl | exact vV w1 _ #[i6 4,i6 8,i6 4] 3 _ kh 3 _ rfl rfl mJ rfl | exact vV w1 _ #[i6 4,i6 8,i6 4] 3 _ kh 3 _ (Aa3 _ _).symm rfl mJ rfl) av _ [n,b,s] (by first | exact It w1 _ #[u6 n,u6 b,u6 s] 70 _ [n,b,s] 3 _ rfl rfl mJ rfl | exact vV w1 _ #[u6 n,u6 b,u6 s] 70 _ [n,b,s] 3 _ rfl rfl mJ rfl | exact vV w1 _ #[u6 n,u6 b,u6 s] 70 _ [n,b,s] 3 _ (Aa3 _ _).symm rfl mJ rfl) ab (DR n b s hn h2 h3)).mono ?_;rintro e w4 ⟨vv,rfl,aP,up4⟩)))
 all_goals
  obtain⟨k1,k2⟩:=az (((ai w1 _).alloc _).drew.trans up4) (aP.mono (bK ar.size ((ai w1 _).alloc _).drew.size));go_wp2;go_ret2;exact .inl ⟨hg,_,rfl,k2,ar.trans k1⟩
def mq(l:List aj):au:=⟨(bn (l.take 4):Nat),bn ((l.drop 4).take 8),bn (l.drop 12)⟩
def mu(l:List aj):Option au:=if (κ l)=16/\cA (mq l)=true then some (mq l)else none
def SP(l:List aj)(w:af)(e:Ab2)(w':af):Prop:=(∃p,mu l=some p/\e=.returned (.tuple #[fI p,.int .i64 0])/\Up w w')\/(mu l=none/\e=.returned (.tuple #[fI hole,.int .i64 51])/\Up w w')
theorem Q9(l:List aj):BJ kh l↔(κ l)=16:=by simp[BJ,kh,yv,total]
theorem fU{l:List aj}(h:κ l<=k):bn l<256 ^ k:=ej (oh l) (Fc ae h)
theorem qg(l:List aj)(h:κ l=16):c8 kh l=[bn (l.take 4),bn ((l.drop 4).take 8),bn (l.drop 12)]:=by simp[c8,kh,Ac4];rw[dq ab]
theorem sZ(w:af)(cs:Array ah)(t:Aab)(i:Nat):(w.alloc (.cells cs t)).frozen? ⟨w.heap.size,i,none⟩=false:=aq
theorem aX(n:Nat)(h:n<9223372036854775808):IntKind.i64.wrap (n:Int)=(n:Int):=IntWalk.i64_in _ ae
theorem Hq(n:Nat)(h:n<4294967296):IntKind.u32.wrap (n:Int)=(n:Int):=by exact zC
theorem qP(w:af)(v:ah)(l:List aj)(hv:a8 w v l)(ak:κ l=16):Aae Aag 176 #[v] w λe w'=>SP l w e w':=by
 have HR:=an (oj (p:=mq l));go_in;go_wp2_with fail;refine(CA _).mono ?_;rintro e w1⟨rfl,rfl⟩;go_wp2_with fail;refine(uy _ _ kh (aD.ew _ _ aq _ _ _ kh 3 rfl mJ rfl) av _ l (hv.up ((ai _ _).alloc _)) ((Q9 l).2 ak)).mono ?_;rintro e w3⟨vv,rfl,aP,hh⟩;have ax:Up (w.alloc (.cells #[i6 0,u6 0,.int .u32 0] 87)) w3:=(ai _ _).trans hh;have d0:w3.cell? (ad w.heap.size 0)=some (i6 0):=ax.cell (du w _ _ _ 0 _ rfl);have d1:w3.cell? (ad w.heap.size 1)=some (u6 0):=ax.cell (du w _ _ _ 1 _ rfl);have d2:w3.cell? (ad w.heap.size 2)=some (.int .u32 0):=ax.cell (du w _ _ _ 2 _ rfl);have f0:w3.frozen? ⟨w.heap.size,0,none⟩=false:=(ax.frozen aq).trans (sZ w _ _ 0);have f1:w3.frozen? ⟨w.heap.size,1,none⟩=false:=(ax.frozen aq).trans (sZ w _ _ 1);have f2:w3.frozen? ⟨w.heap.size,2,none⟩=false:=(ax.frozen aq).trans (sZ w _ _ 2);have ar:=(ai w _).trans ax;rw[qg l ak]at aP;refine NW ?_;intro q1 q2 q3;have aY:=an ak;have hp:mq l=⟨(bn (l.take 4):Nat),bn ((l.drop 4).take 8),bn (l.drop 12)⟩:=rfl;rw[hp]at HR;have Hp:=an hp;unfold fI at HR;simp only at HR;generalize bn (l.take 4)=x at *;generalize bn ((l.drop 4).take 8)=y at *;generalize bn (l.drop 12)=z at *;obtain⟨a5,c5,rfl⟩:=aP.cu.slice;obtain⟨b5,o5,rfl,_,hc⟩:=cg aP.cu rfl aq;have e0:w3.cell? (ad b5 o5)=some (u6 x):=hc 0 aq;have e1:w3.cell? (ad b5 (o5+1))=some (u6 y):=hc 1 aq;have e2:w3.cell? (ad b5 (o5+2))=some (u6 z):=hc 2 aq;go_wp2;obtain⟨wx,wz⟩:=az (aX x ae) (Hq z q3);go_region_held3 (λw'=>Up w3 w'/\w'.cell? (ad b5 o5)=some (u6 x)/\w'.cell? (ad b5 (o5+1))=some (u6 y)/\w'.cell? (ad b5 (o5+2))=some (u6 z)) ((refine MQ e0 e1 e2 ?_;(repeat(first|exact Up.refl _|apply Up.alloc|refine Up.setCell ?_ (aE _) _|apply Up.drew));done)) (fail);go_wp2_with fail;refine(HR _).mono ?_;rintro e w5⟨rfl,ao⟩;have aa:=((ai w3 (.cells #[i6 x,u6 y,.int .u32 z] 87)).drew).trans ao;have g0:w5.cell? (ad w3.heap.size 0)=some (i6 x):=ao.cell (du w3 _ _ _ 0 _ rfl);have g1:w5.cell? (ad w3.heap.size 1)=some (u6 y):=ao.cell (du w3 _ _ _ 1 _ rfl);have g2:w5.cell? (ad w3.heap.size 2)=some (.int .u32 z):=ao.cell (du w3 _ _ _ 2 _ rfl);have ag:w5.frozen? ⟨w.heap.size,0,none⟩=false:=(aa.frozen (ie w3 _ d0)).trans f0;have al:w5.frozen? ⟨w.heap.size,1,none⟩=false:=(aa.frozen (ie w3 _ d1)).trans f1;have aA:w5.frozen? ⟨w.heap.size,2,none⟩=false:=(aa.frozen (ie w3 _ d2)).trans f2;have au:=aa.cell d0;have aw:=aa.cell d1;have ay:=aa.cell d2;have ab:=ar.trans aa;have aN:mu l=if cA ⟨x,y,z⟩=true then some ⟨x,y,z⟩ else none:=by simp[mu,aY.out,Hp.out]
 generalize cA ⟨x,y,z⟩=gb at *;cases gb
 ·go_wp2;refine kF (v:=.tuple #[fI hole,i6 51]) ?_ rfl ?_
  ·rw[E8 rfl];go_simp;try rfl
  exact .inr ⟨cj,rfl,((ab.setCell (aE _) _).setCell (aE _) _).setCell (aE _) _⟩
 ·go_wp2;refine kF (v:=.tuple #[.agg #[i6 x,u6 y,.int .u32 z],i6 0]) ?_ rfl ?_
  ·rw[E8 rfl];go_simp;try rfl
  exact .inl ⟨⟨x,y,z⟩,cj,rfl,((ab.setCell (aE _) _).setCell (aE _) _).setCell (aE _) _⟩


def yE(w:af)(v v':ah):Prop:=v'.ownBlock=v.ownBlock\/∃g,v'.ownBlock=some g/\w.heap.size<=g
def pX(v u:ah):Prop:=v.ownBlock=none\/v.ownBlock≠u.ownBlock
theorem pX.symm{v u:ah}(h:pX v u):pX u v:=by
 rcases h with h|h
 ·by_cases hu:u.ownBlock=none
  ·exact .inl hu
  ·exact .inr aa
 ·exact .inr (λe=>h e.symm)
theorem pX.grown{w:af}{v v' u:ah}(h:pX u v)(hw:yE w v v')(hu:∀k,u.ownBlock=some k->k<w.heap.size):pX u v':=by
 rcases h with h|h
 ·exact .inl h
 ·rcases hw with hw|⟨g,hw,hg⟩
  ·exact .inr aa
  ·refine .inr (λe=>?_);grind
section
variable {α:Type} {P:bp}
theorem q'{f:α->List ah}{k:Nat}(hw:hh f k){w:af}{o:Oper}{a:Act}{K:Act->af->Prop}{Q:Exit->Act->af->Prop}(s x:bU)(t:TypeId)(ho:o.op=.call {callee:=.builtin .append,args:=#[s,x],argTypes:=#[t,t]})(base:Nat)(e:TypeId)(z:ah)(bytes:Nat)(ht:P.underlying t=some (.slice e))(hinfo:(P.info? e).map (λi=>(i.zero,i.size,i.bytes))=some (some z,k,bytes))(aw:z.cells.size=k)(v:ah)(xs:List α)(hs:a.eval s=v)(hown:ak f k e w base v xs)(vx:ah)(ys:List α)(hx:a.eval x=vx)(al:aH f w vx ys)(ai:(κ xs+κ ys)*bytes<=140737488355328)(an:κ xs+κ ys<=9223372036854775807)(ag:base<=w.heap.size)(h:∀v' w',ak f k e w' base v' (xs++ys)->w.grownBy w' v.ownBlock->Below base w w'->yE w v v'->K (a.put o.dst v') w'):o.wp P a w K Q:=by
 obtain⟨i,hi,hz0,hz1,ar⟩:=jN hinfo;have au:κ xs+κ ys<=maxLen:=cj
 have key:∀(ad:Adr)(c:Nat),vx=.slice (some ad) (κ ys) c->(∀j u,(ys.flatMap f)[j]?=some u->w.cell? (ad.add j)=some u)->o.wp P a w K Q:=by
  intro ad c ax aj;obtain⟨v',w',hr,h1,h2,h3⟩:=run_append_own (P:=P) w base t o.type e i z k bytes ht hi hz0 hz1 ar aw hw.pos v (κ xs) (xs.flatMap f) hown ad (κ ys) c (ys.flatMap f) (hw.flat ys) aj (hw.cu ys) au ai ag;have aa:yE w v v':=by
   rcases hown.2 with⟨rfl,h0⟩|⟨g,cap,cur,rfl,aq,hg,bc,aB,aC,ay⟩
   ·have av:xs=[]:=qt.1 h0;subst av;obtain⟨v2,w2,aP,az,aA,a1⟩:=run_append_own (P:=P) w w.heap.size t o.type e i z k bytes ht hi hz0 hz1 ar aw hw.pos (nl) 0 [] (yK w w.heap.size e k) ad (κ ys) c (ys.flatMap f) (hw.flat ys) aj (hw.cu ys) ae ae (aE _);have e1:=hr.symm.trans aP;simp only[Adh]at e1;obtain⟨rfl,rfl⟩:=e1;rcases az.2 with⟨rfl,_⟩|⟨g,cap,cur,rfl,aq,_⟩
    ·exact .inl rfl
    ·exact .inr ⟨g,rfl,aq⟩
   ·by_cases ao:κ xs+κ ys<=cap
    ·obtain⟨w2,aP,_⟩:=run_append_own_spare (P:=P) w base t o.type e i k ht hi hz1 g (κ xs) cap (xs.flatMap f) hown ad (κ ys) c (ys.flatMap f) (hw.flat ys) aj (hw.cu ys) ao;have e1:=hr.symm.trans aP;simp only[Adh]at e1;obtain⟨rfl,rfl⟩:=e1;exact .inl rfl
    ·have holds:∀j u,(xs.flatMap f)[j]?=some u->w.cell? ((⟨g,0,none⟩:Adr).add j)=some u:=World.ownsRow.cells hown (g:=g) rfl;have aP:=run_append_grow (P:=P) w t o.type e i z ht hi hz0 ⟨g,0,none⟩ (κ xs) cap (xs.flatMap f) (by rw[hz1];exact hw.flat xs) holds ad (κ ys) c (ys.flatMap f) (by rw[hz1];exact hw.flat ys) aj ae ae (by rw[ar];exact growslice_fits ae ai);have e1:=hr.symm.trans aP;simp only[Adh]at e1;obtain⟨rfl,rfl⟩:=e1;exact .inr ⟨_,rfl,aE _⟩
  unfold Aca;simp[Abt,ho,resolve,invoke,builtin,hs,hx,ax,hr,Aap];refine h v' w' ?_ h2 (fo h2 ag λk hk=>(hown.aJ k hk).1) aa;unfold ak;simp;omega
 rcases al with⟨rfl,ad,cap,rfl,hc,hn⟩|⟨b,off,cap,rfl,h0,hl,hm,hc⟩
 ·cases ad with
  | none=>obtain rfl:=hn rfl;have hrun:=yL (P:=P) (w:=w) base t o.type e i k ht hi v (κ xs) (xs.flatMap f) hown;unfold Aca;simp[Abt,ho,resolve,invoke,builtin,hs,hx,hrun,Aap];exact h v w ab ⟨rfl,rfl,rfl,aE _,λ_ _ _=>rfl⟩ (e6 _ _) (.inl rfl)
  | some ad=>grind
 ·refine key _ cap rfl λj u hj=>?_;rw[add_plain];grind
def eV{f:α->List ah}{k:Nat}(hw:hh f k){w:af}{ops:Array Oper}{rest:List Oper}{o:Oper}{a:Act}{Q:Exit->Act->af->Prop}(hgd:o.guard=none)(s x:bU)(t:TypeId)(ho:o.op=.call {callee:=.builtin .append,args:=#[s,x],argTypes:=#[t,t]})(base:Nat)(e:TypeId)(z:ah)(bytes:Nat)(ht:P.underlying t=some (.slice e))(hinfo:(P.info? e).map (λi=>(i.zero,i.size,i.bytes))=some (some z,k,bytes))(aw:z.cells.size=k)(v:ah)(xs:List α)(hs:a.eval s=v)(hown:ak f k e w base v xs)(vx:ah)(ys:List α)(hx:a.eval x=vx)(al:aH f w vx ys)(ai:(κ xs+κ ys)*bytes<=140737488355328)(an:κ xs+κ ys<=9223372036854775807)(ag:base<=w.heap.size)(h:∀v' w',ak f k e w' base v' (xs++ys)->w.grownBy w' v.ownBlock->Below base w w'->yE w v v'->wpList P ops Q rest (a.put o.dst v') w'):wpList P ops Q (o::rest) a w:=h' hgd λ_ hK=>q' hw s x t ho base e z bytes ht hinfo aw v xs hs hown vx ys hx al ai an ag λv' w' h1 h2 h3 h4=>hK _ _ (h v' w' h1 h2 h3 h4)
end
def dL(p:au):List ah:=[.int .i64 p.loc,.int .u64 (p.aU:Int),.int .u32 (p.sum:Int)]
theorem pw:hh dL 3:=⟨ae,λ_=>rfl,λx u hu=>by simp[dL]at hu;rcases hu with rfl|rfl|rfl<;>rfl⟩
def be(p:au):Array ah:=#[.int .i64 p.loc,.int .u64 (p.aU:Int),.int .u32 (p.sum:Int)]
theorem jX(p:au):(be p).all (·.oneCell')=true:=by simp[be,Value.oneCell']
def aaq(p:au):be p=(dL p).toArray:=rfl
theorem cF:(prog.info? 87).map (λi=>(i.zero,i.size,i.bytes))=some (some (.agg #[.int .i64 0,.int .u64 0,.int .u32 0]),3,24):=al
theorem zM(d:Nat)(p q:au)(W:af):(Ach (d+2) 87 (fI p) (fI q)).run Aag W=.ok (decide (p=q)) W:=by
 obtain⟨l,b,s⟩:=p;obtain⟨l2,b2,s2⟩:=q;unfold fI;have e:decide ((⟨l,b,s⟩:au)=⟨l2,b2,s2⟩)=((l==l2) && (((b:Int)==(b2:Int)) && ((s:Int)==(s2:Int)))):=aQ
 rw[e];rw[yX W (d+1) 87 _ _ aA aq];exact Oh
abbrev c9(w:af)(v:ah)(l:List au):Prop:=aH dL w v l
abbrev bf(w:af)(base:Nat)(v:ah)(l:List au):Prop:=ak dL 3 87 w base v l
theorem rZ{w:af}{a:Option Adr}{l:List au}(h:c9 w (.slice a n cap) l)(h0:0<κ l):∃b off,a=some ⟨b,off,none⟩/\b<w.heap.size/\n<=cap/\∀i(hi:i<κ l),w.cell? ⟨b,off+i*3,none⟩=some (.int .i64 l[i].loc)/\w.cell? ⟨b,off+i*3+1,none⟩=some (.int .u64 (l[i].aU:Int))/\w.cell? ⟨b,off+i*3+2,none⟩=some (.int .u32 (l[i].sum:Int)):=by obtain⟨b,off,h1,h2,h3,h4⟩:=aH.get h pw h0;exact⟨b,off,h1,h2,h3,λi hi=>⟨h4 i hi 0 _ rfl,h4 i hi 1 _ rfl,h4 i hi 2 _ rfl⟩⟩
def nK(p:au):Bool:=!decide (p=hole) && cA p
def tw(l:List au)(i:Nat)(h:i<κ l):Bool:=nK l[i] && (if h0:i=0 then true else dA (l[i-1]' ae) l[i])
def hn(l:List au):Bool:=decide (∀i(h:i<κ l),tw l i h=true)
theorem jo(l:List au):hn l=true↔∀i(h:i<κ l),tw l i h=true:=by simp[hn]
theorem TN(l:Int)(b s:Nat):decide ((⟨l,b,s⟩:au)=hole)=true↔l=0/\b=0/\s=0:=by simp[hole]
theorem HY(w:af)(p:au):Aae Aag 225 #[fI p] w λe w'=>kk (nK p) w e w':=by
 have R:=an (λW=>oj W p);have hf:nK p=(!decide (p=hole) && cA p):=rfl;rw[hf];obtain⟨l,b,s⟩:=p;have hh:=TN l b s;unfold fI at *;simp only at *;generalize cA ⟨l,b,s⟩=g at *;generalize decide ((⟨l,b,s⟩:au)=hole)=h at *;by_cases h0:l=0/\b=0/\s=0
 ·have:h=true:=hh.2 h0;subst this;obtain⟨rfl,rfl,rfl⟩:=h0;go_in;go_wp2;go_ret;exact⟨rfl,ai _ _⟩
 ·have:h=false:=by grind
  subst this;have hx:(((l==0) && ((b:Int)==0)) && ((s:Int)==0))=false:=ab
  have HX:(l==0)=false\/((l==0)=true/\((b:Int)==0)=false)\/((l==0)=true/\((b:Int)==0)=true/\((s:Int)==0)=false):=by cases h1:(l==0)<;>cases h2:((b:Int)==0)<;>cases h3:((s:Int)==0)<;>simp_all
  rcases HX with t1|⟨t1,t2⟩|⟨t1,t2,t3⟩
  all_goals
   go_in;go_wp2_with fail;refine(R _).mono ?_;rintro e w1⟨rfl,up1⟩;go_wp2;go_ret;exact⟨aq,(ai _ _).trans up1⟩
def aa9(w:af)(l:Int)(b s:Nat)(d:Nat)(os:Array Obj):(grow (redrawn (w.alloc (.cells #[.int .i64 l,.int .u64 b,.int .u32 s] 87)) d) os).cell? ⟨w.heap.size,0,none⟩=some (.int .i64 l):=dk (du w _ _ _ 0 _ rfl) d os
def aba(w:af)(l:Int)(b s:Nat)(d:Nat)(os:Array Obj):(grow (redrawn (w.alloc (.cells #[.int .i64 l,.int .u64 b,.int .u32 s] 87)) d) os).cell? ⟨w.heap.size,1,none⟩=some (.int .u64 b):=dk (du w _ _ _ 1 _ rfl) d os
def abb(w:af)(l:Int)(b s:Nat)(d:Nat)(os:Array Obj):(grow (redrawn (w.alloc (.cells #[.int .i64 l,.int .u64 b,.int .u32 s] 87)) d) os).cell? ⟨w.heap.size,2,none⟩=some (.int .u32 s):=dk (du w _ _ _ 2 _ rfl) d os
structure pZ(x y:ah)(b:Bool):Prop where
 fit:∀W,Aae Aag 224 #[x,y] W λe w'=>kk b W e w'
def l1(W:af)(x y:ah)(b:Bool)(h:pZ x y b):Aae Aag 224 #[x,y] W λe w'=>kk b W e w':=h.fit W
theorem Yr{l:List au}(h:0<κ l):tw l 0 h=nK l[0]:=by simp[tw]
theorem Yq{l:List au}(h:k+1<κ l):tw l (k+1) h=(nK l[k+1] && dA (l[k]' ae) l[k+1]):=aA
theorem Q7{l:List au}(h:k<κ l)(hk:tw l k h=false):hn l=false:=by grind [jo]
theorem s7(w:af)(v:ah)(l:List au)(hv:c9 w v l):Aae Aag 243 #[v] w λe w'=>kk (hn l) w e w':=by
 have hlen:=hv.length_le;obtain⟨a,cap,rfl⟩:=hv.slice;go_in;go_wp2;go_loopw [7] (λi wr=>∃k:Nat,k<=κ l/\i=i6 k/\(∀j(hj:j<κ l),j<k->tw l j hj=true)/\Up w wr) (λi _=>κ l-(Aau i).toNat)
 case atStart=>exact⟨0,bT _,rfl,λj hj h=>ae,Up.refl _⟩
 case round=>
  obtain⟨k,hk,rfl,ad,upr⟩:=hrel;have ag:=an ad;by_cases hlt:k<κ l
  ·obtain⟨b,off,rfl,hbs,bc,hc⟩:=rZ (aH.up hv upr) ae;obtain⟨aM,aN,al⟩:=cZ ((hc k hlt).1) ((hc k hlt).2.1) ((hc k hlt).2.2);have F:=an (λW=>HY W l[k]);have aD:(tw l k hlt=true->∀j(hj:j<κ l),j<k+1->tw l j hj=true):=λh j hj az=>by
    by_cases e:j=k
    ·subst e;exact h
    ·exact ag j hj ae
   obtain⟨HST,aB⟩:=aw aD (λh=>Q7 hlt h);refine iD ?_;intro b2;have ak:tw l k hlt=(nK l[k] && (if h0:k=0 then true else dA (l[k-1]' ae) l[k])):=rfl;have aA:=an ak;by_cases ay:k=0
   ·have ak:=aA.out;simp only[ay,dif_pos,Bool.and_true]at ak;have aj:=an (show tw l k hlt=nK l[k] by subst ay;exact Yr hlt);have t0:decide ((0:Int)<(k:Int))=false:=by simp;omega
    have aF:decide (0<k)=false:=ab
    clear ak aA ay;generalize l[k]=p at *;obtain⟨pl,pb,ps⟩:=p;unfold fI at F;simp only at F aM aN al;generalize nK ⟨pl,pb,ps⟩=g at *;clear hc;go_wp2_with fail;obtain⟨x0,x1,x2,upa⟩:=iv (aa9 wr pl pb ps) (aba wr pl pb ps) (abb wr pl pb ps) (ai wr (.cells #[i6 pl,u6 pb,.int .u32 ps] 87));generalize aa:wr.alloc (.cells #[i6 pl,u6 pb,.int .u32 ps] 87)=w3 at *;clear aa;cases g;all_goals
     refine gD ?_;repeat(go_big_quiet_step ((go_at_call 225;exact kH (F _))))
     refine F5 ?_;intro w4 d os hw4 up4;clear hw4 x0 x1 x2;have ar:=upr.trans (upa.trans up4);go_wp2_with fail
    ·go_ret;exact⟨by rw[aB.out aj.out]<;>rfl,ar⟩
    ·go_roundw
     case rel=>exact⟨k+1,ae,aq,HST aj,ar⟩
     case measure=>simp[Aau];omega
   ·obtain⟨j,hj⟩:=bE (k-1);have ao:j<κ l:=by omega
    have aj:=an (show tw l k hlt=(nK l[k] && dA l[j] l[k])by subst hj;rw[aA.out,dif_neg ay]);obtain⟨aC,aE,ax⟩:=cZ ((hc j ao).1) ((hc j ao).2.1) ((hc j ao).2.2);have L:=an (show pZ (fI l[j]) (fI l[k]) (dA l[j] l[k])from⟨λW=>uE W l[j] l[k]⟩);have t0:decide ((0:Int)<(k:Int))=true:=ab
    have aF:decide (0<k)=true:=ab
    have t1:IntKind.i64.wrap ((k:Int)-1)=(j:Int):=by rw[show(k:Int)-1=(j:Int)from ae];exact aX j ae
    have t2:((j:Int)<(κ l:Int))=True:=ab
    clear aA ay hj;generalize l[k]=p at *;generalize l[j]=q at *;obtain⟨pl,pb,ps⟩:=p;obtain⟨ql,qb,qs⟩:=q;unfold fI at F L;simp only at F aM aN al aC aE ax L;generalize nK ⟨pl,pb,ps⟩=g at *;generalize dA ⟨ql,qb,qs⟩ ⟨pl,pb,ps⟩=le at *;clear hc;go_wp2_with fail;obtain⟨x0,x1,x2,upa⟩:=iv (aa9 wr pl pb ps) (aba wr pl pb ps) (abb wr pl pb ps) (ai wr (.cells #[i6 pl,u6 pb,.int .u32 ps] 87));obtain⟨x3,x4,x5⟩:=cZ (dk (upa.cell aC)) (dk (upa.cell aE)) (dk (upa.cell ax));generalize aa:wr.alloc (.cells #[i6 pl,u6 pb,.int .u32 ps] 87)=w3 at *;clear aa;cases g
    ·refine gD ?_;repeat(go_big_quiet_step ((go_at_call 225;exact kH (F _))))
     refine F5 ?_;intro w4 d os hw4 up4;clear hw4 x0 x1 x2;have ar:=upr.trans (upa.trans up4);go_wp2_with fail;go_ret;exact⟨by rw[aB.out cj]<;>rfl,ar⟩
    cases le;all_goals
     refine gD ?_;repeat(go_big_quiet_step (first|(go_at_call 225;exact kH (F _))|(go_at_call 224;exact kH (l1 _ _ _ _ L))))
     refine F5 ?_;intro w4 d os hw4 up4;clear hw4 x0 x1 x2 x3 x4 x5;have ar:=upr.trans (upa.trans up4);go_wp2_with fail
    ·go_ret;exact⟨by rw[aB.out cj]<;>rfl,ar⟩
    ·go_roundw
     case rel=>exact⟨k+1,ae,aq,HST cj,ar⟩
     case measure=>simp[Aau];omega
  ·obtain rfl:k=κ l:=by omega
   have hb:hn l=true:=by rw[jo];grind
   go_wp2_with fail;go_ret;exact⟨ab,upr⟩
structure bM where
 st:Int
 len:Int
deriving DecidableEq
def Wr(s:bM):ah:=.agg #[.int .i64 s.st,.int .i64 s.len]
def r6(s:bM):List ah:=[.int .i64 s.st,.int .i64 s.len]
theorem Cj:hh r6 2 where
 pos:=av
 len:=λ_=>rfl;one:=by intro x u hu;simp[r6]at hu;rcases hu with rfl|rfl<;>rfl
abbrev dX(w:af)(v:ah)(l:List bM):Prop:=aH r6 w v l
abbrev hX(w:af)(base:Nat)(v:ah)(l:List bM):Prop:=ak r6 2 139 w base v l
theorem qX{w:af}{a:Option Adr}{l:List bM}(h:dX w (.slice a n cap) l)(h0:0<κ l):∃b off,a=some ⟨b,off,none⟩/\b<w.heap.size/\n<=cap/\∀i(hi:i<κ l),w.cell? (ad b (off+i*2))=some (i6 l[i].st)/\w.cell? (ad b (off+i*2+1))=some (i6 l[i].len):=by obtain⟨b,off,h1,h2,h3,h4⟩:=aH.get h Cj h0;exact⟨b,off,h1,h2,h3,λi hi=>⟨h4 i hi 0 _ rfl,h4 i hi 1 _ rfl⟩⟩
def gE(s:bM):Bool:=decide (0<=s.st/\s.st<4096/\1<=s.len/\s.len<=4096-s.st)
def ck:Int->List bM->Bool
 | _,[]=>true
 | e,s::l=>gE s && decide (e<s.st) && ck (s.st+s.len) l
def Mn(b:Bool)(w:af)(e:Ab2)(w':af):Prop:=e=.returned (.bool b)/\Up w w'
theorem abv{x b:Bool}(h:x=true↔b=true):Ending.returned (.bool x)=.returned (.bool b):=aa
theorem d'(s l:Int):gE ⟨s,l⟩=true↔0<=s/\s<4096/\1<=l/\l<=4096-s:=by simp[gE]
theorem LV(w:af)(s:bM):Aae Aag 275 #[Wr s] w λe w'=>Mn (gE s) w e w':=by
 obtain⟨s,l⟩:=s;unfold Wr;have hw:0<=s->s<4096->IntKind.i64.wrap (4096-s)=4096-s:=λh1 h2=>by obtain⟨k,rfl⟩:=ji h1;rw[show(4096:Int)-(k:Int)=((4096-k:Nat):Int)from ae];exact aX _ ae
 by_cases h1:0<=s
 ·by_cases h2:s<4096
  ·replace hw:=hw h1 h2;go_in;go_wp2;all_goals
    go_ret;refine⟨?_,ai _ _⟩;refine abv ?_;rw[d'];try simp only[hw]at *
    try simp only[decide_eq_true_eq,Abe,Bool.or_eq_true,Ac3,decide_eq_false_iff_not]at *
    try simp only[Ab3,false_iff,true_iff]
    omega
  ·exact NX
 ·exact NX
theorem vN{s l:Int}(h:gE ⟨s,l⟩=true):IntKind.i64.wrap (s+l)=s+l/\-1<=s+l/\s+l<=4096:=by rw[d']at h;obtain⟨k,rfl⟩:=ji h.1;obtain⟨j,rfl⟩:=ji (show 0<=l from ae);refine⟨?_,ae,ae⟩;rw[show(k:Int)+(j:Int)=((k+j:Nat):Int)from ae];exact aX _ ae
theorem gv(w:af)(v:ah)(l:List bM)(hv:dX w v l):Aae Aag 247 #[v] w λe w'=>Mn (ck (-1) l) w e w':=by
 have hlen:=hv.length_le;obtain⟨a,cap,rfl⟩:=hv.slice;go_in;go_wp2_with fail;go_loopw [3,8] (λe i wr=>∃k:Nat,∃z:Int,k<=κ l/\i=i6 k/\e=i6 z/\ck z (l.drop k)=ck (-1) l/\-1<=z/\z<=4096/\Up w wr) (λ_ i _=>κ l-(Aau i).toNat)
 case atStart=>exact⟨0,-1,bT _,rfl,rfl,rfl,ae,ae,Up.refl _⟩
 case round=>
  obtain⟨k,z,hk,rfl,rfl,ad,hz1,ar,upr⟩:=hrel;have ag:=an ad;clear ad;by_cases hlt:k<κ l
  ·obtain⟨b,off,rfl,hbs,bc,hc⟩:=qX (aH.up hv upr) ae;obtain⟨x0,x1⟩:=az ((hc k hlt).1) ((hc k hlt).2);have F:=an (λW=>LV W l[k]);have hd:l.drop k=l[k]::l.drop (k+1):=(List.getElem_cons_drop hlt).symm;have HD:=an hd;clear hd;refine iD ?_;intro b2;generalize l[k]=p at *;obtain⟨ps,pl⟩:=p;obtain⟨HR,HE⟩:=aw (show ck z (l.drop k)=(gE ⟨ps,pl⟩ && decide (z<ps) && ck (ps+pl) (l.drop (k+1)))by rw[HD.out];rfl) (@vN ps pl);clear HD;unfold Wr at F;simp only at F x0 x1;generalize hg:gE ⟨ps,pl⟩=g at *;clear hg hc;have CC:=du wr #[i6 ps,i6 pl] 139 (0,0);obtain⟨c0,c1⟩:=az (CC 0 _ rfl) (CC 1 _ rfl);clear CC;cases g
   ·go_wp2_with fail;refine(F _).mono ?_;rintro e w1⟨rfl,up1⟩;replace c0:=up1.cell c0;replace c1:=up1.cell c1;go_wp2_with fail;go_ret;exact⟨by rw[<-ag.out,HR.out]<;>rfl,(upr.alloc _).trans up1⟩
   ·obtain⟨al,ak,aa⟩:=HE rfl;by_cases hle:ps<=z
    ·have t1:¬z<ps:=by omega
     have aj:=an (show ck (-1) l=false by rw[<-ag.out,HR.out];simp[t1]);clear t1;go_wp2_with fail;refine(F _).mono ?_;rintro e w1⟨rfl,up1⟩;replace c0:=up1.cell c0;replace c1:=up1.cell c1;go_wp2_with fail;go_ret;exact⟨by rw[aj.out]<;>rfl,(upr.alloc _).trans up1⟩
    ·have t1:z<ps:=by omega
     have aj:=an (show ck (ps+pl) (l.drop (k+1))=ck (-1) l by rw[<-ag.out,HR.out];simp[t1]);clear t1;go_wp2_with fail;refine(F _).mono ?_;rintro e w1⟨rfl,up1⟩;replace c0:=up1.cell c0;replace c1:=up1.cell c1;go_wp2_with fail;go_roundw
     case rel=>exact⟨k+1,ps+pl,ae,aq,rfl,aj,ak,aa,(upr.alloc _).trans up1⟩
     case measure=>simp[Aau];omega
  ·obtain rfl:k=κ l:=by omega
   have hb:ck (-1) l=true:=by rw[<-ag.out];simp[ck]
   go_wp2_with fail;go_ret;exact⟨ab,upr⟩
section
open Go.Shelf
attribute [local go_sem] kI
def c'(p:Nat->Aab->Prop)(W W':af):Prop:=∀b cs t fr,W.heap[b]?=some (.cells cs t fr)->p b t->W'.heap[b]?=some (.cells cs t fr)
theorem c'.refl(W:af):c' p W W:=λ_ _ _ _ h _=>h
def c'.trans{A B C:af}(h:c' p A B)(k:c' p B C):c' p A C:=λb cs t fr hb hp=>k b cs t fr (h b cs t fr hb hp) hp
theorem jM{w:af}(W:af)(l:Nat)(o o':Obj)(_:w.heap.size<=l)(h:W.heap[l]?=some o)(hc:o.isCells=false)(_:o.isWalk=false):c' p W (W.putObj l o'):=λb cs t fr hb _=>by
 have hne:b≠l:=λe=>by subst e;rw[h]at hb;cases hb;simp[Obj.isCells]at hc
 rw[World.putObj_heap_other hne];exact hb
theorem c'.cell{W W':af}(h:c' p W W'){v:ah}(hp:∀t,p a.block t)(hc:W.cell? a=some v):W'.cell? a=some v:=by
 unfold Aco at hc ⊢;cases hb:W.heap[a.block]? with
 | none=>simp_all
 | some o=>
  cases o with
  | cells cs t fr=>rw[h a.block cs t fr hb (hp t)];simp_all
  | _=>simp_all
theorem kz{W W':af}(h:Up W W'):c' p W W':=λb cs t fr hb _=>by
 have hlt:b<W.heap.size:=by exact NY
 rw[oV h b hlt];exact hb
theorem oa{W W':af}(h:Up W W'):W.grownBy W' none:=by exact⟨h.os,h.tape,h.output,h.size,λk hk _=>h.block k hk⟩
def cW(l:List bM):List Int:=l.flatMap (λs=>(Aak s.len.toNat).map (λk:Nat=>s.st+(k:Int)))
def cG(l:List bM):List Int:=if ck (-1) l=true then cW l else []
theorem uq(w:af)(a:Option Adr)(n cap:Nat):Aae Aag 228 #[.slice a n cap] w λe w'=> e=.returned (.func (.func 264) #[] #[pz w.heap.size])/\w'=w.alloc (.cells #[.slice a n cap] 63):=by go_in;exact e3
def hF(l:List bM)(k j:Nat)(z:Int):List Int:=cW (l.take k)++(Aak j).map (λi:Nat=>z+(i:Int))
theorem yb(l:List bM)(k:Nat)(z:Int):hF l k 0 z=cW (l.take k):=by simp[hF]
theorem lq(l:List bM)(k j:Nat)(z:Int):hF l k (j+1) z=hF l k j z++[z+(j:Int)]:=by simp[hF,Ab5]
theorem pD{l:List bM}(h:k<κ l){z n:Int}(hp:l[k]=⟨z,n⟩):hF l k n.toNat z=cW (l.take (k+1)):=by rw[et h,hp];simp[hF,cW]
theorem BI(l:List bM)(k:Nat):cW (l.take k) <+:cW l:=by refine⟨cW (l.drop k),?_⟩;rw[cW,cW,<-gk,fQ,cW]
theorem w6{l:List bM}(h:k<κ l){z n:Int}(hp:l[k]=⟨z,n⟩)(hj:j<=n.toNat):hF l k j z <+:cW l:=by
 refine List.IsPrefix.trans ?_ (BI l (k+1));rw[<-pD h hp];refine⟨((Aak n.toNat).map (λi:Nat=>z+(i:Int))).drop j,?_⟩;rw[hF,Aa9,hF];congr 1;rw[<-qy,<-Aar];congr 1;conv=>rhs;rw[<-fQ j (Aak n.toNat)]
 simp_all
theorem Rn{a b:List α}{x:α}(h:a++[x] <+:b):κ a<κ b:=aQ
theorem pA:∀{l:List bM}{z:Int},ck z l=true->∀{k:Nat}(h:k<κ l){p:bM},l[k]=p->gE p=true
 | s::l,z,h,0,_,p,hp=>by simp only[ck,Abe]at h;simp at hp;rw[<-hp];exact h.1.1
 | s::l,z,h,k+1,hk,p,hp=>by simp only[ck,Abe]at h;exact pA h.2 (by simpa using hk) (by simpa using hp)
theorem PV{w:af}{x y:ah}{fr:Nat × Nat}(h:w.heap[B]?=some (.cells #[x,y] t fr)):w.cell? (ad B 0)=some x/\w.cell? (ad B 1)=some y:=by unfold Aco;simp_all
theorem wrap_small{z:Int}(h0:0<=z)(h1:z<100000):IntKind.i64.wrap z=z:=by obtain⟨k,rfl⟩:=ji h0;grind [aX]
theorem v8{z:Int}(h0:0<=z)(h1:z<100000):wrap64 z=z:=by unfold wrap64;omega
theorem aay(h:j<5000):i6 (wrap64 ((j:Int)+1))=i6 ((j+1:Nat):Int):=by grind [v8]
theorem abl{pl:Int}(h:j<5000)(hj:(j:Int)<pl):pl.toNat-(Aau (i6 (wrap64 ((j:Int)+1)))).toNat<pl.toNat-(Aau (i6 (j:Int))).toNat:=by rw[v8 ae ae];exact np
def oq(n₀:Nat)(b:Nat)(t:Aab):Prop:=b<n₀\/t=139
theorem HU(n:Nat)(hn:1<=n)(lp Bs n₀:Nat)(v:ah)(l:List bM)(J Jx:List Int->af->Prop)(W:af)(hJ:AbidesFrom W.heap.size J)(hY:∀pre x W1,J pre W1->pre++[x] <+:cG l->YieldAt Abv (n-1) Aag lp #[i6 x] W1 λe W'=>
  (e=.returned (.bool true)/\J (pre++[x]) W'/\c' (oq n₀) W1 W')\/(e=.returned (.bool false)/\Jx (pre++[x]) W'))
 (ag:W.cell? (ad Bs 0)=some v) (hv:dX W v l) (h0:J [] W) (ay:∀a m c,v=.slice (some a) m c->a.block<n₀):
 CallsIn Abv n Aag 264 #[.func (.yield lp) #[] #[],pz Bs] W λe W'=>(∃v,e=.returned v)/\
  ((∃ys,ys=cG l/\J ys W')\/(∃pre,pre <+:cG l/\Jx pre W')):=by
 have hlen:=hv.length_le;obtain⟨a,cap,rfl⟩:=hv.slice;have R:=an (gv W _ l hv);have aT:∀s A B,J s A->Up A B->J s B:=λs A B hs hu=>hJ s A B none hs (oa hu) (λr e=>aQ);have HAL:=an aT;clear aT;obtain⟨g,hg⟩:=bE (ck (-1) l);rw[<-hg]at R;cases g
 ·have ab:=an (show cG l=[] from zj);clear hg;refine uM func264 rfl trivial ?_ rfl;simp only[ntmps264,Abh,Aaj,Aa4,Nat.reduceAdd,Nat.reduceSub,Aa6,Aa7,Abj,Aba,Aaz,Aa2];gi_wp2_with(refine⟨trivial,?_⟩;gi_at_call 247;refine(fG.2 R).mono ?_;rintro e w1 ⟨rfl,up1⟩);refine kF (Adv rfl _ _ _) rfl ?_;exact⟨⟨_,rfl⟩,.inl ⟨_,ab.symm,HAL _ _ _ h0 up1⟩⟩
 have aF:cG l=cW l:=zj
 rw[aF]at hY ⊢;clear aF;replace hg:=an hg;refine uM func264 rfl trivial ?_ rfl;simp only[ntmps264,Abh,Aaj,Aa4,Nat.reduceAdd,Nat.reduceSub,Aa6,Aa7,Abj,Aba,Aaz,Aa2];gi_wp2_with(refine⟨trivial,?_⟩;gi_at_call 247;refine(fG.2 R).mono ?_;rintro e w1 ⟨rfl,up1⟩;have au:=up1.cell ag);gi_loopw [11] (λi wr=>∃k:Nat,k<=κ l/\i=i6 k/\J (cW (l.take k)) wr/\c' (oq n₀) W wr) (λi _=>κ l-(Aau i).toNat)
 case atStart=>exact⟨0,bT _,rfl,HAL _ _ _ h0 up1,kz up1⟩
 case round=>
  obtain⟨k,hk,rfl,aj,aa⟩:=hrel;by_cases hlt:k<κ l
  ·obtain⟨b,off,rfl,hbs,bc,hc⟩:=qX hv ae;have aD:=ay _ _ _ rfl;obtain⟨x0,x1⟩:=az (aa.cell (a:=⟨b,off+k*2,none⟩) (λt=>.inl aD) (hc k hlt).1) (aa.cell (a:=⟨b,off+k*2+1,none⟩) (λt=>.inl aD) (hc k hlt).2);obtain⟨p,hp⟩:∃p:bM,l[k]=p:=⟨_,rfl⟩;rw[hp]at x0 x1;have HP:=an hp;obtain⟨ps,pl⟩:=p;simp only at x0 x1;have HS:=an (pA hg.symm hlt hp);refine iD ?_;intro b2;have HY:=an hY;have al:=ai wr (.cells #[i6 ps,i6 pl] 139);have HN:=an (World.alloc_heap_new wr (.cells #[i6 ps,i6 pl] 139));clear hc hY hp hg;obtain⟨w8,aJ⟩:=bE (wr);subst aJ;gi_wp2;gi_loopw [17] (λi wr=>∃j:Nat,(j:Int)<=pl/\i=i6 j/\J (hF l k j ps) wr/\c' (oq n₀) W wr/\wr.heap[w8.heap.size]?=some (.cells #[i6 ps,i6 pl] 139)) (λi _=>pl.toNat-(Aau i).toNat)
   case atStart=>have h1:=(d' _ _).1 HS;exact⟨0,ae,rfl,by rw[yb];exact HAL _ _ _ aj al,aa.trans (kz al),HN⟩
   case round=>
    obtain⟨j,hj,rfl,ar,ao,hB⟩:=hrel;have h1:=(d' _ _).1 HS;obtain⟨c0,c1⟩:=PV hB;by_cases aM:(j:Int)<pl
    ·have av:hF l k j ps++[ps+(j:Int)] <+:cW l:=by rw[<-lq];exact w6 hlt HP ae
     obtain⟨fn,tmps,assign,body,hy,hR⟩:=HY _ (ps+(j:Int)) wr ar av;have aH:IntKind.i64.wrap (ps+(j:Int))=ps+(j:Int):=wrap_small ae ae;obtain⟨ax,a7⟩:=aw (show j<5000 from ae) hB;clear hB h1;gi_wp2;refine hR.mono ?_;rintro e W3(⟨rfl,aC,aA⟩|⟨rfl,ak⟩)
     ·gi_wp2;go_roundw
      case rel=>exact⟨j+1,ae,aay ax,by rw[lq];exact aC,ao.trans aA,aA _ _ _ _ a7 (.inr rfl)⟩
      case measure=>exact abl ax aM
     ·gi_wp2;refine kF (Adv rfl _ _ _) rfl ?_;exact⟨⟨_,rfl⟩,.inr ⟨_,by rw[<-lq];exact w6 hlt HP ae,ak⟩⟩
    ·obtain rfl:pl=(j:Int):=by omega
     clear hB h1;gi_wp2;go_roundw
     case rel=>exact⟨k+1,ae,aq,by have:=pD hlt HP;rw[<-this];exact ar,ao⟩
     case measure=>simp[Aau];omega
  ·obtain rfl:k=κ l:=by omega
   clear hY;gi_wp2;go_end0;exact⟨⟨_,rfl⟩,.inl ⟨_,rfl,by have:=aj;rw[fF]at this;exact this⟩⟩
end
section
open Go.Shelf
attribute [local go_sem] kI
theorem dp(W:af)(v:ah)(t:Aab):(W.alloc (.cells #[v] t)).cell? ⟨W.heap.size,0,none⟩=some v/\(W.alloc (.cells #[v] t)).frozen? ⟨W.heap.size,0,none⟩=false:=aq
theorem bF{W:af}{v:ah}(o:Obj)(h:W.cell? a=some v):(W.alloc o).cell? a=some v:=lz h (y0 W o none) (λr e=>aa)
theorem jG{W:af}{v:ah}(o:Obj)(h:W.cell? a=some v)(hf:W.frozen? a=false):(W.alloc o).frozen? a=false:=(frozen_kept h (y0 W o none) (λr e=>aa)).trans hf
def AB(n:Nat)(hn:1<=n)(Bs n₀:Nat)(v:ah)(l:List bM)(w:af)(ag:Bs<w.heap.size)(hc:w.cell? ⟨Bs,0,none⟩=some v)(hv:dX w v l)(ay:∀a m c,v=.slice (some a) m c->a.block<n₀):SeqStopsK Abv n Aag 264 #[.pointer (some ⟨Bs,0,none⟩)] (λx:Int=>#[Ack .i64 x]) (c' (oq n₀)) (λys=>ys=cG l) (λpre=>pre <+:cG l) (κ (cG l)) w:=λl' J Jx W hW hJ _ hY h0=>HU n hn l' Bs n₀ v l J Jx W hJ (λpre x W1 hj hp=>hY pre x W1 hj (Rn hp)) ((hW.cell (p:=⟨Bs,0,none⟩) ag).trans hc) (aH.up hv hW) h0 ay
def Ia(xs:List Int)(n:Int):Bool:=match xs.find? (λk=>decide (n<=k))with
 | some k=>k==n
 | none=>false
theorem Qx{xs:List Int}{n:Int}(h:∀y∈xs,y<n):Ia xs n=false:=by grind [Ia]
theorem Qy{xs pre:List Int}{n x:Int}(h:∀y∈pre,y<n)(hx:n<=x)(hp:pre++[x] <+:xs):Ia xs n=(x==n):=by grind [Ia]
theorem Jn(w:af)(v:ah)(l:List bM)(hv:dX w v l)(hb:∀a m c,v=.slice (some a) m c->a.block<w.heap.size)(n:Int):Aae Aag 281 #[v,i6 n] w λe w'=>Mn (Ia (cG l) n) w e w':=by
 obtain⟨a,cap,rfl⟩:=hv.slice;refine rJ ?_;intro h1;refine oZ func281 rfl trivial ?_ rfl;simp only[ntmps281,Abh,Aaj,Aa4,Nat.reduceAdd,Nat.reduceSub,Aa6,Aa7,Abj,Aba,Aaz,Aa2];gi_wp2_with(refine⟨trivial,?_⟩;gi_at_call 228;refine(fG.2 (uq _ _ _ _)).mono ?_;rintro e w' ⟨rfl,rfl⟩);obtain⟨c0,c1,c2⟩:=cZ (dp w (i6 n) 3) (dp (w.alloc (.cells #[i6 n] 3)) (.bool false) 4) (dp ((w.alloc (.cells #[i6 n] 3)).alloc (.cells #[.bool false] 4)) (.slice a (κ l) cap) 63);simp only[Aa3]at c1 c2;have ay:Below w.heap.size w (((w.alloc (.cells #[i6 n] 3)).alloc (.cells #[.bool false] 4)).alloc (.cells #[.slice a (κ l) cap] 63)):=(((e6 _ w).alloc (aE _) _).alloc aq _).alloc ab _;refine wL (F:=Abv) rfl h1 (gf:=264) (lb:=#[pz (w.heap.size+1+1)]) rfl trivial (enters_of func264 aA rfl) (AB 5 ae (w.heap.size+1+1) w.heap.size _ l _ aq c2.1 (aH.up hv ay) hb) c'.trans jM (e6 _ _) (λ_=>rfl) (λpre W=>((∀y∈pre,y<n)/\W.cell? (ad w.heap.size 0)=some (i6 n)/\W.cell? (ad (w.heap.size+1) 0)=some (.bool false)/\W.frozen? ⟨w.heap.size+1,0,none⟩=false)/\Below w.heap.size w W) (λc pre W=>(c=.ret/\(∃pr x,pre=pr++[x]/\(∀y∈pr,y<n)/\n<=x/\W.cell? (ad (w.heap.size+1) 0)=some (.bool (x==n))))/\Below w.heap.size w W) (nP (Own.from (λs A B row hs hg hr=>⟨hs.1,lz hs.2.1 hg hr,lz hs.2.2.1 hg hr,(frozen_kept hs.2.2.1 hg hr).trans hs.2.2.2⟩) _) (o0 (aE _) ab)) (λc=>nP (Own.from (λs A B row hs hg hr=>⟨hs.1,Ub⟩) _) (o0 (aE _) ab)) ⟨⟨aq,bF _ (bF _ c0.1),bF _ c1.1,jG _ c1.1 c1.2⟩,ay⟩ (λx=>{tmps:=#[.slice a (κ l) cap,i6 n,Aas,pz w.heap.size,pz (w.heap.size+1),i6 x,.slice a (κ l) cap,.func (.func 264) #[] #[pz (w.heap.size+1+1)],i6 x,Aas,Aas,Aas,Aas,Aas,Aas],defers:=[]}) ?assign ?body ?done ?stop
 case assign=>exact lP
 case body=>
  rintro l' pre x W⟨⟨hp,ag,hcr,aR⟩,hB⟩_;by_cases hx:n<=x
  ·gi_wp2;exact⟨qz _ _ _,⟨rfl,pre,x,rfl,hp,hx,y2 _ _ _ aQ⟩,hB.setCell (p:=⟨w.heap.size+1,0,none⟩) aq _⟩
  ·gi_wp2;exact⟨KeepsOthers.refl _,c'.refl _,⟨λy hy=>(Aa8.1 hy).elim (hp y) (λe=>aQ),ag,hcr,aR⟩,hB⟩
 case done=>rintro D ys W hD rfl⟨⟨hne,_,hcr,aR⟩,hB⟩hK;gi_wp2;have hK':=(qz W ⟨w.heap.size+1,0,none⟩ (.bool false)).same D _ hK rfl;refine⟨aq,.inl ⟨_,_,rfl,Fo hK',?_⟩⟩;have aa:=lz (y2 W ⟨w.heap.size+1,0,none⟩ (.bool false) aQ) (y3 _ D (.deferred none)) (λr e=>by cases e;exact⟨_,hK',rfl⟩);refine⟨.bool false,?_,by rw[Qx hne],(hB.setCell (p:=⟨w.heap.size+1,0,none⟩) aq _).trans (o1 (w:=w) (aE _) _ D _ _ qB hK' rfl rfl)⟩;simp[results,Tryz.f281,go_sem,aa]
 case stop=>rintro D c pre W hD aj⟨⟨rfl,pr,x,rfl,av,hx,hcr⟩,hB⟩hK;gi_wp2;refine Oq ?_;intro aa;refine⟨.bool (x==n),?_,by rw[(Qy av hx aj)],hB.trans (o1 (w:=w) (aE _) W D _ _ qB hK rfl rfl)⟩;simp[results,Tryz.f281,go_sem,aa]
end
theorem tv{l:List bM}(h:k<κ l){z n:Int}(hp:l[k]=⟨z,n⟩):κ (cW (l.take (k+1)))=κ (cW (l.take k))+n.toNat:=by rw[<-pD h hp];simp[hF]
theorem CZ(w:af)(v:ah)(l:List bM)(hv:dX w v l):Aae Aag 227 #[v] w λe w'=>e=.returned (i6 (κ (cG l):Int))/\Up w w':=by
 have hlen:=hv.length_le;obtain⟨a,cap,rfl⟩:=hv.slice;have R:=an (gv w _ l hv);obtain⟨g,hg⟩:=bE (ck (-1) l);rw[<-hg]at R;cases g
 ·have ab:=an (show(cG l).length=0 from zj);clear hg;go_in;go_wp2_with fail;refine R.mono ?_;rintro e w1⟨rfl,up1⟩;go_wp2;go_ret;exact⟨by rw[ab.out]<;>rfl,up1⟩
 have aF:=an (show cG l=cW l from zj);replace hg:=an hg;go_in;go_wp2_with fail;refine R.mono ?_;rintro e w1⟨rfl,up1⟩;go_wp2;go_loopw [3,11] (λm i wr=>∃k q:Nat,∃z:Int,k<=κ l/\i=i6 k/\m=i6 q/\q=κ (cW (l.take k))/\ck z (l.drop k)=true/\(q:Int)<=z+1/\z<=4096/\Up w wr) (λ_ i _=>κ l-(Aau i).toNat)
 case atStart=>exact⟨0,0,-1,bT _,rfl,rfl,rfl,hg.symm,ae,ae,up1⟩
 case round=>
  obtain⟨k,q,z,hk,rfl,rfl,hq,ad,hz1,ar,upr⟩:=hrel;have HQ:=an hq;clear hq;by_cases hlt:k<κ l
  ·obtain⟨b,off,rfl,hbs,bc,hc⟩:=qX (aH.up hv upr) ae;obtain⟨x0,x1⟩:=az ((hc k hlt).1) ((hc k hlt).2);obtain⟨p,hp⟩:∃p:bM,l[k]=p:=⟨_,rfl⟩;rw[hp]at x0 x1;have hd:l.drop k=p::l.drop (k+1):=by rw[<-hp];exact(List.getElem_cons_drop hlt).symm
   have hs:=ad;rw[hd]at hs;obtain⟨ps,pl⟩:=p;simp only[ck,Abe,decide_eq_true_eq]at hs;obtain⟨⟨aS,aJ⟩,aI⟩:=hs;obtain⟨j,rfl⟩:∃j:Nat,pl=(j:Int):=⟨pl.toNat,by have:=(d' _ _).1 aS;omega⟩;obtain⟨al,ak,aa⟩:=vN aS;have ag:q+j<5000:=ae
   have aC:((q+j:Nat):Int)<=ps+(j:Int)+1:=ae
   have t2:IntKind.i64.wrap ((q:Int)+(j:Int))=((q+j:Nat):Int):=by rw[show(q:Int)+(j:Int)=((q+j:Nat):Int)from ae];exact aX _ ae
   refine iD ?_;intro b2;simp only at x0 x1;have CC:=du wr #[i6 ps,i6 (j:Int)] 139 (0,0);obtain⟨c0,c1⟩:=az (CC 0 _ rfl) (CC 1 _ rfl);go_wp2_with fail;go_roundw
   case rel=>exact⟨k+1,q+j,ps+j,ae,aq,aA,by rw[tv hlt hp,<-HQ.out];simp,aI,aC,aa,upr.alloc _⟩
   case measure=>simp[Aau];omega
  ·obtain rfl:k=κ l:=by omega
   have ai:=HQ.out;rw[fF]at ai;have HL:=an (show(cG l).length=q by rw[aF.out,ai]);go_wp2;go_ret;exact⟨by rw[HL.out]<;>rfl,upr⟩
section
open Go.Shelf
attribute [local go_sem] kI
theorem yt{W w1:af}{n₀ B:Nat}{size k:Nat}{v v':ah}{xs:List ah}{tmp:Obj}(hv:Boxed W B t v)(aj:W.ownsRow n₀ e size v k xs)(hp:∀b,n₀<=b->¬p b t/\¬p b e)(hB:n₀<=B)(aa:(W.alloc tmp).grownBy w1 v.ownBlock):c' p W (w1.setCell ⟨B,0,none⟩ v'):=λb cs t' fr hb aP=>by
 have hlt:b<W.heap.size:=by exact NY
 have hne:b≠B:=λe1=>by subst e1;rw[hv]at hb;cases hb;exact(hp _ hB).1 aP
 have ay:some b≠v.ownBlock:=λe1=>by
  rcases aj.2 with⟨rfl,_⟩|⟨g,cap,cur,rfl,hg,bx,_⟩
  ·simp[Aan]at e1
  ·obtain rfl:b=g:=by simpa[Aan]using e1
   rw[bx]at hb;cases hb;exact(hp _ hg).2 aP
 show(w1.heap.modify B _)[b]?=_;rw[E5,aY (λe=>hne e.symm),((aa.block b ab ay).trans (Below.heap_alloc W tmp b hlt)),hb]
theorem DQ:∀{l:List bM}{z:Int},ck z l=true->z<=4096->(κ (cW l):Int)<=4096-z
 | [],z,_,h=>by simp[cW];omega
 | ⟨a,n⟩::l,z,h,hz=>by simp only[ck,Abe,decide_eq_true_eq]at h;have h1:=(d' _ _).1 h.1.1;have h2:=DQ h.2 ae;rw[cW,Abc,Aaf,<-cW,Aac,Acm];simp only at h h1 h2 ⊢;omega
theorem Is(l:List bM):κ (cG l)<=4097:=by
 unfold cG;split
 ·have:=DQ cj ae;omega
 ·simp
theorem rp:(prog.info? 3).map (λi=>(i.zero,i.size,i.bytes))=some (some (i6 0),1,8):=al
theorem vP(w:af)(v:ah)(l:List bM)(hv:dX w v l)(hb:∀a m c,v=.slice (some a) m c->a.block<w.heap.size):Aae Aag 163 #[v] w λe w'=>∃u,e=.returned u/\Own bC 3 w' w.heap.size u (cG l)/\Up w w':=by
 obtain⟨a,cap,rfl⟩:=hv.slice;obtain⟨i0,hi,hz0,hz1,ar⟩:=jN rp;have C:=an (CZ w _ l hv);have hT:=Is l;obtain⟨T,au⟩:=bE (κ (cG l));rw[<-au]at C hT;have aw:=an au;clear au;have MK:∀W:af,(Acf 41 (i6 0) (i6 (T:Int))).run Aag W=_:=λW=>kR (P:=Aag) 41 3 (i6 0) 8 underlying41 rp T ae ae W;refine rJ ?_;intro h1;refine oZ func163 rfl trivial ?_ rfl;simp only[ntmps163,Abh,Aaj,Aa4,Nat.reduceAdd,Nat.reduceSub,Aa6,Aa7,Abj,Aba,Aaz,Aa2];gi_wp2_with(refine⟨trivial,?_⟩;first|(gi_at_call 228;refine(fG.2 (uq _ _ _ _)).mono ?_;rintro e w' ⟨rfl,rfl⟩)|(gi_at_call 227;refine(fG.2 C).mono ?_;rintro e w1 ⟨rfl,up1⟩));obtain⟨bO,bN⟩:=az (Boxed.new (w1.alloc (.cells (kg (i6 0) T) 3)) 41 (cD w1.heap.size 0 T)) (Boxed.new ((w1.alloc (.cells (kg (i6 0) T) 3)).alloc (.cells #[cD w1.heap.size 0 T] 41)) 63 (.slice a (κ l) cap));have ai:(w1.alloc (.cells (kg (i6 0) T) 3)).ownsRow w1.heap.size 3 1 (cD w1.heap.size 0 T) 0 []:=Be w1 _ T (aE _) dK (by rw[sd,Nat.mul_one]);simp only[Aa3]at bO bN;have ay:Below w1.heap.size w1 (((w1.alloc (.cells (kg (i6 0) T) 3)).alloc (.cells #[cD w1.heap.size 0 T] 41)).alloc (.cells #[.slice a (κ l) cap] 63)):=(((e6 _ w1).alloc (aE _) _).alloc aq _).alloc ab _;refine Fp (F:=Abv) rfl h1 (gf:=264) (lb:=#[pz (w1.heap.size+1+1)]) rfl trivial (enters_of func264 aA rfl) (AB 5 ae (w1.heap.size+1+1) w1.heap.size _ l _ aq bN.cell ((aH.up hv up1).up ay) (λa m c h=>ej (hb a m c h) up1.size)) c'.trans jM (e6 _ _) (λ_=>rfl) (λpre W=>(∃v,Boxed W (w1.heap.size+1) 41 v/\W.ownsRow w1.heap.size 3 1 v (κ pre) (pre.map bC)/\True)/\Below w1.heap.size w1 W) (λ_ _ _=>False) (nP (Own.from (holdsRow_own w1.heap.size (w1.heap.size+1) 41 3 1 (λpre:List Int=>κ pre) (λpre=>pre.map bC) (λ_ _=>True)) _) (o0 (aE _) ab)) (λ_ _ _ _ _ hs _ _=>hs) ⟨⟨_,bO.alloc _,(s8 (s8 ai (y0 _ _ none) (.inr ti)) (y0 _ _ none) (.inr ti)),trivial⟩,ay⟩ (λx=>{tmps:=#[.slice a (κ l) cap,Aas,nl,pz (w1.heap.size+1),i6 x,.slice a (κ l) cap,i6 T,cD w1.heap.size 0 T,.slice a (κ l) cap,.func (.func 264) #[] #[pz (w1.heap.size+1+1)],i6 x,Aas,Aas,Aas,Aas,Aas],defers:=[]}) ?assign ?body ?done ?stop
 case assign=>exact lP
 case body=>
  rintro l' pre x W⟨⟨v,hv,aj,_⟩,hB⟩hlt;have hc:=hv.cell;have aK:κ pre<=4100:=di
  have ag:=hB.size;gi_wp2_with(gi_at_builtin;refine wpListIn_append_own _ rfl _ _ 41 rfl w1.heap.size 3 i0 (i6 0) 1 8 underlying41 hi hz0 hz1 ar rfl av _ _ _ rfl (aj.alloc _) ⟨W.heap.size,0,none⟩ 1 1 [i6 x] rfl rfl (cell_one_new _ _ _) FG dK ae ab ?_;intro v' w2 ad aa _;obtain⟨g',al,rfl⟩:=ownsRow_succ ad;have ak:=yt (p:=oq w1.heap.size) (v':=cD g' (κ pre+1) al) hv aj (λb hb=>⟨λh=>h.elim (λh=>ae) av,λh=>h.elim (λh=>ae) av⟩) ae aa;obtain⟨aI,ax,aP,ao,hb2⟩:=hv.appended av aj ag ae ad aa;have aN:=aI.cell;have aB:=aI.frozen);exact⟨ao.from _,ak,⟨_,ax,by simpa[bC]using aP,trivial⟩,hB.trans hb2⟩
 case done=>rintro D ys W hD rfl⟨⟨v,hv,aj,_⟩,hB⟩hK;have hc:=hv.cell;gi_wp2;refine zI ?_;refine⟨_,te rfl _ _ _,v,rfl,Own.mono (ownsRow_putObj aj _ hK rfl) up1.size,up1.aG (hB.trans (o1 (w:=w1) (aE _) W D _ _ qB hK rfl rfl)) up1.size⟩
 case stop=>simp
end
def a7(w:af)(b n:Nat)(t:Aab)(f:Nat->ah):Prop:=∃C,aF w b t C/\C.size=n/\∀i,i<n->C[i]?=some (f i)
section
variable {w w':af} {b n:Nat} {t:Aab} {f:Nat->ah}
theorem a7.cell(h:a7 w b n t f){i:Nat}(hi:i<n):w.cell? ⟨b,i,none⟩=some (f i):=by obtain⟨C,h1,_,h3⟩:=h;rw[h1.cell,h3 i hi]
theorem a7.free(h:a7 w b n t f)(i:Nat):w.frozen? ⟨b,i,none⟩=false:=by obtain⟨C,h1,_,_⟩:=h;exact h1.free i
theorem a7.lt(h:a7 w b n t f):b<w.heap.size:=by obtain⟨C,h1,_,_⟩:=h;exact h1.lt
theorem a7.up(h:a7 w b n t f)(hu:Up w w'):a7 w' b n t f:=by obtain⟨C,h1,h2⟩:=h;exact⟨C,h1.up hu,h2⟩
theorem a7.grown(h:a7 w b n t f){row:Option Nat}(hg:w.grownBy w' row)(hne:row≠some b):a7 w' b n t f:=by obtain⟨C,h1,h2⟩:=h;exact⟨C,h1.grown hg hne,h2⟩
theorem a7.set(h:a7 w b n t f){i:Nat}(hi:i<n)(v:ah):a7 (w.setCell ⟨b,i,none⟩ v) b n t (λk=>if k=i then v else f k):=by obtain⟨C,h1,h2,h3⟩:=h;refine⟨_,h1.setCell i v,ab,λk hk=>?_⟩;grind
theorem a7.congr(h:a7 w b n t f){g:Nat->ah}(hg:∀i,i<n->f i=g i):a7 w b n t g:=by obtain⟨C,h1,h2,h3⟩:=h;exact⟨C,h1,h2,λi hi=>aa⟩
theorem a7.new(w:af)(t:Aab)(n:Nat)(v:ah):a7 (w.alloc (.cells (Aad n v).toArray t)) w.heap.size n t (λ_=>v):=⟨_,aF.new w t _,aq,λi hi=>aa⟩
end
def pY(w:af)(b:Nat)(f:Nat->Bool):Prop:=a7 w b 4096 212 (λi=>.bool (f i))
def noBits:Array ah:=(Aad 4096 (Value.bool false)).toArray
theorem xm:∀W:af,(Acj 212).run Aag W=.ok (.agg noBits) W:=(lA (P:=Aag) (t:=212) (v:=.agg noBits) (n:=4096) al).1
section
variable {α:Type} {f:α->List ah} {k:Nat}
theorem xC(hw:hh f k):∀(l:List α)(i:Nat)(hi:i<κ l)(j:Nat)(u:ah)(x:α),j<k->f x=(f l[i]).set j u->(l.set i x).flatMap f=(l.flatMap f).set (i*k+j) u
 | y::l,0,_,j,u,x,hj,hx=>by simp only[List.set_cons_zero,Abc,Nat.zero_mul,Aby];rw[List.set_append_left _ _ (by rw[hw.len];exact hj),hx];rfl
 | y::l,i+1,hi,j,u,x,hj,hx=>by simp only[List.set_cons_succ,Abc];rw[y4 _ _ (by rw[hw.len,wC];omega),hw.len,show(i+1)*k+j-k=i*k+j from by rw[wC];omega];rw[xC hw l i Bo j u x hj hx]
theorem ak.setCell(hw:hh f k){e:Aab}{w:af}{base g n cap:Nat}{xs:List α}(h:ak f k e w base (.slice (some ⟨g,0,none⟩) n cap) xs)(i j:Nat)(hi:i<κ xs)(hj:j<k)(x:α)(u:ah)(hx:f x=(f xs[i]).set j u):ak f k e (w.setCell ⟨g,i*k+j,none⟩ u) base (.slice (some ⟨g,0,none⟩) n cap) (xs.set i x):=by
 obtain⟨h1,h2⟩:=h;refine⟨?_,?_⟩
 ·rw[hw.flat]
 ·rcases h2 with⟨h3,_⟩|⟨g',al,cur,h3,h4,h5,h6,h7,h8,h9⟩
  ·simp at h3
  ·simp at h3;obtain⟨rfl,rfl,rfl⟩:=h3;refine .inr ⟨g,cap,cur.setIfInBounds (i*k+j) u,aq,h4,aF.setCell (show aF w g e cur from h5) _ _,ab,h7,ab,?_⟩;rw[Aat,Abl,xC hw xs i hi j u x hj hx,<-h9,List.take_set]
theorem ak.shape{e:Aab}{w:af}{base:Nat}{v:ah}{xs:List α}(h:ak f k e w base v xs)(h0:0<κ xs):∃g cap,v=.slice (some ⟨g,0,none⟩) (κ xs) cap/\base<=g/\g<w.heap.size/\(κ xs)<=cap/\∀i,w.frozen? ⟨g,i,none⟩=false:=by
 obtain⟨h1,h2⟩:=h;rcases h2 with⟨_,h3⟩|⟨g,cap,cur,h3,h4,h5,h6,_⟩
 ·omega
 ·have hb:aF w g e cur:=h5;exact⟨g,cap,h3,h4,hb.lt,h6,λi=>hb.free i⟩
end
def sc(l:List bM)(n:Nat):List bM:=match l.getLast? with
 | some s=>if s.st+s.len=(n:Int)then l.set (κ l-1) ⟨s.st,s.len+1⟩ else l++[⟨n,1⟩]
 | none=>l++[⟨n,1⟩]
def aB(f:Nat->Bool):Nat->List bM
 | 0=>[]
 | n+1=>if f n=true then sc (aB f n) n else aB f n
theorem SY{l:List bM}(h:∀s∈l,0<=s.st/\1<=s.len/\s.st+s.len<=(n:Int)):∀s∈sc l n,0<=s.st/\1<=s.len/\s.st+s.len<=((n+1:Nat):Int):=by grind [sc,bM]
theorem nH(f:Nat->Bool):∀n,∀s∈aB f n,0<=s.st/\1<=s.len/\s.st+s.len<=(n:Int)
 | 0,s,hs=>by simp[aB]at hs
 | n+1,s,hs=>by
  unfold aB at hs;split at hs
  ·exact SY (nH f n) s hs
  ·have:=nH f n s hs;omega
theorem Hv(l:List bM)(n:Nat):κ (sc l n)<=κ l+1:=by grind [sc]
theorem iu(f:Nat->Bool):∀n,κ (aB f n)<=n
 | 0=>by simp[aB]
 | n+1=>by
  unfold aB;have:=iu f n;split
  ·have:=Hv (aB f n) n;omega
  ·omega
theorem C9{l:List bM}(h:m<κ l)(hm:κ l=m+1){p:bM}(hp:l[m]=p):l.getLast?=some p:=aQ
theorem Xf{l:List bM}(h:m<κ l)(hm:κ l=m+1){p:bM}(hp:l[m]=p)(he:p.st+p.len=(n:Int)):sc l n=l.set m ⟨p.st,p.len+1⟩:=by grind [sc,C9]
theorem Xg{l:List bM}(h:m<κ l)(hm:κ l=m+1){p:bM}(hp:l[m]=p)(he:p.st+p.len≠(n:Int)):sc l n=l++[⟨n,1⟩]:=by grind [sc,C9]
theorem wy:(prog.info? 139).map (λi=>(i.zero,i.size,i.bytes))=some (some (.agg #[.int .i64 0,.int .i64 0]),2,16):=al
theorem Wq(w:af)(b:Nat)(hb:b=w.heap.size)(z n:Int):dX (w.alloc (.cells #[.int .i64 z,.int .i64 n] 139)) (.slice (some ⟨b,0,none⟩) 1 1) [⟨z,n⟩]:=aH.ew w b hb _ _ _ _ 1 rfl av rfl
theorem Ed(w:af)(b:Nat)(f:Nat->Bool)(hb:pY w b f):Aae Aag 123 #[pz b] w λe w'=> ∃v,e=.returned v/\hX w' w.heap.size v (aB f 4096)/\Up w w':=by
 go_in;go_wp2_with fail;go_loopw [3,8] (λv i wr=>∃k:Nat,k<=4096/\i=i6 k/\hX wr w.heap.size v (aB f k)/\Up w wr) (λ_ i _=>4096-(Aau i).toNat)
 case atStart=>exact⟨0,bT _,rfl,ak.nil _ _ _ _ _,Up.refl _⟩
 case round=>
  obtain⟨k,hk,rfl,aj,upr⟩:=hrel;have au:=an aj;clear aj;by_cases hlt:k<4096
  ·have x0:=dk ((hb.up upr).cell hlt);have b2:((k:Int)<4096)=True:=by simp;omega
   cases hf:f k
   ·have hs:=an (show aB f (k+1)=aB f k by simp[aB,hf]);rw[hf]at x0;clear hf;go_wp2_with fail;refine gD ?_;repeat(go_big_quiet_step (fail))
    refine zs ?_;intro w4 d os hw4 up4;clear hw4 x0;go_wp2_with fail;go_roundw
    case rel=>exact⟨k+1,ae,aq,by rw[hs.out];exact au.up up4,upr.trans up4⟩
    case measure=>simp[Aau];omega
   ·obtain⟨hs,ag⟩:=aw (show aB f (k+1)=sc (aB f k) k by simp[aB,hf]) (nH f k);have hl:=iu f k;rw[hf]at x0;clear hf;generalize aB f k=ls at *;obtain⟨a,cap,rfl⟩:=(au.row Cj).slice;by_cases h0:κ ls=0
    ·obtain rfl:ls=[]:=qt.1 h0;simp only[Aa4]at au hl h0 ⊢;go_wp2_with fail;refine gD ?_;repeat(go_big_quiet_step (fail))
     refine zs ?_;intro w4 d os hw4 up4;clear hw4 x0;go_wp2_with fail;refine gD ?_;repeat(go_big_quiet_step (fail))
     refine F7 ?_;intro w5 d os aO ao;clear aO;have ad:=up4.trans ao;obtain⟨ah,aJ⟩:=az (au.up ad) ((upr.trans ad).size);have n1:(κ ([]:List bM) + [(⟨(k:Int),1⟩:bM)].length)*16<=140737488355328:=aq
     have n2:κ ([]:List bM) + [(⟨(k:Int),1⟩:bM)].length<=9223372036854775807:=aq
     have n3:w.heap.size<=(w5.alloc (.cells #[i6 (k:Int),i6 1] 139)).heap.size:=ab
     go_wp2_with(at_builtin;refine bH Cj rfl (.tmp 44) (.tmp 47) 63 rfl w.heap.size 139 (.agg #[i6 0,i6 0]) 16 underlying63 wy rfl _ [] rfl (ah.up (ai _ _)) (cD w5.heap.size 1 1) [⟨(k:Int),1⟩] rfl (Wq _ _ rfl k 1) n1 n2 n3 ?_);intro v6 w6 aa ay aL;go_wp2_with fail;go_roundw
     case rel=>exact⟨k+1,ae,aq,by rw[hs.out];exact aa,(upr.trans (ad.trans (ai _ _))).aG aL (aE _)⟩
     case measure=>simp[Aau];omega
    ·obtain⟨g,ax,aS,bl,aD,hg4,aR⟩:=au.shape ae;simp only[Abg,true_and]at aS;obtain⟨rfl,rfl⟩:=aS;obtain⟨m,hm⟩:∃m,κ ls=m+1:=⟨κ ls-1,ae⟩;have al:m<κ ls:=by omega
     obtain⟨p,hp⟩:∃p:bM,ls[m]=p:=⟨_,rfl⟩;have aY:=ag p aQ;have HP:=an hp;obtain⟨z,n⟩:=p;simp only at aY;obtain⟨hz,hn,hzn⟩:=aY;obtain⟨z,rfl⟩:=ji hz;obtain⟨n,rfl⟩:=ji (show 0<=n from ae);obtain⟨b9,aI,aM,_,_,aA⟩:=qX (au.row Cj) ae;simp only[Aai,Abq,and_true]at aM;obtain⟨rfl,rfl⟩:=aM;obtain⟨c0,c1⟩:=az ((aA m al).1) ((aA m al).2);rw[hp]at c0 c1;simp only[Aby]at c0 c1;have aF:z+n<=k:=ae
     clear aA hp hz hn hzn;have t0:decide ((0:Int)<=(m:Int))=true:=aq
     have t1:IntKind.i64.wrap ((κ ls:Int)-1)=(m:Int):=by rw[show(κ ls:Int)-1=(m:Int)from ae];exact aX m ae
     have t2:((m:Int)<(κ ls:Int))=True:=ab
     have t3:IntKind.i64.wrap ((z:Int)+(n:Int))=((z+n:Nat):Int):=by rw[show(z:Int)+(n:Int)=((z+n:Nat):Int)from ae];exact aX _ ae
     have t4:IntKind.i64.wrap ((n:Int)+1)=((n+1:Nat):Int):=by rw[show(n:Int)+1=((n+1:Nat):Int)from ae];exact aX _ ae
     by_cases he:z+n=k
     ·have t5:((z:Int)+(n:Int)==(k:Int))=true:=by simp;omega
      have HA:=an (Xf (l:=ls) (n:=k) al hm HP (show(z:Int)+(n:Int)=(k:Int)from ae));clear he hm;go_wp2_with fail;refine gD ?_;repeat(go_big_quiet_step (fail))
      refine Vm ?_;clear x0;intro w4 d os up4 y0 y1;go_wp2_with fail;refine gD ?_;repeat(go_big_quiet_step (fail))
      refine F7 ?_;intro w5 d os aO ao;clear aO y0 y1;have ad:=up4.trans ao;obtain⟨ah,aJ,d0,d1⟩:=iv (au.up ad) ((upr.trans ad).size) (ad.cell c0) (ad.cell c1);obtain⟨g6,aC,aH,_,_,_,ar⟩:=ah.shape ae;simp only[Abg,Aai,Abq,true_and,and_true]at aH;obtain⟨rfl,rfl⟩:=aH;have f1:=ar (m*2+1);clear ar;go_wp2_with fail;go_roundw
      case rel=>exact⟨k+1,ae,aq,by rw[hs.out,HA.out];exact ah.setCell Cj m 1 al ae ⟨z,(n:Int)+1⟩ _ zi,(upr.trans ad).setCell bl _⟩
      case measure=>simp[Aau];omega
     ·have t5:((z:Int)+(n:Int)==(k:Int))=false:=by simp;omega
      have HA:=an (Xg (l:=ls) (n:=k) al hm HP (show(z:Int)+(n:Int)≠(k:Int)from ae));clear he hm;go_wp2_with fail;refine gD ?_;repeat(go_big_quiet_step (fail))
      refine Vm ?_;clear x0;intro w4 d os up4 y0 y1;go_wp2_with fail;refine gD ?_;repeat(go_big_quiet_step (fail))
      refine F7 ?_;intro w5 d os aO ao;clear aO y0 y1;have ad:=up4.trans ao;obtain⟨ah,aJ⟩:=az (au.up ad) ((upr.trans ad).size);have n1:(κ ls + [(⟨(k:Int),1⟩:bM)].length)*16<=140737488355328:=ab
      have n2:κ ls + [(⟨(k:Int),1⟩:bM)].length<=9223372036854775807:=ae
      have n3:w.heap.size<=(w5.alloc (.cells #[i6 (k:Int),i6 1] 139)).heap.size:=ab
      go_wp2_with(at_builtin;refine bH Cj rfl (.tmp 44) (.tmp 47) 63 rfl w.heap.size 139 (.agg #[i6 0,i6 0]) 16 underlying63 wy rfl _ ls rfl (ah.up (ai _ _)) (cD w5.heap.size 1 1) [⟨(k:Int),1⟩] rfl (Wq _ _ rfl k 1) n1 n2 n3 ?_);intro v6 w6 aa ay aL;go_wp2_with fail;go_roundw
      case rel=>exact⟨k+1,ae,aq,by rw[hs.out,HA.out];exact aa,(upr.trans (ad.trans (ai _ _))).aG aL (aE _)⟩
      case measure=>simp[Aau];omega
  ·obtain rfl:k=4096:=by omega
   go_wp2_with fail;go_ret;exact⟨_,rfl,au,upr⟩
def sx(l:List Int)(i:Nat):Bool:=decide ((i:Int)∈l)
def j6(l:List Int):List bM:=aB (sx l) 4096
theorem Y0(l:List Int)(k:Nat)(h:k<κ l)(i:Nat):sx (l.take (k+1)) i=(sx (l.take k) i || decide ((i:Int)=l[k])):=by
 unfold sx;have e:(i:Int)∈l.take (k+1)↔(i:Int)∈l.take k\/(i:Int)=l[k]:=by rw[et h,Aa8,kG]
 simp_all
theorem tJ(w:af)(v:ah)(l:List Int)(hv:aD bC w v l):Aae Aag 62 #[v] w λe w'=> ∃u,e=.returned u/\hX w' w.heap.size u (j6 l)/\Up w w':=by
 have hlen:=hv.length_le;obtain⟨a,cap,rfl⟩:=hv.slice;go_in;go_wp2_with refine bB 212 xm ?_;go_loopw [8] (λi wr=>∃k:Nat,k<=κ l/\i=i6 k/\pY wr w.heap.size (sx (l.take k))/\Up w wr) (λi _=>κ l-(Aau i).toNat)
 case atStart=>exact⟨0,bT _,rfl,a7.congr (a7.new w _ 4096 (.bool false)) (λi _=>aA),ai _ _⟩
 case round=>
  obtain⟨k,hk,rfl,aa,upr⟩:=hrel;have HB:=an aa;by_cases hlt:k<κ l
  ·obtain⟨b,off,rfl,hbs,hc⟩:=cg (aD.up hv upr) rfl ae;have x0:=hc k hlt;refine iD ?_;intro b2;have hT:=an (Y0 l k hlt);generalize l[k]=x at *;unfold bC at x0;clear hc;by_cases h1:0<=x
   ·by_cases h2:x<4096
    ·obtain⟨n,rfl⟩:=ji h1;have hn:n<4096:=by omega
     obtain⟨c0,f0⟩:=az (HB.cell hn) (HB.free n);have b3:((n:Int)<4096)=True:=ab
     go_wp2_with fail;go_roundw
     case rel=>exact⟨k+1,ae,aq,a7.congr (HB.set hn (.bool true)) (λi hi=>by rw[hT.out i];by_cases e:i=n<;>simp[e];intro h;omega),upr.setCell (aE _) _⟩
     case measure=>simp[Aau];omega
    ·exact M9
   ·exact M9
  ·obtain rfl:k=κ l:=by omega
   have aM:=HB.out;rw[fF]at aM;have S:=an (Ed wr w.heap.size _ aM);go_wp2_with fail;refine S.mono ?_;rintro e w1⟨u,rfl,own,up1⟩;go_wp2_with fail;go_ret;exact⟨_,rfl,own.mono upr.size,upr.trans up1⟩
section
open Go.Shelf
attribute [local go_sem] kI
abbrev Num:={x:Int // 0<=x/\x<4096}
theorem vv:∀{l:List bM}{z:Int},ck z l=true->∀x∈cW l,0<=x/\x<4096
 | [],_,_,x,hx=>by simp[cW]at hx
 | s::l,z,h,x,hx=>by
  simp only[ck,Abe]at h;have h1:=(d' s.st s.len).1 h.1.1;rw[cW,Abc]at hx;rcases Aa8.1 hx with hx|hx
  ·obtain⟨k,hk,rfl⟩:=Abd.1 hx;have:=y5.1 hk;omega
  ·exact vv h.2 x hx
theorem xK(l:List bM)(x:Int)(hx:x∈cG l):0<=x/\x<4096:=by
 unfold cG at hx;split at hx
 ·exact vv cj x hx
 ·cases hx
theorem xA(n:Nat)(hn:1<=n)(Bs n₀:Nat)(v:ah)(l:List bM)(w:af)(ag:Bs<w.heap.size)(hc:w.cell? (ad Bs 0)=some v)(hv:dX w v l)(ay:∀a m c,v=.slice (some a) m c->a.block<n₀):SeqStopsK Abv n Aag 264 #[pz Bs] (λx:Num=>#[i6 x.1]) (c' (oq n₀)) (λys=>ys.map (·.1)=cG l) (λpre=>pre.map (·.1) <+:cG l) (κ (cG l)) w:=λl' J Jx W hW hJ _ hY h0=>by
 refine(HU n hn l' Bs n₀ v l (λpre W=>∃ps:List Num,ps.map (·.1)=pre/\J ps W) (λpre W=>∃ps:List Num,ps.map (·.1)=pre/\Jx ps W) W (λs A B row hs hg hr=>FT) ?_ ((hW.cell (p:=⟨Bs,0,none⟩) ag).trans hc) (aH.up hv hW) ⟨[],rfl,h0⟩ ay).mono ?_
 ·rintro pre x W1⟨ps,rfl,h⟩hp;refine(hY ps ⟨x,(xK l x (hp.subset aq))⟩ W1 h aQ).mono ?_;exact N3
 ·exact zz
theorem A7{W:af}{f:Nat->ah}(h:a7 W b n t f)(hp:¬p b t)(i:Nat)(v:ah):c' p W (W.setCell ⟨b,i,none⟩ v):=λk cs t' fr hb ae=>by
 have hne:k≠b:=λe=>by subst e;obtain⟨C,h1,_⟩:=h;rw[show W.heap[k]?=_ from h1]at hb;cases hb;exact hp ae
 show(W.heap.modify b _)[k]?=_;rw[E5,aY (λe=>hne e.symm),hb]
theorem xr(b n:Nat)(t:Aab)(f:β->Nat->ah):Go.Own (λ(s:β) W=>a7 W b n t (f s)):=λs A B row hs hg hr=>by refine hs.grown hg (λe=>?_);obtain⟨o,ho,hc⟩:=hr b e;obtain⟨C,h1,_⟩:=hs;rw[show A.heap[b]?=_ from h1]at ho;cases ho;cases hc
theorem AS(pre:List Int)(x:Int)(i:Nat):sx (pre++[x]) i=(sx pre i || decide ((i:Int)=x)):=by simp[sx]
theorem G6(w:af)(v:ah)(l:List bM)(hv:dX w v l)(hb:∀a m c,v=.slice (some a) m c->a.block<w.heap.size):Aae Aag 295 #[v] w λe w'=>e=.returned (pz w.heap.size)/\pY w' w.heap.size (sx (cG l))/\Up w w':=by
 obtain⟨a,cap,rfl⟩:=hv.slice;refine rJ ?_;intro h1;have ZB:=xm;refine oZ func295 rfl trivial ?_ rfl;simp only[ntmps295,Abh,Aaj,Aa4,Nat.reduceAdd,Nat.reduceSub,Aa6,Aa7,Abj,Aba,Aaz,Aa2];gi_wp2_with(refine⟨trivial,?_⟩;gi_at_call 228;refine(fG.2 (uq _ _ _ _)).mono ?_;rintro e w' ⟨rfl,rfl⟩);have c2:=dp (w.alloc (.cells noBits 212)) (.slice a (κ l) cap) 63;simp only[Aa3]at c2;have ad:pY ((w.alloc (.cells noBits 212)).alloc (.cells #[.slice a (κ l) cap] 63)) w.heap.size (sx []):=a7.congr ((a7.new w _ 4096 (.bool false)).up (ai _ _)) (λi _=>aA);have ay:Below w.heap.size w ((w.alloc (.cells noBits 212)).alloc (.cells #[.slice a (κ l) cap] 63)):=((e6 _ w).alloc (aE _) _).alloc aq _;refine wL (F:=Abv) rfl h1 (gf:=264) (lb:=#[pz (w.heap.size+1)]) rfl trivial (enters_of func264 aA rfl) (xA 5 ae (w.heap.size+1) w.heap.size _ l _ aq c2.1 (aH.up hv ay) hb) c'.trans jM (e6 _ _) (λ_=>rfl) (λpre W=>pY W w.heap.size (sx (pre.map (·.1)))/\Below w.heap.size w W) (λ_ _ _=>False) (nP (Own.from (xr w.heap.size 4096 212 (λ(pre:List Num) i=>.bool (sx (pre.map (·.1)) i))) _) (o0 (aE _) ab)) (λ_ _ _ _ _ hs _ _=>hs) ⟨ad,ay⟩ (λx=>{tmps:=#[.slice a (κ l) cap,Aas,.pointer none,pz w.heap.size,i6 x.1,.slice a (κ l) cap,.func (.func 264) #[] #[pz (w.heap.size+1)],i6 x.1,Aas,Aas],defers:=[]}) ?assign ?body ?done ?stop
 case assign=>exact lP
 case body=>
  rintro l' pre⟨x,aa,aX⟩W⟨hI,hB⟩_;obtain⟨n,rfl⟩:=ji aa;have hn:n<4096:=ae
  obtain⟨c0,f0⟩:=az (hI.cell hn) (hI.free n);gi_wp2;exact⟨qz _ _ _,A7 hI (λh=>h.elim (λh=>ae) av) _ _,a7.congr (hI.set hn (.bool true)) (λi hi=>by rw[Aar,y6,AS];by_cases e:i=n<;>simp[e];intro h;omega),hB.setCell (p:=⟨w.heap.size,n,none⟩) (aE _) _⟩
 case done=>rintro D ys W hD aG⟨hI,hB⟩hK;gi_wp2;refine zI ?_;refine⟨_,te rfl _ _ _,rfl,?_,hB.trans (o1 (w:=w) (aE _) W D _ _ qB hK rfl rfl)⟩;rw[<-aG];exact a7.grown hI (y3 W D _) (λe=>by simp at e hD;omega)
 case stop=>simp
end
section
variable {P:bp} {ops:Array Abn} {Q:Exit->Act->af->Prop} {l n:Nat} {md:Ab0}
def YF{row:String}{args:Array ah}{w:af}{R:ah->af->Prop}(h:Rows P row args w R):RowsIn (Fence.wide.inRound l) n P row args w R:=λc cs _=>let⟨v,w',r,s⟩:=h c cs;⟨v,w',r,stepsIn_wide.2 s⟩
theorem O3{o:Abn}{a:Act}{w:af}{K:Act->af->Prop}(hd:∀c,o.op≠.defer c)(h:o.wp P a w K Q):o.wpIn (Fence.wide.inRound l) n P a w K Q:=by
 unfold Aca at h;unfold Oper.wpIn;refine⟨λ_ _=>trivial,?_⟩;rw[show(Fence.wide.inRound l).round=some l from rfl,kI l a.eval o hd];generalize hx:(Abt a.eval o).run P w=r at *;cases r with
 | ok x w'=>
  cases x with
  | enter f args=>exact⟨λh=>hE,CallsIn.inRound l (fG.2 h)⟩
  | row row args=>exact⟨λh=>hE,YF h⟩
  | round l f tmps assign body=>exact h.elim
  | _=>exact h
 | halt x w'=>cases x<;>exact h
def rR(ops:Array Abn):Bool:=ops.toList.all λo=>match o.op with | .defer _=>false|_=>true
theorem Ld{ops:Array Abn}(h:rR ops=true){i:Nat}{o:Abn}(hi:ops[i]?=some o):∀c,o.op≠.defer c:=λc e=>by
 have hm:o∈ops.toList:=by have:=Array.mem_of_getElem? hi;exact Array.mem_toList_iff.2 this
 have:=Ac9.1 h o hm;rw[e]at this;cases this
theorem z1(hd:rR ops=true)(ay:¬LetsOut Q):∀(fuel:Nat)(aZ:Array Bool)(a:Act)(w:af),wpAny P md ops Q fuel aZ a w->Acy (Fence.wide.inRound l) n P md ops Q fuel aZ a w
 | 0,_,_,_,h=>h
 | fuel+1,aZ,a,w,h=>⟨h.1,λi hi=>by
  have:=h.2 i hi;unfold wpOp at this;unfold wpOpIn;cases ho:ops[i]? with
  | none=>rw[ho]at this;exact z1 hd ay fuel _ _ _ this
  | some o=>
   rw[ho]at this;simp only at this ⊢;split
   ·rename_i hw;rw[bI hw]at this;rcases this with h1|⟨_,h1⟩
    ·exact O3 (Ld hd ho) (Oper.wp_mono (λa w=>z1 hd ay fuel _ a w) h1)
    ·exact absurd h1 ay
   ·rename_i hw;rw[aY hw]at this;exact⟨λ_ _=>trivial,z1 hd ay fuel _ _ _ this⟩⟩
theorem EY(ay:¬LetsOut Q):∀(os:List Abn)(a:Act)(w:af),(∀o∈os,∀c,o.op≠.defer c)->Aal P ops Q os a w->wpListIn (Fence.wide.inRound l) n P ops Q os a w
 | [],_,_,_,h=>h
 | o::os,a,w,hd,h=>by
  unfold Aal at h;unfold wpListIn;split
  ·rename_i hw;rw[bI hw]at h;rcases h with h1|⟨_,h1⟩
   ·exact O3 (hd o aq) (Oper.wp_mono (λa w=>EY ay os a w (λo ho=>hd o (by simp[ho]))) h1)
   ·exact absurd h1 ay
  ·rename_i hw;rw[aY hw]at h;exact⟨λ_ _=>trivial,EY ay os _ _ (λo ho=>hd o (by simp[ho])) h⟩
theorem IG{os:List Abn}(h:rR os.toArray=true):∀o∈os,∀c,o.op≠.defer c:=λo hm c e=>by have:=Ac9.1 h o hm;rw[e]at this;cases this
def gT{S:af->Prop}{id:Nat}{a:Act}{w:af}(hm:P.follows .mixedOrders=true)(hd:rR ops=true)(ay:¬LetsOut Q)(h:wpAnyH P .any ops Q S ops.size (Array.replicate ops.size false) a {w with drawn:=w.drawn+1}):(Code.region id ops true).wpIn (Fence.wide.inRound l) n P Q a w:=y7 hm (z1 hd ay _ _ _ _ (wpAny_of_held _ _ _ _ h))
end
abbrev cS:={s:List aj // (κ s)=128}
def ey:cS:=⟨aM,rfl⟩
def qT(s:cS):List ah:=s.val.map aK
theorem sw:hh qT 128:=⟨ae,λs=>by grind [qT],λs u hu=>by obtain⟨y,_,rfl⟩:=Abd.1 hu;rfl⟩
theorem lo(s:cS):(aC s.val).toList=qT s:=aA
structure C8 where
 loc:Nat
 s:cS
def q8(x:C8):List ah:=.int .i64 (x.loc:Int)::qT x.s
theorem ww:hh q8 129:=⟨ae,λx=>by unfold q8;rw[Aaj,sw.len],λx u hu=>by
 rcases Aam.1 hu with rfl|hu
 ·rfl
 ·exact sw.one x.s u hu⟩
structure bz where
 aS:List cS
 cv:List cS
 bQ:List C8
 ops:Nat
 left:Int
 dead:Bool
structure iM where
 d:Nat
 g1:Nat
 g2:Nat
 vp:ah
def gy(l:List cS):Array ah:=(l.flatMap qT).toArray
theorem tG(l:List cS):(gy l).size=κ l*128:=by simp[gy,sw.flat]
theorem B'(l:List cS):(gy l).toList=l.flatMap qT:=aA
def Aw(h:iM)(v:bz):Array ah:=#[.slice (some ⟨h.g1,0,none⟩) (κ v.aS) (κ v.aS),.slice (some ⟨h.g2,0,none⟩) (κ v.aS) (κ v.aS),h.vp,.int .i64 (v.ops:Int),.int .i64 v.left,.bool v.dead]
structure Dv(w:af)(h:iM)(v:bz):Prop where
 dev:aF w h.d 114 (Aw h v)
 b1:aF w h.g1 60 (gy v.aS)
 b2:aF w h.g2 60 (gy v.cv)
 len:κ v.cv=κ v.aS
 max:κ v.aS<=1024
 ne:h.g1≠h.g2
 bQ:ak q8 129 116 w 0 h.vp v.bQ
 Bb:∀x∈v.bQ,x.loc<κ v.aS
 ops:v.ops<=4611686018427387903
 left:-1<=v.left/\v.left<=9223372036854775807
def cM(h:iM)(b:Nat):Prop:=b=h.d\/b=h.g1\/b=h.g2\/h.vp.ownBlock=some b
structure Touch(F:Nat->Prop)(w w':af):Prop where
 os:w'.os=w.os
 tape:w'.tape=w.tape
 output:w'.output=w.output
 size:w.heap.size<=w'.heap.size
 block:∀k,k<w.heap.size->¬F k->w'.heap[k]?=w.heap[k]?
theorem Touch.refl(F:Nat->Prop)(w:af):Touch F w w:=⟨rfl,rfl,rfl,aE _,λ_ _ _=>rfl⟩
theorem Touch.trans{F F':Nat->Prop}{a b c:af}(h:Touch F a b)(k:Touch F' b c)(hf:∀n,F' n->n<a.heap.size->F n):Touch F a c:=⟨by rw[k.os,h.os],by rw[k.tape,h.tape],by rw[k.output,h.output],bK h.size k.size,λn hn hF=>by
  rw[k.block n (ej hn h.size) (λhh=>hF (hf n hh hn)),h.block n hn hF]⟩
theorem Touch.bP{F:Nat->Prop}{w w':af}(h:Up w w'):Touch F w w':=⟨h.os,h.tape,h.output,h.size,λk hk _=>oV h k hk⟩
theorem Touch.bg{F:Nat->Prop}{w w':af}{row:Option Nat}(h:w.grownBy w' row)(hf:∀k,row=some k->F k):Touch F w w':=⟨h.os,h.tape,h.output,h.size,λk hk hF=>h.block k hk (λe=>hF (hf k e.symm))⟩
def Touch.mono{F F':Nat->Prop}{w w':af}(h:Touch F w w')(hf:∀n,F n->F' n):Touch F' w w':=⟨h.os,h.tape,h.output,h.size,λk hk hF=>h.block k hk (λhh=>hF (hf k hh))⟩
theorem Touch.up{F:Nat->Prop}{w0 w w':af}(h:Touch F w w')(hu:Up w0 w)(hf:∀n,F n->w0.heap.size<=n):Up w0 w':=⟨by rw[h.os,hu.os],by rw[h.tape,hu.tape],by rw[h.output,hu.output],bK hu.size h.size,λk hk=>by
  rw[h.block k (ej hk hu.size) (λhh=>aQ)];exact oV hu k hk⟩
theorem aF.ax{w w':af}{C:Array ah}{F:Nat->Prop}(h:aF w g t C)(ht:Touch F w w')(hf:¬F g):aF w' g t C:=by unfold aF;rw[ht.block g h.lt hf];exact h
theorem fC{w w':af}{F:Nat->Prop}{b o:Nat}{v:ah}(h:w.cell? (ad b o)=some v)(ht:Touch F w w')(hf:¬F b):w'.cell? (ad b o)=some v:=by rw[nN (ht.block b (ie w _ h) hf)];exact h
section
variable {w w':af} {h:iM} {v:bz}
theorem Dv.oU(D:Dv w h v)(b:Nat)(hb:cM h b):b<w.heap.size:=by
 rcases hb with rfl|rfl|rfl|hb
 ·exact D.dev.lt
 ·exact D.b1.lt
 ·exact D.b2.lt
 ·exact(D.bQ.aJ b hb).2
theorem Dv.yF(D:Dv w h v):h.d≠h.g1:=λe=>by have h1:=D.dev;rw[e]at h1;have:=h1.symm.trans D.b1;simp at this
theorem Dv.ui(D:Dv w h v):h.d≠h.g2:=λe=>by have h1:=D.dev;rw[e]at h1;have:=h1.symm.trans D.b2;simp at this
theorem jm{t e:Aab}{base g:Nat}{C:Array ah}{α:Type}{f:α->List ah}{k:Nat}{vp:ah}{xs:List α}(hne:t≠e)(hb:aF w g t C)(ho:ak f k e w base vp xs):vp.ownBlock≠some g:=λe0=>by exact Nn
def Dv.up(D:Dv w h v)(hu:Up w w'):Dv w' h v:=⟨D.dev.up hu,D.b1.up hu,D.b2.up hu,D.len,D.max,D.ne,D.bQ.up hu,D.Bb,D.ops,D.left⟩
theorem ak.ax{α:Type}{f:α->List ah}{k:Nat}{e:Aab}{base:Nat}{vp:ah}{xs:List α}(ho:ak f k e w base vp xs){F:Nat->Prop}(ht:Touch F w w')(hf:∀b,vp.ownBlock=some b->¬F b):ak f k e w' base vp xs:=by
 obtain⟨h1,h2⟩:=ho;refine⟨h1,?_⟩;rcases h2 with h2|⟨g,cap,cur,hv,hg,hh,r⟩
 ·simp_all
 ·have hlt:=(qv.1 hh).1;exact OI
theorem Dv.ax(D:Dv w h v){F:Nat->Prop}(ht:Touch F w w')(hf:∀b,cM h b->¬F b):Dv w' h v:=⟨D.dev.ax ht (hf _ (.inl rfl)),D.b1.ax ht (hf _ (.inr (.inl rfl))),D.b2.ax ht (hf _ (.inr (.inr (.inl rfl)))),D.len,D.max,D.ne,D.bQ.ax ht (λb hb=>hf b (.inr (.inr (.inr hb)))),D.Bb,D.ops,D.left⟩
theorem Dv.cells(D:Dv w h v):w.cell? (ad h.d 0)=some (cD h.g1 (κ v.aS) (κ v.aS))/\w.cell? (ad h.d 1)=some (cD h.g2 (κ v.aS) (κ v.aS))/\w.cell? (ad h.d 2)=some h.vp/\w.cell? (ad h.d 3)=some (i6 (v.ops:Int))/\w.cell? (ad h.d 4)=some (i6 v.left)/\w.cell? (ad h.d 5)=some (.bool v.dead):=by refine⟨?_,?_,?_,?_,?_,?_⟩<;>(rw[D.dev.cell];rfl)
end
def h0(w:af)(h:iM)(v':bz)(w':af):Prop:=∃vp,Dv w' {h with vp:=vp} v'/\Touch (cM h) w w'/\∀b,vp.ownBlock=some b->h.vp.ownBlock=some b\/w.heap.size<=b
def h0.same{w w':af}{h:iM}{v':bz}(D:Dv w' h v')(ht:Touch (cM h) w w'):h0 w h v' w':=⟨h.vp,D,ht,λb hb=>.inl hb⟩
theorem h0.Z1{w w':af}{h:iM}{vp:ah}(hw:∀b,vp.ownBlock=some b->h.vp.ownBlock=some b\/w.heap.size<=b)(b:Nat)(hb:cM {h with vp:=vp} b):cM h b\/w.heap.size<=b:=by
 rcases hb with hb|hb|hb|hb
 ·exact .inl (.inl hb)
 ·exact .inl (.inr (.inl hb))
 ·exact .inl (.inr (.inr (.inl hb)))
 ·rcases hw b hb with h|h
  ·exact .inl (.inr (.inr (.inr h)))
  ·omega
theorem AK:∀(l:List ah)(k off:Nat)(cs:Array ah),off+k+κ l<=cs.size->((l.zipIdx k).foldl (λ(cs:Array ah) p=>cs.setIfInBounds (off+p.2) p.1) cs).toList=cs.toList.take (off+k)++(l++cs.toList.drop (off+k+κ l))
 | [],k,off,cs,_=>aq
 | v::l,k,off,cs,hc=>by simp only[Aaj]at hc;rw[List.zipIdx_cons,yP];have ih:=AK l (k+1) off (cs.setIfInBounds (off+k) v) ab;exact M5
def Pt:C8:=⟨0,ey⟩
def ls(x:C8):Array ah:=(q8 x).toArray
theorem oB(x:C8):(ls x).size=129:=by unfold ls;rw[Abh];exact ww.len x
def Hp(x:C8):(ls x).all (·.oneCell')=true:=Bh (ww.one x)
theorem uA:(prog.info? 116).map (λi=>(i.zero,i.size,i.bytes))=some (some (.agg (ls Pt)),129,136):=al
theorem Dx(V cs:Array ah)(off:Nat)(h:off+V.size<=cs.size):V.zipIdx.foldl (λ(cs:Array ah) (p:ah × Nat)=>cs.setIfInBounds (off+p.2) p.1) cs=(Abx cs.toList off V.toList).toArray:=by apply h3.1;rw[<-Array.foldl_toList,Array.toList_zipIdx,AK V.toList 0 off cs ae];rfl
theorem Te(x:C8):prog.built 116 [(0,i6 (x.loc:Int)),(1,.agg (aC x.s.val))]=some (ls x):=by
 obtain⟨i,hi,hz0,_,_⟩:=jN uA;unfold Program.built;rw[hi,underlying116];simp only[hz0];rw[show(List.mapM (λ(f:Field)=>(prog.info? f.type).map λi=>(f.offset,i.size)) _:Option (List (Nat × Nat)))=some [(0,1),(1,128)] from aA];have h1:(aC x.s.val).size=128:=by grind [bX]
 have h0:=oB Pt;simp only[Instr.fill,Value.cells];have hf:=Dx (aC x.s.val) ((ls Pt).setIfInBounds 0 (i6 (x.loc:Int))) 1 ab;simp only[Array.size_zipIdx,h1]at hf;simp[h0,h1];rw[hf];apply h3.1;simp only[Ac0,Abx,Abl];have hl:κ (ls Pt).toList=129:=ae
 have h2:((ls Pt).toList.set 0 (i6 (x.loc:Int))).take 1=[i6 (x.loc:Int)]:=by
  cases hc:(ls Pt).toList with
  | nil=>simp_all
  | cons y r=>simp
 rw[h2,lo,wF (by rw[Aat,hl,sw.len];omega),Ab1];rfl
def ff(s:Nat->Nat)(i x:Nat):Nat->Nat:=λk=>if k=i then x else s k
def gR(s:Nat->Nat)(j:Nat):Nat:=κ ((Aak 64).filter (λk=>decide (s (64*j+k)=1)))
def yu(s:Nat->Nat)(i:Nat):ah:=if i<1024 then .int .u8 (s i:Int)else .int .i64 (gR s (i-1024):Int)
def b'(w:af)(b:Nat)(s:Nat->Nat):Prop:=a7 w b 1040 165 (yu s)
theorem I9(s:Nat->Nat)(j:Nat):gR s j<=64:=by grind [gR]
theorem AG(p q:Nat->Bool)(i:Nat)(h:∀k,k≠i->p k=q k):(κ ((Aak n).filter p)+(if i<n/\q i=true then 1 else 0))=κ ((Aak n).filter q)+(if i<n/\p i=true then 1 else 0):=by
 induction n with
 | zero=>simp
 | succ n ih=>rw[Ab5,kD,kD,Aaf,Aaf];grind
theorem w3(s:Nat->Nat)(i x j:Nat):gR (ff s i x) j+(if j=i/64/\s i=1 then 1 else 0)=gR s j+(if j=i/64/\x=1 then 1 else 0):=by
 unfold gR;by_cases e:j=i/64
 ·have:=AG (n:=64) (λk=>decide (ff s i x (64*j+k)=1)) (λk=>decide (s (64*j+k)=1)) (i%64) (λk hk=>by
   have:64*j+k≠i:=ae
   simp[ff,this])
  grind [ff]
 ·have h1:((Aak 64).filter λk=>decide (ff s i x (64*j+k)=1))=(Aak 64).filter λk=>decide (s (64*j+k)=1):=List.filter_congr (λk hk=>by
   have:=y5.1 hk;have:64*j+k≠i:=ae
   simp[ff,this])
  simp_all
theorem RA(s:Nat->Nat)(i:Nat)(h:s i=1):1<=gR s (i/64):=by have:=w3 s i 0 (i/64);grind
section
variable {w w':af} {b:Nat} {s:Nat->Nat}
theorem b'.state(h:b' w b s){i:Nat}(hi:i<1024):w.cell? ⟨b,i,none⟩=some (.int .u8 (s i:Int)):=by have:=a7.cell h (i:=i) ae;grind [yu]
theorem b'.room(h:b' w b s){j:Nat}(hj:j<16):w.cell? ⟨b,1024+j,none⟩=some (.int .i64 (gR s j:Int)):=by have:=a7.cell h (i:=1024+j) ae;grind [yu]
def b'.up(h:b' w b s)(hu:Up w w'):b' w' b s:=a7.up h hu
theorem b'.congr(h:b' w b s){s':Nat->Nat}(hs:∀i,i<1024->s i=s' i):b' w b s':=a7.congr h (λi hi=>by
 unfold yu;by_cases e:i<1024
 ·simp[e,hs i e]
 ·simp only[e,if_false];congr 2;unfold gR;congr 1;exact List.filter_congr (λk hk=>aQ))
end
theorem tM{w:af}{f:Nat->ah}(h:a7 w b n t f)(i:Nat)(v:ah):Touch (·=b) w (w.setCell ⟨b,i,none⟩ v):=by obtain⟨C,h1,_⟩:=h;grind [Touch.bg,bZ]
theorem a7.ax{w w':af}{f:Nat->ah}(h:a7 w b n t f){F:Nat->Prop}(ht:Touch F w w')(hf:¬F b):a7 w' b n t f:=by obtain⟨C,h1,h2⟩:=h;exact⟨C,h1.ax ht hf,h2⟩
theorem b'.of{W:af}{s g:_}{i to:Nat}(h:a7 W b 1040 165 g)(hi:i<1024)(h1:∀k,k<1024->k≠i->g k=.int .u8 (s k:Nat))(h2:g i=.int .u8 (to:Int))(h3:∀j,j<16->j≠i/64->g (1024+j)=.int .i64 (gR s j:Int))(h4:g (1024+i/64)=.int .i64 (gR (ff s i to) (i/64):Int)):b' W b (ff s i to):=a7.congr h (λk hk=>by
 unfold yu;by_cases e:k<1024
 ·rw[bI e];by_cases e2:k=i
  ·subst e2;rw[h2];simp[ff]
  ·rw[h1 k e e2];simp[ff,e2]
 ·rw[aY e];obtain⟨j,rfl⟩:∃j,k=1024+j:=⟨k-1024,ae⟩;rw[Fq];by_cases e2:j=i/64
  ·subst e2;exact h4
  ·rw[h3 j ae e2];have:=w3 s i to j;simp only[e2,false_and,if_false,Nat.add_zero]at this;rw[this])
theorem rN{s:Nat->Nat}(h:k<1024):yu s k=.int .u8 (s k:Int):=by simp[yu,h]
theorem rM{s:Nat->Nat}(j:Nat):yu s (1024+j)=.int .i64 (gR s j:Int):=by simp[yu]
theorem vS(w:af)(b:Nat)(s:Nat->Nat)(S:b' w b s)(i to:Nat)(hi:i<1024):Aae Aag 111 #[pz b,i6 (i:Int),.int .u8 (to:Int)] w λe w'=>e=rt #[]/\b' w' b (ff s i to)/\Touch (·=b) w w':=by
 have hq:i/64<16:=ae
 obtain⟨hp,hr⟩:=az (RA s i) (I9 s (i/64));have hd:((i:Int)/64)=((i/64:Nat):Int):=ae
 obtain⟨HU,HS⟩:=aw (w3 s i to (i/64)) S;obtain⟨c0,c1,f0,f1⟩:=iv (S.state hi) (S.room hq) (a7.free S i) (a7.free S (1024+i/64));obtain⟨r,aP⟩:=bE (gR s (i/64));obtain⟨q,ai⟩:=bE (i/64);obtain⟨x,hx⟩:=bE (s i);rw[<-aP]at hp hr c1;rw[<-hx]at hp c0;rw[<-ai]at hd c1 hq f1;obtain⟨HQ,HX,HR⟩:=aV ai hx aP;clear ai hx aP;have an:IntKind.i64.wrap (q:Int)=(q:Int):=aX q ae;have aj:((q:Int)<16)=True:=ab
 have ar:((i:Int)<1024)=True:=ab
 by_cases e1:x=1
 ·subst e1;replace hp:1<=r:=hp rfl;have ao:IntKind.i64.wrap ((r:Int)-1)=((r-1:Nat):Int):=by rw[show(r:Int)-1=((r-1:Nat):Int)from ae];exact aX _ ae
  by_cases e2:to=1
  ·subst e2;have ak:IntKind.i64.wrap (((r-1:Nat):Int)+1)=(r:Int):=by rw[show((r-1:Nat):Int)+1=(r:Int)from ae];exact aX _ ae
   go_in;go_wp2_with fail;refine NZ ?_;repeat still_step
   refine U6 ?_;intro HA HT ag al aa aA;go_wp2_with fail;clear c0 c1 f0 f1;generalize w.setCell ⟨b,1024+q,none⟩ (i6 ((r-1:Nat):Int))=w1 at *;obtain⟨HB,ay⟩:=aw (a7.up (HA.set (i:=i) ae (.int .u8 1)) (Up.drew (Up.refl _))) ((HT.trans (tM HA i (.int .u8 1)) (λn h _=>h)).trans (Touch.bP (F:=(·=b)) (Up.drew (Up.refl _))) (λn h _=>h));obtain⟨d1,g1⟩:=az (HB.cell (i:=1024+q) ae) (HB.free (1024+q));simp only[show ¬1024+q=i from ae,if_false,if_true]at d1;generalize(w1.setCell ⟨b,i,none⟩ (.int .u8 1)).drew=w2 at *;refine N0 ?_;repeat still_step
   refine hB ?_;obtain⟨HC,ah⟩:=aw (a7.up (a7.set HB (i:=1024+q) ae (i6 (r:Int))) (Up.drew (Up.refl _))) ((ay.trans (tM HB (1024+q) (i6 (r:Int))) (λn h _=>h)).trans (Touch.bP (F:=(·=b)) (Up.drew (Up.refl _))) (λn h _=>h));clear aa aA ag al;go_wp2_with fail;go_end0;have hu:=HU.out;rw[<-HR.out,<-HX.out]at hu;refine⟨rfl,b'.of HC hi (λk hk hne=>by simp[show ¬k=1024+q from ae,hne,rN hk]) (by simp[show ¬i=1024+q from ae]) (λj hj hne=>by rw[<-HQ.out]at hne;simp[hne,show ¬1024+j=i from ae,rM]) (by rw[<-HQ.out]at hu ⊢;simp at hu ⊢;omega),ah⟩
  ·have et:((to:Int)==1)=false:=by simp;omega
   go_in;go_wp2_with fail;refine NZ ?_;repeat still_step
   refine U6 ?_;intro HA HT ag al aa aA;go_wp2_with fail;clear c0 c1 f0 f1;generalize w.setCell ⟨b,1024+q,none⟩ (i6 ((r-1:Nat):Int))=w1 at *;obtain⟨HB,ay⟩:=aw (a7.up (HA.set (i:=i) ae (.int .u8 (to:Int))) (Up.drew (Up.refl _))) ((HT.trans (tM HA i (.int .u8 (to:Int))) (λn h _=>h)).trans (Touch.bP (F:=(·=b)) (Up.drew (Up.refl _))) (λn h _=>h));go_end0;have hu:=HU.out;rw[<-HR.out,<-HX.out]at hu;refine⟨rfl,b'.of HB hi (λk hk hne=>by simp[show ¬k=1024+q from ae,hne,rN hk]) aq (λj hj hne=>by rw[<-HQ.out]at hne;simp[hne,show ¬1024+j=i from ae,rM]) (by rw[<-HQ.out]at hu ⊢;simp[e2,show ¬1024+q=i from ae]at hu ⊢;omega),ay⟩
 ·have ex:((x:Int)==1)=false:=by simp;omega
  by_cases e2:to=1
  ·subst e2;have ak:IntKind.i64.wrap ((r:Int)+1)=((r+1:Nat):Int):=by rw[show(r:Int)+1=((r+1:Nat):Int)from ae];exact aX _ ae
   go_in;go_wp2_with fail;obtain⟨HB,ay⟩:=aw (a7.set HS (i:=i) ae (.int .u8 1)) (tM HS i (.int .u8 1));have d1:(w.setCell ⟨b,i,none⟩ (.int .u8 1)).cell? (ad b (1024+q))=some (i6 (r:Int)):=(World.cell?_setCell_other _ _ _ _ (λe=>by simp at e<;>omega)).trans c1;have g1:=HB.free (1024+q);clear c0 c1 f0 f1;generalize w.setCell ⟨b,i,none⟩ (.int .u8 1)=w2 at *;refine N0 ?_;repeat still_step
   refine hB ?_;obtain⟨HC,ah⟩:=aw (a7.up (a7.set HB (i:=1024+q) ae (i6 ((r+1:Nat):Int))) (Up.drew (Up.refl _))) ((ay.trans (tM HB (1024+q) (i6 ((r+1:Nat):Int))) (λn h _=>h)).trans (Touch.bP (F:=(·=b)) (Up.drew (Up.refl _))) (λn h _=>h));go_wp2_with fail;go_end0;have hu:=HU.out;rw[<-HR.out,<-HX.out]at hu;refine⟨rfl,b'.of HC hi (λk hk hne=>by simp[show ¬k=1024+q from ae,hne,rN hk]) (by simp[show ¬i=1024+q from ae]) (λj hj hne=>by rw[<-HQ.out]at hne;simp[hne,show ¬1024+j=i from ae,rM]) (by rw[<-HQ.out]at hu ⊢;simp[e1]at hu ⊢;omega),ah⟩
  ·have et:((to:Int)==1)=false:=by simp;omega
   go_in;go_wp2_with fail;obtain⟨HB,ay⟩:=aw (a7.set HS (i:=i) ae (.int .u8 (to:Int))) (tM HS i (.int .u8 (to:Int)));go_end0;have hu:=HU.out;rw[<-HR.out,<-HX.out]at hu;refine⟨rfl,b'.of HB hi (λk hk hne=>by simp[hne,rN hk]) aq (λj hj hne=>by rw[<-HQ.out]at hne;simp[show ¬1024+j=i from ae,rM]) (by have h9:=HR.out;rw[<-HQ.out]at hu h9 ⊢;simp[e1,e2,show ¬1024+q=i from ae,rM]at hu ⊢;omega),ay⟩
def KH(s:Nat->Nat)(i:Int)(x:Nat):Bool:=decide (0<=i/\i<1024/\s i.toNat=x)
theorem rB(s:Nat->Nat)(i x:Nat)(h:i<1024):KH s (i:Int) x=decide (s i=x):=by grind [KH]
theorem zO(w:af)(b:Nat)(s:Nat->Nat)(S:b' w b s)(i:Int)(x:Nat):Aae Aag 220 #[pz b,i6 i,.int .u8 (x:Int)] w λe w'=>e=.returned (.bool (KH s i x))/\w=w':=by
 by_cases h0:0<=i
 ·obtain⟨i,rfl⟩:=ji h0;by_cases h1:i<1024
  ·have c0:=S.state h1;have HR:=an (rB s i x h1);have t0:decide ((0:Int)<=(i:Int))=true:=by simp
   have t1:decide ((i:Int)<1024)=true:=ab
   have t2:((i:Int)<1024)=True:=ab
   generalize s i=y at *;by_cases e:y=x
   ·have t3:((y:Int)==(x:Int))=true:=by simp;omega
    exact Ns
   ·have t3:((y:Int)==(x:Int))=false:=by simp;omega
    exact Ns
  ·have t0:decide ((0:Int)<=(i:Int))=true:=by simp
   have t1:decide ((i:Int)<1024)=false:=ab
   have HR:=an (show KH s (i:Int) x=false by unfold KH;simp;omega);go_in;exact Gc
 ·have t0:decide ((0:Int)<=i)=false:=by simp;omega
  have HR:=an (show KH s i x=false by unfold KH;simp;omega);go_in;exact Gc
def Zl(s:Nat->Nat)(i:Int)(x:Nat):Int:=if KH s i x=true then 0 else 72
def sS(s:Nat->Nat)(i:Int)(x y:Nat):Nat->Nat:=if KH s i x=true then ff s i.toNat y else s
theorem Xv{s:Nat->Nat}{i x y:Nat}(hi:i<1024)(hs:s i=x):sS s (i:Int) x y=ff s i y:=by grind [sS,rB]
theorem qU(w:af)(b:Nat)(s:Nat->Nat)(S:b' w b s)(i:Int)(x y:Nat):Aae Aag 164 #[pz b,i6 i,.int .u8 (x:Int),.int .u8 (y:Int)] w λe w'=>e=.returned (i6 (Zl s i x))/\b' w' b (sS s i x y)/\Touch (·=b) w w':=by
 have I:=an (zO w b s S i x);obtain⟨g,hg⟩:=bE (KH s i x);rw[<-hg]at I;cases g
 ·obtain⟨HE,HV⟩:=aw (show Zl s i x=72 by unfold Zl;rw[<-hg];rfl) (show sS s i x y=s by unfold sS;rw[<-hg];rfl);clear hg;go_in;go_wp2_with fail;refine I.mono ?_;rintro e w1⟨rfl,rfl⟩;go_wp2;go_ret;exact⟨lC,by rw[HV.out];exact S,Touch.refl _ _⟩
 ·obtain⟨HE,HV⟩:=aw (show Zl s i x=0 by unfold Zl;rw[<-hg];rfl) (show sS s i x y=ff s i.toNat y by unfold sS;rw[<-hg];rfl);have hb:0<=i/\i<1024/\s i.toNat=x:=by have:=hg.symm;unfold KH at this;grind
  obtain⟨h0,h1,_⟩:=hb;obtain⟨i,rfl⟩:=ji h0;have ST:=an (vS w b s S i y ae);clear hg h0;go_in;go_wp2_with fail;refine I.mono ?_;rintro e w1⟨rfl,rfl⟩;go_wp2_with fail;refine ST.mono ?_;rintro e w1⟨rfl,S1,T1⟩;go_wp2;go_ret;exact⟨lC,by rw[HV.out];exact S1,T1⟩
theorem WA(w:af)(b:Nat)(s:Nat->Nat)(S:b' w b s)(i:Int):Aae Aag 107 #[pz b,i6 i] w λe w'=>e=.returned (i6 (Zl s i 1))/\b' w' b (sS s i 1 2)/\Touch (·=b) w w':=by have C:=an (qU w b s S i 1 2);go_in;exact KX
theorem RN(w:af)(b:Nat)(s:Nat->Nat)(S:b' w b s)(i:Int):Aae Aag 159 #[pz b,i6 i] w λe w'=>e=.returned (i6 (Zl s i 2))/\b' w' b (sS s i 2 1)/\Touch (·=b) w w':=by have C:=an (qU w b s S i 2 1);go_in;exact KX
theorem QL(w:af)(b:Nat)(s:Nat->Nat)(S:b' w b s)(i:Int):Aae Aag 226 #[pz b,i6 i] w λe w'=>e=.returned (i6 (Zl s i 2))/\b' w' b (sS s i 2 3)/\Touch (·=b) w w':=by have C:=an (qU w b s S i 2 3);go_in;exact KX
def ha(s:Nat->Nat)(n:Nat):Nat:=κ ((Aak n).filter (λk=>decide (s k=1)))
def bN(s:Nat->Nat):Nat:=ha s 1024
theorem ue(s:Nat->Nat)(j:Nat):ha s (64*(j+1))=ha s (64*j)+gR s j:=by unfold ha gR;rw[show 64*(j+1)=64*j+64 from ae,List.range_add,kD,Aaf];congr 1;rw[List.filter_map,Aac];rfl
theorem An(s:Nat->Nat)(n:Nat):ha s n<=n:=by grind [ha]
def x2(s:Nat->Nat):Array ah:=((Aak 16).map (λj=>Ack .i64 (gR s j:Int))).toArray
theorem b'.Zz{w:af}{s:Nat->Nat}(S:b' w b s):w.rangeAt b 1024 (x2 s).toList:=λj v hj=>by
 have hl:j<16:=by
  rcases jO j 16 with h|h
  ·exact h
  ·rw[tc cj]at hj;cases hj
 rw[S.room hl];simp[x2,hl]at hj;rw[<-hj]
theorem AU(s:Nat->Nat)(k:Nat)(h:k<16)(W:af):(Adf 163 (.agg (x2 s)) (i6 (k:Int))).run Aag W=.ok (i6 (gR s k:Int)) W:=by
 have hs:(sizeOf 3).run Aag W=.ok 1 W:=al
 have hg:(isAgg 3).run Aag W=.ok false W:=al
 have hp:((x2 s)[k]?)=some (i6 (gR s k:Int)):=by simp[x2,h]
 simp[Adf,asIntOf,run_underlying (P:=Aag) underlying163,ae,hs,part,hg,hp];omega
theorem AY(s:Nat->Nat):(prog.info? 163).map (·.size)=some (x2 s).size:=aA
theorem kT(w:af)(b:Nat)(s:Nat->Nat)(S:b' w b s):Aae Aag 35 #[pz b] w λe w'=>e=.returned (i6 (bN s:Int))/\w=w':=by
 go_in;go_wp2_with refine cT 163 8 (x2 s) S.Zz (hi:=(AY s)) ?_;go_loop [3,10] (λn i=>∃k:Nat,k<=16/\i=i6 k/\n=i6 (ha s (64*k):Int)) (λ_ i=>16-(Aau i).toNat)
 case atStart=>exact⟨0,ae,rfl,aA⟩
 case round=>
  obtain⟨k,hk,rfl,rfl⟩:=hrel;have HC:=an (ue s k);obtain⟨hc,hr⟩:=az (An s (64*k)) (I9 s k);by_cases hlt:k<16
  ·have ix:=(AU s) k hlt;have b2:((k:Int)<16)=True:=by simp;omega
   generalize gR s k=r at *;generalize ha s (64*k)=c at *;go_wp2;go_round
   case rel=>exact⟨k+1,ae,aq,by rw[HC.out];simp⟩
   case measure=>simp[Aau];omega
  ·obtain rfl:k=16:=by omega
   have b2:((16:Nat):Int)=16:=rfl;go_wp2;go_ret;exact⟨aA,rfl⟩
def bz.bb(v:bz):bz:={v with ops:=if v.ops<4611686018427387903 then v.ops+1 else v.ops}
def bz.hasB(v:bz)(i:Int):Bool:=decide (0<=i/\i<κ v.aS)
def bz.eO(v:bz):bz:=if v.dead=true\/v.left=0 then {v with dead:=true} else {v with left:=if 0<v.left then v.left-1 else v.left}
def bz.hC(v:bz):Bool:=!(v.dead || decide (v.left=0))
theorem jq{w:af}{h:iM}{v:bz}(D:Dv w h v)(i:Nat)(x:ah):Touch (cM h) w (w.setCell ⟨h.d,i,none⟩ x):=Touch.bg (bZ D.dev i x) (λk hk=>FW)
theorem Dv.field{w:af}{h:iM}{v v':bz}(D:Dv w h v)(i:Nat)(x:ah)(hc:(Aw h v).setIfInBounds i x=Aw h v')(hs:v'.aS=v.aS)(hn:v'.cv=v.cv)(hp:v'.bQ=v.bQ)(ho:v'.ops<=4611686018427387903)(hl:-1<=v'.left/\v'.left<=9223372036854775807):Dv (w.setCell ⟨h.d,i,none⟩ x) h v':=by
 have G:=bZ D.dev i x;refine⟨by rw[<-hc];exact D.dev.setCell i x,?_,?_,by rw[hs,hn];exact D.len,by rw[hs];exact D.max,D.ne,?_,by rw[hs,hp];exact D.Bb,ho,hl⟩
 ·rw[hs];exact D.b1.grown G (λe=>D.yF (dE e))
 ·rw[hn];exact D.b2.grown G (λe=>D.ui (dE e))
 ·rw[hp];exact D.bQ.kept G (.inr (jm av D.dev D.bQ))
theorem wm(w:af)(h:iM)(v:bz)(D:Dv w h v):Aae Aag 229 #[pz h.d] w λe w'=>e=rt #[]/\Dv w' h v.bb/\Touch (cM h) w w':=by
 obtain⟨c0,c1,c2,c3,c4,c5⟩:=D.cells;obtain⟨f3,hb⟩:=az (D.dev.free 3) D.ops;obtain⟨n,hn⟩:=bE (v.ops);have HN:=an hn;rw[<-hn]at c3 hb;clear c0 c1 c2 c4 c5 hn;by_cases hlt:n<4611686018427387903
 ·have t1:decide ((n:Int)<4611686018427387903)=true:=by simp;omega
  go_in;go_wp2_with fail;go_end0;have e:(Aw h v).setIfInBounds 3 (i6 ((n:Int)+1))=Aw h v.bb:=by unfold Aw bz.bb;rw[bI di,HN.out];rfl
  exact⟨rfl,Dv.field D 3 _ e rfl rfl rfl (by unfold bz.bb;rw[bI di];show v.ops+1<=_;have:=HN.out;omega) D.left,jq D 3 _⟩
 ·have t1:decide ((n:Int)<4611686018427387903)=false:=by simp;omega
  go_in;go_wp2_with fail;go_end0;have e:v.bb=v:=by unfold bz.bb;rw[aY di]
  exact⟨rfl,aQ,Touch.refl _ _⟩
theorem MO(w:af)(h:iM)(v:bz)(D:Dv w h v)(i:Int)(hi:-9223372036854775808<=i/\i<=9223372036854775807):Aae Aag 230 #[pz h.d,i6 i] w λe w'=>e=.returned (.bool (v.hasB i))/\w=w':=by
 obtain⟨c0,c1,c2,c3,c4,c5⟩:=D.cells;have hm:=D.max;obtain⟨n,hn⟩:=bE (κ v.aS);have HB:=an (show v.hasB i=decide (0<=i/\i<(n:Int))by rw[hn];rfl);rw[<-hn]at c0 hm;clear c1 c2 c3 c4 c5 D hn;by_cases h0:0<=i
 ·have t0:decide (0<=i)=true:=by simp;omega
  by_cases h1:i<(n:Int)
  ·have t1:decide (i<(n:Int))=true:=by simp;omega
   have HR:=an (show v.hasB i=true from FI);exact Nq
  ·have t1:decide (i<(n:Int))=false:=by simp;omega
   have HR:=an (show v.hasB i=false from FI);exact Nq
 ·have t0:decide (0<=i)=false:=by simp;omega
  have HR:=an (show v.hasB i=false from FI);go_in;exact Gc
theorem Ee(w:af)(h:iM)(v:bz)(D:Dv w h v):Aae Aag 262 #[pz h.d] w λe w'=>e=.returned (.bool v.hC)/\Dv w' h v.eO/\Touch (cM h) w w':=by
 obtain⟨c0,c1,c2,c3,c4,c5⟩:=D.cells;obtain⟨f4,f5,hl⟩:=cZ (D.dev.free 4) (D.dev.free 5) D.left;obtain⟨l,aS⟩:=bE (v.left);obtain⟨d,ag⟩:=bE (v.dead);obtain⟨HP,HS,aD,aa⟩:=bW (show v.hC=!(d || decide (l=0))by rw[aS,ag];rfl) (show v.eO=if d=true\/l=0 then {v with dead:=true} else {v with left:=if 0<l then l-1 else l} by rw[aS,ag];rfl) aS ag;rw[<-aS]at c4 hl;rw[<-ag]at c5;clear c0 c1 c2 c3 aS ag;by_cases h0:l=0
 ·subst h0;obtain⟨HR,HV⟩:=aw (show v.hC=false by rw[HP.out];simp) (show v.eO={v with dead:=true} by rw[HS.out,bI (.inr rfl)]);go_in;go_wp2_with fail;go_ret;exact⟨by rw[HR.out];rfl,by rw[HV.out];exact Dv.field D 5 (.bool true) rfl rfl rfl rfl D.ops D.left,jq D 5 _⟩
 have t0:(l==0)=false:=ab
 cases d
 case true=>obtain⟨HR,HV⟩:=aw (show v.hC=false from cj) (show v.eO=v by rw[HS.out,bI (.inl rfl),aa.out]);exact Nr
 case false=>
  have HR:=an (show v.hC=true by rw[HP.out];simpa using h0);by_cases h1:0<l
  ·have t1:decide (0<l)=true:=by simp;omega
   have HV:=an (show v.eO={v with left:=l-1} by rw[HS.out,aY ab,bI h1]);go_in;go_wp2_with fail;go_ret;exact⟨by rw[HR.out];rfl,by rw[HV.out];exact Dv.field D 4 (i6 (l-1)) rfl rfl rfl rfl D.ops ab,jq D 4 _⟩
  ·have t1:decide (0<l)=false:=by simp;omega
   have HV:=an (show v.eO=v by rw[HS.out,aY ab,aY h1,aD.out]);exact Nr
theorem Tr(w:af)(h:iM)(v:bz)(D:Dv w h v):Aae Aag 55 #[pz h.d] w λe w'=>e=.returned (i6 (κ v.aS:Int))/\w=w':=by obtain⟨c0,c1,c2,c3,c4,c5⟩:=D.cells;go_in;exact e3
theorem Qc(w:af)(h:iM)(v:bz)(D:Dv w h v):Aae Aag 53 #[pz h.d] w λe w'=>e=.returned (.bool v.dead)/\w=w':=by obtain⟨c0,c1,c2,c3,c4,c5⟩:=D.cells;go_in;exact e3
end Go.Proofs.YtkpjfnbbkohciaaGreat
