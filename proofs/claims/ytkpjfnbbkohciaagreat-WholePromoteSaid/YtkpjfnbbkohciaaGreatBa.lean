import Derived.Test.YtkpjfnbbkohciaaGreatRows
import Derived.Lib.Hide
import Derived.BigQuiet
import Derived.Carry
import Derived.ChangeKeysEq
import Derived.ChangeOld
import Derived.ChangeSame
import Derived.Deep.DeepAppendRoom
import Derived.Deep.MidRow
import Derived.Deep.QuietTactic
import Derived.Deep.RegionHeld3
import Derived.Deep.WholeRow
import Derived.DeepKeys4
import Derived.JoinedOf
import Derived.Laws.AppendOwnNone
import Derived.Laws.CopyOwn
import Derived.Laws.CopyRow
import Derived.Laws.IdiomStrings
import Derived.Laws.RangeAny
import Derived.Laws.RangeString
import Derived.Laws.ResultCell
import Derived.Lib.AppendZeros
import Derived.Lib.BufferWrite
import Derived.Lib.Bytealg
import Derived.Lib.IndexLaws
import Derived.Lib.QuietBelow
import Derived.Lib.SlBytesConst
import Derived.Lib.SliceRun
import Derived.Lib.Slices
import Derived.Lib.Strings
import Derived.LoopIn
import Derived.LoopNIn
import Derived.MapKept
import Derived.Maps.AppendAt
import Derived.Maps.Own
import Derived.Maps.OwnSet
import Derived.Maps.RangeWalk
import Derived.OpenShut
import Derived.Orders
import Derived.OrdersHeld
import Derived.OrdersIn
import Derived.OwnWalkIn
import Derived.ProofKit
import Derived.RangeFuncBound
import Derived.RangeFuncBox
import Derived.RangeFuncCalls
import Derived.RangeFuncFrom
import Derived.RangeFuncLeaves
import Derived.RangeFuncNested
import Derived.Shelf.Abstract
import Derived.Shelf.RegionOpen
import Derived.ShutString
import Derived.SizedLaws
import Derived.StillTail
import Derived.Stop.BytesEq
import Derived.TacticsInMore
import Derived.WalkKit
set_option maxRecDepth 100000
set_option maxHeartbeats 16000000
set_option linter.all false
open Go renaming Oper->Abi,TypeId->Aab,Ending->Ab3,madeCells->Acu,splice->Abz,execOp->Abt,yielded->Aaz,wpList->Aam,zeroValue->Ab9,undef->Aat,YieldsIf->Ach,wpAnyH->Acp,Calls->Aaf,results_none->Adx,wpAnyIn->Acx,wpStill->Adq
open Go.Region renaming Mode->Ab1,wanted->Aaa,ready->Abf
open Go.RowKit renaming Hid->Aah,intOf->Aaq
open List renaming getElem_cons_succ->Adj,replicate->Aad,flatMap_cons->Abd,length_append->Aae,length_cons->Aaj,append_assoc->Abe,mem_map->Abb,cons_append->Aa2,drop_drop->Ac4,mem_append->Aa3,range->Aal,range_succ->Ab0,map_append->Aao,size_toArray->Abj,length_nil->Aa5,push_toArray->Abk,append_toArray->Abc,nil_append->Aa0,length_map->Aac,length_range->Acl,length_set->Aax,mem_cons->Aak,toList_toArray->Acz,append_nil->Ab4,length->κ
open Go.World renaming cell?->Aco,size_alloc->Aa4
open Nat renaming zero_add->Abn
open Prod.mk renaming injEq->Adh
open UInt8 renaming ofNat->Ab6
open Go.World.ownsRow renaming lt->Ad0
open Go.Value.slice renaming injEq->Abh
open Go.Instr renaming slice->Aav,makeSlice->Aci,sureAddr->Adg,sliceAt->Abq,index->Ac0,buildSlice->Acf
open Go.Value renaming ownBlock->Aan,oneCell'->Ac9,int->Acd
open Go.Oper renaming wp->Ace
open Go.Result renaming andThen->Aar,andThen_ok->Aay
open Go.Sem renaming run_bind->Aa1,run_pure->Ac7
open Go.Proofs.Tryz renaming prog->Aag,underlying60->Acr,underlying30->Aau
open Go.Op renaming equalIn->Ac3
open Int renaming toNat_natCast->Abr,toNat->Adu
open Bool renaming false_eq_true->Ab2,and_eq_true->Aa8,or_eq_true->Adk,and_eq_false_iff->Ac2
open Go.Result.ok renaming injEq->Adi
open Go.Fence renaming wide->Abw
open Array renaming replicate_succ->Aa9,replicate_zero->Aba,toList_setIfInBounds->Abo
open Option.some renaming injEq->Aai
open Go.Addr.mk renaming injEq->Abm
namespace Go.Proofs.YtkpjfnbbkohciaaGreat
open Go.Proofs.Tryz Go.RowKit Go.Sort
variable{B b base base' cap fuel g j k m n:Nat}{rest:List Abi}{H α β:Type}{a:Addr}{md:Ab1}{e t ty:Aab}{o:Abi}{fn:Func}{ops:Array Abi}{p:Nat->Aab->Prop}
structure dH(p:Prop):Prop where
 dJ:p
abbrev pz(b:Nat):Value:=.pointer (some ⟨b,0,none⟩)
abbrev pq(b o:Nat):Value:=.pointer (some ⟨b,o,none⟩)
abbrev i6(b:Int):Value:=.int .i64 b
abbrev u6(b:Int):Value:=.int .u64 b
abbrev cC(b n c:Nat):Value:=.slice (some ⟨b,0,none⟩) n c
abbrev sq(b o n c:Nat):Value:=.slice (some ⟨b,o,none⟩) n c
abbrev nl:Value:=.slice none 0 0
abbrev ad(b o:Nat):Addr:=⟨b,o,none⟩
abbrev rt(a:Array Value):Ab3:=.returned (.tuple a)
def an{p:Prop}(h:p):Aah p:=h
def bE{α:Sort _}(x:α):∃y,y=x:=⟨_,rfl⟩
theorem fL:(∀{α:Type}{xs:List α}{i:Nat}(h:i<xs.toArray.size),xs.toArray[i]=xs[i]'(by simpa using h))/\(∀{α:Type}(a:α)(l:List α)(i:Nat)(h:i+1<κ (a::l)),(a::l)[i+1]=l[i]'(by simpa using h))/\(∀{α:Type}(a:α)(l:List α)(h:0<κ (a::l)),(a::l)[0]=a)/\(∀{α:Type}(l:List α)(i:Nat)(a:α),l.toArray.setIfInBounds i a=(l.set i a).toArray)/\(∀{α:Type}(l:List α)(a b:α),(a::l).set 0 b=b::l)/\(∀{α:Type}(l:List α)(a b:α)(n:Nat),(a::l).set (n+1) b=a::l.set n b):=⟨λh=>List.getElem_toArray h,λa l i h=>Adj a l i h,λ_ _ _=>rfl,λ_ _ _=>List.setIfInBounds_toArray ..,λ_ _ _=>rfl,λ_ _ _ _=>rfl⟩
def aw{p0 p1:Prop}(aa:p0)(aD:p1):Aah p0/\Aah p1:=⟨aa,aD⟩
def az{p0 p1:Prop}(aa:p0)(aD:p1):p0/\p1:=⟨aa,aD⟩
def aW{p0 p1 p2:Prop}(aa:p0)(aD:p1)(aL:p2):Aah p0/\Aah p1/\Aah p2:=⟨aa,aD,aL⟩
def cX{p0 p1 p2:Prop}(aa:p0)(aD:p1)(aL:p2):p0/\p1/\p2:=⟨aa,aD,aL⟩
def bS{p0 p1 p2 p3:Prop}(aa:p0)(aD:p1)(aL:p2)(ab:p3):Aah p0/\Aah p1/\Aah p2/\Aah p3:=⟨aa,aD,aL,ab⟩
def iQ{p0 p1 p2 p3:Prop}(aa:p0)(aD:p1)(aL:p2)(ab:p3):p0/\p1/\p2/\p3:=⟨aa,aD,aL,ab⟩
def eQ{p0 p1 p2 p3 p4:Prop}(aa:p0)(aD:p1)(aL:p2)(ab:p3)(ad:p4):Aah p0/\Aah p1/\Aah p2/\Aah p3/\Aah p4:=⟨aa,aD,aL,ab,ad⟩
def Cd{p0 p1 p2 p3 p4:Prop}(aa:p0)(aD:p1)(aL:p2)(ab:p3)(ad:p4):p0/\p1/\p2/\p3/\p4:=⟨aa,aD,aL,ab,ad⟩
def iC{p0 p1 p2 p3 p4 p5:Prop}(aa:p0)(aD:p1)(aL:p2)(ab:p3)(ad:p4)(ae:p5):Aah p0/\Aah p1/\Aah p2/\Aah p3/\Aah p4/\Aah p5:=⟨aa,aD,aL,ab,ad,ae⟩
def sk{p0 p1 p2 p3 p4 p5:Prop}(aa:p0)(aD:p1)(aL:p2)(ab:p3)(ad:p4)(ae:p5):p0/\p1/\p2/\p3/\p4/\p5:=⟨aa,aD,aL,ab,ad,ae⟩
def vL{p0 p1 p2 p3 p4 p5 p6:Prop}(aa:p0)(aD:p1)(aL:p2)(ab:p3)(ad:p4)(ae:p5)(af:p6):Aah p0/\Aah p1/\Aah p2/\Aah p3/\Aah p4/\Aah p5/\Aah p6:=⟨aa,aD,aL,ab,ad,ae,af⟩
def Jw{p0 p1 p2 p3 p4 p5 p6 p7:Prop}(aa:p0)(aD:p1)(aL:p2)(ab:p3)(ad:p4)(ae:p5)(af:p6)(ah:p7):Aah p0/\Aah p1/\Aah p2/\Aah p3/\Aah p4/\Aah p5/\Aah p6/\Aah p7:=⟨aa,aD,aL,ab,ad,ae,af,ah⟩
def Zn{p0 p1 p2 p3 p4 p5 p6 p7 p8:Prop}(aa:p0)(aD:p1)(aL:p2)(ab:p3)(ad:p4)(ae:p5)(af:p6)(ah:p7)(ai:p8):Aah p0/\Aah p1/\Aah p2/\Aah p3/\Aah p4/\Aah p5/\Aah p6/\Aah p7/\Aah p8:=⟨aa,aD,aL,ab,ad,ae,af,ah,ai⟩
def Wr{p0 p1 p2 p3 p4 p5 p6 p7 p8 p9 aj:Prop}(aa:p0)(aD:p1)(aL:p2)(ab:p3)(ad:p4)(ae:p5)(af:p6)(ah:p7)(ai:p8)(al:p9)(ag:aj):Aah p0/\Aah p1/\Aah p2/\Aah p3/\Aah p4/\Aah p5/\Aah p6/\Aah p7/\Aah p8/\Aah p9/\Aah aj:=⟨aa,aD,aL,ab,ad,ae,af,ah,ai,al,ag⟩
def aas{p0 p1 p2 p3 p4 p5 p6 p7 p8 p9 aj an:Prop}(aa:p0)(aD:p1)(aL:p2)(ab:p3)(ad:p4)(ae:p5)(af:p6)(ah:p7)(ai:p8)(al:p9)(ag:aj)(ak:an):Aah p0/\Aah p1/\Aah p2/\Aah p3/\Aah p4/\Aah p5/\Aah p6/\Aah p7/\Aah p8/\Aah p9/\Aah aj/\Aah an:=⟨aa,aD,aL,ab,ad,ae,af,ah,ai,al,ag,ak⟩
section
variable{P K:Prop}(k:K)
def Y'(h:P:=by
  refine pk 5 _ (by kernel_rfl) rfl rfl ?_;refine vR (.tmp 56) rfl name rfl NM1 NM2 ?_;intro vn w9 hn hu aQ;rw[<-HE.out]at hoa;obtain⟨HO,HN,H8,HU⟩:=bS (hoa.up hu) (hn) ((O8d.wk OO S45 hga).up hu) ((Ud.aF hba (Nat.le_of_lt SW)).trans hu);have HZ:=an (show w.heap.size<=w9.heap.size from HU.size);clear aQ;obtain⟨aa,ac,rfl⟩:=HO.cv.slice;obtain⟨na,nc,rfl⟩:=HN.slice;obtain⟨la,lc,rfl⟩:=H8.cv.slice;have JN:=an (AO _ _ _ (xZ w9 aa na la _ _ _ ac nc lc _ _ _ HO.cv HN H8.cv) OKJ);have av:=mB w9 (.cells #[.slice aa (κ hdr) ac,.slice na (κ name) nc,.slice la (κ (cV dead)) lc] 30);have au:=an (ai w9 (.cells #[.slice aa (κ hdr) ac,.slice na (κ name) nc,.slice la (κ (cV dead)) lc] 30));generalize cV dead=aE at *;refine ph 7 _ (by kernel_rfl) rfl rfl ?_;intro K hK;go_simp;refine hK _ _ ?_;refine ph 8 _ (by kernel_rfl) rfl rfl ?_;intro K2 ao;go_simp;refine JN.mono ?_;rintro e aV⟨vj,rfl,OJ,UJ⟩;refine ao _ _ ?_;refine yk 9 (.tuple #[vj,i6 0]) rfl ?_;simp only[Act.put,fL];refine yk 10 (vj) rfl ?_;simp only[Act.put,fL];refine yk 11 (i6 0) rfl ?_;simp only[Act.put,fL];refine yk 12 (vj) rfl ?_;simp only[Act.put,fL];refine yk 13 (i6 0) rfl ?_;simp only[Act.put,fL];refine⟨by kernel_rfl,?_⟩;(try simp only[Act.put]);go_wp2;go_ret2;refine .inr ⟨_,_,HT,rfl,?_,HU.trans (au.trans UJ)⟩;rw[RB.out];exact OJ.mono (by rw[av];have:=HZ.out;omega)):P:=h
def Za(h:P:=by
  go_in;go_wp2;refine wp_region_held (S:=(λW=>aI W gb 153 (fD H.pb G.next vb vm G.u))) (by kernel_rfl) ?_;change wpAnyH _ _ _ _ _ 10 _ _ (w.drew);generalize w.drew=w1 at *;refine ta 0 ?_;refine ta 2 ?_;refine ta 3 ?_;refine ta 4 ?_;refine tb 5 rfl (yc (λW hS=>hS.cell 0)) ?_;refine ok 1 ?_;intro K hK;go_simp;refine CO.mono ?_;rintro e w2⟨rfl,u2⟩;obtain⟨FS2,U2⟩:=aw (FSx.up u2) (UD.trans u2);refine hK _ _ FS2 ?_;clear hK K;refine ok 6 ?_;intro K hK;go_simp;refine(PM w2 U2).mono ?_;rintro e wx⟨rfl,aM⟩;rw[<-aM];clear aM;refine hK _ _ FS2 ?_;clear hK K;refine ok 7 ?_;intro K hK;go_simp;refine(CN w2 U2).mono ?_;rintro e wx⟨rfl,aM⟩;rw[<-aM];clear aM;refine hK _ _ FS2 ?_;clear hK K;refine ta 8 ?_;refine ta 9 ?_;refine dn ?_;go_wp2;go_ret;exact⟨by rw[HR.out];rfl,U2⟩):P:=h
def Zb(h:P:=by
  clear sza;go_wp2_with fail;refine PT.mono ?_;rintro e w7⟨vp,rfl,op,u7⟩;obtain⟨U7,OP,ar⟩:=aW (U6.trans u7) op.cv (OL6.up u7);obtain⟨pa,pc,ag⟩:=op.cv.slice;rw[h5]at ag;subst ag;have P2:=an (h5 (κ l));have MK:=λW=>DX (P:=prog) 30 5 (.int .u8 0) 1 underlying30 ew n (by omega) (by omega) W;have U8:=an (ai w7 (.cells (j1 (.int .u8 0) n) 5));obtain⟨aD,ax,NE⟩:=aW (OP.up U8) (ar.up U8) (show(Value.slice la (5*κ l) lc).ownBlock≠some w7.heap.size from λe=>by have:=(ar.aJ _ e).2;omega);have Z8:=aI.new w7 5 (j1 (.int .u8 0) n);obtain⟨WN,aE⟩:=aw (show w.heap.size<=w7.heap.size from U7.size) (U7.trans U8);have bd:∀W,(Instr.slice 30 (cC w7.heap.size n n) (some (i6 2)) none none).run prog W=.ok (sq w7.heap.size 2 (n-2) (n-2)) W:=λW=>by exact XS
  go_wp2_with((with_reducible refine zA (.tmp 74) (.tmp 75) 30 30 ?_);refine hC rfl (.tmp 74) (.tmp 75) 30 30 rfl 5 underlying30 (by kernel_rfl) aH cg w7.heap.size 0 n n rfl (.slice pa 2 pc) (aX [2] [κ l]) rfl aD (by rw[P2.out];omega) 5 _ Z8 (by rw[P2.out,r0];omega) ?_);intro w9 aM aG aA;obtain⟨B9,ay,U9⟩:=aW (show aI w9 w7.heap.size 5 ((splice (List.replicate n (0:UInt8)) 0 (aX [2] [κ l])).map aH).toArray from by rw[<-B2];have:=aM;rw[Mv]at this;exact this) (show Own aH 5 w9 w4.heap.size (.slice la (5*κ l) lc) (iq (l.map dD))from World.ownsRow.kept ax aA (.inr NE)) (aE.aF aG WN);clear MK;go_wp2_with((with_reducible refine zA (.tmp 78) (.tmp 79) 30 30 ?_);refine hC rfl (.tmp 78) (.tmp 79) 30 30 rfl 5 underlying30 (by kernel_rfl) aH cg w7.heap.size 2 (n-2) (n-2) rfl (.slice la (5*κ l) lc) (iq (l.map dD)) rfl ay.cv (by rw[LB.out];omega) 5 _ B9 (by rw[LB.out];unfold splice;simp;omega) ?_);intro aV aq aj aL;have bt:=an (show aI aV w7.heap.size 5 ((iK t l).map aH).toArray from by rw[HST.out,<-LB.out,<-G6 P2.out (by rw[LB.out];omega),<-B2];exact aq)
  obtain⟨U10,au⟩:=aw (U9.aF aj WN) (show(iK t l).length=n by rw[HST.out,List.length_append,List.length_append,P2.out,LB.out,List.length_replicate];omega);go_wp2;go_ret2;refine⟨_,rfl,?_,U10⟩;have:=Lx bt WN (by rw[au.out];omega);rw[au.out]at this;exact this):P:=h
def Zc(h:P:=by
  obtain⟨ab,cb,rfl⟩:=os7.cA.slice;obtain⟨zs,e,z⟩:=Rz.s os7 u s.t.size;have s:=s.new z;have E:=an (show ls M full=(0,PX M nx l2 (Bv M.l full).id)from by rw[DM.out];unfold pS v8;rw[hr];rfl);clear hr;go_wp2_with(refine fw s ?_;intro _ w s);have e0:w.cell? ⟨_,0,none⟩=some (.int .u64 (y.id:Int)):=(s.e6 (t:=90) gB).cell 0;have c2:w.cell? ⟨mb,2,none⟩=some (.map (some kb)):=(bm.up s.pure).cell 2;refine wp_region_still_tail 6 (by kernel_rfl) (by kernel_rfl) ?_;simp only[List.take_succ_cons,List.take_zero,List.drop_succ_cons,List.drop_zero];change wpStill _ _ w.drew (λa'=>wpList _ _ _ _ a' w.drew) _ _;have UD:=Up.drew (Up.refl w);replace e0:=UD.cell e0;replace c2:=UD.cell c2;have s:=s.up UD;generalize w.drew=w9 at *;repeat still_step
  refine wpStill_nil ?_;have A9:=an (HA.up s.pure);obtain⟨ar,ao,-,al⟩:=A9.out;have B9:aI w9 _ 73 (aQ nx (.slice ab (κ l2) cb)):=s.e6 gB;have O9:=s.cA (ys:=zs);rw[e]at O9;go_wp2_with(at_delete;refine YT rfl (.tmp 57) (.tmp 59) rfl kb n M.B rfl al y.id rfl YI ?_);intro aV ak g10;have bC:=Touch.be (F:=(·=kb)) g10 (λk hk=>by cases hk;rfl);have bt:=an (B9.ax bC (λe=>al.ne B9 e.symm));have ag:=ao.ax bC (λe=>al.ne ao e.symm);go_wp2_with(first
   | refine db 73 10 bt ?_
   | ((with_reducible refine cB 73 (.tmp 63) (.tmp 61) ?_);refine cc rfl 73 (.tmp 63) (.tmp 61) rfl mb 0 (aQ nx (.slice ab (κ l2) cb)) rfl rfl 76 _ ag (eu nx _) (by simp[n3,aQ]) (jh nx ab (κ l2) cb) ?_))
  intro w11 ad ai;rw[Bf]at ad;have H:=X3 A9 (O9.mono (Nat.zero_le _)) (ak.mono (Nat.le_succ _)) g10 ad ai;go_wp2_with fail;go_ret;rw[E.out,<-hy.out];exact⟨rfl,H.1,(Touch.bV s.pure).and H.2 (λb hb=>.inl hb)⟩):P:=h
def Zd(h:P:=by
  have aB:=up1.trans up4;clear up1 up4;obtain⟨c0,d0,d1,d2⟩:=CA' w4 aB;have aQ:=ai w4 (.cells zr 87);obtain⟨aj,ar⟩:=az (aB.trans aQ) (RM w4 w0.heap.size aB.size);have p1:=aG.up PI1' aj;obtain⟨f0,f1,f2,f3⟩:=CA' _ aj;have hz0:=aj.size;go_wp2_with(at_builtin;refine eX pw rfl (.tmp 33) (.tmp 36) 88 rfl w0.heap.size 87 (.agg #[i6 0,u6 0,.int .u32 0]) 24 underlying88 hy w4.heap.size (κ l+1) 0 [] rfl rfl ar pv1 (l.take i) rfl p1 i (by simp;omega) (by omega) hz0 ?_);intro w6 aa _ b6;try rw[List.nil_append]at aa
  have aJ:Up w0 w6:=aj.aF b6 (Nat.le_refl _);clear c0 d0 d1 d2 f0 f1 f2 f3 ar p1 b6 hz0 aQ aj aB;obtain⟨c0,d0,d1,d2⟩:=CA' _ aJ;obtain⟨aC,aL⟩:=az (aJ.trans (ai w6 (.cells #[i6 ql,u6 (qb:Int),.int .u32 (qs:Int)] 87))) (aa.up (ai w6 (.cells #[i6 ql,u6 (qb:Int),.int .u32 (qs:Int)] 87)));have aM:=aC.size;obtain⟨f0,f1,f2,f3⟩:=CA' _ aC;go_wp2_with(at_builtin;refine eX pw rfl (.tmp 38) (.tmp 40) 88 rfl w0.heap.size 87 (.agg #[i6 0,u6 0,.int .u32 0]) 24 underlying88 hy w4.heap.size (κ l+1) i (l.take i) Lt.symm rfl aL (cC w6.heap.size 1 1) [⟨ql,qb,qs⟩] rfl (rG w6 _ rfl ql qb qs) (i+1) (by simp;omega) (by omega) aM ?_);intro w8 ab _ b8;have aD:Up w0 w8:=aC.aF b8 (Nat.le_refl _);clear c0 d0 d1 d2 f0 f1 f2 f3 aa aL b8 aM aC aJ;obtain⟨c0,d0,d1,d2⟩:=CA' _ aD;obtain⟨p2,a1⟩:=az (aG.up PI2' aD) aD.size;go_wp2_with(at_builtin;refine eX pw rfl (.tmp 42) (.tmp 45) 88 rfl w0.heap.size 87 (.agg #[i6 0,u6 0,.int .u32 0]) 24 underlying88 hy w4.heap.size (κ l+1) (i+1) (l.take i++[⟨ql,qb,qs⟩]) (by simp;omega) rfl ab pv2 (l.drop i) rfl p2 (κ l+1) (by simp;omega) (by omega) a1 ?_);intro w9 ax _ b9;go_wp2_with fail;go_ret2;exact⟨_,rfl,ax.mono aI.size,(aI.trans aD).aF b9 aI.size⟩):P:=h
def aa6(h:P:=by
  obtain⟨a2,c2,rfl⟩:=os.cA.slice;obtain⟨zs,e2,z⟩:=Rz.s os u s.t.size;refine⟨_,_,rfl,z,?_⟩;repeat refine kt ?_
  refine kn (λ_ w u s=>?_);refine ks (λw s=>?_);refine kt ?_;refine kd (λw u s=>?_);obtain⟨k1,k2,k3,k4⟩:=K.ok nx l' hx;go_wp2_with(refine fw s ?_;intro _ w s);have g6:=s.cA (ys:=zs);rw[e2]at g6;refine(nX w gb H G (A.up s.pure) nx _ l' g6.cA k2 k4).mono ?_;rintro e w6⟨rfl,a6,t6⟩;obtain⟨aa,ad,g1,_⟩:=A.up s.pure;have c:=s.e6 (t:=100) gB;replace c:=c.ax t6 (eS c g1 (by decide));obtain⟨T,s,rg⟩:=cX ((Touch.bV (F:=λk=>PF H k\/k=gb) s.pure).trans (t6.mono (F':=λk=>PF H k\/k=gb) (λ_ h=>.inr h)) (λ_ h _=>h)) (Fr.start w6) c.range;go_wp2_with(refine fw s ?_;intro _ w s);obtain⟨r,ag⟩:∃r:Int,r=ye (id {G with next:=nx,l:=l'}):=⟨_,rfl⟩;have hr:=an ag;clear ag;have FT:Calls prog 44 #[k6 gb] w λe w'=>e=.returned (.int .i64 r)/\Up w w':=by rw[hr.out];exact BA w gb H _ (a6.up s.pure) k1 k3 sI
  refine FT.mono ?_;rintro e w⟨rfl,u⟩;have s:=s.up u;go_wp2_with fail;refine p3 s ?_;exact⟨r,_,H.h.vp,rfl,.inr ⟨nx,l',hx,rfl,hr⟩,a6.up s.pure,T.iD s.pure,λ_ h=>.inl h⟩):P:=h
def aa7(h:P:=by
  intro K hK;refine fx _ rfl _ ju ?_;obtain⟨u5,b5⟩:=az (ai w4 (.cells (aQ 0 (nl)) 73)) (aI.new w4 73 (aQ 0 (nl)));refine hK _ _ u5 ?_;clear hK K;(try simp only[Act.put,fL]);refine ok 8 ?_;intro K hK;go_simp;refine(CA _ u5).mono ?_;intro e W h;obtain⟨nx,va,vm,vc,nn,rfl,rq,au⟩:=jg.of h RNZ;obtain⟨u6,b6,s5⟩:=cX (u5.trans au) (b5.up au) (Nat.le_refl w4.heap.size);refine hK _ _ u6 ?_;clear hK K;(try simp only[Act.put,fL]);obtain⟨q,hq⟩:=bE (w4.heap.size);rw[<-hq]at b6 ⊢;refine ta 9 ?_;refine ta 10 ?_;refine ta 11 ?_;(try simp only[Act.put,fL]);exact FIN q W nx va vm vc nn (an ⟨u6,b6,by omega,rq⟩)):P:=h
def aa8(h:P:=by
  intro K hK;go_simp;refine(CA w4 (Up.refl _)).mono ?_;intro e w5 h;obtain⟨nx,va,vm,vc,nn,rfl,rq,u5⟩:=jg.of h RNZ;obtain⟨u6,b6,aC,s5⟩:=iQ (u5.trans (ai w5 (.cells (aQ 0 (nl)) 73))) (aI.new w5 73 (aQ 0 (nl))) (rq.up (ai w5 (.cells (aQ 0 (nl)) 73))) u5.size;refine hK _ _ u5 ?_;clear hK K;(try simp only[Act.put,fL]);refine ta 9 ?_;refine ta 10 ?_;refine ta 11 ?_;(try simp only[Act.put,fL]);refine ok 12 ?_;intro K hK;refine fx _ rfl _ ju ?_;refine hK _ _ u6 ?_;clear hK K;(try simp only[Act.put,fL]);generalize w5.alloc (.cells (aQ 0 (nl)) 73)=W at *;generalize w5.heap.size=q at *;exact FIN q W nx va vm vc nn (an ⟨u6,b6,s5,aC⟩)):P:=h
def Ze(h:P:=by
  go_in;go_wp2_with(refine arm ?_);refine wp_region_still_tail 6 (by kernel_rfl) (by kernel_rfl) ?_;simp only[List.take_succ_cons,List.take_zero,List.drop_succ_cons,List.drop_zero];change wpStill _ _ (World.drew _) (λa'=>wpList _ _ _ _ a' (World.drew _)) _ _;repeat still_step
  refine wpStill_nil ?_;go_wp2;refine wp_region_still_tail 6 (by kernel_rfl) (by kernel_rfl) ?_;simp only[List.take_succ_cons,List.take_zero,List.drop_succ_cons,List.drop_zero];change wpStill _ _ (World.drew _) (λa'=>wpList _ _ _ _ a' (World.drew _)) _ _;repeat still_step
  refine wpStill_nil ?_;go_wp2_with fail;refine FR.mono ?_;rintro e w5⟨rfl,S5,T5⟩;obtain⟨A5,T5⟩:=aw (A2.G2 S5 T5) ((Touch.bV (F:=PF H) U2).trans (T5.mono (F':=PF H) (λn h=>.inr (.inl h))) (λn h _=>h));go_wp2;go_ret;exact⟨⟨_,rfl⟩,by rw[HS.out];exact A5,T5⟩):P:=h
def Zf(h:P:=by
  intro w6 aV aG;have u6:=HP.1.grown aG (λk hk=>by cases hk;exact HP.2.2.1);obtain⟨A6,aa⟩:=aw ((HA.up UD).up u6) ((B2.up UD).up u6);refine hK _ _ u6 ?_;clear hK K CA RNZ;(try simp only[Act.put,fL]);refine ta 14 ?_;(try simp only[Act.put,fL]);refine dn ?_;go_wp2_with(refine arm ?_);refine(wK _ _ _ n M A6 HN RR.val _ _ _ _ _ (HP.2.2.2.grown HP.2.1 (by decide) aG) HNEW).mono ?_;rintro e w7⟨rfl,A7,T7⟩;have B7:=an (aa.ax T7 (A6.IB aa (by decide)));go_wp2_with(first|refine arm ?_|refine pH ?_);intro wz hbz ag;have H:=an (nE A7 ((Touch.bV (F:=λb=>b=mb\/b=kb) ((UU.trans UD).trans u6)).and T7 (λb hb=>.inl hb)) B7 (Nat.le_succ _) ag);go_wp2;(try simp only[exi]);exact bN (hi:=IS) (.tuple #[.agg (aD aM),i6 (((h2 M RR.val).1:Nat):Int)]) hbz ⟨rfl,H.1,H.2⟩):P:=h
def KX(h:dH K->P:=by
  intro ζ;obtain⟨w2,hw2⟩:=bE ((w.alloc (.cells (hX o vd vk) 33)).alloc (.cells (aD aM) 60));obtain⟨u1,u2⟩:=az (ai w (.cells (hX o vd vk) 33)) (ai (w.alloc (.cells (hX o vd vk) 33)) (.cells (aD aM) 60));obtain⟨b1,b2⟩:=az ((aI.new w 33 (hX o vd vk)).up u2) (aI.new (w.alloc (.cells (hX o vd vk) 33)) 60 (aD aM));rw[aN]at b2;have UU:=an (u1.trans u2);rw[<-hw2]at b1 b2 UU;obtain⟨HW2,S2,LT,IS⟩:=bS hw2 (show w2.heap.size=w.heap.size+2 from by rw[hw2];simp only[aN]) (show(∀k,cK H.h k->k<w.heap.size)/\p<w.heap.size from⟨λk hk=>A.ga.pa.lt k (.inr (.inr hk)),A.e6.lt⟩) (show(prog.info? 60).map (·.size)=some (aD aM).size from dI);have c0:w2.cell? (ad w.heap.size 0)=some (i6 o.kind):=b1.cell 0;have c1:w2.cell? (ad w.heap.size 1)=some (.string (strOf o.name)):=b1.cell 1;rw[hw2]at c0;rw[hw2]at c1;rw[hk]at c0;go_in;revert c0;revert c1;revert IS;revert LT;revert S2;revert HW2;revert UU;revert b2;revert b1;revert u2;revert u1;revert hw2;revert w2;exact ζ.dJ):P:=h ⟨k⟩
def Ug(h:P:=by
  obtain rfl:k=κ l:=by omega
  have b3:((κ l:Int)<(κ l:Int))=False:=by simp
  have os:=OS.out;rw[List.take_length,Nat.sub_self,List.replicate_zero,List.append_nil]at os;obtain⟨O9,a7,IB⟩:=aW os (zN next (some ⟨w.heap.size+2,0,none⟩) (κ l) (κ l)) (eu next (.slice (some ⟨w.heap.size+2,0,none⟩) (κ l) (κ l)));clear os OS k1;go_wp2_with(first
   | ((with_reducible refine eR 73 #[(0,.tmp 26),(1,.tmp 27)] ?_);refine kG rfl 73 0 1 (.tmp 26) (.tmp 27) rfl _ _ (aQ next (.slice (some ⟨w.heap.size+2,0,none⟩) (κ l) (κ l))) a7 rfl rfl ?_)
   | refine dL 73 2 28 (aQ next (.slice (some ⟨w.heap.size+2,0,none⟩) (κ l) (κ l))) BR ?_)
  intro wz hbz ag;obtain⟨BZ,UZ⟩:=aw hbz (UR.grown ag (λkk aB=>by cases aB;omega));obtain⟨ys,h1,h2,h3⟩:=O9.out;have OZ:=an (show bt wz w.heap.size (.slice (some ⟨w.heap.size+2,0,none⟩) (κ l) (κ l)) l from⟨ys,h1,ak.kept h2 ag (.inr (by simp[Value.ownBlock])),λy hy=>ak.kept (h3 y hy) ag (.inr (eA (by decide) BR (h3 y hy)))⟩);clear hbz ag h1 h2 h3;go_wp2_with fail;(try simp only[exi]);exact bodyPost_ret (v:=.agg (aQ next (.slice (some ⟨w.heap.size+2,0,none⟩) (κ l) (κ l)))) (ny rfl _ _ _ (w.heap.size+1) 73 _ rfl BZ _ underlying73 rfl IB) rfl ⟨_,rfl,OZ,UZ⟩):P:=h
def F4(h:dH K->P:=by
  intro ζ;obtain⟨w2,hw2⟩:=bE ((w.alloc (.cells (hX o vd vk) 33)).alloc (.cells (aD aM) 60));obtain⟨u1,u2⟩:=az (ai w (.cells (hX o vd vk) 33)) (ai (w.alloc (.cells (hX o vd vk) 33)) (.cells (aD aM) 60));obtain⟨b1,b2⟩:=az ((aI.new w 33 (hX o vd vk)).up u2) (aI.new (w.alloc (.cells (hX o vd vk) 33)) 60 (aD aM));rw[aN]at b2;have UU:=an (u1.trans u2);rw[<-hw2]at b1 b2 UU;obtain⟨B1,B2,HW2,HA,HN,HI,IS⟩:=vL b1 b2 hw2 (A.up UU) hn I (show(prog.info? 60).map (·.size)=some (aD aM).size from dI);obtain⟨vb,bm,os,ma⟩:=HA.out;have hv:=os.cA;revert hv;revert ma;revert os;revert bm;revert vb;revert IS;revert HI;revert HN;revert HA;revert HW2;revert B2;revert B1;revert UU;revert b2;revert b1;revert u2;revert u1;revert hw2;revert w2;exact ζ.dJ):P:=h ⟨k⟩
def Uh(h:dH K->P:=by
  intro ζ;have F7:=an (show aI w7 wr.heap.size 326 (ig ⟨false,(x:Int),(y:Int)⟩)/\Up w4 w7 from⟨F6.1.up u7,F6.2.trans u7⟩);refine hK _ _ F7.1 ?_;refine tk 12 (.tuple #[vp,i6 0]) rfl ya (F7.1) ?_;refine tk 13 (vp) rfl ya (F7.1) ?_;refine tk 14 (i6 0) rfl ya (F7.1) ?_;refine tk 15 (vp) rfl ya (F7.1) ?_;refine tk 16 (i6 0) rfl ya (F7.1) ?_;refine dn ?_;obtain⟨OP,OZ,UZ⟩:=aW (show Own aH 5 w7 w4.heap.size vp bb from by rw[BB.out];exact OP) (O3.up F7.2) (U3.trans F7.2);have ar:=an (show aY w7 vp bb from OP.cv);clear F7;obtain⟨za,zc,ak⟩:=ar.slice;rw[HBL.out]at ak;revert ak;revert zc;revert za;revert ar;revert UZ;revert OZ;revert OP;exact ζ.dJ):P:=h ⟨k⟩
def Ui(h:dH K->P:=by
  intro ζ;have F7:=an (show aI w7 wr.heap.size 326 (ig ⟨true,(x:Int),(y:Int)⟩)/\Up w4 w7 from⟨F6.1.up u7,F6.2.trans u7⟩);refine hK _ _ F7.1 ?_;refine tk 12 (.tuple #[vp,i6 0]) rfl ya (F7.1) ?_;refine tk 13 (vp) rfl ya (F7.1) ?_;refine tk 14 (i6 0) rfl ya (F7.1) ?_;refine tk 15 (vp) rfl ya (F7.1) ?_;refine tk 16 (i6 0) rfl ya (F7.1) ?_;refine dn ?_;obtain⟨OP,OZ,UZ⟩:=aW (show Own aH 5 w7 w4.heap.size vp bb from by rw[BB.out];exact OP) (O3.up F7.2) (U3.trans F7.2);have ar:=an (show aY w7 vp bb from OP.cv);clear F7;obtain⟨za,zc,ak⟩:=ar.slice;rw[HBL.out]at ak;revert ak;revert zc;revert za;revert ar;revert UZ;revert OZ;revert OP;exact ζ.dJ):P:=h ⟨k⟩
def Uj(h:dH K->P:=by
  intro ζ;obtain⟨HV,HR,U1,U2⟩:=bS hv hr (ai w (.cells (aQ next (.slice la (κ l) lc)) 73)) (ai (w.alloc (.cells (aQ next (.slice la (κ l) lc)) 73)) (.cells (aQ 0 (.slice none 0 0)) 73));have b1:=(aI.new w 73 (aQ next (.slice la (κ l) lc))).up U2;have c0:((w.alloc (.cells (aQ next (.slice la (κ l) lc)) 73)).alloc (.cells (aQ 0 (.slice none 0 0)) 73)).cell? ⟨w.heap.size,0,none⟩=some (.int .u64 (next:Int)):=b1.cell 0;have c1:((w.alloc (.cells (aQ next (.slice la (κ l) lc)) 73)).alloc (.cells (aQ 0 (.slice none 0 0)) 73)).cell? ⟨w.heap.size,1,none⟩=some (.slice la (κ l) lc):=b1.cell 1;have b2:=aI.new (w.alloc (.cells (aQ next (.slice la (κ l) lc)) 73)) 73 (aQ 0 (.slice none 0 0));rw[aN]at b2;obtain⟨B2,UU,C1,C0,SZ⟩:=eQ b2 (U1.trans U2) c1 c0 (show((w.alloc (.cells (aQ next (.slice la (κ l) lc)) 73)).alloc (.cells (aQ 0 (.slice none 0 0)) 73)).heap.size=w.heap.size+2 by rw[aN,aN]);have MK:∀W:World,(Instr.makeSlice 71 (.int .i64 (κ l:Int)) (.int .i64 (κ l:Int))).run prog W=.ok (.slice (some ⟨W.heap.size,0,none⟩) (κ l) (κ l)) (W.alloc (.cells (madeCells b8 (κ l*11)) 90)):=λW=>BS 71 90 (.agg b8) 11 112 underlying71 j' (κ l) (by omega) (by omega) W;clear b1 b2;revert MK;revert SZ;revert C0;revert C1;revert UU;revert B2;revert c1;revert c0;revert U2;revert U1;revert HR;revert HV;exact ζ.dJ):P:=h ⟨k⟩
def Uk(h:P:=by
  clear hvo hn;go_in;go_wp2_with(first
   | refine gY 73 0 (aQ next (.slice a (κ l) cap)) ?_)
  refine VN.mono ?_;rintro e w2⟨rfl,u2⟩;obtain⟨U2,B2⟩:=aw (U1.trans u2) (B1.up u2);clear u2;go_wp2_with(first
   | refine db 73 2 B2 ?_)
  refine(RN _ U2).mono ?_;rintro e w3⟨rfl,u3⟩;have U3:=an (U2.trans u3);clear u3;go_wp2_with fail;go_ret2;exact⟨by rw[HE.out];rfl,U3⟩):P:=h
def Ul(h:P:=by
  clear h2 HF2 HF3;go_in;go_wp2_with fail;refine P1.mono ?_;rintro e w2⟨rfl,hw2⟩;rw[hw2];clear hw2;go_wp2_with fail;refine P2.mono ?_;rintro e w2⟨rfl,hw2⟩;rw[hw2];clear hw2;go_wp2;go_ret;exact⟨by rw[HE.out];rfl,rfl⟩):P:=h
def Um(h:dH K->P:=by
  intro ζ;obtain⟨G7,GV,GL⟩:=aW (show w.heap.size+7<=w5.heap.size from by have:=J5.c2.lt;omega) (show(Value.slice vd (κ pre) vc).ownBlock≠some w5.heap.size from λe=>by have:=(J5.ov.aJ _ e).2;omega) (show ga<w5.heap.size from World.block_lt_of_cell? w5 _ CA5);refine ok 11 ?_;intro K hK;refine fx 87 rfl (a6 hole) fh ?_;have u8:=ai w5 (.cells (a6 hole) 87);obtain⟨J6,ao,B8,K8⟩:=bS (J5.up u8) (u8.cell CA5) (aI.new w5 87 (a6 hole)) (KeepsOthers.alloc w5 (.cells (a6 hole) 87));have S8:=an (show aI (w5.alloc (.cells (a6 hole) 87)) w.heap.size 94 #[pz H.pb]/\aI (w5.alloc (.cells (a6 hole) 87)) (w.heap.size+1) 41 #[sq ga offa (κ ats) ac]/\aI (w5.alloc (.cells (a6 hole) 87)) (w.heap.size+1+1+1+1) 88 #[.slice vd (κ pre) vc]/\(w5.alloc (.cells (a6 hole) 87)).cell? (ad ga (offa+κ pre))=some (i6 (i:Int))from⟨J6.x3,J6.x5,J6.x8,ao⟩);refine hK _ _ S8 ?_;clear hK K;(try simp only[Act.put,fL]);revert S8;revert K8;revert B8;revert ao;revert J6;revert u8;revert GL;revert GV;revert G7;exact ζ.dJ):P:=h ⟨k⟩
def Un(h:dH K->P:=by
  intro ζ;obtain⟨G7,GV,GL,a1⟩:=bS (show w.heap.size+7<=w4.heap.size from by have:=J4.c2.lt;omega) (show(Value.slice vd (κ pre) vc).ownBlock≠some w4.heap.size from λe=>by have:=(J4.ov.aJ _ e).2;omega) (show ga<w4.heap.size from World.block_lt_of_cell? w4 _ CA4) (HB4.up (ai w4 (.cells (a6 hole) 87)));refine fx 87 rfl (a6 hole) fh ?_;have u8:=ai w4 (.cells (a6 hole) 87);obtain⟨J5,CA5,B8,K8⟩:=bS (J4.up u8) (u8.cell CA4) (aI.new w4 87 (a6 hole)) (KeepsOthers.alloc w4 (.cells (a6 hole) 87));have S8:=an (show aI (w4.alloc (.cells (a6 hole) 87)) w.heap.size 94 #[pz H.pb]/\aI (w4.alloc (.cells (a6 hole) 87)) (w.heap.size+1) 41 #[sq ga offa (κ ats) ac]/\aI (w4.alloc (.cells (a6 hole) 87)) (w.heap.size+1+1+1+1) 88 #[.slice vd (κ pre) vc]/\(w4.alloc (.cells (a6 hole) 87)).cell? (ad ga (offa+κ pre))=some (i6 (i:Int))from⟨J5.x3,J5.x5,J5.x8,CA5⟩);refine hK _ _ S8 ?_;(try simp only[Act.put,fL]);revert S8;revert K8;revert B8;revert CA5;revert J5;revert u8;revert a1;revert GL;revert GV;revert G7;exact ζ.dJ):P:=h ⟨k⟩
def ZV(h:P:=by
  obtain⟨al,U5,HN,HK⟩:=bS (B2_4.up u5) (U4.trans u5) hk hkl;obtain⟨x,hx⟩:=bE (recAt G.l k);have HX:=an hx;rw[<-hx]at od ⊢;obtain⟨da,dc,rfl⟩:=(ak.row od pw).slice;clear hk hkl hx;go_wp2_with(first|refine arm ?_|refine pH ?_);intro wz hbz ag;have UZ:=an (U5.grown ag (λk hk=>by grind));go_wp2_with fail;exact bN (.tuple #[.agg (b7 x (.slice da (κ x.dead) dc)),i6 0]) hbz (.inr ⟨k,_,by rw[HE.out];exact HN,HK,by rw[<-HX.out],by rw[<-HX.out];exact(ak.kept od ag (.inr (eA (by decide) al od))).mono U4.size,UZ⟩)):P:=h
def Uo(h:dH K->P:=by
  intro ζ;obtain⟨w2,hw2⟩:=bE ((w.alloc (.cells (hX o vd vk) 33)).alloc (.cells (aD aM) 60));obtain⟨u1,u2⟩:=az (ai w (.cells (hX o vd vk) 33)) (ai (w.alloc (.cells (hX o vd vk) 33)) (.cells (aD aM) 60));obtain⟨b1,b2⟩:=az ((aI.new w 33 (hX o vd vk)).up u2) (aI.new (w.alloc (.cells (hX o vd vk) 33)) 60 (aD aM));rw[aN]at b2;have UU:=an (u1.trans u2);rw[<-hw2]at b1 b2 UU;obtain⟨HW2,HA,HN,IS⟩:=bS hw2 (A.up UU) hn (show(prog.info? 60).map (·.size)=some (aD aM).size from dI);have c0:w2.cell? (ad w.heap.size 0)=some (i6 o.kind):=b1.cell 0;have c1:w2.cell? (ad w.heap.size 1)=some (.string (strOf o.name)):=b1.cell 1;revert c1;revert c0;revert IS;revert HN;revert HA;revert HW2;revert UU;revert b2;revert b1;revert u2;revert u1;revert hw2;revert w2;exact ζ.dJ):P:=h ⟨k⟩
def Uq(h:dH K->P:=by
  intro ζ;obtain⟨w2,hw2⟩:=bE ((w.alloc (.cells (hX o vd vk) 33)).alloc (.cells (aD aM) 60));obtain⟨u1,u2⟩:=az (ai w (.cells (hX o vd vk) 33)) (ai (w.alloc (.cells (hX o vd vk) 33)) (.cells (aD aM) 60));obtain⟨b1,b2⟩:=az ((aI.new w 33 (hX o vd vk)).up u2) (aI.new (w.alloc (.cells (hX o vd vk) 33)) 60 (aD aM));rw[aN]at b2;have UU:=an (u1.trans u2);rw[<-hw2]at b1 b2 UU;obtain⟨HW2,S2,LT,IS⟩:=bS hw2 (show w2.heap.size=w.heap.size+2 from by rw[hw2];simp only[aN]) (show(∀k,cK H.h k->k<w.heap.size)/\p<w.heap.size from⟨λk hk=>A.ga.pa.lt k (.inr (.inr hk)),A.e6.lt⟩) (show(prog.info? 60).map (·.size)=some (aD aM).size from dI);have c0:w2.cell? (ad w.heap.size 0)=some (i6 o.kind):=b1.cell 0;have c1:w2.cell? (ad w.heap.size 1)=some (.string (strOf o.name)):=b1.cell 1;revert c1;revert c0;revert IS;revert LT;revert S2;revert HW2;revert UU;revert b2;revert b1;revert u2;revert u1;revert hw2;revert w2;exact ζ.dJ):P:=h ⟨k⟩
def Ur(h:dH K->P:=by
  intro ζ;rintro e w6⟨rfl,D7⟩;obtain⟨⟨bm,j7⟩,T7⟩:=J5.put D7;obtain⟨J6,ao,K7⟩:=aW j7 (show w6.cell? (ad ga (offa+κ pre))=some (i6 (i:Int))from fC CA5 T7 hga) (show KeepsOthers w5 w6 from Touch.others T7 (λk hk=>J5.pa.cellsOf hk));have nB:=J5.pa.b' B8 (by decide);have B8:=an (B8.ax T7 nB);clear nB;have S7:=an (show aI w6 w.heap.size 94 #[pz H.pb]/\aI w6 (w.heap.size+1) 41 #[sq ga offa (κ ats) ac]/\aI w6 (w.heap.size+1+1+1+1) 88 #[.slice vd (κ pre) vc]/\w6.cell? (ad ga (offa+κ pre))=some (i6 (i:Int))from⟨J6.x3,J6.x5,J6.x8,ao⟩);refine hK _ _ S7 ?_;(try simp only[Act.put,fL]);refine ta 8 ?_;revert S7;revert B8;revert K7;revert ao;revert J6;revert T7;revert j7;revert bm;revert D7;revert w6;exact ζ.dJ):P:=h ⟨k⟩
def Us(h:dH K->P:=by
  intro ζ;(try simp only[Act.put,fL]);refine ZS 4 (u6 (id:Int)) rfl rfl (Qx x4) ?_;(try simp only[Act.put,fL]);refine B9 6 (.bool true) rfl rfl ?_;(try simp only[Act.put,fL]);refine B9 7 (.bool true) rfl rfl ?_;(try simp only[Act.put,fL]);refine B9 8 (.func (.yield lp) #[] #[]) rfl rfl ?_;(try simp only[Act.put,fL]);refine B9 9 (i6 (k:Int)) rfl rfl ?_;(try simp only[Act.put,fL]);refine vO 10 (by kernel_rfl) rfl rfl ?_;intro K hK;revert hK;revert K;exact ζ.dJ):P:=h ⟨k⟩
def Ut(h:P:=by
  go_in;go_wp2_with(refine arm ?_);rw[<-HW1.out];refine wp_region_quiet_below (by rfl) (by kernel_rfl) ?_;repeat(go_big_quiet_step (fail))
  refine wpQuiet_nil ?_;intro w4 av;obtain⟨⟨d,os⟩,hw4⟩:=av;have up4:Up w1 w4:=by rw[hw4];exact below_regrown _ _ _
  clear hw4;go_wp2;go_ret;exact⟨by simp;omega,U1.trans up4⟩):P:=h
def Uu(h:P:=by
  go_in;go_wp2_with(refine arm ?_);rw[<-HW2.out];refine SP.mono ?_;rintro e w3⟨rfl,u3⟩;obtain⟨U3,ad⟩:=aw (UU.trans u3) (b2.up u3);have c0:=(b1.up u3).cell 0;go_wp2_with(first|refine arm ?_|refine pH ?_);intro wz hbz ag;have UZ:=an (U3.grown ag (λk hk=>by grind));go_wp2;exact bN (hi:=IZ) (.tuple #[.agg b8,i6 141]) hbz (.inl ⟨141,HE,rfl,UZ⟩)):P:=h
def Uv(h:P:=by
  rw[<-hzn]at hz;clear hzn;subst hz;obtain⟨bp,y8,bB⟩:=J10.push gr11 own11;obtain⟨d8,f8⟩:=az (y8.cell 0) (y8.free 0);simp only[List.getElem?_toArray,List.getElem?_cons_zero]at d8;obtain⟨bC,bq⟩:=aw bp (((KW.trans KK).trans (rX U10)).trans (bB.trans (KeepsOthers.setCell w11 ⟨w.heap.size+1+1+1+1,0,none⟩ (.slice za zn zc))));clear c8;go_wp2;exact⟨bq.from _,JJ.wj bC,bm,_,by rw[bj.out,List.map_append];exact bC⟩):P:=h
def Uw(h:P:=by
  go_in;go_wp2_with(refine arm ?_);rw[<-HW2.out];refine SP.mono ?_;rintro e w3⟨rfl,u3⟩;obtain⟨U3,ad⟩:=aw (u1.trans u3) (b2.up u3);go_wp2_with(first|refine arm ?_|refine pH ?_);intro wz hbz ag;have UZ:=an (U3.grown ag (λk hk=>by grind));go_wp2;exact bN (hi:=IZ) (.tuple #[.agg b8,i6 141]) hbz (.inl ⟨141,HE,rfl,UZ⟩)):P:=h
def KY(h:P:=by
  refine hK _ _ ?_;clear hK K;(try simp only[Act.put,fL]);refine B9 11 (.bool true) rfl rfl ?_;(try simp only[Act.put,fL]);refine B9 12 (.bool true) rfl rfl ?_;(try simp only[Act.put,fL]);refine wpAnyIn_done (by kernel_rfl) ?_ _;gi_wp2;refine bodyPost_ret (results_none rfl _ _ _) rfl ?_;exact⟨⟨_,rfl⟩,.inr ⟨_,ao,aa⟩⟩):P:=h
def Ux(h:dH K->P:=by
  intro ζ;refine ta 13 ?_;(try simp only[Act.put,fL]);refine dn ?_;have U10:=an (ai w9 (.cells (a6 (ar P.st (i,dz b j))) 87));obtain⟨J10,PR,LO⟩:=aW (J9.up U10) (vs w9 _ rfl (ar P.st (i,dz b j))) (show(its.map (ar P.st)).length=κ pre by rw[List.length_map,IL]);obtain⟨n1,n2⟩:=aw (show(κ (its.map (ar P.st)) + [(ar P.st (i,dz b j))].length)*24<=140737488355328 by rw[LO.out];simp;omega) (show(its.map (ar P.st)).length + [(ar P.st (i,dz b j))].length<=9223372036854775807 by rw[LO.out];simp;omega);have c8:=J9.x8.cell 0;simp only[List.getElem?_toArray,List.getElem?_cons_zero]at c8;revert c8;revert n2;revert n1;revert LO;revert PR;revert J10;revert U10;exact ζ.dJ):P:=h ⟨k⟩
def Uy(h:P:=by
  rw[<-hzn]at hz;clear hzn;subst hz;obtain⟨bp,y8,bB⟩:=J10.push gr11 own11;obtain⟨d8,f8⟩:=az (y8.cell 0) (y8.free 0);simp only[List.getElem?_toArray,List.getElem?_cons_zero]at d8;have bq:=an (((KW.trans KK).trans (rX U10)).trans (bB.trans (KeepsOthers.setCell w11 ⟨w.heap.size+1+1+1+1,0,none⟩ (.slice za zn zc))));clear c8;go_wp2;exact⟨bq.from _,JJ.wj bp,bm,_,by rw[bj.out,List.map_append];exact bp⟩):P:=h
def Uz(h:dH K->P:=by
  intro ζ;refine ta 13 ?_;(try simp only[Act.put,fL]);refine dn ?_;have U10:=an (ai w9 (.cells (a6 (ar P.st (i,sn))) 87));obtain⟨J10,PR,LO⟩:=aW (J9.up U10) (vs w9 _ rfl (ar P.st (i,sn))) (show(its.map (ar P.st)).length=κ pre by rw[List.length_map,IL]);obtain⟨n1,n2⟩:=aw (show(κ (its.map (ar P.st)) + [(ar P.st (i,sn))].length)*24<=140737488355328 by rw[LO.out];simp;omega) (show(its.map (ar P.st)).length + [(ar P.st (i,sn))].length<=9223372036854775807 by rw[LO.out];simp;omega);have c8:=J9.x8.cell 0;simp only[List.getElem?_toArray,List.getElem?_cons_zero]at c8;revert c8;revert n2;revert n1;revert LO;revert PR;revert J10;revert U10;exact ζ.dJ):P:=h ⟨k⟩
def UA(h:dH K->P:=by
  intro ζ;intro w5 ar av;have ad:=ar;rw[lM]at ad;have T5:=Touch.be (F:=(·=w.heap.size+2)) av (λkk aB=>by cases aB;rfl);have O5:=an (HP x na (κ x.dead) nc 0 (b7 x (.slice na (κ x.dead) nc)).toList w5 (by simp[b7]) (Rq _ _ _ _) HO ad av);rw[TS.out]at O5;obtain⟨U5,Z0,Z1,Z2⟩:=bS (U4.grown av (λkk aB=>by cases aB;omega)) (fC D0 T5 (by omega)) (fC D1 T5 (by omega)) (E4.ax T5 (by omega));clear ar ad av T5;revert Z2;revert Z1;revert Z0;revert U5;revert O5;revert w5;exact ζ.dJ):P:=h ⟨k⟩
def UB(h:dH K->P:=by
  intro ζ;obtain⟨w2,hw2⟩:=bE ((w.alloc (.cells (hX o vd vk) 33)).alloc (.cells (aD aM) 60));obtain⟨u1,u2⟩:=az (ai w (.cells (hX o vd vk) 33)) (ai (w.alloc (.cells (hX o vd vk) 33)) (.cells (aD aM) 60));obtain⟨b1,b2⟩:=az ((aI.new w 33 (hX o vd vk)).up u2) (aI.new (w.alloc (.cells (hX o vd vk) 33)) 60 (aD aM));rw[aN]at b2;have UU:=an (u1.trans u2);rw[<-hw2]at b1 b2 UU;obtain⟨HW2,HA,HN⟩:=aW hw2 (A.up UU) hn;revert HN;revert HA;revert HW2;revert UU;revert b2;revert b1;revert u2;revert u1;revert hw2;revert w2;exact ζ.dJ):P:=h ⟨k⟩
def UC(h:dH K->P:=by
  intro ζ;have e0:(kd==0)=false:=by simp;omega
  have e1:(kd==1)=false:=by simp;omega
  have e2:(kd==2)=false:=by simp;omega
  have e3:(kd==3)=false:=by simp;omega
  have e4:(kd==4)=false:=by simp;omega
  have e5:(kd==5)=false:=by simp;omega
  have e6:(kd==6)=false:=by simp;omega
  have e7:(kd==7)=false:=by simp;omega
  have e8:(kd==8)=false:=by simp;omega
  have e9:(kd==9)=false:=by simp;omega
  have B3:=an b2;revert B3;revert e9;revert e8;revert e7;revert e6;revert e5;revert e4;revert e3;revert e2;revert e1;revert e0;exact ζ.dJ):P:=h ⟨k⟩
def KZ(h:P:=by
  refine⟨_,_,rfl,.q (v:=nl) (ak.nil _ _ _ _ _) u s.t.size,?_⟩;repeat refine kt ?_
  refine kn (λ_ w u s=>?_);refine ks (λw s=>?_);refine kt ?_;refine kd (λw u s=>?_);have nz:((n:Int) != 0)=true:=by have:=K.nz n hx;simp;omega
  go_wp2_with fail;refine p3 s ?_;exact⟨(n:Int),G,H.h.vp,rfl,.inl ⟨n,hx,rfl,K.nz n hx,rfl⟩,A.up s.pure,Touch.bV s.pure,λ_ h=>.inl h⟩):P:=h
def UD(h:P:=by
  go_in;go_wp2_with fail;refine(R1 _).mono ?_;rintro e w1⟨rfl,up1⟩;go_wp2_with fail;refine(R2 _).mono ?_;rintro e w2⟨rfl,ab⟩;go_wp2;go_ret;exact⟨rfl,up1.trans ab⟩):P:=h
def UE(h:P:=by
  simp only[Act.put,fL];refine iy 5 _ (by kernel_rfl) rfl rfl ?_;refine aaA _ (.tmp 11) rfl _ rfl ?_;simp only[Act.put,fL,size_alloc];refine wpAny_take (i:=6) (v:=pz (w5.heap.size+2)) rfl (by kernel_rfl) (by rfl) (by kernel_rfl) (λ_ _ _ h=>h) (.inl ⟨rfl,λ_=>rfl⟩) ?_;refine⟨by rfl,?_⟩;simp only[Act.put,fL];go_wp2;go_ret;exact⟨_,rfl,F.1,F.2⟩):P:=h
def ZW(h:P:=by
  have HE:=an (Xr (i:=i) hn);clear hn;obtain⟨U4,B2_4⟩:=aw (U3.trans (ai w3 (.cells b8 90))) ((b2.up u3).up (ai w3 (.cells b8 90)));go_wp2_with(first|refine arm ?_|refine pH ?_);intro wz hbz ag;obtain⟨BZ,UZ⟩:=aw hbz (U4.grown ag (λk hk=>by grind));go_wp2;exact bN (hi:=IZ) (.tuple #[.agg b8,i6 141]) BZ (.inl ⟨141,HE,rfl,UZ⟩)):P:=h
def ZX(h:P:=by
  obtain⟨al,U5,HN⟩:=aW (B2_4.up u5) (U4.trans u5) hn;clear hn;go_wp2_with(first|refine arm ?_|refine pH ?_);intro wz hbz ag;obtain⟨BZ,UZ⟩:=aw hbz (U5.grown ag (λk hk=>by grind));go_wp2;exact bN (hi:=IZ) (.tuple #[.agg b8,i6 (n:Int)]) BZ (.inl ⟨n,by rw[HE.out];exact HN,rfl,UZ⟩)):P:=h
def wJ(h:P:=by
  go_wp2_with(refine arm ?_);rw[<-HW2.out];refine CL.mono ?_;intro e w3 hr;have HR:=an (hr.pre uu);obtain⟨r,G2,vp,bg,H2,rfl,_⟩:=hr;go_wp2;go_ret;exact HR):P:=h
def Gt(h:dH K->P:=by
  intro ζ;obtain⟨w2,hw2⟩:=bE ((w.alloc (.cells (hX o vd vk) 33)).alloc (.cells (aD aM) 60));obtain⟨u1,u2⟩:=az (ai w (.cells (hX o vd vk) 33)) (ai (w.alloc (.cells (hX o vd vk) 33)) (.cells (aD aM) 60));obtain⟨b1,b2⟩:=az ((aI.new w 33 (hX o vd vk)).up u2) (aI.new (w.alloc (.cells (hX o vd vk) 33)) 60 (aD aM));rw[aN]at b2;have UU:=an (u1.trans u2);rw[<-hw2]at b1 b2 UU;have HW2:=an hw2;revert HW2;revert UU;revert b2;revert b1;revert u2;revert u1;revert hw2;revert w2;exact ζ.dJ):P:=h ⟨k⟩
def K0(h:P:=by
  obtain rfl:j=κ x.dead:=by omega
  have b8:((κ x.dead:Int)<(κ x.dead:Int))=False:=by simp
  have hd:=HD.out;rw[List.take_length]at hd;have HF:=an (HE.trans hd);clear hd;go_wp2;go_ret;exact⟨by rw[HF.out];rfl,UR⟩):P:=h
def K1(h:P:=by
  go_in;go_wp2_with fail;refine P1.mono ?_;rintro e w2⟨rfl,hw2⟩;rw[hw2];clear hw2;go_wp2;go_ret;exact⟨by rw[HE.out];rfl,Up.refl _⟩):P:=h
def UF(h:P:=by
  simp at h2;subst h2;obtain rfl:lo=0:=by omega
  simp only[Value.slice.injEq]at hv;obtain⟨rfl,_,rfl⟩:=hv;refine .inl ⟨by simp,_,cap,rfl,hm,λh=>?_⟩;by_cases hc:cap=0
  ·exact hc
  ·simp_all):P:=h
def UG(h:P:=by
  go_in;go_wp2_with fail;refine P1.mono ?_;rintro e w2⟨rfl,hw2⟩;rw[hw2];clear hw2;go_wp2;go_ret;exact⟨by rw[HE.out];rfl,rfl⟩):P:=h
def UH(h:dH K->P:=by
  intro ζ;have b5:((2:Int)+5*(κ l:Int)>(n:Int))=False:=by simp;omega
  have wl:=dP (κ l) (by omega);have UA:=an (ai w5 (.cells #[i6 2] 3));have sza:=aN w5 (.cells #[i6 2] 3);have UB:=an (ai (w5.alloc (.cells #[i6 2] 3)) (.cells #[u6 (κ l:Int)] 70));have i1:=(aC.er (f:=bA) w5 w5.heap.size rfl #[i6 2] 3 (0,0) [2] 1 rfl (by unfold maxLen;omega) rfl).up UB;have i2:=aC.er (f:=cu) (w5.alloc (.cells #[i6 2] 3)) (w5.heap.size+1) (by rw[sza]) #[u6 (κ l:Int)] 70 (0,0) [κ l] 1 rfl (by unfold maxLen;omega) rfl;obtain⟨PT,U6⟩:=aw (ys _ _ [2] i1 (by simp) _ [κ l] i2 (by intro k hk;simp at hk;omega) (ON (by omega))) ((U5.trans UA).trans UB);revert U6;revert PT;revert i2;revert i1;revert UB;revert sza;revert UA;revert wl;revert b5;exact ζ.dJ):P:=h ⟨k⟩
def UI(h:P:=by
  go_in;go_wp2_with fail;refine P1.mono ?_;rintro e w2⟨rfl,hw2⟩;rw[hw2];clear hw2;go_wp2;go_ret2;exact⟨_,by rw[HE.out]<;>rfl,by rw[HE.out];exact Own.nil _ _ _ _,Up.refl _⟩):P:=h
def ZY(h:P:=by
  have HE:=an (Xs (i:=i) hn (by omega));clear hn;obtain⟨U4,B2_4⟩:=aw (U3.trans (ai w3 (.cells b8 90))) ((b2.up u3).up (ai w3 (.cells b8 90)));go_wp2_with(first|refine arm ?_|refine pH ?_);intro wz hbz ag;have UZ:=an (U4.grown ag (λk hk=>by grind));go_wp2;exact bN (hi:=IZ) (.tuple #[.agg b8,i6 172]) hbz (.inl ⟨172,HE,rfl,UZ⟩)):P:=h
def K2(h:dH K->P:=by
  intro ζ;refine hK _ _ ?_;(try simp only[Act.put,fL]);refine B9 11 (.bool false) rfl rfl ?_;(try simp only[Act.put,fL]);refine B9 12 (.bool false) rfl rfl ?_;(try simp only[Act.put,fL]);refine wpAnyIn_done (by kernel_rfl) ?_ _;exact ζ.dJ):P:=h ⟨k⟩
def UJ(h:P:=by
  rw[hs]at hf;simp only[Nat.zero_add]at hf;have hne:¬k=0:=by omega
  have hle:¬16777216<k:=by omega
  simp only[Array.size_zipIdx,hC]at hf;have hv:(Value.agg C).cells=C:=rfl;simp[Instr.buildSlice,run_underlying ht,sizeOf,typeInfo,hi,hz0,hz1,zeroValue,Instr.fill,hv,hC,hne,hle,newRow];rw[hf]):P:=h
def UK(h:dH K->P:=by
  intro ζ;refine wpStill_nil ?_;obtain⟨HA,HT⟩:=aw (a7.set HS (i:=1024+q) (by omega) (i6 ((r-1:Nat):Int))) (tC HS (1024+q) (i6 ((r-1:Nat):Int)));have aj:=HA.cell (i:=i) (by omega);have aA:=HA.cell (i:=1024+q) (by omega);have ag:=HA.free i;have al:=HA.free (1024+q);simp only[show ¬i=1024+q by omega,if_false,if_true,rz hi]at aj aA;revert aA;revert aj;revert al;revert ag;revert HT;revert HA;exact ζ.dJ):P:=h ⟨k⟩
def UL(h:dH K->P:=by
  intro ζ;(try simp only[Act.put,fL]);refine ta 7 ?_;(try simp only[Act.put,fL]);refine ta 8 ?_;(try simp only[Act.put,fL]);refine ta 9 ?_;(try simp only[Act.put,fL]);exact ζ.dJ):P:=h ⟨k⟩
def UM(h:dH K->P:=by
  intro ζ;obtain⟨c8,c6,c7,f6,f7⟩:=Cd (HJ.x8.cell 0) (HJ.x6.cell 0) (HJ.x7.cell 0) (HJ.x6.free 0) (HJ.x7.free 0);simp only[List.getElem?_toArray,List.getElem?_cons_zero]at c8 c6 c7;obtain⟨za,zc,hz⟩:=(ak.row HJ.ov pw).slice;revert hz;revert zc;revert za;revert c7;revert c6;revert c8;revert f7;revert f6;exact ζ.dJ):P:=h ⟨k⟩
def UN(h:dH K->P:=by
  intro ζ;rintro e w5⟨rfl,D7⟩;obtain⟨⟨bm,j7⟩,T7⟩:=J4.put D7;obtain⟨J5,CA5,K7⟩:=aW j7 (show w5.cell? (ad ga (offa+κ pre))=some (i6 (i:Int))from fC CA4 T7 hga) (show KeepsOthers w4 w5 from Touch.others T7 (λk hk=>J4.pa.cellsOf hk));have S7:=an (show aI w5 w.heap.size 94 #[pz H.pb]/\aI w5 (w.heap.size+1) 41 #[sq ga offa (κ ats) ac]/\aI w5 (w.heap.size+1+1+1+1) 88 #[.slice vd (κ pre) vc]/\w5.cell? (ad ga (offa+κ pre))=some (i6 (i:Int))from⟨J5.x3,J5.x5,J5.x8,CA5⟩);refine hK _ _ S7 ?_;revert S7;revert K7;revert CA5;revert J5;revert T7;revert j7;revert bm;revert D7;revert w5;exact ζ.dJ):P:=h ⟨k⟩
def UO(h:dH K->P:=by
  intro ζ;have OS0:=an ((bt.aa9 ((w.alloc (.cells (aQ next (.slice la (κ l) lc)) 73)).alloc (.cells (aQ 0 (.slice none 0 0)) 73)) (κ l) (by unfold maxLen;omega)).mono (base':=w.heap.size) UU.size);have U3:=ai ((w.alloc (.cells (aQ next (.slice la (κ l) lc)) 73)).alloc (.cells (aQ 0 (.slice none 0 0)) 73)) (.cells (madeCells b8 (κ l*11)) 90);obtain⟨K0,K1,KB,KU⟩:=bS (U3.cell C0) (U3.cell C1) (B2.up U3) (UU.trans U3);rw[SZ.out]at OS0;clear U3;revert OS0;revert KU;revert KB;revert K1;revert K0;exact ζ.dJ):P:=h ⟨k⟩
def UP(h:P:=by
  go_wp2_with fail;refine P2.mono ?_;rintro e w2⟨rfl,hw2⟩;rw[hw2];clear hw2;go_wp2;go_ret2;exact⟨_,by rw[HR.out]<;>rfl,by rw[HR.out];exact oc,ur⟩):P:=h
def UQ(h:dH K->P:=by
  intro ζ;have HB:=an hB;have x3:=hB.cell (p:=⟨b,off+x*11+3,none⟩) HBS;rw[(CX.out x hx).1]at x3;have x0:=hB.cell (p:=⟨b,off+x*11,none⟩) HBS;rw[(CX.out x hx).2]at x0;have x4:=hB.cell (p:=⟨b,off+i*11+3,none⟩) HBS;rw[CO.out]at x4;have b3:((x:Int)<(κ l:Int))=True:=by simp;omega
  revert b3;revert x4;revert x0;revert x3;revert HB;exact ζ.dJ):P:=h ⟨k⟩
def UR(h:P:=by
  clear hs h0;go_in;go_wp2_with fail;refine SP.mono ?_;rintro e w2⟨rfl,u2⟩;go_wp2;go_ret2;simp;omega):P:=h
def US(h:P:=by
  clear hs h0;go_in;go_wp2_with fail;refine SP.mono ?_;rintro e w2⟨rfl,u2⟩;go_wp2;go_ret3;simp;omega):P:=h
def UT(h:P:=by
  go_in;go_wp2_with(refine arm ?_);refine FT.mono ?_;rintro e w2⟨rfl,u2⟩;have U2:=an (U1.trans u2);go_wp2;go_ret;exact⟨rfl,U2⟩):P:=h
def UW(h:dH K->P:=by
  intro ζ;obtain⟨OD,U4,B2_4⟩:=aW (ak.up od (ai w3 (.cells (b7 x (.slice da (κ x.dead) dc)) 90))) (U3.trans (ai w3 (.cells (b7 x (.slice da (κ x.dead) dc)) 90))) ((b2.up u3).up (ai w3 (.cells (b7 x (.slice da (κ x.dead) dc)) 90)));have c6:(w3.alloc (.cells (b7 x (.slice da (κ x.dead) dc)) 90)).cell? (ad w3.heap.size 6)=some (i6 x.blocks):=(aI.new w3 90 (b7 x (.slice da (κ x.dead) dc))).cell 6;have g1:(i<0)\/((i<0)=False/\(i>=x.blocks)=True/\(x.blocks<=i)=True)\/((i<0)=False/\(i>=x.blocks)=False/\(x.blocks<=i)=False):=by simp;omega
  obtain⟨bl,aT⟩:=bE (x.blocks);have HBL:=an aT;revert HBL;revert aT;revert bl;revert g1;revert c6;revert B2_4;revert U4;revert OD;exact ζ.dJ):P:=h ⟨k⟩
def UX(h:P:=by
  intro K hK;refine fx _ rfl _ ju ?_;refine hK _ _ u6 ?_;clear hK K;(try simp only[Act.put,fL]);generalize w5.alloc (.cells (aQ 0 (nl)) 73)=W at *;generalize w5.heap.size=q at *;exact FIN q W nx va vm vc nn (an ⟨u6,b6,s5,aC⟩)):P:=h
def K3(h:dH K->P:=by
  intro ζ;obtain⟨x0,x1,x2,x3,x4,x5⟩:=sk (cell_regrown c0) (cell_regrown d0) (cell_regrown d1) (cell_regrown d2) (cell_regrown e0) (cell_regrown e1);have x6:=cell_regrown e2;revert x6;revert x5;revert x4;revert x3;revert x2;revert x1;revert x0;exact ζ.dJ):P:=h ⟨k⟩
def K4(h:P:=by
  have HH:=an hH;clear hH hAt c0 c1;go_wp2_with(first|refine arm ?_|refine pH ?_);intro wz hbz ag;have TZ:=an (((Touch.bV (F:=λk=>PF H k\/k=p) UU).and T3 (λb hb=>.inl (hb.imp (λh=>.inr (.inr h)) id))).and (Touch.be (F:=(·=w.heap.size+1)) ag (λk hk=>by grind)) (λb hb=>.inr (by omega)));go_wp2;exact bN (hi:=IS) (.tuple #[.agg (aD aM),i6 r]) hbz (by obtain⟨G3,h1,h2⟩:=PP.out;exact⟨cZ,r,G3,gb',H',vp,rfl,h1,h2.sec B3 (PA.X9 (w0:=w) (w:=w) h2.ga.pa B3 HH (λb hb e=>by have:=LT.1 b hb;omega) (λb hb e=>by rcases ab.1 b hb with h|h;have:=LT.1 b (.inr (.inr (.inr h)));omega;have:=S2.out;omega)) ag,HH,TZ,ab.mono UU.size⟩)):P:=h
def UU(h:P:=by
  go_in;go_wp2_with fail;refine(hc _).mono ?_;rintro e w'⟨rfl,up⟩;go_wp2;go_ret3;simp;omega):P:=h
def UY(h:P:=by
  go_in;go_wp2_with fail;refine(R1 _).mono ?_;rintro e w1⟨rfl,up1⟩;go_wp2;go_ret;simp;omega):P:=h
def ZZ(h:P:=by
  go_ret;refine⟨?_,ai _ _⟩;refine abj ?_;rw[dZ];try simp only[decide_eq_true_eq,Bool.and_eq_true,Bool.or_eq_true,Bool.and_eq_false_iff,decide_eq_false_iff_not]at *
  try simp only[Bool.false_eq_true,false_iff,true_iff]
  omega):P:=h
def UZ(h:dH K->P:=by
  intro ζ;refine wpQuiet_nil ?_;intro w4 av;obtain⟨⟨d,os⟩,hw4⟩:=av;have up4:Up wr w4:=by rw[hw4];exact below_regrown _ _ _
  clear hw4;obtain⟨y0,y1⟩:=az (cell_regrown (up4.cell c0)) (cell_regrown (up4.cell c1));revert y1;revert y0;revert up4;revert os;revert d;revert w4;exact ζ.dJ):P:=h ⟨k⟩
def U0(h:P:=by
  have HP:=an (HK he);try simp only at he
  have b3:=he;clear he HS HK;go_wp2;go_ret;exact⟨by rw[HP.out];rfl,U3⟩):P:=h
def U1(h:dH K->P:=by
  intro ζ;(try simp only[Act.put,fL]);refine ZS 4 (u6 (pv:Int)) rfl rfl (Qx x4) ?_;(try simp only[Act.put,fL]);refine B9 6 (.bool false) rfl rfl ?_;(try simp only[Act.put,fL]);refine B9 7 (.bool false) rfl rfl ?_;(try simp only[Act.put,fL]);exact ζ.dJ):P:=h ⟨k⟩
def U5(h:P:=by
  have HE:=an (E2 (.inl g1));go_wp2_with(first|refine arm ?_|refine pH ?_);intro wz hbz ag;obtain⟨BZ,UZ⟩:=aw hbz (U4.grown ag (λk hk=>by grind));go_wp2;exact bN (hi:=IZ) (.tuple #[.agg b8,i6 176]) BZ (.inl ⟨176,HE,rfl,UZ⟩)):P:=h
def U6(h:P:=by
  have HE:=an (E2 (.inr (of_eq_true g3)));go_wp2_with(first|refine arm ?_|refine pH ?_);intro wz hbz ag;obtain⟨BZ,UZ⟩:=aw hbz (U4.grown ag (λk hk=>by grind));go_wp2;exact bN (hi:=IZ) (.tuple #[.agg b8,i6 176]) BZ (.inl ⟨176,HE,rfl,UZ⟩)):P:=h
def U2(h:dH K->P:=by
  intro ζ;obtain⟨u6,b6,aC,s5⟩:=iQ (u5.trans (ai w5 (.cells (aQ 0 (nl)) 73))) (aI.new w5 73 (aQ 0 (nl))) (rq.up (ai w5 (.cells (aQ 0 (nl)) 73))) u5.size;refine hK _ _ u5 ?_;(try simp only[Act.put,fL]);revert s5;revert aC;revert b6;revert u6;exact ζ.dJ):P:=h ⟨k⟩
def U3(h:dH K->P:=by
  intro ζ;intro K hK;refine fx _ rfl _ ju ?_;obtain⟨u5,b5⟩:=az (ai w4 (.cells (aQ 0 (nl)) 73)) (aI.new w4 73 (aQ 0 (nl)));refine hK _ _ u5 ?_;clear hK K;(try simp only[Act.put,fL]);revert b5;revert u5;exact ζ.dJ):P:=h ⟨k⟩
def K5(h:P:=by
  go_wp2_with fail;refine C.mono ?_;rintro e w1⟨rfl,S1,T1⟩;go_wp2;go_ret;exact⟨rfl,S1,T1⟩):P:=h
def K6(h:P:=by
  rw[List.length_append]at hv;subst hv;refine h a' c' w' (s.yb (hU _) (Touch.be h2 λk hk=>show v.ownBlock=some k from hk) h1 λk hk=>⟨(h1.aJ k hk).2,?_⟩);rcases h4 with h4|⟨g',h4,h5⟩
  ·exact .inl (h4.symm.trans hk)
  ·exact Nx):P:=h
def K7(h:dH K->P:=by
  intro ζ;obtain⟨u0,k0⟩:=az (ai w (.cells #[.string (strOf full)] 9)) ((aI.new w 9 #[.string (strOf full)]).cell 0);have uu:=u0;obtain⟨w2,hw2⟩:=bE ((w.alloc (.cells #[.string (strOf full)] 9)));rw[<-hw2]at uu k0;have HW2:=an hw2;revert HW2;revert k0;revert uu;revert hw2;revert w2;revert u0;exact ζ.dJ):P:=h ⟨k⟩
def K8(h:dH K->P:=by
  intro ζ;have c0:w2.cell? (ad w.heap.size 0)=some (i6 o.kind):=B1.cell 0;rw[hw2]at c0;rw[hk]at c0;go_in;revert c0;exact ζ.dJ):P:=h ⟨k⟩
def Z0(h:P:=by
  rename_i hh;have h2:=(vx.1 (iT.1 hf).1).1;refine hh ⟨hm,?_⟩;rcases Nat.lt_or_ge i l.size with h'|h'
  ·exact h'
  ·simp[Array.getElem?_eq_none h',Array.getD,Nat.not_lt.2 h']at h2):P:=h
def U4(h:dH K->P:=by
  intro ζ;have fW:=upa.drew;obtain⟨D5,X5,T5⟩:=aW (HDR.up fW) (WN ((aI.new wr 116 (j5 x)).up ((Up.refl _).drew))) (HTR.trans (Touch.bV (F:=cK h) fW) (λn hn _=>hn));obtain⟨av,c0⟩:=az X5.1 D5.cells.1;revert c0;revert av;revert T5;revert X5;revert D5;revert fW;exact ζ.dJ):P:=h ⟨k⟩
def U7(h:P:=by
  rintro e w2⟨rfl,hw2⟩;rw[hw2];clear hw2;go_wp2;go_ret;exact⟨by rw[HE.out];rfl,Up.refl _⟩):P:=h
def U8(h:dH K->P:=by
  intro ζ;obtain⟨IN,ON,U4,D0,D1,E4⟩:=iC (ke x (.slice na (κ x.dead) nc)) (mu x na (κ x.dead) nc) (UR.trans u4) (u4.cell C0) (u4.cell C1) (BR.up u4);revert E4;revert D1;revert D0;revert U4;revert ON;revert IN;exact ζ.dJ):P:=h ⟨k⟩
def U9(h:dH K->P:=by
  intro ζ;(try simp only[Act.put,fL]);refine ZS 0 (sq b off (κ l) cap) rfl rfl (Qx x1) ?_;(try simp only[Act.put,fL]);refine B9 2 (pq b (off+k*11)) rfl rfl ?_;(try simp only[Act.put,fL]);refine B9 3 (pq b (off+k*11+4)) rfl rfl ?_;exact ζ.dJ):P:=h ⟨k⟩
def U'(h:P:=by
  (try simp only[Act.put,fL]);refine vP 5 (u6 ((recAt l x).id:Int)) w6 (by kernel_rfl) rfl rfl (im 70 (.tmp 40) rfl ⟨b,off+x*11,none⟩ rfl y0 (λ_=>by kernel_rfl)) ?_;(try simp only[Act.put,fL]);refine vP 6 (cC w6.heap.size 1 1) (w6.alloc (.cells #[u6 ((recAt l x).id:Int)] 70)) (by kernel_rfl) rfl rfl (qH 156 (.tmp 41) rfl (u6 ((recAt l x).id:Int)) rfl (qE w6 _)) ?_;(try simp only[Act.put,fL]);exact FIN):P:=h
def Va(h:P:=by
  have b9:(((p.aV:Nat):Int)>(fl:Int))=True:=by simp;omega
  have DF:=an (HE.trans (DN hb));clear hb;go_wp2_with(first
   | refine cM 87 54 (a6 p) RC ?_
   | refine bH 87 fh ?_
   | refine dX 87 8 55 wr (a6 p) 87 (a6 hole) ?_)
  go_ret;exact⟨by rw[DF.out];rfl,U2⟩):P:=h
def Z1(h:P:=by
  have:=H1.out;have:=H2.out;have:=H3.out;rcases h with(h|h|h)|h
  ·simp only at h;omega
  ·simp only at h;omega
  ·exact hf h
  ·omega):P:=h
def Vb(h:dH K->P:=by
  intro ζ;rw[<-HW2.out];refine wp_region_held (S:=Up w2.drew) (by kernel_rfl) ?_;change wpAnyH _ _ _ _ _ 15 #[false,false,false,false,false,false,false,false,false,false,false,false,false,false,false] _ (w2.drew);have UD:=an (Up.drew (Up.refl w2));have ao:=an (B1.up UD);revert ao;revert UD;exact ζ.dJ):P:=h ⟨k⟩
def Gu(h:dH K->P:=by
  intro ζ;rintro e wx⟨rfl,aM⟩;rw[<-aM];clear aM;refine hK _ _ FSx ?_;revert wx;exact ζ.dJ):P:=h ⟨k⟩
def Gv(h:dH K->P:=by
  intro ζ;rintro e wx⟨rfl,aM⟩;rw[<-aM];clear aM;refine hK _ _ FS2 ?_;revert wx;exact ζ.dJ):P:=h ⟨k⟩
def Vc(h:P:=by
  obtain⟨h1,h2⟩:=h;refine⟨h1,?_⟩;rcases h2 with h2|⟨g,cap,cur,hv,hg,r⟩
  ·simp_all
  ·exact .inr ⟨g,cap,cur,hv,by omega,r⟩):P:=h
def Vd(h:P:=by
  obtain⟨h1,h2⟩:=h;refine⟨h1,?_⟩;rcases h2 with h2|⟨g,cap,cur,hv,hg,hh,r⟩
  ·simp_all
  ·exact XX):P:=h
def Z2(h:P:=by
  simp[Value.ownBlock]at e0;subst e0;have:=hb.symm.trans hh;simp at this;exact hne this.2):P:=h
def Ve(h:P:=by
  have HF:=an (show lx next l=none by unfold lx;rw[if_neg (by omega)]);go_in;go_wp2;go_ret2;exact .inl ⟨HF,rfl,Up.refl w⟩):P:=h
def Vf(h:P:=by
  rw[ih,Array.toList_setIfInBounds];have h1:(cs.toList.set (off+k) v).take (off+(k+1))=cs.toList.take (off+k)++[v]:=by exact XZ
  have h2:(cs.toList.set (off+k) v).drop (off+(k+1)+κ l)=cs.toList.drop (off+k+κ (v::l)):=by rw[List.drop_set_of_lt (by omega)];congr 1;simp;omega
  rw[h1,h2];simp):P:=h
def Z3(h:P:=by
  have:=Ci hir;rw[kL]at this;split at this
  ·cases this
  ·exact Z0):P:=h
def Vg(h:dH K->P:=by
  intro ζ;intro w6 aV aG;rw[(Jg _ x.loc hxl x.s)]at aV;obtain⟨D6,T6⟩:=aw (Dv.Rt D5 x.loc x.s aV aG) (T5.trans (Touch.be (F:=cK h) aG (λj hj=>by cases hj;exact .inr (.inl rfl))) (λn hn _=>hn));clear aV aG;revert T6;revert D6;revert w6;exact ζ.dJ):P:=h ⟨k⟩
def Vh(h:P:=by
  have HR:=an (show decide (0<=i/\i<64)=false by simp;omega);go_in;go_wp2;go_ret;simp):P:=h
def Vi(h:P:=by
  obtain⟨_,h2⟩:=h;obtain⟨_,h3⟩:=h';rcases h2 with⟨h4,_⟩|⟨g,cap,cur,h4,_,h5,_⟩
  ·left;rw[h4];rfl
  ·exact XR):P:=h
def XN(h:P:=by
  right;rw[h4,h6];intro hc;simp only[Value.ownBlock,Option.some.injEq]at hc;simp_all):P:=h
def M2(h:P:=by
  rintro pre x W1⟨ps,rfl,h⟩hp;refine(hY ps ⟨x,(by simpa using hp.subset (show x∈_++[x] by simp))⟩ W1 h (by have:=hp.length_le;simp at this;omega)).mono ?_;rintro e W'(⟨rfl,h1,h2⟩|⟨rfl,h1⟩)
  ·exact .inl ⟨rfl,⟨_,by simp,h1⟩,h2⟩
  ·exact .inr ⟨rfl,⟨_,by simp,h1⟩⟩):P:=h
def M3(h:P:=by
  have HE:=an (show cJ n=0 by unfold cJ;rw[if_neg (by omega)]);go_in;go_wp2;go_ret;exact⟨by rw[HE.out];rfl,rfl⟩):P:=h
def M4(h:dH K->P:=by
  intro ζ;obtain⟨RG,GE⟩:=aw rg (b0 hlt);obtain⟨SC,TS,ML⟩:=aW (lT wr _ _ dp (by rw[GE.out];exact HR _ (List.getElem_mem hlt))) (CS hlt) (show(l.take k++List.replicate (κ l-k) tI).length=κ l from by rw[List.length_append,List.length_take,List.length_replicate];omega);revert ML;revert TS;revert SC;revert GE;revert RG;exact ζ.dJ):P:=h ⟨k⟩
def M5(h:dH K->P:=by
  intro ζ;(try simp only[Act.put,fL]);refine B9 2 (pq b (off+k*11)) rfl rfl ?_;(try simp only[Act.put,fL]);refine B9 3 (pq b (off+k*11+4)) rfl rfl ?_;(try simp only[Act.put,fL]);exact ζ.dJ):P:=h ⟨k⟩
def M6(h:dH K->P:=by
  intro ζ;refine(callsIn_wide (n:=6)).1 ?_;have h1:1<=6:=by omega
  refine callsIn_of_wp_marks func206 rfl trivial ?_ rfl;simp only[ntmps206,List.size_toArray,List.length_cons,List.length_nil,Nat.reduceAdd,Nat.reduceSub,Array.replicate_succ,Array.replicate_zero,List.push_toArray,List.append_toArray,List.nil_append,List.cons_append];revert h1;exact ζ.dJ):P:=h ⟨k⟩
def M7(h:dH K->P:=by
  intro ζ;refine(callsIn_wide (n:=6)).1 ?_;have h1:1<=6:=by omega
  refine callsIn_of_wp_marks func205 rfl trivial ?_ rfl;simp only[ntmps205,List.size_toArray,List.length_cons,List.length_nil,Nat.reduceAdd,Nat.reduceSub,Array.replicate_succ,Array.replicate_zero,List.push_toArray,List.append_toArray,List.nil_append,List.cons_append];revert h1;exact ζ.dJ):P:=h ⟨k⟩
def M8(h:dH K->P:=by
  intro ζ;obtain⟨RC,DT,DN,BX⟩:=bS (hc j hlt) (xn hlt HD) (@Df (fl) j x.dead hlt) (aI.new wr 87 (a6 x.dead[j]));have cb:(wr.alloc (.cells (a6 x.dead[j]) 87)).cell? (ad wr.heap.size 1)=some (u6 (x.dead[j].aV:Int)):=by rw[BX.out.cell];rfl
  revert cb;revert BX;revert DN;revert DT;revert RC;exact ζ.dJ):P:=h ⟨k⟩
def M9(h:P:=by
  have s:=s.up u;go_wp2_with(refine fw s ?_;intro _ w s);refine p3 s ?_;rw[show ls M full=(r,M)from by rw[DM.out];unfold pS v8;rw[hr];rfl];exact Cz.bV HA s.pure):P:=h
def M'(h:P:=by
  go_wp2_with(first|refine arm ?_|refine pH ?_);intro wz hbz ag;have TZ:=an (((Touch.bV (F:=λk=>PF H k\/k=p) UU).and T3 (λb hb=>.inl (hb.imp (λh=>.inr (.inr h)) id))).and (Touch.be (F:=(·=w.heap.size+1)) ag (λk hk=>by grind)) (λb hb=>.inr (by omega)));go_wp2;exact bN (hi:=IS) (.tuple #[.agg (aD aM),i6 r]) hbz (by obtain⟨G3,h1,h2⟩:=PP.out;exact⟨cZ,r,G3,gb',H',vp,rfl,h1,h2.sec B3 (PA.X9 (w0:=w) (w:=w) h2.ga.pa B3 HH (λb hb e=>by have:=LT.1 b hb;omega) (λb hb e=>by rcases ab.1 b hb with h|h;have:=LT.1 b (.inr (.inr (.inr h)));omega;have:=S2.out;omega)) ag,HH,TZ,ab.mono UU.size⟩)):P:=h
def oO(h:P:=by
  go_in;go_wp2;go_ret;exact⟨by rw[HF.out]<;>rfl,U1⟩):P:=h
def rm(h:dH K->P:=by
  intro ζ;refine P1.mono ?_;rintro e w2⟨rfl,hw2⟩;rw[hw2];clear hw2;revert w2;exact ζ.dJ):P:=h ⟨k⟩
def uR(h:dH K->P:=by
  intro ζ;refine wpQuiet_nil ?_;intro w4 av;obtain⟨⟨d,os⟩,hw4⟩:=av;have up4:Up w1 w4:=by rw[hw4];exact below_regrown _ _ _
  revert up4;revert hw4;revert os;revert d;revert w4;exact ζ.dJ):P:=h ⟨k⟩
def uS(h:dH K->P:=by
  intro ζ;refine SP.mono ?_;rintro e w2⟨rfl,u2⟩;obtain⟨U2,B2⟩:=aw (U1.trans u2) (B1.up u2);revert B2;revert U2;revert u2;revert w2;exact ζ.dJ):P:=h ⟨k⟩
def uT(h:P:=by
  go_in;go_wp2_with(first
   | refine gY 33 0 (hX o vd vk) ?_)
  go_ret;exact⟨by rw[M.out];rfl,U⟩):P:=h
def za(h:P:=by
  have HF:=an (FF (by simp;omega));go_wp2;go_ret;exact⟨by rw[HF.out]<;>rfl,U7⟩):P:=h
def zd(h:dH K->P:=by
  intro ζ;refine wpQuiet_nil ?_;intro w4 av;obtain⟨⟨d,os⟩,hw4⟩:=av;have up4:Up wr w4:=by rw[hw4];exact below_regrown _ _ _
  revert up4;revert hw4;revert os;revert d;revert w4;exact ζ.dJ):P:=h ⟨k⟩
def ze(h:P:=by
  go_in;go_wp2;go_ret;exact⟨by rw[HF.out]<;>rfl,U1⟩):P:=h
def zf(h:dH K->P:=by
  intro ζ;refine(PL1 _ U2).mono ?_;rintro e w3⟨rfl,u3⟩;obtain⟨U3,B3⟩:=aw (U2.trans u3) (B2.up u3);revert B3;revert U3;revert u3;revert w3;exact ζ.dJ):P:=h ⟨k⟩
def zg(h:dH K->P:=by
  intro ζ;refine PD.mono ?_;rintro e wx⟨rfl,aM⟩;rw[<-aM];clear aM;revert wx;exact ζ.dJ):P:=h ⟨k⟩
def zh(h:dH K->P:=by
  intro ζ;refine LE.mono ?_;rintro e wx⟨rfl,aM⟩;rw[<-aM];clear aM;revert wx;exact ζ.dJ):P:=h ⟨k⟩
def zi(h:dH K->P:=by
  intro ζ;obtain⟨ys,e0,z⟩:=Rz.s os u s.t.size;have e:=an e0;clear e0;refine⟨_,_,rfl,z,?_⟩;revert e;revert z;revert ys;exact ζ.dJ):P:=h ⟨k⟩
def zj(h:dH K->P:=by
  intro ζ;have us:=Up.refl w4;refine ta 0 ?_;refine ta 1 ?_;refine ta 2 ?_;revert us;exact ζ.dJ):P:=h ⟨k⟩
def F0(h:dH K->P:=by
  intro ζ;refine wpQuiet_nil ?_;intro w4 av;obtain⟨⟨d,os⟩,hw4⟩:=av;have up4:Up w3 w4:=by rw[hw4];exact below_regrown _ _ _
  revert up4;revert hw4;revert os;revert d;revert w4;exact ζ.dJ):P:=h ⟨k⟩
def F5(h:P:=by
  go_in;go_wp2;go_ret;simp):P:=h
def F6(h:dH K->P:=by
  intro ζ;refine wpQuiet_nil ?_;intro w5 av;obtain⟨⟨d,os⟩,aQ⟩:=av;have ab:Up w4 w5:=by rw[aQ];exact below_regrown _ _ _
  revert ab;revert aQ;revert os;revert d;revert w5;exact ζ.dJ):P:=h ⟨k⟩
def F'(h:dH K->P:=by
  intro ζ;refine ta 7 ?_;refine ta 8 ?_;refine ta 9 ?_;(try simp only[Act.put,fL]);exact ζ.dJ):P:=h ⟨k⟩
def F7(h:dH K->P:=by
  intro ζ;(try simp only[Act.put,fL]);refine B9 12 (.bool false) rfl rfl ?_;(try simp only[Act.put,fL]);refine wpAnyIn_done (by kernel_rfl) ?_ _;exact ζ.dJ):P:=h ⟨k⟩
def F8(h:dH K->P:=by
  intro ζ;simp only[eJ];have b1:((i:Int)<0)=False:=by simp
  have b2:((i:Int)<(κ l:Int))=True:=by simp;omega
  have b3:((i:Int)>=0)=True:=by simp
  revert b3;revert b2;revert b1;exact ζ.dJ):P:=h ⟨k⟩
def Na(h:P:=by
  subst h0;have:l=[]:=List.length_eq_zero_iff.1 h1;subst this;exact .inl ⟨rfl,_,cap,rfl,hm,λh=>by simp_all⟩):P:=h
def Nb(h:P:=by
  have HF:=an (TT (by simp;omega));go_wp2;go_ret;exact⟨by rw[HF.out]<;>rfl,U7⟩):P:=h
def Nc(h:P:=by
  obtain⟨_,h2⟩:=ho;rcases h2 with⟨rfl,_⟩|⟨g',cap,cur,rfl,_,hh,_⟩
  ·simp[Value.ownBlock]at e0
  ·exact Z2):P:=h
def Nd(h:P:=by
  have hl:(load ad).run P w=.ok v w:=by simp[hc]
  unfold Oper.wp execOp;simp only[ho,hx,Instr.loadAt,Instr.sureAddr,loadVar,Sem.run_bind,Sem.run_pure,Result.andThen_ok,hagg,Bool.false_eq_true,if_false,hl];exact h):P:=h
def Nf(h:P:=by
  go_in;go_wp2_with fail;go_ret;exact⟨by rw[HR.out];rfl,rfl⟩):P:=h
def Ng(h:P:=by
  go_in;go_wp2_with fail;go_ret;exact⟨by rw[HR.out];rfl,by rw[HV.out];exact D,Touch.refl _ _⟩):P:=h
def Nh(h:P:=by
  go_in;go_wp2;go_ret;exact⟨by rw[HR.out];simp[e],rfl⟩):P:=h
def Ni(h:dH K->P:=by
  intro ζ;have g9:=cR w5 g (aD s.val);have G9:=G5.grown g9 (λhf=>by have:=HA.lt _ hf;omega) (by omega);have B9:=B5.grown g9 (λe=>by have:=Option.some.inj e;omega);have C9:=C5.grown g9 (λe=>by have:=Option.some.inj e;omega);revert C9;revert B9;revert G9;revert g9;exact ζ.dJ):P:=h ⟨k⟩
def Nj(h:dH K->P:=by
  intro ζ;have b8:((q:Int)<8)=True:=by simp;omega
  have b9:((r:Int)<8)=True:=by simp;omega
  have wq:IntKind.i64.wrap (q:Int)=(q:Int):=bc q (by omega);have wr:IntKind.i64.wrap (r:Int)=(r:Int):=bc r (by omega);revert wr;revert wq;revert b9;revert b8;exact ζ.dJ):P:=h ⟨k⟩
def Nk(h:P:=by
  simp only[Result.andThen_ok,sliced,e1,e2];rw[if_neg (by omega)];unfold gK;simp[add_plain]):P:=h
def Nl(h:P:=by
  clear z0 z1 SL;gi_wp2;refine bodyPost_ret (results_none rfl _ _ _) rfl ?_;exact⟨⟨_,rfl⟩,.inr ⟨_,aj,aa⟩⟩):P:=h
def Nn(h:P:=by
  go_in;go_wp2_with fail;go_ret;exact⟨_,rfl,by rw[HL.out];exact Own.nil _ _ _ _,Up.refl _⟩):P:=h
def No(h:dH K->P:=by
  intro ζ;refine⟨by simp,.inl ⟨_,_,rfl,run_takeDeferred FIN.1,?_⟩⟩;obtain⟨h6,h7⟩:=az FIN.2.1 FIN.2.2.1;refine⟨.tuple #[.slice za zn zc,i6 0],?_,_,rfl,FIN.2.2.2.1,FIN.2.2.2.2⟩;revert h7;revert h6;exact ζ.dJ):P:=h ⟨k⟩
def XO(h:P:=by
  obtain⟨g1,o1,e1,_,aL⟩:=cf ha (by rw[List.length_map]) (by rw[List.length_map];omega);have:=aL 0 (by rw[List.length_map];omega);simp only[Option.some.injEq,Addr.mk.injEq]at e1;exact qw HA0 J.o (by rw[e1.1];exact World.block_lt_of_cell? w _ this) (han ga rfl)):P:=h
def Np(h:dH K->P:=by
  intro ζ;obtain⟨ak,HBS,CO⟩:=aW how hbs (show w.cell? (ad b (off+i*11+3))=some (u6 (ow:Int))from by rw[how];exact(cd RG).2.2.2.1);have CX:=an (show ∀x,x<κ l->w.cell? (ad b (off+x*11+3))=some (u6 ((recAt l x).owner:Int))/\w.cell? (ad b (off+x*11))=some (u6 ((recAt l x).id:Int))from λx hx=>by obtain⟨b',aD,ar,_,aH,aJ,aB,_⟩:=bZ HV hx;simp only[Option.some.injEq,Addr.mk.injEq,and_true]at ar;obtain⟨rfl,rfl⟩:=ar;exact⟨(cd aB).2.2.2.1,(cd aB).1⟩)
  revert CX;revert CO;revert HBS;revert ak;exact ζ.dJ):P:=h ⟨k⟩
def Nq(h:dH K->P:=by
  intro ζ;(try simp only[Act.put,fL]);refine yk 3 (pq b (off+x*11)) rfl ?_ (hy:=(.inl ⟨rfl,λ_=>by go_simp⟩));(try simp only[Act.put,fL]);refine yk 4 (pq b (off+x*11)) rfl ?_ (hy:=(.inl ⟨rfl,λ_=>by go_simp⟩));exact ζ.dJ):P:=h ⟨k⟩
def Nr(h:P:=by
  rintro(h|h|h)
  ·exact .inr (.inl h)
  ·exact .inl h
  ·exact .inr (.inr h)):P:=h
def Ns(h:P:=by
  obtain⟨_,h4⟩:=h2;rcases h4 with⟨h5,_⟩|⟨g,cap,cur,h5,_,h6,_⟩
  ·rw[h5]at hb;cases hb
  ·exact XP):P:=h
def XP(h:P:=by
  rw[h5]at hb;simp only[Value.ownBlock,Option.some.injEq]at hb;subst hb;exact A.b' (t:=90) (C:=cur) h6 (by decide) hf):P:=h
def Nt(h:P:=by
  have:n=141\/n=161:=Bj hn;rcases this with rfl|rfl
  ·exact ZW
  ·exact ZY):P:=h
def Nu(h:dH K->P:=by
  intro ζ;have cp:w2.cell? ⟨p,0,none⟩=some (.pointer (some ⟨gb,0,none⟩)):=BP.cell 0;obtain⟨BQ,GQ⟩:=aw (BP.setCell 0 (.pointer (some ⟨gb',0,none⟩))) (bX BP 0 (.pointer (some ⟨gb',0,none⟩)));have fp:=BP.free 0;revert fp;revert GQ;revert BQ;revert cp;exact ζ.dJ):P:=h ⟨k⟩
def Nv(h:P:=by
  simp only[if_true]at e ⊢;rw[hf2]at e ⊢;obtain rfl:G3=G:=by exact Ny
  exact⟨M,Step.full (M2:=M) I S (by grind [hq]) (by grind) (λ_ _=>rfl) rfl (by omega) rfl⟩):P:=h
def Nw(h:dH K->P:=by
  intro ζ;intro w9 b9 g9;have GT:=Touch.be (F:=λb=>b=w.heap.size) g9 (λb hb=>by grind);obtain⟨D9,T9⟩:=aw (D3.ax GT (λb hb e=>NF (e ▸ hb))) (T3'.trans GT (λn hn hl=>by omega));revert T9;revert D9;revert GT;revert g9;revert b9;revert w9;exact ζ.dJ):P:=h ⟨k⟩
def e4(h:P:=by
  go_wp2;go_ret;simp):P:=h
def f'(h:dH K->P:=by
  intro ζ;rintro e wx⟨rfl,aM⟩;rw[<-aM];clear aM;revert wx;exact ζ.dJ):P:=h ⟨k⟩
def lE(h:P:=by
  intro l x W K hK;gi_wp2;exact hK):P:=h
def oP(h:dH K->P:=by
  intro ζ;refine ta 0 ?_;refine ta 1 ?_;refine ta 2 ?_;exact ζ.dJ):P:=h ⟨k⟩
def oQ(h:dH K->P:=by
  intro ζ;rintro e w2⟨rfl,hw2⟩;rw[hw2];clear hw2;revert w2;exact ζ.dJ):P:=h ⟨k⟩
def rp(h:P:=by
  go_wp2_with(refine arm ?_);go_ret;exact⟨by rw[HF.out]<;>rfl,U3⟩):P:=h
def uU(h:dH K->P:=by
  intro ζ;refine ta 5 ?_;refine ta 6 ?_;refine ta 7 ?_;exact ζ.dJ):P:=h ⟨k⟩
def uV(h:P:=by
  go_wp2;go_ret;exact⟨rfl,U2⟩):P:=h
def Nx(h:P:=by
  right;have:=Option.some.inj (h4.symm.trans hk);omega):P:=h
def zm(h:P:=by
  rintro e W'⟨h1,⟨ys,rfl,ps,h2,h3⟩|⟨pre,h2,ps,rfl,h3⟩⟩
  ·exact⟨h1,.inl ⟨ps,h2,h3⟩⟩
  ·exact⟨h1,.inr ⟨ps,h2,h3⟩⟩):P:=h
def zn(h:dH K->P:=by
  intro ζ;refine ta 10 ?_;(try simp only[Act.put,fL]);refine dn ?_;exact ζ.dJ):P:=h ⟨k⟩
def zo(h:dH K->P:=by
  intro ζ;have IS:=an (show(prog.info? 60).map (·.size)=some (aD aM).size from dI);have c0:w2.cell? (ad w.heap.size 0)=some (i6 o.kind):=b1.cell 0;rw[hw2]at c0;revert c0;revert IS;exact ζ.dJ):P:=h ⟨k⟩
def F9(h:P:=by
  try simp only[decide_eq_true_eq,beq_iff_eq,bne_iff_ne,beq_eq_false_iff_ne,bne_eq_false_iff_eq,Bool.not_eq_true',Bool.and_eq_true,Bool.or_eq_true,Bool.and_eq_false_iff,decide_eq_false_iff_not]at *
  try simp only[Bool.false_eq_true,false_iff,true_iff]
  omega):P:=h
def Ga(h:P:=by
  go_wp2;go_ret;exact⟨by rw[HR.out];rfl,rfl⟩):P:=h
def Gb(h:P:=by
  go_wp2;go_ret;exact⟨by rw[HP.out];rfl,UR⟩):P:=h
def Gc(h:dH K->P:=by
  intro ζ;refine(mm w next _ l (hv.up s.pure) hr full hf).mono ?_;rintro e w⟨rfl,u⟩;have s:=s.up u;revert s;revert u;revert w;exact ζ.dJ):P:=h ⟨k⟩
def Gd(h:dH K->P:=by
  intro ζ;have b1:((i:Int)<0)=False:=by simp
  have b2:((i:Int)<(κ l:Int))=True:=by simp;omega
  have b3:((i:Int)>=0)=True:=by simp
  revert b3;revert b2;revert b1;exact ζ.dJ):P:=h ⟨k⟩
def Ge(h:dH K->P:=by
  intro ζ;refine(LG w gb H G (A.up s.pure) hl hr hn).mono ?_;rintro e w⟨rfl,u⟩;have s:=s.up u;revert s;revert u;revert w;exact ζ.dJ):P:=h ⟨k⟩
def Gf(h:P:=by
  refine⟨b,off,e,hb,λj v hj=>?_⟩;rw[Nat.add_assoc];exact hc k hk j v hj):P:=h
def Ny(h:P:=by
  rcases e with⟨e,_⟩|⟨_,e⟩
  ·cases e
  ·exact e):P:=h
def Nz(h:P:=by
  rcases h with⟨rfl,_⟩|⟨b,off,cap,_,_,h1,h2,_⟩
  ·simp
  ·unfold maxLen at h2;omega):P:=h
def NA(h:P:=by
  have:l=[]:=List.length_eq_zero_iff.1 h0;subst this;exact .inl ⟨rfl,_,cap,rfl,hm,λh=>by simp_all⟩):P:=h
def NB(h:P:=by
  have:l=[]:=List.length_eq_zero_iff.1 h0;subst this;exact .inl ⟨rfl,_,0,rfl,Nat.zero_le _,λ_=>rfl⟩):P:=h
def NC(h:P:=by
  unfold Oper.wp;simp[execOp,ho,resolve,invoke,builtin,hs,hx,hrun,Result.andThen];exact h v w (by simp;omega) ⟨rfl,rfl,rfl,Nat.le_refl _,λ_ _ _=>rfl⟩ (Below.refl _ _)):P:=h
def ND(h:dH K->P:=by
  intro ζ;obtain⟨i,hi,hz0,hz1,ar⟩:=info_parts hinfo;have hb:(bytes:Int)*(c:Int)<=281474976710656:=by omega
  have:=run_make (P:=P) w t e i z ht hi hz0 .i64 .i64 0 c (by omega) (by omega) (by simp_all) (by omega);revert this;revert hb;revert ar;revert hz1;revert hz0;revert hi;revert i;exact ζ.dJ):P:=h ⟨k⟩
def NF(h:dH K->P:=by
  intro ζ;obtain⟨i,hi,hz0,hz1,ar⟩:=info_parts hinfo;have hb:(bytes:Int)*(c:Int)<=281474976710656:=by omega
  have:=run_make (P:=P) w t e i z ht hi hz0 .i64 .i64 c c (by omega) (by omega) (by simp_all) (by omega);revert this;revert hb;revert ar;revert hz1;revert hz0;revert hi;revert i;exact ζ.dJ):P:=h ⟨k⟩
def NG(h:P:=by
  go_wp2_with fail;go_ret2;exact⟨.inr ⟨λhh=>by have:=hh x aJ;omega,rfl⟩,rfl⟩):P:=h
def NH(h:dH K->P:=by
  intro ζ;have q1:bo (l.take 4)<4294967296:=fV (k:=4) (by simp;omega);have q2:bo ((l.drop 4).take 8)<18446744073709551616:=fV (k:=8) (by simp;omega);have q3:bo (l.drop 12)<4294967296:=fV (k:=4) (by simp;omega);revert q3;revert q2;revert q1;exact ζ.dJ):P:=h ⟨k⟩
def NI(h:P:=by
  induction h with
  | head=>exact List.mem_cons_self
  | tail _ ih=>exact List.mem_cons_of_mem _ ih):P:=h
def NJ(h:P:=by
  have e:put ops a ((i,w.heap.size)::E)=(put ops a E).put y.dst (pz w.heap.size):=by simp[put,HT,hy]
  rw[e]at this;exact this):P:=h
def NK(h:P:=by
  have e:mL (Array.replicate ops.size false)=ops.size:=by rw[mL,Array.toList_replicate,List.countP_replicate];rfl
  simp only[ml,List.map_nil,nS,put,XL,e]at this;exact this):P:=h
def NL(h:P:=by
  go_in;go_wp2;all_goals
   exact ZZ):P:=h
def NM(h:P:=by
  rcases Nat.lt_or_ge b W.heap.size with h|h
  ·exact h
  ·simp[Array.getElem?_eq_none h]at hb):P:=h
def NN(h:dH K->P:=by
  intro ζ;refine wp_region_still_tail 11 (by kernel_rfl) (by kernel_rfl) ?_;simp only[List.take_succ_cons,List.take_zero,List.drop_succ_cons,List.drop_zero];change wpStill _ _ w.drew (λa'=>wpList _ _ _ _ a' w.drew) _ _;exact ζ.dJ):P:=h ⟨k⟩
def NO(h:dH K->P:=by
  intro ζ;refine wp_region_still_tail 11 (by kernel_rfl) (by kernel_rfl) ?_;simp only[List.take_succ_cons,List.take_zero,List.drop_succ_cons,List.drop_zero];change wpStill _ _ w2.drew (λa'=>wpList _ _ _ _ a' w2.drew) _ _;exact ζ.dJ):P:=h ⟨k⟩
def NP(h:P:=by
  rcases ag with ag|⟨y,hy,ag⟩
  ·exact .inl (.inl ag)
  ·exact XQ):P:=h
def XQ(h:P:=by
  rcases List.mem_or_eq_of_mem_set hy with hy|rfl
  ·exact .inl (.inr ⟨y,hy,ag⟩)
  ·exact .inr ag):P:=h
def NQ(h:P:=by
  rcases List.mem_or_eq_of_mem_set hy with hy|rfl
  ·exact key (h3 y hy)
  ·exact key h4):P:=h
def NR(h:P:=by
  rintro e W'(⟨rfl,h1,h2⟩|⟨rfl,h1⟩)
  ·exact .inl ⟨rfl,⟨_,by simp,h1⟩,h2⟩
  ·exact .inr ⟨rfl,⟨_,by simp,h1⟩⟩):P:=h
def NS(h:P:=by
  unfold j2;rw[List.take_succ_eq_append_getElem h,List.filter_append];simp[hx]):P:=h
def XR(h:P:=by
  rcases h3 with⟨h6,_⟩|⟨g',al,aP,h6,_,h7,_⟩
  ·right;rw[h4,h6];simp[Value.ownBlock]
  ·exact XN):P:=h
def NT(h:dH K->P:=by
  intro ζ;refine(ys _ _ s9 OW.cv (by simp[s9]) _ [0,x,y] IN (by intro n hn;simp at hn;omega) (Bu (by omega) hx hy)).mono ?_;rintro e w7⟨vp,rfl,op,u7⟩;have OP:=an (op.mono F6.2.size);revert OP;revert u7;revert op;revert vp;revert w7;exact ζ.dJ):P:=h ⟨k⟩
def NU(h:dH K->P:=by
  intro ζ;refine(ys _ _ s9 OW.cv (by simp[s9]) _ [1,x,y] IN (by intro n hn;simp at hn;omega) (Bu (by omega) hx hy)).mono ?_;rintro e w7⟨vp,rfl,op,u7⟩;have OP:=an (op.mono F6.2.size);revert OP;revert u7;revert op;revert vp;revert w7;exact ζ.dJ):P:=h ⟨k⟩
def NV(h:dH K->P:=by
  intro ζ;have ca:=hca (κ pre) (by rw[List.length_map];omega);rw[List.getElem_map]at ca;have hga:¬PF (H.at vp) ga:=by exact XO
  revert hga;revert ca;exact ζ.dJ):P:=h ⟨k⟩
def NW(h:P:=by
  simp only[e,List.length_cons,List.length_nil]at h ⊢;obtain rfl:k=0:=by omega
  simp;omega):P:=h
def XS(h:P:=by
  have:=df (P:=prog) 30 dA dB (some ⟨w7.heap.size,0,none⟩) n n 2 (by omega) W;rw[show bW (some ⟨w7.heap.size,0,none⟩) 2 n n=sq w7.heap.size 2 (n-2) (n-2)from by unfold bW;rw[if_neg (by omega)];simp[add_plain]]at this;exact this):P:=h
def NX(h:P:=by
  have e1:IntKind.u64.min=0:=by decide
  have e2:IntKind.u64.max=18446744073709551615:=by decide
  simp[Lit.wf,e1,e2];omega):P:=h
def NY(h:P:=by
  induction l generalizing i with
  | nil=>simp at hi
  | cons a l ih=>
   cases i with
   | zero=>grind [recAt]
   | succ i=>grind [recAt]):P:=h
def NZ(h:P:=by
  rintro e w5(⟨n,hn,rfl,u5⟩|⟨k,vd,hk,hkl,rfl,od,u5⟩)
  ·exact ZX
  ·exact ZV):P:=h
def N0(h:P:=by
  rintro w _ s _ w'(⟨n,nx,va,vm,vc,hx,rfl,u⟩|⟨nx,l',v',hx,rfl,os,u⟩)
  ·exact KZ
  ·exact aa6):P:=h
def XT(h:P:=by
  rcases(dm p).mp hp with h|⟨h1,h2⟩
  ·exact((SI.dd v vm y hy e p).mp h).1
  ·exact XY):P:=h
def N1(h:P:=by
  unfold Oper.wp;simp[execOp,hop,hm,hx,hv,hrun,Result.andThen];exact hK' _ _ (hK w' r1 r2)):P:=h
def N2(h:dH K->P:=by
  intro ζ;have c0:w2.cell? (ad w.heap.size 0)=some (i6 o.kind):=b1.cell 0;have c1:w2.cell? (ad w.heap.size 1)=some (.string (strOf o.name)):=b1.cell 1;have c3:w2.cell? (ad w.heap.size 3)=some (i6 o.n):=b1.cell 3;revert c3;revert c1;revert c0;exact ζ.dJ):P:=h ⟨k⟩
def N3(h:P:=by
  refine pX 8 12 (by kernel_rfl) rfl rfl rfl rfl ?_ ?_
  ·exact aa8
  ·exact aa7):P:=h
def N4(h:P:=by
  refine⟨rfl,rfl,rfl,by simp,λk hk hF=>?_⟩;have hne:g≠k:=λe=>hF (by rw[<-e];rfl);grind):P:=h
def N5(h:P:=by
  refine nf h (λG2 hR hr=>?_) (λG2 hR hr=>?_)
  ·exact XU
  ·exact XV):P:=h
def XU(h:P:=by
  rcases hR with⟨n,_,_,_,rfl⟩|⟨nx,l',x,_,_,rfl⟩
  ·exact lW.refl _ _
  ·exact lW.aaZ c _ _ _):P:=h
def XV(h:P:=by
  rcases hR with⟨n,_,_,_,rfl⟩|⟨nx,l',x,_,e,rfl⟩
  ·exact⟨rfl,λ_ _=>rfl⟩
  ·exact absurd e hr):P:=h
def cT(h:dH K->P:=by
  intro ζ;refine(I3 w next _ l (hv.up s.pure) hl hr).mono ?_;rintro e w⟨vx,rfl,ox,u⟩;revert u;revert ox;revert vx;revert w;exact ζ.dJ):P:=h ⟨k⟩
def cW(h:dH K->P:=by
  intro ζ;obtain⟨ys,e,z⟩:=Rz.s ox u s.t.size;have s:=s.new z;revert s;revert z;revert e;revert ys;exact ζ.dJ):P:=h ⟨k⟩
def ez(h:dH K->P:=by
  intro ζ;rintro e w⟨rfl,u⟩;have s:=s.up u;revert s;revert u;revert w;exact ζ.dJ):P:=h ⟨k⟩
def dY(h:dH K->P:=by
  intro ζ;rw[<-Bool.not_eq_true,IFF.out];intro hh;revert hh;exact ζ.dJ):P:=h ⟨k⟩
def gF(h:dH K->P:=by
  intro ζ;(try simp only[Act.put,fL]);exact ζ.dJ):P:=h ⟨k⟩
def ng(h:dH K->P:=by
  intro ζ;(try simp only[Act.put,fL]);refine dn ?_;exact ζ.dJ):P:=h ⟨k⟩
def ni(h:dH K->P:=by
  intro ζ;refine ta 2 ?_;refine ta 3 ?_;exact ζ.dJ):P:=h ⟨k⟩
def oR(h:dH K->P:=by
  intro ζ;have b1:((i:Int)<0)=False:=by simp
  have b2:((i:Int)<(κ l:Int))=True:=by simp;omega
  revert b2;revert b1;exact ζ.dJ):P:=h ⟨k⟩
def rq(h:dH K->P:=by
  intro ζ;refine(callsIn_wide (n:=6)).1 ?_;have h1:1<=6:=by omega
  revert h1;exact ζ.dJ):P:=h ⟨k⟩
def uW(h:dH K->P:=by
  intro ζ;refine wpList_plain hgd λK hK=>?_;unfold Oper.wp execOp;revert hK;revert K;exact ζ.dJ):P:=h ⟨k⟩
def XW(h:P:=by
  refine⟨rfl,by decide,?_⟩;grind [fits]):P:=h
def uX(h:dH K->P:=by
  intro ζ;refine ta 10 ?_;(try simp only[Act.put,fL]);exact ζ.dJ):P:=h ⟨k⟩
def uY(h:dH K->P:=by
  intro ζ;obtain⟨J,PS⟩:=az (λ(x:ab) (hx:x∈l) (y:ab) (hy:y∈l)=>F.gb.inj (x:=x) (y:=y) hx hy) (λ(x:ab) (hx:x∈l) (y:ab) (hy:y∈l)=>F.eY (x:=x) (y:=y) hx hy);revert PS;revert J;exact ζ.dJ):P:=h ⟨k⟩
def uZ(h:dH K->P:=by
  intro ζ;rintro e w3⟨r,G2,vp,gb',H',rfl,hR,hH,hAt,T3,ab⟩;have B3:=an (b2.ax T3 (by rintro(h|h);have:=LT.1 _ h;omega;have:=LT.2;omega));revert B3;revert ab;revert T3;revert hAt;revert hH;revert hR;revert H';revert gb';revert vp;revert G2;revert r;revert w3;exact ζ.dJ):P:=h ⟨k⟩
def zp(h:P:=by
  simp[IntKind.wrap,IntKind.bits,IntKind.signed];omega):P:=h
def zq(h:P:=by
  go_ret2;exact⟨_,rfl,hown,upr⟩):P:=h
def zr(h:dH K->P:=by
  intro ζ;have ho:=HOWN.out;rw[List.take_of_length_le (Nat.le_refl _)]at ho;revert ho;exact ζ.dJ):P:=h ⟨k⟩
def zs(h:dH K->P:=by
  intro ζ;obtain⟨n1,n2⟩:=aw (show(κ il+κ bb)*1<=140737488355328 by have:=HBL.out;omega) (show κ il+κ bb<=9223372036854775807 by have:=HBL.out;omega);revert n2;revert n1;exact ζ.dJ):P:=h ⟨k⟩
def Gg(h:dH K->P:=by
  intro ζ;have aO:prog.arrayLen 60=128:=by kernel_rfl
  have hs:(sizeOf (prog.elem 60)).run prog W=.ok 1 W:=by kernel_rfl
  revert hs;revert aO;exact ζ.dJ):P:=h ⟨k⟩
def Gh(h:dH K->P:=by
  intro ζ;simp only[Bool.false_eq_true,false_and,and_false,and_self,if_false,if_true,reduceIte];go_in;exact ζ.dJ):P:=h ⟨k⟩
def Gi(h:dH K->P:=by
  intro ζ;have b4:((j:Int)<0)=False:=by simp
  have b5:((j:Int)<(κ l:Int))=True:=by simp;omega
  revert b5;revert b4;exact ζ.dJ):P:=h ⟨k⟩
def Gj(h:dH K->P:=by
  intro ζ;have t1:decide ((128:Int)<(κ b:Int))=false:=by simp;omega
  have t2:decide (128<κ b)=false:=by simp;omega
  revert t2;revert t1;exact ζ.dJ):P:=h ⟨k⟩
def Gk(h:dH K->P:=by
  intro ζ;have u1:=ai w (.cells #[pz gb] 100);have c0:(w.alloc (.cells #[pz gb] 100)).cell? (ad w.heap.size 0)=some (pz gb):=(aI.new w 100 #[pz gb]).cell 0;revert c0;revert u1;exact ζ.dJ):P:=h ⟨k⟩
def XX(h:P:=by
  have hlt:g<w.heap.size:=by grind
  exact .inr ⟨g,cap,cur,hv,hg,by rw[Below.block hu g hlt];exact hh,r⟩):P:=h
def N6(h:P:=by
  rw[run_slice_lh W T a len cap ht .i64 .i64 lo hi (by omega) (by omega) (by omega),hs];rfl):P:=h
def N7(h:P:=by
  cases h:(l==l2)<;>cases h2:((b:Int)==(b2:Int))<;>cases h3:((s:Int)==(s2:Int));all_goals go_simp):P:=h
def N8(h:P:=by
  rw[List.take_zero,List.nil_append,List.drop_of_length_le (by simp;omega)];simp):P:=h
def N9(h:dH K->P:=by
  intro ζ;refine JG 60 (.tmp 5) rfl w.heap.size rfl 60 _ B5 _ underlying60 rfl (dE s) ?_;refine yk 7 (.agg (j5 ⟨n,s⟩)) rfl ?_ (hy:=(CZ rfl 116 0 1 (.tmp 21) (.tmp 22) rfl (i6 (n:Int)) (.agg (aD s.val)) rfl rfl (j5 ⟨n,s⟩) (SV ⟨n,s⟩)));exact ζ.dJ):P:=h ⟨k⟩
def N'(h:dH K->P:=by
  intro ζ;refine iy 8 _ (by kernel_rfl) rfl rfl ?_;refine mI 112 116 (.tmp 23) rfl _ 129 136 (j5 ⟨n,s⟩) rfl underlying112 uj (by omega) (by omega) (oo _) ?_;exact ζ.dJ):P:=h ⟨k⟩
def Oa(h:dH K->P:=by
  intro ζ;refine wp_region_still_tail 8 (by rfl) (by kernel_rfl) ?_;simp only[List.take_succ_cons,List.take_zero,List.drop_succ_cons,List.drop_zero];exact ζ.dJ):P:=h ⟨k⟩
def Ob(h:dH K->P:=by
  intro ζ;refine wp_region_still_tail 8 (by kernel_rfl) (by kernel_rfl) ?_;simp only[List.take_succ_cons,List.take_zero,List.drop_succ_cons,List.drop_zero];exact ζ.dJ):P:=h ⟨k⟩
def Oc(h:dH K->P:=by
  intro ζ;refine⟨by simp,.inl ⟨_,_,rfl,run_takeDeferred hK,?_⟩⟩;have aa:=cell_kept hcr (grownBy_putObj' _ D (.deferred none)) (λr e=>by cases e;exact⟨_,hK,rfl⟩);revert aa;exact ζ.dJ):P:=h ⟨k⟩
def Od(h:dH K->P:=by
  intro ζ;obtain⟨NS,NR⟩:=aw (show ¬PF H (w.heap.size+1)from λhf=>by have:=HA.lt _ hf;omega) (show ¬PF H w.heap.size from λhf=>by have:=HA.lt _ hf;omega);revert NR;revert NS;exact ζ.dJ):P:=h ⟨k⟩
def Oe(h:dH K->P:=by
  intro ζ;refine wp_region_still_tail 6 (by rfl) (by kernel_rfl) ?_;simp only[List.take_succ_cons,List.take_zero,List.drop_succ_cons,List.drop_zero];exact ζ.dJ):P:=h ⟨k⟩
def Of(h:dH K->P:=by
  intro ζ;have key:∀{v:Value}{ps:List au},a8 w b v ps->a8 w' b v ps:=λhop=>ak.kept hop hgr (by have:=iu (by decide) hop h2;simpa[Value.ownBlock]using this)
  have T:Touch (jn (os b (cC g n cap) ys) (op b (.slice da dn dc) l)).F w w':=Touch.be hgr (λk e=>by cases e;exact .inl (.inl rfl));revert T;revert key;exact ζ.dJ):P:=h ⟨k⟩
def Og(h:P:=by
  go_wp2;exact bN (hi:=IZ) (.tuple #[.agg b8,i6 161]) hbz (.inl ⟨161,HE,rfl,UZ⟩)):P:=h
def Oh(h:P:=by
  rw[List.length_append,List.length_singleton,List.take_succ_eq_append_getElem h,List.map_append,List.map_singleton,List.zip_append (by simp;omega)];rfl):P:=h
def Oi(h:P:=by
  rw[List.length_append,List.length_append,h5,jj,List.length_map,List.length_replicate];omega):P:=h
def Oj(h:P:=by
  obtain⟨k,hk,he⟩:=List.mem_map.1 this;rw[<-he,Int.toNat_natCast];exact hk):P:=h
def Ol(h:P:=by
  intro x' ag y' aw;obtain⟨x,hx,rfl⟩:=(m _).mp ag;obtain⟨y,hy,rfl⟩:=(m _).mp aw;grind):P:=h
def Om(h:dH K->P:=by
  intro ζ;obtain⟨T,s⟩:=az ((Touch.bV (F:=λk=>PF H k\/k=gb) s.pure).trans (t6.mono (F':=λk=>PF H k\/k=gb) (λ_ h=>.inr h)) (λ_ h _=>h)) (Fr.start w6);revert s;revert T;exact ζ.dJ):P:=h ⟨k⟩
def XY(h:P:=by
  have:p.aV<=y.ay:=Classical.byContradiction λh3=>h2 (λz hz ez=>by rw[F.gb.inj hz hy (ez.trans e.symm)];omega);exact SI.el v vm y hy e p (oldIn p h1) this):P:=h
def On(h:dH K->P:=by
  intro ζ;change wpAnyH _ _ _ _ _ 13 #[false,false,false,false,false,false,false,false,false,false,false,false,false] _ (w2.drew);have UD:=an (Up.drew (Up.refl w2));revert UD;exact ζ.dJ):P:=h ⟨k⟩
def Oo(h:dH K->P:=by
  intro ζ;obtain⟨S2,LT⟩:=aw (show w2.heap.size=w.heap.size+2 from by rw[hw2];simp only[aN]) (show(∀k,cK H.h k->k<w.heap.size)/\p<w.heap.size from⟨λk hk=>A.ga.pa.lt k (.inr (.inr hk)),A.e6.lt⟩);revert LT;revert S2;exact ζ.dJ):P:=h ⟨k⟩
def Oq(h:dH K->P:=by
  intro ζ;obtain⟨HU,BE⟩:=aw hu (λW (d:DA W h G.P.C m ff)=>W' W h G.P.C m ff d (by have:=I.ln;omega) ⟨tx,G.P.ba,iL,40,(κ G.P.C:Int)⟩ (by rw[hu];exact R.here K.ub.2.2.2.2) (by rw[hu];exact R.le));revert BE;revert HU;exact ζ.dJ):P:=h ⟨k⟩
def Ot(h:dH K->P:=by
  intro ζ;have e1:(fE M.l (recAt M.l k)).name=ea G.l (recAt G.l k).id:=by show ea M.l (recAt M.l k).id=_;rw[S.l,a',xw];rfl
  have e2:(fE M.l (recAt M.l k)).blocks=(recAt G.l k).blocks:=by show(recAt M.l k).blocks=_;rw[S.l,a'];rfl
  revert e2;revert e1;exact ζ.dJ):P:=h ⟨k⟩
def br(h:dH K->P:=by
  intro ζ;refine p3 s ?_;exact ζ.dJ):P:=h ⟨k⟩
def bx(h:dH K->P:=by
  intro ζ;(try simp only[Act.put,fL]);exact ζ.dJ):P:=h ⟨k⟩
def gG(h:dH K->P:=by
  intro ζ;refine wp_region_quiet_below (by rfl) (by kernel_rfl) ?_;exact ζ.dJ):P:=h ⟨k⟩
def hT(h:dH K->P:=by
  intro ζ;refine wpStill_nil ?_;exact ζ.dJ):P:=h ⟨k⟩
def ir(h:dH K->P:=by
  intro ζ;have b2:((k:Int)<(κ l:Int))=True:=by simp;omega
  revert b2;exact ζ.dJ):P:=h ⟨k⟩
def nj(h:dH K->P:=by
  intro ζ;refine⟨_,rfl,Up.refl _,?_⟩;exact ζ.dJ):P:=h ⟨k⟩
def oS(h:dH K->P:=by
  intro ζ;have b3:((k:Int)<(κ l:Int))=True:=by simp;omega
  revert b3;exact ζ.dJ):P:=h ⟨k⟩
def rr(h:P:=by
  exact⟨G2,⟨rfl,G2,hR,.inl ⟨h0,rfl⟩⟩,ha⟩):P:=h
def u'(h:dH K->P:=by
  intro ζ;refine wp_region_quiet_below (by kernel_rfl) (by kernel_rfl) ?_;exact ζ.dJ):P:=h ⟨k⟩
def va(h:dH K->P:=by
  intro ζ;have b2:((κ l:Int)<(κ l:Int))=False:=by simp
  revert b2;exact ζ.dJ):P:=h ⟨k⟩
def ve(h:dH K->P:=by
  intro ζ;simp only[List.take_succ_cons,List.take_zero,List.drop_succ_cons,List.drop_zero];exact ζ.dJ):P:=h ⟨k⟩
def zt(h:dH K->P:=by
  intro ζ;refine⟨by simp,.inl ⟨_,_,rfl,run_takeDeferred hK,?_⟩⟩;exact ζ.dJ):P:=h ⟨k⟩
def Gl(h:dH K->P:=by
  intro ζ;have hh:(w.alloc (.cells cs t fr)).heap[w.heap.size]?=some (.cells cs t fr):=by show(w.heap.push _)[w.heap.size]?=_;simp
  revert hh;exact ζ.dJ):P:=h ⟨k⟩
def Gm(h:dH K->P:=by
  intro ζ;simp only[Bool.false_eq_true,false_and,and_false,and_self,if_false,if_true,reduceIte];exact ζ.dJ):P:=h ⟨k⟩
def Gn(h:P:=by
  refine(HL.trans T2 (λn hn _=>hn)).trans (Touch.be (F:=λb=>b=w.heap.size) hg4 (λk hk=>by grind)) (λn hn hlt=>by omega)):P:=h
def Gp(h:P:=by
  exact .inl (.inr (.inr (.inr (.inr (.inr h)))))):P:=h
def Gq(h:dH K->P:=by
  intro ζ;have ab:=an (show ∀g,w.heap.size<=g->¬PF H g from λg hg hf=>by have:=HA.lt _ hf;omega);revert ab;exact ζ.dJ):P:=h ⟨k⟩
def Gr(h:dH K->P:=by
  intro ζ;refine⟨_,_,rfl,.q (v:=nl) (ak.nil _ _ _ _ _) u s.t.size,?_⟩;exact ζ.dJ):P:=h ⟨k⟩
def Gs(h:dH K->P:=by
  intro ζ;have c0:w.cell? ⟨p,0,none⟩=some (.pointer (some ⟨gb,0,none⟩)):=A.e6.cell 0;revert c0;exact ζ.dJ):P:=h ⟨k⟩
def Ou(h:dH K->P:=by
  intro ζ;have MK:∀W:World,(Instr.makeSlice 88 (i6 0) (i6 (T:Int))).run prog W=_:=λW=>mo (P:=prog) 88 87 _ 3 24 underlying88 hy T (by omega) (by omega) W;revert MK;exact ζ.dJ):P:=h ⟨k⟩
def Ov(h:dH K->P:=by
  intro ζ;refine jV aH cg (.tmp 52) (.tmp 53) 30 rfl (w2.heap.size+2) 5 (.int .u8 0) 1 underlying30 ew rfl v5 _ rfl Od v7 _ rfl Pd hb1 hb2 SB ?_;exact ζ.dJ):P:=h ⟨k⟩
def XZ(h:P:=by
  rw[show off+(k+1)=off+k+1 by omega,List.take_succ_eq_append_getElem (by simp;omega),List.getElem_set_self,List.take_set_of_le (Nat.le_refl _)]):P:=h
def Ow(h:P:=by
  exact .inr ⟨g,cap,cur,hv,hg,by rw[ht.block g hlt (hf g (by rw[hv];rfl))];exact hh,r⟩):P:=h
def Ox(h:dH K->P:=by
  intro ζ;have ab:i ∉ E.map (·.1):=λhm=>by exact Z3
  revert ab;exact ζ.dJ):P:=h ⟨k⟩
def Oy(h:dH K->P:=by
  intro ζ;change wpStill _ _ (wr.alloc (.cells (j5 x) 116)).drew (λa'=>wpList _ _ _ _ a' (wr.alloc (.cells (j5 x) 116)).drew) _ _;exact ζ.dJ):P:=h ⟨k⟩
def Oz(h:dH K->P:=by
  intro ζ;have hS:=an (show pK wr w.heap.size (r7 (l.take (k+1)))from a7.congr HB (λi hi=>by
   rw[hT.out i];have:¬(i:Int)=x:=by omega
   simp[this]))
  revert hS;exact ζ.dJ):P:=h ⟨k⟩
def OA(h:dH K->P:=by
  intro ζ;have S4:=an (show aI w4 w.heap.size 94 #[pz H.pb]/\aI w4 (w.heap.size+1) 41 #[sq ga offa (κ ats) ac]/\aI w4 (w.heap.size+1+1+1+1) 88 #[.slice vd (κ pre) vc]/\w4.cell? (ad ga (offa+κ pre))=some (i6 (i:Int))from⟨J4.x3,J4.x5,J4.x8,CA4⟩);revert S4;exact ζ.dJ):P:=h ⟨k⟩
def OB(h:P:=by
  refine⟨S.nx,S.len,S.rt,mz a3 (by simp_all),?_,?_,?_,?_,?_,?_⟩<;>simp only[h7]<;>grind):P:=h
def OC(h:dH K->P:=by
  intro ζ;have NF:∀n,n<w.heap.size->¬cK H.h n->¬(PF ⟨pb,mb,H.h⟩ n\/n=gb'):=λn hn hf h=>by exact Z1
  revert NF;exact ζ.dJ):P:=h ⟨k⟩
def OD(h:dH K->P:=by
  intro ζ;have al:gC G.P.C y.root p:=by exact XT
  revert al;exact ζ.dJ):P:=h ⟨k⟩
def OE(h:P:=by
  exact⟨⟨vb,a',vA b T (λk hk=>.inl ⟨_,_,by subst hk;exact a,by decide,by decide⟩),c.ax T (λe=>c.ne a e)⟩,T.mono (λ_ h=>.inl h)⟩):P:=h
def OF(h:dH K->P:=by
  intro ζ;have hk:o.kind=0\/o.kind=1\/o.kind=2\/o.kind=3\/o.kind=4\/o.kind=5\/o.kind=6\/o.kind=7\/o.kind=8\/o.kind=9\/(o.kind<0\/9<o.kind):=by omega
  revert hk;exact ζ.dJ):P:=h ⟨k⟩
def OG(h:dH K->P:=by
  intro ζ;refine⟨_,Step.done I3 (S.gone I il rfl rfl rfl (λz hz=>?_)) hd (λh=>h) (by simp) (by simp) (by simp) (by simp) rfl (by show M.st<=_;omega) (by show M.made<=_;omega)⟩;revert hz;revert z;exact ζ.dJ):P:=h ⟨k⟩
abbrev af:=Go.World
abbrev ah:=Go.Value
abbrev aj:=UInt8
def aE:=@Nat.le_refl
def aO:=@if_neg
def bn:=@List.mem_cons_of_mem
abbrev bu:=Go.Program
def bp:=@if_pos
def bG:=@Nat.zero_le
abbrev bR:=Go.Operand
def bO:=@Nat.le_trans
def cm:=@List.getElem_mem
def ct:=@congrArg
def cG:=@eq_false
def cS:=@List.mem_cons_self
def di:=@Go.cell_regrown
def dk:=@List.take_of_length_le
def dC:=@Option.some.inj
def dU:=@eq_true
def eo:=@List.take_succ_eq_append_getElem
def eh:=@Nat.lt_of_lt_of_le
def ey:=@List.length_take
abbrev eT:=Go.TypeDesc
def e7:=@Go.RowKit.Below.refl
def e8:=@Go.wp_region_held
def fj:=@List.take_length
def fk:=@List.pairwise_cons
def fm:=@decide_eq_true
def fG:=@Go.callsIn_wide
def fO:=@List.take_append_drop
def gl:=@List.flatMap_append
def gM:=@Nat.le_succ
def hA:=@List.length_drop
def h':=@Go.wpList_plain
def hn:=@Array.toList_inj
def h8:=@Go.World.block_lt_of_cell?
def h0:=@List.take_left'
def ia:=@of_decide_eq_true
def iI:=@List.getElem?_eq_getElem
def ja:=@Int.eq_ofNat_of_zero_le
def jb:=@decide_eq_false
def jC:=@Go.info_parts
def kh:=@List.filter_append
def jD:=@List.getElem_of_mem
def jE:=@Nat.lt_or_ge
def jF:=@List.mem_singleton
def ki:=@List.getElem?_eq_some_iff
def kk:=@Go.bodyPost_ret
def kl:=@Go.Calls.regrown_of
def km:=@Go.Oper.semAt_some
def lg:=@Go.cell_kept
def kr:=@Go.wpAnyIn_take
def lb:=@Go.zero_of_info
def lh:=@List.drop_left'
def l7:=@Array.getElem?_toList
def nI:=@List.map_map
def nJ:=@Go.World.cell?_of_block
def nK:=@List.mem_append_left
def nL:=@Go.OwnFrom.and
def oH:=@Go.RowKit.Below.block
def oI:=@Nat.le_of_lt
def oJ:=@List.mem_append_right
def oK:=@Go.callsIn_of_wp_marks
def oL:=@Go.ownFrom_below
def oM:=@Go.belowK_b
def qe:=@List.length_eq_zero_iff
def qf:=@Array.getElem?_eq_some_iff
def qg:=@Go.BigFrame.wpList_want
def qh:=@List.length_filter_le
def qi:=@List.drop_eq_getElem_cons
def qj:=@List.map_drop
def qk:=@Go.KeepsOthers.setCell
def ql:=@Option.bind_some
def qm:=@List.map_set
def sM:=@Go.World.ownsRow.kept
def sN:=@List.mem_of_mem_take
def sO:=@List.drop_of_length_le
def sP:=@List.getD_eq_getElem?_getD
def sQ:=@List.getElem?_eq_none
def sR:=@Go.results_tmp
def sS:=@Go.wp_store_row
def sT:=@List.mem_of_mem_drop
def wm:=@Go.size_madeCells
def wo:=@Nat.succ_mul
def wq:=@Go.run_storeCells_at
def wu:=@Array.all_eq_true_iff_forall_mem
def wv:=@Bool.not_eq_true
def wx:=@List.getElem_append_left
def wy:=@List.mem_filter
def wA:=@List.map_take
def wz:=@List.length_replicate
def wB:=@Go.wpIn_rangeFunc_ownF
def wC:=@List.ext_getElem?
def wD:=@List.sum_append
def AY:=@Go.World.ownsRow_made
def AZ:=@Go.all_oneCell_toArray
def A0:=@Go.wpAny_take
def A1:=@Nat.mul_comm
def A2:=@Go.wpAny_all
def A3:=@List.pairwise_append
def ux:=@Nat.lt_irrefl
def uy:=@Go.wp_region_still_tail
def uz:=@Nat.mod_lt
def uA:=@Go.callsIn_of_wp
def uB:=@List.nodup_append
def uD:=@List.mem_or_eq_of_mem_set
def uE:=@Nat.ne_of_lt
def uF:=@List.eraseIdx_eq_take_drop_succ
def yy:=@Go.World.ownsRow_nil
def yz:=@Go.run_append_owned_none
def yA:=@List.getElem?_append_left
def yB:=@List.getElem?_append_right
def yC:=@Go.wpAnyH_done
def yD:=@Nat.pow_succ
def yE:=@Nat.add_assoc
def yF:=@List.length_take_le
def yG:=@Nat.pow_mul
def yH:=@Go.run_equalIn_struct
def yI:=@Bool.eq_iff_iff
def yJ:=@Go.wpQuiet_nil
def XM:=@Go.below_regrown
def yK:=@Decidable.by_contra
def yL:=@Go.World.ownsRow_lit
def yM:=@List.foldl_cons
def yN:=@List.pairwise_singleton
def yO:=@Go.Region.noSelect_spec
def yP:=@List.ext_getElem
def yQ:=@List.findIdx?_eq_some_iff_getElem
def yR:=@Go.World.grownBy_alloc
def yS:=@Go.World.cell?_setCell_same'
def yT:=@Go.grownBy_putObj'
def yU:=@List.set_append_right
def yV:=@List.mem_range
def yW:=@List.map_singleton
def yX:=@Go.wpIn_region_any
def yY:=@List.drop_replicate
def yZ:=@Go.KeepsOthers.drew
def y1:=@List.getElem?_set_self
def y2:=@List.set_set
def y0:=@Go.Lib.run_eql_slice_nil
def y3:=@Nat.le_of_eq
def E0:=@Go.DataW.trod_slice
def E1:=@Option.bind_eq_some_iff
def E2:=@List.map_congr_left
def E3:=@Array.getElem?_modify
def E4:=@Go.run_loadVar_mid
def E5:=@Go.wpList_store_row
def E6:=@Go.results_cell_tmp
def E7:=@Nat.not_lt_zero
def E8:=@Nat.pow_le_pow_right
def E9:=@Go.IntKind.wrap_u8'
def E':=@List.getElem_append_right
def Fa:=@List.getElem?_toArray
def Fb:=@Array.all_eq_true'
def Fc:=@Go.Oper.apart_spec
def Fe:=@decide_eq_decide
def Ff:=@Nat.le_of_ble_eq_true
def Fg:=@Go.Oper.upon_value
def Fh:=@Nat.xor_lt_two_pow
def Fi:=@List.drop_append
def Fj:=@List.foldl_append
def Fk:=@Array.length_toList
def Fl:=@Go.run_takeDeferred
def Fm:=@Go.wpIn_rangeFunc_ownG
def Fo:=@Nat.add_sub_cancel_left
def Fp:=@List.eq_nil_or_concat
def Fq:=@List.concat_eq_append
def Fs:=@List.drop_length
def Ft:=@List.getElem?_set_ne
def Fu:=@Go.World.ownsMap_made
def Fv:=@List.mem_of_mem_eraseIdx
def Fw:=@List.length_eraseIdx
def Fx:=@Nat.le_add_right
def Fy:=@of_decide_eq_false
def Fz:=@List.length_pos_iff
def FA:=@Go.trodAll_cons_mk
def MY:=@List.eq_nil_of_length_eq_zero
def MZ:=@Array.getD_eq_getD_getElem?
def M0:=@List.set_eq_take_append_cons_drop
def M1:=@Array.extract_eq_self_of_le
def ae(h:P:=by omega):P:=h
def al(h:P:=by kernel_rfl):P:=h
def ao(h:P:=by simp;omega):P:=h
def aq(h:P:=by simp):P:=h
def av(h:P:=by decide):P:=h
def cr(h:P:=by simp only[Hid]at *;omega):P:=h
def aa(h:P:=by simp_all):P:=h
def aA(h:P:=by rfl):P:=h
def dy(h:P:=by unfold maxLen;omega):P:=h
def aP(h:P:=by grind):P:=h
def cq(h:P:=by assumption):P:=h
def abT(h:P:=by intro _ h;first|with_reducible exact mF h (by assumption) (by assumption)|with_reducible exact Co h (by assumption) (by assumption)|with_reducible exact Cp h (by assumption) (by assumption)|with_reducible exact BV h|with_reducible exact Cg h):P:=h
def l8(h:P:=by rw[List.length_map];omega):P:=h
def ku(h:P:=by with_reducible rfl):P:=h
def FU(h:P:=by obtain⟨ps,e,h⟩:=hs;exact⟨ps,e,hJ ps A B row h hg hr⟩):P:=h
def TU(h:P:=by have:=tP (l:=nS l (E.map (·.1))) (i:=i) (Ci hir);show mL ((nS l (E.map (·.1))).setIfInBounds i true)=n;omega):P:=h
def lj(h:P:=by have:=I.sI;omega):P:=h
def jG(h:P:=by simpa using h):P:=h
def jH(h:P:=by rw[h.cell];rfl):P:=h
def FV(h:P:=by rw[NX.out,HIO.out,hsn];exact(s.rem .head).rem .head):P:=h
def abU(h:P:=by obtain⟨vb,a,b,c⟩:=HA.out;rintro(h|h);exact eS a b2 (by decide) h.symm;exact c.ne b2 h.symm):P:=h
def gn(h:P:=by cases h):P:=h
def ll(h:P:=by rw[HE.out];rfl):P:=h
def iJ(h:P:=by grind [jY]):P:=h
def abV(h:P:=by rw[<-HQ.out]at hne;simp[hne,show ¬1024+j=i by omega,ry]):P:=h
def wE(h:P:=by rw[<-e.out];exact s.cA.cA):P:=h
def sU(h:P:=by simp[Value.ownBlock]):P:=h
def sV(h:P:=by simp only[intOf];omega):P:=h
def wF(h:P:=by rw[SPL.out];exact spn.1):P:=h
def KR(h:P:=by rintro(h|h);have:=LT.1 _ h;omega;have:=LT.2;omega):P:=h
def fP(h:P:=by go_num):P:=h
def qn(h:P:=by simp at hD;omega):P:=h
def A4(h:P:=by intro n hn;simp at hn;omega):P:=h
def qo(h:P:=by have:=B.st;omega):P:=h
def TV(h:P:=by simpa[Lit.wf,IntKind.min,IntKind.max,IntKind.signed,IntKind.bits]using hw):P:=h
def TW(h:P:=by obtain⟨pr,x,e1,e2,e3,e4⟩:=hs.2;exact⟨pr,x,e1,e2,e3,lg e4 hg hr⟩):P:=h
def abW(h:P:=by rw[run_slice_l W T a len cap ht .i64 lo (by omega) (by omega),hs];rfl):P:=h
def abX(h:P:=by rw[run_slice_h W T a len cap ht .i64 hi (by omega) (by omega),hs];rfl):P:=h
def wG(h:P:=by have:=A.lt _ hf;omega):P:=h
def sW(h:P:=by have:=B.nx;omega):P:=h
def A5(h:P:=by rw[SPL.out];exact spn.2):P:=h
def qp(h:P:=by show 0<=_;omega):P:=h
def wH(h:P:=by cases hk;exact aE _):P:=h
def abY(h:P:=by have:=iu (by decide) hop h2;simpa[Value.ownBlock]using this):P:=h
def TX(h:P:=by have h3:=(OM.aJ k hk).1;have:=HA.lt k hpf;have:=UUS.out;omega):P:=h
def abZ(h:P:=by simp[show ¬k=1024+q by omega,hne,rz hk]):P:=h
def TY(h:P:=by have:=PS j hj y hy e.symm;rw[h]at this;have:=this.2 h0;omega):P:=h
def TZ(h:P:=by unfold eF;split<;>exact⟨rfl,rfl,rfl,rfl,rfl,rfl,rfl,rfl⟩):P:=h
def ab0(h:P:=by refine dY ?_;intro hh;exact absurd hh.2.2.2.1.1 (by omega)):P:=h
def ab1(h:P:=by refine dY ?_;intro hh;exact absurd hh.2.2.2.1.2 (by omega)):P:=h
def oN(h:P:=by cases hk;rfl):P:=h
def KS(h:P:=by rw[eo hlt,List.map_append,b0 hlt];rfl):P:=h
def T0(h:P:=by unfold nq;rw[List.range_succ,kh,List.map_append];simp[h]):P:=h
def T1(h:P:=by rw[List.take_zero,List.nil_append,Nat.sub_zero];exact OS0):P:=h
def KT(h:P:=by show -1<=(-1:Int)/\(-1:Int)<=_;omega):P:=h
def T2(h:P:=by have:=(iT.1 (r.ok e he).1).2;rw[e2,c2]at this;cases this):P:=h
def wI(h:P:=by intro W;kernel_rfl):P:=h
def ab2(h:P:=by refine dY ?_;intro hh;exact absurd hh.2.1.1 (by omega)):P:=h
def ab3(h:P:=by refine dY ?_;intro hh;exact absurd hh.2.1.2 (by omega)):P:=h
def T3(h:P:=by obtain⟨e,he,h2⟩:=List.mem_map.1 hm;exact hE e he h2):P:=h
def ab4(h:P:=by refine dY ?_;intro hh;exact absurd hh.1.1 (by omega)):P:=h
def ab5(h:P:=by refine dY ?_;intro hh;exact absurd hh.1.2 (by omega)):P:=h
def T4(h:P:=by have hk:k=_:=hk;subst hk;rcases hp with h|h|h<;>omega):P:=h
def T5(h:P:=by show(match aK l m with|none=>_|some j=>_)=_;simp_all):P:=h
def A6(h:P:=by cases hj;exact aE _):P:=h
def qs(h:P:=by rw[oc];rfl):P:=h
def T6(h:P:=by rw[F.floor vm];exact F.Vy vm (I.si.brt v vm p hp).1):P:=h
def T7(h:P:=by have:=(I.ml q hq).1;rw[e]at this;revert this;decide):P:=h
def A7(h:P:=by show G.next<_;omega):P:=h
def nM(h:P:=by rw[h];rfl):P:=h
def T8(h:P:=by rw[List.length_map,HAL.out,HND.out];exact aE _):P:=h
def T9(h:P:=by obtain⟨_,_,h⟩:=hv.slice;simp at h;exact h.2.1):P:=h
def FW(h:P:=by rw[hw4];exact XM _ _ _):P:=h
def FX(h:P:=by cases hk;exact .inl rfl):P:=h
def FY(h:P:=by rw[<-e,List.length_map]):P:=h
def KU(h:P:=by rw[List.length_set];exact F.len):P:=h
def T'(h:P:=by have hk:k=_:=hk;subst hk;exact⟨_,_,_,qb⟩):P:=h
def qt(h:P:=by grind [eG]):P:=h
def KV(h:P:=by first|assumption|exact lD):P:=h
def ab6(h:P:=by unfold cJ;rw[bp (by omega)]):P:=h
def Ua(h:P:=by rw[LQ.out,List.length_append,LP.out];omega):P:=h
def A8(h:P:=by simpa using hi):P:=h
def A9(h:P:=by rw[HF.out]<;>rfl):P:=h
def FZ(h:P:=by have:=Hl2.out;omega):P:=h
def F1(h:P:=by intro _;kernel_rfl):P:=h
def F2(h:P:=by have:=LN.out;omega):P:=h
def Ub(h:P:=by unfold gN;rw[List.length_append,fA,jq]):P:=h
def Uc(h:P:=by show 64<=κ C/\(κ C)<=1024;omega):P:=h
def A'(h:P:=by unfold bh;omega):P:=h
def F3(h:P:=by rw[E.out];exact H.1):P:=h
def Ba(h:P:=by rw[hd,hX];rfl):P:=h
def sX(h:P:=by grind [fJ]):P:=h
def sY(h:P:=by rw[e];rfl):P:=h
def sZ(h:P:=by simp[D0]):P:=h
def s4(h:P:=by grind [cD]):P:=h
def s5(h:P:=by grind [cE]):P:=h
def Ud(h:P:=by have:=K.ex;rw[<-hu]at this;exact this):P:=h
def KW(h:P:=by have:=(iP RW5 h).2;omega):P:=h
def Ue(h:P:=by apply hn.1;unfold splice;simp;omega):P:=h
def Uf(h:P:=by obtain⟨h1,h2,_⟩:=Kt h;grind [b0]):P:=h
def FB(h:P:=by rw[sn.property];omega):P:=h
def FC(h:P:=by unfold sB;grind [KM,fW]):P:=h
def y4(h:P:=by rw[lI];exact hlt):P:=h
def rh(h:P:=by grind [hq]):P:=h
def FD(h:P:=by simp[Value.oneCell']):P:=h
def FE(h:P:=by rw[HL.out];exact hlt):P:=h
def FF(h:P:=by show M.made<=_;omega):P:=h
def FG(h:P:=by rw[HB.out];simp;omega):P:=h
def ri(h:P:=by grind [dM]):P:=h
def FH(h:P:=by rw[List.length_map]):P:=h
def rj(h:P:=by grind [dq]):P:=h
def rk(h:P:=by grind [Vx]):P:=h
def FI(h:P:=by have:=F.KH y hy;omega):P:=h
def uG(h:P:=by grind [gd]):P:=h
def uH(h:P:=by grind [vn]):P:=h
def y5(h:P:=by rw[HZ.out];rfl):P:=h
def y6(h:P:=by grind [Rest,qM]):P:=h
def y7(h:P:=by show 1<=_;omega):P:=h
def FJ(h:P:=by unfold wpOp;simp_all):P:=h
def uI(h:P:=by rw[h1];rfl):P:=h
def FK(h:P:=by rw[HP.out];exact hJ3):P:=h
def FL(h:P:=by unfold dq at h;grind):P:=h
def FM(h:P:=by have:=u.size;omega):P:=h
def FN(h:P:=by show M.st<=_;omega):P:=h
def y8(h:P:=by rw[HP.out];rfl):P:=h
def uJ(h:P:=by grind [rP]):P:=h
def FO(h:P:=by rw[HP.out];exact JD):P:=h
def FP(h:P:=by have:=HI.sI;omega):P:=h
def FQ(h:P:=by have:=K.nx;omega):P:=h
def uK(h:P:=by grind [b9]):P:=h
def FR(h:P:=by have:=I.nx;omega):P:=h
def y9(h:P:=by simp[cI,<-hg]):P:=h
def y'(h:P:=by rw[E.out];rfl):P:=h
def uL(h:P:=by grind [oD]):P:=h
def uM(h:P:=by grind [ee]):P:=h
def uN(h:P:=by grind [cp]):P:=h
def uO(h:P:=by grind [fz]):P:=h
def rl(h:P:=by cases hp):P:=h
def FT(h:P:=by rw[hv];exact hX):P:=h
def zb(h:P:=by rw[hy];rfl):P:=h
def uP(h:P:=by rw[sza]):P:=h
def uQ(h:P:=by exact XW):P:=h
end
def Up(w w':af):Prop:=Below w.heap.size w w'
theorem Up.refl(w:af):Up w w:=e7 _ _
def Up.trans{a b c:af}(h:Up a b)(k:Up b c):Up a c:=Below.trans h (Below.mono k (Below.size h))
def Up.size{a b:af}(h:Up a b):a.heap.size<=b.heap.size:=Below.size h
theorem Up.cell{w w':af}(h:Up w w'){v:ah}(hc:w.cell? a=some v):w'.cell? a=some v:=(Below.cell h (h8 w a hc)).trans hc
def Up.frozen{w w':af}(h:Up w w')(ha:a.block<w.heap.size):w'.frozen? a=w.frozen? a:=Below.frozen h ha
theorem Up.alloc{w w':af}(h:Up w w')(o:Obj):Up w (w'.alloc o):=Below.alloc h h.size o
def Up.drew{w w':af}(h:Up w w'):Up w w'.drew:=Below.drew h
def Up.drewN{w w':af}(h:Up w w')(n:Nat):Up w (w'.drewN n):=⟨h.os,h.tape,h.output,h.size,h.block⟩
theorem ai(w:af)(o:Obj):Up w (w.alloc o):=(Up.refl w).alloc o
def Up.setCell{w w':af}(h:Up w w')(ha:w.heap.size<=a.block)(u:ah):Up w (w'.setCell a u):=Below.setCell h ha u
def Up.grown{w w' aa:af}{row:Option Nat}(h:Up w w')(hg:w'.grownBy aa row)(hr:∀k,row=some k->w.heap.size<=k):Up w aa:=Below.grown h hg h.size hr
def Up.below{w w':af}(h:Up w w'):Below w.heap.size w w':=h
def aC(f:α->ah)(w:af)(v:ah)(l:List α):Prop:=(l=[]/\∃a cap,v=.slice a 0 cap/\cap<=maxLen/\(a=none->cap=0))\/∃b off cap,v=.slice (some ⟨b,off,none⟩) (κ l) cap/\0<κ l/\(κ l)<=cap/\cap<=maxLen/\∀i(h:i<κ l),w.cell? ⟨b,off+i,none⟩=some (f l[i])
theorem aC.up{f:α->ah}{w w':af}{v:ah}{l:List α}(h:aC f w v l)(hu:Up w w'):aC f w' v l:=by
 rcases h with h|⟨b,off,cap,h1,h2,h3,h4,h5⟩
 ·exact .inl h
 ·exact .inr ⟨b,off,cap,h1,h2,h3,h4,λi hi=>hu.cell (h5 i hi)⟩
theorem aC.length_le{f:α->ah}{w:af}{v:ah}{l:List α}(h:aC f w v l):κ l<=9223372036854775807:=by exact Nz
theorem aC.slice{f:α->ah}{w:af}{v:ah}{l:List α}(h:aC f w v l):∃a cap,v=.slice a (κ l) cap:=by
 rcases h with⟨rfl,a,cap,rfl,_⟩|⟨b,off,cap,rfl,_⟩
 ·simp
 ·simp
theorem aC.nil(f:α->ah)(w:af):aC f w (.slice none 0 0) []:=.inl ⟨rfl,none,0,rfl,bG _,λ_=>rfl⟩
theorem cf{f:α->ah}{w:af}{a:Option Addr}{l:List α}(h:aC f w (.slice a n cap) l)(hn:n=κ l)(h0:0<κ l):∃b off,a=some ⟨b,off,none⟩/\b<w.heap.size/\∀i(h:i<κ l),w.cell? ⟨b,off+i,none⟩=some (f l[i]):=by
 rcases h with⟨rfl,_⟩|⟨b,off,al,hv,_,_,_,hc⟩
 ·simp at h0
 ·simp at hv;exact⟨b,off,hv.1,h8 w _ (hc 0 h0),hc⟩
def bA(n:Int):ah:=.int .i64 n
def cu(n:Nat):ah:=.int .u64 (n:Int)
def p'(n:Int):(bA n).oneCell'=true:=rfl
def qR(n:Nat):(cu n).oneCell'=true:=rfl
def aH(c:aj):ah:=.int .u8 (c.toNat:Int)
abbrev aY(w:af)(v:ah)(l:List aj):Prop:=aC aH w v l
theorem aC.owned{f:α->ah}{w:af}{v:ah}{l:List α}(h:w.ownsRow base e 1 v (κ l) (l.map f)):aC f w v l:=by
 obtain⟨_,h2⟩:=h;rcases h2 with⟨rfl,h0⟩|⟨g,cap,cur,rfl,_,hg,hn,hm,hs,ht⟩
 ·grind [aC.nil]
 ·by_cases h0:κ l=0
  ·exact NA
  ·refine .inr ⟨g,0,cap,rfl,ae,hn,hm,λi hi=>?_⟩;have hc:w.cell? ⟨g,0+i,none⟩=cur[0+i]?:=by simp[Aco,hg]
   rw[hc,Abn];have h1:(cur.toList.take (κ l*1))[i]?=(l.map f)[i]?:=by rw[ht]
   grind
theorem aC.lit{f:α->ah}(w:af)(cs:Array ah)(t:Aab)(fr:Nat × Nat)(l:List α)(n:Nat)(hn:n=κ l)(hm:n<=maxLen)(aD:cs.toList=l.map f):aC f (w.alloc (.cells cs t fr)) (.slice (some ⟨w.heap.size,0,none⟩) n n) l:=by
 subst hn;by_cases h0:κ l=0
 ·exact NB
 ·refine .inr ⟨w.heap.size,0,κ l,rfl,ae,aE _,hm,λi hi=>?_⟩;refine Gl ?_;intro hh;have hc:(w.alloc (.cells cs t fr)).cell? ⟨w.heap.size,0+i,none⟩=cs[0+i]?:=by unfold Aco;rw[hh];rfl
  rw[hc,Abn];have h1:cs.toList[i]?=(l.map f)[i]?:=by rw[aD]
  grind
theorem aC.er{f:α->ah}(w:af)(b:Nat)(hb:b=w.heap.size)(cs:Array ah)(t:Aab)(fr:Nat × Nat)(l:List α)(n:Nat)(hn:n=κ l)(hm:n<=maxLen)(aD:cs.toList=l.map f):aC f (w.alloc (.cells cs t fr)) (.slice (some ⟨b,0,none⟩) n n) l:=by grind [aC.lit]
theorem k'{l:List α}{x:α}(h:l[j]?=some x):∃hj:j<κ l,l[j]=x:=aP
def S8{H:Type}:DataW H->Nat
 | .slice e s=>κ e+κ s
 | .lit (.string b)=>κ b
 | _=>0
theorem DL(f:α->ah)(Q:α->Prop){enc:Aab × ah->H}{P:bu}{W:af}{v:ah}{d:DataW H}{ps:List MemPlace}(ht:P.underlying t=some (.slice e))(aL:P.cellsOf e=1)(ag:∀n c y,DataW.trod enc P W 0 (λ_=>true) true n e [c]=some y->∃x,c=f x/\Q x)(hf:DataW.trod enc P W 0 (λ_=>true) true fuel t [v]=some (d,ps)):∃l:List α,aC f W v l/\(κ l)<=S8 d/\(d=.nil\/∃x y,d=.slice x y)/\∀x∈l,Q x:=by
 rcases E0 ht hf with⟨h1,h2⟩|⟨a,len,cap,elems,rest,n,_,aD,hx,_,hl,hm,aj,ab,a8,_⟩
 ·simp at h1;subst h1;simp only[Adh]at h2;exact⟨[],aC.nil f W,aq,.inl h2.1,aq⟩
 ·simp at aD;subst aD;simp only[Adh]at hx;obtain⟨rfl,_⟩:=hx;have each:∀i,i<len->∃x,W.cell? (a.add i)=some (f x)/\Q x:=by intro i hi;have h:=ab i hi;rw[aL,Nat.mul_one,iI ae,E1]at h;obtain⟨cs,aD,hy⟩:=h;obtain⟨c,rfl⟩:=List.length_eq_one_iff.1 ((World.cells?_some aD).2.1);obtain⟨x,rfl,hq⟩:=ag n c _ hy;exact⟨x,ChangeShapes.cell_of_cells?_one aD,hq⟩
  have all:∀k,k<=len->∃l:List α,κ l=k/\(∀i(h:i<κ l),W.cell? (a.add i)=some (f l[i]))/\∀x∈l,Q x:=by
   intro k;induction k with
   | zero=>simp
   | succ k ih=>
    intro hk;obtain⟨l,h1,h2,h3⟩:=ih ae;obtain⟨x,hx,hq⟩:=each k ae;refine⟨l++[x],ao,λi hi=>?_,λy hy=>?_⟩
    ·grind
    ·grind
  obtain⟨l,h1,h2,h3⟩:=all len (aE _);refine⟨l,?_,by grind [S8],.inr ⟨_,_,rfl⟩,h3⟩;by_cases h0:len=0
  ·exact Na
  ·have aM:=h2 0 ae;obtain⟨b,off,spot⟩:=a;have aa:spot=none:=by simpa[Addr.add]using World.cell?_spot aM
   subst aa;refine .inr ⟨b,off,cap,ao,ae,ae,hm,λi hi=>?_⟩;have:=h2 i hi;unfold Addr.add at this;split at this
   ·simp_all
   ·exact this
theorem ZI{enc:Aab × ah->H}{P:bu}{W:af}(he:P.underlying e=some (.int .u8)):∀n c y,DataW.trod enc P W 0 (λ_=>true) true n e [c]=some y->∃x,c=aH x/\True:=by
 intro n c y hy;obtain⟨m,hm,_,hw⟩:=DataW.trod_int he hy;simp at hm;subst hm;have hb:0<=m/\m<=255:=TV
 refine⟨Ab6 m.toNat,?_,trivial⟩;unfold aH;simp;omega
theorem VL{enc:Aab × ah->H}{P:bu}{W:af}{v:ah}{d:DataW H}{ps:List MemPlace}(ht:P.underlying t=some (.int .i64))(ab:Value.okWide P W .any base t v)(hd:DataW.Trod enc P W 0 (λ_=>true) true t v d ps):∃n:Int,v=.int .i64 n/\-9223372036854775808<=n/\n<=9223372036854775807:=by
 obtain⟨m,rfl,_,_,hw⟩:=ChangeShapes.open_int ht ab hd;have hb:-9223372036854775808<=m/\m<=9223372036854775807:=TV
 simp;omega
theorem zy(a:Nat)(ha:a<4294967296):bits .xor .u32 (4294967295) (a:Int)=((4294967295-a:Nat):Int):=by
 show IntKind.u32.wrap ((BitVec.ofInt 32 4294967295^^^BitVec.ofInt 32 (a:Int)).toNat:Int)=_;have h1:BitVec.ofInt 32 4294967295=BitVec.allOnes 32:=av
 rw[h1,BitVec.allOnes_xor,BitVec.toNat_not,ofInt_u32 a ae];exact zp
theorem add_plain(b off j:Nat):(⟨b,off,none⟩:Addr).add j=⟨b,off+j,none⟩:=by unfold Addr.add;split<;>simp_all
def Own(f:α->ah)(e:Aab)(w:af)(base:Nat)(v:ah)(xs:List α):Prop:=w.ownsRow base e 1 v (κ xs) (xs.map f)
def Own.cv{f:α->ah}{w:af}{v:ah}{xs:List α}(h:Own f e w base v xs):aC f w v xs:=aC.owned h
theorem Own.nil(f:α->ah)(e:Aab)(w:af)(base:Nat):Own f e w base (.slice none 0 0) []:=yy _ _ _ _
theorem Own.mono{f:α->ah}{w:af}{v:ah}{xs:List α}(h:Own f e w base v xs)(hb:base'<=base):Own f e w base' v xs:=by exact Vc
theorem Own.up{f:α->ah}{w w':af}{v:ah}{xs:List α}(h:Own f e w base v xs)(hu:Up w w'):Own f e w' base v xs:=by exact Vd
def Own.made(f:α->ah)(e:Aab)(w:af)(base:Nat)(hb:base<=w.heap.size):Own f e (w.alloc (.cells #[] e)) base (.slice (some ⟨w.heap.size,0,none⟩) 0 0) []:=AY w #[] 0 hb (bG _) rfl
def Own.aJ{f:α->ah}{w:af}{v:ah}{xs:List α}(h:Own f e w base v xs):∀k,v.ownBlock=some k->base<=k/\k<w.heap.size:=Ad0 h
theorem fy{w w':af}{row:Option Nat}(hg:w.grownBy w' row)(hb:base<=w.heap.size)(hr:∀k,row=some k->base<=k):Below base w w':=(e7 base w).grown hg hb hr
theorem Own.row{f:α->ah}{w:af}{v:ah}{xs:List α}(h:Own f e w base v xs)(h0:0<κ xs):∃g cap,v=.slice (some ⟨g,0,none⟩) (κ xs) cap/\base<=g/\g<w.heap.size/\(∀i(h:i<κ xs),w.cell? ⟨g,i,none⟩=some (f xs[i]))/\(∀i,w.frozen? ⟨g,i,none⟩=false)/\
  ∀i x,Own f e (w.setCell ⟨g,i,none⟩ (f x)) base v (xs.set i x):=by
 have hb:=h.aJ;rcases h.2 with⟨_,h'⟩|⟨g,cap,cur,rfl,_⟩
 ·omega
 ·refine⟨g,cap,rfl,(hb g rfl).1,(hb g rfl).2,λi hi=>?_,λi=>World.ownsRow.frozenAt h i,λi x=>?_⟩
  ·rw[World.ownsRow.cellAt h i ae,List.getElem?_map,iI hi];rfl
  ·have:=(World.ownsRow.stored h i (f x)).1;unfold Own;simp;omega
theorem Up.aF{w0 w w':af}(h:Up w0 w)(hb:Below base w w')(ag:w0.heap.size<=base):Up w0 w':=Below.trans h (hb.mono ag)
section
variable {α:Type} {P:bu}
theorem jV(f:α->ah)(hf:∀x,(f x).oneCell'=true){w:af}{o:Oper}{a:Act}{K:Act->af->Prop}{Q:Exit->Act->af->Prop}(s x:bR)(t:TypeId)(ho:o.op=.call {callee:=.builtin .append,args:=#[s,x],argTypes:=#[t,t]})(base:Nat)(e:TypeId)(z:ah)(bytes:Nat)(ht:P.underlying t=some (.slice e))(hinfo:(P.info? e).map (λi=>(i.zero,i.size,i.bytes))=some (some z,1,bytes))(aw:z.cells.size=1)(v:ah)(xs:List α)(hs:a.eval s=v)(hown:Own f e w base v xs)(vx:ah)(ys:List α)(hx:a.eval x=vx)(ai:aC f w vx ys)(ab:(κ xs+κ ys)*bytes<=140737488355328)(an:κ xs+κ ys<=9223372036854775807)(ag:base<=w.heap.size)(h:∀v' w',Own f e w' base v' (xs++ys)->w.grownBy w' v.ownBlock->Below base w w'->K (a.put o.dst v') w'):o.wp P a w K Q:=by
 obtain⟨i,hi,hz0,hz1,ar⟩:=jC hinfo;have au:κ xs+κ ys<=maxLen:=cq
 have key:∀(ad:Addr)(c:Nat),vx=.slice (some ad) (κ ys) c->(∀j u,(ys.map f)[j]?=some u->w.cell? (ad.add j)=some u)->o.wp P a w K Q:=by
  intro ad c ax aj;refine wp_append_own w s x t ho base e i z 1 bytes ht hi hz0 hz1 ar aw av v (κ xs) (xs.map f) hs hown ad (κ ys) c (ys.map f) aa aq aj (λu hu=>?_) au ab ag ?_
  ·grind
  ·intro v' w' h1 h2 _;refine h v' w' ?_ h2 (fy h2 ag λk hk=>(hown.aJ k hk).1);grind [Own]
 rcases ai with⟨rfl,ad,cap,rfl,hc,hn⟩|⟨b,off,cap,rfl,h0,hl,hm,hc⟩
 ·cases ad with
  | none=>obtain rfl:=hn rfl;have hrun:=yz (P:=P) (w:=w) base t o.type e i 1 ht hi v (κ xs) (xs.map f) hown;exact NC
  | some ad=>simp_all
 ·grind [k',add_plain]
def bf(f:α->ah)(hf:∀x,(f x).oneCell'=true){w:af}{ops:Array Oper}{rest:List Oper}{o:Oper}{a:Act}{Q:Exit->Act->af->Prop}(hgd:o.guard=none)(s x:bR)(t:TypeId)(ho:o.op=.call {callee:=.builtin .append,args:=#[s,x],argTypes:=#[t,t]})(base:Nat)(e:TypeId)(z:ah)(bytes:Nat)(ht:P.underlying t=some (.slice e))(hinfo:(P.info? e).map (λi=>(i.zero,i.size,i.bytes))=some (some z,1,bytes))(aw:z.cells.size=1)(v:ah)(xs:List α)(hs:a.eval s=v)(hown:Own f e w base v xs)(vx:ah)(ys:List α)(hx:a.eval x=vx)(ai:aC f w vx ys)(ab:(κ xs+κ ys)*bytes<=140737488355328)(an:κ xs+κ ys<=9223372036854775807)(ag:base<=w.heap.size)(h:∀v' w',Own f e w' base v' (xs++ys)->w.grownBy w' v.ownBlock->Below base w w'->wpList P ops Q rest (a.put o.dst v') w'):wpList P ops Q (o::rest) a w:=h' hgd λ_ hK=>jV f hf s x t ho base e z bytes ht hinfo aw v xs hs hown vx ys hx ai ab an ag λv' w' h1 h2 h3=>hK _ _ (h v' w' h1 h2 h3)
end
def bW(a:Option Addr)(lo hi cap:Nat):ah:=.slice (if cap=lo then a else a.map (·.add (lo*1))) (hi-lo) (cap-lo)
theorem aC.piece{f:α->ah}{w:af}{a:Option Addr}{l:List α}(h:aC f w (.slice a n cap) l){lo hi:Nat}(h1:lo<=hi)(h2:hi<=κ l):aC f w (bW a lo hi cap) ((l.take hi).drop lo):=by
 have hlen:κ ((l.take hi).drop lo)=hi-lo:=ao
 rcases h with⟨rfl,a',al,hv,hm,hn⟩|⟨b,off,al,hv,h0,hl,hm,hc⟩
 ·exact UF
 ·simp only[Abh]at hv;obtain⟨rfl,_,rfl⟩:=hv;by_cases he:hi=lo
  ·subst he;have:(l.take hi).drop hi=[]:=qe.1 ae;rw[this];refine .inl ⟨rfl,_,cap-hi,by unfold bW;rw[Nat.sub_self],ae,λh=>?_⟩;grind
  ·refine .inr ⟨b,off+lo,cap-lo,?_,ae,ae,ae,λi aD=>?_⟩
   ·grind [bW,add_plain]
   ·grind
theorem DY{P:bu}(T:Aab)(ht:P.underlying T=some (.slice (P.elem T)))(hs:∀W:af,(sizeOf (P.elem T)).run P W=.ok 1 W)(a:Option Addr)(len cap lo hi:Nat)(h1:lo<=hi)(h2:hi<=cap)(W:af):(Aav T (.slice a len cap) (some (.int .i64 (lo:Int))) (some (.int .i64 (hi:Int))) none).run P W=.ok (bW a lo hi cap) W:=by exact N6
theorem df{P:bu}(T:Aab)(ht:P.underlying T=some (.slice (P.elem T)))(hs:∀W:af,(sizeOf (P.elem T)).run P W=.ok 1 W)(a:Option Addr)(len cap lo:Nat)(h1:lo<=len)(W:af):(Aav T (.slice a len cap) (some (.int .i64 (lo:Int))) none none).run P W=.ok (bW a lo len cap) W:=by rw[run_slice_l W T a len cap ht .i64 lo ae ae,hs];rfl
theorem hj{P:bu}(T:Aab)(ht:P.underlying T=some (.slice (P.elem T)))(hs:∀W:af,(sizeOf (P.elem T)).run P W=.ok 1 W)(a:Option Addr)(len cap hi:Nat)(h2:hi<=cap)(W:af):(Aav T (.slice a len cap) none (some (.int .i64 (hi:Int))) none).run P W=.ok (bW a 0 hi cap) W:=by rw[run_slice_h W T a len cap ht .i64 hi ae ae,hs];rfl
def j1(z:ah)(n:Nat):Array ah:=Acu z.cells n
theorem r0(z:ah)(n:Nat):(j1 z n).size=n:=by unfold j1;exact wm _ _
theorem R5(z:ah)(hz:z.cells=#[z])(n:Nat):(j1 z n).toList=Aad n z:=by unfold j1;rw[hz,toList_madeCells_one]
theorem kE{P:bu}(t e:Aab)(z:ah)(bytes:Nat)(ht:P.underlying t=some (.slice e))(hinfo:(P.info? e).map (λi=>(i.zero,i.size,i.bytes))=some (some z,1,bytes))(c:Nat)(hc:bytes*c<=281474976710656)(hm:c<=9223372036854775807)(w:af):(Aci t (.int .i64 0) (.int .i64 (c:Int))).run P w=.ok (.slice (some ⟨w.heap.size,0,none⟩) 0 c) (w.alloc (.cells (j1 z c) e)):=by refine ND ?_;intro i hi hz0 hz1 ar hb this;grind [j1]
theorem DX{P:bu}(t e:Aab)(z:ah)(bytes:Nat)(ht:P.underlying t=some (.slice e))(hinfo:(P.info? e).map (λi=>(i.zero,i.size,i.bytes))=some (some z,1,bytes))(c:Nat)(hc:bytes*c<=281474976710656)(hm:c<=9223372036854775807)(w:af):(Aci t (.int .i64 (c:Int)) (.int .i64 (c:Int))).run P w=.ok (.slice (some ⟨w.heap.size,0,none⟩) c c) (w.alloc (.cells (j1 z c) e)):=by refine NF ?_;intro i hi hz0 hz1 ar hb this;grind [j1]
theorem Own.room(f:α->ah)(e:Aab)(w:af)(z:ah)(base c:Nat)(hb:base<=w.heap.size)(hc:c<=9223372036854775807):Own f e (w.alloc (.cells (j1 z c) e)) base (.slice (some ⟨w.heap.size,0,none⟩) 0 c) []:=AY w (j1 z c) c hb cq (by simp[r0])
theorem Own.AR{f:α->ah}{f':β->ah}{e e':Aab}{w w':af}{v v':ah}{xs:List α}{ys:List β}(h:Own f e w base v xs)(h2:Own f' e' w base' v' ys)(hne:e≠e')(hg:w.grownBy w' v'.ownBlock):Own f e w' base v xs:=by
 refine sM h hg ?_;obtain⟨_,h⟩:=h;obtain⟨_,h2⟩:=h2;rcases h with⟨rfl,_⟩|⟨g,cap,cur,rfl,_,hh,_⟩
 ·exact .inl rfl
 ·right;rcases h2 with⟨rfl,_⟩|⟨g',al,aP,rfl,_,aa,_⟩
  ·simp[Aan]
  ·intro heq;simp[Aan]at heq;simp_all
theorem w6{P:bu}(f:α->ah)(hf:∀x,(f x).oneCell'=true){w:af}{a:Act}{Q:Exit->Act->af->Prop}(hgd:o.guard=none)(d s:bR)(t:TypeId)(ho:o.op=.call {callee:=.builtin .copy,args:=#[d,s],argTypes:=#[t,t]})(e:TypeId)(z:ah)(bytes:Nat)(ht:P.underlying t=some (.slice e))(hinfo:(P.info? e).map (λi=>(i.zero,i.size,i.bytes))=some (some z,1,bytes))(g n base:Nat)(hg:w.heap[g]?=some (.cells (j1 z n) e))(hb:base<=g)(aG:n<=9223372036854775807)(vs:ah)(ys:List α)(hd:a.eval d=.slice (some ⟨g,0,none⟩) n n)(hs:a.eval s=vs)(ai:aC f w vs ys)(hn:n<=κ ys)(h:∀w',Own f e w' base (.slice (some ⟨g,0,none⟩) n n) (ys.take n)->Below g w w'->wpList P ops Q rest (a.put o.dst (goInt n)) w'):wpList P ops Q (o::rest) a w:=by
 obtain⟨i,hi,hz0,hz1,ar⟩:=jC hinfo;obtain⟨sa,sc,rfl⟩:=ai.slice;have hlen:κ ((ys.take n).map f)=n:=ao
 have aD:κ (j1 z n).toList=n:=by simp[r0]
 refine wpList_copy_splice hgd d s t t ho e ht aa (some ⟨g,0,none⟩) sa n n (κ ys) sc hd hs g 0 (j1 z n).toList e ae ((ys.take n).map f) aa ?_ ae ?_ g w (e7 _ _) (aE _) ?_
 ·grind [cf,k',add_plain]
 ·grind
 ·intro w' hh ak;rw[hlen];refine h w' ?_ ak;have hh:=hh.out;have a8:Abz (j1 z n).toList 0 ((ys.take n).map f)=(ys.take n).map f:=by unfold Abz;simp_all
  rw[a8]at hh;have bh:κ (ys.take n)=n:=ao
  refine⟨aq,.inr ⟨g,n,((ys.take n).map f).toArray,ao,hb,hh,ae,cq,ao,?_⟩⟩;grind
def cg(c:aj):(aH c).oneCell'=true:=rfl
def strOf(l:List aj):ByteArray:=⟨l.toArray⟩
theorem mA(l:List aj):(strOf l).data.toList=l:=rfl
def tA(l:List aj):(strOf l).size=κ l:=rfl
theorem lv{P:bu}(src e:Aab)(hs:P.underlying src=some (.slice e))(he:P.underlying e=some (.int .u8))(dst:Aab)(hd:P.underlying dst=some .string)(w:af)(v:ah)(l:List aj)(h:aY w v l):(convert src dst v).run P w=.ok (.string (strOf l)) w:=by
 have conv:∀b off cap,(∀i(h:i<κ l),w.cell? ⟨b,off+i,none⟩=some (aH l[i]))->(convert src dst (.slice (some ⟨b,off,none⟩) (κ l) cap)).run P w=.ok (.string (strOf l)) w:=by
  intro b off cap hc;have hx:=run_convert_bytes_arg (P:=P) w src e hs he b off (κ l) cap (l.map λc=>(c.toNat:Int)) aq (λi hi=>by rw[hc i hi];unfold aH;simp[List.getD,iI hi]) dst hd
  rw[hx];congr 2;unfold strOf strOfNums;congr 2;rw[nI];conv=>rhs;rw[<-List.map_id l]
  apply E2;simp
 rcases h with⟨rfl,a,cap,rfl,_,hn⟩|⟨b,off,cap,rfl,_,_,_,hc⟩
 ·cases a with
  | none=>exact run_convert_bytes_nil w src e hs he 0 cap dst hd
  | some a=>rw[run_convert_bytes_string w src dst e _ 0 cap hs he hd,run_bytesToString w _ 0 cap [] aA];rfl
 ·simp_all
structure gi{α:Type}(f:α->List ah)(k:Nat):Prop where
 pos:0<k
 len:∀x,κ (f x)=k
 one:∀x,∀u∈f x,u.oneCell'=true
theorem gi.flat{f:α->List ah}(h:gi f k)(l:List α):κ (l.flatMap f)=κ l*k:=by
 induction l with
 | nil=>simp
 | cons x l ih=>rw[Abd,Aae,h.len,ih,Aaj,wo];omega
theorem gi.cv{f:α->List ah}(h:gi f k)(l:List α):∀u∈l.flatMap f,u.oneCell'=true:=by intro u hu;obtain⟨x,_,hx⟩:=List.mem_flatMap.1 hu;exact h.one x u hx
theorem gi.at{α:Type}{f:α->List ah}{k:Nat}(h:gi f k):∀(l:List α)(i:Nat)(hi:i<κ l)(j:Nat),j<k->(l.flatMap f)[i*k+j]?=(f l[i])[j]?
 | x::l,0,_,j,hj=>by rw[Abd,yA (by rw[h.len];omega)];simp
 | x::l,i+1,hi,j,hj=>by rw[Abd,yB (by rw[h.len,wo];omega),h.len];rw[show(i+1)*k+j-k=i*k+j from by rw[wo];omega];exact h.at l i A8 j hj
def aG(f:α->List ah)(w:af)(v:ah)(l:List α):Prop:=(l=[]/\∃a cap,v=.slice a 0 cap/\cap<=maxLen/\(a=none->cap=0))\/∃b off cap,v=.slice (some ⟨b,off,none⟩) (κ l) cap/\0<κ l/\(κ l)<=cap/\cap<=maxLen/\∀j u,(l.flatMap f)[j]?=some u->w.cell? ⟨b,off+j,none⟩=some u
def ak(f:α->List ah)(k:Nat)(e:Aab)(w:af)(base:Nat)(v:ah)(xs:List α):Prop:=w.ownsRow base e k v (κ xs) (xs.flatMap f)
section
variable {α:Type} {f:α->List ah} {k:Nat} {e:Aab}
theorem aG.up{w w':af}{v:ah}{l:List α}(h:aG f w v l)(hu:Up w w'):aG f w' v l:=by
 rcases h with h|⟨b,off,cap,h1,h2,h3,h4,h5⟩
 ·exact .inl h
 ·exact .inr ⟨b,off,cap,h1,h2,h3,h4,λj u hj=>hu.cell (h5 j u hj)⟩
theorem aG.length_le{w:af}{v:ah}{l:List α}(h:aG f w v l):κ l<=9223372036854775807:=by exact Nz
theorem aG.slice{w:af}{v:ah}{l:List α}(h:aG f w v l):∃a cap,v=.slice a (κ l) cap:=by
 rcases h with⟨rfl,a,cap,rfl,_⟩|⟨b,off,cap,rfl,_⟩
 ·simp
 ·simp
theorem aG.nil(f:α->List ah)(w:af):aG f w (.slice none 0 0) []:=.inl ⟨rfl,none,0,rfl,bG _,λ_=>rfl⟩
theorem aG.get{w:af}{a:Option Addr}{n cap:Nat}{l:List α}(h:aG f w (.slice a n cap) l)(hw:gi f k)(h0:0<κ l):∃b off,a=some ⟨b,off,none⟩/\b<w.heap.size/\n<=cap/\∀i(hi:i<κ l) j u,(f l[i])[j]?=some u->w.cell? ⟨b,off+(i*k+j),none⟩=some u:=by
 rcases h with⟨rfl,_⟩|⟨b,off,al,hv,_,hl,_,hc⟩
 ·simp at h0
 ·simp at hv;obtain⟨rfl,rfl,rfl⟩:=hv;have key:∀i(hi:i<κ l) j u,(f l[i])[j]?=some u->w.cell? ⟨b,off+(i*k+j),none⟩=some u:=λi hi j u hu=>by
   have hj:j<k:=by rw[<-hw.len l[i]];exact(ki.1 hu).1
   exact hc _ _ ((hw.at l i hi j hj).trans hu)
  refine⟨b,off,rfl,?_,hl,key⟩;exact h8 w _ (key 0 h0 0 _ (iI (by rw[hw.len];exact hw.pos)))
theorem aG.owned{w:af}{base:Nat}{v:ah}{l:List α}(hw:gi f k)(h:w.ownsRow base e k v (κ l) (l.flatMap f)):aG f w v l:=by
 obtain⟨_,h2⟩:=h;rcases h2 with⟨rfl,h0⟩|⟨g,cap,cur,rfl,_,hg,hn,hm,hs,ht⟩
 ·grind [aG.nil]
 ·by_cases h0:κ l=0
  ·exact NA
  ·refine .inr ⟨g,0,cap,rfl,ae,hn,hm,λj u hj=>?_⟩;have hc:w.cell? ⟨g,0+j,none⟩=cur[0+j]?:=by simp[Aco,hg]
   grind
def ak.row{w:af}{base:Nat}{v:ah}{l:List α}(h:ak f k e w base v l)(hw:gi f k):aG f w v l:=aG.owned hw h
theorem ak.nil(f:α->List ah)(k:Nat)(e:Aab)(w:af)(base:Nat):ak f k e w base (.slice none 0 0) []:=yy _ _ _ _
theorem ak.mono{w:af}{base base':Nat}{v:ah}{xs:List α}(h:ak f k e w base v xs)(hb:base'<=base):ak f k e w base' v xs:=by exact Vc
theorem ak.up{w w':af}{base:Nat}{v:ah}{xs:List α}(h:ak f k e w base v xs)(hu:Up w w'):ak f k e w' base v xs:=by exact Vd
theorem ak.made(f:α->List ah)(k:Nat)(e:Aab)(w:af)(base:Nat)(hb:base<=w.heap.size):ak f k e (w.alloc (.cells #[] e)) base (.slice (some ⟨w.heap.size,0,none⟩) 0 0) []:=AY w #[] 0 hb (bG _) aq
def ak.aJ{w:af}{base:Nat}{v:ah}{xs:List α}(h:ak f k e w base v xs):∀n,v.ownBlock=some n->base<=n/\n<w.heap.size:=Ad0 h
def ak.kept{w w':af}{row:Option Nat}{base:Nat}{v:ah}{xs:List α}(h:ak f k e w base v xs)(hg:w.grownBy w' row)(hne:v.ownBlock=none\/v.ownBlock≠row):ak f k e w' base v xs:=sM h hg hne
theorem aG.er(w:af)(b:Nat)(hb:b=w.heap.size)(cs:Array ah)(t:Aab)(fr:Nat × Nat)(l:List α)(n:Nat)(hn:n=κ l)(hm:n<=maxLen)(aD:cs.toList=l.flatMap f):aG f (w.alloc (.cells cs t fr)) (.slice (some ⟨b,0,none⟩) n n) l:=by
 subst hb hn;by_cases h0:κ l=0
 ·exact NB
 ·refine .inr ⟨w.heap.size,0,κ l,rfl,ae,aE _,hm,λj u hj=>?_⟩;refine Gl ?_;intro hh;have hc:(w.alloc (.cells cs t fr)).cell? ⟨w.heap.size,0+j,none⟩=cs[0+j]?:=by unfold Aco;rw[hh];rfl
  grind
end
section
variable {α:Type} {P:bu}
theorem CX{f:α->List ah}{k:Nat}(hw:gi f k){w:af}{o:Oper}{a:Act}{K:Act->af->Prop}{Q:Exit->Act->af->Prop}(s x:bR)(t:TypeId)(ho:o.op=.call {callee:=.builtin .append,args:=#[s,x],argTypes:=#[t,t]})(base:Nat)(e:TypeId)(z:ah)(bytes:Nat)(ht:P.underlying t=some (.slice e))(hinfo:(P.info? e).map (λi=>(i.zero,i.size,i.bytes))=some (some z,k,bytes))(aw:z.cells.size=k)(v:ah)(xs:List α)(hs:a.eval s=v)(hown:ak f k e w base v xs)(vx:ah)(ys:List α)(hx:a.eval x=vx)(ai:aG f w vx ys)(ab:(κ xs+κ ys)*bytes<=140737488355328)(an:κ xs+κ ys<=9223372036854775807)(ag:base<=w.heap.size)(h:∀v' w',ak f k e w' base v' (xs++ys)->w.grownBy w' v.ownBlock->Below base w w'->K (a.put o.dst v') w'):o.wp P a w K Q:=by
 obtain⟨i,hi,hz0,hz1,ar⟩:=jC hinfo;have au:κ xs+κ ys<=maxLen:=cq
 have key:∀(ad:Addr)(c:Nat),vx=.slice (some ad) (κ ys) c->(∀j u,(ys.flatMap f)[j]?=some u->w.cell? (ad.add j)=some u)->o.wp P a w K Q:=by intro ad c ax aj;refine wp_append_own w s x t ho base e i z k bytes ht hi hz0 hz1 ar aw hw.pos v (κ xs) (xs.flatMap f) hs hown ad (κ ys) c (ys.flatMap f) aa (hw.flat ys) aj (hw.cv ys) au ab ag ?_;intro v' w' h1 h2 _;refine h v' w' ?_ h2 (fy h2 ag λk hk=>(hown.aJ k hk).1);grind [ak]
 rcases ai with⟨rfl,ad,cap,rfl,hc,hn⟩|⟨b,off,cap,rfl,h0,hl,hm,hc⟩
 ·cases ad with
  | none=>obtain rfl:=hn rfl;have hrun:=yz (P:=P) (w:=w) base t o.type e i k ht hi v (κ xs) (xs.flatMap f) hown;exact NC
  | some ad=>simp_all
 ·grind [add_plain]
def bI{f:α->List ah}{k:Nat}(hw:gi f k){w:af}{ops:Array Oper}{rest:List Oper}{o:Oper}{a:Act}{Q:Exit->Act->af->Prop}(hgd:o.guard=none)(s x:bR)(t:TypeId)(ho:o.op=.call {callee:=.builtin .append,args:=#[s,x],argTypes:=#[t,t]})(base:Nat)(e:TypeId)(z:ah)(bytes:Nat)(ht:P.underlying t=some (.slice e))(hinfo:(P.info? e).map (λi=>(i.zero,i.size,i.bytes))=some (some z,k,bytes))(aw:z.cells.size=k)(v:ah)(xs:List α)(hs:a.eval s=v)(hown:ak f k e w base v xs)(vx:ah)(ys:List α)(hx:a.eval x=vx)(ai:aG f w vx ys)(ab:(κ xs+κ ys)*bytes<=140737488355328)(an:κ xs+κ ys<=9223372036854775807)(ag:base<=w.heap.size)(h:∀v' w',ak f k e w' base v' (xs++ys)->w.grownBy w' v.ownBlock->Below base w w'->wpList P ops Q rest (a.put o.dst v') w'):wpList P ops Q (o::rest) a w:=h' hgd λ_ hK=>CX hw s x t ho base e z bytes ht hinfo aw v xs hs hown vx ys hx ai ab an ag λv' w' h1 h2 h3=>hK _ _ (h v' w' h1 h2 h3)
theorem mG{f:α->List ah}{k:Nat}(hw:gi f k){w:af}{o:Oper}{a:Act}{K:Act->af->Prop}{Q:Exit->Act->af->Prop}(s x:bR)(t:TypeId)(ho:o.op=.call {callee:=.builtin .append,args:=#[s,x],argTypes:=#[t,t]})(base:Nat)(e:TypeId)(z:ah)(bytes:Nat)(ht:P.underlying t=some (.slice e))(hinfo:(P.info? e).map (λi=>(i.zero,i.size,i.bytes))=some (some z,k,bytes))(g cap n:Nat)(xs:List α)(hn:n=κ xs)(hs:a.eval s=cC g n cap)(hown:ak f k e w base (cC g n cap) xs)(vx:ah)(ys:List α)(hx:a.eval x=vx)(ai:aG f w vx ys)(m:Nat)(hm:m=κ xs+κ ys)(al:m<=cap)(ag:base<=w.heap.size)(h:∀w',ak f k e w' base (cC g m cap) (xs++ys)->w.grownBy w' (some g)->Below base w w'->K (a.put o.dst (cC g m cap)) w'):o.wp P a w K Q:=by
 subst hn hm;obtain⟨i,hi,hz0,hz1,ar⟩:=jC hinfo;have hg:=hown.aJ g rfl;have key:∀(ad:Addr)(c:Nat),vx=.slice (some ad) (κ ys) c->(∀j u,(ys.flatMap f)[j]?=some u->w.cell? (ad.add j)=some u)->o.wp P a w K Q:=by intro ad c ax aj;refine wp_append_own_spare w s x t ho base e i k ht hi hz1 g (κ xs) cap (xs.flatMap f) hs hown ad (κ ys) c (ys.flatMap f) aa (hw.flat ys) aj (hw.cv ys) al ?_;grind [fy,ak]
 rcases ai with⟨rfl,ad,c,rfl,hc,hn⟩|⟨b,off,c,rfl,h0,hl,aQ,hc⟩
 ·cases ad with
  | none=>obtain rfl:=hn rfl;have hrun:=yz (P:=P) (w:=w) base t o.type e i k ht hi _ (κ xs) (xs.flatMap f) hown;unfold Ace;simp[Abt,ho,resolve,invoke,builtin,hs,hx,hrun,Aar];exact h w ao ⟨rfl,rfl,rfl,aE _,λ_ _ _=>rfl⟩ (e7 _ _)
  | some ad=>simp_all
 ·grind [add_plain]
def eX{f:α->List ah}{k:Nat}(hw:gi f k){w:af}{ops:Array Oper}{rest:List Oper}{o:Oper}{a:Act}{Q:Exit->Act->af->Prop}(hgd:o.guard=none)(s x:bR)(t:TypeId)(ho:o.op=.call {callee:=.builtin .append,args:=#[s,x],argTypes:=#[t,t]})(base:Nat)(e:TypeId)(z:ah)(bytes:Nat)(ht:P.underlying t=some (.slice e))(hinfo:(P.info? e).map (λi=>(i.zero,i.size,i.bytes))=some (some z,k,bytes))(g cap n:Nat)(xs:List α)(hn:n=κ xs)(hs:a.eval s=cC g n cap)(hown:ak f k e w base (cC g n cap) xs)(vx:ah)(ys:List α)(hx:a.eval x=vx)(ai:aG f w vx ys)(m:Nat)(hm:m=κ xs+κ ys)(al:m<=cap)(ag:base<=w.heap.size)(h:∀w',ak f k e w' base (cC g m cap) (xs++ys)->w.grownBy w' (some g)->Below base w w'->wpList P ops Q rest (a.put o.dst (cC g m cap)) w'):wpList P ops Q (o::rest) a w:=h' hgd λ_ hK=>mG hw s x t ho base e z bytes ht hinfo g cap n xs hn hs hown vx ys hx ai m hm al ag λw' h1 h2 h3=>hK _ _ (h w' h1 h2 h3)
theorem step_append_room{f:α->List ah}{k:Nat}(hw:gi f k){w:af}{ops:Array Oper}{o:Oper}{a:Act}{K:Act->af->Prop}{Q:Exit->Act->af->Prop}{E:Prop}(hgd:o.guard=none)(s x:bR)(t:TypeId)(ho:o.op=.call {callee:=.builtin .append,args:=#[s,x],argTypes:=#[t,t]})(base:Nat)(e:TypeId)(z:ah)(bytes:Nat)(ht:P.underlying t=some (.slice e))(hinfo:(P.info? e).map (λi=>(i.zero,i.size,i.bytes))=some (some z,k,bytes))(g cap n:Nat)(xs:List α)(hn:n=κ xs)(hs:a.eval s=cC g n cap)(hown:ak f k e w base (cC g n cap) xs)(vx:ah)(ys:List α)(hx:a.eval x=vx)(ai:aG f w vx ys)(m:Nat)(hm:m=κ xs+κ ys)(al:m<=cap)(ag:base<=w.heap.size)(h:∀w',ak f k e w' base (cC g m cap) (xs++ys)->w.grownBy w' (some g)->Below base w w'->K (a.put o.dst (cC g m cap)) w'):if Region.wanted o (yielded ops a.tmps)=true then Oper.wp P o a w K Q else E:=by
 have hw2:Aaa o (Aaz ops a.tmps)=true:=by simp[Aaa,hgd]
 grind [mG]
end
def partOf(k:Nat)(a:Option Addr)(lo hi cap:Nat):ah:=.slice (if cap=lo then a else a.map (·.add (lo*k))) (hi-lo) (cap-lo)
theorem aG.part{f:α->List ah}(hw:gi f k){w:af}{a:Option Addr}{l:List α}(h:aG f w (.slice a n cap) l){lo hi:Nat}(h1:lo<=hi)(h2:hi<=κ l):aG f w (partOf k a lo hi cap) ((l.take hi).drop lo):=by
 have hlen:κ ((l.take hi).drop lo)=hi-lo:=ao
 rcases h with⟨rfl,a',al,hv,hm,hn⟩|⟨b,off,al,hv,h0,hl,hm,hc⟩
 ·exact UF
 ·simp only[Abh]at hv;obtain⟨rfl,_,rfl⟩:=hv;by_cases he:hi=lo
  ·subst he;have:(l.take hi).drop hi=[]:=qe.1 ae;rw[this];refine .inl ⟨rfl,_,cap-hi,by unfold partOf;rw[Nat.sub_self],ae,λh=>?_⟩;grind
  ·refine .inr ⟨b,off+lo*k,cap-lo,?_,ae,ae,ae,λj u hj=>?_⟩
   ·grind [partOf,add_plain]
   ·have ay:l.flatMap f=(l.take lo).flatMap f++(((l.take hi).drop lo).flatMap f++(l.drop hi).flatMap f):=by
     rw[<-gl,<-gl];congr 1;have e1:l.take hi=l.take lo++(l.take hi).drop lo:=by have:=fO lo (l.take hi);grind
     rw[<-Abe,<-e1,fO]
    have bh:κ ((l.take lo).flatMap f)=lo*k:=by rw[hw.flat,ey,Nat.min_eq_left ae]
    have:=hc (lo*k+j) u (by rw[ay,yB ae,bh,show lo*k+j-lo*k=j from ae];rw[yA (ki.1 hj).1];exact hj)
    grind
theorem V1{P:bu}(T:Aab)(k:Nat)(ht:P.underlying T=some (.slice (P.elem T)))(hs:∀W:af,(sizeOf (P.elem T)).run P W=.ok k W)(a:Option Addr)(len cap lo hi:Nat)(h1:lo<=hi)(h2:hi<=cap)(W:af):(Aav T (.slice a len cap) (some (.int .i64 (lo:Int))) (some (.int .i64 (hi:Int))) none).run P W=.ok (partOf k a lo hi cap) W:=by exact N6
theorem gu{P:bu}(T:Aab)(k:Nat)(ht:P.underlying T=some (.slice (P.elem T)))(hs:∀W:af,(sizeOf (P.elem T)).run P W=.ok k W)(a:Option Addr)(len cap lo:Nat)(h1:lo<=len)(W:af):(Aav T (.slice a len cap) (some (.int .i64 (lo:Int))) none none).run P W=.ok (partOf k a lo len cap) W:=by rw[run_slice_l W T a len cap ht .i64 lo ae ae,hs];rfl
theorem xS{P:bu}(T:Aab)(k:Nat)(ht:P.underlying T=some (.slice (P.elem T)))(hs:∀W:af,(sizeOf (P.elem T)).run P W=.ok k W)(a:Option Addr)(len cap hi:Nat)(h2:hi<=cap)(W:af):(Aav T (.slice a len cap) none (some (.int .i64 (hi:Int))) none).run P W=.ok (partOf k a 0 hi cap) W:=by rw[run_slice_h W T a len cap ht .i64 hi ae ae,hs];rfl
theorem mo{P:bu}(t e:Aab)(z:ah)(k bytes:Nat)(ht:P.underlying t=some (.slice e))(hinfo:(P.info? e).map (λi=>(i.zero,i.size,i.bytes))=some (some z,k,bytes))(c:Nat)(hc:bytes*c<=281474976710656)(hm:c<=9223372036854775807)(w:af):(Aci t (.int .i64 0) (.int .i64 (c:Int))).run P w=.ok (.slice (some ⟨w.heap.size,0,none⟩) 0 c) (w.alloc (.cells (Acu z.cells (c*k)) e)):=by refine ND ?_;intro i hi hz0 hz1 ar hb this;simp_all
theorem ak.room(f:α->List ah)(k:Nat)(e:Aab)(w:af)(z:ah)(base c:Nat)(hb:base<=w.heap.size)(hc:c<=9223372036854775807):ak f k e (w.alloc (.cells (Acu z.cells (c*k)) e)) base (.slice (some ⟨w.heap.size,0,none⟩) 0 c) []:=AY w _ c hb cq (wm _ _)
def aI(w:af)(g:Nat)(t:Aab)(C:Array ah):Prop:=w.heap[g]?=some (.cells C t (0,0))
section
variable {w w':af} {g:Nat} {t:Aab} {C:Array ah}
def aI.lt(h:aI w g t C):g<w.heap.size:=(qf.1 h).1
theorem aI.up(h:aI w g t C)(hu:Up w w'):aI w' g t C:=by unfold aI;rw[oH hu g h.lt];exact h
theorem aI.grown(h:aI w g t C){row:Option Nat}(hg:w.grownBy w' row)(hne:row≠some g):aI w' g t C:=by unfold aI;rw[hg.block g h.lt (λe=>hne e.symm)];exact h
theorem aI.new(w:af)(t:Aab)(C:Array ah):aI (w.alloc (.cells C t)) w.heap.size t C:=by unfold aI;show(w.heap.push _)[w.heap.size]?=_;simp
theorem aI.newAt(w:af)(g:Nat)(hg:g=w.heap.size)(t:Aab)(C:Array ah):aI (w.alloc (.cells C t)) g t C:=by grind [aI.new]
theorem aI.cell(h:aI w g t C)(i:Nat):w.cell? ⟨g,i,none⟩=C[i]?:=by unfold Aco;rw[h];rfl
theorem aI.free(h:aI w g t C)(i:Nat):w.frozen? ⟨g,i,none⟩=false:=by unfold World.frozen?;rw[h];simp
theorem aI.range(h:aI w g t C):w.rangeAt g 0 C.toList:=λj v hj=>by rw[h.cell,Abn];simpa using hj
end
theorem cR(w:af)(g:Nat)(cs:Array ah):w.grownBy (w.setRow g cs) (some g):=⟨rfl,rfl,rfl,aq,λk hk hne=>by
  simp only[World.setRow];rw[E3];rw[aO (λe=>hne (by rw[e]))]⟩
def aI.set{w:af}{C:Array ah}(h:aI w g t C)(C':Array ah):aI (w.setRow g C') g t C':=setRow_heap w g C C' t _ h
theorem aI.setCell{w:af}{C:Array ah}(h:aI w g t C)(i:Nat)(v:ah):aI (w.setCell ⟨g,i,none⟩ v) g t (C.setIfInBounds i v):=by rw[setCell_eq_setRow w g i C t (0,0) v h];exact h.set _
theorem bX{w:af}{C:Array ah}(h:aI w g t C)(i:Nat)(v:ah):w.grownBy (w.setCell ⟨g,i,none⟩ v) (some g):=by rw[setCell_eq_setRow w g i C t (0,0) v h];simp[cR]
section
variable {P:bu}
theorem lr{ops:Array Abi}{rest:List Abi}{op:Abi}{a:Act}{w:af}{Q:Exit->Act->af->Prop}(hgd:op.guard=none)(ty:Aab)(x:bR)(ho:op.op=.load ty x)(g:Nat)(hx:a.eval x=.pointer (some ⟨g,0,none⟩))(t:Aab)(C:Array ah)(hb:aI w g t C)(d:eT)(hu:P.underlying ty=some d)(hd:d.isRow=true)(hi:(P.info? ty).map (·.size)=some C.size)(h:Aam P ops Q rest (a.put op.dst (.agg C)) w):Aam P ops Q (op::rest) a w:=wpList_load_mid hgd ty x ho g 0 hx C.toList d hb.range hu hd ae jG
theorem oj{ops:Array Abi}{rest:List Abi}{op:Abi}{a:Act}{w:af}{Q:Exit->Act->af->Prop}(hw:Aaa op (Aaz ops a.tmps)=true)(ty:Aab)(x:bR)(ho:op.op=.load ty x)(g:Nat)(hx:a.eval x=pz g)(t:Aab)(C:Array ah)(hb:aI w g t C)(d:eT)(hu:P.underlying ty=some d)(hd:d.isRow=true)(hi:(P.info? ty).map (·.size)=some C.size)(h:Aam P ops Q rest (a.put op.dst (.agg C)) w):Aam P ops Q (op::rest) a w:=qg hw λ_ hK=>wp_load_mid ty x ho g 0 hx C.toList d hb.range hu hd ae (hK _ _ jG)
theorem kP{ops:Array Abi}{rest:List Abi}{o:Abi}{a:Act}{w:af}{Q:Exit->Act->af->Prop}(hw:Aaa o (Aaz ops a.tmps)=true)(t:Aab)(ho:o.op=.build t #[])(C:Array ah)(hb:P.built t []=some C)(h:Aam P ops Q rest (a.put o.dst (.agg C)) w):Aam P ops Q (o::rest) a w:=qg hw λ_ hK=>wp_build t #[] ho aa (hK _ _ (by simpa[hb]using h))
theorem dw{ops:Array Abi}{rest:List Abi}{op:Abi}{a:Act}{w:af}{Q:Exit->Act->af->Prop}(hgd:op.guard=none)(ty:Aab)(ho:op.op=.alloc ty)(C:Array ah)(hz:∀W:af,(Ab9 ty).run P W=.ok (.agg C) W)(h:Aam P ops Q rest (a.put op.dst (.pointer (some ⟨w.heap.size,0,none⟩))) (w.alloc (.cells C ty))):Aam P ops Q (op::rest) a w:=by refine uW ?_;intro K hK;simp[ho,Instr.alloc,Aa1,hz,newVar,newRow,Value.cells,Aar];exact hK _ _ h
theorem iv{w:af}(ty:Aab)(g:Nat)(t:Aab)(C:Array ah)(hb:aI w g t C)(d:eT)(hu:P.underlying ty=some d)(hd:d.isRow=true)(hi:(P.info? ty).map (·.size)=some C.size):(loadVar ty ⟨g,0,none⟩).run P w=.ok (.agg C) w:=by have:=E4 (P:=P) w g 0 ty C.toList d hb.range hu hd ae;omega
theorem gS{ops:Array Abi}{rest:List Abi}{op:Abi}{a:Act}{w:af}{Q:Exit->Act->af->Prop}(hgd:op.guard=none)(ty:Aab)(x:bR)(ho:op.op=.load ty x)(g off:Nat)(hx:a.eval x=.pointer (some ⟨g,off,none⟩))(C:Array ah)(hc:w.rangeAt g off C.toList)(d:eT)(hu:P.underlying ty=some d)(hd:d.isRow=true)(hi:(P.info? ty).map (·.size)=some C.size)(h:Aam P ops Q rest (a.put op.dst (.agg C)) w):Aam P ops Q (op::rest) a w:=wpList_load_mid hgd ty x ho g off hx C.toList d hc hu hd ae jG
def en{ops:Array Abi}{rest:List Abi}{op:Abi}{a:Act}{w:af}{Q:Exit->Act->af->Prop}(hgd:op.guard=none)(ty:Aab)(x y:bR)(ho:op.op=.store ty x y)(g:Nat)(C':Array ah)(hx:a.eval x=.pointer (some ⟨g,0,none⟩))(hy:a.eval y=.agg C')(t:Aab)(C:Array ah)(hb:aI w g t C)(hi:(P.info? ty).map (·.size)=some C'.size)(hold:C.size=C'.size)(h1:C'.all (·.oneCell')=true)(h:∀w',aI w' g t C'->w.grownBy w' (some g)->Aam P ops Q rest (a.put op.dst Aat) w'):Aam P ops Q (op::rest) a w:=E5 hgd ty x y ho g C' hx hy t C hb hi hold h1 (h _ (hb.set C') (cR w g C'))
theorem gT{ops:Array Abi}{rest:List Abi}{op:Abi}{a:Act}{w:af}{Q:Exit->Act->af->Prop}(hgd:op.guard=none)(ty:Aab)(x y:bR)(ho:op.op=.store ty x y)(g:Nat)(hg:g=w.heap.size)(C':Array ah)(hx:a.eval x=.pointer (some ⟨g,0,none⟩))(hy:a.eval y=.agg C')(t:Aab)(C:Array ah)(hi:(P.info? ty).map (·.size)=some C'.size)(hold:C.size=C'.size)(h1:C'.all (·.oneCell')=true)(h:Aam P ops Q rest (a.put op.dst Aat) (w.alloc (.cells C' t))):Aam P ops Q (op::rest) a (w.alloc (.cells C t)):=by
 subst hg;refine E5 hgd ty x y ho w.heap.size C' hx hy t C (aI.new w t C) hi hold h1 ?_;have e:(w.alloc (.cells C t)).setRow w.heap.size C'=w.alloc (.cells C' t):=by simp only[World.setRow,World.alloc];congr 1;grind
 simp_all
theorem cc{ops:Array Abi}{rest:List Abi}{op:Abi}{a:Act}{w:af}{Q:Exit->Act->af->Prop}(hgd:op.guard=none)(ty:Aab)(x y:bR)(ho:op.op=.store ty x y)(g off:Nat)(V:Array ah)(hx:a.eval x=.pointer (some ⟨g,off,none⟩))(hy:a.eval y=.agg V)(t:Aab)(C:Array ah)(hb:aI w g t C)(hi:(P.info? ty).map (·.size)=some V.size)(hfit:off+V.size<=C.size)(h1:V.all (·.oneCell')=true)(h:∀w',aI w' g t (Abz C.toList off V.toList).toArray->w.grownBy w' (some g)->Aam P ops Q rest (a.put op.dst Aat) w'):Aam P ops Q (op::rest) a w:=by
 have aF:=wq (P:=P) g off t V.toList 0 C w hb ae (λv hv=>(wu.1 h1) v aa);have ba:(storeVar ty ⟨g,off,none⟩ (.agg V)).run P w=.ok () (w.setRow g (Abz C.toList off V.toList).toArray):=by
  cases hq:P.info? ty with
  | none=>simp_all
  | some i=>
   have hs:V.size=i.size:=aa
   simp[storeVar,sizeOf,typeInfo,hq,Value.cells,hs];simp at aF;assumption
 refine uW ?_;intro K hK;simp only[ho,hx,hy,Instr.storeAt,Adg,Aa1,Ac7,Aay,ba];exact hK _ _ (h _ (hb.set _) (cR w g _))
theorem hC{ops:Array Oper}{rest:List Oper}{op:Oper}{a:Act}{w:af}{Q:Exit->Act->af->Prop}(hgd:op.guard=none)(d s:bR)(dT sT:TypeId)(ho:op.op=.call {callee:=.builtin .copy,args:=#[d,s],argTypes:=#[dT,sT]})(elem:TypeId)(hu:P.underlying dT=some (.slice elem))(aN:(P.info? elem).map (·.size)=some 1)(f:aj->ah)(hf:∀x,(f x).oneCell'=true)(g off n cap:Nat)(hd:a.eval d=.slice (some ⟨g,off,none⟩) n cap)(vs:ah)(ys:List aj)(hs:a.eval s=vs)(ai:aC f w vs ys)(hn:κ ys<=n)(t:TypeId)(C:Array ah)(hb:aI w g t C)(hfit:off+κ ys<=C.size)(h:∀w',aI w' g t (splice C.toList off (ys.map f)).toArray->Below g w w'->w.grownBy w' (some g)->wpList P ops Q rest (a.put op.dst (goInt (κ ys))) w'):wpList P ops Q (op::rest) a w:=by
 obtain⟨sa,sc,rfl⟩:=ai.slice;have hlen:κ (ys.map f)=κ ys:=aq
 by_cases h0:κ ys=0
 ·obtain rfl:ys=[]:=MY h0;refine wpList_copy_nothing hgd d s dT sT ho elem hu aN (some ⟨g,off,none⟩) sa n cap 0 sc hd hs aq ?_;exact h w (by simpa[Abz]using hb) (e7 _ _) ⟨rfl,rfl,rfl,aE _,λ_ _ _=>rfl⟩
 ·obtain⟨b,o,rfl,_,hc⟩:=cf ai rfl ae;refine wpList_copy_own hgd d s dT sT ho elem hu aN g off n cap _ (κ ys) sc hd hs C t hb (ys.map f) aa (λj u hj=>?_) ae (λu hu=>?_) ?_
  ·grind [k',add_plain]
  ·grind
  ·have:=h _ (hb.set (Abz C.toList off (ys.map f)).toArray) (below_setRow (e7 _ _) (aE _) _) (cR w g _);rw[hlen];simpa[Abz]using this
end
section
variable {P:bu} {ops:Array Abi} {Q:Exit->Act->af->Prop} {rest:List Abi} {a:Act} {w:af} {dst:Option Tmp} {type:Aab} {pos:String} {after:Array Edge} {guard:Option (Nat × Bool)}
def rY(ty:TypeId)(x:bR)(h:wpList P ops Q ({dst:=dst,op:=.load ty x,type:=type,pos:=pos,after:=after,guard:=guard}::rest) a w):wpList P ops Q ({dst:=dst,op:=.load ty x,type:=type,pos:=pos,after:=after,guard:=guard}::rest) a w:=h
def cB(ty:TypeId)(x y:bR)(h:wpList P ops Q ({dst:=dst,op:=.store ty x y,type:=type,pos:=pos,after:=after,guard:=guard}::rest) a w):wpList P ops Q ({dst:=dst,op:=.store ty x y,type:=type,pos:=pos,after:=after,guard:=guard}::rest) a w:=h
def WK(ty:TypeId)(h:wpList P ops Q ({dst:=dst,op:=.alloc ty,type:=type,pos:=pos,after:=after,guard:=guard}::rest) a w):wpList P ops Q ({dst:=dst,op:=.alloc ty,type:=type,pos:=pos,after:=after,guard:=guard}::rest) a w:=h
def eR(ty:TypeId)(parts:Array (Nat × bR))(h:wpList P ops Q ({dst:=dst,op:=.build ty parts,type:=type,pos:=pos,after:=after,guard:=guard}::rest) a w):wpList P ops Q ({dst:=dst,op:=.build ty parts,type:=type,pos:=pos,after:=after,guard:=guard}::rest) a w:=h
def dS(ty:TypeId)(n:Nat)(parts:Array (Nat × bR))(h:wpList P ops Q ({dst:=dst,op:=.buildSlice ty n parts,type:=type,pos:=pos,after:=after,guard:=guard}::rest) a w):wpList P ops Q ({dst:=dst,op:=.buildSlice ty n parts,type:=type,pos:=pos,after:=after,guard:=guard}::rest) a w:=h
end
section
variable {P:bu} {ops:Array Abi} {rest:List Abi} {op:Abi} {a:Act} {Q:Exit->Act->af->Prop}
theorem O'{w:af}(hw:Aaa op (Aaz ops a.tmps)=true)(ty:Aab)(x:bR)(ho:op.op=.load ty x)(g off:Nat)(hx:a.eval x=pq g off)(C:Array ah)(hc:w.rangeAt g off C.toList)(d:eT)(hu:P.underlying ty=some d)(hd:d.isRow=true)(hi:(P.info? ty).map (·.size)=some C.size)(h:Aam P ops Q rest (a.put op.dst (.agg C)) w):Aam P ops Q (op::rest) a w:=qg hw λ_ hK=>wp_load_mid ty x ho g off hx C.toList d hc hu hd ae (hK _ _ jG)
theorem fK{W:af}(w:af)(hgd:op.guard=none)(ty:Aab)(x y:bR)(ho:op.op=.store ty x y)(C':Array ah)(t:Aab)(C:Array ah)(hW:W=w.alloc (.cells C t))(hx:a.eval x=.pointer (some ⟨w.heap.size,0,none⟩))(hy:a.eval y=.agg C')(hi:(P.info? ty).map (·.size)=some C'.size)(hold:C.size=C'.size)(h1:C'.all (·.oneCell')=true)(h:Aam P ops Q rest (a.put op.dst Aat) (w.alloc (.cells C' t))):Aam P ops Q (op::rest) a W:=by subst hW;exact gT hgd ty x y ho _ rfl C' hx hy t C hi hold h1 h
end
def aD(s:List aj):Array ah:=(s.map aH).toArray
def aM:List aj:=Aad 128 0
theorem bT(s:List aj):(aD s).size=κ s:=by simp[aD]
theorem rR(s:List aj):(aD s).toList=s.map aH:=aA
theorem dr(s:List aj):(aD s).all (·.oneCell')=true:=AZ (λv hv=>by obtain⟨y,_,rfl⟩:=Abb.1 hv;rfl)
theorem dI:(prog.info? 60).map (·.size)=some 128:=al
theorem hM:∀W:af,(Ab9 60).run Aag W=.ok (.agg (aD aM)) W:=(lb (P:=Aag) (t:=60) (v:=.agg (aD aM)) (n:=128) aA).1
theorem hZ:prog.built 60 []=some (aD aM):=al
theorem LZ(s t:List aj)(hs:κ s=128)(ht:κ t=128)(W:af):(Ac3 10000 60 (.agg (aD s)) (.agg (aD t))).run Aag W=.ok (decide (s=t)) W:=by
 have:=run_equalIn_bytes (P:=Aag) W 9998 60 5 128 Acr underlying5 (λw=>aA) s t hs ht;have e:(s==t)=decide (s=t):=aP
 rw[e]at this;exact this
theorem I6{p u:Tmp}(h:fn.results=#[.cell p ty,.tmp u])(tmps:Array ah)(P:bu)(w:af)(g:Nat)(t:Aab)(C:Array ah)(x:ah)(hp:tmps.getD p Aat=.pointer (some ⟨g,0,none⟩))(hu:tmps.getD u Aat=x)(hb:aI w g t C)(d:eT)(hd:P.underlying ty=some d)(hr:d.isRow=true)(hi:(P.info? ty).map (·.size)=some C.size):(results fn tmps).run P w=.ok (.tuple #[.agg C,x]) w:=by rw[E6 h,hp,hu];simp[asAddr,Aar,iv (P:=P) ty g t C hb d hd hr hi]
theorem od(g lo hi:Nat)(x y:Int)(hx:x=(lo:Int))(hy:y=(hi:Int))(h1:lo<=hi)(h2:hi<=128)(h3:lo<128)(W:af):(Abq 60 (.pointer (some ⟨g,0,none⟩)) (some (.int .i64 x)) (some (.int .i64 y)) none).run Aag W=.ok (.slice (some ⟨g,lo,none⟩) (hi-lo) (128-lo)) W:=by refine Gg ?_;intro aO hs;rw[run_sliceAt_array_lh W 60 ⟨g,0,none⟩ aA .i64 .i64 x y ae ae ae,hs,aO];subst hx hy;simp only[Aay,slicedAt,Abr];grind [add_plain]
theorem Jf{w:af}{s:List aj}(h:aI w g t (aD s))(k:Nat)(hk:k<κ s):w.cell? ⟨g,k,none⟩=some (aH s[k]):=by rw[h.cell];simp[aD,hk]
def Up.range{w w':af}(h:Up w w'){b off:Nat}{l:List ah}(hc:w.rangeAt b off l):w'.rangeAt b off l:=λj v hj=>h.cell (hc j v hj)
section
variable {P:bu} {ops:Array Abi} {S:af->Prop} {o:Abi} {a:Act} {v:ah}
theorem kH{Q:Exit->Act->af->Prop}{i:Nat}{K:Act->af->Prop}{w:af}(hi:ops[i]?=some o)(hw:Aaa o (Aaz ops a.tmps)=true)(h:o.wp P a w K Q):wpOp P ops Q i K a w:=FJ
def qZ(hw:Aaa o (Aaz ops a.tmps)=true)(h:∀w,(Abt a.eval o).run P w=.ok (.value v) w):Ach P ops S o v a:=.inl ⟨hw,λw _=>h w⟩
theorem zC(hw:Aaa o (Aaz ops a.tmps)=true)(ty:Aab)(x:bR)(ho:o.op=.load ty x)(ad:Addr)(hx:a.eval x=.pointer (some ad))(hc:∀w,S w->w.cell? ad=some v)(hagg:∀w:af,(isAgg ty).run P w=.ok false w):Ach P ops S o v a:=.inl ⟨hw,λw hS=>by
  have hl:(load ad).run P w=.ok v w:=by simp[hc w hS]
  unfold Abt;simp only[ho,hx,Instr.loadAt,Adg,loadVar,Aa1,Ac7,Aay,hagg,Ab2,if_false,hl]⟩
theorem vT(hw:Aaa o (Aaz ops a.tmps)=true)(ty:Aab)(x:bR)(ho:o.op=.load ty x)(g off:Nat)(hx:a.eval x=.pointer (some ⟨g,off,none⟩))(C:Array ah)(hc:∀w,S w->w.rangeAt g off C.toList)(d:eT)(hu:P.underlying ty=some d)(hd:d.isRow=true)(hi:(P.info? ty).map (·.size)=some C.size):Ach P ops S o (.agg C) a:=.inl ⟨hw,λw hS=>by
  have:=E4 (P:=P) w g off ty C.toList d (hc w hS) hu hd ae;unfold Abt;simp only[ho,hx,Instr.loadAt,Adg,Aa1,Ac7,Aay,this]⟩
theorem qX{Q:Exit->Act->af->Prop}{md:Ab1}{fuel:Nat}{aZ:Array Bool}{w:af}(i:Nat)(hr:Abf md ops aZ=[i])(hi:ops[i]?=some o)(hw:Aaa o (Aaz ops a.tmps)=true)(h:∀K:Act->af->Prop,(∀a w,S w->Acp P md ops Q S fuel (aZ.setIfInBounds i true) a w->K a w)->o.wp P a w K Q):Acp P md ops Q S (fuel+1) aZ a w:=wpAnyH_all hr aq (λj hj=>by
  simp at hj;subst hj;exact kH hi hw (h _ λ_ _ h1 h2=>⟨h1,h2⟩))
theorem fx{w:af}{K:Act->af->Prop}{Q:Exit->Act->af->Prop}(ty:Aab)(ho:o.op=.alloc ty)(C:Array ah)(hz:∀W:af,(Ab9 ty).run P W=.ok (.agg C) W)(h:K (a.put o.dst (pz w.heap.size)) (w.alloc (.cells C ty))):o.wp P a w K Q:=by unfold Ace Abt;simp[ho,Instr.alloc,Aa1,hz,newVar,newRow,Value.cells,Aar];exact h
end
section
variable {P:bu} {ops:Array Abi} {S:af->Prop} {a:Act} {w:af} {oi:Abi} {v:ah} {ty:Aab} {x:bR} {ad:Addr}
theorem ya(hw:Region.wanted oi (yielded ops a.tmps)=true:=by kernel_rfl)(h:∀w,(execOp a.eval oi).run P w=.ok (.value v) w:=by intro _;go_simp):YieldsIf P ops S oi v a:=qZ hw h
theorem yc(hc:∀w,S w->w.cell? ad=some v)(hw:Region.wanted oi (yielded ops a.tmps)=true:=by kernel_rfl)(ho:oi.op=.load ty x:=by rfl)(hx:a.eval x=.pointer (some ad):=by kernel_rfl)(hagg:∀w:af,(isAgg ty).run P w=.ok false w:=by intro _;kernel_rfl):YieldsIf P ops S oi v a:=by grind [zC]
theorem yp{g off:Nat}{C:Array ah}{d:eT}(hc:∀w,S w->w.rangeAt g off C.toList)(hi:(P.info? ty).map (·.size)=some C.size)(hu:P.underlying ty=some d)(hd:d.isRow=true:=by rfl)(hw:Region.wanted oi (yielded ops a.tmps)=true:=by kernel_rfl)(ho:oi.op=.load ty x:=by rfl)(hx:a.eval x=.pointer (some ⟨g,off,none⟩):=by kernel_rfl):YieldsIf P ops S oi (.agg C) a:=by grind [vT]
theorem tk{md:Region.Mode}{Q:Exit->Act->af->Prop}{fuel:Nat}{aZ:Array Bool}(i:Nat)(v:ah)(hi:ops[i]?=some oi)(hy:YieldsIf P ops S oi v a)(hS:S w)(h:wpAnyH P md ops Q S fuel (aZ.setIfInBounds i true) (a.put oi.dst v) w)(hs:Region.noSelect ops=true:=by kernel_rfl)(hf:Region.free md ops aZ i=true:=by kernel_rfl)(hr:(Region.ready md ops aZ).contains i=true:=by kernel_rfl)(hQ:∀c a w,Q (.panic c) (a.put oi.dst v) w->Q (.panic c) a w:=by exact λ_ _ _ h=>h):wpAnyH P md ops Q S (fuel+1) aZ a w:=wpAnyH_take hi hs hf hr hQ hy hS h
end
theorem gh{P:bu}{d:eT}(h:P.underlying ty=some d:=by first|with_reducible exact underlying73|with_reducible exact underlying87|with_reducible exact underlying60|with_reducible exact underlying90|with_reducible exact underlying88|with_reducible exact underlying30|with_reducible exact underlying176|with_reducible exact underlying122|with_reducible exact underlying100|with_reducible exact underlying71|with_reducible exact underlying3|with_reducible exact underlying111|with_reducible exact underlying33|with_reducible exact underlying9|with_reducible exact underlying5|with_reducible exact underlying41|with_reducible exact underlying139|with_reducible exact underlying326|with_reducible exact underlying45|with_reducible exact underlying36|with_reducible exact underlying70|with_reducible exact underlying270|with_reducible exact underlying178|with_reducible exact underlying246|with_reducible exact underlying116|with_reducible exact underlying4|with_reducible exact underlying74|with_reducible exact underlying156|with_reducible exact underlying112|with_reducible exact underlying129|with_reducible exact underlying65|with_reducible exact underlying85|with_reducible exact underlying63|with_reducible exact underlying163|with_reducible exact underlying145|with_reducible exact underlying192|with_reducible exact underlying40|with_reducible exact underlying211|with_reducible exact underlying265|with_reducible exact underlying146|with_reducible exact underlying0|with_reducible exact underlying210|with_reducible exact underlying279|with_reducible exact underlying280|with_reducible exact underlying267|with_reducible exact underlying331|with_reducible exact underlying334|with_reducible exact underlying348|with_reducible exact underlying349|with_reducible exact underlying22|with_reducible exact underlying114|with_reducible exact underlying165|with_reducible exact underlying239|with_reducible exact underlying354|with_reducible exact underlying253|with_reducible exact underlying31):P.underlying ty=some d:=h
theorem lD{P:bu}{C:Array ah}(h:(P.info? ty).map (·.size)=some C.size:=by first|(rw[Rr];kernel_rfl)|(rw[YM];kernel_rfl)|kernel_rfl):(P.info? ty).map (·.size)=some C.size:=h
theorem vi{C:Array ah}(h:C.all (·.oneCell')=true:=by first|rfl|with_reducible exact jh .. | with_reducible exact Pz .. | with_reducible exact AE .. | with_reducible exact X2 .. | with_reducible exact OY .. | with_reducible exact O0 .. | with_reducible exact kM .. | with_reducible exact Yg .. | with_reducible exact V0 .. | with_reducible exact dr .. | with_reducible exact mu .. | with_reducible exact YC .. | with_reducible exact xb ..):C.all (·.oneCell')=true:=h
section
variable {P:bu} {ops:Array Abi} {Q:Exit->Act->af->Prop} {rest:List Abi} {a:Act} {w:af} {dst:Option Tmp} {type:Aab} {pos:String} {after:Array Edge} {guard:Option (Nat × Bool)}
theorem db{op:Oper}(ty:TypeId)(n:Nat){g:Nat}{t:TypeId}{C:Array ah}(hb:aI w g t C)(h:wpList P ops Q rest (a.put op.dst (.agg C)) w)(ho:op.op=.load ty (.tmp n):=by with_reducible rfl)(hi:(P.info? ty).map (·.size)=some C.size:=by exact lD){d:eT}(hu:P.underlying ty=some d:=by exact gh)(hd:d.isRow=true:=by rfl)(hw:Region.wanted op (yielded ops a.tmps)=true:=by rfl)(hx:a.eval (.tmp n)=.pointer (some ⟨g,0,none⟩):=by rfl):wpList P ops Q (op::rest) a w:=oj hw ty (.tmp n) ho g hx t C hb d hu hd hi h
theorem cM{op:Oper}(ty:TypeId)(n:Nat){g off:Nat}(C:Array ah)(hc:w.rangeAt g off C.toList)(h:wpList P ops Q rest (a.put op.dst (.agg C)) w)(ho:op.op=.load ty (.tmp n):=by with_reducible rfl)(hi:(P.info? ty).map (·.size)=some C.size:=by exact lD){d:eT}(hu:P.underlying ty=some d:=by exact gh)(hd:d.isRow=true:=by rfl)(hw:Region.wanted op (yielded ops a.tmps)=true:=by rfl)(hx:a.eval (.tmp n)=.pointer (some ⟨g,off,none⟩):=by rfl):wpList P ops Q (op::rest) a w:=O' hw ty (.tmp n) ho g off hx C hc d hu hd hi h
theorem dL{op:Oper}(ty:TypeId)(m n:Nat)(C':Array ah){g:Nat}{t:TypeId}{C:Array ah}(hb:aI w g t C)(h:∀w',aI w' g t C'->w.grownBy w' (some g)->wpList P ops Q rest (a.put op.dst undef) w')(ho:op.op=.store ty (.tmp m) (.tmp n):=by with_reducible rfl)(hgd:op.guard=none:=by rfl)(hi:(P.info? ty).map (·.size)=some C'.size:=by exact lD)(h1:C'.all (·.oneCell')=true:=by exact vi)(hold:C.size=C'.size:=by rfl)(hx:a.eval (.tmp m)=.pointer (some ⟨g,0,none⟩):=by rfl)(hy:a.eval (.tmp n)=.agg C':=by rfl):wpList P ops Q (op::rest) a w:=en hgd ty (.tmp m) (.tmp n) ho g C' hx hy t C hb hi hold h1 h
theorem dX{op:Oper}{W:af}(ty:TypeId)(m n:Nat)(w:af)(C':Array ah)(t:TypeId)(C:Array ah)(h:wpList P ops Q rest (a.put op.dst undef) (w.alloc (.cells C' t)))(ho:op.op=.store ty (.tmp m) (.tmp n):=by with_reducible rfl)(hgd:op.guard=none:=by rfl)(hi:(P.info? ty).map (·.size)=some C'.size:=by exact lD)(h1:C'.all (·.oneCell')=true:=by exact vi)(hW:W=w.alloc (.cells C t):=by rfl)(hold:C.size=C'.size:=by rfl)(hx:a.eval (.tmp m)=.pointer (some ⟨w.heap.size,0,none⟩):=by rfl)(hy:a.eval (.tmp n)=.agg C':=by rfl):wpList P ops Q (op::rest) a W:=fK w hgd ty (.tmp m) (.tmp n) ho C' t C hW hx hy hi hold h1 h
theorem bH{op:Oper}(ty:TypeId){C:Array ah}(hz:∀W:af,(zeroValue ty).run P W=.ok (.agg C) W)(h:wpList P ops Q rest (a.put op.dst (.pointer (some ⟨w.heap.size,0,none⟩))) (w.alloc (.cells C ty)))(ho:op.op=.alloc ty:=by with_reducible rfl)(hgd:op.guard=none:=by rfl):wpList P ops Q (op::rest) a w:=dw hgd ty ho C hz h
theorem gY{op:Oper}(ty:TypeId)(n:Nat)(C:Array ah)(h:wpList P ops Q rest (a.put op.dst (.pointer (some ⟨w.heap.size,0,none⟩))) (w.alloc (.cells C ty)))(ho:op.op=.box ty (.tmp n):=by with_reducible rfl)(hgd:op.guard=none:=by rfl)(hx:a.eval (.tmp n)=.agg C:=by rfl):wpList P ops Q (op::rest) a w:=by refine h' hgd λ_ hK=>?_;unfold Ace Abt;simp[ho,hx,Instr.box,Value.cells,Aar];exact hK _ _ h
theorem lX{op:Oper}(ty:TypeId){C:Array ah}(hb:P.built ty []=some C)(h:wpList P ops Q rest (a.put op.dst (.agg C)) w)(ho:op.op=.build ty #[]:=by with_reducible rfl)(hw:Region.wanted op (yielded ops a.tmps)=true:=by rfl):wpList P ops Q (op::rest) a w:=kP hw ty ho C hb h
theorem bN{fn:Func}{R:Ending->af->Prop}{p u:Tmp}{ty:TypeId}{g:Nat}{t:TypeId}{C:Array ah}{x:ah}(v:ah)(hb:aI w g t C)(hR:R (.returned v) w)(hv:v=.tuple #[.agg C,x]:=by rfl)(h:fn.results=#[.cell p ty,.tmp u]:=by rfl)(hi:(P.info? ty).map (·.size)=some C.size:=by exact lD){d:eT}(hd:P.underlying ty=some d:=by exact gh)(hr:d.isRow=true:=by rfl)(hp:a.tmps.getD p undef=.pointer (some ⟨g,0,none⟩):=by rfl)(hu:a.tmps.getD u undef=x:=by rfl)(bY:a.defers=[]:=by rfl):bodyPost P fn R .ret a w:=by subst hv;exact kk (I6 h a.tmps P w g t C x hp hu hb d hd hr hi) bY hR
end
section
variable {P:bu} {ops:Array Abi} {S:af->Prop} {a:Act} {w:af} {oi:Abi} {v:ah} {ty:Aab} {x:bR}
theorem WU{g off:Nat}{C:Array ah}{d:eT}(hc:∀w,S w->w.rangeAt g off C.toList)(ho:oi.op=.load ty x:=by rfl)(hi:(P.info? ty).map (·.size)=some C.size:=by exact lD)(hu:P.underlying ty=some d:=by exact gh)(hd:d.isRow=true:=by rfl)(hw:Region.wanted oi (yielded ops a.tmps)=true:=by kernel_rfl)(hx:a.eval x=.pointer (some ⟨g,off,none⟩):=by kernel_rfl):YieldsIf P ops S oi (.agg C) a:=vT hw ty x ho g off hx C hc d hu hd hi
theorem yk{md:Region.Mode}{Q:Exit->Act->af->Prop}{fuel:Nat}{aZ:Array Bool}(i:Nat)(v:ah)(hi:ops[i]?=some oi)(h:wpAny P md ops Q fuel (aZ.setIfInBounds i true) (a.put oi.dst v) w)(hy:Yields P ops oi v a:=by exact .inl ⟨rfl,λ_=>rfl⟩)(hs:Region.noSelect ops=true:=by kernel_rfl)(hf:Region.free md ops aZ i=true:=by kernel_rfl)(hr:(Region.ready md ops aZ).contains i=true:=by kernel_rfl)(hQ:∀c a w,Q (.panic c) (a.put oi.dst v) w->Q (.panic c) a w:=by exact λ_ _ _ h=>h):wpAny P md ops Q (fuel+1) aZ a w:=A0 hi hs hf hr hQ hy h
end
def ZD(P:bu)(ops:Array Abi)(op:Abi)(a a':Act)(w w':af):Prop:=∀(Q:Exit->Act->af->Prop)(rest:List Abi),Aam P ops Q rest a' w'->Aam P ops Q (op::rest) a w
section
variable {P:bu} {ops:Array Abi} {Q:Exit->Act->af->Prop} {rest:List Abi} {a a':Act} {w w':af} {op:Abi}
def Wh{ty:Aab}{n g:Nat}{t:Aab}{C:Array ah}{d:eT}(ho:op.op=.load ty (.tmp n))(hu:P.underlying ty=some d)(hd:d.isRow=true)(hx:a.eval (.tmp n)=.pointer (some ⟨g,0,none⟩))(hb:aI w g t C)(hi:(P.info? ty).map (·.size)=some C.size)(hw:Aaa op (Aaz ops a.tmps)=true):ZD P ops op a (a.put op.dst (.agg C)) w w:=λ_ _ h=>oj hw ty (.tmp n) ho g hx t C hb d hu hd hi h
def Wj{ty:Aab}{n g off:Nat}{C:Array ah}{d:eT}(ho:op.op=.load ty (.tmp n))(hu:P.underlying ty=some d)(hd:d.isRow=true)(hx:a.eval (.tmp n)=.pointer (some ⟨g,off,none⟩))(hc:w.rangeAt g off C.toList)(hi:(P.info? ty).map (·.size)=some C.size)(hw:Aaa op (Aaz ops a.tmps)=true):ZD P ops op a (a.put op.dst (.agg C)) w w:=λ_ _ h=>O' hw ty (.tmp n) ho g off hx C hc d hu hd hi h
def RE{ty:Aab}{C:Array ah}(ho:op.op=.alloc ty)(hz:∀W:af,(Ab9 ty).run P W=.ok (.agg C) W)(hgd:op.guard=none):ZD P ops op a (a.put op.dst (.pointer (some ⟨w.heap.size,0,none⟩))) w (w.alloc (.cells C ty)):=λ_ _ h=>dw hgd ty ho C hz h
def Mb{ty:Aab}{C:Array ah}(ho:op.op=.build ty #[])(hb:P.built ty []=some C)(hw:Aaa op (Aaz ops a.tmps)=true):ZD P ops op a (a.put op.dst (.agg C)) w w:=λ_ _ h=>kP hw ty ho C hb h
def YH{ty:Aab}{n:Nat}{C:Array ah}(ho:op.op=.box ty (.tmp n))(hx:a.eval (.tmp n)=.agg C)(hgd:op.guard=none):ZD P ops op a (a.put op.dst (.pointer (some ⟨w.heap.size,0,none⟩))) w (w.alloc (.cells C ty)):=λ_ _ h=>gY ty n C h ho hgd hx
def YI{W:af}{ty:Aab}{m n:Nat}{C C':Array ah}{t:Aab}(ho:op.op=.store ty (.tmp m) (.tmp n))(hW:W=w.alloc (.cells C t))(hy:a.eval (.tmp n)=.agg C')(hx:a.eval (.tmp m)=.pointer (some ⟨w.heap.size,0,none⟩))(hi:(P.info? ty).map (·.size)=some C'.size)(hold:C.size=C'.size)(h1:C'.all (·.oneCell')=true)(hgd:op.guard=none):ZD P ops op a (a.put op.dst Aat) W (w.alloc (.cells C' t)):=λ_ _ h=>fK w hgd ty (.tmp m) (.tmp n) ho C' t C hW hx hy hi hold h1 h
theorem arm(h:wpList P ops Q rest a' w')(s:ZD P ops op a a' w w':=by first|exact Wh ku gh rfl aA (by first|assumption|exact aI.up cq cq|with_reducible exact aI.new _ _ _|with_reducible exact aI.up (aI.new _ _ _) (ai _ _)|with_reducible exact aI.up (aI.up (aI.new _ _ _) (ai _ _)) (ai _ _)) KV aA|exact Wj ku gh rfl aA cq KV aA|exact RE ku (by first|assumption|with_reducible exact q0|with_reducible exact hM|with_reducible exact ju|with_reducible exact fh|with_reducible exact px|with_reducible exact YX|with_reducible exact WY|with_reducible exact zD|with_reducible exact vV|with_reducible exact vU|with_reducible exact Ek|with_reducible exact zero_rep|with_reducible exact WV|with_reducible exact El|with_reducible exact R'|with_reducible exact R9|with_reducible exact Pe|with_reducible exact JM|with_reducible exact WW|with_reducible exact zero_bookW|with_reducible exact JL|with_reducible exact YW|with_reducible exact xe|with_reducible exact JK) aA|exact Mb ku (by first|assumption|with_reducible exact hZ|with_reducible exact sy|with_reducible exact zQ|with_reducible exact C8|with_reducible exact C6) aA|exact YH ku aA aA|exact YI ku ku aA aA KV aA (by first|assumption|exact vi) rfl):wpList P ops Q (op::rest) a w:=s _ _ h
theorem pH{ty:TypeId}{m n g:Nat}{t:TypeId}{C C':Array ah}(h:∀w',aI w' g t C'->w.grownBy w' (some g)->wpList P ops Q rest (a.put op.dst undef) w')(ho:op.op=.store ty (.tmp m) (.tmp n):=by with_reducible rfl)(hy:a.eval (.tmp n)=.agg C':=by rfl)(hx:a.eval (.tmp m)=.pointer (some ⟨g,0,none⟩):=by rfl)(hb:aI w g t C:=by first|assumption|exact aI.up cq cq|with_reducible exact aI.new _ _ _|with_reducible exact aI.up (aI.new _ _ _) (ai _ _)|with_reducible exact aI.up (aI.up (aI.new _ _ _) (ai _ _)) (ai _ _))(hgd:op.guard=none:=by rfl)(hi:(P.info? ty).map (·.size)=some C'.size:=by first|assumption|exact lD)(h1:C'.all (·.oneCell')=true:=by first|assumption|exact vi)(hold:C.size=C'.size:=by rfl):wpList P ops Q (op::rest) a w:=en hgd ty (.tmp m) (.tmp n) ho g C' hx hy t C hb hi hold h1 h
end
section
variable {P:bu} {ops:Array Abi} {S:af->Prop} {a:Act} {w:af} {oi:Abi} {v:ah}
theorem ym(h:∀w,(execOp a.eval oi).run P w=.ok (.value v) w:=by intro _;go_simp;exact rfl)(hw:Region.wanted oi (yielded ops a.tmps)=true:=by kernel_rfl):YieldsIf P ops S oi v a:=qZ hw h
theorem ta{md:Region.Mode}{Q:Exit->Act->af->Prop}{fuel:Nat}{aZ:Array Bool}(i:Nat)(h:wpAnyH P md ops Q S fuel (aZ.setIfInBounds i true) (a.put oi.dst v) w)(hi:ops[i]?=some oi:=by rfl)(hy:YieldsIf P ops S oi v a:=by exact ym)(hS:S w:=by first|assumption|exact Up.refl _|exact trivial)(hs:Region.noSelect ops=true:=by kernel_rfl)(hf:Region.free md ops aZ i=true:=by kernel_rfl)(hr:(Region.ready md ops aZ).contains i=true:=by kernel_rfl)(hQ:∀c a w,Q (.panic c) (a.put oi.dst v) w->Q (.panic c) a w:=by exact λ_ _ _ h=>h):wpAnyH P md ops Q S (fuel+1) aZ a w:=wpAnyH_take hi hs hf hr hQ hy hS h
theorem tb{md:Region.Mode}{Q:Exit->Act->af->Prop}{fuel:Nat}{aZ:Array Bool}(i:Nat)(hi:ops[i]?=some oi)(hy:YieldsIf P ops S oi v a)(h:wpAnyH P md ops Q S fuel (aZ.setIfInBounds i true) (a.put oi.dst v) w)(hS:S w:=by first|assumption|exact Up.refl _|exact trivial)(hs:Region.noSelect ops=true:=by kernel_rfl)(hf:Region.free md ops aZ i=true:=by kernel_rfl)(hr:(Region.ready md ops aZ).contains i=true:=by kernel_rfl)(hQ:∀c a w,Q (.panic c) (a.put oi.dst v) w->Q (.panic c) a w:=by exact λ_ _ _ h=>h):wpAnyH P md ops Q S (fuel+1) aZ a w:=wpAnyH_take hi hs hf hr hQ hy hS h
end
theorem ok{P:bu}{Q:Exit->Act->af->Prop}{S:af->Prop}{aZ:Array Bool}{a:Act}{w:af}(i:Nat)(h:∀K:Act->af->Prop,(∀a w,S w->wpAnyH P md ops Q S fuel (aZ.setIfInBounds i true) a w->K a w)->o.wp P a w K Q)(hi:ops[i]?=some o:=by rfl)(hr:Region.ready md ops aZ=[i]:=by kernel_rfl)(hw:Region.wanted o (yielded ops a.tmps)=true:=by rfl):wpAnyH P md ops Q S (fuel+1) aZ a w:=qX i hr hi hw h
theorem dn{P:bu}{Q:Exit->Act->af->Prop}{S:af->Prop}{aZ:Array Bool}{a:Act}{w:af}(h:Q .normal a w)(hr:Region.ready md ops aZ=[]:=by kernel_rfl):wpAnyH P md ops Q S fuel aZ a w:=yC hr h _
theorem hg(l:List α)(k:Nat)(h:k<κ l):l.take (k+1)=l.take k++[l[k]]:=aq
def aZ(n:Nat):Nat->List aj
 | 0=>[]
 | w+1=>Ab6 (n%256)::aZ (n/256) w
def bo:List aj->Nat
 | []=>0
 | c::r=>c.toNat+256*bo r
theorem bC(w:Nat):∀n,κ (aZ n w)=w:=by
 induction w with
 | zero=>exact λ_=>rfl
 | succ w ih=>grind [aZ]
theorem CL(k:Nat):∀n,aZ n (k+1)=aZ n k++[Ab6 (n/256 ^ k%256)]:=by
 induction k with
 | zero=>simp[aZ]
 | succ k ih=>intro n;rw[aZ,ih (n/256),aZ,Aa2,Nat.div_div_eq_div_mul,yD,A1 256]
theorem Hh(n:Nat):(Ab6 (n%256)).toNat=n%256:=aq
theorem hc(w:Nat):∀n,n<256 ^ w->bo (aZ n w)=n:=by
 induction w with
 | zero=>decide
 | succ w ih=>grind [aZ,bo,Hh]
theorem n4:∀l:List aj,bo l<256 ^ (κ l)
 | []=>by simp[bo]
 | c::r=>by have:=n4 r;have hc:c.toNat<256:=c.toNat_lt;rw[bo,Aaj,yD];omega
theorem vg:∀l:List aj,aZ (bo l) (κ l)=l
 | []=>rfl
 | c::r=>by
  have hc:c.toNat<256:=c.toNat_lt;rw[bo,Aaj,aZ];have e1:(c.toNat+256*bo r)%256=c.toNat:=ae
  have e2:(c.toNat+256*bo r)/256=bo r:=ae
  rw[e1,e2,vg r];congr 1;exact UInt8.toNat_inj.1 (UInt8.toNat_ofNat_of_lt' (by show c.toNat<256;omega))
theorem r':∀(l m:List aj),bo (l++m)=bo l+256 ^ (κ l)*bo m
 | [],m=>by simp[bo]
 | c::r,m=>by rw[Aa2,bo,r' r m,bo,Aaj,yD,Nat.mul_add,yE,<-Nat.mul_assoc,A1 256 (256 ^ (κ r))]
theorem IK(l:List aj)(c:aj):bo (l++[c])=bo l+256 ^ (κ l)*c.toNat:=by simp[r',bo]
def yg(ws:List Int):Prop:=∀w∈ws,1<=w/\w<=8
instance(ws:List Int):Decidable (yg ws):=by unfold yg;infer_instance
def total(ws:List Int):Nat:=(ws.map Adu).sum
theorem mD(w:Int)(ws:List Int):total (w::ws)=w.toNat+total ws:=aA
theorem vK(a b:List Int):total (a++b)=total a+total b:=by simp[total]
theorem Cc{ws:List Int}(h:yg ws):total ws<=8*κ ws:=by
 induction ws with
 | nil=>decide
 | cons w ws ih=>have:=ih (λx hx=>h x (bn _ hx));have:=h w (cS ..);grind [mD]
theorem pD(ws:List Int)(k:Nat)(h:k<κ ws):total (ws.take (k+1))=total (ws.take k)+ws[k].toNat:=by grind [hg,vK,total]
def fits:List Int->List Nat->Prop
 | w::ws,n::ns=>n<256 ^ w.toNat/\fits ws ns
 | _,_=>True
instance Xt:(ws:List Int)->(ns:List Nat)->Decidable (fits ws ns)
 | [],_=>.isTrue trivial
 | _::_,[]=>.isTrue trivial
 | w::ws,n::ns=>by unfold fits;have:=Xt ws ns;infer_instance
def aX:List Int->List Nat->List aj
 | w::ws,n::ns=>aZ n w.toNat++aX ws ns
 | _,_=>[]
def nr(ws:List Int)(ns:List Nat):Prop:=κ ws=κ ns/\yg ws/\fits ws ns
instance(ws:List Int) (ns:List Nat):Decidable (nr ws ns):=by unfold nr;infer_instance
theorem H0:∀(ws:List Int)(ns:List Nat),fits ws ns↔∀i(h1:i<κ ws)(h2:i<κ ns),ns[i]<256 ^ ws[i].toNat
 | [],ns=>⟨λ_ i h1=>absurd h1 (E7 i),λ_=>trivial⟩
 | _::_,[]=>⟨λ_ i _ h2=>absurd h2 (E7 i),λ_=>trivial⟩
 | w::ws,n::ns=>by
  rw[fits,H0 ws ns];constructor
  ·rintro⟨h0,h⟩ i h1 h2;cases i with
   | zero=>exact h0
   | succ i=>exact h i (by simpa using h1) (by simpa using h2)
  ·intro h;exact⟨h 0 aq aq,λi h1 h2=>h (i+1) (by simpa using h1) (by simpa using h2)⟩
theorem pB:∀(ws:List Int)(ns:List Nat),κ ws=κ ns->κ (aX ws ns)=total ws
 | [],[],_=>rfl
 | w::ws,n::ns,h=>by rw[aX,Aae,bC,pB ws ns jG,mD]
theorem pA:∀(ws:List Int)(ns:List Nat)(aa:List Int)(ab:List Nat),κ ws=κ ns->aX (ws++aa) (ns++ab)=aX ws ns++aX aa ab
 | [],[],_,_,_=>rfl
 | w::ws,n::ns,aa,ab,h=>by rw[Aa2,Aa2,aX,pA ws ns aa ab jG,aX,Abe]
theorem tn(ws:List Int)(ns:List Nat)(k:Nat)(h1:k<κ ws)(h2:k<κ ns):aX (ws.take (k+1)) (ns.take (k+1))=aX (ws.take k) (ns.take k)++aZ ns[k] ws[k].toNat:=by grind [hg,pA,aX]
def c8:List Int->List aj->List Nat
 | [],_=>[]
 | w::ws,b=>bo (b.take w.toNat)::c8 ws (b.drop w.toNat)
def Br(ws:List Int)(b:List aj):Prop:=yg ws/\(κ b)=total ws
instance(ws:List Int) (b:List aj):Decidable (Br ws b):=by unfold Br;infer_instance
theorem p2:∀(ws:List Int)(b:List aj),κ (c8 ws b)=κ ws
 | [],_=>rfl
 | w::ws,b=>by simp[c8,p2 ws]
theorem p1:∀(ws aa:List Int)(b:List aj),c8 (ws++aa) b=c8 ws b++c8 aa (b.drop (total ws))
 | [],aa,b=>by simp[c8,total]
 | w::ws,aa,b=>by rw[Aa2,c8,c8,p1 ws aa,Ac4,mD,Aa2]
theorem ug(ws:List Int)(b:List aj)(k:Nat)(h:k<κ ws):c8 (ws.take (k+1)) b=c8 (ws.take k) b++[bo ((b.drop (total (ws.take k))).take ws[k].toNat)]:=by grind [hg,p1,c8]
theorem OV:∀(ws:List Int)(b:List aj),κ b=total ws->aX ws (c8 ws b)=b
 | [],b,h=>by simp[total]at h;subst h;rfl
 | w::ws,b,h=>by
  rw[mD]at h;rw[c8,aX,OV ws _ ao];have hl:κ (b.take w.toNat)=w.toNat:=ao
  conv=>lhs;lhs;rw[<-hl,ey,Nat.min_eq_left ae]
  have:=vg (b.take w.toNat);rw[hl]at this;rw[this,fO]
theorem q5:∀(ws:List Int)(ns:List Nat),κ ws=κ ns->fits ws ns->c8 ws (aX ws ns)=ns
 | [],[],_,_=>rfl
 | w::ws,n::ns,h,hf=>by rw[fits]at hf;rw[aX,c8,h0 (bC _ _),lh (bC _ _),hc _ _ hf.1,q5 ws ns jG hf.2]
theorem ew:(prog.info? 5).map (λi=>(i.zero,i.size,i.bytes))=some (some (.int .u8 0),1,1):=al
theorem ui:(prog.info? 70).map (λi=>(i.zero,i.size,i.bytes))=some (some (.int .u64 0),1,8):=al
theorem AG:(prog.info? 3).map (λi=>(i.zero,i.size,i.bytes))=some (some (.int .i64 0),1,8):=al
def St(ws:List Int)(e:Ab3):Prop:=(yg ws/\e=.returned (.tuple #[.int .i64 (total ws:Nat),.bool true]))\/(¬yg ws/\e=.returned (.tuple #[.int .i64 0,.bool false]))
theorem Ja(w:af)(v:ah)(ws:List Int)(h:aC bA w v ws)(hlen:κ ws*8<=140737488351232):Aaf Aag 237 #[v] w λe w'=>St ws e/\w=w':=by
 obtain⟨a,cap,rfl⟩:=h.slice;go_in;go_wp2_with fail;go_loop [4,9] (λs i=>∃k:Nat,k<=κ ws/\i=i6 k/\s=i6 (total (ws.take k):Nat)/\yg (ws.take k)) (λ_ i=>κ ws-(Aaq i).toNat)
 case atStart=>exact⟨0,bG _,rfl,rfl,by intro x hx;simp at hx⟩
 case round=>
  obtain⟨k,hk,rfl,rfl,ak⟩:=hrel;have aK:=Cc ak;have aQ:κ (ws.take k)<=k:=yF _ _;by_cases hlt:k<κ ws
  ·obtain⟨b,off,rfl,_,hc⟩:=cf h rfl ae;have ai:=hc k hlt;unfold bA at ai;have aI:=pD ws k hlt;have ag:ws[k]∈ws:=cm hlt;have ab:1<=ws[k]/\ws[k]<=8->yg (ws.take (k+1)):=by
    intro h1 x hx;rw[hg ws k hlt]at hx;rcases Aa3.1 hx with hx|hx
    ·exact ak x hx
    ·simp_all
   clear hc;generalize hx:ws[k]=x at *;obtain⟨aJ,ad,aa,aO⟩:=bS ag aI ab ak;by_cases h1:x<1
   ·exact NG
   by_cases h8:8<x
   ·exact NG
   obtain⟨y,rfl⟩:=ja (show 0<=x from ae);generalize total (ws.take k)=tk at *;go_wp2_with fail;all_goals
    go_round
    case rel=>exact⟨k+1,ae,fP,ao,aa ⟨ae,ae⟩⟩
    case measure=>simp[Aaq];omega
  ·obtain rfl:k=κ ws:=by omega
   rw[fj]at *;go_wp2;go_ret2;exact⟨.inl ⟨ak,rfl⟩,rfl⟩
theorem dA:prog.underlying 30=some (.slice (prog.elem 30)):=al
theorem dB(W:af):(sizeOf (prog.elem 30)).run Aag W=.ok 1 W:=al
theorem drop_cons(l:List α)(i:Nat)(h:i<κ l):l.drop i=l[i]::l.drop (i+1):=aq
theorem Bp(l:List aj)(h:κ l<=8):bo l<18446744073709551616:=by have h1:=n4 l;have h2:(256:Nat) ^ (κ l)<=256 ^ 8:=E8 ae h;omega
theorem Jv(ws:List Int)(k:Nat)(h:k<κ ws):total ws=total (ws.take k)+ws[k].toNat+total (ws.drop (k+1)):=by
 conv=>lhs;rw[<-fO k ws,vK,drop_cons ws k h,mD]
 omega
theorem IL(n c k:Nat)(h:n<256 ^ k):n ||| (c*2 ^ (8*k))=n+256 ^ k*c:=by
 have h2:(2:Nat) ^ (8*k)=256 ^ k:=by rw[yG]
 have h3:=Nat.shiftLeft_add_eq_or_of_lt (b:=n) (i:=8*k) ae c;rw[Nat.shiftLeft_eq,h2]at h3;grind
theorem uh(w:af)(v:ah)(ws:List Int)(hv:aC bA w v ws)(hlen:κ ws*8<=140737488351232)(u:ah)(b:List aj)(hu:aY w u b)(ak:Br ws b):Aaf Aag 177 #[v,u] w λe w'=>∃v,e=.returned (.tuple #[v,.int .i64 0])/\Own cu 70 w' w.heap.size v (c8 ws b)/\Up w w':=by
 obtain⟨aN,heq⟩:=ak;have aT:=hu.length_le;have HR:=an (Ja w v ws hv hlen);obtain⟨a,cap,rfl⟩:=hv.slice;obtain⟨a2,ax,rfl⟩:=hu.slice;have ht:((κ b:Int) != (total ws:Int))=false:=ao
 have mk:=kE (P:=Aag) 156 70 (u6 0) 8 underlying156 ui (κ ws) ae ae;obtain⟨bc,ar⟩:=aw heq aN;clear heq;go_in;go_wp2_with fail;refine HR.mono ?_;rintro e w1⟨⟨_,rfl⟩|⟨hh,_⟩,rfl⟩
 case inr=>exact absurd ar hh
 clear aN;go_wp2_with fail;go_loopw [1,8,31] (λy x i wr=>∃k:Nat,k<=κ ws/\i=i6 k/\(∃a' c',y=.slice a' (κ b-total (ws.take k)) c'/\(κ b)-total (ws.take k)<=c'/\aY w (.slice a' (κ b-total (ws.take k)) c') (b.drop (total (ws.take k))))/\Own cu 70 wr w.heap.size x (c8 (ws.take k) b)/\Up w wr) (λ_ _ i _=>κ ws-(Aaq i).toNat)
 case atStart=>
  refine⟨0,bG _,rfl,⟨a2,ax,aA,?_,cq⟩,Own.room cu _ w _ _ _ (aE _) ae,ai _ _⟩;rcases hu with⟨hb,a',c',h1,_⟩|⟨bb,oo,cc,h1,_,h2,_⟩
  ·grind
  ·grind
 case round=>
  obtain⟨k,hk,rfl,⟨a',c',rfl,aR,hrest⟩,hown,upr⟩:=hrel;obtain⟨wo,rfl⟩:∃wo:af,wo=wr:=⟨_,rfl⟩;have aW:=p2 (ws.take k) b;have aU:κ (ws.take k)<=k:=yF _ _;by_cases hlt:k<κ ws
  ·obtain⟨bb,off,rfl,_,hc⟩:=cf hv rfl ae;have d1:=upr.cell (hc k hlt);unfold bA at d1;obtain⟨aI,a8,be,a1⟩:=iQ (pD ws k hlt) (Jv ws k hlt) (ug ws b k hlt) (ar _ (cm hlt));clear hc;generalize ws[k]=x at *;obtain⟨m,rfl⟩:=ja (show 0<=x from ae);simp only[Abr]at aI a8 be;have bh:κ (c8 (ws.take k) b)<=k:=by omega
   have ag:=bc.out;have al:m<=κ b-total (ws.take k):=ae
   have aM:κ (b.drop (total (ws.take k)))=κ b-total (ws.take k):=aq
   have ay:b.drop (total (ws.take (k+1)))=(b.drop (total (ws.take k))).drop m:=ao
   have aQ:κ b-total (ws.take (k+1))=κ b-total (ws.take k)-m:=ae
   generalize b.drop (total (ws.take k))=r at *;generalize (κ b)-total (ws.take k)=rl at *;generalize c8 (ws.take k) b=gn at *;obtain⟨ba,bg,bd,a7⟩:=bS ay aQ be aM;clear ay aQ be aI a8 aW aU ag aM;obtain⟨b3,o3,aP,_,aa⟩:=cf hrest a7.symm cr;subst aP;have aJ:=df (P:=Aag) 30 dA dB (some ⟨b3,o3,none⟩) rl c' m al;have aV:=hrest.piece (lo:=m) (hi:=rl) ae cr;rw[show r.take rl=r from dk cr]at aV;have a6:=an aa;clear aa;go_wp2_with fail;go_loop [11,36] (λn i=>∃j:Nat,j<=m/\i=i6 j/\n=u6 (bo (r.take j):Nat)) (λ_ i=>m-(Aaq i).toNat)
   case atStart=>exact⟨0,bG _,rfl,rfl⟩
   case round=>
    obtain⟨j,hj,rfl,rfl⟩:=hrel;by_cases aO:j<m
    ·have aZ:j<κ r:=by simp only[Hid]at *;omega
     have d3:=upr.cell (a6 j aZ);unfold aH at d3;have aK:κ (r.take j)=j:=ao
     have ab:bo (r.take (j+1))=bo (r.take j)+256 ^ j*r[j].toNat:=by rw[hg r j aZ,IK,aK]
     have aD:bo (r.take j)<256 ^ j:=by have:=n4 (r.take j);rwa [aK]at this
     have bj:r[j].toNat<256:=r[j].toNat_lt;obtain⟨bk,aS⟩:=az (Bp (r.take (j+1)) ao) (IL (bo (r.take j)) r[j].toNat j aD);generalize aR:r[j].toNat=c at *;have hmul:c*2 ^ (8*j)<18446744073709551616:=by
      have:c*2 ^ (8*j)=256 ^ j*c:=by rw[show(2:Nat) ^ (8*j)=256 ^ j from by rw[yG],A1]
      omega
     have au:bo (r.take j)<18446744073709551616:=ae
     generalize bo (r.take j)=x at *;have e1:IntKind.u64.wrap ((c:Int)*2 ^ (8*j))=((c*2 ^ (8*j):Nat):Int):=by rw[show((c:Int)*2 ^ (8*j))=((c*2 ^ (8*j):Nat):Int)from aq];exact IntWalk.u64_in _ ae
     have e2:bits .or .u64 (x:Int) ((c*2 ^ (8*j):Nat):Int)=((x+256 ^ j*c:Nat):Int):=by rw[u64_or_nat _ _ au hmul,aS]
     generalize hz:c*2 ^ (8*j)=z at *;generalize hy:x+256 ^ j*c=y at *;obtain⟨aX,Hz⟩:=aw ab hz;go_wp2;go_round
     case rel=>exact⟨j+1,ae,fP,ao⟩
     case measure=>simp[Aaq];omega
    ·obtain rfl:j=m:=by omega
     have aL:=Bp (r.take j) ao;generalize aB:bo (r.take j)=nv at *;go_wp2_with(at_builtin;refine bf cu qR rfl (.tmp 50) (.tmp 52) 156 rfl w.heap.size 70 (u6 0) 8 underlying156 ui rfl _ _ rfl (hown.up (ai wo _)) (cC wo.heap.size 1 1) [nv] rfl (aC.lit wo #[u6 (nv:Int)] 70 (0,0) [nv] 1 rfl av rfl) ao ao ((upr.alloc _).size) ?_);intro v' w4 ad _ aG;go_wp2_with fail;go_roundw
     case rel=>exact⟨k+1,ae,fP,by rw[bg.out,ba.out];exact⟨_,_,rfl,ae,aV⟩,by rw[bd.out];exact ad,(upr.alloc _).aF aG (aE _)⟩
     case measure=>simp[Aaq];omega
  ·obtain rfl:k=κ ws:=by omega
   rw[fj]at hown;go_wp2;exact zq
structure au where
 loc:Int
 aV:Nat
 sum:Nat
deriving DecidableEq
def au.wf(p:au):Prop:=(-9223372036854775808<=p.loc/\p.loc<=9223372036854775807)/\p.aV<18446744073709551616/\p.sum<4294967296
def hole:au:=⟨0,0,0⟩
def fQ(p:au):ah:=.agg #[.int .i64 p.loc,.int .u64 (p.aV:Int),.int .u32 (p.sum:Int)]
def cw(p:au):Bool:=decide (p=hole) || (decide (4<=p.loc) && decide (p.loc<1024) && decide (1<=p.aV) && decide (p.aV<=281474976710655))
def dx(p q:au):Bool:=if p.aV≠q.aV then decide (p.aV<q.aV)else if p.loc≠q.loc then decide (p.loc<q.loc)else decide (p.sum<q.sum)
def fu(p:au)(s:Nat):Bool:=decide (p≠hole) && decide (s<p.aV)
def k8(b:Bool)(w:af)(e:Ab3)(w':af):Prop:=e=.returned (.bool b)/\Up w w'
theorem Yl{x b:Bool}(h:x=true↔b=true):Ending.returned (.bool x)=.returned (.bool b):=aa
theorem wc(l:Int)(b s:Nat):cw ⟨l,b,s⟩=true↔(l=0/\b=0/\s=0)\/(4<=l/\l<1024/\1<=b/\b<=281474976710655):=by grind [cw,hole]
theorem rf(l l2:Int)(b s b2 s2:Nat):dx ⟨l,b,s⟩ ⟨l2,b2,s2⟩=true↔b<b2\/(b=b2/\(l<l2\/(l=l2/\s<s2))):=by grind [dx]
theorem BY(l:Int)(b s n:Nat):fu ⟨l,b,s⟩ n=true↔¬(l=0/\b=0/\s=0)/\n<b:=by grind [fu,hole]
theorem oa(w:af)(p:au):Aaf Aag 236 #[fQ p] w λe w'=>k8 (cw p) w e w':=by
 obtain⟨l,b,s⟩:=p;unfold fQ;go_in;go_wp2_with fail;all_goals
  go_ret;refine⟨?_,ai _ _⟩;refine Yl ?_;rw[wc];exact F9
theorem uq(w:af)(p q:au):Aaf Aag 224 #[fQ p,fQ q] w λe w'=>k8 (dx p q) w e w':=by
 obtain⟨l,b,s⟩:=p;obtain⟨l2,b2,s2⟩:=q;unfold fQ;go_in;go_wp2_with fail;all_goals
  go_ret;refine⟨?_,(ai _ _).alloc _⟩;refine Yl ?_;rw[rf];exact F9
theorem D1(w:af)(p:au)(n:Nat):Aaf Aag 119 #[fQ p,.int .u64 (n:Int)] w λe w'=>k8 (fu p n) w e w':=by
 obtain⟨l,b,s⟩:=p;unfold fQ;go_in;go_wp2_with fail;all_goals
  go_ret;refine⟨?_,ai _ _⟩;refine Yl ?_;rw[BY];exact F9
theorem V6{x m:Nat}(h:x<256 ^ m):x/2 ^ (8*m)=0:=by rw[show(2:Nat) ^ (8*m)=256 ^ m from by rw[yG]];simp;omega
theorem o4(w:af)(v:ah)(ws:List Int)(hv:aC bA w v ws)(hlen:κ ws*8<=140737488351232)(u:ah)(ns:List Nat)(hu:aC cu w u ns)(ad:∀n∈ns,n<18446744073709551616)(ak:nr ws ns):Aaf Aag 240 #[v,u] w λe w'=>∃v,e=.returned (.tuple #[v,.int .i64 0])/\Own aH 5 w' w.heap.size v (aX ws ns)/\Up w w':=by
 have aO:=an ak;obtain⟨heq,aN,aU⟩:=ak;have HF:=an ((H0 ws ns).1 aU);clear aU;have aS:=hu.length_le;have HR:=an (Ja w v ws hv hlen);obtain⟨a,cap,rfl⟩:=hv.slice;obtain⟨a2,ax,rfl⟩:=hu.slice;have aK:=Cc aN;obtain⟨len,hl⟩:=bE (κ ws);rw[<-heq]at hu aS ⊢;rw[<-hl]at hv hu hlen aS aK HR ⊢;have ht:((len:Int) != (len:Int))=false:=aq
 have bh:len=κ ns:=hl.trans heq;obtain⟨Hl,Hl2,ar⟩:=aW hl bh aN;clear hl bh heq;have aT:=an ad;clear ad;have mk:=kE (P:=Aag) 30 5 (.int .u8 0) 1 Aau ew (total ws) ae ae;go_in;go_wp2_with fail;refine HR.mono ?_;rintro e w1⟨⟨_,rfl⟩|⟨hh,_⟩,rfl⟩
 case inr=>exact absurd ar hh
 clear aN;go_wp2_with fail;go_loop [30] (λi=>∃k:Nat,k<=len/\i=i6 k) (λi=>len-(Aaq i).toNat)
 case atStart=>exact⟨0,bG _,rfl⟩
 case round=>
  obtain⟨k,hk,rfl⟩:=hrel;by_cases hlt:k<len
  ·have k1:k<κ ws:=by simp only[Hid]at *;omega
   have k2:k<κ ns:=cr
   obtain⟨b,off,rfl,_,hc⟩:=cf hv Hl ae;obtain⟨b2,aI,rfl,_,al⟩:=cf hu Hl2 ae;obtain⟨d1,d2⟩:=az (hc k k1) (al k k2);unfold bA at d1;unfold cu at d2;have aY:ns[k]<18446744073709551616:=aT _ (cm k2);obtain⟨a1,hf⟩:=az (ar _ (cm k1)) (HF k k1 k2);clear hc al;generalize ws[k]=x at *;generalize ns[k]=y at *;obtain⟨m,rfl⟩:=ja (show 0<=x from ae);simp only[Abr]at hf;have hz:=V6 hf;have e1:((y:Int)/2 ^ (8*m))=0:=aP
   have e2:(((y:Int)/2 ^ (8*m)) != 0)=false:=ao
   clear hf hz e1;go_wp2_with fail;go_round
   case rel=>exact⟨k+1,ae,fP⟩
   case measure=>simp[Aaq];omega
  ·obtain rfl:k=len:=by omega
   go_wp2_with fail;go_loopw [10,48] (λx i wr=>∃j:Nat,j<=k/\i=i6 j/\Own aH 5 wr w.heap.size x (aX (ws.take j) (ns.take j))/\Up w wr) (λ_ i _=>k-(Aaq i).toNat)
   case atStart=>exact⟨0,bG _,rfl,Own.room aH _ w _ _ _ (aE _) ae,ai _ _⟩
   case round=>
    obtain⟨j,hj,rfl,hown,upr⟩:=hrel;obtain⟨wo,rfl⟩:∃wo:af,wo=wr:=⟨_,rfl⟩;by_cases hlt:j<k
    ·have k1:j<κ ws:=by simp only[Hid]at *;omega
     have k2:j<κ ns:=cr
     obtain⟨b,off,rfl,_,hc⟩:=cf hv Hl ae;obtain⟨b2,aI,rfl,_,al⟩:=cf hu Hl2 ae;obtain⟨d1,d2⟩:=az (upr.cell (hc j k1)) (upr.cell (al j k2));unfold bA at d1;unfold cu at d2;have hsn:=tn ws ns j k1 k2;have aY:ns[j]<18446744073709551616:=aT _ (cm k2);have a1:=ar _ (cm k1);have bL:κ (aX (ws.take j) (ns.take j))<=8*j:=by rw[pB _ _ ao];have:=Cc (ws:=ws.take j) (λx hx=>ar x (sN hx));simp at this;omega
     clear hc al;generalize ws[j]=x at *;generalize ns[j]=y at *;obtain⟨m,rfl⟩:=ja (show 0<=x from ae);simp only[Abr]at hsn;generalize aX (ws.take j) (ns.take j)=pb at *;have aL:=an hsn;clear hsn;go_wp2_with fail;go_loopw [10,57] (λx i wr=>∃i':Nat,i'<=m/\i=i6 i'/\Own aH 5 wr w.heap.size x (pb++aZ y i')/\Up w wr) (λ_ i _=>m-(Aaq i).toNat)
     case atStart=>exact⟨0,bG _,rfl,by simpa[aZ]using hown,upr⟩
     case round=>
      obtain⟨i',aD,rfl,au,ab⟩:=hrel;have aa:=bC i' y;by_cases aM:i'<m
      ·have aJ:=CL i' y;have hle:y/2 ^ (8*i')<=y:=Nat.div_le_self _ _;have aQ:=Hh (y/256 ^ i');have aj:y/2 ^ (8*i')=y/256 ^ i':=by rw[show(2:Nat) ^ (8*i')=256 ^ i' from by rw[yG]]
       obtain⟨c,hc⟩:=bE (Ab6 (y/256 ^ i'%256));rw[<-hc]at aJ aQ;have e1:IntKind.u8.wrap ((y:Int)/2 ^ (8*i'))=(c.toNat:Int):=by
        have h:(y:Int)/2 ^ (8*i')=((y/2 ^ (8*i'):Nat):Int):=aA
        rw[h,aQ,E9,aj];omega
       generalize ag:aZ y i'=nb at *;obtain⟨aG,aV⟩:=aw aJ aa;have a6:κ nb<=8:=ae
       clear aJ aQ aj hc ag aa;go_wp2_with(at_builtin;refine bf aH cg rfl (.tmp 60) (.tmp 66) 30 rfl w.heap.size 5 (.int .u8 0) 1 Aau ew rfl _ _ rfl (au.up (ai wr _)) (cC wr.heap.size 1 1) [c] rfl (aC.lit wr #[.int .u8 (c.toNat:Int)] 5 (0,0) [c] 1 rfl av rfl) ao ao ((ab.alloc _).size) ?_);intro v' w3 ay _ aB;go_wp2_with fail;go_roundw
       case rel=>exact⟨i'+1,ae,fP,by rw[aG.out];exact ay,(ab.alloc _).aF aB (aE _)⟩
       case measure=>simp[Aaq];omega
      ·obtain rfl:i'=m:=by omega
       clear aa;generalize ag:aZ y i'=nb at *;have aR:=an ag;clear ag;go_wp2_with fail;go_roundw
       case rel=>exact⟨j+1,ae,fP,by rw[aL.out];exact au,ab⟩
       case measure=>simp[Aaq];omega
    ·obtain rfl:j=k:=by omega
     have e1:ws.take j=ws:=dk cr;have e2:ns.take j=ns:=dk cr;rw[e1,e2]at hown;clear e1 e2;go_wp2_with fail;exact zq
theorem dp(w:af)(cs:Array ah)(t:Aab)(fr:Nat × Nat)(i:Nat)(v:ah)(h:cs[i]?=some v):(w.alloc (.cells cs t fr)).cell? ⟨w.heap.size,i,none⟩=some v:=by refine Gl ?_;intro hh;unfold Aco;simp_all
theorem Own.wk{f:α->ah}{f':β->ah}{e e':Aab}{w w' w0:af}{v v':ah}{xs:List α}{ys:List β}(h:Own f e w base v xs)(h2:Own f' e' w0 base' v' ys)(hb:w0.heap.size<=base)(hg:w.grownBy w' v'.ownBlock):Own f e w' base v xs:=by
 refine sM h hg ?_;cases ho:v.ownBlock with
 | none=>simp
 | some k=>right;intro heq;obtain⟨h3,h4⟩:=az ((h.aJ k ho).1) ((h2.aJ k heq.symm).2);omega
theorem dP(n:Nat)(h:n<18446744073709551616):IntKind.u64.wrap (n:Int)=(n:Int):=by exact zp
def j3:List Int:=[4,8,4]
def BH(p:au):List Nat:=[p.loc.toNat,p.aV,p.sum]
def bM(p:au):List aj:=aX j3 (BH p)
theorem H7{l:Int}{b s:Nat}(h:cw ⟨l,b,s⟩=true):∃n:Nat,l=n/\n<1024:=by rw[wc]at h;exact⟨l.toNat,ae,ae⟩
theorem DJ(n b s:Nat)(h1:n<1024)(h2:b<18446744073709551616)(h3:s<4294967296):nr j3 [n,b,s]:=by
 refine⟨rfl,?_,?_⟩
 ·decide
 ·grind [j3,fits]
theorem Cq(w:af):Aaf Aag 235 #[] w λe w'=>e=.returned (cC w.heap.size 3 3)/\w'=w.alloc (.cells #[i6 4,i6 8,i6 4] 3 (0,0)):=by go_in;exact e4
def Is{f:α->ah}(w:af)(B:Obj)(cs:Array ah)(t:Aab)(fr:Nat × Nat)(l:List α)(n b:Nat)(hb:b=w.heap.size)(hn:n=κ l)(hm:n<=maxLen)(aD:cs.toList=l.map f):aC f ((w.alloc (.cells cs t fr)).alloc B).drew (.slice (some ⟨b,0,none⟩) n n) l:=(aC.er w b hb cs t fr l n hn hm aD).up ((ai _ _).drew)
def vJ{f:α->ah}(w:af)(B:Obj)(cs:Array ah)(t:Aab)(fr:Nat × Nat)(l:List α)(n b:Nat)(hb:b=(w.alloc B).heap.size)(hn:n=κ l)(hm:n<=maxLen)(aD:cs.toList=l.map f):aC f ((w.alloc B).alloc (.cells cs t fr)).drew (.slice (some ⟨b,0,none⟩) n n) l:=(aC.er _ b hb cs t fr l n hn hm aD).up ((Up.refl _).drew)
theorem mC:3<=maxLen:=av
def MV{w1 w':af}{a b c:Addr}{x y z:ah}(h0:w1.cell? a=some x)(h1:w1.cell? b=some y)(h2:w1.cell? c=some z)(h:Up w1 w'):Up w1 w'/\w'.cell? a=some x/\w'.cell? b=some y/\w'.cell? c=some z:=⟨h,h.cell h0,h.cell h1,h.cell h2⟩
def Sq(p:au)(w:af)(e:Ab3)(w':af):Prop:=(cw p=true/\∃v,e=.returned (.tuple #[v,.int .i64 0])/\Own aH 5 w' w.heap.size v (bM p)/\Up w w')\/(cw p=false/\e=.returned (.tuple #[.slice none 0 0,.int .i64 51])/\Up w w')
theorem nV(w:af)(p:au)(hp:p.wf):Aaf Aag 221 #[fQ p] w λe w'=>Sq p w e w':=by
 obtain⟨l,b,s⟩:=p;obtain⟨h1,h2,h3⟩:=hp;simp only at h1 h2 h3;have HR:=an (λw0=>oa w0 ⟨l,b,s⟩);unfold fQ at *;by_cases hg:cw ⟨l,b,s⟩=true
 case neg=>
  have aa:cw ⟨l,b,s⟩=false:=aP
  rw[aa]at HR;go_in;go_wp2_with fail;refine(HR _).mono ?_;rintro e w1⟨rfl,up1⟩;go_wp2;go_ret2;exact .inr ⟨aa,rfl,(ai _ _).trans up1⟩
 obtain⟨n,rfl,hn⟩:=H7 hg;rw[hg]at HR;go_in;go_wp2_with fail;refine(HR _).mono ?_;rintro e w1⟨rfl,up1⟩;have c0:w1.cell? (ad w.heap.size 0)=some (i6 n):=up1.cell (dp w _ _ _ 0 _ rfl);have c1:w1.cell? (ad w.heap.size 1)=some (u6 b):=up1.cell (dp w _ _ _ 1 _ rfl);have c2:w1.cell? (ad w.heap.size 2)=some (.int .u32 s):=up1.cell (dp w _ _ _ 2 _ rfl);obtain⟨ar,s1⟩:=az ((ai w _).trans up1) up1.size;go_wp2;have wn:=dP n ae;obtain⟨ws,hi⟩:=az (dP s ae) ar;go_region_held3 (λw'=>Up w1 w'/\w'.cell? (ad w.heap.size 0)=some (i6 n)/\w'.cell? (ad w.heap.size 1)=some (u6 b)/\w'.cell? (ad w.heap.size 2)=some (.int .u32 s))
  ((refine MV c0 c1 c2 ?_;(first|(refine Up.trans ?_ up4;(repeat(first|exact Up.refl _|apply Up.alloc|apply Up.drew));done)|((repeat(first|exact Up.refl _|apply Up.alloc|apply Up.drew));done))))
  ((first
   | (go_at_call 235;refine(Cq _).mono ?_;rintro e w2 ⟨rfl,rfl⟩)
   | (go_at_call 240;refine(o4 _ _ j3 (by first | exact Is w1 _ #[i6 4,i6 8,i6 4] 3 _ j3 3 _ rfl rfl mC rfl | exact vJ w1 _ #[i6 4,i6 8,i6 4] 3 _ j3 3 _ rfl rfl mC rfl | exact vJ w1 _ #[i6 4,i6 8,i6 4] 3 _ j3 3 _ (Aa4 _ _).symm rfl mC rfl) av _ [n,b,s] (by first | exact Is w1 _ #[u6 n,u6 b,u6 s] 70 _ [n,b,s] 3 _ rfl rfl mC rfl | exact vJ w1 _ #[u6 n,u6 b,u6 s] 70 _ [n,b,s] 3 _ rfl rfl mC rfl | exact vJ w1 _ #[u6 n,u6 b,u6 s] 70 _ [n,b,s] 3 _ (Aa4 _ _).symm rfl mC rfl) ao (DJ n b s hn h2 h3)).mono ?_;rintro e w4 ⟨vv,rfl,aU,up4⟩)))
 all_goals
  obtain⟨k1,k2⟩:=az (((ai w1 _).alloc _).drew.trans up4) (aU.mono (bO ar.size ((ai w1 _).alloc _).drew.size));go_wp2;go_ret2;exact .inl ⟨hg,_,rfl,k2,ar.trans k1⟩
def mg(l:List aj):au:=⟨(bo (l.take 4):Nat),bo ((l.drop 4).take 8),bo (l.drop 12)⟩
def mi(l:List aj):Option au:=if (κ l)=16/\cw (mg l)=true then some (mg l)else none
def Sr(l:List aj)(w:af)(e:Ab3)(w':af):Prop:=(∃p,mi l=some p/\e=.returned (.tuple #[fQ p,.int .i64 0])/\Up w w')\/(mi l=none/\e=.returned (.tuple #[fQ hole,.int .i64 51])/\Up w w')
theorem QS(l:List aj):Br j3 l↔(κ l)=16:=by simp[Br,j3,yg,total]
theorem fV{l:List aj}(h:κ l<=k):bo l<256 ^ k:=eh (n4 l) (E8 ae h)
theorem p4(l:List aj)(h:κ l=16):c8 j3 l=[bo (l.take 4),bo ((l.drop 4).take 8),bo (l.drop 12)]:=by simp[c8,j3,Ac4];rw[dk ao]
theorem sH(w:af)(cs:Array ah)(t:Aab)(i:Nat):(w.alloc (.cells cs t)).frozen? ⟨w.heap.size,i,none⟩=false:=aq
theorem bc(n:Nat)(h:n<9223372036854775808):IntKind.i64.wrap (n:Int)=(n:Int):=IntWalk.i64_in _ ae
theorem Hq(n:Nat)(h:n<4294967296):IntKind.u32.wrap (n:Int)=(n:Int):=by exact zp
theorem qB(w:af)(v:ah)(l:List aj)(hv:aY w v l)(ak:κ l=16):Aaf Aag 176 #[v] w λe w'=>Sr l w e w':=by
 have HR:=an (oa (p:=mg l));go_in;go_wp2_with fail;refine(Cq _).mono ?_;rintro e w1⟨rfl,rfl⟩;go_wp2_with fail;refine(uh _ _ j3 (aC.er _ _ aq _ _ _ j3 3 rfl mC rfl) av _ l (hv.up ((ai _ _).alloc _)) ((QS l).2 ak)).mono ?_;rintro e w3⟨vv,rfl,aU,hh⟩;have ax:Up (w.alloc (.cells #[i6 0,u6 0,.int .u32 0] 87)) w3:=(ai _ _).trans hh;have d0:w3.cell? (ad w.heap.size 0)=some (i6 0):=ax.cell (dp w _ _ _ 0 _ rfl);have d1:w3.cell? (ad w.heap.size 1)=some (u6 0):=ax.cell (dp w _ _ _ 1 _ rfl);have d2:w3.cell? (ad w.heap.size 2)=some (.int .u32 0):=ax.cell (dp w _ _ _ 2 _ rfl);have f0:w3.frozen? ⟨w.heap.size,0,none⟩=false:=(ax.frozen aq).trans (sH w _ _ 0);have f1:w3.frozen? ⟨w.heap.size,1,none⟩=false:=(ax.frozen aq).trans (sH w _ _ 1);have f2:w3.frozen? ⟨w.heap.size,2,none⟩=false:=(ax.frozen aq).trans (sH w _ _ 2);have ar:=(ai w _).trans ax;rw[p4 l ak]at aU;refine NH ?_;intro q1 q2 q3;have aO:=an ak;have hp:mg l=⟨(bo (l.take 4):Nat),bo ((l.drop 4).take 8),bo (l.drop 12)⟩:=rfl;rw[hp]at HR;have Hp:=an hp;unfold fQ at HR;simp only at HR;generalize bo (l.take 4)=x at *;generalize bo ((l.drop 4).take 8)=y at *;generalize bo (l.drop 12)=z at *;obtain⟨a5,c5,rfl⟩:=aU.cv.slice;obtain⟨b5,o5,rfl,_,hc⟩:=cf aU.cv rfl aq;have e0:w3.cell? (ad b5 o5)=some (u6 x):=hc 0 aq;have e1:w3.cell? (ad b5 (o5+1))=some (u6 y):=hc 1 aq;have e2:w3.cell? (ad b5 (o5+2))=some (u6 z):=hc 2 aq;go_wp2;obtain⟨wx,wz⟩:=az (bc x ae) (Hq z q3);go_region_held3 (λw'=>Up w3 w'/\w'.cell? (ad b5 o5)=some (u6 x)/\w'.cell? (ad b5 (o5+1))=some (u6 y)/\w'.cell? (ad b5 (o5+2))=some (u6 z)) ((refine MV e0 e1 e2 ?_;(repeat(first|exact Up.refl _|apply Up.alloc|refine Up.setCell ?_ (aE _) _|apply Up.drew));done)) (fail);go_wp2_with fail;refine(HR _).mono ?_;rintro e w5⟨rfl,ab⟩;have aa:=((ai w3 (.cells #[i6 x,u6 y,.int .u32 z] 87)).drew).trans ab;have g0:w5.cell? (ad w3.heap.size 0)=some (i6 x):=ab.cell (dp w3 _ _ _ 0 _ rfl);have g1:w5.cell? (ad w3.heap.size 1)=some (u6 y):=ab.cell (dp w3 _ _ _ 1 _ rfl);have g2:w5.cell? (ad w3.heap.size 2)=some (.int .u32 z):=ab.cell (dp w3 _ _ _ 2 _ rfl);have ag:w5.frozen? ⟨w.heap.size,0,none⟩=false:=(aa.frozen (h8 w3 _ d0)).trans f0;have al:w5.frozen? ⟨w.heap.size,1,none⟩=false:=(aa.frozen (h8 w3 _ d1)).trans f1;have aA:w5.frozen? ⟨w.heap.size,2,none⟩=false:=(aa.frozen (h8 w3 _ d2)).trans f2;have au:=aa.cell d0;have aw:=aa.cell d1;have ay:=aa.cell d2;have ao:=ar.trans aa;have aL:mi l=if cw ⟨x,y,z⟩=true then some ⟨x,y,z⟩ else none:=by simp[mi,aO.out,Hp.out]
 generalize cw ⟨x,y,z⟩=gb at *;cases gb
 ·go_wp2;refine kk (v:=.tuple #[fQ hole,i6 51]) ?_ rfl ?_
  ·rw[E6 rfl];go_simp;try rfl
  exact .inr ⟨cq,rfl,((ao.setCell (aE _) _).setCell (aE _) _).setCell (aE _) _⟩
 ·go_wp2;refine kk (v:=.tuple #[.agg #[i6 x,u6 y,.int .u32 z],i6 0]) ?_ rfl ?_
  ·rw[E6 rfl];go_simp;try rfl
  exact .inl ⟨⟨x,y,z⟩,cq,rfl,((ao.setCell (aE _) _).setCell (aE _) _).setCell (aE _) _⟩


def yo(w:af)(v v':ah):Prop:=v'.ownBlock=v.ownBlock\/∃g,v'.ownBlock=some g/\w.heap.size<=g
def pI(v u:ah):Prop:=v.ownBlock=none\/v.ownBlock≠u.ownBlock
theorem pI.symm{v u:ah}(h:pI v u):pI u v:=by
 rcases h with h|h
 ·by_cases hu:u.ownBlock=none
  ·exact .inl hu
  ·exact .inr aa
 ·exact .inr (λe=>h e.symm)
theorem pI.grown{w:af}{v v' u:ah}(h:pI u v)(hw:yo w v v')(hu:∀k,u.ownBlock=some k->k<w.heap.size):pI u v':=by
 rcases h with h|h
 ·exact .inl h
 ·rcases hw with hw|⟨g,hw,hg⟩
  ·exact .inr aa
  ·refine .inr (λe=>?_);grind
section
variable {α:Type} {P:bu}
theorem mH{f:α->List ah}{k:Nat}(hw:gi f k){w:af}{o:Oper}{a:Act}{K:Act->af->Prop}{Q:Exit->Act->af->Prop}(s x:bR)(t:TypeId)(ho:o.op=.call {callee:=.builtin .append,args:=#[s,x],argTypes:=#[t,t]})(base:Nat)(e:TypeId)(z:ah)(bytes:Nat)(ht:P.underlying t=some (.slice e))(hinfo:(P.info? e).map (λi=>(i.zero,i.size,i.bytes))=some (some z,k,bytes))(aw:z.cells.size=k)(v:ah)(xs:List α)(hs:a.eval s=v)(hown:ak f k e w base v xs)(vx:ah)(ys:List α)(hx:a.eval x=vx)(ai:aG f w vx ys)(ab:(κ xs+κ ys)*bytes<=140737488355328)(an:κ xs+κ ys<=9223372036854775807)(ag:base<=w.heap.size)(h:∀v' w',ak f k e w' base v' (xs++ys)->w.grownBy w' v.ownBlock->Below base w w'->yo w v v'->K (a.put o.dst v') w'):o.wp P a w K Q:=by
 obtain⟨i,hi,hz0,hz1,ar⟩:=jC hinfo;have au:κ xs+κ ys<=maxLen:=cq
 have key:∀(ad:Addr)(c:Nat),vx=.slice (some ad) (κ ys) c->(∀j u,(ys.flatMap f)[j]?=some u->w.cell? (ad.add j)=some u)->o.wp P a w K Q:=by
  intro ad c ax aj;obtain⟨v',w',hr,h1,h2,h3⟩:=run_append_own (P:=P) w base t o.type e i z k bytes ht hi hz0 hz1 ar aw hw.pos v (κ xs) (xs.flatMap f) hown ad (κ ys) c (ys.flatMap f) (hw.flat ys) aj (hw.cv ys) au ab ag;have aa:yo w v v':=by
   rcases hown.2 with⟨rfl,h0⟩|⟨g,cap,cur,rfl,aq,hg,ba,aB,aD,ay⟩
   ·have av:xs=[]:=qe.1 h0;subst av;obtain⟨v2,w2,aU,az,aA,a1⟩:=run_append_own (P:=P) w w.heap.size t o.type e i z k bytes ht hi hz0 hz1 ar aw hw.pos (nl) 0 [] (yy w w.heap.size e k) ad (κ ys) c (ys.flatMap f) (hw.flat ys) aj (hw.cv ys) ae ae (aE _);have e1:=hr.symm.trans aU;simp only[Adi]at e1;obtain⟨rfl,rfl⟩:=e1;rcases az.2 with⟨rfl,_⟩|⟨g,cap,cur,rfl,aq,_⟩
    ·exact .inl rfl
    ·exact .inr ⟨g,rfl,aq⟩
   ·by_cases al:κ xs+κ ys<=cap
    ·obtain⟨w2,aU,_⟩:=run_append_own_spare (P:=P) w base t o.type e i k ht hi hz1 g (κ xs) cap (xs.flatMap f) hown ad (κ ys) c (ys.flatMap f) (hw.flat ys) aj (hw.cv ys) al;have e1:=hr.symm.trans aU;simp only[Adi]at e1;obtain⟨rfl,rfl⟩:=e1;exact .inl rfl
    ·have holds:∀j u,(xs.flatMap f)[j]?=some u->w.cell? ((⟨g,0,none⟩:Addr).add j)=some u:=World.ownsRow.cells hown (g:=g) rfl;have aU:=run_append_grow (P:=P) w t o.type e i z ht hi hz0 ⟨g,0,none⟩ (κ xs) cap (xs.flatMap f) (by rw[hz1];exact hw.flat xs) holds ad (κ ys) c (ys.flatMap f) (by rw[hz1];exact hw.flat ys) aj ae ae (by rw[ar];exact growslice_fits ae ab);have e1:=hr.symm.trans aU;simp only[Adi]at e1;obtain⟨rfl,rfl⟩:=e1;exact .inr ⟨_,rfl,aE _⟩
  unfold Ace;simp[Abt,ho,resolve,invoke,builtin,hs,hx,ax,hr,Aar];refine h v' w' ?_ h2 (fy h2 ag λk hk=>(hown.aJ k hk).1) aa;unfold ak;simp;omega
 rcases ai with⟨rfl,ad,cap,rfl,hc,hn⟩|⟨b,off,cap,rfl,h0,hl,hm,hc⟩
 ·cases ad with
  | none=>obtain rfl:=hn rfl;have hrun:=yz (P:=P) (w:=w) base t o.type e i k ht hi v (κ xs) (xs.flatMap f) hown;unfold Ace;simp[Abt,ho,resolve,invoke,builtin,hs,hx,hrun,Aar];exact h v w ao ⟨rfl,rfl,rfl,aE _,λ_ _ _=>rfl⟩ (e7 _ _) (.inl rfl)
  | some ad=>grind
 ·refine key _ cap rfl λj u hj=>?_;rw[add_plain];grind
def ej{f:α->List ah}{k:Nat}(hw:gi f k){w:af}{ops:Array Oper}{rest:List Oper}{o:Oper}{a:Act}{Q:Exit->Act->af->Prop}(hgd:o.guard=none)(s x:bR)(t:TypeId)(ho:o.op=.call {callee:=.builtin .append,args:=#[s,x],argTypes:=#[t,t]})(base:Nat)(e:TypeId)(z:ah)(bytes:Nat)(ht:P.underlying t=some (.slice e))(hinfo:(P.info? e).map (λi=>(i.zero,i.size,i.bytes))=some (some z,k,bytes))(aw:z.cells.size=k)(v:ah)(xs:List α)(hs:a.eval s=v)(hown:ak f k e w base v xs)(vx:ah)(ys:List α)(hx:a.eval x=vx)(ai:aG f w vx ys)(ab:(κ xs+κ ys)*bytes<=140737488355328)(an:κ xs+κ ys<=9223372036854775807)(ag:base<=w.heap.size)(h:∀v' w',ak f k e w' base v' (xs++ys)->w.grownBy w' v.ownBlock->Below base w w'->yo w v v'->wpList P ops Q rest (a.put o.dst v') w'):wpList P ops Q (o::rest) a w:=h' hgd λ_ hK=>mH hw s x t ho base e z bytes ht hinfo aw v xs hs hown vx ys hx ai ab an ag λv' w' h1 h2 h3 h4=>hK _ _ (h v' w' h1 h2 h3 h4)
end
def dK(p:au):List ah:=[.int .i64 p.loc,.int .u64 (p.aV:Int),.int .u32 (p.sum:Int)]
theorem pw:gi dK 3:=⟨ae,λ_=>rfl,λx u hu=>by simp[dK]at hu;rcases hu with rfl|rfl|rfl<;>rfl⟩
def a6(p:au):Array ah:=#[.int .i64 p.loc,.int .u64 (p.aV:Int),.int .u32 (p.sum:Int)]
theorem kM(p:au):(a6 p).all (·.oneCell')=true:=by simp[a6,Ac9]
def aab(p:au):a6 p=(dK p).toArray:=rfl
theorem cF:(prog.info? 87).map (λi=>(i.zero,i.size,i.bytes))=some (some (.agg #[.int .i64 0,.int .u64 0,.int .u32 0]),3,24):=al
theorem GP(d:Nat)(p q:au)(W:af):(Ac3 (d+2) 87 (fQ p) (fQ q)).run Aag W=.ok (decide (p=q)) W:=by
 obtain⟨l,b,s⟩:=p;obtain⟨l2,b2,s2⟩:=q;unfold fQ;have e:decide ((⟨l,b,s⟩:au)=⟨l2,b2,s2⟩)=((l==l2) && (((b:Int)==(b2:Int)) && ((s:Int)==(s2:Int)))):=aP
 rw[e];rw[yH W (d+1) 87 _ _ aA aq];exact N7
abbrev c9(w:af)(v:ah)(l:List au):Prop:=aG dK w v l
abbrev a8(w:af)(base:Nat)(v:ah)(l:List au):Prop:=ak dK 3 87 w base v l
theorem rM{w:af}{a:Option Addr}{l:List au}(h:c9 w (.slice a n cap) l)(h0:0<κ l):∃b off,a=some ⟨b,off,none⟩/\b<w.heap.size/\n<=cap/\∀i(hi:i<κ l),w.cell? ⟨b,off+i*3,none⟩=some (.int .i64 l[i].loc)/\w.cell? ⟨b,off+i*3+1,none⟩=some (.int .u64 (l[i].aV:Int))/\w.cell? ⟨b,off+i*3+2,none⟩=some (.int .u32 (l[i].sum:Int)):=by obtain⟨b,off,h1,h2,h3,h4⟩:=aG.get h pw h0;exact⟨b,off,h1,h2,h3,λi hi=>⟨h4 i hi 0 _ rfl,h4 i hi 1 _ rfl,h4 i hi 2 _ rfl⟩⟩
def nF(p:au):Bool:=!decide (p=hole) && cw p
def tf(l:List au)(i:Nat)(h:i<κ l):Bool:=nF l[i] && (if h0:i=0 then true else dx (l[i-1]' ae) l[i])
def gq(l:List au):Bool:=decide (∀i(h:i<κ l),tf l i h=true)
theorem je(l:List au):gq l=true↔∀i(h:i<κ l),tf l i h=true:=by simp[gq]
theorem Tw(l:Int)(b s:Nat):decide ((⟨l,b,s⟩:au)=hole)=true↔l=0/\b=0/\s=0:=by simp[hole]
theorem HY(w:af)(p:au):Aaf Aag 225 #[fQ p] w λe w'=>k8 (nF p) w e w':=by
 have R:=an (λW=>oa W p);have hf:nF p=(!decide (p=hole) && cw p):=rfl;rw[hf];obtain⟨l,b,s⟩:=p;have hh:=Tw l b s;unfold fQ at *;simp only at *;generalize cw ⟨l,b,s⟩=g at *;generalize decide ((⟨l,b,s⟩:au)=hole)=h at *;by_cases h0:l=0/\b=0/\s=0
 ·have:h=true:=hh.2 h0;subst this;obtain⟨rfl,rfl,rfl⟩:=h0;go_in;go_wp2;go_ret;exact⟨rfl,ai _ _⟩
 ·have:h=false:=by grind
  subst this;have hx:(((l==0) && ((b:Int)==0)) && ((s:Int)==0))=false:=ao
  have HX:(l==0)=false\/((l==0)=true/\((b:Int)==0)=false)\/((l==0)=true/\((b:Int)==0)=true/\((s:Int)==0)=false):=by cases h1:(l==0)<;>cases h2:((b:Int)==0)<;>cases h3:((s:Int)==0)<;>simp_all
  rcases HX with t1|⟨t1,t2⟩|⟨t1,t2,t3⟩
  all_goals
   go_in;go_wp2_with fail;refine(R _).mono ?_;rintro e w1⟨rfl,up1⟩;go_wp2;go_ret;exact⟨aq,(ai _ _).trans up1⟩
def aaW(w:af)(l:Int)(b s:Nat)(d:Nat)(os:Array Obj):(grow (redrawn (w.alloc (.cells #[.int .i64 l,.int .u64 b,.int .u32 s] 87)) d) os).cell? ⟨w.heap.size,0,none⟩=some (.int .i64 l):=di (dp w _ _ _ 0 _ rfl) d os
def aaX(w:af)(l:Int)(b s:Nat)(d:Nat)(os:Array Obj):(grow (redrawn (w.alloc (.cells #[.int .i64 l,.int .u64 b,.int .u32 s] 87)) d) os).cell? ⟨w.heap.size,1,none⟩=some (.int .u64 b):=di (dp w _ _ _ 1 _ rfl) d os
def aaY(w:af)(l:Int)(b s:Nat)(d:Nat)(os:Array Obj):(grow (redrawn (w.alloc (.cells #[.int .i64 l,.int .u64 b,.int .u32 s] 87)) d) os).cell? ⟨w.heap.size,2,none⟩=some (.int .u32 s):=di (dp w _ _ _ 2 _ rfl) d os
structure pL(x y:ah)(b:Bool):Prop where
 fit:∀W,Aaf Aag 224 #[x,y] W λe w'=>k8 b W e w'
def lQ(W:af)(x y:ah)(b:Bool)(h:pL x y b):Aaf Aag 224 #[x,y] W λe w'=>k8 b W e w':=h.fit W
theorem Ya{l:List au}(h:0<κ l):tf l 0 h=nF l[0]:=by simp[tf]
theorem X'{l:List au}(h:k+1<κ l):tf l (k+1) h=(nF l[k+1] && dx (l[k]' ae) l[k+1]):=aA
theorem QQ{l:List au}(h:k<κ l)(hk:tf l k h=false):gq l=false:=by grind [je]
theorem sL(w:af)(v:ah)(l:List au)(hv:c9 w v l):Aaf Aag 243 #[v] w λe w'=>k8 (gq l) w e w':=by
 have hlen:=hv.length_le;obtain⟨a,cap,rfl⟩:=hv.slice;go_in;go_wp2;go_loopw [7] (λi wr=>∃k:Nat,k<=κ l/\i=i6 k/\(∀j(hj:j<κ l),j<k->tf l j hj=true)/\Up w wr) (λi _=>κ l-(Aaq i).toNat)
 case atStart=>exact⟨0,bG _,rfl,λj hj h=>ae,Up.refl _⟩
 case round=>
  obtain⟨k,hk,rfl,ad,upr⟩:=hrel;have ab:=an ad;by_cases hlt:k<κ l
  ·obtain⟨b,off,rfl,hbs,ba,hc⟩:=rM (aG.up hv upr) ae;obtain⟨aM,aL,al⟩:=cX ((hc k hlt).1) ((hc k hlt).2.1) ((hc k hlt).2.2);have F:=an (λW=>HY W l[k]);have aC:(tf l k hlt=true->∀j(hj:j<κ l),j<k+1->tf l j hj=true):=λh j hj az=>by
    by_cases e:j=k
    ·subst e;exact h
    ·exact ab j hj ae
   obtain⟨HST,aB⟩:=aw aC (λh=>QQ hlt h);refine ir ?_;intro b2;have ak:tf l k hlt=(nF l[k] && (if h0:k=0 then true else dx (l[k-1]' ae) l[k])):=rfl;have aA:=an ak;by_cases ay:k=0
   ·have ak:=aA.out;simp only[ay,dif_pos,Bool.and_true]at ak;have aj:=an (show tf l k hlt=nF l[k] by subst ay;exact Ya hlt);have t0:decide ((0:Int)<(k:Int))=false:=by simp;omega
    have aF:decide (0<k)=false:=ao
    clear ak aA ay;generalize l[k]=p at *;obtain⟨pl,pb,ps⟩:=p;unfold fQ at F;simp only at F aM aL al;generalize nF ⟨pl,pb,ps⟩=g at *;clear hc;go_wp2_with fail;obtain⟨x0,x1,x2,upa⟩:=iQ (aaW wr pl pb ps) (aaX wr pl pb ps) (aaY wr pl pb ps) (ai wr (.cells #[i6 pl,u6 pb,.int .u32 ps] 87));generalize aa:wr.alloc (.cells #[i6 pl,u6 pb,.int .u32 ps] 87)=w3 at *;clear aa;cases g;all_goals
     refine gG ?_;repeat(go_big_quiet_step ((go_at_call 225;exact kl (F _))))
     refine F0 ?_;intro w4 d os hw4 up4;clear hw4 x0 x1 x2;have ar:=upr.trans (upa.trans up4);go_wp2_with fail
    ·go_ret;exact⟨by rw[aB.out aj.out]<;>rfl,ar⟩
    ·go_roundw
     case rel=>exact⟨k+1,ae,aq,HST aj,ar⟩
     case measure=>simp[Aaq];omega
   ·obtain⟨j,hj⟩:=bE (k-1);have ag:j<κ l:=by omega
    have aj:=an (show tf l k hlt=(nF l[k] && dx l[j] l[k])by subst hj;rw[aA.out,dif_neg ay]);obtain⟨aD,aE,ax⟩:=cX ((hc j ag).1) ((hc j ag).2.1) ((hc j ag).2.2);have L:=an (show pL (fQ l[j]) (fQ l[k]) (dx l[j] l[k])from⟨λW=>uq W l[j] l[k]⟩);have t0:decide ((0:Int)<(k:Int))=true:=ao
    have aF:decide (0<k)=true:=ao
    have t1:IntKind.i64.wrap ((k:Int)-1)=(j:Int):=by rw[show(k:Int)-1=(j:Int)from ae];exact bc j ae
    have t2:((j:Int)<(κ l:Int))=True:=ao
    clear aA ay hj;generalize l[k]=p at *;generalize l[j]=q at *;obtain⟨pl,pb,ps⟩:=p;obtain⟨ql,qb,qs⟩:=q;unfold fQ at F L;simp only at F aM aL al aD aE ax L;generalize nF ⟨pl,pb,ps⟩=g at *;generalize dx ⟨ql,qb,qs⟩ ⟨pl,pb,ps⟩=le at *;clear hc;go_wp2_with fail;obtain⟨x0,x1,x2,upa⟩:=iQ (aaW wr pl pb ps) (aaX wr pl pb ps) (aaY wr pl pb ps) (ai wr (.cells #[i6 pl,u6 pb,.int .u32 ps] 87));obtain⟨x3,x4,x5⟩:=cX (di (upa.cell aD)) (di (upa.cell aE)) (di (upa.cell ax));generalize aa:wr.alloc (.cells #[i6 pl,u6 pb,.int .u32 ps] 87)=w3 at *;clear aa;cases g
    ·refine gG ?_;repeat(go_big_quiet_step ((go_at_call 225;exact kl (F _))))
     refine F0 ?_;intro w4 d os hw4 up4;clear hw4 x0 x1 x2;have ar:=upr.trans (upa.trans up4);go_wp2_with fail;go_ret;exact⟨by rw[aB.out cq]<;>rfl,ar⟩
    cases le;all_goals
     refine gG ?_;repeat(go_big_quiet_step (first|(go_at_call 225;exact kl (F _))|(go_at_call 224;exact kl (lQ _ _ _ _ L))))
     refine F0 ?_;intro w4 d os hw4 up4;clear hw4 x0 x1 x2 x3 x4 x5;have ar:=upr.trans (upa.trans up4);go_wp2_with fail
    ·go_ret;exact⟨by rw[aB.out cq]<;>rfl,ar⟩
    ·go_roundw
     case rel=>exact⟨k+1,ae,aq,HST cq,ar⟩
     case measure=>simp[Aaq];omega
  ·obtain rfl:k=κ l:=by omega
   have hb:gq l=true:=by rw[je];grind
   go_wp2_with fail;go_ret;exact⟨ao,upr⟩
structure bJ where
 st:Int
 len:Int
deriving DecidableEq
def Wd(s:bJ):ah:=.agg #[.int .i64 s.st,.int .i64 s.len]
def rU(s:bJ):List ah:=[.int .i64 s.st,.int .i64 s.len]
theorem Ca:gi rU 2 where
 pos:=av
 len:=λ_=>rfl;one:=by intro x u hu;simp[rU]at hu;rcases hu with rfl|rfl<;>rfl
abbrev dV(w:af)(v:ah)(l:List bJ):Prop:=aG rU w v l
abbrev hV(w:af)(base:Nat)(v:ah)(l:List bJ):Prop:=ak rU 2 139 w base v l
theorem qL{w:af}{a:Option Addr}{l:List bJ}(h:dV w (.slice a n cap) l)(h0:0<κ l):∃b off,a=some ⟨b,off,none⟩/\b<w.heap.size/\n<=cap/\∀i(hi:i<κ l),w.cell? (ad b (off+i*2))=some (i6 l[i].st)/\w.cell? (ad b (off+i*2+1))=some (i6 l[i].len):=by obtain⟨b,off,h1,h2,h3,h4⟩:=aG.get h Ca h0;exact⟨b,off,h1,h2,h3,λi hi=>⟨h4 i hi 0 _ rfl,h4 i hi 1 _ rfl⟩⟩
def gH(s:bJ):Bool:=decide (0<=s.st/\s.st<4096/\1<=s.len/\s.len<=4096-s.st)
def cj:Int->List bJ->Bool
 | _,[]=>true
 | e,s::l=>gH s && decide (e<s.st) && cj (s.st+s.len) l
def Mw(b:Bool)(w:af)(e:Ab3)(w':af):Prop:=e=.returned (.bool b)/\Up w w'
theorem abj{x b:Bool}(h:x=true↔b=true):Ending.returned (.bool x)=.returned (.bool b):=aa
theorem dZ(s l:Int):gH ⟨s,l⟩=true↔0<=s/\s<4096/\1<=l/\l<=4096-s:=by simp[gH]
theorem L3(w:af)(s:bJ):Aaf Aag 275 #[Wd s] w λe w'=>Mw (gH s) w e w':=by
 obtain⟨s,l⟩:=s;unfold Wd;have hw:0<=s->s<4096->IntKind.i64.wrap (4096-s)=4096-s:=λh1 h2=>by obtain⟨k,rfl⟩:=ja h1;rw[show(4096:Int)-(k:Int)=((4096-k:Nat):Int)from ae];exact bc _ ae
 by_cases h1:0<=s
 ·by_cases h2:s<4096
  ·replace hw:=hw h1 h2;go_in;go_wp2;all_goals
    go_ret;refine⟨?_,ai _ _⟩;refine abj ?_;rw[dZ];try simp only[hw]at *
    try simp only[decide_eq_true_eq,Aa8,Adk,Ac2,decide_eq_false_iff_not]at *
    try simp only[Ab2,false_iff,true_iff]
    omega
  ·exact NL
 ·exact NL
theorem vB{s l:Int}(h:gH ⟨s,l⟩=true):IntKind.i64.wrap (s+l)=s+l/\-1<=s+l/\s+l<=4096:=by rw[dZ]at h;obtain⟨k,rfl⟩:=ja h.1;obtain⟨j,rfl⟩:=ja (show 0<=l from ae);refine⟨?_,ae,ae⟩;rw[show(k:Int)+(j:Int)=((k+j:Nat):Int)from ae];exact bc _ ae
theorem gw(w:af)(v:ah)(l:List bJ)(hv:dV w v l):Aaf Aag 247 #[v] w λe w'=>Mw (cj (-1) l) w e w':=by
 have hlen:=hv.length_le;obtain⟨a,cap,rfl⟩:=hv.slice;go_in;go_wp2_with fail;go_loopw [3,8] (λe i wr=>∃k:Nat,∃z:Int,k<=κ l/\i=i6 k/\e=i6 z/\cj z (l.drop k)=cj (-1) l/\-1<=z/\z<=4096/\Up w wr) (λ_ i _=>κ l-(Aaq i).toNat)
 case atStart=>exact⟨0,-1,bG _,rfl,rfl,rfl,ae,ae,Up.refl _⟩
 case round=>
  obtain⟨k,z,hk,rfl,rfl,ad,hz1,ar,upr⟩:=hrel;have ab:=an ad;clear ad;by_cases hlt:k<κ l
  ·obtain⟨b,off,rfl,hbs,ba,hc⟩:=qL (aG.up hv upr) ae;obtain⟨x0,x1⟩:=az ((hc k hlt).1) ((hc k hlt).2);have F:=an (λW=>L3 W l[k]);have hd:l.drop k=l[k]::l.drop (k+1):=(List.getElem_cons_drop hlt).symm;have HD:=an hd;clear hd;refine ir ?_;intro b2;generalize l[k]=p at *;obtain⟨ps,pl⟩:=p;obtain⟨HR,HE⟩:=aw (show cj z (l.drop k)=(gH ⟨ps,pl⟩ && decide (z<ps) && cj (ps+pl) (l.drop (k+1)))by rw[HD.out];rfl) (@vB ps pl);clear HD;unfold Wd at F;simp only at F x0 x1;generalize hg:gH ⟨ps,pl⟩=g at *;clear hg hc;have CC:=dp wr #[i6 ps,i6 pl] 139 (0,0);obtain⟨c0,c1⟩:=az (CC 0 _ rfl) (CC 1 _ rfl);clear CC;cases g
   ·go_wp2_with fail;refine(F _).mono ?_;rintro e w1⟨rfl,up1⟩;replace c0:=up1.cell c0;replace c1:=up1.cell c1;go_wp2_with fail;go_ret;exact⟨by rw[<-ab.out,HR.out]<;>rfl,(upr.alloc _).trans up1⟩
   ·obtain⟨ak,ag,aa⟩:=HE rfl;by_cases hle:ps<=z
    ·have t1:¬z<ps:=by omega
     have aj:=an (show cj (-1) l=false by rw[<-ab.out,HR.out];simp[t1]);clear t1;go_wp2_with fail;refine(F _).mono ?_;rintro e w1⟨rfl,up1⟩;replace c0:=up1.cell c0;replace c1:=up1.cell c1;go_wp2_with fail;go_ret;exact⟨by rw[aj.out]<;>rfl,(upr.alloc _).trans up1⟩
    ·have t1:z<ps:=by omega
     have aj:=an (show cj (ps+pl) (l.drop (k+1))=cj (-1) l by rw[<-ab.out,HR.out];simp[t1]);clear t1;go_wp2_with fail;refine(F _).mono ?_;rintro e w1⟨rfl,up1⟩;replace c0:=up1.cell c0;replace c1:=up1.cell c1;go_wp2_with fail;go_roundw
     case rel=>exact⟨k+1,ps+pl,ae,aq,rfl,aj,ag,aa,(upr.alloc _).trans up1⟩
     case measure=>simp[Aaq];omega
  ·obtain rfl:k=κ l:=by omega
   have hb:cj (-1) l=true:=by rw[<-ab.out];simp[cj]
   go_wp2_with fail;go_ret;exact⟨ao,upr⟩
section
open Go.Shelf
attribute [local go_sem] km
def c'(p:Nat->Aab->Prop)(W W':af):Prop:=∀b cs t fr,W.heap[b]?=some (.cells cs t fr)->p b t->W'.heap[b]?=some (.cells cs t fr)
theorem c'.refl(W:af):c' p W W:=λ_ _ _ _ h _=>h
def c'.trans{A B C:af}(h:c' p A B)(k:c' p B C):c' p A C:=λb cs t fr hb hp=>k b cs t fr (h b cs t fr hb hp) hp
theorem jB{w:af}(W:af)(l:Nat)(o o':Obj)(_:w.heap.size<=l)(h:W.heap[l]?=some o)(hc:o.isCells=false)(_:o.isWalk=false):c' p W (W.putObj l o'):=λb cs t fr hb _=>by
 have hne:b≠l:=λe=>by subst e;rw[h]at hb;cases hb;simp[Obj.isCells]at hc
 rw[World.putObj_heap_other hne];exact hb
theorem c'.cell{W W':af}(h:c' p W W'){v:ah}(hp:∀t,p a.block t)(hc:W.cell? a=some v):W'.cell? a=some v:=by
 unfold Aco at hc ⊢;cases hb:W.heap[a.block]? with
 | none=>simp_all
 | some o=>
  cases o with
  | cells cs t fr=>rw[h a.block cs t fr hb (hp t)];simp_all
  | _=>simp_all
theorem ji{W W':af}(h:Up W W'):c' p W W':=λb cs t fr hb _=>by
 have hlt:b<W.heap.size:=by exact NM
 rw[oH h b hlt];exact hb
theorem l2{W W':af}(h:Up W W'):W.grownBy W' none:=by exact⟨h.os,h.tape,h.output,h.size,λk hk _=>h.block k hk⟩
def cU(l:List bJ):List Int:=l.flatMap (λs=>(Aal s.len.toNat).map (λk:Nat=>s.st+(k:Int)))
def cI(l:List bJ):List Int:=if cj (-1) l=true then cU l else []
theorem ua(w:af)(a:Option Addr)(n cap:Nat):Aaf Aag 228 #[.slice a n cap] w λe w'=> e=.returned (.func (.func 264) #[] #[pz w.heap.size])/\w'=w.alloc (.cells #[.slice a n cap] 63):=by go_in;exact e4
def hE(l:List bJ)(k j:Nat)(z:Int):List Int:=cU (l.take k)++(Aal j).map (λi:Nat=>z+(i:Int))
theorem xU(l:List bJ)(k:Nat)(z:Int):hE l k 0 z=cU (l.take k):=by simp[hE]
theorem k1(l:List bJ)(k j:Nat)(z:Int):hE l k (j+1) z=hE l k j z++[z+(j:Int)]:=by simp[hE,Ab0]
theorem o'{l:List bJ}(h:k<κ l){z n:Int}(hp:l[k]=⟨z,n⟩):hE l k n.toNat z=cU (l.take (k+1)):=by rw[eo h,hp];simp[hE,cU]
theorem Bq(l:List bJ)(k:Nat):cU (l.take k) <+:cU l:=by refine⟨cU (l.drop k),?_⟩;rw[cU,cU,<-gl,fO,cU]
theorem wX{l:List bJ}(h:k<κ l){z n:Int}(hp:l[k]=⟨z,n⟩)(hj:j<=n.toNat):hE l k j z <+:cU l:=by
 refine List.IsPrefix.trans ?_ (Bq l (k+1));rw[<-o' h hp];refine⟨((Aal n.toNat).map (λi:Nat=>z+(i:Int))).drop j,?_⟩;rw[hE,Abe,hE];congr 1;rw[<-qj,<-Aao];congr 1;conv=>rhs;rw[<-fO j (Aal n.toNat)]
 simp_all
theorem Q7{a b:List α}{x:α}(h:a++[x] <+:b):κ a<κ b:=aP
theorem o7:∀{l:List bJ}{z:Int},cj z l=true->∀{k:Nat}(h:k<κ l){p:bJ},l[k]=p->gH p=true
 | s::l,z,h,0,_,p,hp=>by simp only[cj,Aa8]at h;simp at hp;rw[<-hp];exact h.1.1
 | s::l,z,h,k+1,hk,p,hp=>by simp only[cj,Aa8]at h;exact o7 h.2 (by simpa using hk) (by simpa using hp)
theorem PB{w:af}{x y:ah}{fr:Nat × Nat}(h:w.heap[B]?=some (.cells #[x,y] t fr)):w.cell? (ad B 0)=some x/\w.cell? (ad B 1)=some y:=by unfold Aco;simp_all
theorem wrap_small{z:Int}(h0:0<=z)(h1:z<100000):IntKind.i64.wrap z=z:=by obtain⟨k,rfl⟩:=ja h0;grind [bc]
theorem vS{z:Int}(h0:0<=z)(h1:z<100000):wrap64 z=z:=by unfold wrap64;omega
theorem aaj(h:j<5000):i6 (wrap64 ((j:Int)+1))=i6 ((j+1:Nat):Int):=by grind [vS]
theorem aba{pl:Int}(h:j<5000)(hj:(j:Int)<pl):pl.toNat-(Aaq (i6 (wrap64 ((j:Int)+1)))).toNat<pl.toNat-(Aaq (i6 (j:Int))).toNat:=by rw[vS ae ae];simp only[Aaq];omega
def oe(n₀:Nat)(b:Nat)(t:Aab):Prop:=b<n₀\/t=139
theorem HU(n:Nat)(hn:1<=n)(lp Bs n₀:Nat)(v:ah)(l:List bJ)(J Jx:List Int->af->Prop)(W:af)(hJ:AbidesFrom W.heap.size J)(hY:∀pre x W1,J pre W1->pre++[x] <+:cI l->YieldAt Abw (n-1) Aag lp #[i6 x] W1 λe W'=>
  (e=.returned (.bool true)/\J (pre++[x]) W'/\c' (oe n₀) W1 W')\/(e=.returned (.bool false)/\Jx (pre++[x]) W'))
 (aB:W.cell? (ad Bs 0)=some v) (hv:dV W v l) (h0:J [] W) (ay:∀a m c,v=.slice (some a) m c->a.block<n₀):
 CallsIn Abw n Aag 264 #[.func (.yield lp) #[] #[],pz Bs] W λe W'=>(∃v,e=.returned v)/\
  ((∃ys,ys=cI l/\J ys W')\/(∃pre,pre <+:cI l/\Jx pre W')):=by
 have hlen:=hv.length_le;obtain⟨a,cap,rfl⟩:=hv.slice;have R:=an (gw W _ l hv);have aO:∀s A B,J s A->Up A B->J s B:=λs A B hs hu=>hJ s A B none hs (l2 hu) (λr e=>aP);have HAL:=an aO;clear aO;obtain⟨g,hg⟩:=bE (cj (-1) l);rw[<-hg]at R;cases g
 ·have aL:=an (show cI l=[] from y9);clear hg;refine uA func264 rfl trivial ?_ rfl;simp only[ntmps264,Abj,Aaj,Aa5,Nat.reduceAdd,Nat.reduceSub,Aa9,Aba,Abk,Abc,Aa0,Aa2];gi_wp2_with(refine⟨trivial,?_⟩;gi_at_call 247;refine(fG.2 R).mono ?_;rintro e w1 ⟨rfl,up1⟩);refine kk (Adx rfl _ _ _) rfl ?_;exact⟨⟨_,rfl⟩,.inl ⟨_,aL.symm,HAL _ _ _ h0 up1⟩⟩
 have aI:cI l=cU l:=y9
 rw[aI]at hY ⊢;clear aI;replace hg:=an hg;refine uA func264 rfl trivial ?_ rfl;simp only[ntmps264,Abj,Aaj,Aa5,Nat.reduceAdd,Nat.reduceSub,Aa9,Aba,Abk,Abc,Aa0,Aa2];gi_wp2_with(refine⟨trivial,?_⟩;gi_at_call 247;refine(fG.2 R).mono ?_;rintro e w1 ⟨rfl,up1⟩;have av:=up1.cell aB);gi_loopw [11] (λi wr=>∃k:Nat,k<=κ l/\i=i6 k/\J (cU (l.take k)) wr/\c' (oe n₀) W wr) (λi _=>κ l-(Aaq i).toNat)
 case atStart=>exact⟨0,bG _,rfl,HAL _ _ _ h0 up1,ji up1⟩
 case round=>
  obtain⟨k,hk,rfl,aA,aj⟩:=hrel;by_cases hlt:k<κ l
  ·obtain⟨b,off,rfl,hbs,ba,hc⟩:=qL hv ae;have aK:=ay _ _ _ rfl;obtain⟨x0,x1⟩:=az (aj.cell (a:=⟨b,off+k*2,none⟩) (λt=>.inl aK) (hc k hlt).1) (aj.cell (a:=⟨b,off+k*2+1,none⟩) (λt=>.inl aK) (hc k hlt).2);obtain⟨p,hp⟩:∃p:bJ,l[k]=p:=⟨_,rfl⟩;rw[hp]at x0 x1;have HP:=an hp;obtain⟨ps,pl⟩:=p;simp only at x0 x1;have HS:=an (o7 hg.symm hlt hp);refine ir ?_;intro b2;have HY:=an hY;have ag:=ai wr (.cells #[i6 ps,i6 pl] 139);have HN:=an (World.alloc_heap_new wr (.cells #[i6 ps,i6 pl] 139));clear hc hY hp hg;obtain⟨w8,aH⟩:=bE (wr);subst aH;gi_wp2;gi_loopw [17] (λi wr=>∃j:Nat,(j:Int)<=pl/\i=i6 j/\J (hE l k j ps) wr/\c' (oe n₀) W wr/\wr.heap[w8.heap.size]?=some (.cells #[i6 ps,i6 pl] 139)) (λi _=>pl.toNat-(Aaq i).toNat)
   case atStart=>have h1:=(dZ _ _).1 HS;exact⟨0,ae,rfl,by rw[xU];exact HAL _ _ _ aA ag,aj.trans (ji ag),HN⟩
   case round=>
    obtain⟨j,hj,rfl,ar,ab,hB⟩:=hrel;have h1:=(dZ _ _).1 HS;obtain⟨c0,c1⟩:=PB hB;by_cases aM:(j:Int)<pl
    ·have au:hE l k j ps++[ps+(j:Int)] <+:cU l:=by rw[<-k1];exact wX hlt HP ae
     obtain⟨fn,tmps,assign,body,hy,hR⟩:=HY _ (ps+(j:Int)) wr ar au;have aG:IntKind.i64.wrap (ps+(j:Int))=ps+(j:Int):=wrap_small ae ae;obtain⟨al,a7⟩:=aw (show j<5000 from ae) hB;clear hB h1;gi_wp2;refine hR.mono ?_;rintro e W3(⟨rfl,hJ3,ak⟩|⟨rfl,aa⟩)
     ·gi_wp2;go_roundw
      case rel=>exact⟨j+1,ae,aaj al,by rw[k1];exact hJ3,ab.trans ak,ak _ _ _ _ a7 (.inr rfl)⟩
      case measure=>exact aba al aM
     ·gi_wp2;refine kk (Adx rfl _ _ _) rfl ?_;exact⟨⟨_,rfl⟩,.inr ⟨_,by rw[<-k1];exact wX hlt HP ae,aa⟩⟩
    ·obtain rfl:pl=(j:Int):=by omega
     clear hB h1;gi_wp2;go_roundw
     case rel=>exact⟨k+1,ae,aq,by have:=o' hlt HP;rw[<-this];exact ar,ab⟩
     case measure=>simp[Aaq];omega
  ·obtain rfl:k=κ l:=by omega
   clear hY;gi_wp2;go_end0;exact⟨⟨_,rfl⟩,.inl ⟨_,rfl,by have:=aA;rw[fj]at this;exact this⟩⟩
end
section
open Go.Shelf
attribute [local go_sem] km
theorem dj(W:af)(v:ah)(t:Aab):(W.alloc (.cells #[v] t)).cell? ⟨W.heap.size,0,none⟩=some v/\(W.alloc (.cells #[v] t)).frozen? ⟨W.heap.size,0,none⟩=false:=aq
theorem bF{W:af}{v:ah}(o:Obj)(h:W.cell? a=some v):(W.alloc o).cell? a=some v:=lg h (yR W o none) (λr e=>aa)
theorem jx{W:af}{v:ah}(o:Obj)(h:W.cell? a=some v)(hf:W.frozen? a=false):(W.alloc o).frozen? a=false:=(frozen_kept h (yR W o none) (λr e=>aa)).trans hf
def Ah(n:Nat)(hn:1<=n)(Bs n₀:Nat)(v:ah)(l:List bJ)(w:af)(aB:Bs<w.heap.size)(hc:w.cell? ⟨Bs,0,none⟩=some v)(hv:dV w v l)(ay:∀a m c,v=.slice (some a) m c->a.block<n₀):SeqStopsK Abw n Aag 264 #[.pointer (some ⟨Bs,0,none⟩)] (λx:Int=>#[Acd .i64 x]) (c' (oe n₀)) (λys=>ys=cI l) (λpre=>pre <+:cI l) (κ (cI l)) w:=λl' J Jx W hW hJ _ hY h0=>HU n hn l' Bs n₀ v l J Jx W hJ (λpre x W1 hj hp=>hY pre x W1 hj (Q7 hp)) ((hW.cell (p:=⟨Bs,0,none⟩) aB).trans hc) (aG.up hv hW) h0 ay
def H9(xs:List Int)(n:Int):Bool:=match xs.find? (λk=>decide (n<=k))with
 | some k=>k==n
 | none=>false
theorem Qf{xs:List Int}{n:Int}(h:∀y∈xs,y<n):H9 xs n=false:=by grind [H9]
theorem Qg{xs pre:List Int}{n x:Int}(h:∀y∈pre,y<n)(hx:n<=x)(hp:pre++[x] <+:xs):H9 xs n=(x==n):=by grind [H9]
theorem Jp(w:af)(v:ah)(l:List bJ)(hv:dV w v l)(hb:∀a m c,v=.slice (some a) m c->a.block<w.heap.size)(n:Int):Aaf Aag 281 #[v,i6 n] w λe w'=>Mw (H9 (cI l) n) w e w':=by
 obtain⟨a,cap,rfl⟩:=hv.slice;refine rq ?_;intro h1;refine oK func281 rfl trivial ?_ rfl;simp only[ntmps281,Abj,Aaj,Aa5,Nat.reduceAdd,Nat.reduceSub,Aa9,Aba,Abk,Abc,Aa0,Aa2];gi_wp2_with(refine⟨trivial,?_⟩;gi_at_call 228;refine(fG.2 (ua _ _ _ _)).mono ?_;rintro e w' ⟨rfl,rfl⟩);obtain⟨c0,c1,c2⟩:=cX (dj w (i6 n) 3) (dj (w.alloc (.cells #[i6 n] 3)) (.bool false) 4) (dj ((w.alloc (.cells #[i6 n] 3)).alloc (.cells #[.bool false] 4)) (.slice a (κ l) cap) 63);simp only[Aa4]at c1 c2;have ay:Below w.heap.size w (((w.alloc (.cells #[i6 n] 3)).alloc (.cells #[.bool false] 4)).alloc (.cells #[.slice a (κ l) cap] 63)):=(((e7 _ w).alloc (aE _) _).alloc aq _).alloc ao _;refine wB (F:=Abw) rfl h1 (gf:=264) (lb:=#[pz (w.heap.size+1+1)]) rfl trivial (enters_of func264 aA rfl) (Ah 5 ae (w.heap.size+1+1) w.heap.size _ l _ aq c2.1 (aG.up hv ay) hb) c'.trans jB (e7 _ _) (λ_=>rfl) (λpre W=>((∀y∈pre,y<n)/\W.cell? (ad w.heap.size 0)=some (i6 n)/\W.cell? (ad (w.heap.size+1) 0)=some (.bool false)/\W.frozen? ⟨w.heap.size+1,0,none⟩=false)/\Below w.heap.size w W) (λc pre W=>(c=.ret/\(∃pr x,pre=pr++[x]/\(∀y∈pr,y<n)/\n<=x/\W.cell? (ad (w.heap.size+1) 0)=some (.bool (x==n))))/\Below w.heap.size w W) (nL (Own.from (λs A B row hs hg hr=>⟨hs.1,lg hs.2.1 hg hr,lg hs.2.2.1 hg hr,(frozen_kept hs.2.2.1 hg hr).trans hs.2.2.2⟩) _) (oL (aE _) ao)) (λc=>nL (Own.from (λs A B row hs hg hr=>⟨hs.1,TW⟩) _) (oL (aE _) ao)) ⟨⟨aq,bF _ (bF _ c0.1),bF _ c1.1,jx _ c1.1 c1.2⟩,ay⟩ (λx=>{tmps:=#[.slice a (κ l) cap,i6 n,Aat,pz w.heap.size,pz (w.heap.size+1),i6 x,.slice a (κ l) cap,.func (.func 264) #[] #[pz (w.heap.size+1+1)],i6 x,Aat,Aat,Aat,Aat,Aat,Aat],defers:=[]}) ?assign ?body ?done ?stop
 case assign=>exact lE
 case body=>
  rintro l' pre x W⟨⟨hp,ab,hcr,aS⟩,hB⟩_;by_cases hx:n<=x
  ·gi_wp2;exact⟨qk _ _ _,⟨rfl,pre,x,rfl,hp,hx,yS _ _ _ aP⟩,hB.setCell (p:=⟨w.heap.size+1,0,none⟩) aq _⟩
  ·gi_wp2;exact⟨KeepsOthers.refl _,c'.refl _,⟨λy hy=>(Aa3.1 hy).elim (hp y) (λe=>aP),ab,hcr,aS⟩,hB⟩
 case done=>rintro D ys W hD rfl⟨⟨hne,_,hcr,aS⟩,hB⟩hK;gi_wp2;have hK':=(qk W ⟨w.heap.size+1,0,none⟩ (.bool false)).same D _ hK rfl;refine⟨aq,.inl ⟨_,_,rfl,Fl hK',?_⟩⟩;have aa:=lg (yS W ⟨w.heap.size+1,0,none⟩ (.bool false) aP) (yT _ D (.deferred none)) (λr e=>by cases e;exact⟨_,hK',rfl⟩);refine⟨.bool false,?_,by rw[Qf hne],(hB.setCell (p:=⟨w.heap.size+1,0,none⟩) aq _).trans (oM (w:=w) (aE _) _ D _ _ qn hK' rfl rfl)⟩;simp[results,Tryz.f281,go_sem,aa]
 case stop=>rintro D c pre W hD aj⟨⟨rfl,pr,x,rfl,av,hx,hcr⟩,hB⟩hK;gi_wp2;refine Oc ?_;intro aa;refine⟨.bool (x==n),?_,by rw[(Qg av hx aj)],hB.trans (oM (w:=w) (aE _) W D _ _ qn hK rfl rfl)⟩;simp[results,Tryz.f281,go_sem,aa]
end
theorem te{l:List bJ}(h:k<κ l){z n:Int}(hp:l[k]=⟨z,n⟩):κ (cU (l.take (k+1)))=κ (cU (l.take k))+n.toNat:=by rw[<-o' h hp];simp[hE]
theorem CR(w:af)(v:ah)(l:List bJ)(hv:dV w v l):Aaf Aag 227 #[v] w λe w'=>e=.returned (i6 (κ (cI l):Int))/\Up w w':=by
 have hlen:=hv.length_le;obtain⟨a,cap,rfl⟩:=hv.slice;have R:=an (gw w _ l hv);obtain⟨g,hg⟩:=bE (cj (-1) l);rw[<-hg]at R;cases g
 ·have aL:=an (show(cI l).length=0 from y9);clear hg;go_in;go_wp2_with fail;refine R.mono ?_;rintro e w1⟨rfl,up1⟩;go_wp2;go_ret;exact⟨by rw[aL.out]<;>rfl,up1⟩
 have aI:=an (show cI l=cU l from y9);replace hg:=an hg;go_in;go_wp2_with fail;refine R.mono ?_;rintro e w1⟨rfl,up1⟩;go_wp2;go_loopw [3,11] (λm i wr=>∃k q:Nat,∃z:Int,k<=κ l/\i=i6 k/\m=i6 q/\q=κ (cU (l.take k))/\cj z (l.drop k)=true/\(q:Int)<=z+1/\z<=4096/\Up w wr) (λ_ i _=>κ l-(Aaq i).toNat)
 case atStart=>exact⟨0,0,-1,bG _,rfl,rfl,rfl,hg.symm,ae,ae,up1⟩
 case round=>
  obtain⟨k,q,z,hk,rfl,rfl,hq,ad,hz1,ar,upr⟩:=hrel;have HQ:=an hq;clear hq;by_cases hlt:k<κ l
  ·obtain⟨b,off,rfl,hbs,ba,hc⟩:=qL (aG.up hv upr) ae;obtain⟨x0,x1⟩:=az ((hc k hlt).1) ((hc k hlt).2);obtain⟨p,hp⟩:∃p:bJ,l[k]=p:=⟨_,rfl⟩;rw[hp]at x0 x1;have hd:l.drop k=p::l.drop (k+1):=by rw[<-hp];exact(List.getElem_cons_drop hlt).symm
   have hs:=ad;rw[hd]at hs;obtain⟨ps,pl⟩:=p;simp only[cj,Aa8,decide_eq_true_eq]at hs;obtain⟨⟨aR,aJ⟩,aN⟩:=hs;obtain⟨j,rfl⟩:∃j:Nat,pl=(j:Int):=⟨pl.toNat,by have:=(dZ _ _).1 aR;omega⟩;obtain⟨ak,ag,aa⟩:=vB aR;have ab:q+j<5000:=ae
   have aD:((q+j:Nat):Int)<=ps+(j:Int)+1:=ae
   have t2:IntKind.i64.wrap ((q:Int)+(j:Int))=((q+j:Nat):Int):=by rw[show(q:Int)+(j:Int)=((q+j:Nat):Int)from ae];exact bc _ ae
   refine ir ?_;intro b2;simp only at x0 x1;have CC:=dp wr #[i6 ps,i6 (j:Int)] 139 (0,0);obtain⟨c0,c1⟩:=az (CC 0 _ rfl) (CC 1 _ rfl);go_wp2_with fail;go_roundw
   case rel=>exact⟨k+1,q+j,ps+j,ae,aq,aA,by rw[te hlt hp,<-HQ.out];simp,aN,aD,aa,upr.alloc _⟩
   case measure=>simp[Aaq];omega
  ·obtain rfl:k=κ l:=by omega
   have ai:=HQ.out;rw[fj]at ai;have HL:=an (show(cI l).length=q by rw[aI.out,ai]);go_wp2;go_ret;exact⟨by rw[HL.out]<;>rfl,upr⟩
section
open Go.Shelf
attribute [local go_sem] km
theorem yf{W w1:af}{n₀ B:Nat}{size k:Nat}{v v':ah}{xs:List ah}{tmp:Obj}(hv:Boxed W B t v)(aj:W.ownsRow n₀ e size v k xs)(hp:∀b,n₀<=b->¬p b t/\¬p b e)(hB:n₀<=B)(ab:(W.alloc tmp).grownBy w1 v.ownBlock):c' p W (w1.setCell ⟨B,0,none⟩ v'):=λb cs t' fr hb aS=>by
 have hlt:b<W.heap.size:=by exact NM
 have hne:b≠B:=λe1=>by subst e1;rw[hv]at hb;cases hb;exact(hp _ hB).1 aS
 have ay:some b≠v.ownBlock:=λe1=>by
  rcases aj.2 with⟨rfl,_⟩|⟨g,cap,cur,rfl,hg,bt,_⟩
  ·simp[Aan]at e1
  ·obtain rfl:b=g:=by simpa[Aan]using e1
   rw[bt]at hb;cases hb;exact(hp _ hg).2 aS
 show(w1.heap.modify B _)[b]?=_;rw[E3,aO (λe=>hne e.symm),((ab.block b ao ay).trans (Below.heap_alloc W tmp b hlt)),hb]
theorem DI:∀{l:List bJ}{z:Int},cj z l=true->z<=4096->(κ (cU l):Int)<=4096-z
 | [],z,_,h=>by simp[cU];omega
 | ⟨a,n⟩::l,z,h,hz=>by simp only[cj,Aa8,decide_eq_true_eq]at h;have h1:=(dZ _ _).1 h.1.1;have h2:=DI h.2 ae;rw[cU,Abd,Aae,<-cU,Aac,Acl];simp only at h h1 h2 ⊢;omega
theorem Ir(l:List bJ):κ (cI l)<=4097:=by
 unfold cI;split
 ·have:=DI cq ae;omega
 ·simp
theorem q7:(prog.info? 3).map (λi=>(i.zero,i.size,i.bytes))=some (some (i6 0),1,8):=al
theorem vD(w:af)(v:ah)(l:List bJ)(hv:dV w v l)(hb:∀a m c,v=.slice (some a) m c->a.block<w.heap.size):Aaf Aag 163 #[v] w λe w'=>∃u,e=.returned u/\Own bA 3 w' w.heap.size u (cI l)/\Up w w':=by
 obtain⟨a,cap,rfl⟩:=hv.slice;obtain⟨i0,hi,hz0,hz1,ar⟩:=jC q7;have C:=an (CR w _ l hv);have hT:=Ir l;obtain⟨T,ai⟩:=bE (κ (cI l));rw[<-ai]at C hT;have au:=an ai;clear ai;have MK:∀W:af,(Aci 41 (i6 0) (i6 (T:Int))).run Aag W=_:=λW=>kE (P:=Aag) 41 3 (i6 0) 8 underlying41 q7 T ae ae W;refine rq ?_;intro h1;refine oK func163 rfl trivial ?_ rfl;simp only[ntmps163,Abj,Aaj,Aa5,Nat.reduceAdd,Nat.reduceSub,Aa9,Aba,Abk,Abc,Aa0,Aa2];gi_wp2_with(refine⟨trivial,?_⟩;first|(gi_at_call 228;refine(fG.2 (ua _ _ _ _)).mono ?_;rintro e w' ⟨rfl,rfl⟩)|(gi_at_call 227;refine(fG.2 C).mono ?_;rintro e w1 ⟨rfl,up1⟩));obtain⟨bO,bN⟩:=az (Boxed.new (w1.alloc (.cells (j1 (i6 0) T) 3)) 41 (cC w1.heap.size 0 T)) (Boxed.new ((w1.alloc (.cells (j1 (i6 0) T) 3)).alloc (.cells #[cC w1.heap.size 0 T] 41)) 63 (.slice a (κ l) cap));have ag:(w1.alloc (.cells (j1 (i6 0) T) 3)).ownsRow w1.heap.size 3 1 (cC w1.heap.size 0 T) 0 []:=AY w1 _ T (aE _) dy (by rw[r0,Nat.mul_one]);simp only[Aa4]at bO bN;have ay:Below w1.heap.size w1 (((w1.alloc (.cells (j1 (i6 0) T) 3)).alloc (.cells #[cC w1.heap.size 0 T] 41)).alloc (.cells #[.slice a (κ l) cap] 63)):=(((e7 _ w1).alloc (aE _) _).alloc aq _).alloc ao _;refine Fm (F:=Abw) rfl h1 (gf:=264) (lb:=#[pz (w1.heap.size+1+1)]) rfl trivial (enters_of func264 aA rfl) (Ah 5 ae (w1.heap.size+1+1) w1.heap.size _ l _ aq bN.cell ((aG.up hv up1).up ay) (λa m c h=>eh (hb a m c h) up1.size)) c'.trans jB (e7 _ _) (λ_=>rfl) (λpre W=>(∃v,Boxed W (w1.heap.size+1) 41 v/\W.ownsRow w1.heap.size 3 1 v (κ pre) (pre.map bA)/\True)/\Below w1.heap.size w1 W) (λ_ _ _=>False) (nL (Own.from (holdsRow_own w1.heap.size (w1.heap.size+1) 41 3 1 (λpre:List Int=>κ pre) (λpre=>pre.map bA) (λ_ _=>True)) _) (oL (aE _) ao)) (λ_ _ _ _ _ hs _ _=>hs) ⟨⟨_,bO.alloc _,(sM (sM ag (yR _ _ none) (.inr sU)) (yR _ _ none) (.inr sU)),trivial⟩,ay⟩ (λx=>{tmps:=#[.slice a (κ l) cap,Aat,nl,pz (w1.heap.size+1),i6 x,.slice a (κ l) cap,i6 T,cC w1.heap.size 0 T,.slice a (κ l) cap,.func (.func 264) #[] #[pz (w1.heap.size+1+1)],i6 x,Aat,Aat,Aat,Aat,Aat],defers:=[]}) ?assign ?body ?done ?stop
 case assign=>exact lE
 case body=>
  rintro l' pre x W⟨⟨v,hv,aj,_⟩,hB⟩hlt;have hc:=hv.cell;have aH:κ pre<=4100:=cr
  have aB:=hB.size;gi_wp2_with(gi_at_builtin;refine wpListIn_append_own _ rfl _ _ 41 rfl w1.heap.size 3 i0 (i6 0) 1 8 underlying41 hi hz0 hz1 ar rfl av _ _ _ rfl (aj.alloc _) ⟨W.heap.size,0,none⟩ 1 1 [i6 x] rfl rfl (cell_one_new _ _ _) FD dy ae ao ?_;intro v' w2 ad ab _;obtain⟨g',al,rfl⟩:=ownsRow_succ ad;have ak:=yf (p:=oe w1.heap.size) (v':=cC g' (κ pre+1) al) hv aj (λb hb=>⟨λh=>h.elim (λh=>ae) av,λh=>h.elim (λh=>ae) av⟩) ae ab;obtain⟨aK,ax,aU,aa,hb2⟩:=hv.appended av aj aB ae ad ab;have aL:=aK.cell;have aw:=aK.frozen);exact⟨aa.from _,ak,⟨_,ax,by simpa[bA]using aU,trivial⟩,hB.trans hb2⟩
 case done=>rintro D ys W hD rfl⟨⟨v,hv,aj,_⟩,hB⟩hK;have hc:=hv.cell;gi_wp2;refine zt ?_;refine⟨_,sR rfl _ _ _,v,rfl,Own.mono (ownsRow_putObj aj _ hK rfl) up1.size,up1.aF (hB.trans (oM (w:=w1) (aE _) W D _ _ qn hK rfl rfl)) up1.size⟩
 case stop=>simp
end
def a7(w:af)(b n:Nat)(t:Aab)(f:Nat->ah):Prop:=∃C,aI w b t C/\C.size=n/\∀i,i<n->C[i]?=some (f i)
section
variable {w w':af} {b n:Nat} {t:Aab} {f:Nat->ah}
theorem a7.cell(h:a7 w b n t f){i:Nat}(hi:i<n):w.cell? ⟨b,i,none⟩=some (f i):=by obtain⟨C,h1,_,h3⟩:=h;rw[h1.cell,h3 i hi]
theorem a7.free(h:a7 w b n t f)(i:Nat):w.frozen? ⟨b,i,none⟩=false:=by obtain⟨C,h1,_,_⟩:=h;exact h1.free i
theorem a7.lt(h:a7 w b n t f):b<w.heap.size:=by obtain⟨C,h1,_,_⟩:=h;exact h1.lt
theorem a7.up(h:a7 w b n t f)(hu:Up w w'):a7 w' b n t f:=by obtain⟨C,h1,h2⟩:=h;exact⟨C,h1.up hu,h2⟩
theorem a7.grown(h:a7 w b n t f){row:Option Nat}(hg:w.grownBy w' row)(hne:row≠some b):a7 w' b n t f:=by obtain⟨C,h1,h2⟩:=h;exact⟨C,h1.grown hg hne,h2⟩
theorem a7.set(h:a7 w b n t f){i:Nat}(hi:i<n)(v:ah):a7 (w.setCell ⟨b,i,none⟩ v) b n t (λk=>if k=i then v else f k):=by obtain⟨C,h1,h2,h3⟩:=h;refine⟨_,h1.setCell i v,ao,λk hk=>?_⟩;grind
theorem a7.congr(h:a7 w b n t f){g:Nat->ah}(hg:∀i,i<n->f i=g i):a7 w b n t g:=by obtain⟨C,h1,h2,h3⟩:=h;exact⟨C,h1,h2,λi hi=>aa⟩
theorem a7.new(w:af)(t:Aab)(n:Nat)(v:ah):a7 (w.alloc (.cells (Aad n v).toArray t)) w.heap.size n t (λ_=>v):=⟨_,aI.new w t _,aq,λi hi=>aa⟩
end
def pK(w:af)(b:Nat)(f:Nat->Bool):Prop:=a7 w b 4096 212 (λi=>.bool (f i))
def noBits:Array ah:=(Aad 4096 (Value.bool false)).toArray
theorem xe:∀W:af,(Ab9 212).run Aag W=.ok (.agg noBits) W:=(lb (P:=Aag) (t:=212) (v:=.agg noBits) (n:=4096) al).1
section
variable {α:Type} {f:α->List ah} {k:Nat}
theorem xu(hw:gi f k):∀(l:List α)(i:Nat)(hi:i<κ l)(j:Nat)(u:ah)(x:α),j<k->f x=(f l[i]).set j u->(l.set i x).flatMap f=(l.flatMap f).set (i*k+j) u
 | y::l,0,_,j,u,x,hj,hx=>by simp only[List.set_cons_zero,Abd,Nat.zero_mul,Abn];rw[List.set_append_left _ _ (by rw[hw.len];exact hj),hx];rfl
 | y::l,i+1,hi,j,u,x,hj,hx=>by simp only[List.set_cons_succ,Abd];rw[yU _ _ (by rw[hw.len,wo];omega),hw.len,show(i+1)*k+j-k=i*k+j from by rw[wo];omega];rw[xu hw l i A8 j u x hj hx]
theorem ak.setCell(hw:gi f k){e:Aab}{w:af}{base g n cap:Nat}{xs:List α}(h:ak f k e w base (.slice (some ⟨g,0,none⟩) n cap) xs)(i j:Nat)(hi:i<κ xs)(hj:j<k)(x:α)(u:ah)(hx:f x=(f xs[i]).set j u):ak f k e (w.setCell ⟨g,i*k+j,none⟩ u) base (.slice (some ⟨g,0,none⟩) n cap) (xs.set i x):=by
 obtain⟨h1,h2⟩:=h;refine⟨?_,?_⟩
 ·rw[hw.flat]
 ·rcases h2 with⟨h3,_⟩|⟨g',al,cur,h3,h4,h5,h6,h7,h8,h9⟩
  ·simp at h3
  ·simp at h3;obtain⟨rfl,rfl,rfl⟩:=h3;refine .inr ⟨g,cap,cur.setIfInBounds (i*k+j) u,aq,h4,aI.setCell (show aI w g e cur from h5) _ _,ao,h7,ao,?_⟩;rw[Aax,Abo,xu hw xs i hi j u x hj hx,<-h9,List.take_set]
theorem ak.shape{e:Aab}{w:af}{base:Nat}{v:ah}{xs:List α}(h:ak f k e w base v xs)(h0:0<κ xs):∃g cap,v=.slice (some ⟨g,0,none⟩) (κ xs) cap/\base<=g/\g<w.heap.size/\(κ xs)<=cap/\∀i,w.frozen? ⟨g,i,none⟩=false:=by
 obtain⟨h1,h2⟩:=h;rcases h2 with⟨_,h3⟩|⟨g,cap,cur,h3,h4,h5,h6,_⟩
 ·omega
 ·have hb:aI w g e cur:=h5;exact⟨g,cap,h3,h4,hb.lt,h6,λi=>hb.free i⟩
end
def r2(l:List bJ)(n:Nat):List bJ:=match l.getLast? with
 | some s=>if s.st+s.len=(n:Int)then l.set (κ l-1) ⟨s.st,s.len+1⟩ else l++[⟨n,1⟩]
 | none=>l++[⟨n,1⟩]
def aB(f:Nat->Bool):Nat->List bJ
 | 0=>[]
 | n+1=>if f n=true then r2 (aB f n) n else aB f n
theorem Sy{l:List bJ}(h:∀s∈l,0<=s.st/\1<=s.len/\s.st+s.len<=(n:Int)):∀s∈r2 l n,0<=s.st/\1<=s.len/\s.st+s.len<=((n+1:Nat):Int):=by grind [r2,bJ]
theorem nA(f:Nat->Bool):∀n,∀s∈aB f n,0<=s.st/\1<=s.len/\s.st+s.len<=(n:Int)
 | 0,s,hs=>by simp[aB]at hs
 | n+1,s,hs=>by
  unfold aB at hs;split at hs
  ·exact Sy (nA f n) s hs
  ·have:=nA f n s hs;omega
theorem Hv(l:List bJ)(n:Nat):κ (r2 l n)<=κ l+1:=by grind [r2]
theorem gP(f:Nat->Bool):∀n,κ (aB f n)<=n
 | 0=>by simp[aB]
 | n+1=>by
  unfold aB;have:=gP f n;split
  ·have:=Hv (aB f n) n;omega
  ·omega
theorem C1{l:List bJ}(h:m<κ l)(hm:κ l=m+1){p:bJ}(hp:l[m]=p):l.getLast?=some p:=aP
theorem W5{l:List bJ}(h:m<κ l)(hm:κ l=m+1){p:bJ}(hp:l[m]=p)(he:p.st+p.len=(n:Int)):r2 l n=l.set m ⟨p.st,p.len+1⟩:=by grind [r2,C1]
theorem W6{l:List bJ}(h:m<κ l)(hm:κ l=m+1){p:bJ}(hp:l[m]=p)(he:p.st+p.len≠(n:Int)):r2 l n=l++[⟨n,1⟩]:=by grind [r2,C1]
theorem wh:(prog.info? 139).map (λi=>(i.zero,i.size,i.bytes))=some (some (.agg #[.int .i64 0,.int .i64 0]),2,16):=al
theorem Wc(w:af)(b:Nat)(hb:b=w.heap.size)(z n:Int):dV (w.alloc (.cells #[.int .i64 z,.int .i64 n] 139)) (.slice (some ⟨b,0,none⟩) 1 1) [⟨z,n⟩]:=aG.er w b hb _ _ _ _ 1 rfl av rfl
theorem D4(w:af)(b:Nat)(f:Nat->Bool)(hb:pK w b f):Aaf Aag 123 #[pz b] w λe w'=> ∃v,e=.returned v/\hV w' w.heap.size v (aB f 4096)/\Up w w':=by
 go_in;go_wp2_with fail;go_loopw [3,8] (λv i wr=>∃k:Nat,k<=4096/\i=i6 k/\hV wr w.heap.size v (aB f k)/\Up w wr) (λ_ i _=>4096-(Aaq i).toNat)
 case atStart=>exact⟨0,bG _,rfl,ak.nil _ _ _ _ _,Up.refl _⟩
 case round=>
  obtain⟨k,hk,rfl,aj,upr⟩:=hrel;have au:=an aj;clear aj;by_cases hlt:k<4096
  ·have x0:=di ((hb.up upr).cell hlt);have b2:((k:Int)<4096)=True:=by simp;omega
   cases hf:f k
   ·have hs:=an (show aB f (k+1)=aB f k by simp[aB,hf]);rw[hf]at x0;clear hf;go_wp2_with fail;refine gG ?_;repeat(go_big_quiet_step (fail))
    refine zd ?_;intro w4 d os hw4 up4;clear hw4 x0;go_wp2_with fail;go_roundw
    case rel=>exact⟨k+1,ae,aq,by rw[hs.out];exact au.up up4,upr.trans up4⟩
    case measure=>simp[Aaq];omega
   ·obtain⟨hs,ag⟩:=aw (show aB f (k+1)=r2 (aB f k) k by simp[aB,hf]) (nA f k);have hl:=gP f k;rw[hf]at x0;clear hf;generalize aB f k=ls at *;obtain⟨a,cap,rfl⟩:=(au.row Ca).slice;by_cases h0:κ ls=0
    ·obtain rfl:ls=[]:=qe.1 h0;simp only[Aa5]at au hl h0 ⊢;go_wp2_with fail;refine gG ?_;repeat(go_big_quiet_step (fail))
     refine zd ?_;intro w4 d os hw4 up4;clear hw4 x0;go_wp2_with fail;refine gG ?_;repeat(go_big_quiet_step (fail))
     refine F6 ?_;intro w5 d os aQ ab;clear aQ;have ad:=up4.trans ab;obtain⟨ah,aC⟩:=az (au.up ad) ((upr.trans ad).size);have n1:(κ ([]:List bJ) + [(⟨(k:Int),1⟩:bJ)].length)*16<=140737488355328:=aq
     have n2:κ ([]:List bJ) + [(⟨(k:Int),1⟩:bJ)].length<=9223372036854775807:=aq
     have n3:w.heap.size<=(w5.alloc (.cells #[i6 (k:Int),i6 1] 139)).heap.size:=ao
     go_wp2_with(at_builtin;refine bI Ca rfl (.tmp 44) (.tmp 47) 63 rfl w.heap.size 139 (.agg #[i6 0,i6 0]) 16 underlying63 wh rfl _ [] rfl (ah.up (ai _ _)) (cC w5.heap.size 1 1) [⟨(k:Int),1⟩] rfl (Wc _ _ rfl k 1) n1 n2 n3 ?_);intro v6 w6 aa ay aK;go_wp2_with fail;go_roundw
     case rel=>exact⟨k+1,ae,aq,by rw[hs.out];exact aa,(upr.trans (ad.trans (ai _ _))).aF aK (aE _)⟩
     case measure=>simp[Aaq];omega
    ·obtain⟨g,ax,aO,bl,aH,hg4,aS⟩:=au.shape ae;simp only[Abh,true_and]at aO;obtain⟨rfl,rfl⟩:=aO;obtain⟨m,hm⟩:∃m,κ ls=m+1:=⟨κ ls-1,ae⟩;have al:m<κ ls:=by omega
     obtain⟨p,hp⟩:∃p:bJ,ls[m]=p:=⟨_,rfl⟩;have aV:=ag p aP;have HP:=an hp;obtain⟨z,n⟩:=p;simp only at aV;obtain⟨hz,hn,hzn⟩:=aV;obtain⟨z,rfl⟩:=ja hz;obtain⟨n,rfl⟩:=ja (show 0<=n from ae);obtain⟨b9,aJ,aM,_,_,aA⟩:=qL (au.row Ca) ae;simp only[Aai,Abm,and_true]at aM;obtain⟨rfl,rfl⟩:=aM;obtain⟨c0,c1⟩:=az ((aA m al).1) ((aA m al).2);rw[hp]at c0 c1;simp only[Abn]at c0 c1;have aI:z+n<=k:=ae
     clear aA hp hz hn hzn;have t0:decide ((0:Int)<=(m:Int))=true:=aq
     have t1:IntKind.i64.wrap ((κ ls:Int)-1)=(m:Int):=by rw[show(κ ls:Int)-1=(m:Int)from ae];exact bc m ae
     have t2:((m:Int)<(κ ls:Int))=True:=ao
     have t3:IntKind.i64.wrap ((z:Int)+(n:Int))=((z+n:Nat):Int):=by rw[show(z:Int)+(n:Int)=((z+n:Nat):Int)from ae];exact bc _ ae
     have t4:IntKind.i64.wrap ((n:Int)+1)=((n+1:Nat):Int):=by rw[show(n:Int)+1=((n+1:Nat):Int)from ae];exact bc _ ae
     by_cases he:z+n=k
     ·have t5:((z:Int)+(n:Int)==(k:Int))=true:=by simp;omega
      have HA:=an (W5 (l:=ls) (n:=k) al hm HP (show(z:Int)+(n:Int)=(k:Int)from ae));clear he hm;go_wp2_with fail;refine gG ?_;repeat(go_big_quiet_step (fail))
      refine UZ ?_;clear x0;intro w4 d os up4 y0 y1;go_wp2_with fail;refine gG ?_;repeat(go_big_quiet_step (fail))
      refine F6 ?_;intro w5 d os aQ ab;clear aQ y0 y1;have ad:=up4.trans ab;obtain⟨ah,aC,d0,d1⟩:=iQ (au.up ad) ((upr.trans ad).size) (ad.cell c0) (ad.cell c1);obtain⟨g6,aD,aG,_,_,_,ar⟩:=ah.shape ae;simp only[Abh,Aai,Abm,true_and,and_true]at aG;obtain⟨rfl,rfl⟩:=aG;have f1:=ar (m*2+1);clear ar;go_wp2_with fail;go_roundw
      case rel=>exact⟨k+1,ae,aq,by rw[hs.out,HA.out];exact ah.setCell Ca m 1 al ae ⟨z,(n:Int)+1⟩ _ y8,(upr.trans ad).setCell bl _⟩
      case measure=>simp[Aaq];omega
     ·have t5:((z:Int)+(n:Int)==(k:Int))=false:=by simp;omega
      have HA:=an (W6 (l:=ls) (n:=k) al hm HP (show(z:Int)+(n:Int)≠(k:Int)from ae));clear he hm;go_wp2_with fail;refine gG ?_;repeat(go_big_quiet_step (fail))
      refine UZ ?_;clear x0;intro w4 d os up4 y0 y1;go_wp2_with fail;refine gG ?_;repeat(go_big_quiet_step (fail))
      refine F6 ?_;intro w5 d os aQ ab;clear aQ y0 y1;have ad:=up4.trans ab;obtain⟨ah,aC⟩:=az (au.up ad) ((upr.trans ad).size);have n1:(κ ls + [(⟨(k:Int),1⟩:bJ)].length)*16<=140737488355328:=ao
      have n2:κ ls + [(⟨(k:Int),1⟩:bJ)].length<=9223372036854775807:=ae
      have n3:w.heap.size<=(w5.alloc (.cells #[i6 (k:Int),i6 1] 139)).heap.size:=ao
      go_wp2_with(at_builtin;refine bI Ca rfl (.tmp 44) (.tmp 47) 63 rfl w.heap.size 139 (.agg #[i6 0,i6 0]) 16 underlying63 wh rfl _ ls rfl (ah.up (ai _ _)) (cC w5.heap.size 1 1) [⟨(k:Int),1⟩] rfl (Wc _ _ rfl k 1) n1 n2 n3 ?_);intro v6 w6 aa ay aK;go_wp2_with fail;go_roundw
      case rel=>exact⟨k+1,ae,aq,by rw[hs.out,HA.out];exact aa,(upr.trans (ad.trans (ai _ _))).aF aK (aE _)⟩
      case measure=>simp[Aaq];omega
  ·obtain rfl:k=4096:=by omega
   go_wp2_with fail;go_ret;exact⟨_,rfl,au,upr⟩
def r7(l:List Int)(i:Nat):Bool:=decide ((i:Int)∈l)
def jT(l:List Int):List bJ:=aB (r7 l) 4096
theorem YJ(l:List Int)(k:Nat)(h:k<κ l)(i:Nat):r7 (l.take (k+1)) i=(r7 (l.take k) i || decide ((i:Int)=l[k])):=by
 unfold r7;have e:(i:Int)∈l.take (k+1)↔(i:Int)∈l.take k\/(i:Int)=l[k]:=by rw[eo h,Aa3,jF]
 simp_all
theorem tz(w:af)(v:ah)(l:List Int)(hv:aC bA w v l):Aaf Aag 62 #[v] w λe w'=> ∃u,e=.returned u/\hV w' w.heap.size u (jT l)/\Up w w':=by
 have hlen:=hv.length_le;obtain⟨a,cap,rfl⟩:=hv.slice;go_in;go_wp2_with refine bH 212 xe ?_;go_loopw [8] (λi wr=>∃k:Nat,k<=κ l/\i=i6 k/\pK wr w.heap.size (r7 (l.take k))/\Up w wr) (λi _=>κ l-(Aaq i).toNat)
 case atStart=>exact⟨0,bG _,rfl,a7.congr (a7.new w _ 4096 (.bool false)) (λi _=>aA),ai _ _⟩
 case round=>
  obtain⟨k,hk,rfl,aa,upr⟩:=hrel;have HB:=an aa;by_cases hlt:k<κ l
  ·obtain⟨b,off,rfl,hbs,hc⟩:=cf (aC.up hv upr) rfl ae;have x0:=hc k hlt;refine ir ?_;intro b2;have hT:=an (YJ l k hlt);generalize l[k]=x at *;unfold bA at x0;clear hc;by_cases h1:0<=x
   ·by_cases h2:x<4096
    ·obtain⟨n,rfl⟩:=ja h1;have hn:n<4096:=by omega
     obtain⟨c0,f0⟩:=az (HB.cell hn) (HB.free n);have b3:((n:Int)<4096)=True:=ao
     go_wp2_with fail;go_roundw
     case rel=>exact⟨k+1,ae,aq,a7.congr (HB.set hn (.bool true)) (λi hi=>by rw[hT.out i];by_cases e:i=n<;>simp[e];intro h;omega),upr.setCell (aE _) _⟩
     case measure=>simp[Aaq];omega
    ·refine Oz ?_;intro hS;go_wp2_with fail;go_roundw
     case rel=>exact⟨k+1,ae,aq,hS,upr⟩
     case measure=>simp[Aaq];omega
   ·refine Oz ?_;intro hS;go_wp2_with fail;go_roundw
    case rel=>exact⟨k+1,ae,aq,hS,upr⟩
    case measure=>simp[Aaq];omega
  ·obtain rfl:k=κ l:=by omega
   have aM:=HB.out;rw[fj]at aM;have S:=an (D4 wr w.heap.size _ aM);go_wp2_with fail;refine S.mono ?_;rintro e w1⟨u,rfl,own,up1⟩;go_wp2_with fail;go_ret;exact⟨_,rfl,own.mono upr.size,upr.trans up1⟩
section
open Go.Shelf
attribute [local go_sem] km
abbrev Num:={x:Int // 0<=x/\x<4096}
theorem vh:∀{l:List bJ}{z:Int},cj z l=true->∀x∈cU l,0<=x/\x<4096
 | [],_,_,x,hx=>by simp[cU]at hx
 | s::l,z,h,x,hx=>by
  simp only[cj,Aa8]at h;have h1:=(dZ s.st s.len).1 h.1.1;rw[cU,Abd]at hx;rcases Aa3.1 hx with hx|hx
  ·obtain⟨k,hk,rfl⟩:=Abb.1 hx;have:=yV.1 hk;omega
  ·exact vh h.2 x hx
theorem xB(l:List bJ)(x:Int)(hx:x∈cI l):0<=x/\x<4096:=by
 unfold cI at hx;split at hx
 ·exact vh cq x hx
 ·cases hx
theorem xr(n:Nat)(hn:1<=n)(Bs n₀:Nat)(v:ah)(l:List bJ)(w:af)(aB:Bs<w.heap.size)(hc:w.cell? (ad Bs 0)=some v)(hv:dV w v l)(ay:∀a m c,v=.slice (some a) m c->a.block<n₀):SeqStopsK Abw n Aag 264 #[pz Bs] (λx:Num=>#[i6 x.1]) (c' (oe n₀)) (λys=>ys.map (·.1)=cI l) (λpre=>pre.map (·.1) <+:cI l) (κ (cI l)) w:=λl' J Jx W hW hJ _ hY h0=>by
 refine(HU n hn l' Bs n₀ v l (λpre W=>∃ps:List Num,ps.map (·.1)=pre/\J ps W) (λpre W=>∃ps:List Num,ps.map (·.1)=pre/\Jx ps W) W (λs A B row hs hg hr=>FU) ?_ ((hW.cell (p:=⟨Bs,0,none⟩) aB).trans hc) (aG.up hv hW) ⟨[],rfl,h0⟩ ay).mono ?_
 ·rintro pre x W1⟨ps,rfl,h⟩hp;refine(hY ps ⟨x,(xB l x (hp.subset aq))⟩ W1 h aP).mono ?_;exact NR
 ·exact zm
theorem AQ{W:af}{f:Nat->ah}(h:a7 W b n t f)(hp:¬p b t)(i:Nat)(v:ah):c' p W (W.setCell ⟨b,i,none⟩ v):=λk cs t' fr hb ae=>by
 have hne:k≠b:=λe=>by subst e;obtain⟨C,h1,_⟩:=h;rw[show W.heap[k]?=_ from h1]at hb;cases hb;exact hp ae
 show(W.heap.modify b _)[k]?=_;rw[E3,aO (λe=>hne e.symm),hb]
theorem xk(b n:Nat)(t:Aab)(f:β->Nat->ah):Go.Own (λ(s:β) W=>a7 W b n t (f s)):=λs A B row hs hg hr=>by refine hs.grown hg (λe=>?_);obtain⟨o,ho,hc⟩:=hr b e;obtain⟨C,h1,_⟩:=hs;rw[show A.heap[b]?=_ from h1]at ho;cases ho;cases hc
theorem AA(pre:List Int)(x:Int)(i:Nat):r7 (pre++[x]) i=(r7 pre i || decide ((i:Int)=x)):=by simp[r7]
theorem G7(w:af)(v:ah)(l:List bJ)(hv:dV w v l)(hb:∀a m c,v=.slice (some a) m c->a.block<w.heap.size):Aaf Aag 295 #[v] w λe w'=>e=.returned (pz w.heap.size)/\pK w' w.heap.size (r7 (cI l))/\Up w w':=by
 obtain⟨a,cap,rfl⟩:=hv.slice;refine rq ?_;intro h1;have ZB:=xe;refine oK func295 rfl trivial ?_ rfl;simp only[ntmps295,Abj,Aaj,Aa5,Nat.reduceAdd,Nat.reduceSub,Aa9,Aba,Abk,Abc,Aa0,Aa2];gi_wp2_with(refine⟨trivial,?_⟩;gi_at_call 228;refine(fG.2 (ua _ _ _ _)).mono ?_;rintro e w' ⟨rfl,rfl⟩);have c2:=dj (w.alloc (.cells noBits 212)) (.slice a (κ l) cap) 63;simp only[Aa4]at c2;have ab:pK ((w.alloc (.cells noBits 212)).alloc (.cells #[.slice a (κ l) cap] 63)) w.heap.size (r7 []):=a7.congr ((a7.new w _ 4096 (.bool false)).up (ai _ _)) (λi _=>aA);have ay:Below w.heap.size w ((w.alloc (.cells noBits 212)).alloc (.cells #[.slice a (κ l) cap] 63)):=((e7 _ w).alloc (aE _) _).alloc aq _;refine wB (F:=Abw) rfl h1 (gf:=264) (lb:=#[pz (w.heap.size+1)]) rfl trivial (enters_of func264 aA rfl) (xr 5 ae (w.heap.size+1) w.heap.size _ l _ aq c2.1 (aG.up hv ay) hb) c'.trans jB (e7 _ _) (λ_=>rfl) (λpre W=>pK W w.heap.size (r7 (pre.map (·.1)))/\Below w.heap.size w W) (λ_ _ _=>False) (nL (Own.from (xk w.heap.size 4096 212 (λ(pre:List Num) i=>.bool (r7 (pre.map (·.1)) i))) _) (oL (aE _) ao)) (λ_ _ _ _ _ hs _ _=>hs) ⟨ab,ay⟩ (λx=>{tmps:=#[.slice a (κ l) cap,Aat,.pointer none,pz w.heap.size,i6 x.1,.slice a (κ l) cap,.func (.func 264) #[] #[pz (w.heap.size+1)],i6 x.1,Aat,Aat],defers:=[]}) ?assign ?body ?done ?stop
 case assign=>exact lE
 case body=>
  rintro l' pre⟨x,aa,ad⟩W⟨hI,hB⟩_;obtain⟨n,rfl⟩:=ja aa;have hn:n<4096:=ae
  obtain⟨c0,f0⟩:=az (hI.cell hn) (hI.free n);gi_wp2;exact⟨qk _ _ _,AQ hI (λh=>h.elim (λh=>ae) av) _ _,a7.congr (hI.set hn (.bool true)) (λi hi=>by rw[Aao,yW,AA];by_cases e:i=n<;>simp[e];intro h;omega),hB.setCell (p:=⟨w.heap.size,n,none⟩) (aE _) _⟩
 case done=>rintro D ys W hD aF⟨hI,hB⟩hK;gi_wp2;refine zt ?_;refine⟨_,sR rfl _ _ _,rfl,?_,hB.trans (oM (w:=w) (aE _) W D _ _ qn hK rfl rfl)⟩;rw[<-aF];exact a7.grown hI (yT W D _) (λe=>by simp at e hD;omega)
 case stop=>simp
end
section
variable {P:bu} {ops:Array Abi} {Q:Exit->Act->af->Prop} {l n:Nat} {md:Ab1}
def Yo{row:String}{args:Array ah}{w:af}{R:ah->af->Prop}(h:Rows P row args w R):RowsIn (Fence.wide.inRound l) n P row args w R:=λc cs _=>let⟨v,w',r,s⟩:=h c cs;⟨v,w',r,stepsIn_wide.2 s⟩
theorem OO{o:Abi}{a:Act}{w:af}{K:Act->af->Prop}(hd:∀c,o.op≠.defer c)(h:o.wp P a w K Q):o.wpIn (Fence.wide.inRound l) n P a w K Q:=by
 unfold Ace at h;unfold Oper.wpIn;refine⟨λ_ _=>trivial,?_⟩;rw[show(Fence.wide.inRound l).round=some l from rfl,km l a.eval o hd];generalize hx:(Abt a.eval o).run P w=r at *;cases r with
 | ok x w'=>
  cases x with
  | enter f args=>exact⟨λh=>gn,CallsIn.inRound l (fG.2 h)⟩
  | row row args=>exact⟨λh=>gn,Yo h⟩
  | round l f tmps assign body=>exact h.elim
  | _=>exact h
 | halt x w'=>cases x<;>exact h
def rD(ops:Array Abi):Bool:=ops.toList.all λo=>match o.op with | .defer _=>false|_=>true
theorem Li{ops:Array Abi}(h:rD ops=true){i:Nat}{o:Abi}(hi:ops[i]?=some o):∀c,o.op≠.defer c:=λc e=>by
 have hm:o∈ops.toList:=by have:=Array.mem_of_getElem? hi;exact Array.mem_toList_iff.2 this
 have:=List.all_eq_true.1 h o hm;rw[e]at this;cases this
theorem zI(hd:rD ops=true)(ay:¬LetsOut Q):∀(fuel:Nat)(aZ:Array Bool)(a:Act)(w:af),wpAny P md ops Q fuel aZ a w->Acx (Fence.wide.inRound l) n P md ops Q fuel aZ a w
 | 0,_,_,_,h=>h
 | fuel+1,aZ,a,w,h=>⟨h.1,λi hi=>by
  have:=h.2 i hi;unfold wpOp at this;unfold wpOpIn;cases ho:ops[i]? with
  | none=>rw[ho]at this;exact zI hd ay fuel _ _ _ this
  | some o=>
   rw[ho]at this;simp only at this ⊢;split
   ·rename_i hw;rw[bp hw]at this;rcases this with h1|⟨_,h1⟩
    ·exact OO (Li hd ho) (Oper.wp_mono (λa w=>zI hd ay fuel _ a w) h1)
    ·exact absurd h1 ay
   ·rename_i hw;rw[aO hw]at this;exact⟨λ_ _=>trivial,zI hd ay fuel _ _ _ this⟩⟩
theorem EV(ay:¬LetsOut Q):∀(os:List Abi)(a:Act)(w:af),(∀o∈os,∀c,o.op≠.defer c)->Aam P ops Q os a w->wpListIn (Fence.wide.inRound l) n P ops Q os a w
 | [],_,_,_,h=>h
 | o::os,a,w,hd,h=>by
  unfold Aam at h;unfold wpListIn;split
  ·rename_i hw;rw[bp hw]at h;rcases h with h1|⟨_,h1⟩
   ·exact OO (hd o aq) (Oper.wp_mono (λa w=>EV ay os a w (λo ho=>hd o (by simp[ho]))) h1)
   ·exact absurd h1 ay
  ·rename_i hw;rw[aO hw]at h;exact⟨λ_ _=>trivial,EV ay os _ _ (λo ho=>hd o (by simp[ho])) h⟩
theorem IF{os:List Abi}(h:rD os.toArray=true):∀o∈os,∀c,o.op≠.defer c:=λo hm c e=>by have:=List.all_eq_true.1 h o hm;rw[e]at this;cases this
def gR{S:af->Prop}{id:Nat}{a:Act}{w:af}(hm:P.follows .mixedOrders=true)(hd:rD ops=true)(ay:¬LetsOut Q)(h:wpAnyH P .any ops Q S ops.size (Array.replicate ops.size false) a {w with drawn:=w.drawn+1}):(Code.region id ops true).wpIn (Fence.wide.inRound l) n P Q a w:=yX hm (zI hd ay _ _ _ _ (wpAny_of_held _ _ _ _ h))
end
abbrev cQ:={s:List aj // (κ s)=128}
def e9:cQ:=⟨aM,rfl⟩
def qF(s:cQ):List ah:=s.val.map aH
theorem sw:gi qF 128:=⟨ae,λs=>by grind [qF],λs u hu=>by obtain⟨y,_,rfl⟩:=Abb.1 hu;rfl⟩
theorem kY(s:cQ):(aD s.val).toList=qF s:=aA
structure C0 where
 loc:Nat
 s:cQ
def qW(x:C0):List ah:=.int .i64 (x.loc:Int)::qF x.s
theorem ww:gi qW 129:=⟨ae,λx=>by unfold qW;rw[Aaj,sw.len],λx u hu=>by
 rcases Aak.1 hu with rfl|hu
 ·rfl
 ·exact sw.one x.s u hu⟩
structure bD where
 aR:List cQ
 cx:List cQ
 bL:List C0
 ops:Nat
 left:Int
 dead:Bool
structure iM where
 d:Nat
 g1:Nat
 g2:Nat
 vp:ah
def gz(l:List cQ):Array ah:=(l.flatMap qF).toArray
theorem tt(l:List cQ):(gz l).size=κ l*128:=by simp[gz,sw.flat]
theorem BU(l:List cQ):(gz l).toList=l.flatMap qF:=aA
def Aa(h:iM)(v:bD):Array ah:=#[.slice (some ⟨h.g1,0,none⟩) (κ v.aR) (κ v.aR),.slice (some ⟨h.g2,0,none⟩) (κ v.aR) (κ v.aR),h.vp,.int .i64 (v.ops:Int),.int .i64 v.left,.bool v.dead]
structure Dv(w:af)(h:iM)(v:bD):Prop where
 dev:aI w h.d 114 (Aa h v)
 b1:aI w h.g1 60 (gz v.aR)
 b2:aI w h.g2 60 (gz v.cx)
 len:κ v.cx=κ v.aR
 max:κ v.aR<=1024
 ne:h.g1≠h.g2
 bL:ak qW 129 116 w 0 h.vp v.bL
 AV:∀x∈v.bL,x.loc<κ v.aR
 ops:v.ops<=4611686018427387903
 left:-1<=v.left/\v.left<=9223372036854775807
def cK(h:iM)(b:Nat):Prop:=b=h.d\/b=h.g1\/b=h.g2\/h.vp.ownBlock=some b
structure Touch(F:Nat->Prop)(w w':af):Prop where
 os:w'.os=w.os
 tape:w'.tape=w.tape
 output:w'.output=w.output
 size:w.heap.size<=w'.heap.size
 block:∀k,k<w.heap.size->¬F k->w'.heap[k]?=w.heap[k]?
theorem Touch.refl(F:Nat->Prop)(w:af):Touch F w w:=⟨rfl,rfl,rfl,aE _,λ_ _ _=>rfl⟩
theorem Touch.trans{F F':Nat->Prop}{a b c:af}(h:Touch F a b)(k:Touch F' b c)(hf:∀n,F' n->n<a.heap.size->F n):Touch F a c:=⟨by rw[k.os,h.os],by rw[k.tape,h.tape],by rw[k.output,h.output],bO h.size k.size,λn hn hF=>by
  rw[k.block n (eh hn h.size) (λhh=>hF (hf n hh hn)),h.block n hn hF]⟩
theorem Touch.bV{F:Nat->Prop}{w w':af}(h:Up w w'):Touch F w w':=⟨h.os,h.tape,h.output,h.size,λk hk _=>oH h k hk⟩
theorem Touch.be{F:Nat->Prop}{w w':af}{row:Option Nat}(h:w.grownBy w' row)(hf:∀k,row=some k->F k):Touch F w w':=⟨h.os,h.tape,h.output,h.size,λk hk hF=>h.block k hk (λe=>hF (hf k e.symm))⟩
def Touch.mono{F F':Nat->Prop}{w w':af}(h:Touch F w w')(hf:∀n,F n->F' n):Touch F' w w':=⟨h.os,h.tape,h.output,h.size,λk hk hF=>h.block k hk (λhh=>hF (hf k hh))⟩
theorem Touch.up{F:Nat->Prop}{w0 w w':af}(h:Touch F w w')(hu:Up w0 w)(hf:∀n,F n->w0.heap.size<=n):Up w0 w':=⟨by rw[h.os,hu.os],by rw[h.tape,hu.tape],by rw[h.output,hu.output],bO hu.size h.size,λk hk=>by
  rw[h.block k (eh hk hu.size) (λhh=>aP)];exact oH hu k hk⟩
theorem aI.ax{w w':af}{C:Array ah}{F:Nat->Prop}(h:aI w g t C)(ht:Touch F w w')(hf:¬F g):aI w' g t C:=by unfold aI;rw[ht.block g h.lt hf];exact h
theorem fC{w w':af}{F:Nat->Prop}{b o:Nat}{v:ah}(h:w.cell? (ad b o)=some v)(ht:Touch F w w')(hf:¬F b):w'.cell? (ad b o)=some v:=by rw[nJ (ht.block b (h8 w _ h) hf)];exact h
section
variable {w w':af} {h:iM} {v:bD}
theorem Dv.oG(D:Dv w h v)(b:Nat)(hb:cK h b):b<w.heap.size:=by
 rcases hb with rfl|rfl|rfl|hb
 ·exact D.dev.lt
 ·exact D.b1.lt
 ·exact D.b2.lt
 ·exact(D.bL.aJ b hb).2
theorem Dv.yr(D:Dv w h v):h.d≠h.g1:=λe=>by have h1:=D.dev;rw[e]at h1;have:=h1.symm.trans D.b1;simp at this
theorem Dv.tW(D:Dv w h v):h.d≠h.g2:=λe=>by have h1:=D.dev;rw[e]at h1;have:=h1.symm.trans D.b2;simp at this
theorem jd{t e:Aab}{base g:Nat}{C:Array ah}{α:Type}{f:α->List ah}{k:Nat}{vp:ah}{xs:List α}(hne:t≠e)(hb:aI w g t C)(ho:ak f k e w base vp xs):vp.ownBlock≠some g:=λe0=>by exact Nc
def Dv.up(D:Dv w h v)(hu:Up w w'):Dv w' h v:=⟨D.dev.up hu,D.b1.up hu,D.b2.up hu,D.len,D.max,D.ne,D.bL.up hu,D.AV,D.ops,D.left⟩
theorem ak.ax{α:Type}{f:α->List ah}{k:Nat}{e:Aab}{base:Nat}{vp:ah}{xs:List α}(ho:ak f k e w base vp xs){F:Nat->Prop}(ht:Touch F w w')(hf:∀b,vp.ownBlock=some b->¬F b):ak f k e w' base vp xs:=by
 obtain⟨h1,h2⟩:=ho;refine⟨h1,?_⟩;rcases h2 with h2|⟨g,cap,cur,hv,hg,hh,r⟩
 ·simp_all
 ·have hlt:=(qf.1 hh).1;exact Ow
theorem Dv.ax(D:Dv w h v){F:Nat->Prop}(ht:Touch F w w')(hf:∀b,cK h b->¬F b):Dv w' h v:=⟨D.dev.ax ht (hf _ (.inl rfl)),D.b1.ax ht (hf _ (.inr (.inl rfl))),D.b2.ax ht (hf _ (.inr (.inr (.inl rfl)))),D.len,D.max,D.ne,D.bL.ax ht (λb hb=>hf b (.inr (.inr (.inr hb)))),D.AV,D.ops,D.left⟩
theorem Dv.cells(D:Dv w h v):w.cell? (ad h.d 0)=some (cC h.g1 (κ v.aR) (κ v.aR))/\w.cell? (ad h.d 1)=some (cC h.g2 (κ v.aR) (κ v.aR))/\w.cell? (ad h.d 2)=some h.vp/\w.cell? (ad h.d 3)=some (i6 (v.ops:Int))/\w.cell? (ad h.d 4)=some (i6 v.left)/\w.cell? (ad h.d 5)=some (.bool v.dead):=by refine⟨?_,?_,?_,?_,?_,?_⟩<;>(rw[D.dev.cell];rfl)
end
def iY(w:af)(h:iM)(v':bD)(w':af):Prop:=∃vp,Dv w' {h with vp:=vp} v'/\Touch (cK h) w w'/\∀b,vp.ownBlock=some b->h.vp.ownBlock=some b\/w.heap.size<=b
theorem iY.ZN{w w':af}{h:iM}{vp:ah}(hw:∀b,vp.ownBlock=some b->h.vp.ownBlock=some b\/w.heap.size<=b)(b:Nat)(hb:cK {h with vp:=vp} b):cK h b\/w.heap.size<=b:=by
 rcases hb with hb|hb|hb|hb
 ·exact .inl (.inl hb)
 ·exact .inl (.inr (.inl hb))
 ·exact .inl (.inr (.inr (.inl hb)))
 ·rcases hw b hb with h|h
  ·exact .inl (.inr (.inr (.inr h)))
  ·omega
theorem Aq:∀(l:List ah)(k off:Nat)(cs:Array ah),off+k+κ l<=cs.size->((l.zipIdx k).foldl (λ(cs:Array ah) p=>cs.setIfInBounds (off+p.2) p.1) cs).toList=cs.toList.take (off+k)++(l++cs.toList.drop (off+k+κ l))
 | [],k,off,cs,_=>aq
 | v::l,k,off,cs,hc=>by simp only[Aaj]at hc;rw[List.zipIdx_cons,yM];have ih:=Aq l (k+1) off (cs.setIfInBounds (off+k) v) ao;exact Vf
def JQ:C0:=⟨0,e9⟩
def j5(x:C0):Array ah:=(qW x).toArray
theorem oo(x:C0):(j5 x).size=129:=by unfold j5;rw[Abj];exact ww.len x
def zB(x:C0):(j5 x).all (·.oneCell')=true:=AZ (ww.one x)
theorem uj:(prog.info? 116).map (λi=>(i.zero,i.size,i.bytes))=some (some (.agg (j5 JQ)),129,136):=al
theorem Dl(V cs:Array ah)(off:Nat)(h:off+V.size<=cs.size):V.zipIdx.foldl (λ(cs:Array ah) (p:ah × Nat)=>cs.setIfInBounds (off+p.2) p.1) cs=(Abz cs.toList off V.toList).toArray:=by apply hn.1;rw[<-Array.foldl_toList,Array.toList_zipIdx,Aq V.toList 0 off cs ae];rfl
theorem SV(x:C0):prog.built 116 [(0,i6 (x.loc:Int)),(1,.agg (aD x.s.val))]=some (j5 x):=by
 obtain⟨i,hi,hz0,_,_⟩:=jC uj;unfold Program.built;rw[hi,underlying116];simp only[hz0];rw[show(List.mapM (λ(f:Field)=>(prog.info? f.type).map λi=>(f.offset,i.size)) _:Option (List (Nat × Nat)))=some [(0,1),(1,128)] from aA];have h1:(aD x.s.val).size=128:=by grind [bT]
 have h0:=oo JQ;simp only[Instr.fill,Value.cells];have hf:=Dl (aD x.s.val) ((j5 JQ).setIfInBounds 0 (i6 (x.loc:Int))) 1 ao;simp only[Array.size_zipIdx,h1]at hf;simp[h0,h1];rw[hf];apply hn.1;simp only[Acz,Abz,Abo];have hl:κ (j5 JQ).toList=129:=ae
 have h2:((j5 JQ).toList.set 0 (i6 (x.loc:Int))).take 1=[i6 (x.loc:Int)]:=by
  cases hc:(j5 JQ).toList with
  | nil=>simp_all
  | cons y r=>simp
 rw[h2,kY,sO (by rw[Aax,hl,sw.len];omega),Ab4];rfl
def fW(s:Nat->Nat)(i x:Nat):Nat->Nat:=λk=>if k=i then x else s k
def gV(s:Nat->Nat)(j:Nat):Nat:=κ ((Aal 64).filter (λk=>decide (s (64*j+k)=1)))
def Bb(s:Nat->Nat)(i:Nat):ah:=if i<1024 then .int .u8 (s i:Int)else .int .i64 (gV s (i-1024):Int)
def cb(w:af)(b:Nat)(s:Nat->Nat):Prop:=a7 w b 1040 165 (Bb s)
theorem I'(s:Nat->Nat)(j:Nat):gV s j<=64:=by grind [gV]
theorem Al(p q:Nat->Bool)(i:Nat)(h:∀k,k≠i->p k=q k):(κ ((Aal n).filter p)+(if i<n/\q i=true then 1 else 0))=κ ((Aal n).filter q)+(if i<n/\p i=true then 1 else 0):=by
 induction n with
 | zero=>simp
 | succ n ih=>rw[Ab0,kh,kh,Aae,Aae];grind
theorem wS(s:Nat->Nat)(i x j:Nat):gV (fW s i x) j+(if j=i/64/\s i=1 then 1 else 0)=gV s j+(if j=i/64/\x=1 then 1 else 0):=by
 unfold gV;by_cases e:j=i/64
 ·have:=Al (n:=64) (λk=>decide (fW s i x (64*j+k)=1)) (λk=>decide (s (64*j+k)=1)) (i%64) (λk hk=>by
   have:64*j+k≠i:=ae
   simp[fW,this])
  grind [fW]
 ·have h1:((Aal 64).filter λk=>decide (fW s i x (64*j+k)=1))=(Aal 64).filter λk=>decide (s (64*j+k)=1):=List.filter_congr (λk hk=>by
   have:=yV.1 hk;have:64*j+k≠i:=ae
   simp[fW,this])
  simp_all
theorem Rj(s:Nat->Nat)(i:Nat)(h:s i=1):1<=gV s (i/64):=by have:=wS s i 0 (i/64);grind
section
variable {w w':af} {b:Nat} {s:Nat->Nat}
theorem cb.state(h:cb w b s){i:Nat}(hi:i<1024):w.cell? ⟨b,i,none⟩=some (.int .u8 (s i:Int)):=by have:=a7.cell h (i:=i) ae;grind [Bb]
theorem cb.room(h:cb w b s){j:Nat}(hj:j<16):w.cell? ⟨b,1024+j,none⟩=some (.int .i64 (gV s j:Int)):=by have:=a7.cell h (i:=1024+j) ae;grind [Bb]
def cb.up(h:cb w b s)(hu:Up w w'):cb w' b s:=a7.up h hu
end
theorem tC{w:af}{f:Nat->ah}(h:a7 w b n t f)(i:Nat)(v:ah):Touch (·=b) w (w.setCell ⟨b,i,none⟩ v):=by obtain⟨C,h1,_⟩:=h;grind [Touch.be,bX]
theorem a7.ax{w w':af}{f:Nat->ah}(h:a7 w b n t f){F:Nat->Prop}(ht:Touch F w w')(hf:¬F b):a7 w' b n t f:=by obtain⟨C,h1,h2⟩:=h;exact⟨C,h1.ax ht hf,h2⟩
theorem cb.of{W:af}{s g:_}{i to:Nat}(h:a7 W b 1040 165 g)(hi:i<1024)(h1:∀k,k<1024->k≠i->g k=.int .u8 (s k:Nat))(h2:g i=.int .u8 (to:Int))(h3:∀j,j<16->j≠i/64->g (1024+j)=.int .i64 (gV s j:Int))(h4:g (1024+i/64)=.int .i64 (gV (fW s i to) (i/64):Int)):cb W b (fW s i to):=a7.congr h (λk hk=>by
 unfold Bb;by_cases e:k<1024
 ·rw[bp e];by_cases e2:k=i
  ·subst e2;rw[h2];simp[fW]
  ·rw[h1 k e e2];simp[fW,e2]
 ·rw[aO e];obtain⟨j,rfl⟩:∃j,k=1024+j:=⟨k-1024,ae⟩;rw[Fo];by_cases e2:j=i/64
  ·subst e2;exact h4
  ·rw[h3 j ae e2];have:=wS s i to j;simp only[e2,false_and,if_false,Nat.add_zero]at this;rw[this])
theorem rz{s:Nat->Nat}(h:k<1024):Bb s k=.int .u8 (s k:Int):=by simp[Bb,h]
theorem ry{s:Nat->Nat}(j:Nat):Bb s (1024+j)=.int .i64 (gV s j:Int):=by simp[Bb]
theorem vG(w:af)(b:Nat)(s:Nat->Nat)(S:cb w b s)(i to:Nat)(hi:i<1024):Aaf Aag 111 #[pz b,i6 (i:Int),.int .u8 (to:Int)] w λe w'=>e=rt #[]/\cb w' b (fW s i to)/\Touch (·=b) w w':=by
 have hq:i/64<16:=ae
 obtain⟨hp,hr⟩:=az (Rj s i) (I' s (i/64));have hd:((i:Int)/64)=((i/64:Nat):Int):=ae
 obtain⟨HU,HS⟩:=aw (wS s i to (i/64)) S;obtain⟨c0,c1,f0,f1⟩:=iQ (S.state hi) (S.room hq) (a7.free S i) (a7.free S (1024+i/64));obtain⟨r,aU⟩:=bE (gV s (i/64));obtain⟨q,ai⟩:=bE (i/64);obtain⟨x,hx⟩:=bE (s i);rw[<-aU]at hp hr c1;rw[<-hx]at hp c0;rw[<-ai]at hd c1 hq f1;obtain⟨HQ,HX,HR⟩:=aW ai hx aU;clear ai hx aU;have ar:IntKind.i64.wrap (q:Int)=(q:Int):=bc q ae;have an:((q:Int)<16)=True:=ao
 have ak:((i:Int)<1024)=True:=ao
 by_cases e1:x=1
 ·subst e1;replace hp:1<=r:=hp rfl;have au:IntKind.i64.wrap ((r:Int)-1)=((r-1:Nat):Int):=by rw[show(r:Int)-1=((r-1:Nat):Int)from ae];exact bc _ ae
  by_cases e2:to=1
  ·subst e2;have ah:IntKind.i64.wrap (((r-1:Nat):Int)+1)=(r:Int):=by rw[show((r-1:Nat):Int)+1=(r:Int)from ae];exact bc _ ae
   go_in;go_wp2_with fail;refine NN ?_;repeat still_step
   refine UK ?_;intro HA HT ag al aj aA;go_wp2_with fail;clear c0 c1 f0 f1;generalize w.setCell ⟨b,1024+q,none⟩ (i6 ((r-1:Nat):Int))=w1 at *;obtain⟨HB,aa⟩:=aw (a7.up (HA.set (i:=i) ae (.int .u8 1)) (Up.drew (Up.refl _))) ((HT.trans (tC HA i (.int .u8 1)) (λn h _=>h)).trans (Touch.bV (F:=(·=b)) (Up.drew (Up.refl _))) (λn h _=>h));obtain⟨d1,g1⟩:=az (HB.cell (i:=1024+q) ae) (HB.free (1024+q));simp only[show ¬1024+q=i from ae,if_false,if_true]at d1;generalize(w1.setCell ⟨b,i,none⟩ (.int .u8 1)).drew=w2 at *;refine NO ?_;repeat still_step
   refine hT ?_;obtain⟨HC,ab⟩:=aw (a7.up (a7.set HB (i:=1024+q) ae (i6 (r:Int))) (Up.drew (Up.refl _))) ((aa.trans (tC HB (1024+q) (i6 (r:Int))) (λn h _=>h)).trans (Touch.bV (F:=(·=b)) (Up.drew (Up.refl _))) (λn h _=>h));clear aj aA ag al;go_wp2_with fail;go_end0;have hu:=HU.out;rw[<-HR.out,<-HX.out]at hu;refine⟨rfl,cb.of HC hi (λk hk hne=>by simp[show ¬k=1024+q from ae,hne,rz hk]) (by simp[show ¬i=1024+q from ae]) (λj hj hne=>by rw[<-HQ.out]at hne;simp[hne,show ¬1024+j=i from ae,ry]) (by rw[<-HQ.out]at hu ⊢;simp at hu ⊢;omega),ab⟩
  ·have et:((to:Int)==1)=false:=by simp;omega
   go_in;go_wp2_with fail;refine NN ?_;repeat still_step
   refine UK ?_;intro HA HT ag al aj aA;go_wp2_with fail;clear c0 c1 f0 f1;generalize w.setCell ⟨b,1024+q,none⟩ (i6 ((r-1:Nat):Int))=w1 at *;obtain⟨HB,aa⟩:=aw (a7.up (HA.set (i:=i) ae (.int .u8 (to:Int))) (Up.drew (Up.refl _))) ((HT.trans (tC HA i (.int .u8 (to:Int))) (λn h _=>h)).trans (Touch.bV (F:=(·=b)) (Up.drew (Up.refl _))) (λn h _=>h));go_end0;have hu:=HU.out;rw[<-HR.out,<-HX.out]at hu;refine⟨rfl,cb.of HB hi (λk hk hne=>by simp[show ¬k=1024+q from ae,hne,rz hk]) aq (λj hj hne=>by rw[<-HQ.out]at hne;simp[hne,show ¬1024+j=i from ae,ry]) (by rw[<-HQ.out]at hu ⊢;simp[e2,show ¬1024+q=i from ae]at hu ⊢;omega),aa⟩
 ·have ex:((x:Int)==1)=false:=by simp;omega
  by_cases e2:to=1
  ·subst e2;have ah:IntKind.i64.wrap ((r:Int)+1)=((r+1:Nat):Int):=by rw[show(r:Int)+1=((r+1:Nat):Int)from ae];exact bc _ ae
   go_in;go_wp2_with fail;obtain⟨HB,aa⟩:=aw (a7.set HS (i:=i) ae (.int .u8 1)) (tC HS i (.int .u8 1));have d1:(w.setCell ⟨b,i,none⟩ (.int .u8 1)).cell? (ad b (1024+q))=some (i6 (r:Int)):=(World.cell?_setCell_other _ _ _ _ (λe=>by simp at e<;>omega)).trans c1;have g1:=HB.free (1024+q);clear c0 c1 f0 f1;generalize w.setCell ⟨b,i,none⟩ (.int .u8 1)=w2 at *;refine NO ?_;repeat still_step
   refine hT ?_;obtain⟨HC,ab⟩:=aw (a7.up (a7.set HB (i:=1024+q) ae (i6 ((r+1:Nat):Int))) (Up.drew (Up.refl _))) ((aa.trans (tC HB (1024+q) (i6 ((r+1:Nat):Int))) (λn h _=>h)).trans (Touch.bV (F:=(·=b)) (Up.drew (Up.refl _))) (λn h _=>h));go_wp2_with fail;go_end0;have hu:=HU.out;rw[<-HR.out,<-HX.out]at hu;refine⟨rfl,cb.of HC hi (λk hk hne=>by simp[show ¬k=1024+q from ae,hne,rz hk]) (by simp[show ¬i=1024+q from ae]) (λj hj hne=>by rw[<-HQ.out]at hne;simp[hne,show ¬1024+j=i from ae,ry]) (by rw[<-HQ.out]at hu ⊢;simp[e1]at hu ⊢;omega),ab⟩
  ·have et:((to:Int)==1)=false:=by simp;omega
   go_in;go_wp2_with fail;obtain⟨HB,aa⟩:=aw (a7.set HS (i:=i) ae (.int .u8 (to:Int))) (tC HS i (.int .u8 (to:Int)));go_end0;have hu:=HU.out;rw[<-HR.out,<-HX.out]at hu;refine⟨rfl,cb.of HB hi (λk hk hne=>by simp[hne,rz hk]) aq (λj hj hne=>by rw[<-HQ.out]at hne;simp[show ¬1024+j=i from ae,ry]) (by have h9:=HR.out;rw[<-HQ.out]at hu h9 ⊢;simp[e1,e2,show ¬1024+q=i from ae,ry]at hu ⊢;omega),aa⟩
def KM(s:Nat->Nat)(i:Int)(x:Nat):Bool:=decide (0<=i/\i<1024/\s i.toNat=x)
theorem rb(s:Nat->Nat)(i x:Nat)(h:i<1024):KM s (i:Int) x=decide (s i=x):=by grind [KM]
theorem zx(w:af)(b:Nat)(s:Nat->Nat)(S:cb w b s)(i:Int)(x:Nat):Aaf Aag 220 #[pz b,i6 i,.int .u8 (x:Int)] w λe w'=>e=.returned (.bool (KM s i x))/\w=w':=by
 by_cases h0:0<=i
 ·obtain⟨i,rfl⟩:=ja h0;by_cases h1:i<1024
  ·have c0:=S.state h1;have HR:=an (rb s i x h1);have t0:decide ((0:Int)<=(i:Int))=true:=by simp
   have t1:decide ((i:Int)<1024)=true:=ao
   have t2:((i:Int)<1024)=True:=ao
   generalize s i=y at *;by_cases e:y=x
   ·have t3:((y:Int)==(x:Int))=true:=by simp;omega
    exact Nh
   ·have t3:((y:Int)==(x:Int))=false:=by simp;omega
    exact Nh
  ·have t0:decide ((0:Int)<=(i:Int))=true:=by simp
   have t1:decide ((i:Int)<1024)=false:=ao
   have HR:=an (show KM s (i:Int) x=false by unfold KM;simp;omega);go_in;exact Ga
 ·have t0:decide ((0:Int)<=i)=false:=by simp;omega
  have HR:=an (show KM s i x=false by unfold KM;simp;omega);go_in;exact Ga
def Y8(s:Nat->Nat)(i:Int)(x:Nat):Int:=if KM s i x=true then 0 else 72
def sB(s:Nat->Nat)(i:Int)(x y:Nat):Nat->Nat:=if KM s i x=true then fW s i.toNat y else s
theorem Xh{s:Nat->Nat}{i x y:Nat}(hi:i<1024)(hs:s i=x):sB s (i:Int) x y=fW s i y:=by grind [sB,rb]
theorem qG(w:af)(b:Nat)(s:Nat->Nat)(S:cb w b s)(i:Int)(x y:Nat):Aaf Aag 164 #[pz b,i6 i,.int .u8 (x:Int),.int .u8 (y:Int)] w λe w'=>e=.returned (i6 (Y8 s i x))/\cb w' b (sB s i x y)/\Touch (·=b) w w':=by
 have I:=an (zx w b s S i x);obtain⟨g,hg⟩:=bE (KM s i x);rw[<-hg]at I;cases g
 ·obtain⟨HE,HV⟩:=aw (show Y8 s i x=72 by unfold Y8;rw[<-hg];rfl) (show sB s i x y=s by unfold sB;rw[<-hg];rfl);clear hg;go_in;go_wp2_with fail;refine I.mono ?_;rintro e w1⟨rfl,rfl⟩;go_wp2;go_ret;exact⟨ll,by rw[HV.out];exact S,Touch.refl _ _⟩
 ·obtain⟨HE,HV⟩:=aw (show Y8 s i x=0 by unfold Y8;rw[<-hg];rfl) (show sB s i x y=fW s i.toNat y by unfold sB;rw[<-hg];rfl);have hb:0<=i/\i<1024/\s i.toNat=x:=by have:=hg.symm;unfold KM at this;grind
  obtain⟨h0,h1,_⟩:=hb;obtain⟨i,rfl⟩:=ja h0;have ST:=an (vG w b s S i y ae);clear hg h0;go_in;go_wp2_with fail;refine I.mono ?_;rintro e w1⟨rfl,rfl⟩;go_wp2_with fail;refine ST.mono ?_;rintro e w1⟨rfl,S1,T1⟩;go_wp2;go_ret;exact⟨ll,by rw[HV.out];exact S1,T1⟩
theorem Wn(w:af)(b:Nat)(s:Nat->Nat)(S:cb w b s)(i:Int):Aaf Aag 107 #[pz b,i6 i] w λe w'=>e=.returned (i6 (Y8 s i 1))/\cb w' b (sB s i 1 2)/\Touch (·=b) w w':=by have C:=an (qG w b s S i 1 2);go_in;exact K5
theorem Ru(w:af)(b:Nat)(s:Nat->Nat)(S:cb w b s)(i:Int):Aaf Aag 159 #[pz b,i6 i] w λe w'=>e=.returned (i6 (Y8 s i 2))/\cb w' b (sB s i 2 1)/\Touch (·=b) w w':=by have C:=an (qG w b s S i 2 1);go_in;exact K5
theorem Qu(w:af)(b:Nat)(s:Nat->Nat)(S:cb w b s)(i:Int):Aaf Aag 226 #[pz b,i6 i] w λe w'=>e=.returned (i6 (Y8 s i 2))/\cb w' b (sB s i 2 3)/\Touch (·=b) w w':=by have C:=an (qG w b s S i 2 3);go_in;exact K5
def gZ(s:Nat->Nat)(n:Nat):Nat:=κ ((Aal n).filter (λk=>decide (s k=1)))
def bj(s:Nat->Nat):Nat:=gZ s 1024
theorem tS(s:Nat->Nat)(j:Nat):gZ s (64*(j+1))=gZ s (64*j)+gV s j:=by unfold gZ gV;rw[show 64*(j+1)=64*j+64 from ae,List.range_add,kh,Aae];congr 1;rw[List.filter_map,Aac];rfl
theorem zX(s:Nat->Nat)(n:Nat):gZ s n<=n:=by grind [gZ]
def xR(s:Nat->Nat):Array ah:=((Aal 16).map (λj=>Acd .i64 (gV s j:Int))).toArray
theorem cb.Zj{w:af}{s:Nat->Nat}(S:cb w b s):w.rangeAt b 1024 (xR s).toList:=λj v hj=>by
 have hl:j<16:=by
  rcases jE j 16 with h|h
  ·exact h
  ·rw[sQ cq]at hj;cases hj
 rw[S.room hl];simp[xR,hl]at hj;rw[<-hj]
theorem AD(s:Nat->Nat)(k:Nat)(h:k<16)(W:af):(Ac0 163 (.agg (xR s)) (i6 (k:Int))).run Aag W=.ok (i6 (gV s k:Int)) W:=by
 have hs:(sizeOf 3).run Aag W=.ok 1 W:=al
 have hg:(isAgg 3).run Aag W=.ok false W:=al
 have hp:((xR s)[k]?)=some (i6 (gV s k:Int)):=by simp[xR,h]
 simp[Ac0,asIntOf,run_underlying (P:=Aag) underlying163,ae,hs,part,hg,hp];omega
theorem AH(s:Nat->Nat):(prog.info? 163).map (·.size)=some (xR s).size:=aA
theorem mq(w:af)(b:Nat)(s:Nat->Nat)(S:cb w b s):Aaf Aag 35 #[pz b] w λe w'=>e=.returned (i6 (bj s:Int))/\w=w':=by
 go_in;go_wp2_with refine cM 163 8 (xR s) S.Zj (hi:=(AH s)) ?_;go_loop [3,10] (λn i=>∃k:Nat,k<=16/\i=i6 k/\n=i6 (gZ s (64*k):Int)) (λ_ i=>16-(Aaq i).toNat)
 case atStart=>exact⟨0,ae,rfl,aA⟩
 case round=>
  obtain⟨k,hk,rfl,rfl⟩:=hrel;have HC:=an (tS s k);obtain⟨hc,hr⟩:=az (zX s (64*k)) (I' s k);by_cases hlt:k<16
  ·have ix:=(AD s) k hlt;have b2:((k:Int)<16)=True:=by simp;omega
   generalize gV s k=r at *;generalize gZ s (64*k)=c at *;go_wp2;go_round
   case rel=>exact⟨k+1,ae,aq,by rw[HC.out];simp⟩
   case measure=>simp[Aaq];omega
  ·obtain rfl:k=16:=by omega
   have b2:((16:Nat):Int)=16:=rfl;go_wp2;go_ret;exact⟨aA,rfl⟩
def bD.bb(v:bD):bD:={v with ops:=if v.ops<4611686018427387903 then v.ops+1 else v.ops}
def bD.hasB(v:bD)(i:Int):Bool:=decide (0<=i/\i<κ v.aR)
def bD.eO(v:bD):bD:=if v.dead=true\/v.left=0 then {v with dead:=true} else {v with left:=if 0<v.left then v.left-1 else v.left}
def bD.hv(v:bD):Bool:=!(v.dead || decide (v.left=0))
theorem jf{w:af}{h:iM}{v:bD}(D:Dv w h v)(i:Nat)(x:ah):Touch (cK h) w (w.setCell ⟨h.d,i,none⟩ x):=Touch.be (bX D.dev i x) (λk hk=>FX)
theorem Dv.field{w:af}{h:iM}{v v':bD}(D:Dv w h v)(i:Nat)(x:ah)(hc:(Aa h v).setIfInBounds i x=Aa h v')(hs:v'.aR=v.aR)(hn:v'.cx=v.cx)(hp:v'.bL=v.bL)(ho:v'.ops<=4611686018427387903)(hl:-1<=v'.left/\v'.left<=9223372036854775807):Dv (w.setCell ⟨h.d,i,none⟩ x) h v':=by
 have G:=bX D.dev i x;refine⟨by rw[<-hc];exact D.dev.setCell i x,?_,?_,by rw[hs,hn];exact D.len,by rw[hs];exact D.max,D.ne,?_,by rw[hs,hp];exact D.AV,ho,hl⟩
 ·rw[hs];exact D.b1.grown G (λe=>D.yr (dC e))
 ·rw[hn];exact D.b2.grown G (λe=>D.tW (dC e))
 ·rw[hp];exact D.bL.kept G (.inr (jd av D.dev D.bL))
theorem v7(w:af)(h:iM)(v:bD)(D:Dv w h v):Aaf Aag 229 #[pz h.d] w λe w'=>e=rt #[]/\Dv w' h v.bb/\Touch (cK h) w w':=by
 obtain⟨c0,c1,c2,c3,c4,c5⟩:=D.cells;obtain⟨f3,hb⟩:=az (D.dev.free 3) D.ops;obtain⟨n,hn⟩:=bE (v.ops);have HN:=an hn;rw[<-hn]at c3 hb;clear c0 c1 c2 c4 c5 hn;by_cases hlt:n<4611686018427387903
 ·have t1:decide ((n:Int)<4611686018427387903)=true:=by simp;omega
  go_in;go_wp2_with fail;go_end0;have e:(Aa h v).setIfInBounds 3 (i6 ((n:Int)+1))=Aa h v.bb:=by unfold Aa bD.bb;rw[bp cr,HN.out];rfl
  exact⟨rfl,Dv.field D 3 _ e rfl rfl rfl (by unfold bD.bb;rw[bp cr];show v.ops+1<=_;have:=HN.out;omega) D.left,jf D 3 _⟩
 ·have t1:decide ((n:Int)<4611686018427387903)=false:=by simp;omega
  go_in;go_wp2_with fail;go_end0;have e:v.bb=v:=by unfold bD.bb;rw[aO cr]
  exact⟨rfl,aP,Touch.refl _ _⟩
theorem MT(w:af)(h:iM)(v:bD)(D:Dv w h v)(i:Int)(hi:-9223372036854775808<=i/\i<=9223372036854775807):Aaf Aag 230 #[pz h.d,i6 i] w λe w'=>e=.returned (.bool (v.hasB i))/\w=w':=by
 obtain⟨c0,c1,c2,c3,c4,c5⟩:=D.cells;have hm:=D.max;obtain⟨n,hn⟩:=bE (κ v.aR);have HB:=an (show v.hasB i=decide (0<=i/\i<(n:Int))by rw[hn];rfl);rw[<-hn]at c0 hm;clear c1 c2 c3 c4 c5 D hn;by_cases h0:0<=i
 ·have t0:decide (0<=i)=true:=by simp;omega
  by_cases h1:i<(n:Int)
  ·have t1:decide (i<(n:Int))=true:=by simp;omega
   have HR:=an (show v.hasB i=true from FG);exact Nf
  ·have t1:decide (i<(n:Int))=false:=by simp;omega
   have HR:=an (show v.hasB i=false from FG);exact Nf
 ·have t0:decide (0<=i)=false:=by simp;omega
  have HR:=an (show v.hasB i=false from FG);go_in;exact Ga
theorem Ea(w:af)(h:iM)(v:bD)(D:Dv w h v):Aaf Aag 262 #[pz h.d] w λe w'=>e=.returned (.bool v.hv)/\Dv w' h v.eO/\Touch (cK h) w w':=by
 obtain⟨c0,c1,c2,c3,c4,c5⟩:=D.cells;obtain⟨f4,f5,hl⟩:=cX (D.dev.free 4) (D.dev.free 5) D.left;obtain⟨l,aR⟩:=bE (v.left);obtain⟨d,aa⟩:=bE (v.dead);obtain⟨HP,HS,aC,ab⟩:=bS (show v.hv=!(d || decide (l=0))by rw[aR,aa];rfl) (show v.eO=if d=true\/l=0 then {v with dead:=true} else {v with left:=if 0<l then l-1 else l} by rw[aR,aa];rfl) aR aa;rw[<-aR]at c4 hl;rw[<-aa]at c5;clear c0 c1 c2 c3 aR aa;by_cases h0:l=0
 ·subst h0;obtain⟨HR,HV⟩:=aw (show v.hv=false by rw[HP.out];simp) (show v.eO={v with dead:=true} by rw[HS.out,bp (.inr rfl)]);go_in;go_wp2_with fail;go_ret;exact⟨by rw[HR.out];rfl,by rw[HV.out];exact Dv.field D 5 (.bool true) rfl rfl rfl rfl D.ops D.left,jf D 5 _⟩
 have t0:(l==0)=false:=ao
 cases d
 case true=>obtain⟨HR,HV⟩:=aw (show v.hv=false from cq) (show v.eO=v by rw[HS.out,bp (.inl rfl),ab.out]);exact Ng
 case false=>
  have HR:=an (show v.hv=true by rw[HP.out];simpa using h0);by_cases h1:0<l
  ·have t1:decide (0<l)=true:=by simp;omega
   have HV:=an (show v.eO={v with left:=l-1} by rw[HS.out,aO ao,bp h1]);go_in;go_wp2_with fail;go_ret;exact⟨by rw[HR.out];rfl,by rw[HV.out];exact Dv.field D 4 (i6 (l-1)) rfl rfl rfl rfl D.ops ao,jf D 4 _⟩
  ·have t1:decide (0<l)=false:=by simp;omega
   have HV:=an (show v.eO=v by rw[HS.out,aO ao,aO h1,aC.out]);exact Ng
theorem S9(w:af)(h:iM)(v:bD)(D:Dv w h v):Aaf Aag 55 #[pz h.d] w λe w'=>e=.returned (i6 (κ v.aR:Int))/\w=w':=by obtain⟨c0,c1,c2,c3,c4,c5⟩:=D.cells;go_in;exact e4
theorem PV(w:af)(h:iM)(v:bD)(D:Dv w h v):Aaf Aag 53 #[pz h.d] w λe w'=>e=.returned (.bool v.dead)/\w=w':=by obtain⟨c0,c1,c2,c3,c4,c5⟩:=D.cells;go_in;exact e4
section
variable {P:bu}
theorem gf{ops:Array Abi}{rest:List Abi}{op:Abi}{a:Act}{w:af}{Q:Act->Prop}(hw:Aaa op (Aaz ops a.tmps)=true)(ty:Aab)(x:bR)(ho:op.op=.load ty x)(g off:Nat)(hx:a.eval x=pq g off)(C:Array ah)(hc:w.rangeAt g off C.toList)(d:eT)(hu:P.underlying ty=some d)(hd:d.isRow=true)(hi:(P.info? ty).map (·.size)=some C.size)(h:Adq P ops w Q rest (a.put op.dst (.agg C))):Adq P ops w Q (op::rest) a:=by refine wpStill_step λK hK=>?_;rw[bp hw];unfold Oper.still Abt;have:=E4 (P:=P) w g off ty C.toList d hc hu hd ae;simp only[ho,hx,Instr.loadAt,Adg,Aa1,Ac7,Aay,this];exact⟨rfl,hK _ jG⟩
def iz{ops:Array Abi}{rest:List Abi}{op:Abi}{a:Act}{w:af}{Q:Act->Prop}(hw:Aaa op (Aaz ops a.tmps)=true)(ty:Aab)(x:bR)(ho:op.op=.load ty x)(g:Nat)(hx:a.eval x=pz g)(t:Aab)(C:Array ah)(hb:aI w g t C)(d:eT)(hu:P.underlying ty=some d)(hd:d.isRow=true)(hi:(P.info? ty).map (·.size)=some C.size)(h:Adq P ops w Q rest (a.put op.dst (.agg C))):Adq P ops w Q (op::rest) a:=gf hw ty x ho g 0 hx C hb.range d hu hd hi h
theorem CW{ops:Array Abi}{rest:List Abi}{op:Abi}{a:Act}{w:af}{Q:Act->Prop}(hw:Aaa op (Aaz ops a.tmps)=true)(t:Aab)(parts:Array (Nat × bR))(ho:op.op=.build t parts)(C:Array ah)(hb:P.built t (parts.map λ(i,x)=>(i,a.eval x)).toList=some C)(h:Adq P ops w Q rest (a.put op.dst (.agg C))):Adq P ops w Q (op::rest) a:=by refine wpStill_step λK hK=>?_;rw[bp hw];unfold Oper.still Abt;simp only[ho,Aa1,run_build w t _ C hb,Aay];exact⟨rfl,hK _ h⟩
theorem om{ops:Array Abi}{Q:Exit->Act->af->Prop}{i:Nat}{o:Abi}{K:Act->af->Prop}{a:Act}{w:af}(hi:ops[i]?=some o)(hw:Aaa o (Aaz ops a.tmps)=true)(h:o.wp P a w K Q):wpOp P ops Q i K a w:=FJ
theorem iy{ops:Array Abi}{Q:Exit->Act->af->Prop}{md:Ab1}{fuel:Nat}{aZ:Array Bool}{a:Act}{w:af}(i:Nat)(o:Abi)(hr:Abf md ops aZ=[i])(hi:ops[i]?=some o)(hw:Aaa o (Aaz ops a.tmps)=true)(h:o.wp P a w (wpAny P md ops Q fuel (aZ.setIfInBounds i true)) Q):wpAny P md ops Q (fuel+1) aZ a w:=A2 hr aq (λj hj=>by simp at hj;subst hj;exact om hi hw h)
theorem xa{ops:Array Abi}{Q:Exit->Act->af->Prop}{md:Ab1}{fuel:Nat}{aZ:Array Bool}{a:Act}{w:af}(i j:Nat)(o o':Abi)(hr:Abf md ops aZ=[i,j])(hi:ops[i]?=some o)(hj:ops[j]?=some o')(hw:Aaa o (Aaz ops a.tmps)=true)(av:Aaa o' (Aaz ops a.tmps)=true)(h:o.wp P a w (wpAny P md ops Q fuel (aZ.setIfInBounds i true)) Q)(h':o'.wp P a w (wpAny P md ops Q fuel (aZ.setIfInBounds j true)) Q):wpAny P md ops Q (fuel+1) aZ a w:=A2 hr aq (λk hk=>by
  simp at hk;rcases hk with rfl|rfl
  ·exact om hi hw h
  ·exact om hj av h')
theorem po{o:Abi}{a:Act}{w:af}{K:Act->af->Prop}{Q:Exit->Act->af->Prop}(ty:Aab)(x:bR)(ho:o.op=.load ty x)(ad:Addr)(hx:a.eval x=.pointer (some ad))(v:ah)(hc:w.cell? ad=some v)(hagg:(isAgg ty).run P w=.ok false w)(h:K (a.put o.dst v) w):o.wp P a w K Q:=by exact Nd
theorem CY{o:Abi}{a:Act}{w:af}{K:Act->af->Prop}{Q:Exit->Act->af->Prop}(ty:Aab)(x y:bR)(ho:o.op=.store ty x y)(ad:Addr)(hx:a.eval x=.pointer (some ad))(v:ah)(hy:a.eval y=v)(hv:v.cells=#[v])(h1:v.oneCell'=true)(old:ah)(hc:w.cell? ad=some old)(hf:w.frozen? ad=false)(hs:(sizeOf ty).run P w=.ok 1 w)(h:K (a.put o.dst Aat) (w.setCell ad v)):o.wp P a w K Q:=by
 have aF:(store (ad.add 0) v).run P w=.ok () (w.setCell ad v):=by
  have e:ad.add 0=ad:=aA
  rw[e,run_store P w _ v _ h1,hc];simp[hf]
 have ba:(storeVar ty ad v).run P w=.ok () (w.setCell ad v):=by simp[storeVar,Aa1,hs,hv,storeCells,aF]
 unfold Ace Abt;simp only[ho,hx,hy,Instr.storeAt,Adg,Aa1,Ac7,Aay,ba];exact h
theorem CZ{ops:Array Abi}{op:Abi}{a:Act}(hw:Aaa op (Aaz ops a.tmps)=true)(t:Aab)(i0 i1:Nat)(x0 x1:bR)(ho:op.op=.build t #[(i0,x0),(i1,x1)])(v0 v1:ah)(h0:a.eval x0=v0)(h1:a.eval x1=v1)(C:Array ah)(hb:P.built t [(i0,v0),(i1,v1)]=some C):Yields P ops op (.agg C) a:=.inl ⟨hw,λw=>by
  unfold Abt;simp only[ho,Aa1,(run_build (P:=P) w t (#[(i0,x0),(i1,x1)].map λ(i,x)=>(i,a.eval x)) C aa),Aay];rfl⟩
theorem JG{o:Abi}{a:Act}{w:af}{K:Act->af->Prop}{Q:Exit->Act->af->Prop}(ty:Aab)(x:bR)(ho:o.op=.load ty x)(g:Nat)(hx:a.eval x=pz g)(t:Aab)(C:Array ah)(hb:aI w g t C)(d:eT)(hu:P.underlying ty=some d)(hd:d.isRow=true)(hi:(P.info? ty).map (·.size)=some C.size)(h:K (a.put o.dst (.agg C)) w):o.wp P a w K Q:=wp_load_mid ty x ho g 0 hx C.toList d hb.range hu hd ae ae
theorem yl{ops:Array Oper}{rest:List Oper}{op:Oper}{a:Act}{w:af}{Q:Exit->Act->af->Prop}(hgd:op.guard=none)(d s:bR)(dT sT:TypeId)(ho:op.op=.call {callee:=.builtin .copy,args:=#[d,s],argTypes:=#[dT,sT]})(elem:TypeId)(k:Nat)(hu:P.underlying dT=some (.slice elem))(aN:(P.info? elem).map (·.size)=some k)(g1 g2 n:Nat)(hd:a.eval d=cC g2 n n)(hs:a.eval s=cC g1 n n)(t:TypeId)(C1 C2:Array ah)(hb1:aI w g1 t C1)(hb2:aI w g2 t C2)(h1:C1.size=n*k)(h2:C2.size=n*k)(aV:C1.all (·.oneCell')=true)(h:∀w',aI w' g2 t C1->w.grownBy w' (some g2)->wpList P ops Q rest (a.put op.dst (goInt n)) w'):wpList P ops Q (op::rest) a w:=by
 refine h' hgd λK hK=>?_;have hl:=run_loadCells_list (P:=P) w ⟨g1,0,none⟩ C1.toList (λj v hj=>by rw[add_plain,Abn,hb1.cell];simpa using hj)
 have aF:=wq (P:=P) g2 0 t C1.toList 0 C2 w hb2 ao (λv hv=>(wu.1 aV) v aa);have ab:(C2.toList.take (0+0)++C1.toList++C2.toList.drop (0+0+κ C1.toList)).toArray=C1:=aP
 rw[ab]at aF;cases hq:P.info? elem with
 | none=>simp_all
 | some i=>
  have hi:i.size=k:=aa
  have hlen:κ C1.toList=n*k:=ae
  rw[hlen]at hl;have hrun:(Builtin.copy_ #[dT,sT] op.type #[cC g2 n n,cC g1 n n]).run P w=.ok (goInt n) (w.setRow g2 C1):=by simp[Builtin.copy_,run_underlying hu,Builtin.lenOf,Builtin.firstCells,sizeOf,typeInfo,hq,hi,hl,aF]
  unfold Ace;simp[Abt,ho,resolve,invoke,builtin,hd,hs,hrun,Aar];exact hK _ _ (h _ (hb2.set C1) (cR w g2 C1))
end
def Rp(l:List cQ):(gz l).all (·.oneCell')=true:=AZ (sw.cv l)
theorem L0{w:af}{l:List cQ}(h:aI w g t (gz l))(i:Nat)(hi:i<κ l):w.rangeAt g (i*128) (aD l[i].val).toList:=λj v hj=>by
 rw[h.cell];rw[kY]at hj;have aa:j<128:=by have:=(ki.1 hj).1;rwa [sw.len]at this
 unfold gz;rw[Fa,sw.at l i hi j aa];exact hj
theorem WL{f:α->List ah}(hw:gi f k)(l:List α)(i:Nat)(hi:i<κ l)(x:α):Abz (l.flatMap f) (i*k) (f x)=(l.set i x).flatMap f:=by
 unfold Abz;have h2:l.flatMap f=(l.take i).flatMap f++(f l[i]++(l.drop (i+1)).flatMap f):=by rw[<-Abd,<-qi hi,<-gl,fO]
 have h3:κ ((l.take i).flatMap f)=i*k:=by rw[hw.flat,ey];congr 1;omega
 rw[(M0 .. |>.trans (bp hi)),gl,Abd,h2,h0 h3,Fi,h3,hw.len];rw[sO ae,Aa0];congr 2;rw[show i*k+k-i*k=κ (f l[i]) by rw[hw.len];omega,List.drop_left]
theorem Jg(l:List cQ)(i:Nat)(hi:i<κ l)(s:cQ):(Abz (gz l).toList (i*128) (aD s.val).toList).toArray=gz (l.set i s):=by rw[BU,kY,WL sw l i hi s];rfl
theorem oc(s:cQ):(aD s.val).size=128:=by grind [bT]
theorem dE(s:cQ):(prog.info? 60).map (·.size)=some (aD s.val).size:=by simp[oc,dI]
theorem G1(l:List cQ)(i:Nat)(hi:i<κ l)(s:cQ):i*128+(aD s.val).size<=(gz l).size:=by grind [oc,tt]
theorem JH{w:af}{vp:ah}{l:List C0}(h:ak qW 129 116 w base vp l)(i:Nat)(hi:i<κ l):∃g cap,vp=cC g (κ l) cap/\w.rangeAt g (i*129) (j5 l[i]).toList:=by
 rcases h.2 with⟨_,h0⟩|⟨g,cap,cur,rfl,_⟩
 ·omega
 ·obtain⟨b,off,aa,_,_,hc⟩:=aG.get (h.row ww) ww ae;simp only[Aai,Abm]at aa;obtain⟨rfl,rfl,_⟩:=aa;exact⟨g,cap,rfl,λj v hj=>by have:=hc i hi j v cq;simpa using this⟩
theorem kS(x:C0):(prog.info? 116).map (·.size)=some (j5 x).size:=by rw[oo];kernel_rfl
def bD.nowAt(v:bD)(i:Int):cQ:=if v.hasB i=true then v.cx.getD i.toNat e9 else e9
def bD.jQ(v:bD)(i:Int):Int:=if v.hasB i=true then(if v.dead=true then 42 else 0)else 41
def bD.mj(v:bD)(i:Int):cQ:=if v.dead=true then e9 else v.nowAt i
theorem nY(v:bD)(i:Int):v.hasB i=true↔0<=i/\i<κ v.aR:=by simp[bD.hasB]
theorem Dg(w:af)(h:iM)(v:bD)(D:Dv w h v)(i:Int)(hi:-9223372036854775808<=i/\i<=9223372036854775807):Aaf Aag 166 #[pz h.d,i6 i] w λe w'=>e=rt #[.agg (aD (v.mj i).val),i6 (v.jQ i)]/\Dv w' h v.bb/\Touch (cK h) w w':=by
 have upa:=ai w (.cells (aD aM) 60);obtain⟨D1,B1⟩:=az (D.up upa) (aI.new w 60 (aD aM));obtain⟨CT,HS⟩:=aw (λW (DD:Dv W h v)=>v7 W h v DD) (λW (DD:Dv W h v.bb)=>MT W h v.bb DD i hi);have HH:v.bb.hasB i=v.hasB i:=rfl;rw[HH]at HS;obtain⟨HL,HF,aT⟩:=aW (Touch.bV (F:=cK h) upa) (show ¬cK h w.heap.size from λhf=>ux _ (D.oG _ hf)) (nY v i);cases hb:v.hasB i
 case false=>
  rw[hb]at HS;have E:=an (show v.mj i=e9/\v.jQ i=41 by unfold bD.mj bD.jQ bD.nowAt;rw[hb];simp);go_in;go_wp2_with(refine dw rfl 60 rfl (aD aM) hM ?_);refine(CT _ D1).mono ?_;rintro e w2⟨rfl,D2,T2⟩;go_wp2_with fail;refine(HS _ D2).mono ?_;rintro e w3⟨rfl,rfl⟩;have aB:=an (B1.ax T2 HF);go_wp2_with(first
   | (refine kP rfl 60 rfl (aD aM) hZ ?_)
   | (refine en rfl 60 (.tmp 4) (.tmp 12) rfl w.heap.size (aD aM) rfl rfl 60 (aD aM) aB dI rfl (dr _) ?_))
  intro w4 aG hg4;go_wp2;refine bN (.tuple #[.agg (aD aM),i6 41]) aG ⟨by rw[E.out.1,E.out.2];rfl,D2.ax (Touch.be (F:=λb=>b=w.heap.size) hg4 (λk hk=>aP)) (λb hb e=>HF (e ▸ hb)),?_⟩;exact Gn
 case true=>
  rw[hb]at HS;have aU:=aT.1 hb;cases aa:v.dead
  case true=>
   obtain⟨E,DD⟩:=aw (show v.mj i=e9/\v.jQ i=42 by unfold bD.mj bD.jQ;rw[hb,aa];simp) (show v.bb.dead=true from aa);go_in;go_wp2_with(refine dw rfl 60 rfl (aD aM) hM ?_);refine(CT _ D1).mono ?_;rintro e w2⟨rfl,D2,T2⟩;go_wp2_with fail;refine(HS _ D2).mono ?_;rintro e w3⟨rfl,rfl⟩;have aB:=an (B1.ax T2 HF);have c5:=D2.cells.2.2.2.2.2;rw[DD.out]at c5;go_wp2_with(first
    | (refine kP rfl 60 rfl (aD aM) hZ ?_)
    | (refine en rfl 60 (.tmp 4) (.tmp 17) rfl w.heap.size (aD aM) rfl rfl 60 (aD aM) aB dI rfl (dr _) ?_))
   intro w4 aG hg4;go_wp2;refine bN (.tuple #[.agg (aD aM),i6 42]) aG ⟨by rw[E.out.1,E.out.2];rfl,D2.ax (Touch.be (F:=λb=>b=w.heap.size) hg4 (λk hk=>aP)) (λb hb e=>HF (e ▸ hb)),?_⟩;exact Gn
  case false=>
   obtain⟨n,rfl⟩:∃n:Nat,i=n:=⟨i.toNat,ae⟩;have aS:n<κ v.aR:=ae
   have ag:n<κ v.cx:=by rw[D1.len];exact aS
   have E:=an (show v.mj n=v.cx[n]/\v.jQ n=0 by unfold bD.mj bD.jQ bD.nowAt;rw[hb,aa];simp only[Ab2,if_false,if_true,Abr,and_true];rw[sP,iI ag];rfl)
   obtain⟨DD,aH⟩:=aw (show v.bb.dead=false from aa) ag;have hm:=D1.max;go_in;go_wp2_with(refine dw rfl 60 rfl (aD aM) hM ?_);refine(CT _ D1).mono ?_;rintro e w2⟨rfl,D2,T2⟩;go_wp2_with fail;refine(HS _ D2).mono ?_;rintro e w3⟨rfl,rfl⟩;have aB:=an (B1.ax T2 HF);have c5:=D2.cells.2.2.2.2.2;rw[DD.out]at c5;have c1:=D2.cells.2.1;have aA:w2.cell? (ad h.d 1)=some (cC h.g2 (κ v.aR) (κ v.aR)):=c1;have b2:((n:Int)<(κ v.aR:Int))=True:=ao
   go_wp2_with(first
    | (refine gS rfl 60 (.tmp 23) rfl h.g2 (n*128) rfl _ (L0 (l:=v.cx) D2.b2 n aH) _ Acr rfl (dE _) ?_)
    | (refine en rfl 60 (.tmp 4) (.tmp 24) rfl w.heap.size (aD (v.cx[n]'aH.out).val) rfl rfl 60 (aD aM) aB (dE _) qs (dr _) ?_))
   intro w4 aG hg4;go_wp2;refine bN (hi:=(dE _)) (.tuple #[.agg (aD (v.cx[n]'aH.out).val),i6 0]) aG ⟨by rw[E.out.1,E.out.2],D2.ax (Touch.be (F:=λb=>b=w.heap.size) hg4 (λk hk=>aP)) (λb hb e=>HF (e ▸ hb)),?_⟩;exact Gn
theorem pC{P:bu}(w:af)(t e:Aab)(z:ah)(k bytes:Nat)(C:Array ah)(ht:P.underlying t=some (.slice e))(hinfo:(P.info? e).map (λi=>(i.zero,i.size,i.bytes))=some (some z,k,bytes))(h0:0<k)(hk:k<=16777216)(hC:C.size=k):(Acf t 1 #[(0,.agg C)]).run P w=.ok (.slice (some ⟨w.heap.size,0,none⟩) 1 1) (w.alloc (.cells C e)):=by
 obtain⟨i,hi,hz0,hz1,_⟩:=jC hinfo;have hf:=Dl C ((Array.range k).map (z.cells[· % z.cells.size]!)) 0 ao;have hs:(Abz ((Array.range k).map (z.cells[· % z.cells.size]!)).toList 0 C.toList).toArray=C:=by unfold Abz;exact N8
 exact UJ
theorem tF{P:bu}{op:Abi}{a:Act}{w:af}{Q:Exit->Act->af->Prop}(hgd:op.guard=none)(t e:Aab)(x:bR)(ho:op.op=.buildSlice t 1 #[(0,x)])(z:ah)(k bytes:Nat)(C:Array ah)(hx:a.eval x=.agg C)(ht:P.underlying t=some (.slice e))(hinfo:(P.info? e).map (λi=>(i.zero,i.size,i.bytes))=some (some z,k,bytes))(h0:0<k)(hk:k<=16777216)(hC:C.size=k)(h:Aam P ops Q rest (a.put op.dst (.slice (some ⟨w.heap.size,0,none⟩) 1 1)) (w.alloc (.cells C e))):Aam P ops Q (op::rest) a w:=by refine uW ?_;intro K hK;simp[ho,hx,(pC (P:=P) w t e z k bytes C ht hinfo h0 hk hC),Aar];exact hK _ _ h
theorem mI{P:bu}{op:Abi}{a:Act}{w:af}{K:Act->af->Prop}{Q:Exit->Act->af->Prop}(t e:Aab)(x:bR)(ho:op.op=.buildSlice t 1 #[(0,x)])(z:ah)(k bytes:Nat)(C:Array ah)(hx:a.eval x=.agg C)(ht:P.underlying t=some (.slice e))(hinfo:(P.info? e).map (λi=>(i.zero,i.size,i.bytes))=some (some z,k,bytes))(h0:0<k)(hk:k<=16777216)(hC:C.size=k)(h:K (a.put op.dst (cC w.heap.size 1 1)) (w.alloc (.cells C e))):op.wp P a w K Q:=by have hr:=pC (P:=P) w t e z k bytes C ht hinfo h0 hk hC;unfold Ace Abt;simp[ho,hx,hr,Aar];exact h
theorem ny{p:Tmp}(h:fn.results=#[.cell p ty])(tmps:Array ah)(P:bu)(w:af)(g:Nat)(t:Aab)(C:Array ah)(hp:tmps.getD p Aat=.pointer (some ⟨g,0,none⟩))(hb:aI w g t C)(d:eT)(hd:P.underlying ty=some d)(hr:d.isRow=true)(hi:(P.info? ty).map (·.size)=some C.size):(results fn tmps).run P w=.ok (.agg C) w:=by
 simp only[results,h];have:=iv (P:=P) (w:=w) ty g t C hb d hd hr hi;have aL:tmps[p]?.getD Aat=.pointer (some ⟨g,0,none⟩):=aa
 simp[Aa1,Aar,hp,aL,asAddr,this]
theorem aaB(w:af)(b:Nat)(hb:b=w.heap.size)(x:C0):aG qW (w.alloc (.cells (j5 x) 116)) (.slice (some ⟨b,0,none⟩) 1 1) [x]:=aG.er w b hb (j5 x) 116 (0,0) [x] 1 rfl av (by simp[j5])
end Go.Proofs.YtkpjfnbbkohciaaGreat
