import Derived.Test.YtkpjfnbbkohciaaGreatRows
import Derived.Lib.Hide
import Derived.BigQuiet
import Derived.Carry
import Derived.ChangeKeysEq
import Derived.ChangeOld
import Derived.ChangeSame
import Derived.Deep.DeepAppendRoom
import Derived.Deep.MidRow
import Derived.Deep.QuietTactic
import Derived.Deep.RegionHeld3
import Derived.Deep.WholeRow
import Derived.DeepKeys4
import Derived.JoinedOf
import Derived.Laws.AppendOwnNone
import Derived.Laws.CopyOwn
import Derived.Laws.CopyRow
import Derived.Laws.IdiomStrings
import Derived.Laws.RangeAny
import Derived.Laws.RangeString
import Derived.Laws.ResultCell
import Derived.Lib.AppendZeros
import Derived.Lib.BufferWrite
import Derived.Lib.Bytealg
import Derived.Lib.IndexLaws
import Derived.Lib.QuietBelow
import Derived.Lib.SlBytesConst
import Derived.Lib.SliceRun
import Derived.Lib.Slices
import Derived.Lib.Strings
import Derived.LoopIn
import Derived.LoopNIn
import Derived.MapKept
import Derived.Maps.AppendAt
import Derived.Maps.Own
import Derived.Maps.OwnSet
import Derived.Maps.RangeWalk
import Derived.OpenShut
import Derived.Orders
import Derived.OrdersHeld
import Derived.OrdersIn
import Derived.OwnWalkIn
import Derived.ProofKit
import Derived.RangeFuncBound
import Derived.RangeFuncBox
import Derived.RangeFuncCalls
import Derived.RangeFuncFrom
import Derived.RangeFuncLeaves
import Derived.RangeFuncNested
import Derived.Shelf.Abstract
import Derived.Shelf.RegionOpen
import Derived.ShutString
import Derived.SizedLaws
import Derived.StillTail
import Derived.Stop.BytesEq
import Derived.TacticsInMore
import Derived.WalkKit
set_option maxRecDepth 100000
set_option maxHeartbeats 16000000
set_option linter.all false
open Go.Region renaming Mode->Ab0,wanted->Aaa,ready->Abb
open Go renaming Oper->Abn,TypeId->Aab,Ending->Ab1,madeCells->Acv,splice->Aby,execOp->Abs,yielded->Aa1,wpList->Aak,zeroValue->Ab9,undef->Aar,YieldsIf->Ace,wpAnyH->Acp,Calls->Aae,results_none->Adt,wpAnyIn->Acy,wpStill->Adc
open Go.RowKit renaming Hid->Aah,intOf->Aat
open List renaming getElem_cons_succ->Adh,replicate->Aac,flatMap_cons->Abg,length_append->Aaf,length_cons->Aal,append_assoc->Aa8,range->Aaj,mem_map->Abf,cons_append->Aa2,drop_drop->Ac3,range_succ->Abz,map_append->Aao,size_toArray->Abh,length_nil->Aa5,push_toArray->Abj,append_toArray->Aa9,nil_append->Aay,length_map->Aad,length_range->Acx,length_set->Aaz,mem_cons->Aam,toList_toArray->Acz,append_nil->Ab5,length->κ
open Go.World renaming cell?->Aco,size_alloc->Aa3
open Nat renaming zero_add->Abr
open Go.World.ownsRow renaming lt->Adv
open Go.Value.slice renaming injEq->Abp
open Go.Instr renaming slice->Aav,makeSlice->Ach,sureAddr->Adf,sliceAt->Abo,index->Abi,buildSlice->Acd
open Go.Value renaming ownBlock->Aan,oneCell'->Ac8,int->Acj
open Go.Oper renaming wp->Acb
open Go.Result renaming andThen->Aap,andThen_ok->Aau
open Go.Sem renaming run_bind->Aaw,run_pure->Acq
open Go.Op renaming equalIn->Ack
open Go.Proofs.Tryz renaming prog->Aag,underlying60->Acr,underlying30->Aa0
open Int renaming toNat_natCast->Abq,toNat->Acs
open Bool renaming false_eq_true->Ab2,and_eq_true->Abc,and_eq_false_iff->Ac2
open UInt8 renaming ofNat->Ab8
open Go.Result.ok renaming injEq->Adg
open Go.Fence renaming wide->Abw
open Array renaming replicate_succ->Aa6,replicate_zero->Aa7,toList_setIfInBounds->Abl
open Option.some renaming injEq->Aai
open Go.Addr.mk renaming injEq->Abd
namespace Go.Proofs.YtkpjfnbbkohciaaGreat
open Go.Proofs.Tryz Go.RowKit Go.Sort
variable{B b base base' cap fuel g j k m n:Nat}{md:Ab0}{ops:Array Abn}{fn:Func}{H α β:Type}{a:Addr}{rest:List Abn}{o:Abn}{p:Nat->Aab->Prop}{e t ty:Aab}
structure dz(p:Prop):Prop where
 dA:p
abbrev pz(b:Nat):Value:=.pointer (some ⟨b,0,none⟩)
abbrev pq(b o:Nat):Value:=.pointer (some ⟨b,o,none⟩)
abbrev i6(b:Int):Value:=.int .i64 b
abbrev u6(b:Int):Value:=.int .u64 b
abbrev cv(b n c:Nat):Value:=.slice (some ⟨b,0,none⟩) n c
abbrev sq(b o n c:Nat):Value:=.slice (some ⟨b,o,none⟩) n c
abbrev nl:Value:=.slice none 0 0
abbrev ad(b o:Nat):Addr:=⟨b,o,none⟩
abbrev rt(a:Array Value):Ab1:=.returned (.tuple a)
def an{p:Prop}(h:p):Aah p:=h
def bK{α:Sort _}(x:α):∃y,y=x:=⟨_,rfl⟩
theorem gh:(∀{α:Type}{xs:List α}{i:Nat}(h:i<xs.toArray.size),xs.toArray[i]=xs[i]'(by simpa using h))/\(∀{α:Type}(a:α)(l:List α)(i:Nat)(h:i+1<κ (a::l)),(a::l)[i+1]=l[i]'(by simpa using h))/\(∀{α:Type}(a:α)(l:List α)(h:0<κ (a::l)),(a::l)[0]=a)/\(∀{α:Type}(l:List α)(i:Nat)(a:α),l.toArray.setIfInBounds i a=(l.set i a).toArray)/\(∀{α:Type}(l:List α)(a b:α),(a::l).set 0 b=b::l)/\(∀{α:Type}(l:List α)(a b:α)(n:Nat),(a::l).set (n+1) b=a::l.set n b):=⟨λh=>List.getElem_toArray h,λa l i h=>Adh a l i h,λ_ _ _=>rfl,λ_ _ _=>List.setIfInBounds_toArray ..,λ_ _ _=>rfl,λ_ _ _ _=>rfl⟩
def aw{p0 p1:Prop}(aa:p0)(aK:p1):Aah p0/\Aah p1:=⟨aa,aK⟩
theorem aA{p0 p1:Prop}(aa:p0)(aK:p1):p0/\p1:=⟨aa,aK⟩
def aW{p0 p1 p2:Prop}(aa:p0)(aK:p1)(aJ:p2):Aah p0/\Aah p1/\Aah p2:=⟨aa,aK,aJ⟩
def db{p0 p1 p2:Prop}(aa:p0)(aK:p1)(aJ:p2):p0/\p1/\p2:=⟨aa,aK,aJ⟩
def bR{p0 p1 p2 p3:Prop}(aa:p0)(aK:p1)(aJ:p2)(ab:p3):Aah p0/\Aah p1/\Aah p2/\Aah p3:=⟨aa,aK,aJ,ab⟩
def iJ{p0 p1 p2 p3:Prop}(aa:p0)(aK:p1)(aJ:p2)(ab:p3):p0/\p1/\p2/\p3:=⟨aa,aK,aJ,ab⟩
def eI{p0 p1 p2 p3 p4:Prop}(aa:p0)(aK:p1)(aJ:p2)(ab:p3)(ad:p4):Aah p0/\Aah p1/\Aah p2/\Aah p3/\Aah p4:=⟨aa,aK,aJ,ab,ad⟩
def xN{p0 p1 p2 p3 p4:Prop}(aa:p0)(aK:p1)(aJ:p2)(ab:p3)(ad:p4):p0/\p1/\p2/\p3/\p4:=⟨aa,aK,aJ,ab,ad⟩
def im{p0 p1 p2 p3 p4 p5:Prop}(aa:p0)(aK:p1)(aJ:p2)(ab:p3)(ad:p4)(ae:p5):Aah p0/\Aah p1/\Aah p2/\Aah p3/\Aah p4/\Aah p5:=⟨aa,aK,aJ,ab,ad,ae⟩
def qA{p0 p1 p2 p3 p4 p5:Prop}(aa:p0)(aK:p1)(aJ:p2)(ab:p3)(ad:p4)(ae:p5):p0/\p1/\p2/\p3/\p4/\p5:=⟨aa,aK,aJ,ab,ad,ae⟩
def xO{p0 p1 p2 p3 p4 p5 p6:Prop}(aa:p0)(aK:p1)(aJ:p2)(ab:p3)(ad:p4)(ae:p5)(af:p6):Aah p0/\Aah p1/\Aah p2/\Aah p3/\Aah p4/\Aah p5/\Aah p6:=⟨aa,aK,aJ,ab,ad,ae,af⟩
def Oo{p0 p1 p2 p3 p4 p5 p6 p7:Prop}(aa:p0)(aK:p1)(aJ:p2)(ab:p3)(ad:p4)(ae:p5)(af:p6)(ah:p7):Aah p0/\Aah p1/\Aah p2/\Aah p3/\Aah p4/\Aah p5/\Aah p6/\Aah p7:=⟨aa,aK,aJ,ab,ad,ae,af,ah⟩
def aa4{p0 p1 p2 p3 p4 p5 p6 p7 p8:Prop}(aa:p0)(aK:p1)(aJ:p2)(ab:p3)(ad:p4)(ae:p5)(af:p6)(ah:p7)(ai:p8):Aah p0/\Aah p1/\Aah p2/\Aah p3/\Aah p4/\Aah p5/\Aah p6/\Aah p7/\Aah p8:=⟨aa,aK,aJ,ab,ad,ae,af,ah,ai⟩
def VO{p0 p1 p2 p3 p4 p5 p6 p7 p8 p9 aj:Prop}(aa:p0)(aK:p1)(aJ:p2)(ab:p3)(ad:p4)(ae:p5)(af:p6)(ah:p7)(ai:p8)(al:p9)(ag:aj):Aah p0/\Aah p1/\Aah p2/\Aah p3/\Aah p4/\Aah p5/\Aah p6/\Aah p7/\Aah p8/\Aah p9/\Aah aj:=⟨aa,aK,aJ,ab,ad,ae,af,ah,ai,al,ag⟩
def Z0{p0 p1 p2 p3 p4 p5 p6 p7 p8 p9 aj an:Prop}(aa:p0)(aK:p1)(aJ:p2)(ab:p3)(ad:p4)(ae:p5)(af:p6)(ah:p7)(ai:p8)(al:p9)(ag:aj)(ak:an):Aah p0/\Aah p1/\Aah p2/\Aah p3/\Aah p4/\Aah p5/\Aah p6/\Aah p7/\Aah p8/\Aah p9/\Aah aj/\Aah an:=⟨aa,aK,aJ,ab,ad,ae,af,ah,ai,al,ag,ak⟩
section
variable{P K:Prop}(k:K)
def Yw(h:P:=by
  refine o4 5 _ (by kernel_rfl) rfl rfl ?_;refine vy (.tmp 56) rfl name rfl NM1 NM2 ?_;intro vn w9 hn hu aS;rw[<-HE.out]at hoa;obtain⟨HO,HN,H8,HU⟩:=bR (hoa.up hu) (hn) ((O8d.vW OO S45 hga).up hu) ((Ud.aE hba (Nat.le_of_lt SW)).trans hu);have HZ:=an (show w.heap.size<=w9.heap.size from HU.size);clear aS;obtain⟨aa,ac,rfl⟩:=HO.cC.slice;obtain⟨na,nc,rfl⟩:=HN.slice;obtain⟨la,lc,rfl⟩:=H8.cC.slice;have JN:=an (AE _ _ _ (xL w9 aa na la _ _ _ ac nc lc _ _ _ HO.cC HN H8.cC) OKJ);have aB:=mB w9 (.cells #[.slice aa (κ hdr) ac,.slice na (κ name) nc,.slice la (κ (cT dead)) lc] 30);have ax:=an (ai w9 (.cells #[.slice aa (κ hdr) ac,.slice na (κ name) nc,.slice la (κ (cT dead)) lc] 30));generalize cT dead=aM at *;refine o3 7 _ (by kernel_rfl) rfl rfl ?_;intro K hK;go_simp;refine hK _ _ ?_;refine o3 8 _ (by kernel_rfl) rfl rfl ?_;intro K2 aq;go_simp;refine JN.mono ?_;rintro e aV⟨vj,rfl,OJ,UJ⟩;refine aq _ _ ?_;refine x1 9 (.tuple #[vj,i6 0]) rfl ?_;simp only[Act.put,gh];refine x1 10 (vj) rfl ?_;simp only[Act.put,gh];refine x1 11 (i6 0) rfl ?_;simp only[Act.put,gh];refine x1 12 (vj) rfl ?_;simp only[Act.put,gh];refine x1 13 (i6 0) rfl ?_;simp only[Act.put,gh];refine⟨by kernel_rfl,?_⟩;(try simp only[Act.put]);go_wp2;go_ret2;refine .inr ⟨_,_,HT,rfl,?_,HU.trans (ax.trans UJ)⟩;rw[RB.out];exact OJ.mono (by rw[aB];have:=HZ.out;omega)):P:=h
def Yx(h:P:=by
  go_in;go_wp2;refine wp_region_held (S:=(λW=>aH W gb 153 (fo H.pb G.next vb vm G.u))) (by kernel_rfl) ?_;change wpAnyH _ _ _ _ _ 10 _ _ (w.drew);generalize w.drew=w1 at *;refine ta 0 ?_;refine ta 2 ?_;refine ta 3 ?_;refine ta 4 ?_;refine tb 5 rfl (yc (λW hS=>hS.cell 0)) ?_;refine ok 1 ?_;intro K hK;go_simp;refine CO.mono ?_;rintro e w2⟨rfl,u2⟩;obtain⟨FS2,U2⟩:=aw (FSx.up u2) (UD.trans u2);refine hK _ _ FS2 ?_;clear hK K;refine ok 6 ?_;intro K hK;go_simp;refine(PM w2 U2).mono ?_;rintro e wx⟨rfl,bd⟩;rw[<-bd];clear bd;refine hK _ _ FS2 ?_;clear hK K;refine ok 7 ?_;intro K hK;go_simp;refine(CN w2 U2).mono ?_;rintro e wx⟨rfl,bd⟩;rw[<-bd];clear bd;refine hK _ _ FS2 ?_;clear hK K;refine ta 8 ?_;refine ta 9 ?_;refine dn ?_;go_wp2;go_ret;exact⟨by rw[HR.out];rfl,U2⟩):P:=h
def Yy(h:P:=by
  clear sza;go_wp2_with fail;refine PT.mono ?_;rintro e w7⟨vp,rfl,op,u7⟩;obtain⟨U7,OP,au⟩:=aW (U6.trans u7) op.cC (OL6.up u7);obtain⟨pa,pc,ar⟩:=op.cC.slice;rw[h2]at ar;subst ar;have P2:=an (h2 (κ l));have MK:=λW=>DE (P:=prog) 30 5 (.int .u8 0) 1 underlying30 eu n (by omega) (by omega) W;have U8:=an (ai w7 (.cells (j2 (.int .u8 0) n) 5));obtain⟨aG,ay,NE⟩:=aW (OP.up U8) (au.up U8) (show(Value.slice la (5*κ l) lc).ownBlock≠some w7.heap.size from λe=>by have:=(au.aN _ e).2;omega);have Z8:=aH.new w7 5 (j2 (.int .u8 0) n);obtain⟨WN,aJ⟩:=aw (show w.heap.size<=w7.heap.size from U7.size) (U7.trans U8);have aQ:∀W,(Instr.slice 30 (cv w7.heap.size n n) (some (i6 2)) none none).run prog W=.ok (sq w7.heap.size 2 (n-2) (n-2)) W:=λW=>by exact Xb
  go_wp2_with((with_reducible refine zo (.tmp 74) (.tmp 75) 30 30 ?_);refine hC rfl (.tmp 74) (.tmp 75) 30 30 rfl 5 underlying30 (by kernel_rfl) aF cp w7.heap.size 0 n n rfl (.slice pa 2 pc) (aX [2] [κ l]) rfl aG (by rw[P2.out];omega) 5 _ Z8 (by rw[P2.out,rJ];omega) ?_);intro w9 aI aK az;obtain⟨B9,aC,U9⟩:=aW (show aH w9 w7.heap.size 5 ((splice (List.replicate n (0:UInt8)) 0 (aX [2] [κ l])).map aF).toArray from by rw[<-BT];have:=aI;rw[LI]at this;exact this) (show Own aF 5 w9 w4.heap.size (.slice la (5*κ l) lc) (ie (l.map dC))from World.ownsRow.kept ay az (.inr NE)) (aJ.aE aK WN);clear MK;go_wp2_with((with_reducible refine zo (.tmp 78) (.tmp 79) 30 30 ?_);refine hC rfl (.tmp 78) (.tmp 79) 30 30 rfl 5 underlying30 (by kernel_rfl) aF cp w7.heap.size 2 (n-2) (n-2) rfl (.slice la (5*κ l) lc) (ie (l.map dC)) rfl aC.cC (by rw[LB.out];omega) 5 _ B9 (by rw[LB.out];unfold splice;simp;omega) ?_);intro aV aq al aM;have bq:=an (show aH aV w7.heap.size 5 ((iB t l).map aF).toArray from by rw[HST.out,<-LB.out,<-Gz P2.out (by rw[LB.out];omega),<-BT];exact aq)
  obtain⟨U10,av⟩:=aw (U9.aE al WN) (show(iB t l).length=n by rw[HST.out,List.length_append,List.length_append,P2.out,LB.out,List.length_replicate];omega);go_wp2;go_ret2;refine⟨_,rfl,?_,U10⟩;have:=KP bq WN (by rw[av.out];omega);rw[av.out]at this;exact this):P:=h
def Yz(h:P:=by
  obtain⟨ab,cb,rfl⟩:=os7.cE.slice;obtain⟨zs,e,z⟩:=Rz.s os7 u s.t.size;have s:=s.new z;have E:=an (show nT M full=(0,Pe M nx l2 (Bm M.l full).id)from by rw[DM.out];unfold C1 Eh;rw[hr];rfl);clear hr;go_wp2_with(refine fw s ?_;intro _ w s);have e0:w.cell? ⟨_,0,none⟩=some (.int .u64 (y.id:Int)):=(s.e5 (t:=90) gR).cell 0;have c2:w.cell? ⟨mb,2,none⟩=some (.map (some kb)):=(bm.up s.pure).cell 2;refine wp_region_still_tail 6 (by kernel_rfl) (by kernel_rfl) ?_;simp only[List.take_succ_cons,List.take_zero,List.drop_succ_cons,List.drop_zero];change wpStill _ _ w.drew (λa'=>wpList _ _ _ _ a' w.drew) _ _;have UD:=Up.drew (Up.refl w);replace e0:=UD.cell e0;replace c2:=UD.cell c2;have s:=s.up UD;generalize w.drew=w9 at *;repeat still_step
  refine wpStill_nil ?_;have A9:=an (HA.up s.pure);obtain⟨au,aq,-,ao⟩:=A9.out;have B9:aH w9 _ 73 (aS nx (.slice ab (κ l2) cb)):=s.e5 gR;have O9:=s.cE (ys:=zs);rw[e]at O9;go_wp2_with(at_delete;refine Yf rfl (.tmp 57) (.tmp 59) rfl kb n M.B rfl ao y.id rfl YI ?_);intro aV al g10;have bD:=Touch.bg (F:=(·=kb)) g10 (λk hk=>by cases hk;rfl);have bq:=an (B9.az bD (λe=>ao.ne B9 e.symm));have ag:=aq.az bD (λe=>ao.ne aq e.symm);go_wp2_with(first
   | refine cU 73 10 bq ?_
   | ((with_reducible refine cu 73 (.tmp 63) (.tmp 61) ?_);refine cj rfl 73 (.tmp 63) (.tmp 61) rfl mb 0 (aS nx (.slice ab (κ l2) cb)) rfl rfl 76 _ ag (eY nx _) (by simp[nY,aS]) (jf nx ab (κ l2) cb) ?_))
  intro w11 ad ai;rw[A6]at ad;have H:=N2 A9 (O9.mono (Nat.zero_le _)) (al.mono (Nat.le_succ _)) g10 ad ai;go_wp2_with fail;go_ret;rw[E.out,<-hy.out];exact⟨rfl,H.1,(Touch.bW s.pure).and H.2 (λb hb=>.inl hb)⟩):P:=h
def YA(h:P:=by
  have az:=up1.trans up4;clear up1 up4;obtain⟨c0,d0,d1,d2⟩:=CA' w4 az;have aP:=ai w4 (.cells zr 87);obtain⟨aj,aB⟩:=aA (az.trans aP) (RM w4 w0.heap.size az.size);have p1:=aI.up PI1' aj;obtain⟨f0,f1,f2,f3⟩:=CA' _ aj;have hz0:=aj.size;go_wp2_with(at_builtin;refine eM pw rfl (.tmp 33) (.tmp 36) 88 rfl w0.heap.size 87 (.agg #[i6 0,u6 0,.int .u32 0]) 24 underlying88 hy w4.heap.size (κ l+1) 0 [] rfl rfl aB pv1 (l.take i) rfl p1 i (by simp;omega) (by omega) hz0 ?_);intro w6 aa _ b6;try rw[List.nil_append]at aa
  have aL:Up w0 w6:=aj.aE b6 (Nat.le_refl _);clear c0 d0 d1 d2 f0 f1 f2 f3 aB p1 b6 hz0 aP aj az;obtain⟨c0,d0,d1,d2⟩:=CA' _ aL;obtain⟨aC,aJ⟩:=aA (aL.trans (ai w6 (.cells #[i6 ql,u6 (qb:Int),.int .u32 (qs:Int)] 87))) (aa.up (ai w6 (.cells #[i6 ql,u6 (qb:Int),.int .u32 (qs:Int)] 87)));have aS:=aC.size;obtain⟨f0,f1,f2,f3⟩:=CA' _ aC;go_wp2_with(at_builtin;refine eM pw rfl (.tmp 38) (.tmp 40) 88 rfl w0.heap.size 87 (.agg #[i6 0,u6 0,.int .u32 0]) 24 underlying88 hy w4.heap.size (κ l+1) i (l.take i) Lt.symm rfl aJ (cv w6.heap.size 1 1) [⟨ql,qb,qs⟩] rfl (rl w6 _ rfl ql qb qs) (i+1) (by simp;omega) (by omega) aS ?_);intro w8 al _ b8;have aD:Up w0 w8:=aC.aE b8 (Nat.le_refl _);clear c0 d0 d1 d2 f0 f1 f2 f3 aa aJ b8 aS aC aL;obtain⟨c0,d0,d1,d2⟩:=CA' _ aD;obtain⟨p2,a6⟩:=aA (aI.up PI2' aD) aD.size;go_wp2_with(at_builtin;refine eM pw rfl (.tmp 42) (.tmp 45) 88 rfl w0.heap.size 87 (.agg #[i6 0,u6 0,.int .u32 0]) 24 underlying88 hy w4.heap.size (κ l+1) (i+1) (l.take i++[⟨ql,qb,qs⟩]) (by simp;omega) rfl al pv2 (l.drop i) rfl p2 (κ l+1) (by simp;omega) (by omega) a6 ?_);intro w9 ax _ b9;go_wp2_with fail;go_ret2;exact⟨_,rfl,ax.mono aK.size,(aK.trans aD).aE b9 aK.size⟩):P:=h
def YB(h:P:=by
  go_in;go_wp2_with(refine arm ?_);refine wp_region_still_tail 6 (by kernel_rfl) (by kernel_rfl) ?_;simp only[List.take_succ_cons,List.take_zero,List.drop_succ_cons,List.drop_zero];change wpStill _ _ (World.drew _) (λa'=>wpList _ _ _ _ a' (World.drew _)) _ _;repeat still_step
  refine wpStill_nil ?_;go_wp2;refine wp_region_still_tail 6 (by kernel_rfl) (by kernel_rfl) ?_;simp only[List.take_succ_cons,List.take_zero,List.drop_succ_cons,List.drop_zero];change wpStill _ _ (World.drew _) (λa'=>wpList _ _ _ _ a' (World.drew _)) _ _;repeat still_step
  refine wpStill_nil ?_;go_wp2_with fail;refine FR.mono ?_;rintro e w5⟨rfl,S5,T5⟩;obtain⟨A5,T5⟩:=aw (A2.Gw S5 T5) ((Touch.bW (F:=PF H) U2).trans (T5.mono (F':=PF H) (λn h=>.inr (.inl h))) (λn h _=>h));go_wp2;go_ret;exact⟨⟨_,rfl⟩,by rw[HS.out];exact A5,T5⟩):P:=h
def YC(h:dz K->P:=by
  intro ζ;obtain⟨w2,hw2⟩:=bK ((w.alloc (.cells (gi o vd vk) 33)).alloc (.cells (aC aK) 60));obtain⟨u1,u2⟩:=aA (ai w (.cells (gi o vd vk) 33)) (ai (w.alloc (.cells (gi o vd vk) 33)) (.cells (aC aK) 60));obtain⟨b1,b2⟩:=aA ((aH.new w 33 (gi o vd vk)).up u2) (aH.new (w.alloc (.cells (gi o vd vk) 33)) 60 (aC aK));rw[aL]at b2;have UU:=an (u1.trans u2);rw[<-hw2]at b1 b2 UU;obtain⟨HW2,S2,LT,IS⟩:=bR hw2 (show w2.heap.size=w.heap.size+2 from by rw[hw2];simp only[aL]) (show(∀k,cI H.h k->k<w.heap.size)/\p<w.heap.size from⟨λk hk=>A.ga.pa.lt k (.inr (.inr hk)),A.e5.lt⟩) (show(prog.info? 60).map (·.size)=some (aC aK).size from dx);have c0:w2.cell? (ad w.heap.size 0)=some (i6 o.kind):=b1.cell 0;have c1:w2.cell? (ad w.heap.size 1)=some (.string (strOf o.name)):=b1.cell 1;have c3:w2.cell? (ad w.heap.size 3)=some (i6 o.n):=b1.cell 3;rw[hw2]at c0;rw[hw2]at c1;rw[hw2]at c3;rw[hk]at c0;go_in;revert c0;revert c3;revert c1;revert IS;revert LT;revert S2;revert HW2;revert UU;revert b2;revert b1;revert u2;revert u1;revert hw2;revert w2;exact ζ.dA):P:=h ⟨k⟩
def Un(h:dz K->P:=by
  intro ζ;obtain⟨w2,hw2⟩:=bK ((w.alloc (.cells (gi o vd vk) 33)).alloc (.cells (aC aK) 60));obtain⟨u1,u2⟩:=aA (ai w (.cells (gi o vd vk) 33)) (ai (w.alloc (.cells (gi o vd vk) 33)) (.cells (aC aK) 60));obtain⟨b1,b2⟩:=aA ((aH.new w 33 (gi o vd vk)).up u2) (aH.new (w.alloc (.cells (gi o vd vk) 33)) 60 (aC aK));rw[aL]at b2;have UU:=an (u1.trans u2);rw[<-hw2]at b1 b2 UU;obtain⟨HW2,S2,LT,IS⟩:=bR hw2 (show w2.heap.size=w.heap.size+2 from by rw[hw2];simp only[aL]) (show(∀k,cI H.h k->k<w.heap.size)/\p<w.heap.size from⟨λk hk=>A.ga.pa.lt k (.inr (.inr hk)),A.e5.lt⟩) (show(prog.info? 60).map (·.size)=some (aC aK).size from dx);have c0:w2.cell? (ad w.heap.size 0)=some (i6 o.kind):=b1.cell 0;have c1:w2.cell? (ad w.heap.size 1)=some (.string (strOf o.name)):=b1.cell 1;rw[hw2]at c0;rw[hw2]at c1;rw[hk]at c0;go_in;revert c0;revert c1;revert IS;revert LT;revert S2;revert HW2;revert UU;revert b2;revert b1;revert u2;revert u1;revert hw2;revert w2;exact ζ.dA):P:=h ⟨k⟩
def YD(h:dz K->P:=by
  intro ζ;obtain⟨w2,hw2⟩:=bK ((w.alloc (.cells (gi o vd vk) 33)).alloc (.cells (aC aK) 60));obtain⟨u1,u2⟩:=aA (ai w (.cells (gi o vd vk) 33)) (ai (w.alloc (.cells (gi o vd vk) 33)) (.cells (aC aK) 60));obtain⟨b1,b2⟩:=aA ((aH.new w 33 (gi o vd vk)).up u2) (aH.new (w.alloc (.cells (gi o vd vk) 33)) 60 (aC aK));rw[aL]at b2;have UU:=an (u1.trans u2);rw[<-hw2]at b1 b2 UU;obtain⟨HW2,HA,HN,IS⟩:=bR hw2 (A.up UU) hn (show(prog.info? 60).map (·.size)=some (aC aK).size from dx);have c0:w2.cell? (ad w.heap.size 0)=some (i6 o.kind):=b1.cell 0;have c1:w2.cell? (ad w.heap.size 1)=some (.string (strOf o.name)):=b1.cell 1;rw[hw2]at c1;rw[hw2]at c0;rw[hk]at c0;go_in;revert c0;revert c1;revert IS;revert HN;revert HA;revert HW2;revert UU;revert b2;revert b1;revert u2;revert u1;revert hw2;revert w2;exact ζ.dA):P:=h ⟨k⟩
def YE(h:P:=by
  obtain rfl:k=κ l:=by omega
  have b3:((κ l:Int)<(κ l:Int))=False:=by simp
  have os:=OS.out;rw[List.take_length,Nat.sub_self,List.replicate_zero,List.append_nil]at os;obtain⟨O9,a1,IB⟩:=aW os (zE next (some ⟨w.heap.size+2,0,none⟩) (κ l) (κ l)) (eY next (.slice (some ⟨w.heap.size+2,0,none⟩) (κ l) (κ l)));clear os OS k1;go_wp2_with(first
   | ((with_reducible refine dI 73 #[(0,.tmp 26),(1,.tmp 27)] ?_);refine kK rfl 73 0 1 (.tmp 26) (.tmp 27) rfl _ _ (aS next (.slice (some ⟨w.heap.size+2,0,none⟩) (κ l) (κ l))) a1 rfl rfl ?_)
   | refine cZ 73 2 28 (aS next (.slice (some ⟨w.heap.size+2,0,none⟩) (κ l) (κ l))) BR ?_)
  intro wz hbz ag;obtain⟨BZ,UZ⟩:=aw hbz (UR.grown ag (λkk ao=>by cases ao;omega));obtain⟨ys,h1,h2,h3⟩:=O9.out;have OZ:=an (show bq wz w.heap.size (.slice (some ⟨w.heap.size+2,0,none⟩) (κ l) (κ l)) l from⟨ys,h1,ak.kept h2 ag (.inr (by simp[Value.ownBlock])),λy hy=>ak.kept (h3 y hy) ag (.inr (ew (by decide) BR (h3 y hy)))⟩);clear hbz ag h1 h2 h3;go_wp2_with fail;(try simp only[exi]);exact bodyPost_ret (v:=.agg (aS next (.slice (some ⟨w.heap.size+2,0,none⟩) (κ l) (κ l)))) (nw rfl _ _ _ (w.heap.size+1) 73 _ rfl BZ _ underlying73 rfl IB) rfl ⟨_,rfl,OZ,UZ⟩):P:=h
def TD(h:dz K->P:=by
  intro ζ;obtain⟨w2,hw2⟩:=bK ((w.alloc (.cells (gi o vd vk) 33)).alloc (.cells (aC aK) 60));obtain⟨u1,u2⟩:=aA (ai w (.cells (gi o vd vk) 33)) (ai (w.alloc (.cells (gi o vd vk) 33)) (.cells (aC aK) 60));obtain⟨b1,b2⟩:=aA ((aH.new w 33 (gi o vd vk)).up u2) (aH.new (w.alloc (.cells (gi o vd vk) 33)) 60 (aC aK));rw[aL]at b2;have UU:=an (u1.trans u2);rw[<-hw2]at b1 b2 UU;obtain⟨B1,B2,HW2,HA,HN,HI,IS⟩:=xO b1 b2 hw2 (A.up UU) hn I (show(prog.info? 60).map (·.size)=some (aC aK).size from dx);obtain⟨vb,bm,os,ma⟩:=HA.out;have hv:=os.cE;revert hv;revert ma;revert os;revert bm;revert vb;revert IS;revert HI;revert HN;revert HA;revert HW2;revert B2;revert B1;revert UU;revert b2;revert b1;revert u2;revert u1;revert hw2;revert w2;exact ζ.dA):P:=h ⟨k⟩
def TE(h:dz K->P:=by
  intro ζ;have F7:=an (show aH w7 wr.heap.size 326 (h4 ⟨false,(x:Int),(y:Int)⟩)/\Up w4 w7 from⟨F6.1.up u7,F6.2.trans u7⟩);refine hK _ _ F7.1 ?_;refine tk 12 (.tuple #[vp,i6 0]) rfl ya (F7.1) ?_;refine tk 13 (vp) rfl ya (F7.1) ?_;refine tk 14 (i6 0) rfl ya (F7.1) ?_;refine tk 15 (vp) rfl ya (F7.1) ?_;refine tk 16 (i6 0) rfl ya (F7.1) ?_;refine dn ?_;obtain⟨OP,OZ,UZ⟩:=aW (show Own aF 5 w7 w4.heap.size vp bb from by rw[BB.out];exact OP) (O3.up F7.2) (U3.trans F7.2);have ar:=an (show a8 w7 vp bb from OP.cC);clear F7;obtain⟨za,zc,ak⟩:=ar.slice;rw[HBL.out]at ak;revert ak;revert zc;revert za;revert ar;revert UZ;revert OZ;revert OP;exact ζ.dA):P:=h ⟨k⟩
def TF(h:dz K->P:=by
  intro ζ;have F7:=an (show aH w7 wr.heap.size 326 (h4 ⟨true,(x:Int),(y:Int)⟩)/\Up w4 w7 from⟨F6.1.up u7,F6.2.trans u7⟩);refine hK _ _ F7.1 ?_;refine tk 12 (.tuple #[vp,i6 0]) rfl ya (F7.1) ?_;refine tk 13 (vp) rfl ya (F7.1) ?_;refine tk 14 (i6 0) rfl ya (F7.1) ?_;refine tk 15 (vp) rfl ya (F7.1) ?_;refine tk 16 (i6 0) rfl ya (F7.1) ?_;refine dn ?_;obtain⟨OP,OZ,UZ⟩:=aW (show Own aF 5 w7 w4.heap.size vp bb from by rw[BB.out];exact OP) (O3.up F7.2) (U3.trans F7.2);have ar:=an (show a8 w7 vp bb from OP.cC);clear F7;obtain⟨za,zc,ak⟩:=ar.slice;rw[HBL.out]at ak;revert ak;revert zc;revert za;revert ar;revert UZ;revert OZ;revert OP;exact ζ.dA):P:=h ⟨k⟩
def TG(h:dz K->P:=by
  intro ζ;obtain⟨HV,HR,U1,U2⟩:=bR hv hr (ai w (.cells (aS next (.slice la (κ l) lc)) 73)) (ai (w.alloc (.cells (aS next (.slice la (κ l) lc)) 73)) (.cells (aS 0 (.slice none 0 0)) 73));have b1:=(aH.new w 73 (aS next (.slice la (κ l) lc))).up U2;have c0:((w.alloc (.cells (aS next (.slice la (κ l) lc)) 73)).alloc (.cells (aS 0 (.slice none 0 0)) 73)).cell? ⟨w.heap.size,0,none⟩=some (.int .u64 (next:Int)):=b1.cell 0;have c1:((w.alloc (.cells (aS next (.slice la (κ l) lc)) 73)).alloc (.cells (aS 0 (.slice none 0 0)) 73)).cell? ⟨w.heap.size,1,none⟩=some (.slice la (κ l) lc):=b1.cell 1;have b2:=aH.new (w.alloc (.cells (aS next (.slice la (κ l) lc)) 73)) 73 (aS 0 (.slice none 0 0));rw[aL]at b2;obtain⟨B2,UU,C1,C0,SZ⟩:=eI b2 (U1.trans U2) c1 c0 (show((w.alloc (.cells (aS next (.slice la (κ l) lc)) 73)).alloc (.cells (aS 0 (.slice none 0 0)) 73)).heap.size=w.heap.size+2 by rw[aL,aL]);have MK:∀W:World,(Instr.makeSlice 71 (.int .i64 (κ l:Int)) (.int .i64 (κ l:Int))).run prog W=.ok (.slice (some ⟨W.heap.size,0,none⟩) (κ l) (κ l)) (W.alloc (.cells (madeCells b6 (κ l*11)) 90)):=λW=>BJ 71 90 (.agg b6) 11 112 underlying71 j' (κ l) (by omega) (by omega) W;clear b1 b2;revert MK;revert SZ;revert C0;revert C1;revert UU;revert B2;revert c1;revert c0;revert U2;revert U1;revert HR;revert HV;exact ζ.dA):P:=h ⟨k⟩
def TH(h:P:=by
  clear hvo hn;go_in;go_wp2_with(first
   | refine gS 73 0 (aS next (.slice a (κ l) cap)) ?_)
  refine VN.mono ?_;rintro e w2⟨rfl,u2⟩;obtain⟨U2,B2⟩:=aw (U1.trans u2) (B1.up u2);clear u2;go_wp2_with(first
   | refine cU 73 2 B2 ?_)
  refine(RN _ U2).mono ?_;rintro e w3⟨rfl,u3⟩;have U3:=an (U2.trans u3);clear u3;go_wp2_with fail;go_ret2;exact⟨by rw[HE.out];rfl,U3⟩):P:=h
def TI(h:P:=by
  clear h2 HF2 HF3;go_in;go_wp2_with fail;refine P1.mono ?_;rintro e w2⟨rfl,hw2⟩;rw[hw2];clear hw2;go_wp2_with fail;refine P2.mono ?_;rintro e w2⟨rfl,hw2⟩;rw[hw2];clear hw2;go_wp2;go_ret;exact⟨by rw[HE.out];rfl,rfl⟩):P:=h
def TJ(h:dz K->P:=by
  intro ζ;obtain⟨G7,GV,GL⟩:=aW (show w.heap.size+7<=w5.heap.size from by have:=J5.c2.lt;omega) (show(Value.slice vd (κ pre) vc).ownBlock≠some w5.heap.size from λe=>by have:=(J5.ov.aN _ e).2;omega) (show ga<w5.heap.size from World.block_lt_of_cell? w5 _ CA5);refine ok 11 ?_;intro K hK;refine hB 87 rfl (be hole) e8 ?_;have u8:=ai w5 (.cells (be hole) 87);obtain⟨J6,aq,B8,K8⟩:=bR (J5.up u8) (u8.cell CA5) (aH.new w5 87 (be hole)) (KeepsOthers.alloc w5 (.cells (be hole) 87));have S8:=an (show aH (w5.alloc (.cells (be hole) 87)) w.heap.size 94 #[pz H.pb]/\aH (w5.alloc (.cells (be hole) 87)) (w.heap.size+1) 41 #[sq ga offa (κ ats) ac]/\aH (w5.alloc (.cells (be hole) 87)) (w.heap.size+1+1+1+1) 88 #[.slice vd (κ pre) vc]/\(w5.alloc (.cells (be hole) 87)).cell? (ad ga (offa+κ pre))=some (i6 (i:Int))from⟨J6.x3,J6.x5,J6.x8,aq⟩);refine hK _ _ S8 ?_;clear hK K;(try simp only[Act.put,gh]);revert S8;revert K8;revert B8;revert aq;revert J6;revert u8;revert GL;revert GV;revert G7;exact ζ.dA):P:=h ⟨k⟩
def TK(h:dz K->P:=by
  intro ζ;obtain⟨w2,hw2⟩:=bK ((w.alloc (.cells (gi o vd vk) 33)).alloc (.cells (aC aK) 60));obtain⟨u1,u2⟩:=aA (ai w (.cells (gi o vd vk) 33)) (ai (w.alloc (.cells (gi o vd vk) 33)) (.cells (aC aK) 60));obtain⟨b1,b2⟩:=aA ((aH.new w 33 (gi o vd vk)).up u2) (aH.new (w.alloc (.cells (gi o vd vk) 33)) 60 (aC aK));rw[aL]at b2;have UU:=an (u1.trans u2);rw[<-hw2]at b1 b2 UU;obtain⟨HW2,HA,HN,IS⟩:=bR hw2 (A.up UU) hn (show(prog.info? 60).map (·.size)=some (aC aK).size from dx);have c0:w2.cell? (ad w.heap.size 0)=some (i6 o.kind):=b1.cell 0;have c1:w2.cell? (ad w.heap.size 1)=some (.string (strOf o.name)):=b1.cell 1;have c3:w2.cell? (ad w.heap.size 3)=some (i6 o.n):=b1.cell 3;revert c3;revert c1;revert c0;revert IS;revert HN;revert HA;revert HW2;revert UU;revert b2;revert b1;revert u2;revert u1;revert hw2;revert w2;exact ζ.dA):P:=h ⟨k⟩
def TL(h:dz K->P:=by
  intro ζ;obtain⟨G7,GV,GL,aR⟩:=bR (show w.heap.size+7<=w4.heap.size from by have:=J4.c2.lt;omega) (show(Value.slice vd (κ pre) vc).ownBlock≠some w4.heap.size from λe=>by have:=(J4.ov.aN _ e).2;omega) (show ga<w4.heap.size from World.block_lt_of_cell? w4 _ CA4) (HB4.up (ai w4 (.cells (be hole) 87)));refine hB 87 rfl (be hole) e8 ?_;have u8:=ai w4 (.cells (be hole) 87);obtain⟨J5,CA5,B8,K8⟩:=bR (J4.up u8) (u8.cell CA4) (aH.new w4 87 (be hole)) (KeepsOthers.alloc w4 (.cells (be hole) 87));have S8:=an (show aH (w4.alloc (.cells (be hole) 87)) w.heap.size 94 #[pz H.pb]/\aH (w4.alloc (.cells (be hole) 87)) (w.heap.size+1) 41 #[sq ga offa (κ ats) ac]/\aH (w4.alloc (.cells (be hole) 87)) (w.heap.size+1+1+1+1) 88 #[.slice vd (κ pre) vc]/\(w4.alloc (.cells (be hole) 87)).cell? (ad ga (offa+κ pre))=some (i6 (i:Int))from⟨J5.x3,J5.x5,J5.x8,CA5⟩);refine hK _ _ S8 ?_;(try simp only[Act.put,gh]);revert S8;revert K8;revert B8;revert CA5;revert J5;revert u8;revert aR;revert GL;revert GV;revert G7;exact ζ.dA):P:=h ⟨k⟩
def Zn(h:P:=by
  obtain⟨ao,U5,HN,HK⟩:=bR (B2_4.up u5) (U4.trans u5) hk hkl;obtain⟨x,hx⟩:=bK (recAt G.l k);have HX:=an hx;rw[<-hx]at od ⊢;obtain⟨da,dc,rfl⟩:=(ak.row od pw).slice;clear hk hkl hx;go_wp2_with(first|refine arm ?_|refine pj ?_);intro wz hbz ag;have UZ:=an (U5.grown ag (λk hk=>by grind));go_wp2_with fail;exact bS (.tuple #[.agg (cf x (.slice da (κ x.dead) dc)),i6 0]) hbz (.inr ⟨k,_,by rw[HE.out];exact HN,HK,by rw[<-HX.out],by rw[<-HX.out];exact(ak.kept od ag (.inr (ew (by decide) ao od))).mono U4.size,UZ⟩)):P:=h
def TM(h:dz K->P:=by
  intro ζ;rintro e w6⟨rfl,D7⟩;obtain⟨⟨bn,j7⟩,T7⟩:=J5.put D7;obtain⟨J6,aq,K7⟩:=aW j7 (show w6.cell? (ad ga (offa+κ pre))=some (i6 (i:Int))from fk CA5 T7 hga) (show KeepsOthers w5 w6 from Touch.others T7 (λk hk=>J5.pa.cellsOf hk));have nB:=J5.pa.cc B8 (by decide);have B8:=an (B8.az T7 nB);clear nB;have S7:=an (show aH w6 w.heap.size 94 #[pz H.pb]/\aH w6 (w.heap.size+1) 41 #[sq ga offa (κ ats) ac]/\aH w6 (w.heap.size+1+1+1+1) 88 #[.slice vd (κ pre) vc]/\w6.cell? (ad ga (offa+κ pre))=some (i6 (i:Int))from⟨J6.x3,J6.x5,J6.x8,aq⟩);refine hK _ _ S7 ?_;(try simp only[Act.put,gh]);refine ta 8 ?_;revert S7;revert B8;revert K7;revert aq;revert J6;revert T7;revert j7;revert bn;revert D7;revert w6;exact ζ.dA):P:=h ⟨k⟩
def TN(h:dz K->P:=by
  intro ζ;(try simp only[Act.put,gh]);refine Zk 4 (u6 (id:Int)) rfl rfl (PR x4) ?_;(try simp only[Act.put,gh]);refine B3 6 (.bool true) rfl rfl ?_;(try simp only[Act.put,gh]);refine B3 7 (.bool true) rfl rfl ?_;(try simp only[Act.put,gh]);refine B3 8 (.func (.yield lp) #[] #[]) rfl rfl ?_;(try simp only[Act.put,gh]);refine B3 9 (i6 (k:Int)) rfl rfl ?_;(try simp only[Act.put,gh]);refine vv 10 (by kernel_rfl) rfl rfl ?_;intro K hK;revert hK;revert K;exact ζ.dA):P:=h ⟨k⟩
def TO(h:P:=by
  go_in;go_wp2_with(refine arm ?_);rw[<-HW2.out];refine SP.mono ?_;rintro e w3⟨rfl,u3⟩;obtain⟨U3,ad⟩:=aw (UU.trans u3) (b2.up u3);have c0:=(b1.up u3).cell 0;go_wp2_with(first|refine arm ?_|refine pj ?_);intro wz hbz ag;have UZ:=an (U3.grown ag (λk hk=>by grind));go_wp2;exact bS (hi:=IZ) (.tuple #[.agg b6,i6 141]) hbz (.inl ⟨141,HE,rfl,UZ⟩)):P:=h
def TP(h:P:=by
  rw[<-hzn]at hz;clear hzn;subst hz;obtain⟨bo,y8,bB⟩:=J10.push gr11 own11;obtain⟨d8,f8⟩:=aA (y8.cell 0) (y8.free 0);simp only[List.getElem?_toArray,List.getElem?_cons_zero]at d8;obtain⟨bC,bq⟩:=aw bo (((KW.trans KK).trans (rH U10)).trans (bB.trans (KeepsOthers.setCell w11 ⟨w.heap.size+1+1+1+1,0,none⟩ (.slice za zn zc))));clear c8;go_wp2;exact⟨bq.from _,JJ.vV bC,bn,_,by rw[bp.out,List.map_append];exact bC⟩):P:=h
def TQ(h:P:=by
  go_in;go_wp2_with(refine arm ?_);rw[<-HW2.out];refine SP.mono ?_;rintro e w3⟨rfl,u3⟩;obtain⟨U3,ad⟩:=aw (u1.trans u3) (b2.up u3);go_wp2_with(first|refine arm ?_|refine pj ?_);intro wz hbz ag;have UZ:=an (U3.grown ag (λk hk=>by grind));go_wp2;exact bS (hi:=IZ) (.tuple #[.agg b6,i6 141]) hbz (.inl ⟨141,HE,rfl,UZ⟩)):P:=h
def Kh(h:P:=by
  refine hK _ _ ?_;clear hK K;(try simp only[Act.put,gh]);refine B3 11 (.bool true) rfl rfl ?_;(try simp only[Act.put,gh]);refine B3 12 (.bool true) rfl rfl ?_;(try simp only[Act.put,gh]);refine wpAnyIn_done (by kernel_rfl) ?_ _;gi_wp2;refine bodyPost_ret (results_none rfl _ _ _) rfl ?_;exact⟨⟨_,rfl⟩,.inr ⟨_,aM,aa⟩⟩):P:=h
def TR(h:dz K->P:=by
  intro ζ;refine ta 13 ?_;(try simp only[Act.put,gh]);refine dn ?_;have U10:=an (ai w9 (.cells (be (ao P.st (i,dp b j))) 87));obtain⟨J10,PR,LO⟩:=aW (J9.up U10) (u' w9 _ rfl (ao P.st (i,dp b j))) (show(its.map (ao P.st)).length=κ pre by rw[List.length_map,IL]);obtain⟨n1,n2⟩:=aw (show(κ (its.map (ao P.st)) + [(ao P.st (i,dp b j))].length)*24<=140737488355328 by rw[LO.out];simp;omega) (show(its.map (ao P.st)).length + [(ao P.st (i,dp b j))].length<=9223372036854775807 by rw[LO.out];simp;omega);have c8:=J9.x8.cell 0;simp only[List.getElem?_toArray,List.getElem?_cons_zero]at c8;revert c8;revert n2;revert n1;revert LO;revert PR;revert J10;revert U10;exact ζ.dA):P:=h ⟨k⟩
def TS(h:P:=by
  rw[<-hzn]at hz;clear hzn;subst hz;obtain⟨bo,y8,bB⟩:=J10.push gr11 own11;obtain⟨d8,f8⟩:=aA (y8.cell 0) (y8.free 0);simp only[List.getElem?_toArray,List.getElem?_cons_zero]at d8;have bq:=an (((KW.trans KK).trans (rH U10)).trans (bB.trans (KeepsOthers.setCell w11 ⟨w.heap.size+1+1+1+1,0,none⟩ (.slice za zn zc))));clear c8;go_wp2;exact⟨bq.from _,JJ.vV bo,bn,_,by rw[bp.out,List.map_append];exact bo⟩):P:=h
def TT(h:dz K->P:=by
  intro ζ;refine ta 13 ?_;(try simp only[Act.put,gh]);refine dn ?_;have U10:=an (ai w9 (.cells (be (ao P.st (i,sn))) 87));obtain⟨J10,PR,LO⟩:=aW (J9.up U10) (u' w9 _ rfl (ao P.st (i,sn))) (show(its.map (ao P.st)).length=κ pre by rw[List.length_map,IL]);obtain⟨n1,n2⟩:=aw (show(κ (its.map (ao P.st)) + [(ao P.st (i,sn))].length)*24<=140737488355328 by rw[LO.out];simp;omega) (show(its.map (ao P.st)).length + [(ao P.st (i,sn))].length<=9223372036854775807 by rw[LO.out];simp;omega);have c8:=J9.x8.cell 0;simp only[List.getElem?_toArray,List.getElem?_cons_zero]at c8;revert c8;revert n2;revert n1;revert LO;revert PR;revert J10;revert U10;exact ζ.dA):P:=h ⟨k⟩
def TU(h:dz K->P:=by
  intro ζ;intro w5 ax aD;have ab:=ax;rw[lQ]at ab;have T5:=Touch.bg (F:=(·=w.heap.size+2)) aD (λkk ao=>by cases ao;rfl);have O5:=an (HP x na (κ x.dead) nc 0 (cf x (.slice na (κ x.dead) nc)).toList w5 (by simp[cf]) (QM _ _ _ _) HO ab aD);rw[TS.out]at O5;obtain⟨U5,Z0,Z1,Z2⟩:=bR (U4.grown aD (λkk ao=>by cases ao;omega)) (fk D0 T5 (by omega)) (fk D1 T5 (by omega)) (E4.az T5 (by omega));clear ax ab aD T5;revert Z2;revert Z1;revert Z0;revert U5;revert O5;revert w5;exact ζ.dA):P:=h ⟨k⟩
def TV(h:P:=by
  unfold rP;by_cases h0:a=0
  ·simp_all
  rw[if_neg h0];by_cases hq:a=1+i/8
  ·simp_all
  rw[if_neg hq,if_neg (by omega)];have e:=df P.C root (k:=a-1) (by omega);rw[show 1+(a-1)=a from by omega,<-hF]at e;rw[e,NK _ (by omega),<-e];exact I.ok.node a ha):P:=h
def TW(h:dz K->P:=by
  intro ζ;obtain⟨w2,hw2⟩:=bK ((w.alloc (.cells (gi o vd vk) 33)).alloc (.cells (aC aK) 60));obtain⟨u1,u2⟩:=aA (ai w (.cells (gi o vd vk) 33)) (ai (w.alloc (.cells (gi o vd vk) 33)) (.cells (aC aK) 60));obtain⟨b1,b2⟩:=aA ((aH.new w 33 (gi o vd vk)).up u2) (aH.new (w.alloc (.cells (gi o vd vk) 33)) 60 (aC aK));rw[aL]at b2;have UU:=an (u1.trans u2);rw[<-hw2]at b1 b2 UU;obtain⟨HW2,HA,HN⟩:=aW hw2 (A.up UU) hn;revert HN;revert HA;revert HW2;revert UU;revert b2;revert b1;revert u2;revert u1;revert hw2;revert w2;exact ζ.dA):P:=h ⟨k⟩
def TX(h:dz K->P:=by
  intro ζ;have e0:(kd==0)=false:=by simp;omega
  have e1:(kd==1)=false:=by simp;omega
  have e2:(kd==2)=false:=by simp;omega
  have e3:(kd==3)=false:=by simp;omega
  have e4:(kd==4)=false:=by simp;omega
  have e5:(kd==5)=false:=by simp;omega
  have e6:(kd==6)=false:=by simp;omega
  have e7:(kd==7)=false:=by simp;omega
  have e8:(kd==8)=false:=by simp;omega
  have e9:(kd==9)=false:=by simp;omega
  have B3:=an b2;revert B3;revert e9;revert e8;revert e7;revert e6;revert e5;revert e4;revert e3;revert e2;revert e1;revert e0;exact ζ.dA):P:=h ⟨k⟩
def TY(h:P:=by
  go_in;go_wp2_with fail;refine(R1 _).mono ?_;rintro e w1⟨rfl,up1⟩;go_wp2_with fail;refine(R2 _).mono ?_;rintro e w2⟨rfl,ao⟩;go_wp2;go_ret;exact⟨rfl,up1.trans ao⟩):P:=h
def TZ(h:P:=by
  simp only[Act.put,gh];refine ih 5 _ (by kernel_rfl) rfl rfl ?_;refine Z8 _ (.tmp 11) rfl _ rfl ?_;simp only[Act.put,gh,size_alloc];refine wpAny_take (i:=6) (v:=pz (w5.heap.size+2)) rfl (by kernel_rfl) (by rfl) (by kernel_rfl) (λ_ _ _ h=>h) (.inl ⟨rfl,λ_=>rfl⟩) ?_;refine⟨by rfl,?_⟩;simp only[Act.put,gh];go_wp2;go_ret;exact⟨_,rfl,F.1,F.2⟩):P:=h
def Zo(h:P:=by
  have HE:=an (WM (i:=i) hn);clear hn;obtain⟨U4,B2_4⟩:=aw (U3.trans (ai w3 (.cells b6 90))) ((b2.up u3).up (ai w3 (.cells b6 90)));go_wp2_with(first|refine arm ?_|refine pj ?_);intro wz hbz ag;obtain⟨BZ,UZ⟩:=aw hbz (U4.grown ag (λk hk=>by grind));go_wp2;exact bS (hi:=IZ) (.tuple #[.agg b6,i6 141]) BZ (.inl ⟨141,HE,rfl,UZ⟩)):P:=h
def Zp(h:P:=by
  obtain⟨ao,U5,HN⟩:=aW (B2_4.up u5) (U4.trans u5) hn;clear hn;go_wp2_with(first|refine arm ?_|refine pj ?_);intro wz hbz ag;obtain⟨BZ,UZ⟩:=aw hbz (U5.grown ag (λk hk=>by grind));go_wp2;exact bS (hi:=IZ) (.tuple #[.agg b6,i6 (n:Int)]) BZ (.inl ⟨n,by rw[HE.out];exact HN,rfl,UZ⟩)):P:=h
def T0(h:P:=by
  refine⟨_,_,rfl,.q (v:=nl) (ak.nil _ _ _ _ _) u s.t.size,?_⟩;repeat refine kt ?_
  refine kn (λ_ w u s=>?_);refine ks (λw s=>?_);refine kt ?_;refine kd (λw u s=>?_);have nz:((n:Int) != 0)=true:=by have:=K.nz n hx;simp;omega
  go_wp2_with fail;refine l5 s ?_;exact⟨(n:Int),G,H.h.vp,rfl,.inl ⟨n,hx,rfl,K.nz n hx,rfl⟩,A.up s.pure,Touch.bW s.pure,λ_ h=>.inl h⟩):P:=h
def wx(h:P:=by
  go_wp2_with(refine arm ?_);rw[<-HW2.out];refine CL.mono ?_;intro e w3 hr;have HR:=an (hr.pre uu);obtain⟨r,G2,vp,bf,H2,rfl,_⟩:=hr;go_wp2;go_ret;exact HR):P:=h
def F6(h:dz K->P:=by
  intro ζ;obtain⟨w2,hw2⟩:=bK ((w.alloc (.cells (gi o vd vk) 33)).alloc (.cells (aC aK) 60));obtain⟨u1,u2⟩:=aA (ai w (.cells (gi o vd vk) 33)) (ai (w.alloc (.cells (gi o vd vk) 33)) (.cells (aC aK) 60));obtain⟨b1,b2⟩:=aA ((aH.new w 33 (gi o vd vk)).up u2) (aH.new (w.alloc (.cells (gi o vd vk) 33)) 60 (aC aK));rw[aL]at b2;have UU:=an (u1.trans u2);rw[<-hw2]at b1 b2 UU;have HW2:=an hw2;revert HW2;revert UU;revert b2;revert b1;revert u2;revert u1;revert hw2;revert w2;exact ζ.dA):P:=h ⟨k⟩
def Ki(h:P:=by
  obtain rfl:j=κ x.dead:=by omega
  have b8:((κ x.dead:Int)<(κ x.dead:Int))=False:=by simp
  have hd:=HD.out;rw[List.take_length]at hd;have HF:=an (HE.trans hd);clear hd;go_wp2;go_ret;exact⟨by rw[HF.out];rfl,UR⟩):P:=h
def Kj(h:P:=by
  go_in;go_wp2_with fail;refine P1.mono ?_;rintro e w2⟨rfl,hw2⟩;rw[hw2];clear hw2;go_wp2;go_ret;exact⟨by rw[HE.out];rfl,Up.refl _⟩):P:=h
def T1(h:P:=by
  simp at h2;subst h2;obtain rfl:lo=0:=by omega
  simp only[Value.slice.injEq]at hv;obtain⟨rfl,_,rfl⟩:=hv;refine .inl ⟨by simp,_,cap,rfl,hm,λh=>?_⟩;by_cases hc:cap=0
  ·exact hc
  ·simp_all):P:=h
def T2(h:P:=by
  go_in;go_wp2_with fail;refine P1.mono ?_;rintro e w2⟨rfl,hw2⟩;rw[hw2];clear hw2;go_wp2;go_ret;exact⟨by rw[HE.out];rfl,rfl⟩):P:=h
def T3(h:dz K->P:=by
  intro ζ;have b5:((2:Int)+5*(κ l:Int)>(n:Int))=False:=by simp;omega
  have wl:=dP (κ l) (by omega);have UA:=an (ai w5 (.cells #[i6 2] 3));have sza:=aL w5 (.cells #[i6 2] 3);have UB:=an (ai (w5.alloc (.cells #[i6 2] 3)) (.cells #[u6 (κ l:Int)] 70));have i1:=(aD.er (f:=bz) w5 w5.heap.size rfl #[i6 2] 3 (0,0) [2] 1 rfl (by unfold maxLen;omega) rfl).up UB;have i2:=aD.er (f:=cM) (w5.alloc (.cells #[i6 2] 3)) (w5.heap.size+1) (by rw[sza]) #[u6 (κ l:Int)] 70 (0,0) [κ l] 1 rfl (by unfold maxLen;omega) rfl;obtain⟨PT,U6⟩:=aw (yf _ _ [2] i1 (by simp) _ [κ l] i2 (by intro k hk;simp at hk;omega) (N9 (by omega))) ((U5.trans UA).trans UB);revert U6;revert PT;revert i2;revert i1;revert UB;revert sza;revert UA;revert wl;revert b5;exact ζ.dA):P:=h ⟨k⟩
def T4(h:P:=by
  go_in;go_wp2_with fail;refine P1.mono ?_;rintro e w2⟨rfl,hw2⟩;rw[hw2];clear hw2;go_wp2;go_ret2;exact⟨_,by rw[HE.out]<;>rfl,by rw[HE.out];exact Own.nil _ _ _ _,Up.refl _⟩):P:=h
def Zq(h:P:=by
  have HE:=an (WN (i:=i) hn (by omega));clear hn;obtain⟨U4,B2_4⟩:=aw (U3.trans (ai w3 (.cells b6 90))) ((b2.up u3).up (ai w3 (.cells b6 90)));go_wp2_with(first|refine arm ?_|refine pj ?_);intro wz hbz ag;have UZ:=an (U4.grown ag (λk hk=>by grind));go_wp2;exact bS (hi:=IZ) (.tuple #[.agg b6,i6 172]) hbz (.inl ⟨172,HE,rfl,UZ⟩)):P:=h
def T5(h:P:=by
  have hr:=an hr0;clear hr0;have FT:Calls prog 44 #[lD gb] w λe w'=>e=.returned (.int .i64 r)/\Up w w':=by rw[hr.out];exact Ik w gb H _ (a6.up s.pure) k1 k3 vF
  refine FT.mono ?_;rintro e w⟨rfl,u⟩;have s:=s.up u;go_wp2_with fail;refine l5 s ?_;exact⟨r,_,H.h.vp,rfl,.inr ⟨nx,l',hx,rfl,hr⟩,a6.up s.pure,T.iK s.pure,λ_ h=>.inl h⟩):P:=h
def T6(h:dz K->P:=by
  intro ζ;obtain⟨u0,u1⟩:=aA (ai w (.cells #[.string (strOf full)] 9)) (ai (w.alloc (.cells #[.string (strOf full)] 9)) (.cells #[i6 N] 3));obtain⟨k0,k1,uu⟩:=db (u1.cell ((aH.new w 9 _).cell 0)) ((aH.new (w.alloc (.cells #[.string (strOf full)] 9)) 3 #[i6 N]).cell 0) ((u0).trans u1);obtain⟨w2,hw2⟩:=bK (((w.alloc (.cells #[.string (strOf full)] 9)).alloc (.cells #[i6 N] 3)));simp only[aL]at k1;rw[<-hw2]at uu k0 k1;have HW2:=an hw2;revert HW2;revert k1;revert k0;revert uu;revert hw2;revert w2;revert u1;revert u0;exact ζ.dA):P:=h ⟨k⟩
def T7(h:dz K->P:=by
  intro ζ;have u3:=u2.trans (ai w2 (.cells (aS 0 (nl)) 73));obtain⟨u4,ba,bb⟩:=db (u3.trans (ai (w2.alloc (.cells (aS 0 (nl)) 73)) (.cells b6 90))) ((aH.new w2 73 (aS 0 (nl))).up (ai (w2.alloc (.cells (aS 0 (nl)) 73)) (.cells b6 90))) (aH.new (w2.alloc (.cells (aS 0 (nl)) 73)) 90 b6);rw[aL]at bb;obtain⟨U4,BA,BB,S2⟩:=bR u4 ba bb (u2.size);revert S2;revert BB;revert BA;revert U4;revert bb;revert ba;revert u4;revert u3;exact ζ.dA):P:=h ⟨k⟩
def Kk(h:dz K->P:=by
  intro ζ;refine hK _ _ ?_;(try simp only[Act.put,gh]);refine B3 11 (.bool false) rfl rfl ?_;(try simp only[Act.put,gh]);refine B3 12 (.bool false) rfl rfl ?_;(try simp only[Act.put,gh]);refine wpAnyIn_done (by kernel_rfl) ?_ _;exact ζ.dA):P:=h ⟨k⟩
def T8(h:P:=by
  rw[hs]at hf;simp only[Nat.zero_add]at hf;have hne:¬k=0:=by omega
  have hle:¬16777216<k:=by omega
  simp only[Array.size_zipIdx,hC]at hf;have hv:(Value.agg C).cells=C:=rfl;simp[Instr.buildSlice,run_underlying ht,sizeOf,typeInfo,hi,hz0,hz1,zeroValue,Instr.fill,hv,hC,hne,hle,newRow];rw[hf]):P:=h
def T9(h:dz K->P:=by
  intro ζ;refine wpStill_nil ?_;obtain⟨HA,HT⟩:=aw (a7.set HS (i:=1024+q) (by omega) (i6 ((r-1:Nat):Int))) (te HS (1024+q) (i6 ((r-1:Nat):Int)));have aj:=HA.cell (i:=i) (by omega);have ay:=HA.cell (i:=1024+q) (by omega);have ag:=HA.free i;have ao:=HA.free (1024+q);simp only[show ¬i=1024+q by omega,if_false,if_true,ra hi]at aj ay;revert ay;revert aj;revert ao;revert ag;revert HT;revert HA;exact ζ.dA):P:=h ⟨k⟩
def T'(h:dz K->P:=by
  intro ζ;(try simp only[Act.put,gh]);refine ta 7 ?_;(try simp only[Act.put,gh]);refine ta 8 ?_;(try simp only[Act.put,gh]);refine ta 9 ?_;(try simp only[Act.put,gh]);exact ζ.dA):P:=h ⟨k⟩
def Ua(h:dz K->P:=by
  intro ζ;have ao:q<8:=by omega
  have ak:r<8:=by omega
  have ar:((i:Int)/8)=(q:Int):=by omega
  have al:((i:Int)%8)=(r:Int):=by omega
  have b8:((q:Int)<8)=True:=by simp;omega
  have b9:((r:Int)<8)=True:=by simp;omega
  have wq:IntKind.i64.wrap (q:Int)=(q:Int):=aY q (by omega);have wr:IntKind.i64.wrap (r:Int)=(r:Int):=aY r (by omega);revert wr;revert wq;revert b9;revert b8;revert al;revert ar;revert ak;revert ao;exact ζ.dA):P:=h ⟨k⟩
def Ub(h:dz K->P:=by
  intro ζ;obtain⟨c8,c6,c7,f6,f7⟩:=xN (HJ.x8.cell 0) (HJ.x6.cell 0) (HJ.x7.cell 0) (HJ.x6.free 0) (HJ.x7.free 0);simp only[List.getElem?_toArray,List.getElem?_cons_zero]at c8 c6 c7;obtain⟨za,zc,hz⟩:=(ak.row HJ.ov pw).slice;revert hz;revert zc;revert za;revert c7;revert c6;revert c8;revert f7;revert f6;exact ζ.dA):P:=h ⟨k⟩
def Uc(h:dz K->P:=by
  intro ζ;rintro e w5⟨rfl,D7⟩;obtain⟨⟨bn,j7⟩,T7⟩:=J4.put D7;obtain⟨J5,CA5,K7⟩:=aW j7 (show w5.cell? (ad ga (offa+κ pre))=some (i6 (i:Int))from fk CA4 T7 hga) (show KeepsOthers w4 w5 from Touch.others T7 (λk hk=>J4.pa.cellsOf hk));have S7:=an (show aH w5 w.heap.size 94 #[pz H.pb]/\aH w5 (w.heap.size+1) 41 #[sq ga offa (κ ats) ac]/\aH w5 (w.heap.size+1+1+1+1) 88 #[.slice vd (κ pre) vc]/\w5.cell? (ad ga (offa+κ pre))=some (i6 (i:Int))from⟨J5.x3,J5.x5,J5.x8,CA5⟩);refine hK _ _ S7 ?_;revert S7;revert K7;revert CA5;revert J5;revert T7;revert j7;revert bn;revert D7;revert w5;exact ζ.dA):P:=h ⟨k⟩
def Ud(h:dz K->P:=by
  intro ζ;have OS0:=an ((bq.aaD ((w.alloc (.cells (aS next (.slice la (κ l) lc)) 73)).alloc (.cells (aS 0 (.slice none 0 0)) 73)) (κ l) (by unfold maxLen;omega)).mono (base':=w.heap.size) UU.size);have U3:=ai ((w.alloc (.cells (aS next (.slice la (κ l) lc)) 73)).alloc (.cells (aS 0 (.slice none 0 0)) 73)) (.cells (madeCells b6 (κ l*11)) 90);obtain⟨K0,K1,KB,KU⟩:=bR (U3.cell C0) (U3.cell C1) (B2.up U3) (UU.trans U3);rw[SZ.out]at OS0;clear U3;revert OS0;revert KU;revert KB;revert K1;revert K0;exact ζ.dA):P:=h ⟨k⟩
def Ue(h:P:=by
  go_wp2_with fail;refine P2.mono ?_;rintro e w2⟨rfl,hw2⟩;rw[hw2];clear hw2;go_wp2;go_ret2;exact⟨_,by rw[HR.out]<;>rfl,by rw[HR.out];exact oc,ur⟩):P:=h
def Uf(h:dz K->P:=by
  intro ζ;have HB:=an hB;have x3:=hB.cell (p:=⟨b,off+x*11+3,none⟩) HBS;rw[(CX.out x hx).1]at x3;have x0:=hB.cell (p:=⟨b,off+x*11,none⟩) HBS;rw[(CX.out x hx).2]at x0;have x4:=hB.cell (p:=⟨b,off+i*11+3,none⟩) HBS;rw[CO.out]at x4;have b3:((x:Int)<(κ l:Int))=True:=by simp;omega
  revert b3;revert x4;revert x0;revert x3;revert HB;exact ζ.dA):P:=h ⟨k⟩
def Ug(h:P:=by
  clear hs h0;go_in;go_wp2_with fail;refine SP.mono ?_;rintro e w2⟨rfl,u2⟩;go_wp2;go_ret2;simp;omega):P:=h
def Uh(h:P:=by
  clear hs h0;go_in;go_wp2_with fail;refine SP.mono ?_;rintro e w2⟨rfl,u2⟩;go_wp2;go_ret3;simp;omega):P:=h
def Ui(h:P:=by
  go_in;go_wp2_with(refine arm ?_);refine FT.mono ?_;rintro e w2⟨rfl,u2⟩;have U2:=an (U1.trans u2);go_wp2;go_ret;exact⟨rfl,U2⟩):P:=h
def Uj(h:dz K->P:=by
  intro ζ;obtain⟨OD,U4,B2_4⟩:=aW (ak.up od (ai w3 (.cells (cf x (.slice da (κ x.dead) dc)) 90))) (U3.trans (ai w3 (.cells (cf x (.slice da (κ x.dead) dc)) 90))) ((b2.up u3).up (ai w3 (.cells (cf x (.slice da (κ x.dead) dc)) 90)));have c6:(w3.alloc (.cells (cf x (.slice da (κ x.dead) dc)) 90)).cell? (ad w3.heap.size 6)=some (i6 x.blocks):=(aH.new w3 90 (cf x (.slice da (κ x.dead) dc))).cell 6;have g1:(i<0)\/((i<0)=False/\(i>=x.blocks)=True/\(x.blocks<=i)=True)\/((i<0)=False/\(i>=x.blocks)=False/\(x.blocks<=i)=False):=by simp;omega
  obtain⟨bl,aB⟩:=bK (x.blocks);have HBL:=an aB;revert HBL;revert aB;revert bl;revert g1;revert c6;revert B2_4;revert U4;revert OD;exact ζ.dA):P:=h ⟨k⟩
def Uk(h:P:=by
  intro K hK;refine hB _ rfl _ js ?_;refine hK _ _ u6 ?_;clear hK K;(try simp only[Act.put,gh]);generalize w5.alloc (.cells (aS 0 (nl)) 73)=W at *;generalize w5.heap.size=q at *;exact FIN q W nx va vm vc nn (an ⟨u6,b6,s5,aD⟩)):P:=h
def Kl(h:dz K->P:=by
  intro ζ;obtain⟨x0,x1,x2,x3,x4,x5⟩:=qA (cell_regrown c0) (cell_regrown d0) (cell_regrown d1) (cell_regrown d2) (cell_regrown e0) (cell_regrown e1);have x6:=cell_regrown e2;revert x6;revert x5;revert x4;revert x3;revert x2;revert x1;revert x0;exact ζ.dA):P:=h ⟨k⟩
def Km(h:P:=by
  have HH:=an hH;clear hH hAt c0 c1;go_wp2_with(first|refine arm ?_|refine pj ?_);intro wz hbz ag;have TZ:=an (((Touch.bW (F:=λk=>PF H k\/k=p) UU).and T3 (λb hb=>.inl (hb.imp (λh=>.inr (.inr h)) id))).and (Touch.bg (F:=(·=w.heap.size+1)) ag (λk hk=>by grind)) (λb hb=>.inr (by omega)));go_wp2;exact bS (hi:=IS) (.tuple #[.agg (aC aK),i6 r]) hbz (by obtain⟨G3,h1,h2⟩:=PP.out;exact⟨c',r,G3,gb',H',vp,rfl,h1,h2.sec B3 (PA.Xx (w0:=w) (w:=w) h2.ga.pa B3 HH (λb hb e=>by have:=LT.1 b hb;omega) (λb hb e=>by rcases al.1 b hb with h|h;have:=LT.1 b (.inr (.inr (.inr h)));omega;have:=S2.out;omega)) ag,HH,TZ,al.mono UU.size⟩)):P:=h
def Ul(h:P:=by
  go_in;go_wp2_with fail;refine(hc _).mono ?_;rintro e w'⟨rfl,up⟩;go_wp2;go_ret3;simp;omega):P:=h
def Um(h:P:=by
  go_in;go_wp2_with fail;refine(R1 _).mono ?_;rintro e w1⟨rfl,up1⟩;go_wp2;go_ret;simp;omega):P:=h
def Zr(h:P:=by
  go_ret;refine⟨?_,ai _ _⟩;refine aaM ?_;rw[dW];try simp only[decide_eq_true_eq,Bool.and_eq_true,Bool.or_eq_true,Bool.and_eq_false_iff,decide_eq_false_iff_not]at *
  try simp only[Bool.false_eq_true,false_iff,true_iff]
  omega):P:=h
def Uo(h:dz K->P:=by
  intro ζ;refine wpQuiet_nil ?_;intro w4 ay;obtain⟨⟨d,os⟩,hw4⟩:=ay;have up4:Up wr w4:=by rw[hw4];exact below_regrown _ _ _
  clear hw4;obtain⟨y0,y1⟩:=aA (cell_regrown (up4.cell c0)) (cell_regrown (up4.cell c1));revert y1;revert y0;revert up4;revert os;revert d;revert w4;exact ζ.dA):P:=h ⟨k⟩
def Uq(h:dz K->P:=by
  intro ζ;(try simp only[Act.put,gh]);refine Zk 4 (u6 (pv:Int)) rfl rfl (PR x4) ?_;(try simp only[Act.put,gh]);refine B3 6 (.bool false) rfl rfl ?_;(try simp only[Act.put,gh]);refine B3 7 (.bool false) rfl rfl ?_;(try simp only[Act.put,gh]);exact ζ.dA):P:=h ⟨k⟩
def Ur(h:P:=by
  have HE:=an (E2 (.inl g1));go_wp2_with(first|refine arm ?_|refine pj ?_);intro wz hbz ag;obtain⟨BZ,UZ⟩:=aw hbz (U4.grown ag (λk hk=>by grind));go_wp2;exact bS (hi:=IZ) (.tuple #[.agg b6,i6 176]) BZ (.inl ⟨176,HE,rfl,UZ⟩)):P:=h
def Us(h:P:=by
  have HE:=an (E2 (.inr (of_eq_true g3)));go_wp2_with(first|refine arm ?_|refine pj ?_);intro wz hbz ag;obtain⟨BZ,UZ⟩:=aw hbz (U4.grown ag (λk hk=>by grind));go_wp2;exact bS (hi:=IZ) (.tuple #[.agg b6,i6 176]) BZ (.inl ⟨176,HE,rfl,UZ⟩)):P:=h
def Ut(h:P:=by
  unfold rP;by_cases h0:a=0
  ·rw[if_pos h0,h0];rfl
  rw[if_neg h0];by_cases h9:a<9
  ·have:=A1 (a-1) (by omega);grind [df]
  ·exact Zt):P:=h
def Uu(h:dz K->P:=by
  intro ζ;obtain⟨u6,b6,aD,s5⟩:=iJ (u5.trans (ai w5 (.cells (aS 0 (nl)) 73))) (aH.new w5 73 (aS 0 (nl))) (rq.up (ai w5 (.cells (aS 0 (nl)) 73))) u5.size;refine hK _ _ u5 ?_;(try simp only[Act.put,gh]);revert s5;revert aD;revert b6;revert u6;exact ζ.dA):P:=h ⟨k⟩
def Uv(h:dz K->P:=by
  intro ζ;intro K hK;refine hB _ rfl _ js ?_;obtain⟨u5,b5⟩:=aA (ai w4 (.cells (aS 0 (nl)) 73)) (aH.new w4 73 (aS 0 (nl)));refine hK _ _ u5 ?_;clear hK K;(try simp only[Act.put,gh]);revert b5;revert u5;exact ζ.dA):P:=h ⟨k⟩
def Uw(h:P:=by
  have HH:=an hH;clear hH hAt c0 c1 c3;go_wp2_with(first|refine arm ?_|refine pj ?_);intro wz hbz ag;have TZ:=an (((Touch.bW (F:=λk=>PF H k\/k=p) UU).and T3 (λb hb=>.inl (hb.imp (λh=>.inr (.inr h)) id))).and (Touch.bg (F:=(·=w.heap.size+1)) ag (λk hk=>by grind)) (λb hb=>.inr (by omega)));go_wp2;exact bS (hi:=IS) (.tuple #[.agg (aC aK),i6 r]) hbz (by obtain⟨G3,h1,h2⟩:=PP.out;exact⟨c',r,G3,gb',H',vp,rfl,h1,h2.sec B3 (PA.Xx (w0:=w) (w:=w) h2.ga.pa B3 HH (λb hb e=>by have:=LT.1 b hb;omega) (λb hb e=>by rcases al.1 b hb with h|h;have:=LT.1 b (.inr (.inr (.inr h)));omega;have:=S2.out;omega)) ag,HH,TZ,al.mono UU.size⟩)):P:=h
def Kn(h:P:=by
  go_wp2_with fail;refine C.mono ?_;rintro e w1⟨rfl,S1,T1⟩;go_wp2;go_ret;exact⟨rfl,S1,T1⟩):P:=h
def Ko(h:P:=by
  rw[List.length_append]at hv;subst hv;refine h a' c' w' (s.zK (hU _) (Touch.bg h2 λk hk=>show v.ownBlock=some k from hk) h1 λk hk=>⟨(h1.aN k hk).2,?_⟩);rcases h4 with h4|⟨g',h4,h5⟩
  ·exact .inl (h4.symm.trans hk)
  ·exact W9):P:=h
def Kp(h:dz K->P:=by
  intro ζ;have lF:κ F=8:=by rw[hF];exact uP I.ok
  have nS:=I.ok.S (k:=i/8) (by omega);rw[<-hF,<-hS]at nS;have lS:κ S=8:=cH nS;have nF:=I.ok.F;rw[<-hF]at nF;revert nF;revert lS;revert nS;revert lF;exact ζ.dA):P:=h ⟨k⟩
def Kq(h:dz K->P:=by
  intro ζ;obtain⟨u0,k0⟩:=aA (ai w (.cells #[.string (strOf full)] 9)) ((aH.new w 9 #[.string (strOf full)]).cell 0);have uu:=u0;obtain⟨w2,hw2⟩:=bK ((w.alloc (.cells #[.string (strOf full)] 9)));rw[<-hw2]at uu k0;have HW2:=an hw2;revert HW2;revert k0;revert uu;revert hw2;revert w2;revert u0;exact ζ.dA):P:=h ⟨k⟩
def Zs(h:P:=by
  rename_i hh;have h2:=(vc.1 (iN.1 hf).1).1;refine hh ⟨hm,?_⟩;rcases Nat.lt_or_ge i l.size with h'|h'
  ·exact h'
  ·simp[Array.getElem?_eq_none h',Array.getD,Nat.not_lt.2 h']at h2):P:=h
def Ux(h:dz K->P:=by
  intro ζ;have e7:=upa.drew;obtain⟨D5,X5,T5⟩:=aW (HDR.up e7) (V7 ((aH.new wr 116 (j6 x)).up ((Up.refl _).drew))) (HTR.trans (Touch.bW (F:=cI h) e7) (λn hn _=>hn));obtain⟨aP,c0⟩:=aA X5.1 D5.cells.1;revert c0;revert aP;revert T5;revert X5;revert D5;revert e7;exact ζ.dA):P:=h ⟨k⟩
def Uy(h:P:=by
  rintro e w2⟨rfl,hw2⟩;rw[hw2];clear hw2;go_wp2;go_ret;exact⟨by rw[HE.out];rfl,Up.refl _⟩):P:=h
def Uz(h:dz K->P:=by
  intro ζ;obtain⟨IN,ON,U4,D0,D1,E4⟩:=im (ke x (.slice na (κ x.dead) nc)) (mq x na (κ x.dead) nc) (UR.trans u4) (u4.cell C0) (u4.cell C1) (BR.up u4);revert E4;revert D1;revert D0;revert U4;revert ON;revert IN;exact ζ.dA):P:=h ⟨k⟩
def UA(h:dz K->P:=by
  intro ζ;(try simp only[Act.put,gh]);refine Zk 0 (sq b off (κ l) cap) rfl rfl (PR x1) ?_;(try simp only[Act.put,gh]);refine B3 2 (pq b (off+k*11)) rfl rfl ?_;(try simp only[Act.put,gh]);refine B3 3 (pq b (off+k*11+4)) rfl rfl ?_;exact ζ.dA):P:=h ⟨k⟩
def UB(h:P:=by
  (try simp only[Act.put,gh]);refine vw 5 (u6 ((recAt l x).id:Int)) w6 (by kernel_rfl) rfl rfl (ib 70 (.tmp 40) rfl ⟨b,off+x*11,none⟩ rfl y0 (λ_=>by kernel_rfl)) ?_;(try simp only[Act.put,gh]);refine vw 6 (cv w6.heap.size 1 1) (w6.alloc (.cells #[u6 ((recAt l x).id:Int)] 70)) (by kernel_rfl) rfl rfl (qs 156 (.tmp 41) rfl (u6 ((recAt l x).id:Int)) rfl (qn w6 _)) ?_;(try simp only[Act.put,gh]);exact FIN):P:=h
def UC(h:P:=by
  have b9:(((p.aT:Nat):Int)>(fl:Int))=True:=by simp;omega
  have DF:=an (HE.trans (DN hb));clear hb;go_wp2_with(first
   | refine cK 87 54 (be p) RC ?_
   | refine bD 87 e8 ?_
   | refine ed 87 8 55 wr (be p) 87 (be hole) ?_)
  go_ret;exact⟨by rw[DF.out];rfl,U2⟩):P:=h
def Zt(h:P:=by
  have:=h7 C' p3 (i:=a-9) (by omega);rw[show 9+(a-9)=a from by omega,A1 _ (by omega)]at this;rw[this,if_neg (show ¬a=1+i/8 by omega)];by_cases hq:(a-9)/8=i/8
  ·grind [oT,kF,r8]
  ·exact Xc):P:=h
def Zu(h:P:=by
  have:=H1.out;have:=H2.out;have:=H3.out;rcases h with(h|h|h)|h
  ·simp only at h;omega
  ·simp only at h;omega
  ·exact hf h
  ·omega):P:=h
def UD(h:P:=by
  obtain⟨s,NZ⟩:=aA (s.up u) (Ow hv);have nz:((n:Int) != 0)=true:=by simp;omega
  go_wp2_with(refine fw s ?_;intro _ w s);refine l5 s ?_;exact⟨(n:Int),G,H.h.vp,rfl,.inl ⟨n,hv,NZ,rfl,rfl⟩,A.n4 H.h.vp s.pa s.t,s.t.mono (λ_ h=>.inl h),λ_ h=>.inl h⟩):P:=h
def UE(h:P:=by
  have nz:((r:Int) != 0)=true:=by have:=Ow hv;simp;omega
  clear hv;go_wp2_with(refine arm ?_);go_ret;rw[E.out];exact vI.bW A (u2.trans (ai _ _))):P:=h
def F7(h:dz K->P:=by
  intro ζ;rintro e wx⟨rfl,bd⟩;rw[<-bd];clear bd;refine hK _ _ FSx ?_;revert wx;exact ζ.dA):P:=h ⟨k⟩
def F8(h:dz K->P:=by
  intro ζ;rintro e wx⟨rfl,bd⟩;rw[<-bd];clear bd;refine hK _ _ FS2 ?_;revert wx;exact ζ.dA):P:=h ⟨k⟩
def UF(h:P:=by
  obtain⟨h1,h2⟩:=h;refine⟨h1,?_⟩;rcases h2 with h2|⟨g,cap,cur,hv,hg,r⟩
  ·simp_all
  ·exact .inr ⟨g,cap,cur,hv,by omega,r⟩):P:=h
def UG(h:P:=by
  obtain⟨h1,h2⟩:=h;refine⟨h1,?_⟩;rcases h2 with h2|⟨g,cap,cur,hv,hg,hh,r⟩
  ·simp_all
  ·exact Xj):P:=h
def Zv(h:P:=by
  simp[Value.ownBlock]at e0;subst e0;have:=hb.symm.trans hh;simp at this;exact hne this.2):P:=h
def UH(h:P:=by
  rw[ih,Array.toList_setIfInBounds];have h1:(cs.toList.set (off+k) v).take (off+(k+1))=cs.toList.take (off+k)++[v]:=by exact Xm
  have h2:(cs.toList.set (off+k) v).drop (off+(k+1)+κ l)=cs.toList.drop (off+k+κ (v::l)):=by rw[List.drop_set_of_lt (by omega)];congr 1;simp;omega
  rw[h1,h2];simp):P:=h
def Zw(h:P:=by
  have:=B4 hir;rw[kP]at this;split at this
  ·cases this
  ·exact Zs):P:=h
def Ml(h:P:=by
  have HF:=an (show lC next l=none by unfold lC;rw[if_neg (by omega)]);go_in;go_wp2;go_ret2;exact .inl ⟨HF,rfl,Up.refl w⟩):P:=h
def Mm(h:dz K->P:=by
  intro ζ;intro w6 aV ar;rw[(IH _ x.loc hxl x.s)]at aV;obtain⟨D6,T6⟩:=aw (Dv.QO D5 x.loc x.s aV ar) (T5.trans (Touch.bg (F:=cI h) ar (λj hj=>by cases hj;exact .inr (.inl rfl))) (λn hn _=>hn));clear aV ar;revert T6;revert D6;revert w6;exact ζ.dA):P:=h ⟨k⟩
def Mn(h:P:=by
  have HR:=an (show decide (0<=i/\i<64)=false by simp;omega);go_in;go_wp2;go_ret;simp):P:=h
def Mo(h:P:=by
  obtain⟨_,h2⟩:=h;obtain⟨_,h3⟩:=h';rcases h2 with⟨h4,_⟩|⟨g,cap,cur,h4,_,h5,_⟩
  ·left;rw[h4];rfl
  ·exact Xa):P:=h
def W6(h:P:=by
  right;rw[h4,h6];intro hc;simp only[Value.ownBlock,Option.some.injEq]at hc;simp_all):P:=h
def Mp(h:P:=by
  rintro pre x W1⟨ps,rfl,h⟩hp;refine(hY ps ⟨x,(by simpa using hp.subset (show x∈_++[x] by simp))⟩ W1 h (by have:=hp.length_le;simp at this;omega)).mono ?_;rintro e W'(⟨rfl,h1,h2⟩|⟨rfl,h1⟩)
  ·exact .inl ⟨rfl,⟨_,by simp,h1⟩,h2⟩
  ·exact .inr ⟨rfl,⟨_,by simp,h1⟩⟩):P:=h
def Mq(h:P:=by
  have HE:=an (show cF n=0 by unfold cF;rw[if_neg (by omega)]);go_in;go_wp2;go_ret;exact⟨by rw[HE.out];rfl,rfl⟩):P:=h
def Mr(h:dz K->P:=by
  intro ζ;obtain⟨RG,GE⟩:=aw rg (b' hlt);obtain⟨SC,TS,ML⟩:=aW (kI wr _ _ dp (by rw[GE.out];exact HR _ (List.getElem_mem hlt))) (CF hlt) (show(l.take k++List.replicate (κ l-k) tn).length=κ l from by rw[List.length_append,List.length_take,List.length_replicate];omega);revert ML;revert TS;revert SC;revert GE;revert RG;exact ζ.dA):P:=h ⟨k⟩
def Ms(h:dz K->P:=by
  intro ζ;(try simp only[Act.put,gh]);refine B3 2 (pq b (off+k*11)) rfl rfl ?_;(try simp only[Act.put,gh]);refine B3 3 (pq b (off+k*11+4)) rfl rfl ?_;(try simp only[Act.put,gh]);exact ζ.dA):P:=h ⟨k⟩
def Mt(h:dz K->P:=by
  intro ζ;refine(callsIn_wide (n:=6)).1 ?_;have h1:1<=6:=by omega
  refine callsIn_of_wp_marks func206 rfl trivial ?_ rfl;simp only[ntmps206,List.size_toArray,List.length_cons,List.length_nil,Nat.reduceAdd,Nat.reduceSub,Array.replicate_succ,Array.replicate_zero,List.push_toArray,List.append_toArray,List.nil_append,List.cons_append];revert h1;exact ζ.dA):P:=h ⟨k⟩
def Mu(h:dz K->P:=by
  intro ζ;refine(callsIn_wide (n:=6)).1 ?_;have h1:1<=6:=by omega
  refine callsIn_of_wp_marks func205 rfl trivial ?_ rfl;simp only[ntmps205,List.size_toArray,List.length_cons,List.length_nil,Nat.reduceAdd,Nat.reduceSub,Array.replicate_succ,Array.replicate_zero,List.push_toArray,List.append_toArray,List.nil_append,List.cons_append];revert h1;exact ζ.dA):P:=h ⟨k⟩
def Mv(h:dz K->P:=by
  intro ζ;obtain⟨RC,DT,DN,BX⟩:=bR (hc j hlt) (w8 hlt HD) (@CZ (fl) j x.dead hlt) (aH.new wr 87 (be x.dead[j]));have cb:(wr.alloc (.cells (be x.dead[j]) 87)).cell? (ad wr.heap.size 1)=some (u6 (x.dead[j].aT:Int)):=by rw[BX.out.cell];rfl
  revert cb;revert BX;revert DN;revert DT;revert RC;exact ζ.dA):P:=h ⟨k⟩
def Mw(h:P:=by
  have s:=s.up u;go_wp2_with(refine fw s ?_;intro _ w s);refine l5 s ?_;rw[show nT M full=(r,M)from by rw[DM.out];unfold C1 Eh;rw[hr];rfl];exact vI.bW HA s.pure):P:=h
def oJ(h:P:=by
  go_in;go_wp2;go_ret;exact⟨by rw[HF.out]<;>rfl,U1⟩):P:=h
def q4(h:dz K->P:=by
  intro ζ;refine P1.mono ?_;rintro e w2⟨rfl,hw2⟩;rw[hw2];clear hw2;revert w2;exact ζ.dA):P:=h ⟨k⟩
def uB(h:dz K->P:=by
  intro ζ;refine SP.mono ?_;rintro e w2⟨rfl,u2⟩;obtain⟨U2,B2⟩:=aw (U1.trans u2) (B1.up u2);revert B2;revert U2;revert u2;revert w2;exact ζ.dA):P:=h ⟨k⟩
def uD(h:dz K->P:=by
  intro ζ;refine PD.mono ?_;rintro e wx⟨rfl,bd⟩;rw[<-bd];clear bd;revert wx;exact ζ.dA):P:=h ⟨k⟩
def uE(h:P:=by
  go_in;go_wp2_with(first
   | refine gS 33 0 (gi o vd vk) ?_)
  go_ret;exact⟨by rw[M.out];rfl,U⟩):P:=h
def yW(h:P:=by
  have HF:=an (FF (by simp;omega));go_wp2;go_ret;exact⟨by rw[HF.out]<;>rfl,U7⟩):P:=h
def yX(h:dz K->P:=by
  intro ζ;refine wpQuiet_nil ?_;intro w4 ay;obtain⟨⟨d,os⟩,hw4⟩:=ay;have up4:Up w1 w4:=by rw[hw4];exact below_regrown _ _ _
  revert up4;revert hw4;revert os;revert d;revert w4;exact ζ.dA):P:=h ⟨k⟩
def yY(h:dz K->P:=by
  intro ζ;refine wpQuiet_nil ?_;intro w4 ay;obtain⟨⟨d,os⟩,hw4⟩:=ay;have up4:Up wr w4:=by rw[hw4];exact below_regrown _ _ _
  revert up4;revert hw4;revert os;revert d;revert w4;exact ζ.dA):P:=h ⟨k⟩
def yZ(h:P:=by
  go_in;go_wp2;go_ret;exact⟨by rw[HF.out]<;>rfl,U1⟩):P:=h
def y0(h:dz K->P:=by
  intro ζ;refine(PL1 _ U2).mono ?_;rintro e w3⟨rfl,u3⟩;obtain⟨U3,B3⟩:=aw (U2.trans u3) (B2.up u3);revert B3;revert U3;revert u3;revert w3;exact ζ.dA):P:=h ⟨k⟩
def y1(h:dz K->P:=by
  intro ζ;refine LE.mono ?_;rintro e wx⟨rfl,bd⟩;rw[<-bd];clear bd;revert wx;exact ζ.dA):P:=h ⟨k⟩
def FH(h:dz K->P:=by
  intro ζ;refine wpQuiet_nil ?_;intro w4 ay;obtain⟨⟨d,os⟩,hw4⟩:=ay;have up4:Up w3 w4:=by rw[hw4];exact below_regrown _ _ _
  revert up4;revert hw4;revert os;revert d;revert w4;exact ζ.dA):P:=h ⟨k⟩
def FJ(h:P:=by
  go_in;go_wp2;go_ret;simp):P:=h
def FK(h:dz K->P:=by
  intro ζ;refine wpQuiet_nil ?_;intro w5 ay;obtain⟨⟨d,os⟩,aJ⟩:=ay;have al:Up w4 w5:=by rw[aJ];exact below_regrown _ _ _
  revert al;revert aJ;revert os;revert d;revert w5;exact ζ.dA):P:=h ⟨k⟩
def FL(h:dz K->P:=by
  intro ζ;(try simp only[Act.put,gh]);refine B3 12 (.bool false) rfl rfl ?_;(try simp only[Act.put,gh]);refine wpAnyIn_done (by kernel_rfl) ?_ _;exact ζ.dA):P:=h ⟨k⟩
def FM(h:dz K->P:=by
  intro ζ;have b1:((i:Int)<0)=False:=by simp
  have b2:((i:Int)<(κ l:Int))=True:=by simp;omega
  have b3:((i:Int)>=0)=True:=by simp
  obtain⟨b,off,aC,aB,da,dc,rg,dp⟩:=cn hv hi;revert dp;revert rg;revert dc;revert da;revert aB;revert aC;revert off;revert b;revert b3;revert b2;revert b1;exact ζ.dA):P:=h ⟨k⟩
def Mx(h:P:=by
  have e:eD P.C root (1+k)=a6 F k:=by grind [df]
  by_cases hh:a6 F k=hole
  ·grind [kC]
  ·exact nk (Ew _ ⟨hh,1+k,by omega,e⟩)):P:=h
def FN(h:dz K->P:=by
  intro ζ;obtain⟨ys,e0,z⟩:=Rz.s o1 u s.t.size;have e:=an e0;clear e0;refine⟨_,_,rfl,z,?_⟩;revert e;revert z;revert ys;exact ζ.dA):P:=h ⟨k⟩
def My(h:P:=by
  obtain⟨_,h2⟩:=ho;rcases h2 with⟨rfl,_⟩|⟨g',cap,cur,rfl,_,hh,_⟩
  ·simp[Value.ownBlock]at e0
  ·exact Zv):P:=h
def Mz(h:P:=by
  have HF:=an (TT (by simp;omega));go_wp2;go_ret;exact⟨by rw[HF.out]<;>rfl,U7⟩):P:=h
def MA(h:P:=by
  have hl:(load ad).run P w=.ok v w:=by simp[hc]
  unfold Oper.wp execOp;simp only[ho,hx,Instr.loadAt,Instr.sureAddr,loadVar,Sem.run_bind,Sem.run_pure,Result.andThen_ok,hagg,Bool.false_eq_true,if_false,hl];exact h):P:=h
def MB(h:P:=by
  go_in;go_wp2_with fail;go_ret;exact⟨by rw[HR.out];rfl,rfl⟩):P:=h
def MC(h:P:=by
  go_in;go_wp2_with fail;go_ret;exact⟨by rw[HR.out];rfl,by rw[HV.out];exact D,Touch.refl _ _⟩):P:=h
def MD(h:P:=by
  go_in;go_wp2;go_ret;exact⟨by rw[HR.out];simp[e],rfl⟩):P:=h
def ME(h:dz K->P:=by
  intro ζ;have g9:=cQ w5 g (aC s.val);have G9:=G5.grown g9 (λhf=>by have:=HA.lt _ hf;omega) (by omega);have B9:=B5.grown g9 (λe=>by have:=Option.some.inj e;omega);have C9:=C5.grown g9 (λe=>by have:=Option.some.inj e;omega);revert C9;revert B9;revert G9;revert g9;exact ζ.dA):P:=h ⟨k⟩
def MF(h:P:=by
  simp only[Result.andThen_ok,sliced,e1,e2];rw[if_neg (by omega)];unfold gx;simp[add_plain]):P:=h
def MG(h:P:=by
  clear z0 z1 SL;gi_wp2;refine bodyPost_ret (results_none rfl _ _ _) rfl ?_;exact⟨⟨_,rfl⟩,.inr ⟨_,aj,aa⟩⟩):P:=h
def MH(h:P:=by
  go_in;go_wp2_with fail;go_ret;exact⟨_,rfl,by rw[HL.out];exact Own.nil _ _ _ _,Up.refl _⟩):P:=h
def MI(h:dz K->P:=by
  intro ζ;refine⟨by simp,.inl ⟨_,_,rfl,run_takeDeferred FIN.1,?_⟩⟩;obtain⟨h6,h7⟩:=aA FIN.2.1 FIN.2.2.1;refine⟨.tuple #[.slice za zn zc,i6 0],?_,_,rfl,FIN.2.2.2.1,FIN.2.2.2.2⟩;revert h7;revert h6;exact ζ.dA):P:=h ⟨k⟩
def W7(h:P:=by
  obtain⟨g1,o1,e1,_,al⟩:=cg ha (by rw[List.length_map]) (by rw[List.length_map];omega);have:=al 0 (by rw[List.length_map];omega);simp only[Option.some.injEq,Addr.mk.injEq]at e1;exact qe HA0 J.o (by rw[e1.1];exact World.block_lt_of_cell? w _ this) (han ga rfl)):P:=h
def MJ(h:dz K->P:=by
  intro ζ;obtain⟨ar,HBS,CO⟩:=aW how hbs (show w.cell? (ad b (off+i*11+3))=some (u6 (ow:Int))from by rw[how];exact(cd RG).2.2.2.1);have CX:=an (show ∀x,x<κ l->w.cell? (ad b (off+x*11+3))=some (u6 ((recAt l x).owner:Int))/\w.cell? (ad b (off+x*11))=some (u6 ((recAt l x).id:Int))from λx hx=>by obtain⟨b',ak,aC,_,aM,aN,aB,_⟩:=cn HV hx;simp only[Option.some.injEq,Addr.mk.injEq,and_true]at aC;obtain⟨rfl,rfl⟩:=aC;exact⟨(cd aB).2.2.2.1,(cd aB).1⟩)
  revert CX;revert CO;revert HBS;revert ar;exact ζ.dA):P:=h ⟨k⟩
def MK(h:dz K->P:=by
  intro ζ;(try simp only[Act.put,gh]);refine x1 3 (pq b (off+x*11)) rfl ?_ (hy:=(.inl ⟨rfl,λ_=>by go_simp⟩));(try simp only[Act.put,gh]);refine x1 4 (pq b (off+x*11)) rfl ?_ (hy:=(.inl ⟨rfl,λ_=>by go_simp⟩));exact ζ.dA):P:=h ⟨k⟩
def ML(h:P:=by
  rintro(h|h|h)
  ·exact .inr (.inl h)
  ·exact .inl h
  ·exact .inr (.inr h)):P:=h
def MM(h:P:=by
  obtain⟨_,h4⟩:=h2;rcases h4 with⟨h5,_⟩|⟨g,cap,cur,h5,_,h6,_⟩
  ·rw[h5]at hb;cases hb
  ·exact W8):P:=h
def W8(h:P:=by
  rw[h5]at hb;simp only[Value.ownBlock,Option.some.injEq]at hb;subst hb;exact A.cc (t:=90) (C:=cur) h6 (by decide) hf):P:=h
def MN(h:P:=by
  have:n=141\/n=161:=Bb hn;rcases this with rfl|rfl
  ·exact Zo
  ·exact Zq):P:=h
def MO(h:dz K->P:=by
  intro ζ;obtain⟨b2,b3,J,PS⟩:=iJ F.L9 F.pv (λ(x:al) (hx:x∈l) (y:al) (hy:y∈l)=>F.gk.inj (x:=x) (y:=y) hx hy) (λ(x:al) (hx:x∈l) (y:al) (hy:y∈l)=>F.e9 (x:=x) (y:=y) hx hy);revert PS;revert J;revert b3;revert b2;exact ζ.dA):P:=h ⟨k⟩
def MP(h:dz K->P:=by
  intro ζ;have cp:w2.cell? ⟨p,0,none⟩=some (.pointer (some ⟨gb,0,none⟩)):=BP.cell 0;obtain⟨BQ,GQ⟩:=aw (BP.setCell 0 (.pointer (some ⟨gb',0,none⟩))) (b0 BP 0 (.pointer (some ⟨gb',0,none⟩)));have fp:=BP.free 0;revert fp;revert GQ;revert BQ;revert cp;exact ζ.dA):P:=h ⟨k⟩
def MQ(h:dz K->P:=by
  intro ζ;have TU:Calls prog 49 #[lD gb,.int .u64 ((recAt G.l k).id:Int),.agg (be t),.slice va vm vc] w λe w'=>e=.returned (.int .i64 r)/\GA w' gb (H.at vp) G9/\Touch (λk=>PF (H.at vp) k\/k=gb) w w':=by exact Xl
  refine TU.mono ?_;rintro e w7⟨rfl,a7,t7⟩;have s7:=Fr.start w7;revert s7;revert t7;revert a7;revert w7;revert TU;exact ζ.dA):P:=h ⟨k⟩
def MR(h:dz K->P:=by
  intro ζ;intro w9 b9 g9;have GT:=Touch.bg (F:=λb=>b=w.heap.size) g9 (λb hb=>by grind);obtain⟨D9,T9⟩:=aw (D3.az GT (λb hb e=>NF (e ▸ hb))) (T3'.trans GT (λn hn hl=>by omega));revert T9;revert D9;revert GT;revert g9;revert b9;revert w9;exact ζ.dA):P:=h ⟨k⟩
def eO(h:dz K->P:=by
  intro ζ;rintro e wx⟨rfl,bd⟩;rw[<-bd];clear bd;revert wx;exact ζ.dA):P:=h ⟨k⟩
def eW(h:P:=by
  go_wp2;go_ret;simp):P:=h
def lH(h:P:=by
  intro l x W K hK;gi_wp2;exact hK):P:=h
def lI(h:dz K->P:=by
  intro ζ;refine ta 0 ?_;refine ta 1 ?_;refine ta 2 ?_;exact ζ.dA):P:=h ⟨k⟩
def oK(h:dz K->P:=by
  intro ζ;rintro e w2⟨rfl,hw2⟩;rw[hw2];clear hw2;revert w2;exact ζ.dA):P:=h ⟨k⟩
def q5(h:P:=by
  go_wp2_with(refine arm ?_);go_ret;exact⟨by rw[HF.out]<;>rfl,U3⟩):P:=h
def uF(h:dz K->P:=by
  intro ζ;refine ta 5 ?_;refine ta 6 ?_;refine ta 7 ?_;exact ζ.dA):P:=h ⟨k⟩
def uG(h:P:=by
  go_wp2;go_ret;exact⟨rfl,U2⟩):P:=h
def y2(h:P:=by
  rintro e W'⟨h1,⟨ys,rfl,ps,h2,h3⟩|⟨pre,h2,ps,rfl,h3⟩⟩
  ·exact⟨h1,.inl ⟨ps,h2,h3⟩⟩
  ·exact⟨h1,.inr ⟨ps,h2,h3⟩⟩):P:=h
def y3(h:dz K->P:=by
  intro ζ;refine ta 10 ?_;(try simp only[Act.put,gh]);refine dn ?_;exact ζ.dA):P:=h ⟨k⟩
def y4(h:dz K->P:=by
  intro ζ;have IS:=an (show(prog.info? 60).map (·.size)=some (aC aK).size from dx);have c0:w2.cell? (ad w.heap.size 0)=some (i6 o.kind):=b1.cell 0;rw[hw2]at c0;revert c0;revert IS;exact ζ.dA):P:=h ⟨k⟩
def FO(h:P:=by
  try simp only[decide_eq_true_eq,beq_iff_eq,bne_iff_ne,beq_eq_false_iff_ne,bne_eq_false_iff_eq,Bool.not_eq_true',Bool.and_eq_true,Bool.or_eq_true,Bool.and_eq_false_iff,decide_eq_false_iff_not]at *
  try simp only[Bool.false_eq_true,false_iff,true_iff]
  omega):P:=h
def FP(h:P:=by
  go_wp2;go_ret;exact⟨by rw[HR.out];rfl,rfl⟩):P:=h
def W9(h:P:=by
  right;have:=Option.some.inj (h4.symm.trans hk);omega):P:=h
def FQ(h:dz K->P:=by
  intro ζ;refine(s5 w next _ l (hv.up s.pure) hr full hf).mono ?_;rintro e w⟨rfl,u⟩;have s:=s.up u;revert s;revert u;revert w;exact ζ.dA):P:=h ⟨k⟩
def FR(h:P:=by
  rcases e with⟨_,rfl⟩|⟨h,_⟩
  ·rfl
  ·exact absurd hr h):P:=h
def MS(h:P:=by
  rcases h with⟨rfl,_⟩|⟨b,off,cap,_,_,h1,h2,_⟩
  ·simp
  ·unfold maxLen at h2;omega):P:=h
def MT(h:P:=by
  have:l=[]:=List.length_eq_zero_iff.1 h0;subst this;exact .inl ⟨rfl,_,cap,rfl,hm,λh=>by simp_all⟩):P:=h
def MU(h:P:=by
  have:l=[]:=List.length_eq_zero_iff.1 h0;subst this;exact .inl ⟨rfl,_,0,rfl,Nat.zero_le _,λ_=>rfl⟩):P:=h
def MV(h:P:=by
  unfold Oper.wp;simp[execOp,ho,resolve,invoke,builtin,hs,hx,hrun,Result.andThen];exact h v w (by simp;omega) ⟨rfl,rfl,rfl,Nat.le_refl _,λ_ _ _=>rfl⟩ (Below.refl _ _)):P:=h
def MW(h:dz K->P:=by
  intro ζ;obtain⟨i,hi,hz0,hz1,az⟩:=info_parts hinfo;have hb:(bytes:Int)*(c:Int)<=281474976710656:=by omega
  have:=run_make (P:=P) w t e i z ht hi hz0 .i64 .i64 0 c (by omega) (by omega) (by simp_all) (by omega);revert this;revert hb;revert az;revert hz1;revert hz0;revert hi;revert i;exact ζ.dA):P:=h ⟨k⟩
def MX(h:dz K->P:=by
  intro ζ;obtain⟨i,hi,hz0,hz1,az⟩:=info_parts hinfo;have hb:(bytes:Int)*(c:Int)<=281474976710656:=by omega
  have:=run_make (P:=P) w t e i z ht hi hz0 .i64 .i64 c c (by omega) (by omega) (by simp_all) (by omega);revert this;revert hb;revert az;revert hz1;revert hz0;revert hi;revert i;exact ζ.dA):P:=h ⟨k⟩
def MY(h:P:=by
  induction h with
  | head=>exact List.mem_cons_self
  | tail _ ih=>exact List.mem_cons_of_mem _ ih):P:=h
def MZ(h:P:=by
  have e:put ops a ((i,w.heap.size)::E)=(put ops a E).put y.dst (pz w.heap.size):=by simp[put,Hp,hy]
  rw[e]at this;exact this):P:=h
def M0(h:P:=by
  have e:mR (Array.replicate ops.size false)=ops.size:=by rw[mR,Array.toList_replicate,List.countP_replicate];rfl
  simp only[ml,List.map_nil,nP,put,W4,e]at this;exact this):P:=h
def M1(h:P:=by
  go_wp2_with fail;go_ret2;exact⟨.inr ⟨λhh=>by have:=hh x aO;omega,rfl⟩,rfl⟩):P:=h
def M2(h:dz K->P:=by
  intro ζ;have q1:bn (l.take 4)<4294967296:=fN (k:=4) (by simp;omega);have q2:bn ((l.drop 4).take 8)<18446744073709551616:=fN (k:=8) (by simp;omega);have q3:bn (l.drop 12)<4294967296:=fN (k:=4) (by simp;omega);revert q3;revert q2;revert q1;exact ζ.dA):P:=h ⟨k⟩
def M3(h:P:=by
  go_in;go_wp2;all_goals
   exact Zr):P:=h
def M4(h:P:=by
  rcases Nat.lt_or_ge b W.heap.size with h|h
  ·exact h
  ·simp[Array.getElem?_eq_none h]at hb):P:=h
def M5(h:dz K->P:=by
  intro ζ;refine wp_region_still_tail 11 (by kernel_rfl) (by kernel_rfl) ?_;simp only[List.take_succ_cons,List.take_zero,List.drop_succ_cons,List.drop_zero];change wpStill _ _ w.drew (λa'=>wpList _ _ _ _ a' w.drew) _ _;exact ζ.dA):P:=h ⟨k⟩
def M6(h:dz K->P:=by
  intro ζ;refine wp_region_still_tail 11 (by kernel_rfl) (by kernel_rfl) ?_;simp only[List.take_succ_cons,List.take_zero,List.drop_succ_cons,List.drop_zero];change wpStill _ _ w2.drew (λa'=>wpList _ _ _ _ a' w2.drew) _ _;exact ζ.dA):P:=h ⟨k⟩
def M7(h:P:=by
  rcases ag with ag|⟨y,hy,ag⟩
  ·exact .inl (.inl ag)
  ·exact W'):P:=h
def W'(h:P:=by
  rcases List.mem_or_eq_of_mem_set hy with hy|rfl
  ·exact .inl (.inr ⟨y,hy,ag⟩)
  ·exact .inr ag):P:=h
def M8(h:P:=by
  rcases List.mem_or_eq_of_mem_set hy with hy|rfl
  ·exact key (h3 y hy)
  ·exact key h4):P:=h
def M9(h:P:=by
  rintro e W'(⟨rfl,h1,h2⟩|⟨rfl,h1⟩)
  ·exact .inl ⟨rfl,⟨_,by simp,h1⟩,h2⟩
  ·exact .inr ⟨rfl,⟨_,by simp,h1⟩⟩):P:=h
def M'(h:P:=by
  unfold jy;rw[List.take_succ_eq_append_getElem h,List.filter_append];simp[hx]):P:=h
def Xa(h:P:=by
  rcases h3 with⟨h6,_⟩|⟨g',av,aB,h6,_,h7,_⟩
  ·right;rw[h4,h6];simp[Value.ownBlock]
  ·exact W6):P:=h
def Na(h:dz K->P:=by
  intro ζ;refine(yf _ _ sS OW.cC (by simp[sS]) _ [0,x,y] IN (by intro n hn;simp at hn;omega) (Bl (by omega) hx hy)).mono ?_;rintro e w7⟨vp,rfl,op,u7⟩;have OP:=an (op.mono F6.2.size);revert OP;revert u7;revert op;revert vp;revert w7;exact ζ.dA):P:=h ⟨k⟩
def Nb(h:dz K->P:=by
  intro ζ;refine(yf _ _ sS OW.cC (by simp[sS]) _ [1,x,y] IN (by intro n hn;simp at hn;omega) (Bl (by omega) hx hy)).mono ?_;rintro e w7⟨vp,rfl,op,u7⟩;have OP:=an (op.mono F6.2.size);revert OP;revert u7;revert op;revert vp;revert w7;exact ζ.dA):P:=h ⟨k⟩
def Nc(h:dz K->P:=by
  intro ζ;have ca:=hca (κ pre) (by rw[List.length_map];omega);rw[List.getElem_map]at ca;have hga:¬PF (H.at vp) ga:=by exact W7
  revert hga;revert ca;exact ζ.dA):P:=h ⟨k⟩
def Nd(h:P:=by
  simp only[e,List.length_cons,List.length_nil]at h ⊢;obtain rfl:k=0:=by omega
  simp;omega):P:=h
def Xb(h:P:=by
  have:=di (P:=prog) 30 dr du (some ⟨w7.heap.size,0,none⟩) n n 2 (by omega) W;rw[show b8 (some ⟨w7.heap.size,0,none⟩) 2 n n=sq w7.heap.size 2 (n-2) (n-2)from by unfold b8;rw[if_neg (by omega)];simp[add_plain]]at this;exact this):P:=h
def Nf(h:P:=by
  have e1:IntKind.u64.min=0:=by decide
  have e2:IntKind.u64.max=18446744073709551615:=by decide
  simp[Lit.wf,e1,e2];omega):P:=h
def Xc(h:P:=by
  rw[if_neg hq,if_neg (show ¬a=9+i from λh=>hq (by omega))];have e:=h7 P.C root (i:=a-9) (by omega);grind [df,bF]):P:=h
def Ng(h:P:=by
  induction l generalizing i with
  | nil=>simp at hi
  | cons a l ih=>
   cases i with
   | zero=>grind [recAt]
   | succ i=>grind [recAt]):P:=h
def Nh(h:P:=by
  rintro e w5(⟨n,hn,rfl,u5⟩|⟨k,vd,hk,hkl,rfl,od,u5⟩)
  ·exact Zp
  ·exact Zn):P:=h
def Xd(h:P:=by
  rcases(dm p).mp hp with h|⟨h1,h2⟩
  ·exact((SI.dd v vm y hy e p).mp h).1
  ·exact Xk):P:=h
def Ni(h:P:=by
  rcases hn with hn|hn
  ·exact Xe
  ·exact .inr hn):P:=h
def Xe(h:P:=by
  rcases Vf hn with h|h
  ·exact .inl h
  ·exact Xf):P:=h
def Xf(h:P:=by
  rcases OV n h with h|h
  ·exact F1
  ·omega):P:=h
def Nj(h:P:=by
  rw[show G.ms.map (·.loc.toNat)=(G.ms.map (·.loc)).map Int.toNat from by simp];refine List.pairwise_map.mpr (List.Pairwise.imp_of_mem (λ{a c} ha hc hne=>?_) this);grind):P:=h
def Nk(h:P:=by
  refine⟨b,off,e,hb,λj v hj=>?_⟩;rw[Nat.add_assoc];exact hc k hk j v hj):P:=h
def Nl(h:P:=by
  unfold Oper.wp;simp[execOp,hop,hm,hx,hv,hrun,Result.andThen];exact hK' _ _ (hK w' r1 r2)):P:=h
def Nn(h:dz K->P:=by
  intro ζ;have c0:w2.cell? (ad w.heap.size 0)=some (i6 o.kind):=b1.cell 0;have c1:w2.cell? (ad w.heap.size 1)=some (.string (strOf o.name)):=b1.cell 1;have c3:w2.cell? (ad w.heap.size 3)=some (i6 o.n):=b1.cell 3;revert c3;revert c1;revert c0;exact ζ.dA):P:=h ⟨k⟩
def No(h:P:=by
  refine⟨rfl,rfl,rfl,by simp,λk hk hF=>?_⟩;have hne:g≠k:=λe=>hF (by rw[<-e];rfl);grind):P:=h
def Np(h:P:=by
  refine na h (λG2 hR hr=>?_) (λG2 hR hr=>?_)
  ·exact Xg
  ·exact Xh):P:=h
def Xg(h:P:=by
  rcases hR with⟨n,_,_,_,rfl⟩|⟨nx,l',x,_,_,rfl⟩
  ·exact l0.refl _ _
  ·exact l0.aax c _ _ _):P:=h
def Xh(h:P:=by
  rcases hR with⟨n,_,_,_,rfl⟩|⟨nx,l',x,_,e,rfl⟩
  ·exact⟨rfl,λ_ _=>rfl⟩
  ·exact absurd e hr):P:=h
def dy(h:dz K->P:=by
  intro ζ;refine(It w next _ l (hv.up s.pure) hl hr).mono ?_;rintro e w⟨vx,rfl,ox,u⟩;revert u;revert ox;revert vx;revert w;exact ζ.dA):P:=h ⟨k⟩
def dN(h:dz K->P:=by
  intro ζ;obtain⟨ys,e,z⟩:=Rz.s ox u s.t.size;have s:=s.new z;revert s;revert z;revert e;revert ys;exact ζ.dA):P:=h ⟨k⟩
def eE(h:dz K->P:=by
  intro ζ;rintro e w⟨rfl,u⟩;have s:=s.up u;revert s;revert u;revert w;exact ζ.dA):P:=h ⟨k⟩
def dV(h:dz K->P:=by
  intro ζ;rw[<-Bool.not_eq_true,IFF.out];intro hh;revert hh;exact ζ.dA):P:=h ⟨k⟩
def gq(h:dz K->P:=by
  intro ζ;(try simp only[Act.put,gh]);exact ζ.dA):P:=h ⟨k⟩
def lJ(h:dz K->P:=by
  intro ζ;have b1:((i:Int)<0)=False:=by simp
  have b2:((i:Int)<(κ l:Int))=True:=by simp;omega
  revert b2;revert b1;exact ζ.dA):P:=h ⟨k⟩
def nc(h:dz K->P:=by
  intro ζ;(try simp only[Act.put,gh]);refine dn ?_;exact ζ.dA):P:=h ⟨k⟩
def nf(h:dz K->P:=by
  intro ζ;refine ta 2 ?_;refine ta 3 ?_;exact ζ.dA):P:=h ⟨k⟩
def q6(h:dz K->P:=by
  intro ζ;refine(callsIn_wide (n:=6)).1 ?_;have h1:1<=6:=by omega
  revert h1;exact ζ.dA):P:=h ⟨k⟩
def uH(h:dz K->P:=by
  intro ζ;refine wpList_plain hgd λK hK=>?_;unfold Oper.wp execOp;revert hK;revert K;exact ζ.dA):P:=h ⟨k⟩
def Xi(h:P:=by
  refine⟨rfl,by decide,?_⟩;grind [fits]):P:=h
def uI(h:dz K->P:=by
  intro ζ;refine ta 10 ?_;(try simp only[Act.put,gh]);exact ζ.dA):P:=h ⟨k⟩
def uJ(h:dz K->P:=by
  intro ζ;rintro e w3⟨r,G2,vp,gb',H',rfl,hR,hH,hAt,T3,al⟩;have B3:=an (b2.az T3 (by rintro(h|h);have:=LT.1 _ h;omega;have:=LT.2;omega));revert B3;revert al;revert T3;revert hAt;revert hH;revert hR;revert H';revert gb';revert vp;revert G2;revert r;revert w3;exact ζ.dA):P:=h ⟨k⟩
def y5(h:P:=by
  simp[IntKind.wrap,IntKind.bits,IntKind.signed];omega):P:=h
def y6(h:P:=by
  go_ret2;exact⟨_,rfl,hown,upr⟩):P:=h
def y7(h:dz K->P:=by
  intro ζ;have ho:=HOWN.out;rw[List.take_of_length_le (Nat.le_refl _)]at ho;revert ho;exact ζ.dA):P:=h ⟨k⟩
def y8(h:dz K->P:=by
  intro ζ;obtain⟨n1,n2⟩:=aw (show(κ il+κ bb)*1<=140737488355328 by have:=HBL.out;omega) (show κ il+κ bb<=9223372036854775807 by have:=HBL.out;omega);revert n2;revert n1;exact ζ.dA):P:=h ⟨k⟩
def y9(h:dz K->P:=by
  intro ζ;rintro e w3⟨rfl,A3,T3⟩;have B3:=an (b2.az T3 (by obtain⟨vb,a,b,c⟩:=HA.out;rintro(h|h);exact fj a b2 (by decide) h.symm;exact c.ne b2 h.symm));revert B3;revert T3;revert A3;revert w3;exact ζ.dA):P:=h ⟨k⟩
def y'(h:dz K->P:=by
  intro ζ;intro wz hbz ag;have H:=an (sg A3 ((Touch.bW (F:=λb=>b=mb\/b=kb) UU).and T3 (λb hb=>.inl hb)) B3 (Nat.le_succ _) ag);revert H;revert ag;revert hbz;revert wz;exact ζ.dA):P:=h ⟨k⟩
def FT(h:dz K->P:=by
  intro ζ;have aM:prog.arrayLen 60=128:=by kernel_rfl
  have hs:(sizeOf (prog.elem 60)).run prog W=.ok 1 W:=by kernel_rfl
  revert hs;revert aM;exact ζ.dA):P:=h ⟨k⟩
def FU(h:dz K->P:=by
  intro ζ;simp only[Bool.false_eq_true,false_and,and_false,and_self,if_false,if_true,reduceIte];go_in;exact ζ.dA):P:=h ⟨k⟩
def FV(h:dz K->P:=by
  intro ζ;have b4:((j:Int)<0)=False:=by simp
  have b5:((j:Int)<(κ l:Int))=True:=by simp;omega
  revert b5;revert b4;exact ζ.dA):P:=h ⟨k⟩
def FW(h:dz K->P:=by
  intro ζ;have t1:decide ((128:Int)<(κ b:Int))=false:=by simp;omega
  have t2:decide (128<κ b)=false:=by simp;omega
  revert t2;revert t1;exact ζ.dA):P:=h ⟨k⟩
def FX(h:dz K->P:=by
  intro ζ;have hs:(sizeOf 87).run prog W=.ok 3 W:=by kernel_rfl
  have hg:(isAgg 87).run prog W=.ok true W:=by kernel_rfl
  revert hg;revert hs;exact ζ.dA):P:=h ⟨k⟩
def FY(h:dz K->P:=by
  intro ζ;have u1:=ai w (.cells #[pz gb] 100);have c0:(w.alloc (.cells #[pz gb] 100)).cell? (ad w.heap.size 0)=some (pz gb):=(aH.new w 100 #[pz gb]).cell 0;revert c0;revert u1;exact ζ.dA):P:=h ⟨k⟩
def FZ(h:dz K->P:=by
  intro ζ;obtain⟨J,PS⟩:=aA (λ(x:al) (hx:x∈l) (y:al) (hy:y∈l)=>F.gk.inj (x:=x) (y:=y) hx hy) (λ(x:al) (hx:x∈l) (y:al) (hy:y∈l)=>F.e9 (x:=x) (y:=y) hx hy);revert PS;revert J;exact ζ.dA):P:=h ⟨k⟩
def Xj(h:P:=by
  have hlt:g<w.heap.size:=by grind
  exact .inr ⟨g,cap,cur,hv,hg,by rw[Below.block hu g hlt];exact hh,r⟩):P:=h
def Nq(h:P:=by
  rw[run_slice_lh W T a len cap ht .i64 .i64 lo hi (by omega) (by omega) (by omega),hs];rfl):P:=h
def Nr(h:P:=by
  cases h:(l==l2)<;>cases h2:((b:Int)==(b2:Int))<;>cases h3:((s:Int)==(s2:Int));all_goals go_simp):P:=h
def Ns(h:P:=by
  rw[List.take_zero,List.nil_append,List.drop_of_length_le (by simp;omega)];simp):P:=h
def Nt(h:dz K->P:=by
  intro ζ;refine I6 60 (.tmp 5) rfl w.heap.size rfl 60 _ B5 _ underlying60 rfl (dD s) ?_;refine x1 7 (.agg (j6 ⟨n,s⟩)) rfl ?_ (hy:=(CK rfl 116 0 1 (.tmp 21) (.tmp 22) rfl (i6 (n:Int)) (.agg (aC s.val)) rfl rfl (j6 ⟨n,s⟩) (Sm ⟨n,s⟩)));exact ζ.dA):P:=h ⟨k⟩
def Nu(h:dz K->P:=by
  intro ζ;refine ih 8 _ (by kernel_rfl) rfl rfl ?_;refine mH 112 116 (.tmp 23) rfl _ 129 136 (j6 ⟨n,s⟩) rfl underlying112 tU (by omega) (by omega) (od _) ?_;exact ζ.dA):P:=h ⟨k⟩
def Nv(h:dz K->P:=by
  intro ζ;refine wp_region_still_tail 8 (by rfl) (by kernel_rfl) ?_;simp only[List.take_succ_cons,List.take_zero,List.drop_succ_cons,List.drop_zero];exact ζ.dA):P:=h ⟨k⟩
def Nw(h:dz K->P:=by
  intro ζ;refine wp_region_still_tail 8 (by kernel_rfl) (by kernel_rfl) ?_;simp only[List.take_succ_cons,List.take_zero,List.drop_succ_cons,List.drop_zero];exact ζ.dA):P:=h ⟨k⟩
def Nx(h:dz K->P:=by
  intro ζ;refine⟨by simp,.inl ⟨_,_,rfl,run_takeDeferred hK,?_⟩⟩;have ao:=cell_kept hcr (grownBy_putObj' _ D (.deferred none)) (λr e=>by cases e;exact⟨_,hK,rfl⟩);revert ao;exact ζ.dA):P:=h ⟨k⟩
def Ny(h:dz K->P:=by
  intro ζ;obtain⟨NS,NR⟩:=aw (show ¬PF H (w.heap.size+1)from λhf=>by have:=HA.lt _ hf;omega) (show ¬PF H w.heap.size from λhf=>by have:=HA.lt _ hf;omega);revert NR;revert NS;exact ζ.dA):P:=h ⟨k⟩
def Nz(h:dz K->P:=by
  intro ζ;refine wp_region_still_tail 6 (by rfl) (by kernel_rfl) ?_;simp only[List.take_succ_cons,List.take_zero,List.drop_succ_cons,List.drop_zero];exact ζ.dA):P:=h ⟨k⟩
def NA(h:dz K->P:=by
  intro ζ;have key:∀{v:Value}{ps:List au},bf w b v ps->bf w' b v ps:=λhop=>ak.kept hop hgr (by have:=ig (by decide) hop h2;simpa[Value.ownBlock]using this)
  have T:Touch (jn (os b (cv g n cap) ys) (op b (.slice da dn dc) l)).F w w':=Touch.bg hgr (λk e=>by cases e;exact .inl (.inl rfl));revert T;revert key;exact ζ.dA):P:=h ⟨k⟩
def NB(h:P:=by
  go_wp2;exact bS (hi:=IZ) (.tuple #[.agg b6,i6 161]) hbz (.inl ⟨161,HE,rfl,UZ⟩)):P:=h
def NC(h:P:=by
  rw[List.length_append,List.length_singleton,List.take_succ_eq_append_getElem h,List.map_append,List.map_singleton,List.zip_append (by simp;omega)];rfl):P:=h
def ND(h:P:=by
  rw[List.length_append,List.length_append,h2,ji,List.length_map,List.length_replicate];omega):P:=h
def NF(h:P:=by
  obtain⟨k,hk,he⟩:=List.mem_map.1 this;rw[<-he,Int.toNat_natCast];exact hk):P:=h
def NG(h:dz K->P:=by
  intro ζ;have NK:∀k,k<8->node8 C' (a6 F k)=node8 P.C (a6 F k):=λk hk=>by exact Mx
  have A1:∀k,k<8->eD C' p3 (1+k)=if k=i/8 then p2 else a6 F k:=λk hk=>by grind [df,oT,kF]
  revert A1;revert NK;exact ζ.dA):P:=h ⟨k⟩
def NH(h:dz K->P:=by
  intro ζ;obtain⟨T,s⟩:=aA ((Touch.bW (F:=λk=>PF H k\/k=gb) s.pure).trans (t6.mono (F':=λk=>PF H k\/k=gb) (λ_ h=>.inr h)) (λ_ h _=>h)) (Fr.start w6);revert s;revert T;exact ζ.dA):P:=h ⟨k⟩
def Xk(h:P:=by
  have:p.aT<=y.ar:=Classical.byContradiction λh3=>h2 (λz hz ez=>by rw[F.gk.inj hz hy (ez.trans e.symm)];omega);exact SI.el v vm y hy e p (oldIn p h1) this):P:=h
def NI(h:dz K->P:=by
  intro ζ;have TI:jw G.P (recAt G.l k).root:=I.ZZ (aJ VA.1);have aa:=an (show N.toNat<64/\N=(N.toNat:Int)by obtain⟨h1,h2⟩:=aA VA.2.2 (((bH _).mp (I.hE.rt _ (aJ VA.1))).2.2.2.1);omega)
  revert aa;revert TI;exact ζ.dA):P:=h ⟨k⟩
def Xl(h:P:=by
  rw[hr.out,hG9.out];exact Qy w gb (H.at vp) {G with P:=P3} (A.n4 vp s.pa s.t) I.hl I.hr (λx hx=>qm ((bH x).mp (I.hE.rt x hx)).2.2.2.2.2.2.2.1) (recAt G.l k).id t _ old (ak.row s.Cy pw) (by omega) l2 gone hk (by omega) (by omega) (λx hx=>by have:=dl x hx;omega) wf (by show G.next<_;omega) (by have:=I.vF;show κ G.ms<=_;omega)):P:=h
def NJ(h:P:=by
  (try simp only[Act.put,gh]);exact FIN q W nx va vm vc nn (an ⟨u6,b6,by omega,rq⟩)):P:=h
def NK(h:dz K->P:=by
  intro ζ;obtain⟨S2,LT⟩:=aw (show w2.heap.size=w.heap.size+2 from by rw[hw2];simp only[aL]) (show(∀k,cI H.h k->k<w.heap.size)/\p<w.heap.size from⟨λk hk=>A.ga.pa.lt k (.inr (.inr hk)),A.e5.lt⟩);revert LT;revert S2;exact ζ.dA):P:=h ⟨k⟩
def NL(h:P:=by
  obtain rfl:G3=G:=by
   rcases e with⟨e,_⟩|⟨_,e⟩
   ·cases e
   ·exact e
  exact⟨M,Step.full (M2:=M) I S (by grind [hh]) (by grind) (λ_ _=>rfl) rfl (by omega) rfl⟩):P:=h
def NM(h:dz K->P:=by
  intro ζ;obtain⟨HU,BE⟩:=aw hu (λW (d:DA W h G.P.C m ff)=>Wu W h G.P.C m ff d (by have:=I.ln;omega) ⟨tx,G.P.ba,iD,40,(κ G.P.C:Int)⟩ (by rw[hu];exact R.here K.ub.2.2.2.2) (by rw[hu];exact R.le));revert BE;revert HU;exact ζ.dA):P:=h ⟨k⟩
def NN(h:dz K->P:=by
  intro ζ;have e1:(fQ M.l (recAt M.l k)).name=d' G.l (recAt G.l k).id:=by show d' M.l (recAt M.l k).id=_;rw[S.l,a',xe];rfl
  have e2:(fQ M.l (recAt M.l k)).blocks=(recAt G.l k).blocks:=by show(recAt M.l k).blocks=_;rw[S.l,a'];rfl
  revert e2;revert e1;exact ζ.dA):P:=h ⟨k⟩
def br(h:dz K->P:=by
  intro ζ;(try simp only[Act.put,gh]);exact ζ.dA):P:=h ⟨k⟩
def bB(h:dz K->P:=by
  intro ζ;refine l5 s ?_;exact ζ.dA):P:=h ⟨k⟩
def g'(h:dz K->P:=by
  intro ζ;refine wp_region_quiet_below (by rfl) (by kernel_rfl) ?_;exact ζ.dA):P:=h ⟨k⟩
def hA(h:dz K->P:=by
  intro ζ;refine wpStill_nil ?_;exact ζ.dA):P:=h ⟨k⟩
def iP(h:dz K->P:=by
  intro ζ;have b2:((k:Int)<(κ l:Int))=True:=by simp;omega
  revert b2;exact ζ.dA):P:=h ⟨k⟩
def lK(h:dz K->P:=by
  intro ζ;refine⟨_,rfl,Up.refl _,?_⟩;exact ζ.dA):P:=h ⟨k⟩
def oL(h:dz K->P:=by
  intro ζ;have b3:((k:Int)<(κ l:Int))=True:=by simp;omega
  revert b3;exact ζ.dA):P:=h ⟨k⟩
def q7(h:dz K->P:=by
  intro ζ;simp only[List.take_succ_cons,List.take_zero,List.drop_succ_cons,List.drop_zero];exact ζ.dA):P:=h ⟨k⟩
def q8(h:P:=by
  exact⟨G2,⟨rfl,G2,hR,.inl ⟨h0,rfl⟩⟩,ha⟩):P:=h
def uK(h:dz K->P:=by
  intro ζ;refine wp_region_quiet_below (by kernel_rfl) (by kernel_rfl) ?_;exact ζ.dA):P:=h ⟨k⟩
def za(h:dz K->P:=by
  intro ζ;refine⟨by simp,.inl ⟨_,_,rfl,run_takeDeferred hK,?_⟩⟩;exact ζ.dA):P:=h ⟨k⟩
def F1(h:P:=by
  exact .inl (.inr (.inr (.inr (.inr (.inr h)))))):P:=h
def zb(h:dz K->P:=by
  intro ζ;refine⟨_,_,rfl,.q (v:=nl) (ak.nil _ _ _ _ _) u s.t.size,?_⟩;exact ζ.dA):P:=h ⟨k⟩
def F0(h:dz K->P:=by
  intro ζ;have hh:(w.alloc (.cells cs t fr)).heap[w.heap.size]?=some (.cells cs t fr):=by show(w.heap.push _)[w.heap.size]?=_;simp
  revert hh;exact ζ.dA):P:=h ⟨k⟩
def F2(h:dz K->P:=by
  intro ζ;simp only[Bool.false_eq_true,false_and,and_false,and_self,if_false,if_true,reduceIte];exact ζ.dA):P:=h ⟨k⟩
def F3(h:P:=by
  refine(HL.trans T2 (λn hn _=>hn)).trans (Touch.bg (F:=λb=>b=w.heap.size) hg4 (λk hk=>by grind)) (λn hn hlt=>by omega)):P:=h
def F4(h:dz K->P:=by
  intro ζ;have ag:=an (show ∀g,w.heap.size<=g->¬PF H g from λg hg hf=>by have:=HA.lt _ hf;omega);revert ag;exact ζ.dA):P:=h ⟨k⟩
def F5(h:dz K->P:=by
  intro ζ;have c0:w.cell? ⟨p,0,none⟩=some (.pointer (some ⟨gb,0,none⟩)):=A.e5.cell 0;revert c0;exact ζ.dA):P:=h ⟨k⟩
def NO(h:P:=by
  exact .inr ⟨g,cap,cur,hv,hg,by rw[ht.block g hlt (hf g (by rw[hv];rfl))];exact hh,r⟩):P:=h
def Xm(h:P:=by
  rw[show off+(k+1)=off+k+1 by omega,List.take_succ_eq_append_getElem (by simp;omega),List.getElem_set_self,List.take_set_of_le (Nat.le_refl _)]):P:=h
def NP(h:dz K->P:=by
  intro ζ;have ab:i ∉ E.map (·.1):=λhm=>by exact Zw
  revert ab;exact ζ.dA):P:=h ⟨k⟩
def NQ(h:dz K->P:=by
  intro ζ;have MK:∀W:World,(Instr.makeSlice 88 (i6 0) (i6 (T:Int))).run prog W=_:=λW=>mo (P:=prog) 88 87 _ 3 24 underlying88 hy T (by omega) (by omega) W;revert MK;exact ζ.dA):P:=h ⟨k⟩
def NR(h:dz K->P:=by
  intro ζ;refine jY aF cp (.tmp 52) (.tmp 53) 30 rfl (w2.heap.size+2) 5 (.int .u8 0) 1 underlying30 eu rfl v5 _ rfl Od v7 _ rfl Pd hb1 hb2 SB ?_;exact ζ.dA):P:=h ⟨k⟩
def NS(h:dz K->P:=by
  intro ζ;change wpStill _ _ (wr.alloc (.cells (j6 x) 116)).drew (λa'=>wpList _ _ _ _ a' (wr.alloc (.cells (j6 x) 116)).drew) _ _;exact ζ.dA):P:=h ⟨k⟩
def NT(h:dz K->P:=by
  intro ζ;have hS:=an (show pr wr w.heap.size (rU (l.take (k+1)))from a7.congr HB (λi hi=>by
   rw[hT.out i];have:¬(i:Int)=x:=by omega
   simp[this]))
  revert hS;exact ζ.dA):P:=h ⟨k⟩
def NU(h:dz K->P:=by
  intro ζ;have S4:=an (show aH w4 w.heap.size 94 #[pz H.pb]/\aH w4 (w.heap.size+1) 41 #[sq ga offa (κ ats) ac]/\aH w4 (w.heap.size+1+1+1+1) 88 #[.slice vd (κ pre) vc]/\w4.cell? (ad ga (offa+κ pre))=some (i6 (i:Int))from⟨J4.x3,J4.x5,J4.x8,CA4⟩);revert S4;exact ζ.dA):P:=h ⟨k⟩
def NW(h:dz K->P:=by
  intro ζ;have N:∀z∈l,z≠v->∀p,cP l' z p->cP l z p:=λz hz hne p h x hx ex=>by
   by_cases ab:x=v
   ·grind
   ·exact h x ((m x).mpr (.inr ⟨hx,ab⟩)) ex
  revert N;exact ζ.dA):P:=h ⟨k⟩
def NV(h:dz K->P:=by
  intro ζ;have NF:∀n,n<w.heap.size->¬cI H.h n->¬(PF ⟨pb,mb,H.h⟩ n\/n=gb'):=λn hn hf h=>by exact Zu
  revert NF;exact ζ.dA):P:=h ⟨k⟩
def NX(h:dz K->P:=by
  intro ζ;have aq:gb G.P.C y.root p:=by exact Xd
  revert aq;exact ζ.dA):P:=h ⟨k⟩
def NY(h:P:=by
  exact⟨⟨vb,a',xD b T (λk hk=>.inl ⟨_,_,by subst hk;exact a,by decide,by decide⟩),c.az T (λe=>c.ne a e)⟩,T.mono (λ_ h=>.inl h)⟩):P:=h
def NZ(h:dz K->P:=by
  intro ζ;have hk:o.kind=0\/o.kind=1\/o.kind=2\/o.kind=3\/o.kind=4\/o.kind=5\/o.kind=6\/o.kind=7\/o.kind=8\/o.kind=9\/(o.kind<0\/9<o.kind):=by omega
  revert hk;exact ζ.dA):P:=h ⟨k⟩
def N0(h:dz K->P:=by
  intro ζ;refine⟨_,Step.done I3 (S.gone I il rfl rfl rfl (λz hz=>?_)) hd (λh=>h) (by simp) (by simp) (by simp) (by simp) rfl (by show M.st<=_;omega) (by show M.made<=_;omega)⟩;revert hz;revert z;exact ζ.dA):P:=h ⟨k⟩
abbrev af:=Go.World
abbrev ah:=Go.Value
abbrev aj:=UInt8
def aG:=@Nat.le_refl
def aM:=@if_neg
def bo:=@if_pos
abbrev bx:=Go.Program
def bt:=@List.mem_cons_of_mem
def bE:=@Nat.zero_le
abbrev bO:=Go.Operand
def bN:=@Nat.le_trans
def cb:=@congrArg
def cJ:=@List.getElem_mem
def cz:=@eq_false
def cV:=@List.mem_cons_self
def dh:=@List.take_of_length_le
def dB:=@Option.some.inj
def dR:=@Go.cell_regrown
def en:=@List.take_succ_eq_append_getElem
def eg:=@Nat.lt_of_lt_of_le
def eo:=@eq_true
def ev:=@List.length_take
abbrev eJ:=Go.TypeDesc
def eT:=@List.mem_append
def eZ:=@Go.RowKit.Below.refl
def e3:=@Go.wp_region_held
def fx:=@List.take_length
def fy:=@Go.callsIn_wide
def fH:=@List.take_append_drop
def fV:=@List.pairwise_cons
def gC:=@List.flatMap_append
def gD:=@decide_eq_true
def gZ:=@Go.wpList_plain
def hS:=@Array.toList_inj
def hP:=@List.length_drop
def hX:=@Go.World.block_lt_of_cell?
def hY:=@List.take_left'
def ix:=@Nat.le_succ
def iy:=@of_decide_eq_true
def iX:=@Int.eq_ofNat_of_zero_le
def iY:=@decide_eq_false
def jE:=@List.getElem?_eq_getElem
def jF:=@Go.info_parts
def ki:=@List.filter_append
def kk:=@Go.bodyPost_ret
def kl:=@List.mem_singleton
def km:=@Go.Calls.regrown_of
def kr:=@Go.Oper.semAt_some
def lo:=@Go.cell_kept
def ku:=@Go.wpAnyIn_take
def lp:=@List.getElem?_eq_some_iff
def lq:=@Go.zero_of_info
def lr:=@List.drop_left'
def ls:=@List.getElem_of_mem
def ma:=@Nat.lt_or_ge
def nG:=@Go.World.cell?_of_block
def nH:=@Go.OwnFrom.and
def oz:=@List.length_eq_zero_iff
def oA:=@Go.RowKit.Below.block
def oB:=@Array.getElem?_toList
def oC:=@Nat.le_of_lt
def oD:=@Go.callsIn_of_wp_marks
def oE:=@Go.ownFrom_below
def oF:=@Go.belowK_b
def oG:=@List.mem_append_left
def oH:=@List.map_set
def p2:=@Array.getElem?_eq_some_iff
def p3:=@Go.BigFrame.wpList_want
def p6:=@List.mem_append_right
def p5:=@List.length_filter_le
def p4:=@List.map_drop
def p7:=@Go.KeepsOthers.setCell
def p8:=@Option.bind_some
def sy:=@Go.World.ownsRow.kept
def sA:=@List.mem_of_mem_take
def sB:=@List.getD_eq_getElem?_getD
def sC:=@List.getElem?_eq_none
def sD:=@Go.results_tmp
def sE:=@Go.wp_store_row
def vX:=@Go.size_madeCells
def vY:=@List.map_map
def vZ:=@Nat.succ_mul
def v7:=@Go.run_storeCells_at
def v8:=@Array.all_eq_true_iff_forall_mem
def v':=@List.drop_of_length_le
def wa:=@List.mem_filter
def wb:=@Bool.not_eq_true
def wc:=@List.drop_eq_getElem_cons
def we:=@List.map_take
def wg:=@Go.wp_region_still_tail
def wh:=@List.length_replicate
def wi:=@Go.wpIn_rangeFunc_ownF
def wj:=@List.ext_getElem?
def wk:=@List.set_set
def wm:=@List.sum_append
def AO:=@Go.World.ownsRow_made
def AP:=@Bool.eq_iff_iff
def AQ:=@Go.all_oneCell_toArray
def AR:=@Go.wpAny_take
def AS:=@List.pairwise_append
def uc:=@Nat.mul_comm
def ud:=@Go.wpAny_all
def ue:=@Go.callsIn_of_wp
def uf:=@List.mem_range
def ug:=@List.nodup_append
def uh:=@Nat.ne_of_lt
def ui:=@List.getElem?_set_self
def uj:=@List.eraseIdx_eq_take_drop_succ
def yk:=@Go.World.ownsRow_nil
def yl:=@Go.run_append_owned_none
def yn:=@List.getElem?_append_left
def yo:=@List.ext_getElem
def yq:=@Go.wpAnyH_done
def yr:=@List.foldl_cons
def ys:=@Go.Region.noSelect_spec
def yt:=@Decidable.by_contra
def yu:=@Nat.pow_succ
def yv:=@List.length_take_le
def yw:=@Nat.pow_mul
def yx:=@Go.run_equalIn_struct
def yy:=@Go.wpQuiet_nil
def W5:=@Go.below_regrown
def yz:=@List.getElem_append_left
def yA:=@Go.World.ownsRow_lit
def yB:=@Nat.lt_irrefl
def yC:=@Go.World.grownBy_alloc
def yD:=@Go.World.cell?_setCell_same'
def yE:=@Go.grownBy_putObj'
def yF:=@List.set_append_right
def yG:=@List.mem_or_eq_of_mem_set
def yH:=@List.map_singleton
def yI:=@Go.wpIn_region_any
def yJ:=@List.drop_replicate
def yK:=@Go.KeepsOthers.drew
def yL:=@List.mem_of_mem_drop
def yM:=@Go.Lib.run_eql_slice_nil
def yN:=@List.length_eraseIdx
def EH:=@List.getElem?_append_right
def EI:=@Array.getElem?_modify
def EJ:=@Go.run_loadVar_mid
def EK:=@Go.wpList_store_row
def EL:=@Go.results_cell_tmp
def EM:=@List.pairwise_singleton
def EN:=@Go.Oper.apart_spec
def EO:=@decide_eq_decide
def EP:=@Nat.le_of_ble_eq_true
def ER:=@Nat.not_lt_zero
def ES:=@Nat.pow_le_pow_right
def ET:=@Go.IntKind.wrap_u8'
def EU:=@List.getElem?_toArray
def EV:=@Go.Oper.upon_value
def EW:=@Nat.xor_lt_two_pow
def EX:=@List.drop_append
def EY:=@List.foldl_append
def EZ:=@Array.length_toList
def E0:=@Go.run_takeDeferred
def E1:=@Go.wpIn_rangeFunc_ownG
def E2:=@Nat.add_sub_cancel_left
def E3:=@List.eq_nil_or_concat
def E4:=@List.concat_eq_append
def E5:=@List.getElem?_set_ne
def E6:=@Go.World.ownsMap_made
def E7:=@List.mem_of_mem_eraseIdx
def E8:=@List.nodup_range
def E9:=@Classical.byContradiction
def E':=@Nat.le_add_right
def Fa:=@of_decide_eq_false
def Fb:=@Go.trodAll_cons_mk
def Md:=@List.eq_nil_of_length_eq_zero
def Me:=@Array.getD_eq_getD_getElem?
def Mf:=@List.findIdx?_eq_some_iff_getElem
def Mg:=@List.set_eq_take_append_cons_drop
def Mh:=@Array.extract_eq_self_of_le
def ae(h:P:=by omega):P:=h
def av(h:P:=by kernel_rfl):P:=h
def ab(h:P:=by simp;omega):P:=h
def ax(h:P:=by decide):P:=h
def aq(h:P:=by simp):P:=h
def aa(h:P:=by simp_all):P:=h
def ay(h:P:=by rfl):P:=h
def dL(h:P:=by simp only[Hid]at *;omega):P:=h
def dE(h:P:=by unfold maxLen;omega):P:=h
def aQ(h:P:=by grind):P:=h
def cm(h:P:=by assumption):P:=h
def abk(h:P:=by intro _ h;first|with_reducible exact mF h (by assumption) (by assumption)|with_reducible exact Ce h (by assumption) (by assumption)|with_reducible exact Cf h (by assumption) (by assumption)|with_reducible exact BO h|with_reducible exact B' h):P:=h
def gE(h:P:=by intro W;kernel_rfl):P:=h
def me(h:P:=by rw[List.length_map];omega):P:=h
def ky(h:P:=by with_reducible rfl):P:=h
def Fy(h:P:=by obtain⟨ps,e,h⟩:=hs;exact⟨ps,e,hJ ps A B row h hg hr⟩):P:=h
def Ti(h:P:=by have:=tu (l:=nP l (E.map (·.1))) (i:=i) (B4 hir);show mR ((nP l (E.map (·.1))).setIfInBounds i true)=n;omega):P:=h
def jG(h:P:=by simpa using h):P:=h
def jH(h:P:=by rw[h.cell];rfl):P:=h
def Fz(h:P:=by rw[NX.out,HIO.out,hsn];exact(s.rem .head).rem .head):P:=h
def fI(h:P:=by cases h):P:=h
def nI(h:P:=by have:=I.vF;omega):P:=h
def iz(h:P:=by grind [lT]):P:=h
def abl(h:P:=by rw[<-HQ.out]at hne;simp[hne,show ¬1024+j=i by omega,q']):P:=h
def sF(h:P:=by simp only[intOf];omega):P:=h
def wo(h:P:=by rw[SPL.out];exact spn.1):P:=h
def Kb(h:P:=by rintro(h|h);have:=LT.1 _ h;omega;have:=LT.2;omega):P:=h
def fJ(h:P:=by go_num):P:=h
def p9(h:P:=by simp at hD;omega):P:=h
def AT(h:P:=by intro n hn;simp at hn;omega):P:=h
def nJ(h:P:=by rw[HE.out];rfl):P:=h
def sG(h:P:=by cases hk;exact aG _):P:=h
def Tj(h:P:=by obtain⟨pr,x,e1,e2,e3,e4⟩:=hs.2;exact⟨pr,x,e1,e2,e3,lo e4 hg hr⟩):P:=h
def abm(h:P:=by rw[run_slice_l W T a len cap ht .i64 lo (by omega) (by omega),hs];rfl):P:=h
def abn(h:P:=by rw[run_slice_h W T a len cap ht .i64 hi (by omega) (by omega),hs];rfl):P:=h
def AU(h:P:=by rw[<-e.out];exact s.cE.cE):P:=h
def wq(h:P:=by simp[Value.ownBlock]):P:=h
def wu(h:P:=by have:=A.lt _ hf;omega):P:=h
def lu(h:P:=by grind [UT]):P:=h
def sH(h:P:=by have:=B.nx;omega):P:=h
def sI(h:P:=by have:=B.st;omega):P:=h
def AV(h:P:=by rw[SPL.out];exact spn.2):P:=h
def abo(h:P:=by have:=ig (by decide) hop h2;simpa[Value.ownBlock]using this):P:=h
def Tk(h:P:=by have h3:=(OM.aN k hk).1;have:=HA.lt k hpf;have:=UUS.out;omega):P:=h
def abp(h:P:=by simp[show ¬k=1024+q by omega,hne,ra hk]):P:=h
def Tl(h:P:=by have:=PS j hj y hy e.symm;rw[h]at this;have:=this.2 h0;omega):P:=h
def abq(h:P:=by refine dV ?_;intro hh;exact absurd hh.2.2.2.1.1 (by omega)):P:=h
def abr(h:P:=by refine dV ?_;intro hh;exact absurd hh.2.2.2.1.2 (by omega)):P:=h
def oI(h:P:=by cases hk;rfl):P:=h
def Kc(h:P:=by rw[en hlt,List.map_append,b' hlt];rfl):P:=h
def Tm(h:P:=by unfold np;rw[List.range_succ,ki,List.map_append];simp[h]):P:=h
def Tn(h:P:=by rw[List.take_zero,List.nil_append,Nat.sub_zero];exact OS0):P:=h
def Kd(h:P:=by show -1<=(-1:Int)/\(-1:Int)<=_;omega):P:=h
def To(h:P:=by have:=(iN.1 (r.ok e he).1).2;rw[e2,c2]at this;cases this):P:=h
def Tp(h:P:=by obtain⟨e,he,h2⟩:=List.mem_map.1 hm;exact hE e he h2):P:=h
def abt(h:P:=by refine dV ?_;intro hh;exact absurd hh.2.1.1 (by omega)):P:=h
def abu(h:P:=by refine dV ?_;intro hh;exact absurd hh.2.1.2 (by omega)):P:=h
def FA(h:P:=by cases hk;have:=S2.out;omega):P:=h
def abv(h:P:=by refine dV ?_;intro hh;exact absurd hh.1.1 (by omega)):P:=h
def abw(h:P:=by refine dV ?_;intro hh;exact absurd hh.1.2 (by omega)):P:=h
def Tq(h:P:=by have hk:k=_:=hk;subst hk;rcases hp with h|h|h<;>omega):P:=h
def sJ(h:P:=by rw[HP.out];rfl):P:=h
def AW(h:P:=by cases hj;exact aG _):P:=h
def AX(h:P:=by have:=u.size;omega):P:=h
def p'(h:P:=by rw[n3];rfl):P:=h
def Tr(h:P:=by rw[F.floor vm];exact F.UU vm (I.si.brt v vm p hp).1):P:=h
def Ts(h:P:=by have:=(I.ml q hq).1;rw[e]at this;revert this;decide):P:=h
def nK(h:P:=by rw[h];rfl):P:=h
def Tt(h:P:=by rw[List.length_map,HAL.out,HND.out];exact aG _):P:=h
def Tu(h:P:=by obtain⟨_,_,h⟩:=hv.slice;simp at h;exact h.2.1):P:=h
def Tv(h:P:=by show 64<=κ G.P.C/\(κ G.P.C)<=400;omega):P:=h
def FB(h:P:=by rw[hw4];exact W5 _ _ _):P:=h
def FC(h:P:=by cases hk;exact .inl rfl):P:=h
def Ke(h:P:=by rw[List.length_set];exact F.len):P:=h
def wv(h:P:=by show 1<=_;omega):P:=h
def Tw(h:P:=by have hk:k=_:=hk;subst hk;exact⟨_,_,_,qb⟩):P:=h
def qa(h:P:=by grind [eX]):P:=h
def Kf(h:P:=by first|assumption|exact lG):P:=h
def Kg(h:P:=by rw[List.length_set];exact lF):P:=h
def abx(h:P:=by unfold cF;rw[bo (by omega)]):P:=h
def Tx(h:P:=by rw[LQ.out,List.length_append,LP.out];omega):P:=h
def Ty(h:P:=by rw[<-List.length_map (f:=gM.d),e];exact hi):P:=h
def AY(h:P:=by simpa using hi):P:=h
def AZ(h:P:=by rw[HF.out]<;>rfl):P:=h
def FD(h:P:=by intro _;kernel_rfl):P:=h
def FE(h:P:=by have:=Hl2.out;omega):P:=h
def Tz(h:P:=by unfold e7 at h2;rw[bo e.symm]at h2;omega):P:=h
def FF(h:P:=by have:=LN.out;omega):P:=h
def TA(h:P:=by unfold gF;rw[List.length_append,fg,jm]):P:=h
def aby(h:P:=by have:=jQ (by simp;omega) eS j;grind [kF]):P:=h
def TB(h:P:=by show 64<=κ C/\(κ C)<=1024;omega):P:=h
def A0(h:P:=by show 0<=_;omega):P:=h
def A1(h:P:=by unfold bj;omega):P:=h
def FG(h:P:=by show G.next<_;omega):P:=h
def sK(h:P:=by grind [fi]):P:=h
def sL(h:P:=by rw[e];rfl):P:=h
def sM(h:P:=by simp[DH]):P:=h
def sN(h:P:=by grind [cG]):P:=h
def sO(h:P:=by grind [cr]):P:=h
def TC(h:P:=by show 22<=bp G.P.s+κ G.ms;omega):P:=h
def Mi(h:P:=by have:=K.ex;rw[<-hu]at this;exact this):P:=h
def Fc(h:P:=by have:=(iI RW5 h).2;omega):P:=h
def Fe(h:P:=by rw[b' hi];exact cJ hi):P:=h
def Mj(h:P:=by apply hS.1;unfold splice;simp;omega):P:=h
def Mk(h:P:=by obtain⟨h1,h2,_⟩:=JR h;grind [b']):P:=h
def Ff(h:P:=by rw[<-e,List.length_map]):P:=h
def Fg(h:P:=by rw[sn.property];omega):P:=h
def Fh(h:P:=by unfold sc;grind [J7,e7]):P:=h
def yO(h:P:=by rw[lN];exact hlt):P:=h
def yP(h:P:=by rw[hv];exact hX):P:=h
def q0(h:P:=by grind [hh]):P:=h
def Fi(h:P:=by simp[Value.oneCell']):P:=h
def Fj(h:P:=by rw[HL.out];exact hlt):P:=h
def Fk(h:P:=by show M.made<=_;omega):P:=h
def Fl(h:P:=by rw[HB.out];simp;omega):P:=h
def q1(h:P:=by grind [dF]):P:=h
def Fm(h:P:=by rw[List.length_map]):P:=h
def q2(h:P:=by grind [Xq]):P:=h
def Fo(h:P:=by have:=F.L9 y hy;omega):P:=h
def Fp(h:P:=by have:=I.ml q hq;omega):P:=h
def yQ(h:P:=by show 2<=_;omega):P:=h
def uk(h:P:=by grind [fh]):P:=h
def um(h:P:=by grind [uW]):P:=h
def yR(h:P:=by rw[HZ.out];rfl):P:=h
def yS(h:P:=by grind [Rest,qw]):P:=h
def Fs(h:P:=by unfold wpOp;simp_all):P:=h
def uo(h:P:=by rw[h1];rfl):P:=h
def Ft(h:P:=by rw[HP.out];exact hJ3):P:=h
def Fu(h:P:=by show M.st<=_;omega):P:=h
def yT(h:P:=by rw[N.nx];omega):P:=h
def uq(h:P:=by grind [rA]):P:=h
def Fv(h:P:=by rw[HP.out];exact JD):P:=h
def Fw(h:P:=by have:=HI.vF;omega):P:=h
def Fx(h:P:=by have:=K.nx;omega):P:=h
def yU(h:P:=by simp[cx,<-hg]):P:=h
def ur(h:P:=by grind [ox]):P:=h
def uu(h:P:=by grind [ec]):P:=h
def uv(h:P:=by grind [e4]):P:=h
def ux(h:P:=by grind [Qb]):P:=h
def q3(h:P:=by cases hp):P:=h
def yV(h:P:=by rw[hy];rfl):P:=h
def uy(h:P:=by rw[sza]):P:=h
def uz(h:P:=by exact Xi):P:=h
def uA(h:P:=by simp[h0]):P:=h
end
def Up(w w':af):Prop:=Below w.heap.size w w'
theorem Up.refl(w:af):Up w w:=eZ _ _
def Up.trans{a b c:af}(h:Up a b)(k:Up b c):Up a c:=Below.trans h (Below.mono k (Below.size h))
def Up.size{a b:af}(h:Up a b):a.heap.size<=b.heap.size:=Below.size h
theorem Up.cell{w w':af}(h:Up w w'){v:ah}(hc:w.cell? a=some v):w'.cell? a=some v:=(Below.cell h (hX w a hc)).trans hc
def Up.frozen{w w':af}(h:Up w w')(ha:a.block<w.heap.size):w'.frozen? a=w.frozen? a:=Below.frozen h ha
theorem Up.alloc{w w':af}(h:Up w w')(o:Obj):Up w (w'.alloc o):=Below.alloc h h.size o
def Up.drew{w w':af}(h:Up w w'):Up w w'.drew:=Below.drew h
def Up.drewN{w w':af}(h:Up w w')(n:Nat):Up w (w'.drewN n):=⟨h.os,h.tape,h.output,h.size,h.block⟩
def ai(w:af)(o:Obj):Up w (w.alloc o):=(Up.refl w).alloc o
def Up.setCell{w w':af}(h:Up w w')(ha:w.heap.size<=a.block)(u:ah):Up w (w'.setCell a u):=Below.setCell h ha u
def Up.grown{w w' aa:af}{row:Option Nat}(h:Up w w')(hg:w'.grownBy aa row)(hr:∀k,row=some k->w.heap.size<=k):Up w aa:=Below.grown h hg h.size hr
def Up.below{w w':af}(h:Up w w'):Below w.heap.size w w':=h
def aD(f:α->ah)(w:af)(v:ah)(l:List α):Prop:=(l=[]/\∃a cap,v=.slice a 0 cap/\cap<=maxLen/\(a=none->cap=0))\/∃b off cap,v=.slice (some ⟨b,off,none⟩) (κ l) cap/\0<κ l/\(κ l)<=cap/\cap<=maxLen/\∀i(h:i<κ l),w.cell? ⟨b,off+i,none⟩=some (f l[i])
theorem aD.up{f:α->ah}{w w':af}{v:ah}{l:List α}(h:aD f w v l)(hu:Up w w'):aD f w' v l:=by
 rcases h with h|⟨b,off,cap,h1,h2,h3,h4,h5⟩
 ·exact .inl h
 ·exact .inr ⟨b,off,cap,h1,h2,h3,h4,λi hi=>hu.cell (h5 i hi)⟩
theorem aD.length_le{f:α->ah}{w:af}{v:ah}{l:List α}(h:aD f w v l):κ l<=9223372036854775807:=by exact MS
theorem aD.slice{f:α->ah}{w:af}{v:ah}{l:List α}(h:aD f w v l):∃a cap,v=.slice a (κ l) cap:=by
 rcases h with⟨rfl,a,cap,rfl,_⟩|⟨b,off,cap,rfl,_⟩
 ·simp
 ·simp
theorem aD.nil(f:α->ah)(w:af):aD f w (.slice none 0 0) []:=.inl ⟨rfl,none,0,rfl,bE _,λ_=>rfl⟩
theorem cg{f:α->ah}{w:af}{a:Option Addr}{l:List α}(h:aD f w (.slice a n cap) l)(hn:n=κ l)(h0:0<κ l):∃b off,a=some ⟨b,off,none⟩/\b<w.heap.size/\∀i(h:i<κ l),w.cell? ⟨b,off+i,none⟩=some (f l[i]):=by
 rcases h with⟨rfl,_⟩|⟨b,off,av,hv,_,_,_,hc⟩
 ·simp at h0
 ·simp at hv;exact⟨b,off,hv.1,hX w _ (hc 0 h0),hc⟩
def bz(n:Int):ah:=.int .i64 n
def cM(n:Nat):ah:=.int .u64 (n:Int)
def pX(n:Int):(bz n).oneCell'=true:=rfl
def qB(n:Nat):(cM n).oneCell'=true:=rfl
def aF(c:aj):ah:=.int .u8 (c.toNat:Int)
abbrev a8(w:af)(v:ah)(l:List aj):Prop:=aD aF w v l
theorem aD.owned{f:α->ah}{w:af}{v:ah}{l:List α}(h:w.ownsRow base e 1 v (κ l) (l.map f)):aD f w v l:=by
 obtain⟨_,h2⟩:=h;rcases h2 with⟨rfl,h0⟩|⟨g,cap,cur,rfl,_,hg,hn,hm,hs,ht⟩
 ·grind [aD.nil]
 ·by_cases h0:κ l=0
  ·exact MT
  ·refine .inr ⟨g,0,cap,rfl,ae,hn,hm,λi hi=>?_⟩;have hc:w.cell? ⟨g,0+i,none⟩=cur[0+i]?:=by simp[Aco,hg]
   rw[hc,Abr];have h1:(cur.toList.take (κ l*1))[i]?=(l.map f)[i]?:=by rw[ht]
   grind
theorem aD.lit{f:α->ah}(w:af)(cs:Array ah)(t:Aab)(fr:Nat × Nat)(l:List α)(n:Nat)(hn:n=κ l)(hm:n<=maxLen)(aE:cs.toList=l.map f):aD f (w.alloc (.cells cs t fr)) (.slice (some ⟨w.heap.size,0,none⟩) n n) l:=by
 subst hn;by_cases h0:κ l=0
 ·exact MU
 ·refine .inr ⟨w.heap.size,0,κ l,rfl,ae,aG _,hm,λi hi=>?_⟩;refine F0 ?_;intro hh;have hc:(w.alloc (.cells cs t fr)).cell? ⟨w.heap.size,0+i,none⟩=cs[0+i]?:=by unfold Aco;rw[hh];rfl
  rw[hc,Abr];have h1:cs.toList[i]?=(l.map f)[i]?:=by rw[aE]
  grind
theorem aD.er{f:α->ah}(w:af)(b:Nat)(hb:b=w.heap.size)(cs:Array ah)(t:Aab)(fr:Nat × Nat)(l:List α)(n:Nat)(hn:n=κ l)(hm:n<=maxLen)(aE:cs.toList=l.map f):aD f (w.alloc (.cells cs t fr)) (.slice (some ⟨b,0,none⟩) n n) l:=by grind [aD.lit]
theorem lj{l:List α}{x:α}(h:l[j]?=some x):∃hj:j<κ l,l[j]=x:=aQ
def aaw{H:Type}:DataW H->Nat
 | .slice e s=>κ e+κ s
 | .lit (.string b)=>κ b
 | _=>0
theorem Qg(f:α->ah)(Q:α->Prop){enc:Aab × ah->H}{P:bx}{W:af}{v:ah}{d:DataW H}{ps:List MemPlace}(ht:P.underlying t=some (.slice e))(al:P.cellsOf e=1)(ai:∀n c y,DataW.trod enc P W 0 (λ_=>true) true n e [c]=some y->∃x,c=f x/\Q x)(hf:DataW.trod enc P W 0 (λ_=>true) true fuel t [v]=some (d,ps)):∃l:List α,aD f W v l/\(κ l)<=aaw d/\(d=.nil\/∃x y,d=.slice x y)/\∀x∈l,Q x:=by
 rcases DataW.trod_slice ht hf with⟨h1,h2⟩|⟨a,len,cap,elems,rest,n,_,aE,hx,_,hl,hm,aj,ad,bf,_⟩
 ·simp at h1;subst h1;simp only[Prod.mk.injEq]at h2;exact⟨[],aD.nil f W,aq,.inl h2.1,aq⟩
 ·simp at aE;subst aE;simp only[Prod.mk.injEq]at hx;obtain⟨rfl,_⟩:=hx;have each:∀i,i<len->∃x,W.cell? (a.add i)=some (f x)/\Q x:=by intro i hi;have h:=ad i hi;rw[al,Nat.mul_one,jE ae,Option.bind_eq_some_iff]at h;obtain⟨cs,aE,hy⟩:=h;obtain⟨c,rfl⟩:=List.length_eq_one_iff.1 ((World.cells?_some aE).2.1);obtain⟨x,rfl,hq⟩:=ai n c _ hy;exact⟨x,ChangeShapes.cell_of_cells?_one aE,hq⟩
  have all:∀k,k<=len->∃l:List α,κ l=k/\(∀i(h:i<κ l),W.cell? (a.add i)=some (f l[i]))/\∀x∈l,Q x:=by
   intro k;induction k with
   | zero=>simp
   | succ k ih=>
    intro hk;obtain⟨l,h1,h2,h3⟩:=ih ae;obtain⟨x,hx,hq⟩:=each k ae;refine⟨l++[x],ab,λi hi=>?_,λy hy=>?_⟩
    ·grind
    ·grind
  obtain⟨l,h1,h2,h3⟩:=all len (aG _);refine⟨l,?_,by grind [aaw],.inr ⟨_,_,rfl⟩,h3⟩;by_cases h0:len=0
  ·subst h0;have:l=[]:=oz.1 h1;subst this;exact .inl ⟨rfl,_,cap,rfl,hm,λh=>aa⟩
  ·have aJ:=h2 0 ae;obtain⟨b,off,spot⟩:=a;have ag:spot=none:=by simpa[Addr.add]using World.cell?_spot aJ
   subst ag;refine .inr ⟨b,off,cap,ab,ae,ae,hm,λi hi=>?_⟩;have:=h2 i hi;unfold Addr.add at this;split at this
   ·simp_all
   ·exact this
theorem If{enc:Aab × ah->H}{P:bx}{W:af}{v:ah}{d:DataW H}{ps:List MemPlace}(ht:P.underlying t=some (.int .i64))(ab:Value.okWide P W .any base t v)(hd:DataW.Trod enc P W 0 (λ_=>true) true t v d ps):∃n:Int,v=.int .i64 n/\-9223372036854775808<=n/\n<=9223372036854775807:=by
 obtain⟨m,rfl,_,_,hw⟩:=ChangeShapes.open_int ht ab hd;have hb:-9223372036854775808<=m/\m<=9223372036854775807:=by simpa[Lit.wf,IntKind.min,IntKind.max,IntKind.signed,IntKind.bits]using hw
 simp;omega
theorem zi(a:Nat)(ha:a<4294967296):bits .xor .u32 (4294967295) (a:Int)=((4294967295-a:Nat):Int):=by
 show IntKind.u32.wrap ((BitVec.ofInt 32 4294967295^^^BitVec.ofInt 32 (a:Int)).toNat:Int)=_;have h1:BitVec.ofInt 32 4294967295=BitVec.allOnes 32:=ax
 rw[h1,BitVec.allOnes_xor,BitVec.toNat_not,ofInt_u32 a ae];exact y5
theorem add_plain(b off j:Nat):(⟨b,off,none⟩:Addr).add j=⟨b,off+j,none⟩:=by unfold Addr.add;split<;>simp_all
def Own(f:α->ah)(e:Aab)(w:af)(base:Nat)(v:ah)(xs:List α):Prop:=w.ownsRow base e 1 v (κ xs) (xs.map f)
def Own.cC{f:α->ah}{w:af}{v:ah}{xs:List α}(h:Own f e w base v xs):aD f w v xs:=aD.owned h
theorem Own.nil(f:α->ah)(e:Aab)(w:af)(base:Nat):Own f e w base (.slice none 0 0) []:=yk _ _ _ _
theorem Own.mono{f:α->ah}{w:af}{v:ah}{xs:List α}(h:Own f e w base v xs)(hb:base'<=base):Own f e w base' v xs:=by exact UF
theorem Own.up{f:α->ah}{w w':af}{v:ah}{xs:List α}(h:Own f e w base v xs)(hu:Up w w'):Own f e w' base v xs:=by exact UG
def Own.made(f:α->ah)(e:Aab)(w:af)(base:Nat)(hb:base<=w.heap.size):Own f e (w.alloc (.cells #[] e)) base (.slice (some ⟨w.heap.size,0,none⟩) 0 0) []:=AO w #[] 0 hb (bE _) rfl
def Own.aN{f:α->ah}{w:af}{v:ah}{xs:List α}(h:Own f e w base v xs):∀k,v.ownBlock=some k->base<=k/\k<w.heap.size:=Adv h
theorem fc{w w':af}{row:Option Nat}(hg:w.grownBy w' row)(hb:base<=w.heap.size)(hr:∀k,row=some k->base<=k):Below base w w':=(eZ base w).grown hg hb hr
theorem Own.row{f:α->ah}{w:af}{v:ah}{xs:List α}(h:Own f e w base v xs)(h0:0<κ xs):∃g cap,v=.slice (some ⟨g,0,none⟩) (κ xs) cap/\base<=g/\g<w.heap.size/\(∀i(h:i<κ xs),w.cell? ⟨g,i,none⟩=some (f xs[i]))/\(∀i,w.frozen? ⟨g,i,none⟩=false)/\
  ∀i x,Own f e (w.setCell ⟨g,i,none⟩ (f x)) base v (xs.set i x):=by
 have hb:=h.aN;rcases h.2 with⟨_,h'⟩|⟨g,cap,cur,rfl,_⟩
 ·omega
 ·refine⟨g,cap,rfl,(hb g rfl).1,(hb g rfl).2,λi hi=>?_,λi=>World.ownsRow.frozenAt h i,λi x=>?_⟩
  ·rw[World.ownsRow.cellAt h i ae,List.getElem?_map,jE hi];rfl
  ·have:=(World.ownsRow.stored h i (f x)).1;unfold Own;simp;omega
theorem Up.aE{w0 w w':af}(h:Up w0 w)(hb:Below base w w')(ag:w0.heap.size<=base):Up w0 w':=Below.trans h (hb.mono ag)
section
variable {α:Type} {P:bx}
theorem jY(f:α->ah)(hf:∀x,(f x).oneCell'=true){w:af}{o:Oper}{a:Act}{K:Act->af->Prop}{Q:Exit->Act->af->Prop}(s x:bO)(t:TypeId)(ho:o.op=.call {callee:=.builtin .append,args:=#[s,x],argTypes:=#[t,t]})(base:Nat)(e:TypeId)(z:ah)(bytes:Nat)(ht:P.underlying t=some (.slice e))(hinfo:(P.info? e).map (λi=>(i.zero,i.size,i.bytes))=some (some z,1,bytes))(au:z.cells.size=1)(v:ah)(xs:List α)(hs:a.eval s=v)(hown:Own f e w base v xs)(vx:ah)(ys:List α)(hx:a.eval x=vx)(al:aD f w vx ys)(ai:(κ xs+κ ys)*bytes<=140737488355328)(an:κ xs+κ ys<=9223372036854775807)(ag:base<=w.heap.size)(h:∀v' w',Own f e w' base v' (xs++ys)->w.grownBy w' v.ownBlock->Below base w w'->K (a.put o.dst v') w'):o.wp P a w K Q:=by
 obtain⟨i,hi,hz0,hz1,az⟩:=jF hinfo;have ar:κ xs+κ ys<=maxLen:=cm
 have key:∀(ad:Addr)(c:Nat),vx=.slice (some ad) (κ ys) c->(∀j u,(ys.map f)[j]?=some u->w.cell? (ad.add j)=some u)->o.wp P a w K Q:=by
  intro ad c av aj;refine wp_append_own w s x t ho base e i z 1 bytes ht hi hz0 hz1 az au ax v (κ xs) (xs.map f) hs hown ad (κ ys) c (ys.map f) aa aq aj (λu hu=>?_) ar ai ag ?_
  ·grind
  ·intro v' w' h1 h2 _;refine h v' w' ?_ h2 (fc h2 ag λk hk=>(hown.aN k hk).1);grind [Own]
 rcases al with⟨rfl,ad,cap,rfl,hc,hn⟩|⟨b,off,cap,rfl,h0,hl,hm,hc⟩
 ·cases ad with
  | none=>obtain rfl:=hn rfl;have hrun:=yl (P:=P) (w:=w) base t o.type e i 1 ht hi v (κ xs) (xs.map f) hown;exact MV
  | some ad=>simp_all
 ·grind [lj,add_plain]
def bc(f:α->ah)(hf:∀x,(f x).oneCell'=true){w:af}{ops:Array Oper}{rest:List Oper}{o:Oper}{a:Act}{Q:Exit->Act->af->Prop}(hgd:o.guard=none)(s x:bO)(t:TypeId)(ho:o.op=.call {callee:=.builtin .append,args:=#[s,x],argTypes:=#[t,t]})(base:Nat)(e:TypeId)(z:ah)(bytes:Nat)(ht:P.underlying t=some (.slice e))(hinfo:(P.info? e).map (λi=>(i.zero,i.size,i.bytes))=some (some z,1,bytes))(au:z.cells.size=1)(v:ah)(xs:List α)(hs:a.eval s=v)(hown:Own f e w base v xs)(vx:ah)(ys:List α)(hx:a.eval x=vx)(al:aD f w vx ys)(ai:(κ xs+κ ys)*bytes<=140737488355328)(an:κ xs+κ ys<=9223372036854775807)(ag:base<=w.heap.size)(h:∀v' w',Own f e w' base v' (xs++ys)->w.grownBy w' v.ownBlock->Below base w w'->wpList P ops Q rest (a.put o.dst v') w'):wpList P ops Q (o::rest) a w:=gZ hgd λ_ hK=>jY f hf s x t ho base e z bytes ht hinfo au v xs hs hown vx ys hx al ai an ag λv' w' h1 h2 h3=>hK _ _ (h v' w' h1 h2 h3)
end
def b8(a:Option Addr)(lo hi cap:Nat):ah:=.slice (if cap=lo then a else a.map (·.add (lo*1))) (hi-lo) (cap-lo)
theorem aD.piece{f:α->ah}{w:af}{a:Option Addr}{l:List α}(h:aD f w (.slice a n cap) l){lo hi:Nat}(h1:lo<=hi)(h2:hi<=κ l):aD f w (b8 a lo hi cap) ((l.take hi).drop lo):=by
 have hlen:κ ((l.take hi).drop lo)=hi-lo:=ab
 rcases h with⟨rfl,a',av,hv,hm,hn⟩|⟨b,off,av,hv,h0,hl,hm,hc⟩
 ·exact T1
 ·simp only[Abp]at hv;obtain⟨rfl,_,rfl⟩:=hv;by_cases he:hi=lo
  ·subst he;have:(l.take hi).drop hi=[]:=oz.1 ae;rw[this];refine .inl ⟨rfl,_,cap-hi,by unfold b8;rw[Nat.sub_self],ae,λh=>?_⟩;grind
  ·refine .inr ⟨b,off+lo,cap-lo,?_,ae,ae,ae,λi ag=>?_⟩
   ·grind [b8,add_plain]
   ·grind
theorem DF{P:bx}(T:Aab)(ht:P.underlying T=some (.slice (P.elem T)))(hs:∀W:af,(sizeOf (P.elem T)).run P W=.ok 1 W)(a:Option Addr)(len cap lo hi:Nat)(h1:lo<=hi)(h2:hi<=cap)(W:af):(Aav T (.slice a len cap) (some (.int .i64 (lo:Int))) (some (.int .i64 (hi:Int))) none).run P W=.ok (b8 a lo hi cap) W:=by exact Nq
theorem di{P:bx}(T:Aab)(ht:P.underlying T=some (.slice (P.elem T)))(hs:∀W:af,(sizeOf (P.elem T)).run P W=.ok 1 W)(a:Option Addr)(len cap lo:Nat)(h1:lo<=len)(W:af):(Aav T (.slice a len cap) (some (.int .i64 (lo:Int))) none none).run P W=.ok (b8 a lo len cap) W:=by rw[run_slice_l W T a len cap ht .i64 lo ae ae,hs];rfl
theorem hj{P:bx}(T:Aab)(ht:P.underlying T=some (.slice (P.elem T)))(hs:∀W:af,(sizeOf (P.elem T)).run P W=.ok 1 W)(a:Option Addr)(len cap hi:Nat)(h2:hi<=cap)(W:af):(Aav T (.slice a len cap) none (some (.int .i64 (hi:Int))) none).run P W=.ok (b8 a 0 hi cap) W:=by rw[run_slice_h W T a len cap ht .i64 hi ae ae,hs];rfl
def j2(z:ah)(n:Nat):Array ah:=Acv z.cells n
theorem rJ(z:ah)(n:Nat):(j2 z n).size=n:=by unfold j2;exact vX _ _
theorem Ru(z:ah)(hz:z.cells=#[z])(n:Nat):(j2 z n).toList=Aac n z:=by unfold j2;rw[hz,toList_madeCells_one]
theorem kH{P:bx}(t e:Aab)(z:ah)(bytes:Nat)(ht:P.underlying t=some (.slice e))(hinfo:(P.info? e).map (λi=>(i.zero,i.size,i.bytes))=some (some z,1,bytes))(c:Nat)(hc:bytes*c<=281474976710656)(hm:c<=9223372036854775807)(w:af):(Ach t (.int .i64 0) (.int .i64 (c:Int))).run P w=.ok (.slice (some ⟨w.heap.size,0,none⟩) 0 c) (w.alloc (.cells (j2 z c) e)):=by refine MW ?_;intro i hi hz0 hz1 az hb this;grind [j2]
theorem DE{P:bx}(t e:Aab)(z:ah)(bytes:Nat)(ht:P.underlying t=some (.slice e))(hinfo:(P.info? e).map (λi=>(i.zero,i.size,i.bytes))=some (some z,1,bytes))(c:Nat)(hc:bytes*c<=281474976710656)(hm:c<=9223372036854775807)(w:af):(Ach t (.int .i64 (c:Int)) (.int .i64 (c:Int))).run P w=.ok (.slice (some ⟨w.heap.size,0,none⟩) c c) (w.alloc (.cells (j2 z c) e)):=by refine MX ?_;intro i hi hz0 hz1 az hb this;grind [j2]
theorem Own.room(f:α->ah)(e:Aab)(w:af)(z:ah)(base c:Nat)(hb:base<=w.heap.size)(hc:c<=9223372036854775807):Own f e (w.alloc (.cells (j2 z c) e)) base (.slice (some ⟨w.heap.size,0,none⟩) 0 c) []:=AO w (j2 z c) c hb cm (by simp[rJ])
theorem Own.AH{f:α->ah}{f':β->ah}{e e':Aab}{w w':af}{v v':ah}{xs:List α}{ys:List β}(h:Own f e w base v xs)(h2:Own f' e' w base' v' ys)(hne:e≠e')(hg:w.grownBy w' v'.ownBlock):Own f e w' base v xs:=by
 refine sy h hg ?_;obtain⟨_,h⟩:=h;obtain⟨_,h2⟩:=h2;rcases h with⟨rfl,_⟩|⟨g,cap,cur,rfl,_,hh,_⟩
 ·exact .inl rfl
 ·right;rcases h2 with⟨rfl,_⟩|⟨g',av,aB,rfl,_,aa,_⟩
  ·simp[Aan]
  ·intro heq;simp[Aan]at heq;simp_all
theorem wX{P:bx}(f:α->ah)(hf:∀x,(f x).oneCell'=true){w:af}{a:Act}{Q:Exit->Act->af->Prop}(hgd:o.guard=none)(d s:bO)(t:TypeId)(ho:o.op=.call {callee:=.builtin .copy,args:=#[d,s],argTypes:=#[t,t]})(e:TypeId)(z:ah)(bytes:Nat)(ht:P.underlying t=some (.slice e))(hinfo:(P.info? e).map (λi=>(i.zero,i.size,i.bytes))=some (some z,1,bytes))(g n base:Nat)(hg:w.heap[g]?=some (.cells (j2 z n) e))(hb:base<=g)(aI:n<=9223372036854775807)(vs:ah)(ys:List α)(hd:a.eval d=.slice (some ⟨g,0,none⟩) n n)(hs:a.eval s=vs)(al:aD f w vs ys)(hn:n<=κ ys)(h:∀w',Own f e w' base (.slice (some ⟨g,0,none⟩) n n) (ys.take n)->Below g w w'->wpList P ops Q rest (a.put o.dst (goInt n)) w'):wpList P ops Q (o::rest) a w:=by
 obtain⟨i,hi,hz0,hz1,az⟩:=jF hinfo;obtain⟨sa,sc,rfl⟩:=al.slice;have hlen:κ ((ys.take n).map f)=n:=ab
 have aE:κ (j2 z n).toList=n:=by simp[rJ]
 refine wpList_copy_splice hgd d s t t ho e ht aa (some ⟨g,0,none⟩) sa n n (κ ys) sc hd hs g 0 (j2 z n).toList e ae ((ys.take n).map f) aa ?_ ae ?_ g w (eZ _ _) (aG _) ?_
 ·grind [cg,lj,add_plain]
 ·grind
 ·intro w' hh ar;rw[hlen];refine h w' ?_ ar;have hh:=hh.out;have bf:Aby (j2 z n).toList 0 ((ys.take n).map f)=(ys.take n).map f:=by unfold Aby;simp_all
  rw[bf]at hh;have aB:κ (ys.take n)=n:=ab
  refine⟨aq,.inr ⟨g,n,((ys.take n).map f).toArray,ab,hb,hh,ae,cm,ab,?_⟩⟩;grind
def cp(c:aj):(aF c).oneCell'=true:=rfl
def strOf(l:List aj):ByteArray:=⟨l.toArray⟩
theorem mA(l:List aj):(strOf l).data.toList=l:=rfl
def tc(l:List aj):(strOf l).size=κ l:=rfl
theorem lB{P:bx}(src e:Aab)(hs:P.underlying src=some (.slice e))(he:P.underlying e=some (.int .u8))(dst:Aab)(hd:P.underlying dst=some .string)(w:af)(v:ah)(l:List aj)(h:a8 w v l):(convert src dst v).run P w=.ok (.string (strOf l)) w:=by
 have conv:∀b off cap,(∀i(h:i<κ l),w.cell? ⟨b,off+i,none⟩=some (aF l[i]))->(convert src dst (.slice (some ⟨b,off,none⟩) (κ l) cap)).run P w=.ok (.string (strOf l)) w:=by
  intro b off cap hc;have hx:=run_convert_bytes_arg (P:=P) w src e hs he b off (κ l) cap (l.map λc=>(c.toNat:Int)) aq (λi hi=>by rw[hc i hi];unfold aF;simp[List.getD,jE hi]) dst hd
  rw[hx];congr 2;unfold strOf strOfNums;congr 2;rw[vY];conv=>rhs;rw[<-List.map_id l]
  apply List.map_congr_left;simp
 rcases h with⟨rfl,a,cap,rfl,_,hn⟩|⟨b,off,cap,rfl,_,_,_,hc⟩
 ·cases a with
  | none=>exact run_convert_bytes_nil w src e hs he 0 cap dst hd
  | some a=>rw[run_convert_bytes_string w src dst e _ 0 cap hs he hd,run_bytesToString w _ 0 cap [] ay];rfl
 ·simp_all
structure hL{α:Type}(f:α->List ah)(k:Nat):Prop where
 pos:0<k
 len:∀x,κ (f x)=k
 one:∀x,∀u∈f x,u.oneCell'=true
theorem hL.flat{f:α->List ah}(h:hL f k)(l:List α):κ (l.flatMap f)=κ l*k:=by
 induction l with
 | nil=>simp
 | cons x l ih=>rw[Abg,Aaf,h.len,ih,Aal,vZ];omega
theorem hL.cC{f:α->List ah}(h:hL f k)(l:List α):∀u∈l.flatMap f,u.oneCell'=true:=by intro u hu;obtain⟨x,_,hx⟩:=List.mem_flatMap.1 hu;exact h.one x u hx
theorem hL.at{α:Type}{f:α->List ah}{k:Nat}(h:hL f k):∀(l:List α)(i:Nat)(hi:i<κ l)(j:Nat),j<k->(l.flatMap f)[i*k+j]?=(f l[i])[j]?
 | x::l,0,_,j,hj=>by rw[Abg,yn (by rw[h.len];omega)];simp
 | x::l,i+1,hi,j,hj=>by rw[Abg,EH (by rw[h.len,vZ];omega),h.len];rw[show(i+1)*k+j-k=i*k+j from by rw[vZ];omega];exact h.at l i AY j hj
def aI(f:α->List ah)(w:af)(v:ah)(l:List α):Prop:=(l=[]/\∃a cap,v=.slice a 0 cap/\cap<=maxLen/\(a=none->cap=0))\/∃b off cap,v=.slice (some ⟨b,off,none⟩) (κ l) cap/\0<κ l/\(κ l)<=cap/\cap<=maxLen/\∀j u,(l.flatMap f)[j]?=some u->w.cell? ⟨b,off+j,none⟩=some u
def ak(f:α->List ah)(k:Nat)(e:Aab)(w:af)(base:Nat)(v:ah)(xs:List α):Prop:=w.ownsRow base e k v (κ xs) (xs.flatMap f)
section
variable {α:Type} {f:α->List ah} {k:Nat} {e:Aab}
theorem aI.up{w w':af}{v:ah}{l:List α}(h:aI f w v l)(hu:Up w w'):aI f w' v l:=by
 rcases h with h|⟨b,off,cap,h1,h2,h3,h4,h5⟩
 ·exact .inl h
 ·exact .inr ⟨b,off,cap,h1,h2,h3,h4,λj u hj=>hu.cell (h5 j u hj)⟩
theorem aI.length_le{w:af}{v:ah}{l:List α}(h:aI f w v l):κ l<=9223372036854775807:=by exact MS
theorem aI.slice{w:af}{v:ah}{l:List α}(h:aI f w v l):∃a cap,v=.slice a (κ l) cap:=by
 rcases h with⟨rfl,a,cap,rfl,_⟩|⟨b,off,cap,rfl,_⟩
 ·simp
 ·simp
theorem aI.nil(f:α->List ah)(w:af):aI f w (.slice none 0 0) []:=.inl ⟨rfl,none,0,rfl,bE _,λ_=>rfl⟩
theorem aI.get{w:af}{a:Option Addr}{n cap:Nat}{l:List α}(h:aI f w (.slice a n cap) l)(hw:hL f k)(h0:0<κ l):∃b off,a=some ⟨b,off,none⟩/\b<w.heap.size/\n<=cap/\∀i(hi:i<κ l) j u,(f l[i])[j]?=some u->w.cell? ⟨b,off+(i*k+j),none⟩=some u:=by
 rcases h with⟨rfl,_⟩|⟨b,off,av,hv,_,hl,_,hc⟩
 ·simp at h0
 ·simp at hv;obtain⟨rfl,rfl,rfl⟩:=hv;have key:∀i(hi:i<κ l) j u,(f l[i])[j]?=some u->w.cell? ⟨b,off+(i*k+j),none⟩=some u:=λi hi j u hu=>by
   have hj:j<k:=by rw[<-hw.len l[i]];exact(lp.1 hu).1
   exact hc _ _ ((hw.at l i hi j hj).trans hu)
  refine⟨b,off,rfl,?_,hl,key⟩;exact hX w _ (key 0 h0 0 _ (jE (by rw[hw.len];exact hw.pos)))
theorem aI.owned{w:af}{base:Nat}{v:ah}{l:List α}(hw:hL f k)(h:w.ownsRow base e k v (κ l) (l.flatMap f)):aI f w v l:=by
 obtain⟨_,h2⟩:=h;rcases h2 with⟨rfl,h0⟩|⟨g,cap,cur,rfl,_,hg,hn,hm,hs,ht⟩
 ·grind [aI.nil]
 ·by_cases h0:κ l=0
  ·exact MT
  ·refine .inr ⟨g,0,cap,rfl,ae,hn,hm,λj u hj=>?_⟩;have hc:w.cell? ⟨g,0+j,none⟩=cur[0+j]?:=by simp[Aco,hg]
   grind
def ak.row{w:af}{base:Nat}{v:ah}{l:List α}(h:ak f k e w base v l)(hw:hL f k):aI f w v l:=aI.owned hw h
theorem ak.nil(f:α->List ah)(k:Nat)(e:Aab)(w:af)(base:Nat):ak f k e w base (.slice none 0 0) []:=yk _ _ _ _
theorem ak.mono{w:af}{base base':Nat}{v:ah}{xs:List α}(h:ak f k e w base v xs)(hb:base'<=base):ak f k e w base' v xs:=by exact UF
theorem ak.up{w w':af}{base:Nat}{v:ah}{xs:List α}(h:ak f k e w base v xs)(hu:Up w w'):ak f k e w' base v xs:=by exact UG
theorem ak.made(f:α->List ah)(k:Nat)(e:Aab)(w:af)(base:Nat)(hb:base<=w.heap.size):ak f k e (w.alloc (.cells #[] e)) base (.slice (some ⟨w.heap.size,0,none⟩) 0 0) []:=AO w #[] 0 hb (bE _) aq
def ak.aN{w:af}{base:Nat}{v:ah}{xs:List α}(h:ak f k e w base v xs):∀n,v.ownBlock=some n->base<=n/\n<w.heap.size:=Adv h
def ak.kept{w w':af}{row:Option Nat}{base:Nat}{v:ah}{xs:List α}(h:ak f k e w base v xs)(hg:w.grownBy w' row)(hne:v.ownBlock=none\/v.ownBlock≠row):ak f k e w' base v xs:=sy h hg hne
theorem aI.er(w:af)(b:Nat)(hb:b=w.heap.size)(cs:Array ah)(t:Aab)(fr:Nat × Nat)(l:List α)(n:Nat)(hn:n=κ l)(hm:n<=maxLen)(aE:cs.toList=l.flatMap f):aI f (w.alloc (.cells cs t fr)) (.slice (some ⟨b,0,none⟩) n n) l:=by
 subst hb hn;by_cases h0:κ l=0
 ·exact MU
 ·refine .inr ⟨w.heap.size,0,κ l,rfl,ae,aG _,hm,λj u hj=>?_⟩;refine F0 ?_;intro hh;have hc:(w.alloc (.cells cs t fr)).cell? ⟨w.heap.size,0+j,none⟩=cs[0+j]?:=by unfold Aco;rw[hh];rfl
  grind
end
section
variable {α:Type} {P:bx}
theorem CI{f:α->List ah}{k:Nat}(hw:hL f k){w:af}{o:Oper}{a:Act}{K:Act->af->Prop}{Q:Exit->Act->af->Prop}(s x:bO)(t:TypeId)(ho:o.op=.call {callee:=.builtin .append,args:=#[s,x],argTypes:=#[t,t]})(base:Nat)(e:TypeId)(z:ah)(bytes:Nat)(ht:P.underlying t=some (.slice e))(hinfo:(P.info? e).map (λi=>(i.zero,i.size,i.bytes))=some (some z,k,bytes))(au:z.cells.size=k)(v:ah)(xs:List α)(hs:a.eval s=v)(hown:ak f k e w base v xs)(vx:ah)(ys:List α)(hx:a.eval x=vx)(al:aI f w vx ys)(ai:(κ xs+κ ys)*bytes<=140737488355328)(an:κ xs+κ ys<=9223372036854775807)(ag:base<=w.heap.size)(h:∀v' w',ak f k e w' base v' (xs++ys)->w.grownBy w' v.ownBlock->Below base w w'->K (a.put o.dst v') w'):o.wp P a w K Q:=by
 obtain⟨i,hi,hz0,hz1,az⟩:=jF hinfo;have ar:κ xs+κ ys<=maxLen:=cm
 have key:∀(ad:Addr)(c:Nat),vx=.slice (some ad) (κ ys) c->(∀j u,(ys.flatMap f)[j]?=some u->w.cell? (ad.add j)=some u)->o.wp P a w K Q:=by intro ad c av aj;refine wp_append_own w s x t ho base e i z k bytes ht hi hz0 hz1 az au hw.pos v (κ xs) (xs.flatMap f) hs hown ad (κ ys) c (ys.flatMap f) aa (hw.flat ys) aj (hw.cC ys) ar ai ag ?_;intro v' w' h1 h2 _;refine h v' w' ?_ h2 (fc h2 ag λk hk=>(hown.aN k hk).1);grind [ak]
 rcases al with⟨rfl,ad,cap,rfl,hc,hn⟩|⟨b,off,cap,rfl,h0,hl,hm,hc⟩
 ·cases ad with
  | none=>obtain rfl:=hn rfl;have hrun:=yl (P:=P) (w:=w) base t o.type e i k ht hi v (κ xs) (xs.flatMap f) hown;exact MV
  | some ad=>simp_all
 ·grind [add_plain]
def bI{f:α->List ah}{k:Nat}(hw:hL f k){w:af}{ops:Array Oper}{rest:List Oper}{o:Oper}{a:Act}{Q:Exit->Act->af->Prop}(hgd:o.guard=none)(s x:bO)(t:TypeId)(ho:o.op=.call {callee:=.builtin .append,args:=#[s,x],argTypes:=#[t,t]})(base:Nat)(e:TypeId)(z:ah)(bytes:Nat)(ht:P.underlying t=some (.slice e))(hinfo:(P.info? e).map (λi=>(i.zero,i.size,i.bytes))=some (some z,k,bytes))(au:z.cells.size=k)(v:ah)(xs:List α)(hs:a.eval s=v)(hown:ak f k e w base v xs)(vx:ah)(ys:List α)(hx:a.eval x=vx)(al:aI f w vx ys)(ai:(κ xs+κ ys)*bytes<=140737488355328)(an:κ xs+κ ys<=9223372036854775807)(ag:base<=w.heap.size)(h:∀v' w',ak f k e w' base v' (xs++ys)->w.grownBy w' v.ownBlock->Below base w w'->wpList P ops Q rest (a.put o.dst v') w'):wpList P ops Q (o::rest) a w:=gZ hgd λ_ hK=>CI hw s x t ho base e z bytes ht hinfo au v xs hs hown vx ys hx al ai an ag λv' w' h1 h2 h3=>hK _ _ (h v' w' h1 h2 h3)
theorem mG{f:α->List ah}{k:Nat}(hw:hL f k){w:af}{o:Oper}{a:Act}{K:Act->af->Prop}{Q:Exit->Act->af->Prop}(s x:bO)(t:TypeId)(ho:o.op=.call {callee:=.builtin .append,args:=#[s,x],argTypes:=#[t,t]})(base:Nat)(e:TypeId)(z:ah)(bytes:Nat)(ht:P.underlying t=some (.slice e))(hinfo:(P.info? e).map (λi=>(i.zero,i.size,i.bytes))=some (some z,k,bytes))(g cap n:Nat)(xs:List α)(hn:n=κ xs)(hs:a.eval s=cv g n cap)(hown:ak f k e w base (cv g n cap) xs)(vx:ah)(ys:List α)(hx:a.eval x=vx)(al:aI f w vx ys)(m:Nat)(hm:m=κ xs+κ ys)(ao:m<=cap)(ag:base<=w.heap.size)(h:∀w',ak f k e w' base (cv g m cap) (xs++ys)->w.grownBy w' (some g)->Below base w w'->K (a.put o.dst (cv g m cap)) w'):o.wp P a w K Q:=by
 subst hn hm;obtain⟨i,hi,hz0,hz1,az⟩:=jF hinfo;have hg:=hown.aN g rfl;have key:∀(ad:Addr)(c:Nat),vx=.slice (some ad) (κ ys) c->(∀j u,(ys.flatMap f)[j]?=some u->w.cell? (ad.add j)=some u)->o.wp P a w K Q:=by intro ad c av aj;refine wp_append_own_spare w s x t ho base e i k ht hi hz1 g (κ xs) cap (xs.flatMap f) hs hown ad (κ ys) c (ys.flatMap f) aa (hw.flat ys) aj (hw.cC ys) ao ?_;grind [fc,ak]
 rcases al with⟨rfl,ad,c,rfl,hc,hn⟩|⟨b,off,c,rfl,h0,hl,aB,hc⟩
 ·cases ad with
  | none=>obtain rfl:=hn rfl;have hrun:=yl (P:=P) (w:=w) base t o.type e i k ht hi _ (κ xs) (xs.flatMap f) hown;unfold Acb;simp[Abs,ho,resolve,invoke,builtin,hs,hx,hrun,Aap];exact h w ab ⟨rfl,rfl,rfl,aG _,λ_ _ _=>rfl⟩ (eZ _ _)
  | some ad=>simp_all
 ·grind [add_plain]
theorem eM{f:α->List ah}{k:Nat}(hw:hL f k){w:af}{ops:Array Oper}{rest:List Oper}{o:Oper}{a:Act}{Q:Exit->Act->af->Prop}(hgd:o.guard=none)(s x:bO)(t:TypeId)(ho:o.op=.call {callee:=.builtin .append,args:=#[s,x],argTypes:=#[t,t]})(base:Nat)(e:TypeId)(z:ah)(bytes:Nat)(ht:P.underlying t=some (.slice e))(hinfo:(P.info? e).map (λi=>(i.zero,i.size,i.bytes))=some (some z,k,bytes))(g cap n:Nat)(xs:List α)(hn:n=κ xs)(hs:a.eval s=cv g n cap)(hown:ak f k e w base (cv g n cap) xs)(vx:ah)(ys:List α)(hx:a.eval x=vx)(al:aI f w vx ys)(m:Nat)(hm:m=κ xs+κ ys)(ao:m<=cap)(ag:base<=w.heap.size)(h:∀w',ak f k e w' base (cv g m cap) (xs++ys)->w.grownBy w' (some g)->Below base w w'->wpList P ops Q rest (a.put o.dst (cv g m cap)) w'):wpList P ops Q (o::rest) a w:=gZ hgd λ_ hK=>mG hw s x t ho base e z bytes ht hinfo g cap n xs hn hs hown vx ys hx al m hm ao ag λw' h1 h2 h3=>hK _ _ (h w' h1 h2 h3)
theorem step_append_room{f:α->List ah}{k:Nat}(hw:hL f k){w:af}{ops:Array Oper}{o:Oper}{a:Act}{K:Act->af->Prop}{Q:Exit->Act->af->Prop}{E:Prop}(hgd:o.guard=none)(s x:bO)(t:TypeId)(ho:o.op=.call {callee:=.builtin .append,args:=#[s,x],argTypes:=#[t,t]})(base:Nat)(e:TypeId)(z:ah)(bytes:Nat)(ht:P.underlying t=some (.slice e))(hinfo:(P.info? e).map (λi=>(i.zero,i.size,i.bytes))=some (some z,k,bytes))(g cap n:Nat)(xs:List α)(hn:n=κ xs)(hs:a.eval s=cv g n cap)(hown:ak f k e w base (cv g n cap) xs)(vx:ah)(ys:List α)(hx:a.eval x=vx)(al:aI f w vx ys)(m:Nat)(hm:m=κ xs+κ ys)(ao:m<=cap)(ag:base<=w.heap.size)(h:∀w',ak f k e w' base (cv g m cap) (xs++ys)->w.grownBy w' (some g)->Below base w w'->K (a.put o.dst (cv g m cap)) w'):if Region.wanted o (yielded ops a.tmps)=true then Oper.wp P o a w K Q else E:=by
 have hw2:Aaa o (Aa1 ops a.tmps)=true:=by simp[Aaa,hgd]
 grind [mG]
end
def partOf(k:Nat)(a:Option Addr)(lo hi cap:Nat):ah:=.slice (if cap=lo then a else a.map (·.add (lo*k))) (hi-lo) (cap-lo)
theorem aI.part{f:α->List ah}(hw:hL f k){w:af}{a:Option Addr}{l:List α}(h:aI f w (.slice a n cap) l){lo hi:Nat}(h1:lo<=hi)(h2:hi<=κ l):aI f w (partOf k a lo hi cap) ((l.take hi).drop lo):=by
 have hlen:κ ((l.take hi).drop lo)=hi-lo:=ab
 rcases h with⟨rfl,a',av,hv,hm,hn⟩|⟨b,off,av,hv,h0,hl,hm,hc⟩
 ·exact T1
 ·simp only[Abp]at hv;obtain⟨rfl,_,rfl⟩:=hv;by_cases he:hi=lo
  ·subst he;have:(l.take hi).drop hi=[]:=oz.1 ae;rw[this];refine .inl ⟨rfl,_,cap-hi,by unfold partOf;rw[Nat.sub_self],ae,λh=>?_⟩;grind
  ·refine .inr ⟨b,off+lo*k,cap-lo,?_,ae,ae,ae,λj u hj=>?_⟩
   ·grind [partOf,add_plain]
   ·have al:l.flatMap f=(l.take lo).flatMap f++(((l.take hi).drop lo).flatMap f++(l.drop hi).flatMap f):=by
     rw[<-gC,<-gC];congr 1;have e1:l.take hi=l.take lo++(l.take hi).drop lo:=by have:=fH lo (l.take hi);grind
     rw[<-Aa8,<-e1,fH]
    have aB:κ ((l.take lo).flatMap f)=lo*k:=by rw[hw.flat,ev,Nat.min_eq_left ae]
    have:=hc (lo*k+j) u (by rw[al,EH ae,aB,show lo*k+j-lo*k=j from ae];rw[yn (lp.1 hj).1];exact hj)
    grind
theorem Vm{P:bx}(T:Aab)(k:Nat)(ht:P.underlying T=some (.slice (P.elem T)))(hs:∀W:af,(sizeOf (P.elem T)).run P W=.ok k W)(a:Option Addr)(len cap lo hi:Nat)(h1:lo<=hi)(h2:hi<=cap)(W:af):(Aav T (.slice a len cap) (some (.int .i64 (lo:Int))) (some (.int .i64 (hi:Int))) none).run P W=.ok (partOf k a lo hi cap) W:=by exact Nq
theorem fY{P:bx}(T:Aab)(k:Nat)(ht:P.underlying T=some (.slice (P.elem T)))(hs:∀W:af,(sizeOf (P.elem T)).run P W=.ok k W)(a:Option Addr)(len cap lo:Nat)(h1:lo<=len)(W:af):(Aav T (.slice a len cap) (some (.int .i64 (lo:Int))) none none).run P W=.ok (partOf k a lo len cap) W:=by rw[run_slice_l W T a len cap ht .i64 lo ae ae,hs];rfl
theorem xB{P:bx}(T:Aab)(k:Nat)(ht:P.underlying T=some (.slice (P.elem T)))(hs:∀W:af,(sizeOf (P.elem T)).run P W=.ok k W)(a:Option Addr)(len cap hi:Nat)(h2:hi<=cap)(W:af):(Aav T (.slice a len cap) none (some (.int .i64 (hi:Int))) none).run P W=.ok (partOf k a 0 hi cap) W:=by rw[run_slice_h W T a len cap ht .i64 hi ae ae,hs];rfl
theorem mo{P:bx}(t e:Aab)(z:ah)(k bytes:Nat)(ht:P.underlying t=some (.slice e))(hinfo:(P.info? e).map (λi=>(i.zero,i.size,i.bytes))=some (some z,k,bytes))(c:Nat)(hc:bytes*c<=281474976710656)(hm:c<=9223372036854775807)(w:af):(Ach t (.int .i64 0) (.int .i64 (c:Int))).run P w=.ok (.slice (some ⟨w.heap.size,0,none⟩) 0 c) (w.alloc (.cells (Acv z.cells (c*k)) e)):=by refine MW ?_;intro i hi hz0 hz1 az hb this;simp_all
theorem ak.room(f:α->List ah)(k:Nat)(e:Aab)(w:af)(z:ah)(base c:Nat)(hb:base<=w.heap.size)(hc:c<=9223372036854775807):ak f k e (w.alloc (.cells (Acv z.cells (c*k)) e)) base (.slice (some ⟨w.heap.size,0,none⟩) 0 c) []:=AO w _ c hb cm (vX _ _)
def aH(w:af)(g:Nat)(t:Aab)(C:Array ah):Prop:=w.heap[g]?=some (.cells C t (0,0))
section
variable {w w':af} {g:Nat} {t:Aab} {C:Array ah}
def aH.lt(h:aH w g t C):g<w.heap.size:=(p2.1 h).1
theorem aH.up(h:aH w g t C)(hu:Up w w'):aH w' g t C:=by unfold aH;rw[oA hu g h.lt];exact h
theorem aH.grown(h:aH w g t C){row:Option Nat}(hg:w.grownBy w' row)(hne:row≠some g):aH w' g t C:=by unfold aH;rw[hg.block g h.lt (λe=>hne e.symm)];exact h
theorem aH.new(w:af)(t:Aab)(C:Array ah):aH (w.alloc (.cells C t)) w.heap.size t C:=by unfold aH;show(w.heap.push _)[w.heap.size]?=_;simp
theorem aH.newAt(w:af)(g:Nat)(hg:g=w.heap.size)(t:Aab)(C:Array ah):aH (w.alloc (.cells C t)) g t C:=by grind [aH.new]
theorem aH.cell(h:aH w g t C)(i:Nat):w.cell? ⟨g,i,none⟩=C[i]?:=by unfold Aco;rw[h];rfl
theorem aH.free(h:aH w g t C)(i:Nat):w.frozen? ⟨g,i,none⟩=false:=by unfold World.frozen?;rw[h];simp
theorem aH.range(h:aH w g t C):w.rangeAt g 0 C.toList:=λj v hj=>by rw[h.cell,Abr];simpa using hj
end
theorem cQ(w:af)(g:Nat)(cs:Array ah):w.grownBy (w.setRow g cs) (some g):=⟨rfl,rfl,rfl,aq,λk hk hne=>by
  simp only[World.setRow];rw[EI];rw[aM (λe=>hne (by rw[e]))]⟩
def aH.set{w:af}{C:Array ah}(h:aH w g t C)(C':Array ah):aH (w.setRow g C') g t C':=setRow_heap w g C C' t _ h
theorem aH.setCell{w:af}{C:Array ah}(h:aH w g t C)(i:Nat)(v:ah):aH (w.setCell ⟨g,i,none⟩ v) g t (C.setIfInBounds i v):=by rw[setCell_eq_setRow w g i C t (0,0) v h];exact h.set _
theorem b0{w:af}{C:Array ah}(h:aH w g t C)(i:Nat)(v:ah):w.grownBy (w.setCell ⟨g,i,none⟩ v) (some g):=by rw[setCell_eq_setRow w g i C t (0,0) v h];simp[cQ]
section
variable {P:bx}
theorem iT{ops:Array Abn}{rest:List Abn}{op:Abn}{a:Act}{w:af}{Q:Exit->Act->af->Prop}(hgd:op.guard=none)(ty:Aab)(x:bO)(ho:op.op=.load ty x)(g:Nat)(hx:a.eval x=.pointer (some ⟨g,0,none⟩))(t:Aab)(C:Array ah)(hb:aH w g t C)(d:eJ)(hu:P.underlying ty=some d)(hd:d.isRow=true)(hi:(P.info? ty).map (·.size)=some C.size)(h:Aak P ops Q rest (a.put op.dst (.agg C)) w):Aak P ops Q (op::rest) a w:=wpList_load_mid hgd ty x ho g 0 hx C.toList d hb.range hu hd ae jG
theorem og{ops:Array Abn}{rest:List Abn}{op:Abn}{a:Act}{w:af}{Q:Exit->Act->af->Prop}(hw:Aaa op (Aa1 ops a.tmps)=true)(ty:Aab)(x:bO)(ho:op.op=.load ty x)(g:Nat)(hx:a.eval x=pz g)(t:Aab)(C:Array ah)(hb:aH w g t C)(d:eJ)(hu:P.underlying ty=some d)(hd:d.isRow=true)(hi:(P.info? ty).map (·.size)=some C.size)(h:Aak P ops Q rest (a.put op.dst (.agg C)) w):Aak P ops Q (op::rest) a w:=p3 hw λ_ hK=>wp_load_mid ty x ho g 0 hx C.toList d hb.range hu hd ae (hK _ _ jG)
theorem kT{ops:Array Abn}{rest:List Abn}{o:Abn}{a:Act}{w:af}{Q:Exit->Act->af->Prop}(hw:Aaa o (Aa1 ops a.tmps)=true)(t:Aab)(ho:o.op=.build t #[])(C:Array ah)(hb:P.built t []=some C)(h:Aak P ops Q rest (a.put o.dst (.agg C)) w):Aak P ops Q (o::rest) a w:=p3 hw λ_ hK=>wp_build t #[] ho aa (hK _ _ (by simpa[hb]using h))
theorem dk{ops:Array Abn}{rest:List Abn}{op:Abn}{a:Act}{w:af}{Q:Exit->Act->af->Prop}(hgd:op.guard=none)(ty:Aab)(ho:op.op=.alloc ty)(C:Array ah)(hz:∀W:af,(Ab9 ty).run P W=.ok (.agg C) W)(h:Aak P ops Q rest (a.put op.dst (.pointer (some ⟨w.heap.size,0,none⟩))) (w.alloc (.cells C ty))):Aak P ops Q (op::rest) a w:=by refine uH ?_;intro K hK;simp[ho,Instr.alloc,Aaw,hz,newVar,newRow,Value.cells,Aap];exact hK _ _ h
theorem ij{w:af}(ty:Aab)(g:Nat)(t:Aab)(C:Array ah)(hb:aH w g t C)(d:eJ)(hu:P.underlying ty=some d)(hd:d.isRow=true)(hi:(P.info? ty).map (·.size)=some C.size):(loadVar ty ⟨g,0,none⟩).run P w=.ok (.agg C) w:=by have:=EJ (P:=P) w g 0 ty C.toList d hb.range hu hd ae;omega
theorem gJ{ops:Array Abn}{rest:List Abn}{op:Abn}{a:Act}{w:af}{Q:Exit->Act->af->Prop}(hgd:op.guard=none)(ty:Aab)(x:bO)(ho:op.op=.load ty x)(g off:Nat)(hx:a.eval x=.pointer (some ⟨g,off,none⟩))(C:Array ah)(hc:w.rangeAt g off C.toList)(d:eJ)(hu:P.underlying ty=some d)(hd:d.isRow=true)(hi:(P.info? ty).map (·.size)=some C.size)(h:Aak P ops Q rest (a.put op.dst (.agg C)) w):Aak P ops Q (op::rest) a w:=wpList_load_mid hgd ty x ho g off hx C.toList d hc hu hd ae jG
def ek{ops:Array Abn}{rest:List Abn}{op:Abn}{a:Act}{w:af}{Q:Exit->Act->af->Prop}(hgd:op.guard=none)(ty:Aab)(x y:bO)(ho:op.op=.store ty x y)(g:Nat)(C':Array ah)(hx:a.eval x=.pointer (some ⟨g,0,none⟩))(hy:a.eval y=.agg C')(t:Aab)(C:Array ah)(hb:aH w g t C)(hi:(P.info? ty).map (·.size)=some C'.size)(hold:C.size=C'.size)(h1:C'.all (·.oneCell')=true)(h:∀w',aH w' g t C'->w.grownBy w' (some g)->Aak P ops Q rest (a.put op.dst Aar) w'):Aak P ops Q (op::rest) a w:=EK hgd ty x y ho g C' hx hy t C hb hi hold h1 (h _ (hb.set C') (cQ w g C'))
theorem gK{ops:Array Abn}{rest:List Abn}{op:Abn}{a:Act}{w:af}{Q:Exit->Act->af->Prop}(hgd:op.guard=none)(ty:Aab)(x y:bO)(ho:op.op=.store ty x y)(g:Nat)(hg:g=w.heap.size)(C':Array ah)(hx:a.eval x=.pointer (some ⟨g,0,none⟩))(hy:a.eval y=.agg C')(t:Aab)(C:Array ah)(hi:(P.info? ty).map (·.size)=some C'.size)(hold:C.size=C'.size)(h1:C'.all (·.oneCell')=true)(h:Aak P ops Q rest (a.put op.dst Aar) (w.alloc (.cells C' t))):Aak P ops Q (op::rest) a (w.alloc (.cells C t)):=by
 subst hg;refine EK hgd ty x y ho w.heap.size C' hx hy t C (aH.new w t C) hi hold h1 ?_;have e:(w.alloc (.cells C t)).setRow w.heap.size C'=w.alloc (.cells C' t):=by simp only[World.setRow,World.alloc];congr 1;grind
 simp_all
theorem cj{ops:Array Abn}{rest:List Abn}{op:Abn}{a:Act}{w:af}{Q:Exit->Act->af->Prop}(hgd:op.guard=none)(ty:Aab)(x y:bO)(ho:op.op=.store ty x y)(g off:Nat)(V:Array ah)(hx:a.eval x=.pointer (some ⟨g,off,none⟩))(hy:a.eval y=.agg V)(t:Aab)(C:Array ah)(hb:aH w g t C)(hi:(P.info? ty).map (·.size)=some V.size)(hfit:off+V.size<=C.size)(h1:V.all (·.oneCell')=true)(h:∀w',aH w' g t (Aby C.toList off V.toList).toArray->w.grownBy w' (some g)->Aak P ops Q rest (a.put op.dst Aar) w'):Aak P ops Q (op::rest) a w:=by
 have aE:=v7 (P:=P) g off t V.toList 0 C w hb ae (λv hv=>(v8.1 h1) v aa);have a6:(storeVar ty ⟨g,off,none⟩ (.agg V)).run P w=.ok () (w.setRow g (Aby C.toList off V.toList).toArray):=by
  cases hq:P.info? ty with
  | none=>simp_all
  | some i=>
   have hs:V.size=i.size:=aa
   simp[storeVar,sizeOf,typeInfo,hq,Value.cells,hs];simp at aE;assumption
 refine uH ?_;intro K hK;simp only[ho,hx,hy,Instr.storeAt,Adf,Aaw,Acq,Aau,a6];exact hK _ _ (h _ (hb.set _) (cQ w g _))
theorem hC{ops:Array Oper}{rest:List Oper}{op:Oper}{a:Act}{w:af}{Q:Exit->Act->af->Prop}(hgd:op.guard=none)(d s:bO)(dT sT:TypeId)(ho:op.op=.call {callee:=.builtin .copy,args:=#[d,s],argTypes:=#[dT,sT]})(elem:TypeId)(hu:P.underlying dT=some (.slice elem))(aL:(P.info? elem).map (·.size)=some 1)(f:aj->ah)(hf:∀x,(f x).oneCell'=true)(g off n cap:Nat)(hd:a.eval d=.slice (some ⟨g,off,none⟩) n cap)(vs:ah)(ys:List aj)(hs:a.eval s=vs)(al:aD f w vs ys)(hn:κ ys<=n)(t:TypeId)(C:Array ah)(hb:aH w g t C)(hfit:off+κ ys<=C.size)(h:∀w',aH w' g t (splice C.toList off (ys.map f)).toArray->Below g w w'->w.grownBy w' (some g)->wpList P ops Q rest (a.put op.dst (goInt (κ ys))) w'):wpList P ops Q (op::rest) a w:=by
 obtain⟨sa,sc,rfl⟩:=al.slice;have hlen:κ (ys.map f)=κ ys:=aq
 by_cases h0:κ ys=0
 ·obtain rfl:ys=[]:=Md h0;refine wpList_copy_nothing hgd d s dT sT ho elem hu aL (some ⟨g,off,none⟩) sa n cap 0 sc hd hs aq ?_;exact h w (by simpa[Aby]using hb) (eZ _ _) ⟨rfl,rfl,rfl,aG _,λ_ _ _=>rfl⟩
 ·obtain⟨b,o,rfl,_,hc⟩:=cg al rfl ae;refine wpList_copy_own hgd d s dT sT ho elem hu aL g off n cap _ (κ ys) sc hd hs C t hb (ys.map f) aa (λj u hj=>?_) ae (λu hu=>?_) ?_
  ·grind [lj,add_plain]
  ·grind
  ·have:=h _ (hb.set (Aby C.toList off (ys.map f)).toArray) (below_setRow (eZ _ _) (aG _) _) (cQ w g _);rw[hlen];simpa[Aby]using this
theorem vf{α:Type}(d:Nat){t e:Aab}{n:Nat}{i:TypeInfo}(hu:P.underlying t=some (.array n e))(hi:P.info? e=some i)(xs ys:Array ah)(l m:List α)(hl:κ l=n)(hm:κ m=n)(F:α->ah)(B:α->α->Bool)(hB:∀x y,B x y=true↔x=y)(px:∀j(h:j<κ l) W,(part e xs (j*P.cellsOf e)).run P W=.ok (F l[j]) W)(py:∀j(h:j<κ m) W,(part e ys (j*P.cellsOf e)).run P W=.ok (F m[j]) W)(pe:∀x y W,(Ack d e (F x) (F y)).run P W=.ok (B x y) W)(w:af)(r:Bool)(hr:r=true↔l=m):(Ack (d+1) t (.agg xs) (.agg ys)).run P w=.ok r w:=by
 rw[run_equalIn_array w d xs ys hu hi];have key:∀(is:List Nat),(∀j∈is,j<n)->(Op.eqItems d e (P.cellsOf e) xs ys is).run P w=.ok (is.all λj=>if h:j<κ l/\j<κ m then B l[j] m[j] else true) w:=by
  intro is;induction is with
  | nil=>intro _;rfl
  | cons j is ih=>
   intro hj;have h1:j<κ l:=aa
   have h2:j<κ m:=ae
   simp only[Op.eqItems,Aaw,px j h1,py j h2,pe,Aau,List.all_cons];rw[dif_pos ⟨h1,h2⟩];cases hb:B l[j] m[j]
   ·simp
   ·simp_all
 rw[key (Aaj n) (λj hj=>aa)];congr 1;rw[AP,hr,List.all_eq_true];constructor
 ·intro h;apply yo ae;simp_all
 ·simp_all
end
section
variable {P:bx} {ops:Array Abn} {Q:Exit->Act->af->Prop} {rest:List Abn} {a:Act} {w:af} {dst:Option Tmp} {type:Aab} {pos:String} {after:Array Edge} {guard:Option (Nat × Bool)}
def vu(ty:TypeId)(x:bO)(h:wpList P ops Q ({dst:=dst,op:=.load ty x,type:=type,pos:=pos,after:=after,guard:=guard}::rest) a w):wpList P ops Q ({dst:=dst,op:=.load ty x,type:=type,pos:=pos,after:=after,guard:=guard}::rest) a w:=h
def cu(ty:TypeId)(x y:bO)(h:wpList P ops Q ({dst:=dst,op:=.store ty x y,type:=type,pos:=pos,after:=after,guard:=guard}::rest) a w):wpList P ops Q ({dst:=dst,op:=.store ty x y,type:=type,pos:=pos,after:=after,guard:=guard}::rest) a w:=h
def vs(ty:TypeId)(h:wpList P ops Q ({dst:=dst,op:=.alloc ty,type:=type,pos:=pos,after:=after,guard:=guard}::rest) a w):wpList P ops Q ({dst:=dst,op:=.alloc ty,type:=type,pos:=pos,after:=after,guard:=guard}::rest) a w:=h
def dI(ty:TypeId)(parts:Array (Nat × bO))(h:wpList P ops Q ({dst:=dst,op:=.build ty parts,type:=type,pos:=pos,after:=after,guard:=guard}::rest) a w):wpList P ops Q ({dst:=dst,op:=.build ty parts,type:=type,pos:=pos,after:=after,guard:=guard}::rest) a w:=h
def dJ(ty:TypeId)(n:Nat)(parts:Array (Nat × bO))(h:wpList P ops Q ({dst:=dst,op:=.buildSlice ty n parts,type:=type,pos:=pos,after:=after,guard:=guard}::rest) a w):wpList P ops Q ({dst:=dst,op:=.buildSlice ty n parts,type:=type,pos:=pos,after:=after,guard:=guard}::rest) a w:=h
end
section
variable {P:bx} {ops:Array Abn} {rest:List Abn} {op:Abn} {a:Act} {Q:Exit->Act->af->Prop}
theorem Oy{w:af}(hw:Aaa op (Aa1 ops a.tmps)=true)(ty:Aab)(x:bO)(ho:op.op=.load ty x)(g off:Nat)(hx:a.eval x=pq g off)(C:Array ah)(hc:w.rangeAt g off C.toList)(d:eJ)(hu:P.underlying ty=some d)(hd:d.isRow=true)(hi:(P.info? ty).map (·.size)=some C.size)(h:Aak P ops Q rest (a.put op.dst (.agg C)) w):Aak P ops Q (op::rest) a w:=p3 hw λ_ hK=>wp_load_mid ty x ho g off hx C.toList d hc hu hd ae (hK _ _ jG)
theorem fC{W:af}(w:af)(hgd:op.guard=none)(ty:Aab)(x y:bO)(ho:op.op=.store ty x y)(C':Array ah)(t:Aab)(C:Array ah)(hW:W=w.alloc (.cells C t))(hx:a.eval x=.pointer (some ⟨w.heap.size,0,none⟩))(hy:a.eval y=.agg C')(hi:(P.info? ty).map (·.size)=some C'.size)(hold:C.size=C'.size)(h1:C'.all (·.oneCell')=true)(h:Aak P ops Q rest (a.put op.dst Aar) (w.alloc (.cells C' t))):Aak P ops Q (op::rest) a W:=by subst hW;exact gK hgd ty x y ho _ rfl C' hx hy t C hi hold h1 h
end
def aC(s:List aj):Array ah:=(s.map aF).toArray
def aK:List aj:=Aac 128 0
theorem bX(s:List aj):(aC s).size=κ s:=by simp[aC]
theorem rC(s:List aj):(aC s).toList=s.map aF:=ay
theorem dj(s:List aj):(aC s).all (·.oneCell')=true:=AQ (λv hv=>by obtain⟨y,_,rfl⟩:=Abf.1 hv;rfl)
theorem dx:(prog.info? 60).map (·.size)=some 128:=av
theorem hI:∀W:af,(Ab9 60).run Aag W=.ok (.agg (aC aK)) W:=(lq (P:=Aag) (t:=60) (v:=.agg (aC aK)) (n:=128) ay).1
theorem hZ:prog.built 60 []=some (aC aK):=av
theorem K8(s t:List aj)(hs:κ s=128)(ht:κ t=128)(W:af):(Ack 10000 60 (.agg (aC s)) (.agg (aC t))).run Aag W=.ok (decide (s=t)) W:=by
 have:=run_equalIn_bytes (P:=Aag) W 9998 60 5 128 Acr underlying5 (λw=>ay) s t hs ht;have e:(s==t)=decide (s=t):=aQ
 rw[e]at this;exact this
theorem Iw{p u:Tmp}(h:fn.results=#[.cell p ty,.tmp u])(tmps:Array ah)(P:bx)(w:af)(g:Nat)(t:Aab)(C:Array ah)(x:ah)(hp:tmps.getD p Aar=.pointer (some ⟨g,0,none⟩))(hu:tmps.getD u Aar=x)(hb:aH w g t C)(d:eJ)(hd:P.underlying ty=some d)(hr:d.isRow=true)(hi:(P.info? ty).map (·.size)=some C.size):(results fn tmps).run P w=.ok (.tuple #[.agg C,x]) w:=by rw[EL h,hp,hu];simp[asAddr,Aap,ij (P:=P) ty g t C hb d hd hr hi]
theorem n5(g lo hi:Nat)(x y:Int)(hx:x=(lo:Int))(hy:y=(hi:Int))(h1:lo<=hi)(h2:hi<=128)(h3:lo<128)(W:af):(Abo 60 (.pointer (some ⟨g,0,none⟩)) (some (.int .i64 x)) (some (.int .i64 y)) none).run Aag W=.ok (.slice (some ⟨g,lo,none⟩) (hi-lo) (128-lo)) W:=by refine FT ?_;intro aM hs;rw[run_sliceAt_array_lh W 60 ⟨g,0,none⟩ ay .i64 .i64 x y ae ae ae,hs,aM];subst hx hy;simp only[Aau,slicedAt,Abq];grind [add_plain]
theorem IG{w:af}{s:List aj}(h:aH w g t (aC s))(k:Nat)(hk:k<κ s):w.cell? ⟨g,k,none⟩=some (aF s[k]):=by rw[h.cell];simp[aC,hk]
def Up.range{w w':af}(h:Up w w'){b off:Nat}{l:List ah}(hc:w.rangeAt b off l):w'.rangeAt b off l:=λj v hj=>h.cell (hc j v hj)
section
variable {P:bx} {ops:Array Abn} {S:af->Prop} {o:Abn} {a:Act} {v:ah}
theorem kL{Q:Exit->Act->af->Prop}{i:Nat}{K:Act->af->Prop}{w:af}(hi:ops[i]?=some o)(hw:Aaa o (Aa1 ops a.tmps)=true)(h:o.wp P a w K Q):wpOp P ops Q i K a w:=Fs
def qI(hw:Aaa o (Aa1 ops a.tmps)=true)(h:∀w,(Abs a.eval o).run P w=.ok (.value v) w):Ace P ops S o v a:=.inl ⟨hw,λw _=>h w⟩
theorem zq(hw:Aaa o (Aa1 ops a.tmps)=true)(ty:Aab)(x:bO)(ho:o.op=.load ty x)(ad:Addr)(hx:a.eval x=.pointer (some ad))(hc:∀w,S w->w.cell? ad=some v)(hagg:∀w:af,(isAgg ty).run P w=.ok false w):Ace P ops S o v a:=.inl ⟨hw,λw hS=>by
  have hl:(load ad).run P w=.ok v w:=by simp[hc w hS]
  unfold Abs;simp only[ho,hx,Instr.loadAt,Adf,loadVar,Aaw,Acq,Aau,hagg,Ab2,if_false,hl]⟩
theorem vA(hw:Aaa o (Aa1 ops a.tmps)=true)(ty:Aab)(x:bO)(ho:o.op=.load ty x)(g off:Nat)(hx:a.eval x=.pointer (some ⟨g,off,none⟩))(C:Array ah)(hc:∀w,S w->w.rangeAt g off C.toList)(d:eJ)(hu:P.underlying ty=some d)(hd:d.isRow=true)(hi:(P.info? ty).map (·.size)=some C.size):Ace P ops S o (.agg C) a:=.inl ⟨hw,λw hS=>by
  have:=EJ (P:=P) w g off ty C.toList d (hc w hS) hu hd ae;unfold Abs;simp only[ho,hx,Instr.loadAt,Adf,Aaw,Acq,Aau,this]⟩
theorem qF{Q:Exit->Act->af->Prop}{md:Ab0}{fuel:Nat}{aZ:Array Bool}{w:af}(i:Nat)(hr:Abb md ops aZ=[i])(hi:ops[i]?=some o)(hw:Aaa o (Aa1 ops a.tmps)=true)(h:∀K:Act->af->Prop,(∀a w,S w->Acp P md ops Q S fuel (aZ.setIfInBounds i true) a w->K a w)->o.wp P a w K Q):Acp P md ops Q S (fuel+1) aZ a w:=wpAnyH_all hr aq (λj hj=>by
  simp at hj;subst hj;exact kL hi hw (h _ λ_ _ h1 h2=>⟨h1,h2⟩))
theorem hB{w:af}{K:Act->af->Prop}{Q:Exit->Act->af->Prop}(ty:Aab)(ho:o.op=.alloc ty)(C:Array ah)(hz:∀W:af,(Ab9 ty).run P W=.ok (.agg C) W)(h:K (a.put o.dst (pz w.heap.size)) (w.alloc (.cells C ty))):o.wp P a w K Q:=by unfold Acb Abs;simp[ho,Instr.alloc,Aaw,hz,newVar,newRow,Value.cells,Aap];exact h
end
section
variable {P:bx} {ops:Array Abn} {S:af->Prop} {a:Act} {w:af} {oi:Abn} {v:ah} {ty:Aab} {x:bO} {ad:Addr}
theorem ya(hw:Region.wanted oi (yielded ops a.tmps)=true:=by kernel_rfl)(h:∀w,(execOp a.eval oi).run P w=.ok (.value v) w:=by intro _;go_simp):YieldsIf P ops S oi v a:=qI hw h
theorem yc(hc:∀w,S w->w.cell? ad=some v)(hw:Region.wanted oi (yielded ops a.tmps)=true:=by kernel_rfl)(ho:oi.op=.load ty x:=by rfl)(hx:a.eval x=.pointer (some ad):=by kernel_rfl)(hagg:∀w:af,(isAgg ty).run P w=.ok false w:=by intro _;kernel_rfl):YieldsIf P ops S oi v a:=by grind [zq]
theorem yp{g off:Nat}{C:Array ah}{d:eJ}(hc:∀w,S w->w.rangeAt g off C.toList)(hi:(P.info? ty).map (·.size)=some C.size)(hu:P.underlying ty=some d)(hd:d.isRow=true:=by rfl)(hw:Region.wanted oi (yielded ops a.tmps)=true:=by kernel_rfl)(ho:oi.op=.load ty x:=by rfl)(hx:a.eval x=.pointer (some ⟨g,off,none⟩):=by kernel_rfl):YieldsIf P ops S oi (.agg C) a:=by grind [vA]
theorem tk{md:Region.Mode}{Q:Exit->Act->af->Prop}{fuel:Nat}{aZ:Array Bool}(i:Nat)(v:ah)(hi:ops[i]?=some oi)(hy:YieldsIf P ops S oi v a)(hS:S w)(h:wpAnyH P md ops Q S fuel (aZ.setIfInBounds i true) (a.put oi.dst v) w)(hs:Region.noSelect ops=true:=by kernel_rfl)(hf:Region.free md ops aZ i=true:=by kernel_rfl)(hr:(Region.ready md ops aZ).contains i=true:=by kernel_rfl)(hQ:∀c a w,Q (.panic c) (a.put oi.dst v) w->Q (.panic c) a w:=by exact λ_ _ _ h=>h):wpAnyH P md ops Q S (fuel+1) aZ a w:=wpAnyH_take hi hs hf hr hQ hy hS h
end
theorem hM{P:bx}{d:eJ}(h:P.underlying ty=some d:=by first|with_reducible exact underlying73|with_reducible exact underlying87|with_reducible exact underlying60|with_reducible exact underlying90|with_reducible exact underlying88|with_reducible exact underlying30|with_reducible exact underlying176|with_reducible exact underlying122|with_reducible exact underlying100|with_reducible exact underlying71|with_reducible exact underlying3|with_reducible exact underlying111|with_reducible exact underlying33|with_reducible exact underlying9|with_reducible exact underlying5|with_reducible exact underlying41|with_reducible exact underlying139|with_reducible exact underlying326|with_reducible exact underlying45|with_reducible exact underlying36|with_reducible exact underlying70|with_reducible exact underlying270|with_reducible exact underlying178|with_reducible exact underlying246|with_reducible exact underlying116|with_reducible exact underlying4|with_reducible exact underlying74|with_reducible exact underlying156|with_reducible exact underlying112|with_reducible exact underlying129|with_reducible exact underlying65|with_reducible exact underlying85|with_reducible exact underlying63|with_reducible exact underlying163|with_reducible exact underlying145|with_reducible exact underlying192|with_reducible exact underlying40|with_reducible exact underlying211|with_reducible exact underlying265|with_reducible exact underlying146|with_reducible exact underlying0|with_reducible exact underlying210|with_reducible exact underlying279|with_reducible exact underlying280|with_reducible exact underlying267|with_reducible exact underlying331|with_reducible exact underlying334|with_reducible exact underlying348|with_reducible exact underlying349|with_reducible exact underlying22|with_reducible exact underlying114|with_reducible exact underlying165|with_reducible exact underlying239|with_reducible exact underlying354|with_reducible exact underlying253|with_reducible exact underlying31):P.underlying ty=some d:=h
theorem lG{P:bx}{C:Array ah}(h:(P.info? ty).map (·.size)=some C.size:=by first|(rw[QN];kernel_rfl)|(rw[X'];kernel_rfl)|kernel_rfl):(P.info? ty).map (·.size)=some C.size:=h
theorem uT{C:Array ah}(h:C.all (·.oneCell')=true:=by first|rfl|with_reducible exact jf .. | with_reducible exact OY .. | with_reducible exact Au .. | with_reducible exact Xo .. | with_reducible exact N4 .. | with_reducible exact opV_one .. | with_reducible exact jN .. | with_reducible exact XC .. | with_reducible exact Vk .. | with_reducible exact dj .. | with_reducible exact mq .. | with_reducible exact XZ .. | with_reducible exact wT ..):C.all (·.oneCell')=true:=h
section
variable {P:bx} {ops:Array Abn} {Q:Exit->Act->af->Prop} {rest:List Abn} {a:Act} {w:af} {dst:Option Tmp} {type:Aab} {pos:String} {after:Array Edge} {guard:Option (Nat × Bool)}
theorem cU{op:Oper}(ty:TypeId)(n:Nat){g:Nat}{t:TypeId}{C:Array ah}(hb:aH w g t C)(h:wpList P ops Q rest (a.put op.dst (.agg C)) w)(ho:op.op=.load ty (.tmp n):=by with_reducible rfl)(hi:(P.info? ty).map (·.size)=some C.size:=by exact lG){d:eJ}(hu:P.underlying ty=some d:=by exact hM)(hd:d.isRow=true:=by rfl)(hw:Region.wanted op (yielded ops a.tmps)=true:=by rfl)(hx:a.eval (.tmp n)=.pointer (some ⟨g,0,none⟩):=by rfl):wpList P ops Q (op::rest) a w:=og hw ty (.tmp n) ho g hx t C hb d hu hd hi h
theorem cK{op:Oper}(ty:TypeId)(n:Nat){g off:Nat}(C:Array ah)(hc:w.rangeAt g off C.toList)(h:wpList P ops Q rest (a.put op.dst (.agg C)) w)(ho:op.op=.load ty (.tmp n):=by with_reducible rfl)(hi:(P.info? ty).map (·.size)=some C.size:=by exact lG){d:eJ}(hu:P.underlying ty=some d:=by exact hM)(hd:d.isRow=true:=by rfl)(hw:Region.wanted op (yielded ops a.tmps)=true:=by rfl)(hx:a.eval (.tmp n)=.pointer (some ⟨g,off,none⟩):=by rfl):wpList P ops Q (op::rest) a w:=Oy hw ty (.tmp n) ho g off hx C hc d hu hd hi h
theorem cZ{op:Oper}(ty:TypeId)(m n:Nat)(C':Array ah){g:Nat}{t:TypeId}{C:Array ah}(hb:aH w g t C)(h:∀w',aH w' g t C'->w.grownBy w' (some g)->wpList P ops Q rest (a.put op.dst undef) w')(ho:op.op=.store ty (.tmp m) (.tmp n):=by with_reducible rfl)(hgd:op.guard=none:=by rfl)(hi:(P.info? ty).map (·.size)=some C'.size:=by exact lG)(h1:C'.all (·.oneCell')=true:=by exact uT)(hold:C.size=C'.size:=by rfl)(hx:a.eval (.tmp m)=.pointer (some ⟨g,0,none⟩):=by rfl)(hy:a.eval (.tmp n)=.agg C':=by rfl):wpList P ops Q (op::rest) a w:=ek hgd ty (.tmp m) (.tmp n) ho g C' hx hy t C hb hi hold h1 h
theorem ed{op:Oper}{W:af}(ty:TypeId)(m n:Nat)(w:af)(C':Array ah)(t:TypeId)(C:Array ah)(h:wpList P ops Q rest (a.put op.dst undef) (w.alloc (.cells C' t)))(ho:op.op=.store ty (.tmp m) (.tmp n):=by with_reducible rfl)(hgd:op.guard=none:=by rfl)(hi:(P.info? ty).map (·.size)=some C'.size:=by exact lG)(h1:C'.all (·.oneCell')=true:=by exact uT)(hW:W=w.alloc (.cells C t):=by rfl)(hold:C.size=C'.size:=by rfl)(hx:a.eval (.tmp m)=.pointer (some ⟨w.heap.size,0,none⟩):=by rfl)(hy:a.eval (.tmp n)=.agg C':=by rfl):wpList P ops Q (op::rest) a W:=fC w hgd ty (.tmp m) (.tmp n) ho C' t C hW hx hy hi hold h1 h
theorem bD{op:Oper}(ty:TypeId){C:Array ah}(hz:∀W:af,(zeroValue ty).run P W=.ok (.agg C) W)(h:wpList P ops Q rest (a.put op.dst (.pointer (some ⟨w.heap.size,0,none⟩))) (w.alloc (.cells C ty)))(ho:op.op=.alloc ty:=by with_reducible rfl)(hgd:op.guard=none:=by rfl):wpList P ops Q (op::rest) a w:=dk hgd ty ho C hz h
theorem gS{op:Oper}(ty:TypeId)(n:Nat)(C:Array ah)(h:wpList P ops Q rest (a.put op.dst (.pointer (some ⟨w.heap.size,0,none⟩))) (w.alloc (.cells C ty)))(ho:op.op=.box ty (.tmp n):=by with_reducible rfl)(hgd:op.guard=none:=by rfl)(hx:a.eval (.tmp n)=.agg C:=by rfl):wpList P ops Q (op::rest) a w:=by refine gZ hgd λ_ hK=>?_;unfold Acb Abs;simp[ho,hx,Instr.box,Value.cells,Aap];exact hK _ _ h
theorem l1{op:Oper}(ty:TypeId){C:Array ah}(hb:P.built ty []=some C)(h:wpList P ops Q rest (a.put op.dst (.agg C)) w)(ho:op.op=.build ty #[]:=by with_reducible rfl)(hw:Region.wanted op (yielded ops a.tmps)=true:=by rfl):wpList P ops Q (op::rest) a w:=kT hw ty ho C hb h
theorem bS{fn:Func}{R:Ending->af->Prop}{p u:Tmp}{ty:TypeId}{g:Nat}{t:TypeId}{C:Array ah}{x:ah}(v:ah)(hb:aH w g t C)(hR:R (.returned v) w)(hv:v=.tuple #[.agg C,x]:=by rfl)(h:fn.results=#[.cell p ty,.tmp u]:=by rfl)(hi:(P.info? ty).map (·.size)=some C.size:=by exact lG){d:eJ}(hd:P.underlying ty=some d:=by exact hM)(hr:d.isRow=true:=by rfl)(hp:a.tmps.getD p undef=.pointer (some ⟨g,0,none⟩):=by rfl)(hu:a.tmps.getD u undef=x:=by rfl)(bY:a.defers=[]:=by rfl):bodyPost P fn R .ret a w:=by subst hv;exact kk (Iw h a.tmps P w g t C x hp hu hb d hd hr hi) bY hR
end
section
variable {P:bx} {ops:Array Abn} {S:af->Prop} {a:Act} {w:af} {oi:Abn} {v:ah} {ty:Aab} {x:bO}
theorem Wb{g off:Nat}{C:Array ah}{d:eJ}(hc:∀w,S w->w.rangeAt g off C.toList)(ho:oi.op=.load ty x:=by rfl)(hi:(P.info? ty).map (·.size)=some C.size:=by exact lG)(hu:P.underlying ty=some d:=by exact hM)(hd:d.isRow=true:=by rfl)(hw:Region.wanted oi (yielded ops a.tmps)=true:=by kernel_rfl)(hx:a.eval x=.pointer (some ⟨g,off,none⟩):=by kernel_rfl):YieldsIf P ops S oi (.agg C) a:=vA hw ty x ho g off hx C hc d hu hd hi
theorem x1{md:Region.Mode}{Q:Exit->Act->af->Prop}{fuel:Nat}{aZ:Array Bool}(i:Nat)(v:ah)(hi:ops[i]?=some oi)(h:wpAny P md ops Q fuel (aZ.setIfInBounds i true) (a.put oi.dst v) w)(hy:Yields P ops oi v a:=by exact .inl ⟨rfl,λ_=>rfl⟩)(hs:Region.noSelect ops=true:=by kernel_rfl)(hf:Region.free md ops aZ i=true:=by kernel_rfl)(hr:(Region.ready md ops aZ).contains i=true:=by kernel_rfl)(hQ:∀c a w,Q (.panic c) (a.put oi.dst v) w->Q (.panic c) a w:=by exact λ_ _ _ h=>h):wpAny P md ops Q (fuel+1) aZ a w:=AR hi hs hf hr hQ hy h
end
def Y0(P:bx)(ops:Array Abn)(op:Abn)(a a':Act)(w w':af):Prop:=∀(Q:Exit->Act->af->Prop)(rest:List Abn),Aak P ops Q rest a' w'->Aak P ops Q (op::rest) a w
section
variable {P:bx} {ops:Array Abn} {Q:Exit->Act->af->Prop} {rest:List Abn} {a a':Act} {w w':af} {op:Abn}
def VF{ty:Aab}{n g:Nat}{t:Aab}{C:Array ah}{d:eJ}(ho:op.op=.load ty (.tmp n))(hu:P.underlying ty=some d)(hd:d.isRow=true)(hx:a.eval (.tmp n)=.pointer (some ⟨g,0,none⟩))(hb:aH w g t C)(hi:(P.info? ty).map (·.size)=some C.size)(hw:Aaa op (Aa1 ops a.tmps)=true):Y0 P ops op a (a.put op.dst (.agg C)) w w:=λ_ _ h=>og hw ty (.tmp n) ho g hx t C hb d hu hd hi h
def VH{ty:Aab}{n g off:Nat}{C:Array ah}{d:eJ}(ho:op.op=.load ty (.tmp n))(hu:P.underlying ty=some d)(hd:d.isRow=true)(hx:a.eval (.tmp n)=.pointer (some ⟨g,off,none⟩))(hc:w.rangeAt g off C.toList)(hi:(P.info? ty).map (·.size)=some C.size)(hw:Aaa op (Aa1 ops a.tmps)=true):Y0 P ops op a (a.put op.dst (.agg C)) w w:=λ_ _ h=>Oy hw ty (.tmp n) ho g off hx C hc d hu hd hi h
def QV{ty:Aab}{C:Array ah}(ho:op.op=.alloc ty)(hz:∀W:af,(Ab9 ty).run P W=.ok (.agg C) W)(hgd:op.guard=none):Y0 P ops op a (a.put op.dst (.pointer (some ⟨w.heap.size,0,none⟩))) w (w.alloc (.cells C ty)):=λ_ _ h=>dk hgd ty ho C hz h
def Ll{ty:Aab}{C:Array ah}(ho:op.op=.build ty #[])(hb:P.built ty []=some C)(hw:Aaa op (Aa1 ops a.tmps)=true):Y0 P ops op a (a.put op.dst (.agg C)) w w:=λ_ _ h=>kT hw ty ho C hb h
def X4{ty:Aab}{n:Nat}{C:Array ah}(ho:op.op=.box ty (.tmp n))(hx:a.eval (.tmp n)=.agg C)(hgd:op.guard=none):Y0 P ops op a (a.put op.dst (.pointer (some ⟨w.heap.size,0,none⟩))) w (w.alloc (.cells C ty)):=λ_ _ h=>gS ty n C h ho hgd hx
def X9{W:af}{ty:Aab}{m n:Nat}{C C':Array ah}{t:Aab}(ho:op.op=.store ty (.tmp m) (.tmp n))(hW:W=w.alloc (.cells C t))(hy:a.eval (.tmp n)=.agg C')(hx:a.eval (.tmp m)=.pointer (some ⟨w.heap.size,0,none⟩))(hi:(P.info? ty).map (·.size)=some C'.size)(hold:C.size=C'.size)(h1:C'.all (·.oneCell')=true)(hgd:op.guard=none):Y0 P ops op a (a.put op.dst Aar) W (w.alloc (.cells C' t)):=λ_ _ h=>fC w hgd ty (.tmp m) (.tmp n) ho C' t C hW hx hy hi hold h1 h
theorem arm(h:wpList P ops Q rest a' w')(s:Y0 P ops op a a' w w':=by first|exact VF ky hM rfl ay (by first|assumption|exact aH.up cm cm|with_reducible exact aH.new _ _ _|with_reducible exact aH.up (aH.new _ _ _) (ai _ _)|with_reducible exact aH.up (aH.up (aH.new _ _ _) (ai _ _)) (ai _ _)) Kf ay|exact VH ky hM rfl ay cm Kf ay|exact QV ky (by first|assumption|with_reducible exact mJ|with_reducible exact hI|with_reducible exact js|with_reducible exact e8|with_reducible exact o7|with_reducible exact Yi|with_reducible exact We|with_reducible exact zr|with_reducible exact vC|with_reducible exact vB|with_reducible exact D'|with_reducible exact zero_rep|with_reducible exact Wc|with_reducible exact Ea|with_reducible exact Rw|with_reducible exact Rv|with_reducible exact OE|with_reducible exact zero_opv|with_reducible exact Wd|with_reducible exact zero_bookW|with_reducible exact Jb|with_reducible exact Yh|with_reducible exact wZ|with_reducible exact Ja) ay|exact Ll ky (by first|assumption|with_reducible exact hZ|with_reducible exact r'|with_reducible exact zH|with_reducible exact CU|with_reducible exact CT) ay|exact X4 ky ay ay|exact X9 ky ky ay ay Kf ay (by first|assumption|exact uT) rfl):wpList P ops Q (op::rest) a w:=s _ _ h
theorem pj{ty:TypeId}{m n g:Nat}{t:TypeId}{C C':Array ah}(h:∀w',aH w' g t C'->w.grownBy w' (some g)->wpList P ops Q rest (a.put op.dst undef) w')(ho:op.op=.store ty (.tmp m) (.tmp n):=by with_reducible rfl)(hy:a.eval (.tmp n)=.agg C':=by rfl)(hx:a.eval (.tmp m)=.pointer (some ⟨g,0,none⟩):=by rfl)(hb:aH w g t C:=by first|assumption|exact aH.up cm cm|with_reducible exact aH.new _ _ _|with_reducible exact aH.up (aH.new _ _ _) (ai _ _)|with_reducible exact aH.up (aH.up (aH.new _ _ _) (ai _ _)) (ai _ _))(hgd:op.guard=none:=by rfl)(hi:(P.info? ty).map (·.size)=some C'.size:=by first|assumption|exact lG)(h1:C'.all (·.oneCell')=true:=by first|assumption|exact uT)(hold:C.size=C'.size:=by rfl):wpList P ops Q (op::rest) a w:=ek hgd ty (.tmp m) (.tmp n) ho g C' hx hy t C hb hi hold h1 h
end
section
variable {P:bx} {ops:Array Abn} {S:af->Prop} {a:Act} {w:af} {oi:Abn} {v:ah}
theorem ym(h:∀w,(execOp a.eval oi).run P w=.ok (.value v) w:=by intro _;go_simp;exact rfl)(hw:Region.wanted oi (yielded ops a.tmps)=true:=by kernel_rfl):YieldsIf P ops S oi v a:=qI hw h
theorem ta{md:Region.Mode}{Q:Exit->Act->af->Prop}{fuel:Nat}{aZ:Array Bool}(i:Nat)(h:wpAnyH P md ops Q S fuel (aZ.setIfInBounds i true) (a.put oi.dst v) w)(hi:ops[i]?=some oi:=by rfl)(hy:YieldsIf P ops S oi v a:=by exact ym)(hS:S w:=by first|assumption|exact Up.refl _|exact trivial)(hs:Region.noSelect ops=true:=by kernel_rfl)(hf:Region.free md ops aZ i=true:=by kernel_rfl)(hr:(Region.ready md ops aZ).contains i=true:=by kernel_rfl)(hQ:∀c a w,Q (.panic c) (a.put oi.dst v) w->Q (.panic c) a w:=by exact λ_ _ _ h=>h):wpAnyH P md ops Q S (fuel+1) aZ a w:=wpAnyH_take hi hs hf hr hQ hy hS h
theorem tb{md:Region.Mode}{Q:Exit->Act->af->Prop}{fuel:Nat}{aZ:Array Bool}(i:Nat)(hi:ops[i]?=some oi)(hy:YieldsIf P ops S oi v a)(h:wpAnyH P md ops Q S fuel (aZ.setIfInBounds i true) (a.put oi.dst v) w)(hS:S w:=by first|assumption|exact Up.refl _|exact trivial)(hs:Region.noSelect ops=true:=by kernel_rfl)(hf:Region.free md ops aZ i=true:=by kernel_rfl)(hr:(Region.ready md ops aZ).contains i=true:=by kernel_rfl)(hQ:∀c a w,Q (.panic c) (a.put oi.dst v) w->Q (.panic c) a w:=by exact λ_ _ _ h=>h):wpAnyH P md ops Q S (fuel+1) aZ a w:=wpAnyH_take hi hs hf hr hQ hy hS h
end
theorem ok{P:bx}{Q:Exit->Act->af->Prop}{S:af->Prop}{aZ:Array Bool}{a:Act}{w:af}(i:Nat)(h:∀K:Act->af->Prop,(∀a w,S w->wpAnyH P md ops Q S fuel (aZ.setIfInBounds i true) a w->K a w)->o.wp P a w K Q)(hi:ops[i]?=some o:=by rfl)(hr:Region.ready md ops aZ=[i]:=by kernel_rfl)(hw:Region.wanted o (yielded ops a.tmps)=true:=by rfl):wpAnyH P md ops Q S (fuel+1) aZ a w:=qF i hr hi hw h
theorem dn{P:bx}{Q:Exit->Act->af->Prop}{S:af->Prop}{aZ:Array Bool}{a:Act}{w:af}(h:Q .normal a w)(hr:Region.ready md ops aZ=[]:=by kernel_rfl):wpAnyH P md ops Q S fuel aZ a w:=yq hr h _
theorem hg(l:List α)(k:Nat)(h:k<κ l):l.take (k+1)=l.take k++[l[k]]:=aq
def aZ(n:Nat):Nat->List aj
 | 0=>[]
 | w+1=>Ab8 (n%256)::aZ (n/256) w
def bn:List aj->Nat
 | []=>0
 | c::r=>c.toNat+256*bn r
theorem bA(w:Nat):∀n,κ (aZ n w)=w:=by
 induction w with
 | zero=>exact λ_=>rfl
 | succ w ih=>grind [aZ]
theorem Cw(k:Nat):∀n,aZ n (k+1)=aZ n k++[Ab8 (n/256 ^ k%256)]:=by
 induction k with
 | zero=>simp[aZ]
 | succ k ih=>intro n;rw[aZ,ih (n/256),aZ,Aa2,Nat.div_div_eq_div_mul,yu,uc 256]
theorem GO(n:Nat):(Ab8 (n%256)).toNat=n%256:=aq
theorem ha(w:Nat):∀n,n<256 ^ w->bn (aZ n w)=n:=by
 induction w with
 | zero=>decide
 | succ w ih=>grind [aZ,bn,GO]
theorem nZ:∀l:List aj,bn l<256 ^ (κ l)
 | []=>by simp[bn]
 | c::r=>by have:=nZ r;have hc:c.toNat<256:=c.toNat_lt;rw[bn,Aal,yu];omega
theorem uQ:∀l:List aj,aZ (bn l) (κ l)=l
 | []=>rfl
 | c::r=>by
  have hc:c.toNat<256:=c.toNat_lt;rw[bn,Aal,aZ];have e1:(c.toNat+256*bn r)%256=c.toNat:=ae
  have e2:(c.toNat+256*bn r)/256=bn r:=ae
  rw[e1,e2,uQ r];congr 1;exact UInt8.toNat_inj.1 (UInt8.toNat_ofNat_of_lt' (by show c.toNat<256;omega))
theorem rX:∀(l m:List aj),bn (l++m)=bn l+256 ^ (κ l)*bn m
 | [],m=>by simp[bn]
 | c::r,m=>by rw[Aa2,bn,rX r m,bn,Aal,yu,Nat.mul_add,Nat.add_assoc,<-Nat.mul_assoc,uc 256 (256 ^ (κ r))]
theorem Ie(l:List aj)(c:aj):bn (l++[c])=bn l+256 ^ (κ l)*c.toNat:=by simp[rX,bn]
def xX(ws:List Int):Prop:=∀w∈ws,1<=w/\w<=8
instance(ws:List Int):Decidable (xX ws):=by unfold xX;infer_instance
def total(ws:List Int):Nat:=(ws.map Acs).sum
theorem mD(w:Int)(ws:List Int):total (w::ws)=w.toNat+total ws:=ay
theorem vo(a b:List Int):total (a++b)=total a+total b:=by simp[total]
theorem B1{ws:List Int}(h:xX ws):total ws<=8*κ ws:=by
 induction ws with
 | nil=>decide
 | cons w ws ih=>have:=ih (λx hx=>h x (bt _ hx));have:=h w (cV ..);grind [mD]
theorem pe(ws:List Int)(k:Nat)(h:k<κ ws):total (ws.take (k+1))=total (ws.take k)+ws[k].toNat:=by grind [hg,vo,total]
def fits:List Int->List Nat->Prop
 | w::ws,n::ns=>n<256 ^ w.toNat/\fits ws ns
 | _,_=>True
instance WO:(ws:List Int)->(ns:List Nat)->Decidable (fits ws ns)
 | [],_=>.isTrue trivial
 | _::_,[]=>.isTrue trivial
 | w::ws,n::ns=>by unfold fits;have:=WO ws ns;infer_instance
def aX:List Int->List Nat->List aj
 | w::ws,n::ns=>aZ n w.toNat++aX ws ns
 | _,_=>[]
def nq(ws:List Int)(ns:List Nat):Prop:=κ ws=κ ns/\xX ws/\fits ws ns
instance(ws:List Int) (ns:List Nat):Decidable (nq ws ns):=by unfold nq;infer_instance
theorem Hw:∀(ws:List Int)(ns:List Nat),fits ws ns↔∀i(h1:i<κ ws)(h2:i<κ ns),ns[i]<256 ^ ws[i].toNat
 | [],ns=>⟨λ_ i h1=>absurd h1 (ER i),λ_=>trivial⟩
 | _::_,[]=>⟨λ_ i _ h2=>absurd h2 (ER i),λ_=>trivial⟩
 | w::ws,n::ns=>by
  rw[fits,Hw ws ns];constructor
  ·rintro⟨h0,h⟩ i h1 h2;cases i with
   | zero=>exact h0
   | succ i=>exact h i (by simpa using h1) (by simpa using h2)
  ·intro h;exact⟨h 0 aq aq,λi h1 h2=>h (i+1) (by simpa using h1) (by simpa using h2)⟩
theorem pc:∀(ws:List Int)(ns:List Nat),κ ws=κ ns->κ (aX ws ns)=total ws
 | [],[],_=>rfl
 | w::ws,n::ns,h=>by rw[aX,Aaf,bA,pc ws ns jG,mD]
theorem o':∀(ws:List Int)(ns:List Nat)(aa:List Int)(ab:List Nat),κ ws=κ ns->aX (ws++aa) (ns++ab)=aX ws ns++aX aa ab
 | [],[],_,_,_=>rfl
 | w::ws,n::ns,aa,ab,h=>by rw[Aa2,Aa2,aX,o' ws ns aa ab jG,aX,Aa8]
theorem s4(ws:List Int)(ns:List Nat)(k:Nat)(h1:k<κ ws)(h2:k<κ ns):aX (ws.take (k+1)) (ns.take (k+1))=aX (ws.take k) (ns.take k)++aZ ns[k] ws[k].toNat:=by grind [hg,o',aX]
def cW:List Int->List aj->List Nat
 | [],_=>[]
 | w::ws,b=>bn (b.take w.toNat)::cW ws (b.drop w.toNat)
def Bj(ws:List Int)(b:List aj):Prop:=xX ws/\(κ b)=total ws
instance(ws:List Int) (b:List aj):Decidable (Bj ws b):=by unfold Bj;infer_instance
theorem pP:∀(ws:List Int)(b:List aj),κ (cW ws b)=κ ws
 | [],_=>rfl
 | w::ws,b=>by simp[cW,pP ws]
theorem pO:∀(ws aa:List Int)(b:List aj),cW (ws++aa) b=cW ws b++cW aa (b.drop (total ws))
 | [],aa,b=>by simp[cW,total]
 | w::ws,aa,b=>by rw[Aa2,cW,cW,pO ws aa,Ac3,mD,Aa2]
theorem tQ(ws:List Int)(b:List aj)(k:Nat)(h:k<κ ws):cW (ws.take (k+1)) b=cW (ws.take k) b++[bn ((b.drop (total (ws.take k))).take ws[k].toNat)]:=by grind [hg,pO,cW]
theorem Of:∀(ws:List Int)(b:List aj),κ b=total ws->aX ws (cW ws b)=b
 | [],b,h=>by simp[total]at h;subst h;rfl
 | w::ws,b,h=>by
  rw[mD]at h;rw[cW,aX,Of ws _ ab];have hl:κ (b.take w.toNat)=w.toNat:=ab
  conv=>lhs;lhs;rw[<-hl,ev,Nat.min_eq_left ae]
  have:=uQ (b.take w.toNat);rw[hl]at this;rw[this,fH]
theorem qP:∀(ws:List Int)(ns:List Nat),κ ws=κ ns->fits ws ns->cW ws (aX ws ns)=ns
 | [],[],_,_=>rfl
 | w::ws,n::ns,h,hf=>by rw[fits]at hf;rw[aX,cW,hY (bA _ _),lr (bA _ _),ha _ _ hf.1,qP ws ns jG hf.2]
theorem eu:(prog.info? 5).map (λi=>(i.zero,i.size,i.bytes))=some (some (.int .u8 0),1,1):=av
theorem tT:(prog.info? 70).map (λi=>(i.zero,i.size,i.bytes))=some (some (.int .u64 0),1,8):=av
theorem Aw:(prog.info? 3).map (λi=>(i.zero,i.size,i.bytes))=some (some (.int .i64 0),1,8):=av
def RW(ws:List Int)(e:Ab1):Prop:=(xX ws/\e=.returned (.tuple #[.int .i64 (total ws:Nat),.bool true]))\/(¬xX ws/\e=.returned (.tuple #[.int .i64 0,.bool false]))
theorem IB(w:af)(v:ah)(ws:List Int)(h:aD bz w v ws)(hlen:κ ws*8<=140737488351232):Aae Aag 237 #[v] w λe w'=>RW ws e/\w=w':=by
 obtain⟨a,cap,rfl⟩:=h.slice;go_in;go_wp2_with fail;go_loop [4,9] (λs i=>∃k:Nat,k<=κ ws/\i=i6 k/\s=i6 (total (ws.take k):Nat)/\xX (ws.take k)) (λ_ i=>κ ws-(Aat i).toNat)
 case atStart=>exact⟨0,bE _,rfl,rfl,by intro x hx;simp at hx⟩
 case round=>
  obtain⟨k,hk,rfl,rfl,ak⟩:=hrel;have aL:=B1 ak;have aN:κ (ws.take k)<=k:=yv _ _;by_cases hlt:k<κ ws
  ·obtain⟨b,off,rfl,_,hc⟩:=cg h rfl ae;have ai:=hc k hlt;unfold bz at ai;have aM:=pe ws k hlt;have ag:ws[k]∈ws:=cJ hlt;have ad:1<=ws[k]/\ws[k]<=8->xX (ws.take (k+1)):=by
    intro h1 x hx;rw[hg ws k hlt]at hx;rcases eT.1 hx with hx|hx
    ·exact ak x hx
    ·simp_all
   clear hc;generalize hx:ws[k]=x at *;obtain⟨aO,aj,aa,aS⟩:=bR ag aM ad ak;by_cases h1:x<1
   ·exact M1
   by_cases h8:8<x
   ·exact M1
   obtain⟨y,rfl⟩:=iX (show 0<=x from ae);generalize total (ws.take k)=tk at *;go_wp2_with fail;all_goals
    go_round
    case rel=>exact⟨k+1,ae,fJ,ab,aa ⟨ae,ae⟩⟩
    case measure=>simp[Aat];omega
  ·obtain rfl:k=κ ws:=by omega
   rw[fx]at *;go_wp2;go_ret2;exact⟨.inl ⟨ak,rfl⟩,rfl⟩
theorem dr:prog.underlying 30=some (.slice (prog.elem 30)):=av
theorem du(W:af):(sizeOf (prog.elem 30)).run Aag W=.ok 1 W:=av
theorem drop_cons(l:List α)(i:Nat)(h:i<κ l):l.drop i=l[i]::l.drop (i+1):=aq
theorem Bh(l:List aj)(h:κ l<=8):bn l<18446744073709551616:=by have h1:=nZ l;have h2:(256:Nat) ^ (κ l)<=256 ^ 8:=ES ae h;omega
theorem IW(ws:List Int)(k:Nat)(h:k<κ ws):total ws=total (ws.take k)+ws[k].toNat+total (ws.drop (k+1)):=by
 conv=>lhs;rw[<-fH k ws,vo,drop_cons ws k h,mD]
 omega
theorem Ig(n c k:Nat)(h:n<256 ^ k):n ||| (c*2 ^ (8*k))=n+256 ^ k*c:=by
 have h2:(2:Nat) ^ (8*k)=256 ^ k:=by rw[yw]
 have h3:=Nat.shiftLeft_add_eq_or_of_lt (b:=n) (i:=8*k) ae c;rw[Nat.shiftLeft_eq,h2]at h3;grind
theorem tR(w:af)(v:ah)(ws:List Int)(hv:aD bz w v ws)(hlen:κ ws*8<=140737488351232)(u:ah)(b:List aj)(hu:a8 w u b)(ak:Bj ws b):Aae Aag 177 #[v,u] w λe w'=>∃v,e=.returned (.tuple #[v,.int .i64 0])/\Own cM 70 w' w.heap.size v (cW ws b)/\Up w w':=by
 obtain⟨aI,heq⟩:=ak;have aB:=hu.length_le;have HR:=an (IB w v ws hv hlen);obtain⟨a,cap,rfl⟩:=hv.slice;obtain⟨a2,az,rfl⟩:=hu.slice;have ht:((κ b:Int) != (total ws:Int))=false:=ab
 have mk:=kH (P:=Aag) 156 70 (u6 0) 8 underlying156 tT (κ ws) ae ae;obtain⟨ba,aC⟩:=aw heq aI;clear heq;go_in;go_wp2_with fail;refine HR.mono ?_;rintro e w1⟨⟨_,rfl⟩|⟨hh,_⟩,rfl⟩
 case inr=>exact absurd aC hh
 clear aI;go_wp2_with fail;go_loopw [1,8,31] (λy x i wr=>∃k:Nat,k<=κ ws/\i=i6 k/\(∃a' c',y=.slice a' (κ b-total (ws.take k)) c'/\(κ b)-total (ws.take k)<=c'/\a8 w (.slice a' (κ b-total (ws.take k)) c') (b.drop (total (ws.take k))))/\Own cM 70 wr w.heap.size x (cW (ws.take k) b)/\Up w wr) (λ_ _ i _=>κ ws-(Aat i).toNat)
 case atStart=>
  refine⟨0,bE _,rfl,⟨a2,az,ay,?_,cm⟩,Own.room cM _ w _ _ _ (aG _) ae,ai _ _⟩;rcases hu with⟨hb,a',c',h1,_⟩|⟨bb,oo,cc,h1,_,h2,_⟩
  ·grind
  ·grind
 case round=>
  obtain⟨k,hk,rfl,⟨a',c',rfl,al,hrest⟩,hown,upr⟩:=hrel;obtain⟨wo,rfl⟩:∃wo:af,wo=wr:=⟨_,rfl⟩;have aW:=pP (ws.take k) b;have aY:κ (ws.take k)<=k:=yv _ _;by_cases hlt:k<κ ws
  ·obtain⟨bb,off,rfl,_,hc⟩:=cg hv rfl ae;have d1:=upr.cell (hc k hlt);unfold bz at d1;obtain⟨aM,bf,bd,a1⟩:=iJ (pe ws k hlt) (IW ws k hlt) (tQ ws b k hlt) (aC _ (cJ hlt));clear hc;generalize ws[k]=x at *;obtain⟨m,rfl⟩:=iX (show 0<=x from ae);simp only[Abq]at aM bf bd;have bh:κ (cW (ws.take k) b)<=k:=by omega
   have ar:=ba.out;have ao:m<=κ b-total (ws.take k):=ae
   have aK:κ (b.drop (total (ws.take k)))=κ b-total (ws.take k):=aq
   have aH:b.drop (total (ws.take (k+1)))=(b.drop (total (ws.take k))).drop m:=ab
   have aN:κ b-total (ws.take (k+1))=κ b-total (ws.take k)-m:=ae
   generalize b.drop (total (ws.take k))=r at *;generalize (κ b)-total (ws.take k)=rl at *;generalize cW (ws.take k) b=gn at *;obtain⟨a7,bg,be,a6⟩:=bR aH aN bd aK;clear aH aN bd aM bf aW aY ar aK;obtain⟨b3,o3,aR,_,aU⟩:=cg hrest a6.symm dL;subst aR;have ag:=di (P:=Aag) 30 dr du (some ⟨b3,o3,none⟩) rl c' m ao;have aV:=hrest.piece (lo:=m) (hi:=rl) ae dL;rw[show r.take rl=r from dh dL]at aV;have aZ:=an aU;clear aU;go_wp2_with fail;go_loop [11,36] (λn i=>∃j:Nat,j<=m/\i=i6 j/\n=u6 (bn (r.take j):Nat)) (λ_ i=>m-(Aat i).toNat)
   case atStart=>exact⟨0,bE _,rfl,rfl⟩
   case round=>
    obtain⟨j,hj,rfl,rfl⟩:=hrel;by_cases aQ:j<m
    ·have aX:j<κ r:=by simp only[Hid]at *;omega
     have d3:=upr.cell (aZ j aX);unfold aF at d3;have aL:κ (r.take j)=j:=ab
     have ad:bn (r.take (j+1))=bn (r.take j)+256 ^ j*r[j].toNat:=by rw[hg r j aX,Ie,aL]
     have aJ:bn (r.take j)<256 ^ j:=by have:=nZ (r.take j);rwa [aL]at this
     have bj:r[j].toNat<256:=r[j].toNat_lt;obtain⟨bk,aS⟩:=aA (Bh (r.take (j+1)) ab) (Ig (bn (r.take j)) r[j].toNat j aJ);generalize al:r[j].toNat=c at *;have hmul:c*2 ^ (8*j)<18446744073709551616:=by
      have:c*2 ^ (8*j)=256 ^ j*c:=by rw[show(2:Nat) ^ (8*j)=256 ^ j from by rw[yw],uc]
      omega
     have aa:bn (r.take j)<18446744073709551616:=ae
     generalize bn (r.take j)=x at *;have e1:IntKind.u64.wrap ((c:Int)*2 ^ (8*j))=((c*2 ^ (8*j):Nat):Int):=by rw[show((c:Int)*2 ^ (8*j))=((c*2 ^ (8*j):Nat):Int)from aq];exact IntWalk.u64_in _ ae
     have e2:bits .or .u64 (x:Int) ((c*2 ^ (8*j):Nat):Int)=((x+256 ^ j*c:Nat):Int):=by rw[u64_or_nat _ _ aa hmul,aS]
     generalize hz:c*2 ^ (8*j)=z at *;generalize hy:x+256 ^ j*c=y at *;obtain⟨aT,Hz⟩:=aw ad hz;go_wp2;go_round
     case rel=>exact⟨j+1,ae,fJ,ab⟩
     case measure=>simp[Aat];omega
    ·obtain rfl:j=m:=by omega
     have aP:=Bh (r.take j) ab;generalize aO:bn (r.take j)=nv at *;go_wp2_with(at_builtin;refine bc cM qB rfl (.tmp 50) (.tmp 52) 156 rfl w.heap.size 70 (u6 0) 8 underlying156 tT rfl _ _ rfl (hown.up (ai wo _)) (cv wo.heap.size 1 1) [nv] rfl (aD.lit wo #[u6 (nv:Int)] 70 (0,0) [nv] 1 rfl ax rfl) ab ab ((upr.alloc _).size) ?_);intro v' w4 av _ au;go_wp2_with fail;go_roundw
     case rel=>exact⟨k+1,ae,fJ,by rw[bg.out,a7.out];exact⟨_,_,rfl,ae,aV⟩,by rw[be.out];exact av,(upr.alloc _).aE au (aG _)⟩
     case measure=>simp[Aat];omega
  ·obtain rfl:k=κ ws:=by omega
   rw[fx]at hown;go_wp2;exact y6
structure au where
 loc:Int
 aT:Nat
 sum:Nat
deriving DecidableEq
def au.wf(p:au):Prop:=(-9223372036854775808<=p.loc/\p.loc<=9223372036854775807)/\p.aT<18446744073709551616/\p.sum<4294967296
def hole:au:=⟨0,0,0⟩
def fA(p:au):ah:=.agg #[.int .i64 p.loc,.int .u64 (p.aT:Int),.int .u32 (p.sum:Int)]
def cw(p:au):Bool:=decide (p=hole) || (decide (4<=p.loc) && decide (p.loc<1024) && decide (1<=p.aT) && decide (p.aT<=281474976710655))
def dm(p q:au):Bool:=if p.aT≠q.aT then decide (p.aT<q.aT)else if p.loc≠q.loc then decide (p.loc<q.loc)else decide (p.sum<q.sum)
def e6(p:au)(s:Nat):Bool:=decide (p≠hole) && decide (s<p.aT)
def j7(b:Bool)(w:af)(e:Ab1)(w':af):Prop:=e=.returned (.bool b)/\Up w w'
theorem XI{x b:Bool}(h:x=true↔b=true):Ending.returned (.bool x)=.returned (.bool b):=aa
theorem vS(l:Int)(b s:Nat):cw ⟨l,b,s⟩=true↔(l=0/\b=0/\s=0)\/(4<=l/\l<1024/\1<=b/\b<=281474976710655):=by grind [cw,hole]
theorem qZ(l l2:Int)(b s b2 s2:Nat):dm ⟨l,b,s⟩ ⟨l2,b2,s2⟩=true↔b<b2\/(b=b2/\(l<l2\/(l=l2/\s<s2))):=by grind [dm]
theorem BN(l:Int)(b s n:Nat):e6 ⟨l,b,s⟩ n=true↔¬(l=0/\b=0/\s=0)/\n<b:=by grind [e6,hole]
theorem n2(w:af)(p:au):Aae Aag 236 #[fA p] w λe w'=>j7 (cw p) w e w':=by
 obtain⟨l,b,s⟩:=p;unfold fA;go_in;go_wp2_with fail;all_goals
  go_ret;refine⟨?_,ai _ _⟩;refine XI ?_;rw[vS];exact FO
theorem tY(w:af)(p q:au):Aae Aag 224 #[fA p,fA q] w λe w'=>j7 (dm p q) w e w':=by
 obtain⟨l,b,s⟩:=p;obtain⟨l2,b2,s2⟩:=q;unfold fA;go_in;go_wp2_with fail;all_goals
  go_ret;refine⟨?_,(ai _ _).alloc _⟩;refine XI ?_;rw[qZ];exact FO
theorem DI(w:af)(p:au)(n:Nat):Aae Aag 119 #[fA p,.int .u64 (n:Int)] w λe w'=>j7 (e6 p n) w e w':=by
 obtain⟨l,b,s⟩:=p;unfold fA;go_in;go_wp2_with fail;all_goals
  go_ret;refine⟨?_,ai _ _⟩;refine XI ?_;rw[BN];exact FO
theorem Vr{x m:Nat}(h:x<256 ^ m):x/2 ^ (8*m)=0:=by rw[show(2:Nat) ^ (8*m)=256 ^ m from by rw[yw]];simp;omega
theorem oV(w:af)(v:ah)(ws:List Int)(hv:aD bz w v ws)(hlen:κ ws*8<=140737488351232)(u:ah)(ns:List Nat)(hu:aD cM w u ns)(al:∀n∈ns,n<18446744073709551616)(ak:nq ws ns):Aae Aag 240 #[v,u] w λe w'=>∃v,e=.returned (.tuple #[v,.int .i64 0])/\Own aF 5 w' w.heap.size v (aX ws ns)/\Up w w':=by
 have aS:=an ak;obtain⟨heq,aI,aV⟩:=ak;have HF:=an ((Hw ws ns).1 aV);clear aV;have aN:=hu.length_le;have HR:=an (IB w v ws hv hlen);obtain⟨a,cap,rfl⟩:=hv.slice;obtain⟨a2,az,rfl⟩:=hu.slice;have aL:=B1 aI;obtain⟨len,hl⟩:=bK (κ ws);rw[<-heq]at hu aN ⊢;rw[<-hl]at hv hu hlen aN aL HR ⊢;have ht:((len:Int) != (len:Int))=false:=aq
 have aB:len=κ ns:=hl.trans heq;obtain⟨Hl,Hl2,aC⟩:=aW hl aB aI;clear hl aB heq;have aU:=an al;clear al;have mk:=kH (P:=Aag) 30 5 (.int .u8 0) 1 Aa0 eu (total ws) ae ae;go_in;go_wp2_with fail;refine HR.mono ?_;rintro e w1⟨⟨_,rfl⟩|⟨hh,_⟩,rfl⟩
 case inr=>exact absurd aC hh
 clear aI;go_wp2_with fail;go_loop [30] (λi=>∃k:Nat,k<=len/\i=i6 k) (λi=>len-(Aat i).toNat)
 case atStart=>exact⟨0,bE _,rfl⟩
 case round=>
  obtain⟨k,hk,rfl⟩:=hrel;by_cases hlt:k<len
  ·have k1:k<κ ws:=by simp only[Hid]at *;omega
   have k2:k<κ ns:=dL
   obtain⟨b,off,rfl,_,hc⟩:=cg hv Hl ae;obtain⟨b2,aH,rfl,_,aj⟩:=cg hu Hl2 ae;obtain⟨d1,d2⟩:=aA (hc k k1) (aj k k2);unfold bz at d1;unfold cM at d2;have a6:ns[k]<18446744073709551616:=aU _ (cJ k2);obtain⟨a1,hf⟩:=aA (aC _ (cJ k1)) (HF k k1 k2);clear hc aj;generalize ws[k]=x at *;generalize ns[k]=y at *;obtain⟨m,rfl⟩:=iX (show 0<=x from ae);simp only[Abq]at hf;have hz:=Vr hf;have e1:((y:Int)/2 ^ (8*m))=0:=aQ
   have e2:(((y:Int)/2 ^ (8*m)) != 0)=false:=ab
   clear hf hz e1;go_wp2_with fail;go_round
   case rel=>exact⟨k+1,ae,fJ⟩
   case measure=>simp[Aat];omega
  ·obtain rfl:k=len:=by omega
   go_wp2_with fail;go_loopw [10,48] (λx i wr=>∃j:Nat,j<=k/\i=i6 j/\Own aF 5 wr w.heap.size x (aX (ws.take j) (ns.take j))/\Up w wr) (λ_ i _=>k-(Aat i).toNat)
   case atStart=>exact⟨0,bE _,rfl,Own.room aF _ w _ _ _ (aG _) ae,ai _ _⟩
   case round=>
    obtain⟨j,hj,rfl,hown,upr⟩:=hrel;obtain⟨wo,rfl⟩:∃wo:af,wo=wr:=⟨_,rfl⟩;by_cases hlt:j<k
    ·have k1:j<κ ws:=by simp only[Hid]at *;omega
     have k2:j<κ ns:=dL
     obtain⟨b,off,rfl,_,hc⟩:=cg hv Hl ae;obtain⟨b2,aH,rfl,_,aj⟩:=cg hu Hl2 ae;obtain⟨d1,d2⟩:=aA (upr.cell (hc j k1)) (upr.cell (aj j k2));unfold bz at d1;unfold cM at d2;have hsn:=s4 ws ns j k1 k2;have a6:ns[j]<18446744073709551616:=aU _ (cJ k2);have a1:=aC _ (cJ k1);have bL:κ (aX (ws.take j) (ns.take j))<=8*j:=by rw[pc _ _ ab];have:=B1 (ws:=ws.take j) (λx hx=>aC x (sA hx));simp at this;omega
     clear hc aj;generalize ws[j]=x at *;generalize ns[j]=y at *;obtain⟨m,rfl⟩:=iX (show 0<=x from ae);simp only[Abq]at hsn;generalize aX (ws.take j) (ns.take j)=pb at *;have aP:=an hsn;clear hsn;go_wp2_with fail;go_loopw [10,57] (λx i wr=>∃i':Nat,i'<=m/\i=i6 i'/\Own aF 5 wr w.heap.size x (pb++aZ y i')/\Up w wr) (λ_ i _=>m-(Aat i).toNat)
     case atStart=>exact⟨0,bE _,rfl,by simpa[aZ]using hown,upr⟩
     case round=>
      obtain⟨i',ag,rfl,ad,au⟩:=hrel;have aa:=bA i' y;by_cases aR:i'<m
      ·have av:=Cw i' y;have hle:y/2 ^ (8*i')<=y:=Nat.div_le_self _ _;have aM:=GO (y/256 ^ i');have aK:y/2 ^ (8*i')=y/256 ^ i':=by rw[show(2:Nat) ^ (8*i')=256 ^ i' from by rw[yw]]
       obtain⟨c,hc⟩:=bK (Ab8 (y/256 ^ i'%256));rw[<-hc]at av aM;have e1:IntKind.u8.wrap ((y:Int)/2 ^ (8*i'))=(c.toNat:Int):=by
        have h:(y:Int)/2 ^ (8*i')=((y/2 ^ (8*i'):Nat):Int):=ay
        rw[h,aM,ET,aK];omega
       generalize ao:aZ y i'=nb at *;obtain⟨aO,aY⟩:=aw av aa;have a7:κ nb<=8:=ae
       clear av aM aK hc ao aa;go_wp2_with(at_builtin;refine bc aF cp rfl (.tmp 60) (.tmp 66) 30 rfl w.heap.size 5 (.int .u8 0) 1 Aa0 eu rfl _ _ rfl (ad.up (ai wr _)) (cv wr.heap.size 1 1) [c] rfl (aD.lit wr #[.int .u8 (c.toNat:Int)] 5 (0,0) [c] 1 rfl ax rfl) ab ab ((au.alloc _).size) ?_);intro v' w3 aJ _ ar;go_wp2_with fail;go_roundw
       case rel=>exact⟨i'+1,ae,fJ,by rw[aO.out];exact aJ,(au.alloc _).aE ar (aG _)⟩
       case measure=>simp[Aat];omega
      ·obtain rfl:i'=m:=by omega
       clear aa;generalize ao:aZ y i'=nb at *;have aT:=an ao;clear ao;go_wp2_with fail;go_roundw
       case rel=>exact⟨j+1,ae,fJ,by rw[aP.out];exact ad,au⟩
       case measure=>simp[Aat];omega
    ·obtain rfl:j=k:=by omega
     have e1:ws.take j=ws:=dh dL;have e2:ns.take j=ns:=dh dL;rw[e1,e2]at hown;clear e1 e2;go_wp2_with fail;exact y6
theorem dg(w:af)(cs:Array ah)(t:Aab)(fr:Nat × Nat)(i:Nat)(v:ah)(h:cs[i]?=some v):(w.alloc (.cells cs t fr)).cell? ⟨w.heap.size,i,none⟩=some v:=by refine F0 ?_;intro hh;unfold Aco;simp_all
theorem Own.vW{f:α->ah}{f':β->ah}{e e':Aab}{w w' w0:af}{v v':ah}{xs:List α}{ys:List β}(h:Own f e w base v xs)(h2:Own f' e' w0 base' v' ys)(hb:w0.heap.size<=base)(hg:w.grownBy w' v'.ownBlock):Own f e w' base v xs:=by
 refine sy h hg ?_;cases ho:v.ownBlock with
 | none=>simp
 | some k=>right;intro heq;obtain⟨h3,h4⟩:=aA ((h.aN k ho).1) ((h2.aN k heq.symm).2);omega
theorem dP(n:Nat)(h:n<18446744073709551616):IntKind.u64.wrap (n:Int)=(n:Int):=by exact y5
def j4:List Int:=[4,8,4]
def Bx(p:au):List Nat:=[p.loc.toNat,p.aT,p.sum]
def bQ(p:au):List aj:=aX j4 (Bx p)
theorem HE{l:Int}{b s:Nat}(h:cw ⟨l,b,s⟩=true):∃n:Nat,l=n/\n<1024:=by rw[vS]at h;exact⟨l.toNat,ae,ae⟩
theorem Ds(n b s:Nat)(h1:n<1024)(h2:b<18446744073709551616)(h3:s<4294967296):nq j4 [n,b,s]:=by
 refine⟨rfl,?_,?_⟩
 ·decide
 ·grind [j4,fits]
theorem Cg(w:af):Aae Aag 235 #[] w λe w'=>e=.returned (cv w.heap.size 3 3)/\w'=w.alloc (.cells #[i6 4,i6 8,i6 4] 3 (0,0)):=by go_in;exact eW
def HX{f:α->ah}(w:af)(B:Obj)(cs:Array ah)(t:Aab)(fr:Nat × Nat)(l:List α)(n b:Nat)(hb:b=w.heap.size)(hn:n=κ l)(hm:n<=maxLen)(aE:cs.toList=l.map f):aD f ((w.alloc (.cells cs t fr)).alloc B).drew (.slice (some ⟨b,0,none⟩) n n) l:=(aD.er w b hb cs t fr l n hn hm aE).up ((ai _ _).drew)
def vn{f:α->ah}(w:af)(B:Obj)(cs:Array ah)(t:Aab)(fr:Nat × Nat)(l:List α)(n b:Nat)(hb:b=(w.alloc B).heap.size)(hn:n=κ l)(hm:n<=maxLen)(aE:cs.toList=l.map f):aD f ((w.alloc B).alloc (.cells cs t fr)).drew (.slice (some ⟨b,0,none⟩) n n) l:=(aD.er _ b hb cs t fr l n hn hm aE).up ((Up.refl _).drew)
theorem mC:3<=maxLen:=ax
def Ma{w1 w':af}{a b c:Addr}{x y z:ah}(h0:w1.cell? a=some x)(h1:w1.cell? b=some y)(h2:w1.cell? c=some z)(h:Up w1 w'):Up w1 w'/\w'.cell? a=some x/\w'.cell? b=some y/\w'.cell? c=some z:=⟨h,h.cell h0,h.cell h1,h.cell h2⟩
def RT(p:au)(w:af)(e:Ab1)(w':af):Prop:=(cw p=true/\∃v,e=.returned (.tuple #[v,.int .i64 0])/\Own aF 5 w' w.heap.size v (bQ p)/\Up w w')\/(cw p=false/\e=.returned (.tuple #[.slice none 0 0,.int .i64 51])/\Up w w')
theorem nS(w:af)(p:au)(hp:p.wf):Aae Aag 221 #[fA p] w λe w'=>RT p w e w':=by
 obtain⟨l,b,s⟩:=p;obtain⟨h1,h2,h3⟩:=hp;simp only at h1 h2 h3;have HR:=an (λw0=>n2 w0 ⟨l,b,s⟩);unfold fA at *;by_cases hg:cw ⟨l,b,s⟩=true
 case neg=>
  have aa:cw ⟨l,b,s⟩=false:=aQ
  rw[aa]at HR;go_in;go_wp2_with fail;refine(HR _).mono ?_;rintro e w1⟨rfl,up1⟩;go_wp2;go_ret2;exact .inr ⟨aa,rfl,(ai _ _).trans up1⟩
 obtain⟨n,rfl,hn⟩:=HE hg;rw[hg]at HR;go_in;go_wp2_with fail;refine(HR _).mono ?_;rintro e w1⟨rfl,up1⟩;have c0:w1.cell? (ad w.heap.size 0)=some (i6 n):=up1.cell (dg w _ _ _ 0 _ rfl);have c1:w1.cell? (ad w.heap.size 1)=some (u6 b):=up1.cell (dg w _ _ _ 1 _ rfl);have c2:w1.cell? (ad w.heap.size 2)=some (.int .u32 s):=up1.cell (dg w _ _ _ 2 _ rfl);obtain⟨ar,s1⟩:=aA ((ai w _).trans up1) up1.size;go_wp2;have wn:=dP n ae;obtain⟨ws,hi⟩:=aA (dP s ae) ar;go_region_held3 (λw'=>Up w1 w'/\w'.cell? (ad w.heap.size 0)=some (i6 n)/\w'.cell? (ad w.heap.size 1)=some (u6 b)/\w'.cell? (ad w.heap.size 2)=some (.int .u32 s))
  ((refine Ma c0 c1 c2 ?_;(first|(refine Up.trans ?_ up4;(repeat(first|exact Up.refl _|apply Up.alloc|apply Up.drew));done)|((repeat(first|exact Up.refl _|apply Up.alloc|apply Up.drew));done))))
  ((first
   | (go_at_call 235;refine(Cg _).mono ?_;rintro e w2 ⟨rfl,rfl⟩)
   | (go_at_call 240;refine(oV _ _ j4 (by first | exact HX w1 _ #[i6 4,i6 8,i6 4] 3 _ j4 3 _ rfl rfl mC rfl | exact vn w1 _ #[i6 4,i6 8,i6 4] 3 _ j4 3 _ rfl rfl mC rfl | exact vn w1 _ #[i6 4,i6 8,i6 4] 3 _ j4 3 _ (Aa3 _ _).symm rfl mC rfl) ax _ [n,b,s] (by first | exact HX w1 _ #[u6 n,u6 b,u6 s] 70 _ [n,b,s] 3 _ rfl rfl mC rfl | exact vn w1 _ #[u6 n,u6 b,u6 s] 70 _ [n,b,s] 3 _ rfl rfl mC rfl | exact vn w1 _ #[u6 n,u6 b,u6 s] 70 _ [n,b,s] 3 _ (Aa3 _ _).symm rfl mC rfl) ab (Ds n b s hn h2 h3)).mono ?_;rintro e w4 ⟨vv,rfl,aO,up4⟩)))
 all_goals
  obtain⟨k1,k2⟩:=aA (((ai w1 _).alloc _).drew.trans up4) (aO.mono (bN ar.size ((ai w1 _).alloc _).drew.size));go_wp2;go_ret2;exact .inl ⟨hg,_,rfl,k2,ar.trans k1⟩
def mh(l:List aj):au:=⟨(bn (l.take 4):Nat),bn ((l.drop 4).take 8),bn (l.drop 12)⟩
def mi(l:List aj):Option au:=if (κ l)=16/\cw (mh l)=true then some (mh l)else none
def RU(l:List aj)(w:af)(e:Ab1)(w':af):Prop:=(∃p,mi l=some p/\e=.returned (.tuple #[fA p,.int .i64 0])/\Up w w')\/(mi l=none/\e=.returned (.tuple #[fA hole,.int .i64 51])/\Up w w')
theorem Qf(l:List aj):Bj j4 l↔(κ l)=16:=by simp[Bj,j4,xX,total]
theorem fN{l:List aj}(h:κ l<=k):bn l<256 ^ k:=eg (nZ l) (ES ae h)
theorem pQ(l:List aj)(h:κ l=16):cW j4 l=[bn (l.take 4),bn ((l.drop 4).take 8),bn (l.drop 12)]:=by simp[cW,j4,Ac3];rw[dh ab]
theorem sr(w:af)(cs:Array ah)(t:Aab)(i:Nat):(w.alloc (.cells cs t)).frozen? ⟨w.heap.size,i,none⟩=false:=aq
theorem aY(n:Nat)(h:n<9223372036854775808):IntKind.i64.wrap (n:Int)=(n:Int):=IntWalk.i64_in _ ae
theorem GY(n:Nat)(h:n<4294967296):IntKind.u32.wrap (n:Int)=(n:Int):=by exact y5
theorem qk(w:af)(v:ah)(l:List aj)(hv:a8 w v l)(ak:κ l=16):Aae Aag 176 #[v] w λe w'=>RU l w e w':=by
 have HR:=an (n2 (p:=mh l));go_in;go_wp2_with fail;refine(Cg _).mono ?_;rintro e w1⟨rfl,rfl⟩;go_wp2_with fail;refine(tR _ _ j4 (aD.er _ _ aq _ _ _ j4 3 rfl mC rfl) ax _ l (hv.up ((ai _ _).alloc _)) ((Qf l).2 ak)).mono ?_;rintro e w3⟨vv,rfl,aO,hh⟩;have az:Up (w.alloc (.cells #[i6 0,u6 0,.int .u32 0] 87)) w3:=(ai _ _).trans hh;have d0:w3.cell? (ad w.heap.size 0)=some (i6 0):=az.cell (dg w _ _ _ 0 _ rfl);have d1:w3.cell? (ad w.heap.size 1)=some (u6 0):=az.cell (dg w _ _ _ 1 _ rfl);have d2:w3.cell? (ad w.heap.size 2)=some (.int .u32 0):=az.cell (dg w _ _ _ 2 _ rfl);have f0:w3.frozen? ⟨w.heap.size,0,none⟩=false:=(az.frozen aq).trans (sr w _ _ 0);have f1:w3.frozen? ⟨w.heap.size,1,none⟩=false:=(az.frozen aq).trans (sr w _ _ 1);have f2:w3.frozen? ⟨w.heap.size,2,none⟩=false:=(az.frozen aq).trans (sr w _ _ 2);have ar:=(ai w _).trans az;rw[pQ l ak]at aO;refine M2 ?_;intro q1 q2 q3;have aS:=an ak;have hp:mh l=⟨(bn (l.take 4):Nat),bn ((l.drop 4).take 8),bn (l.drop 12)⟩:=rfl;rw[hp]at HR;have Hp:=an hp;unfold fA at HR;simp only at HR;generalize bn (l.take 4)=x at *;generalize bn ((l.drop 4).take 8)=y at *;generalize bn (l.drop 12)=z at *;obtain⟨a5,c5,rfl⟩:=aO.cC.slice;obtain⟨b5,o5,rfl,_,hc⟩:=cg aO.cC rfl aq;have e0:w3.cell? (ad b5 o5)=some (u6 x):=hc 0 aq;have e1:w3.cell? (ad b5 (o5+1))=some (u6 y):=hc 1 aq;have e2:w3.cell? (ad b5 (o5+2))=some (u6 z):=hc 2 aq;go_wp2;obtain⟨wx,wz⟩:=aA (aY x ae) (GY z q3);go_region_held3 (λw'=>Up w3 w'/\w'.cell? (ad b5 o5)=some (u6 x)/\w'.cell? (ad b5 (o5+1))=some (u6 y)/\w'.cell? (ad b5 (o5+2))=some (u6 z)) ((refine Ma e0 e1 e2 ?_;(repeat(first|exact Up.refl _|apply Up.alloc|refine Up.setCell ?_ (aG _) _|apply Up.drew));done)) (fail);go_wp2_with fail;refine(HR _).mono ?_;rintro e w5⟨rfl,al⟩;have aa:=((ai w3 (.cells #[i6 x,u6 y,.int .u32 z] 87)).drew).trans al;have g0:w5.cell? (ad w3.heap.size 0)=some (i6 x):=al.cell (dg w3 _ _ _ 0 _ rfl);have g1:w5.cell? (ad w3.heap.size 1)=some (u6 y):=al.cell (dg w3 _ _ _ 1 _ rfl);have g2:w5.cell? (ad w3.heap.size 2)=some (.int .u32 z):=al.cell (dg w3 _ _ _ 2 _ rfl);have ag:w5.frozen? ⟨w.heap.size,0,none⟩=false:=(aa.frozen (hX w3 _ d0)).trans f0;have ao:w5.frozen? ⟨w.heap.size,1,none⟩=false:=(aa.frozen (hX w3 _ d1)).trans f1;have ay:w5.frozen? ⟨w.heap.size,2,none⟩=false:=(aa.frozen (hX w3 _ d2)).trans f2;have au:=aa.cell d0;have av:=aa.cell d1;have aw:=aa.cell d2;have ab:=ar.trans aa;have aL:mi l=if cw ⟨x,y,z⟩=true then some ⟨x,y,z⟩ else none:=by simp[mi,aS.out,Hp.out]
 generalize cw ⟨x,y,z⟩=gb at *;cases gb
 ·go_wp2;refine kk (v:=.tuple #[fA hole,i6 51]) ?_ rfl ?_
  ·rw[EL rfl];go_simp;try rfl
  exact .inr ⟨cm,rfl,((ab.setCell (aG _) _).setCell (aG _) _).setCell (aG _) _⟩
 ·go_wp2;refine kk (v:=.tuple #[.agg #[i6 x,u6 y,.int .u32 z],i6 0]) ?_ rfl ?_
  ·rw[EL rfl];go_simp;try rfl
  exact .inl ⟨⟨x,y,z⟩,cm,rfl,((ab.setCell (aG _) _).setCell (aG _) _).setCell (aG _) _⟩


def yb(w:af)(v v':ah):Prop:=v'.ownBlock=v.ownBlock\/∃g,v'.ownBlock=some g/\w.heap.size<=g
def pk(v u:ah):Prop:=v.ownBlock=none\/v.ownBlock≠u.ownBlock
theorem pk.symm{v u:ah}(h:pk v u):pk u v:=by
 rcases h with h|h
 ·by_cases hu:u.ownBlock=none
  ·exact .inl hu
  ·exact .inr aa
 ·exact .inr (λe=>h e.symm)
theorem pk.grown{w:af}{v v' u:ah}(h:pk u v)(hw:yb w v v')(hu:∀k,u.ownBlock=some k->k<w.heap.size):pk u v':=by
 rcases h with h|h
 ·exact .inl h
 ·rcases hw with hw|⟨g,hw,hg⟩
  ·exact .inr aa
  ·refine .inr (λe=>?_);grind
section
variable {α:Type} {P:bx}
theorem qH{f:α->List ah}{k:Nat}(hw:hL f k){w:af}{o:Oper}{a:Act}{K:Act->af->Prop}{Q:Exit->Act->af->Prop}(s x:bO)(t:TypeId)(ho:o.op=.call {callee:=.builtin .append,args:=#[s,x],argTypes:=#[t,t]})(base:Nat)(e:TypeId)(z:ah)(bytes:Nat)(ht:P.underlying t=some (.slice e))(hinfo:(P.info? e).map (λi=>(i.zero,i.size,i.bytes))=some (some z,k,bytes))(au:z.cells.size=k)(v:ah)(xs:List α)(hs:a.eval s=v)(hown:ak f k e w base v xs)(vx:ah)(ys:List α)(hx:a.eval x=vx)(al:aI f w vx ys)(ai:(κ xs+κ ys)*bytes<=140737488355328)(an:κ xs+κ ys<=9223372036854775807)(ag:base<=w.heap.size)(h:∀v' w',ak f k e w' base v' (xs++ys)->w.grownBy w' v.ownBlock->Below base w w'->yb w v v'->K (a.put o.dst v') w'):o.wp P a w K Q:=by
 obtain⟨i,hi,hz0,hz1,az⟩:=jF hinfo;have ar:κ xs+κ ys<=maxLen:=cm
 have key:∀(ad:Addr)(c:Nat),vx=.slice (some ad) (κ ys) c->(∀j u,(ys.flatMap f)[j]?=some u->w.cell? (ad.add j)=some u)->o.wp P a w K Q:=by
  intro ad c av aj;obtain⟨v',w',hr,h1,h2,h3⟩:=run_append_own (P:=P) w base t o.type e i z k bytes ht hi hz0 hz1 az au hw.pos v (κ xs) (xs.flatMap f) hown ad (κ ys) c (ys.flatMap f) (hw.flat ys) aj (hw.cC ys) ar ai ag;have aa:yb w v v':=by
   rcases hown.2 with⟨rfl,h0⟩|⟨g,cap,cur,rfl,aq,hg,bd,aA,aE,aw⟩
   ·have aP:xs=[]:=oz.1 h0;subst aP;obtain⟨v2,w2,aO,ax,ay,a1⟩:=run_append_own (P:=P) w w.heap.size t o.type e i z k bytes ht hi hz0 hz1 az au hw.pos (nl) 0 [] (yk w w.heap.size e k) ad (κ ys) c (ys.flatMap f) (hw.flat ys) aj (hw.cC ys) ae ae (aG _);have e1:=hr.symm.trans aO;simp only[Adg]at e1;obtain⟨rfl,rfl⟩:=e1;rcases ax.2 with⟨rfl,_⟩|⟨g,cap,cur,rfl,aq,_⟩
    ·exact .inl rfl
    ·exact .inr ⟨g,rfl,aq⟩
   ·by_cases ao:κ xs+κ ys<=cap
    ·obtain⟨w2,aO,_⟩:=run_append_own_spare (P:=P) w base t o.type e i k ht hi hz1 g (κ xs) cap (xs.flatMap f) hown ad (κ ys) c (ys.flatMap f) (hw.flat ys) aj (hw.cC ys) ao;have e1:=hr.symm.trans aO;simp only[Adg]at e1;obtain⟨rfl,rfl⟩:=e1;exact .inl rfl
    ·have holds:∀j u,(xs.flatMap f)[j]?=some u->w.cell? ((⟨g,0,none⟩:Addr).add j)=some u:=World.ownsRow.cells hown (g:=g) rfl;have aO:=run_append_grow (P:=P) w t o.type e i z ht hi hz0 ⟨g,0,none⟩ (κ xs) cap (xs.flatMap f) (by rw[hz1];exact hw.flat xs) holds ad (κ ys) c (ys.flatMap f) (by rw[hz1];exact hw.flat ys) aj ae ae (by rw[az];exact growslice_fits ae ai);have e1:=hr.symm.trans aO;simp only[Adg]at e1;obtain⟨rfl,rfl⟩:=e1;exact .inr ⟨_,rfl,aG _⟩
  unfold Acb;simp[Abs,ho,resolve,invoke,builtin,hs,hx,av,hr,Aap];refine h v' w' ?_ h2 (fc h2 ag λk hk=>(hown.aN k hk).1) aa;unfold ak;simp;omega
 rcases al with⟨rfl,ad,cap,rfl,hc,hn⟩|⟨b,off,cap,rfl,h0,hl,hm,hc⟩
 ·cases ad with
  | none=>obtain rfl:=hn rfl;have hrun:=yl (P:=P) (w:=w) base t o.type e i k ht hi v (κ xs) (xs.flatMap f) hown;unfold Acb;simp[Abs,ho,resolve,invoke,builtin,hs,hx,hrun,Aap];exact h v w ab ⟨rfl,rfl,rfl,aG _,λ_ _ _=>rfl⟩ (eZ _ _) (.inl rfl)
  | some ad=>grind
 ·refine key _ cap rfl λj u hj=>?_;rw[add_plain];grind
def eN{f:α->List ah}{k:Nat}(hw:hL f k){w:af}{ops:Array Oper}{rest:List Oper}{o:Oper}{a:Act}{Q:Exit->Act->af->Prop}(hgd:o.guard=none)(s x:bO)(t:TypeId)(ho:o.op=.call {callee:=.builtin .append,args:=#[s,x],argTypes:=#[t,t]})(base:Nat)(e:TypeId)(z:ah)(bytes:Nat)(ht:P.underlying t=some (.slice e))(hinfo:(P.info? e).map (λi=>(i.zero,i.size,i.bytes))=some (some z,k,bytes))(au:z.cells.size=k)(v:ah)(xs:List α)(hs:a.eval s=v)(hown:ak f k e w base v xs)(vx:ah)(ys:List α)(hx:a.eval x=vx)(al:aI f w vx ys)(ai:(κ xs+κ ys)*bytes<=140737488355328)(an:κ xs+κ ys<=9223372036854775807)(ag:base<=w.heap.size)(h:∀v' w',ak f k e w' base v' (xs++ys)->w.grownBy w' v.ownBlock->Below base w w'->yb w v v'->wpList P ops Q rest (a.put o.dst v') w'):wpList P ops Q (o::rest) a w:=gZ hgd λ_ hK=>qH hw s x t ho base e z bytes ht hinfo au v xs hs hown vx ys hx al ai an ag λv' w' h1 h2 h3 h4=>hK _ _ (h v' w' h1 h2 h3 h4)
end
def dG(p:au):List ah:=[.int .i64 p.loc,.int .u64 (p.aT:Int),.int .u32 (p.sum:Int)]
theorem pw:hL dG 3:=⟨ae,λ_=>rfl,λx u hu=>by simp[dG]at hu;rcases hu with rfl|rfl|rfl<;>rfl⟩
def be(p:au):Array ah:=#[.int .i64 p.loc,.int .u64 (p.aT:Int),.int .u32 (p.sum:Int)]
theorem jN(p:au):(be p).all (·.oneCell')=true:=by simp[be,Ac8]
def ZI(p:au):be p=(dG p).toArray:=rfl
theorem cy:(prog.info? 87).map (λi=>(i.zero,i.size,i.bytes))=some (some (.agg #[.int .i64 0,.int .u64 0,.int .u32 0]),3,24):=av
theorem zf(d:Nat)(p q:au)(W:af):(Ack (d+2) 87 (fA p) (fA q)).run Aag W=.ok (decide (p=q)) W:=by
 obtain⟨l,b,s⟩:=p;obtain⟨l2,b2,s2⟩:=q;unfold fA;have e:decide ((⟨l,b,s⟩:au)=⟨l2,b2,s2⟩)=((l==l2) && (((b:Int)==(b2:Int)) && ((s:Int)==(s2:Int)))):=aQ
 rw[e];rw[yx W (d+1) 87 _ _ ay aq];exact Nr
abbrev cX(w:af)(v:ah)(l:List au):Prop:=aI dG w v l
abbrev bf(w:af)(base:Nat)(v:ah)(l:List au):Prop:=ak dG 3 87 w base v l
theorem ru{w:af}{a:Option Addr}{l:List au}(h:cX w (.slice a n cap) l)(h0:0<κ l):∃b off,a=some ⟨b,off,none⟩/\b<w.heap.size/\n<=cap/\∀i(hi:i<κ l),w.cell? ⟨b,off+i*3,none⟩=some (.int .i64 l[i].loc)/\w.cell? ⟨b,off+i*3+1,none⟩=some (.int .u64 (l[i].aT:Int))/\w.cell? ⟨b,off+i*3+2,none⟩=some (.int .u32 (l[i].sum:Int)):=by obtain⟨b,off,h1,h2,h3,h4⟩:=aI.get h pw h0;exact⟨b,off,h1,h2,h3,λi hi=>⟨h4 i hi 0 _ rfl,h4 i hi 1 _ rfl,h4 i hi 2 _ rfl⟩⟩
def nD(p:au):Bool:=!decide (p=hole) && cw p
def sV(l:List au)(i:Nat)(h:i<κ l):Bool:=nD l[i] && (if h0:i=0 then true else dm (l[i-1]' ae) l[i])
def hn(l:List au):Bool:=decide (∀i(h:i<κ l),sV l i h=true)
theorem ja(l:List au):hn l=true↔∀i(h:i<κ l),sV l i h=true:=by simp[hn]
theorem SV(l:Int)(b s:Nat):decide ((⟨l,b,s⟩:au)=hole)=true↔l=0/\b=0/\s=0:=by simp[hole]
theorem Hv(w:af)(p:au):Aae Aag 225 #[fA p] w λe w'=>j7 (nD p) w e w':=by
 have R:=an (λW=>n2 W p);have hf:nD p=(!decide (p=hole) && cw p):=rfl;rw[hf];obtain⟨l,b,s⟩:=p;have hh:=SV l b s;unfold fA at *;simp only at *;generalize cw ⟨l,b,s⟩=g at *;generalize decide ((⟨l,b,s⟩:au)=hole)=h at *;by_cases h0:l=0/\b=0/\s=0
 ·have:h=true:=hh.2 h0;subst this;obtain⟨rfl,rfl,rfl⟩:=h0;go_in;go_wp2;go_ret;exact⟨rfl,ai _ _⟩
 ·have:h=false:=by grind
  subst this;have hx:(((l==0) && ((b:Int)==0)) && ((s:Int)==0))=false:=ab
  have HX:(l==0)=false\/((l==0)=true/\((b:Int)==0)=false)\/((l==0)=true/\((b:Int)==0)=true/\((s:Int)==0)=false):=by cases h1:(l==0)<;>cases h2:((b:Int)==0)<;>cases h3:((s:Int)==0)<;>simp_all
  rcases HX with t1|⟨t1,t2⟩|⟨t1,t2,t3⟩
  all_goals
   go_in;go_wp2_with fail;refine(R _).mono ?_;rintro e w1⟨rfl,up1⟩;go_wp2;go_ret;exact⟨aq,(ai _ _).trans up1⟩
def aat(w:af)(l:Int)(b s:Nat)(d:Nat)(os:Array Obj):(grow (redrawn (w.alloc (.cells #[.int .i64 l,.int .u64 b,.int .u32 s] 87)) d) os).cell? ⟨w.heap.size,0,none⟩=some (.int .i64 l):=dR (dg w _ _ _ 0 _ rfl) d os
def aau(w:af)(l:Int)(b s:Nat)(d:Nat)(os:Array Obj):(grow (redrawn (w.alloc (.cells #[.int .i64 l,.int .u64 b,.int .u32 s] 87)) d) os).cell? ⟨w.heap.size,1,none⟩=some (.int .u64 b):=dR (dg w _ _ _ 1 _ rfl) d os
def aav(w:af)(l:Int)(b s:Nat)(d:Nat)(os:Array Obj):(grow (redrawn (w.alloc (.cells #[.int .i64 l,.int .u64 b,.int .u32 s] 87)) d) os).cell? ⟨w.heap.size,2,none⟩=some (.int .u32 s):=dR (dg w _ _ _ 2 _ rfl) d os
structure px(x y:ah)(b:Bool):Prop where
 fit:∀W,Aae Aag 224 #[x,y] W λe w'=>j7 b W e w'
def lV(W:af)(x y:ah)(b:Bool)(h:px x y b):Aae Aag 224 #[x,y] W λe w'=>j7 b W e w':=h.fit W
theorem Xz{l:List au}(h:0<κ l):sV l 0 h=nD l[0]:=by simp[sV]
theorem Xy{l:List au}(h:k+1<κ l):sV l (k+1) h=(nD l[k+1] && dm (l[k]' ae) l[k+1]):=ay
theorem Qd{l:List au}(h:k<κ l)(hk:sV l k h=false):hn l=false:=by grind [ja]
theorem sx(w:af)(v:ah)(l:List au)(hv:cX w v l):Aae Aag 243 #[v] w λe w'=>j7 (hn l) w e w':=by
 have hlen:=hv.length_le;obtain⟨a,cap,rfl⟩:=hv.slice;go_in;go_wp2;go_loopw [7] (λi wr=>∃k:Nat,k<=κ l/\i=i6 k/\(∀j(hj:j<κ l),j<k->sV l j hj=true)/\Up w wr) (λi _=>κ l-(Aat i).toNat)
 case atStart=>exact⟨0,bE _,rfl,λj hj h=>ae,Up.refl _⟩
 case round=>
  obtain⟨k,hk,rfl,ad,upr⟩:=hrel;have ag:=an ad;by_cases hlt:k<κ l
  ·obtain⟨b,off,rfl,hbs,bd,hc⟩:=ru (aI.up hv upr) ae;obtain⟨aJ,al,aj⟩:=db ((hc k hlt).1) ((hc k hlt).2.1) ((hc k hlt).2.2);have F:=an (λW=>Hv W l[k]);have aD:(sV l k hlt=true->∀j(hj:j<κ l),j<k+1->sV l j hj=true):=λh j hj aL=>by
    by_cases e:j=k
    ·subst e;exact h
    ·exact ag j hj ae
   obtain⟨HST,aC⟩:=aw aD (λh=>Qd hlt h);refine iP ?_;intro b2;have ak:sV l k hlt=(nD l[k] && (if h0:k=0 then true else dm (l[k-1]' ae) l[k])):=rfl;have aB:=an ak;by_cases aA:k=0
   ·have ak:=aB.out;simp only[aA,dif_pos,Bool.and_true]at ak;have av:=an (show sV l k hlt=nD l[k] by subst aA;exact Xz hlt);have t0:decide ((0:Int)<(k:Int))=false:=by simp;omega
    have aF:decide (0<k)=false:=ab
    clear ak aB aA;generalize l[k]=p at *;obtain⟨pl,pb,ps⟩:=p;unfold fA at F;simp only at F aJ al aj;generalize nD ⟨pl,pb,ps⟩=g at *;clear hc;go_wp2_with fail;obtain⟨x0,x1,x2,upa⟩:=iJ (aat wr pl pb ps) (aau wr pl pb ps) (aav wr pl pb ps) (ai wr (.cells #[i6 pl,u6 pb,.int .u32 ps] 87));generalize aa:wr.alloc (.cells #[i6 pl,u6 pb,.int .u32 ps] 87)=w3 at *;clear aa;cases g;all_goals
     refine g' ?_;repeat(go_big_quiet_step ((go_at_call 225;exact km (F _))))
     refine FH ?_;intro w4 d os hw4 up4;clear hw4 x0 x1 x2;have ax:=upr.trans (upa.trans up4);go_wp2_with fail
    ·go_ret;exact⟨by rw[aC.out av.out]<;>rfl,ax⟩
    ·go_roundw
     case rel=>exact⟨k+1,ae,aq,HST av,ax⟩
     case measure=>simp[Aat];omega
   ·obtain⟨j,hj⟩:=bK (k-1);have ar:j<κ l:=by omega
    have av:=an (show sV l k hlt=(nD l[k] && dm l[j] l[k])by subst hj;rw[aB.out,dif_neg aA]);obtain⟨ao,aE,az⟩:=db ((hc j ar).1) ((hc j ar).2.1) ((hc j ar).2.2);have L:=an (show px (fA l[j]) (fA l[k]) (dm l[j] l[k])from⟨λW=>tY W l[j] l[k]⟩);have t0:decide ((0:Int)<(k:Int))=true:=ab
    have aF:decide (0<k)=true:=ab
    have t1:IntKind.i64.wrap ((k:Int)-1)=(j:Int):=by rw[show(k:Int)-1=(j:Int)from ae];exact aY j ae
    have t2:((j:Int)<(κ l:Int))=True:=ab
    clear aB aA hj;generalize l[k]=p at *;generalize l[j]=q at *;obtain⟨pl,pb,ps⟩:=p;obtain⟨ql,qb,qs⟩:=q;unfold fA at F L;simp only at F aJ al aj ao aE az L;generalize nD ⟨pl,pb,ps⟩=g at *;generalize dm ⟨ql,qb,qs⟩ ⟨pl,pb,ps⟩=le at *;clear hc;go_wp2_with fail;obtain⟨x0,x1,x2,upa⟩:=iJ (aat wr pl pb ps) (aau wr pl pb ps) (aav wr pl pb ps) (ai wr (.cells #[i6 pl,u6 pb,.int .u32 ps] 87));obtain⟨x3,x4,x5⟩:=db (dR (upa.cell ao)) (dR (upa.cell aE)) (dR (upa.cell az));generalize aa:wr.alloc (.cells #[i6 pl,u6 pb,.int .u32 ps] 87)=w3 at *;clear aa;cases g
    ·refine g' ?_;repeat(go_big_quiet_step ((go_at_call 225;exact km (F _))))
     refine FH ?_;intro w4 d os hw4 up4;clear hw4 x0 x1 x2;have ax:=upr.trans (upa.trans up4);go_wp2_with fail;go_ret;exact⟨by rw[aC.out cm]<;>rfl,ax⟩
    cases le;all_goals
     refine g' ?_;repeat(go_big_quiet_step (first|(go_at_call 225;exact km (F _))|(go_at_call 224;exact km (lV _ _ _ _ L))))
     refine FH ?_;intro w4 d os hw4 up4;clear hw4 x0 x1 x2 x3 x4 x5;have ax:=upr.trans (upa.trans up4);go_wp2_with fail
    ·go_ret;exact⟨by rw[aC.out cm]<;>rfl,ax⟩
    ·go_roundw
     case rel=>exact⟨k+1,ae,aq,HST cm,ax⟩
     case measure=>simp[Aat];omega
  ·obtain rfl:k=κ l:=by omega
   have hb:hn l=true:=by rw[ja];grind
   go_wp2_with fail;go_ret;exact⟨ab,upr⟩
structure bM where
 st:Int
 len:Int
deriving DecidableEq
def VA(s:bM):ah:=.agg #[.int .i64 s.st,.int .i64 s.len]
def rE(s:bM):List ah:=[.int .i64 s.st,.int .i64 s.len]
theorem BV:hL rE 2 where
 pos:=ax
 len:=λ_=>rfl;one:=by intro x u hu;simp[rE]at hu;rcases hu with rfl|rfl<;>rfl
abbrev dS(w:af)(v:ah)(l:List bM):Prop:=aI rE w v l
abbrev hV(w:af)(base:Nat)(v:ah)(l:List bM):Prop:=ak rE 2 139 w base v l
theorem qv{w:af}{a:Option Addr}{l:List bM}(h:dS w (.slice a n cap) l)(h0:0<κ l):∃b off,a=some ⟨b,off,none⟩/\b<w.heap.size/\n<=cap/\∀i(hi:i<κ l),w.cell? (ad b (off+i*2))=some (i6 l[i].st)/\w.cell? (ad b (off+i*2+1))=some (i6 l[i].len):=by obtain⟨b,off,h1,h2,h3,h4⟩:=aI.get h BV h0;exact⟨b,off,h1,h2,h3,λi hi=>⟨h4 i hi 0 _ rfl,h4 i hi 1 _ rfl⟩⟩
def gu(s:bM):Bool:=decide (0<=s.st/\s.st<4096/\1<=s.len/\s.len<=4096-s.st)
def cq:Int->List bM->Bool
 | _,[]=>true
 | e,s::l=>gu s && decide (e<s.st) && cq (s.st+s.len) l
def LJ(b:Bool)(w:af)(e:Ab1)(w':af):Prop:=e=.returned (.bool b)/\Up w w'
theorem aaM{x b:Bool}(h:x=true↔b=true):Ending.returned (.bool x)=.returned (.bool b):=aa
theorem dW(s l:Int):gu ⟨s,l⟩=true↔0<=s/\s<4096/\1<=l/\l<=4096-s:=by simp[gu]
theorem Lb(w:af)(s:bM):Aae Aag 275 #[VA s] w λe w'=>LJ (gu s) w e w':=by
 obtain⟨s,l⟩:=s;unfold VA;have hw:0<=s->s<4096->IntKind.i64.wrap (4096-s)=4096-s:=λh1 h2=>by obtain⟨k,rfl⟩:=iX h1;rw[show(4096:Int)-(k:Int)=((4096-k:Nat):Int)from ae];exact aY _ ae
 by_cases h1:0<=s
 ·by_cases h2:s<4096
  ·replace hw:=hw h1 h2;go_in;go_wp2;all_goals
    go_ret;refine⟨?_,ai _ _⟩;refine aaM ?_;rw[dW];try simp only[hw]at *
    try simp only[decide_eq_true_eq,Abc,Bool.or_eq_true,Ac2,decide_eq_false_iff_not]at *
    try simp only[Ab2,false_iff,true_iff]
    omega
  ·exact M3
 ·exact M3
theorem vh{s l:Int}(h:gu ⟨s,l⟩=true):IntKind.i64.wrap (s+l)=s+l/\-1<=s+l/\s+l<=4096:=by rw[dW]at h;obtain⟨k,rfl⟩:=iX h.1;obtain⟨j,rfl⟩:=iX (show 0<=l from ae);refine⟨?_,ae,ae⟩;rw[show(k:Int)+(j:Int)=((k+j:Nat):Int)from ae];exact aY _ ae
theorem f'(w:af)(v:ah)(l:List bM)(hv:dS w v l):Aae Aag 247 #[v] w λe w'=>LJ (cq (-1) l) w e w':=by
 have hlen:=hv.length_le;obtain⟨a,cap,rfl⟩:=hv.slice;go_in;go_wp2_with fail;go_loopw [3,8] (λe i wr=>∃k:Nat,∃z:Int,k<=κ l/\i=i6 k/\e=i6 z/\cq z (l.drop k)=cq (-1) l/\-1<=z/\z<=4096/\Up w wr) (λ_ i _=>κ l-(Aat i).toNat)
 case atStart=>exact⟨0,-1,bE _,rfl,rfl,rfl,ae,ae,Up.refl _⟩
 case round=>
  obtain⟨k,z,hk,rfl,rfl,ad,hz1,az,upr⟩:=hrel;have ag:=an ad;clear ad;by_cases hlt:k<κ l
  ·obtain⟨b,off,rfl,hbs,bd,hc⟩:=qv (aI.up hv upr) ae;obtain⟨x0,x1⟩:=aA ((hc k hlt).1) ((hc k hlt).2);have F:=an (λW=>Lb W l[k]);have hd:l.drop k=l[k]::l.drop (k+1):=(List.getElem_cons_drop hlt).symm;have HD:=an hd;clear hd;refine iP ?_;intro b2;generalize l[k]=p at *;obtain⟨ps,pl⟩:=p;obtain⟨HR,HE⟩:=aw (show cq z (l.drop k)=(gu ⟨ps,pl⟩ && decide (z<ps) && cq (ps+pl) (l.drop (k+1)))by rw[HD.out];rfl) (@vh ps pl);clear HD;unfold VA at F;simp only at F x0 x1;generalize hg:gu ⟨ps,pl⟩=g at *;clear hg hc;have CC:=dg wr #[i6 ps,i6 pl] 139 (0,0);obtain⟨c0,c1⟩:=aA (CC 0 _ rfl) (CC 1 _ rfl);clear CC;cases g
   ·go_wp2_with fail;refine(F _).mono ?_;rintro e w1⟨rfl,up1⟩;replace c0:=up1.cell c0;replace c1:=up1.cell c1;go_wp2_with fail;go_ret;exact⟨by rw[<-ag.out,HR.out]<;>rfl,(upr.alloc _).trans up1⟩
   ·obtain⟨ao,ak,aa⟩:=HE rfl;by_cases hle:ps<=z
    ·have t1:¬z<ps:=by omega
     have aj:=an (show cq (-1) l=false by rw[<-ag.out,HR.out];simp[t1]);clear t1;go_wp2_with fail;refine(F _).mono ?_;rintro e w1⟨rfl,up1⟩;replace c0:=up1.cell c0;replace c1:=up1.cell c1;go_wp2_with fail;go_ret;exact⟨by rw[aj.out]<;>rfl,(upr.alloc _).trans up1⟩
    ·have t1:z<ps:=by omega
     have aj:=an (show cq (ps+pl) (l.drop (k+1))=cq (-1) l by rw[<-ag.out,HR.out];simp[t1]);clear t1;go_wp2_with fail;refine(F _).mono ?_;rintro e w1⟨rfl,up1⟩;replace c0:=up1.cell c0;replace c1:=up1.cell c1;go_wp2_with fail;go_roundw
     case rel=>exact⟨k+1,ps+pl,ae,aq,rfl,aj,ak,aa,(upr.alloc _).trans up1⟩
     case measure=>simp[Aat];omega
  ·obtain rfl:k=κ l:=by omega
   have hb:cq (-1) l=true:=by rw[<-ag.out];simp[cq]
   go_wp2_with fail;go_ret;exact⟨ab,upr⟩
section
open Go.Shelf
attribute [local go_sem] kr
def cY(p:Nat->Aab->Prop)(W W':af):Prop:=∀b cs t fr,W.heap[b]?=some (.cells cs t fr)->p b t->W'.heap[b]?=some (.cells cs t fr)
theorem cY.refl(W:af):cY p W W:=λ_ _ _ _ h _=>h
def cY.trans{A B C:af}(h:cY p A B)(k:cY p B C):cY p A C:=λb cs t fr hb hp=>k b cs t fr (h b cs t fr hb hp) hp
theorem jD{w:af}(W:af)(l:Nat)(o o':Obj)(_:w.heap.size<=l)(h:W.heap[l]?=some o)(hc:o.isCells=false)(_:o.isWalk=false):cY p W (W.putObj l o'):=λb cs t fr hb _=>by
 have hne:b≠l:=λe=>by subst e;rw[h]at hb;cases hb;simp[Obj.isCells]at hc
 rw[World.putObj_heap_other hne];exact hb
theorem cY.cell{W W':af}(h:cY p W W'){v:ah}(hp:∀t,p a.block t)(hc:W.cell? a=some v):W'.cell? a=some v:=by
 unfold Aco at hc ⊢;cases hb:W.heap[a.block]? with
 | none=>simp_all
 | some o=>
  cases o with
  | cells cs t fr=>rw[h a.block cs t fr hb (hp t)];simp_all
  | _=>simp_all
theorem jh{W W':af}(h:Up W W'):cY p W W':=λb cs t fr hb _=>by
 have hlt:b<W.heap.size:=by exact M4
 rw[oA h b hlt];exact hb
theorem l6{W W':af}(h:Up W W'):W.grownBy W' none:=by exact⟨h.os,h.tape,h.output,h.size,λk hk _=>h.block k hk⟩
def cR(l:List bM):List Int:=l.flatMap (λs=>(Aaj s.len.toNat).map (λk:Nat=>s.st+(k:Int)))
def cx(l:List bM):List Int:=if cq (-1) l=true then cR l else []
theorem tI(w:af)(a:Option Addr)(n cap:Nat):Aae Aag 228 #[.slice a n cap] w λe w'=> e=.returned (.func (.func 264) #[] #[pz w.heap.size])/\w'=w.alloc (.cells #[.slice a n cap] 63):=by go_in;exact eW
def hq(l:List bM)(k j:Nat)(z:Int):List Int:=cR (l.take k)++(Aaj j).map (λi:Nat=>z+(i:Int))
theorem xG(l:List bM)(k:Nat)(z:Int):hq l k 0 z=cR (l.take k):=by simp[hq]
theorem k'(l:List bM)(k j:Nat)(z:Int):hq l k (j+1) z=hq l k j z++[z+(j:Int)]:=by simp[hq,Abz]
theorem oZ{l:List bM}(h:k<κ l){z n:Int}(hp:l[k]=⟨z,n⟩):hq l k n.toNat z=cR (l.take (k+1)):=by rw[en h,hp];simp[hq,cR]
theorem Bi(l:List bM)(k:Nat):cR (l.take k) <+:cR l:=by refine⟨cR (l.drop k),?_⟩;rw[cR,cR,<-gC,fH,cR]
theorem wO{l:List bM}(h:k<κ l){z n:Int}(hp:l[k]=⟨z,n⟩)(hj:j<=n.toNat):hq l k j z <+:cR l:=by
 refine List.IsPrefix.trans ?_ (Bi l (k+1));rw[<-oZ h hp];refine⟨((Aaj n.toNat).map (λi:Nat=>z+(i:Int))).drop j,?_⟩;rw[hq,Aa8,hq];congr 1;rw[<-p4,<-Aao];congr 1;conv=>rhs;rw[<-fH j (Aaj n.toNat)]
 simp_all
theorem Qv{a b:List α}{x:α}(h:a++[x] <+:b):κ a<κ b:=aQ
theorem oX:∀{l:List bM}{z:Int},cq z l=true->∀{k:Nat}(h:k<κ l){p:bM},l[k]=p->gu p=true
 | s::l,z,h,0,_,p,hp=>by simp only[cq,Abc]at h;simp at hp;rw[<-hp];exact h.1.1
 | s::l,z,h,k+1,hk,p,hp=>by simp only[cq,Abc]at h;exact oX h.2 (by simpa using hk) (by simpa using hp)
theorem OX{w:af}{x y:ah}{fr:Nat × Nat}(h:w.heap[B]?=some (.cells #[x,y] t fr)):w.cell? (ad B 0)=some x/\w.cell? (ad B 1)=some y:=by unfold Aco;simp_all
theorem wrap_small{z:Int}(h0:0<=z)(h1:z<100000):IntKind.i64.wrap z=z:=by obtain⟨k,rfl⟩:=iX h0;grind [aY]
theorem vz{z:Int}(h0:0<=z)(h1:z<100000):wrap64 z=z:=by unfold wrap64;omega
theorem ZQ(h:j<5000):i6 (wrap64 ((j:Int)+1))=i6 ((j+1:Nat):Int):=by grind [vz]
theorem aaE{pl:Int}(h:j<5000)(hj:(j:Int)<pl):pl.toNat-(Aat (i6 (wrap64 ((j:Int)+1)))).toNat<pl.toNat-(Aat (i6 (j:Int))).toNat:=by rw[vz ae ae];simp only[Aat];omega
def n9(n₀:Nat)(b:Nat)(t:Aab):Prop:=b<n₀\/t=139
theorem Hq(n:Nat)(hn:1<=n)(lp Bs n₀:Nat)(v:ah)(l:List bM)(J Jx:List Int->af->Prop)(W:af)(hJ:AbidesFrom W.heap.size J)(hY:∀pre x W1,J pre W1->pre++[x] <+:cx l->YieldAt Abw (n-1) Aag lp #[i6 x] W1 λe W'=>
  (e=.returned (.bool true)/\J (pre++[x]) W'/\cY (n9 n₀) W1 W')\/(e=.returned (.bool false)/\Jx (pre++[x]) W'))
 (au:W.cell? (ad Bs 0)=some v) (hv:dS W v l) (h0:J [] W) (aB:∀a m c,v=.slice (some a) m c->a.block<n₀):
 CallsIn Abw n Aag 264 #[.func (.yield lp) #[] #[],pz Bs] W λe W'=>(∃v,e=.returned v)/\
  ((∃ys,ys=cx l/\J ys W')\/(∃pre,pre <+:cx l/\Jx pre W')):=by
 have hlen:=hv.length_le;obtain⟨a,cap,rfl⟩:=hv.slice;have R:=an (f' W _ l hv);have aM:∀s A B,J s A->Up A B->J s B:=λs A B hs hu=>hJ s A B none hs (l6 hu) (λr e=>aQ);have HAL:=an aM;clear aM;obtain⟨g,hg⟩:=bK (cq (-1) l);rw[<-hg]at R;cases g
 ·have ab:=an (show cx l=[] from yU);clear hg;refine ue func264 rfl trivial ?_ rfl;simp only[ntmps264,Abh,Aal,Aa5,Nat.reduceAdd,Nat.reduceSub,Aa6,Aa7,Abj,Aa9,Aay,Aa2];gi_wp2_with(refine⟨trivial,?_⟩;gi_at_call 247;refine(fy.2 R).mono ?_;rintro e w1 ⟨rfl,up1⟩);refine kk (Adt rfl _ _ _) rfl ?_;exact⟨⟨_,rfl⟩,.inl ⟨_,ab.symm,HAL _ _ _ h0 up1⟩⟩
 have aH:cx l=cR l:=yU
 rw[aH]at hY ⊢;clear aH;replace hg:=an hg;refine ue func264 rfl trivial ?_ rfl;simp only[ntmps264,Abh,Aal,Aa5,Nat.reduceAdd,Nat.reduceSub,Aa6,Aa7,Abj,Aa9,Aay,Aa2];gi_wp2_with(refine⟨trivial,?_⟩;gi_at_call 247;refine(fy.2 R).mono ?_;rintro e w1 ⟨rfl,up1⟩;have ak:=up1.cell au);gi_loopw [11] (λi wr=>∃k:Nat,k<=κ l/\i=i6 k/\J (cR (l.take k)) wr/\cY (n9 n₀) W wr) (λi _=>κ l-(Aat i).toNat)
 case atStart=>exact⟨0,bE _,rfl,HAL _ _ _ h0 up1,jh up1⟩
 case round=>
  obtain⟨k,hk,rfl,aE,aj⟩:=hrel;by_cases hlt:k<κ l
  ·obtain⟨b,off,rfl,hbs,bd,hc⟩:=qv hv ae;have aD:=aB _ _ _ rfl;obtain⟨x0,x1⟩:=aA (aj.cell (a:=⟨b,off+k*2,none⟩) (λt=>.inl aD) (hc k hlt).1) (aj.cell (a:=⟨b,off+k*2+1,none⟩) (λt=>.inl aD) (hc k hlt).2);obtain⟨p,hp⟩:∃p:bM,l[k]=p:=⟨_,rfl⟩;rw[hp]at x0 x1;have HP:=an hp;obtain⟨ps,pl⟩:=p;simp only at x0 x1;have HS:=an (oX hg.symm hlt hp);refine iP ?_;intro b2;have HY:=an hY;have ao:=ai wr (.cells #[i6 ps,i6 pl] 139);have HN:=an (World.alloc_heap_new wr (.cells #[i6 ps,i6 pl] 139));clear hc hY hp hg;obtain⟨w8,aJ⟩:=bK (wr);subst aJ;gi_wp2;gi_loopw [17] (λi wr=>∃j:Nat,(j:Int)<=pl/\i=i6 j/\J (hq l k j ps) wr/\cY (n9 n₀) W wr/\wr.heap[w8.heap.size]?=some (.cells #[i6 ps,i6 pl] 139)) (λi _=>pl.toNat-(Aat i).toNat)
   case atStart=>have h1:=(dW _ _).1 HS;exact⟨0,ae,rfl,by rw[xG];exact HAL _ _ _ aE ao,aj.trans (jh ao),HN⟩
   case round=>
    obtain⟨j,hj,rfl,ax,al,hB⟩:=hrel;have h1:=(dW _ _).1 HS;obtain⟨c0,c1⟩:=OX hB;by_cases aC:(j:Int)<pl
    ·have ay:hq l k j ps++[ps+(j:Int)] <+:cR l:=by rw[<-k'];exact wO hlt HP ae
     obtain⟨fn,tmps,assign,body,hy,hR⟩:=HY _ (ps+(j:Int)) wr ax ay;have aI:IntKind.i64.wrap (ps+(j:Int))=ps+(j:Int):=wrap_small ae ae;obtain⟨ar,a1⟩:=aw (show j<5000 from ae) hB;clear hB h1;gi_wp2;refine hR.mono ?_;rintro e W3(⟨rfl,hJ3,ag⟩|⟨rfl,aa⟩)
     ·gi_wp2;go_roundw
      case rel=>exact⟨j+1,ae,ZQ ar,by rw[k'];exact hJ3,al.trans ag,ag _ _ _ _ a1 (.inr rfl)⟩
      case measure=>exact aaE ar aC
     ·gi_wp2;refine kk (Adt rfl _ _ _) rfl ?_;exact⟨⟨_,rfl⟩,.inr ⟨_,by rw[<-k'];exact wO hlt HP ae,aa⟩⟩
    ·obtain rfl:pl=(j:Int):=by omega
     clear hB h1;gi_wp2;go_roundw
     case rel=>exact⟨k+1,ae,aq,by have:=oZ hlt HP;rw[<-this];exact ax,al⟩
     case measure=>simp[Aat];omega
  ·obtain rfl:k=κ l:=by omega
   clear hY;gi_wp2;go_end0;exact⟨⟨_,rfl⟩,.inl ⟨_,rfl,by have:=aE;rw[fx]at this;exact this⟩⟩
end
section
open Go.Shelf
attribute [local go_sem] kr
theorem de(W:af)(v:ah)(t:Aab):(W.alloc (.cells #[v] t)).cell? ⟨W.heap.size,0,none⟩=some v/\(W.alloc (.cells #[v] t)).frozen? ⟨W.heap.size,0,none⟩=false:=aq
theorem bG{W:af}{v:ah}(o:Obj)(h:W.cell? a=some v):(W.alloc o).cell? a=some v:=lo h (yC W o none) (λr e=>aa)
theorem jx{W:af}{v:ah}(o:Obj)(h:W.cell? a=some v)(hf:W.frozen? a=false):(W.alloc o).frozen? a=false:=(frozen_kept h (yC W o none) (λr e=>aa)).trans hf
def zZ(n:Nat)(hn:1<=n)(Bs n₀:Nat)(v:ah)(l:List bM)(w:af)(au:Bs<w.heap.size)(hc:w.cell? ⟨Bs,0,none⟩=some v)(hv:dS w v l)(aB:∀a m c,v=.slice (some a) m c->a.block<n₀):SeqStopsK Abw n Aag 264 #[.pointer (some ⟨Bs,0,none⟩)] (λx:Int=>#[Acj .i64 x]) (cY (n9 n₀)) (λys=>ys=cx l) (λpre=>pre <+:cx l) (κ (cx l)) w:=λl' J Jx W hW hJ _ hY h0=>Hq n hn l' Bs n₀ v l J Jx W hJ (λpre x W1 hj hp=>hY pre x W1 hj (Qv hp)) ((hW.cell (p:=⟨Bs,0,none⟩) au).trans hc) (aI.up hv hW) h0 aB
def HG(xs:List Int)(n:Int):Bool:=match xs.find? (λk=>decide (n<=k))with
 | some k=>k==n
 | none=>false
theorem Px{xs:List Int}{n:Int}(h:∀y∈xs,y<n):HG xs n=false:=by grind [HG]
theorem Py{xs pre:List Int}{n x:Int}(h:∀y∈pre,y<n)(hx:n<=x)(hp:pre++[x] <+:xs):HG xs n=(x==n):=by grind [HG]
theorem IP(w:af)(v:ah)(l:List bM)(hv:dS w v l)(hb:∀a m c,v=.slice (some a) m c->a.block<w.heap.size)(n:Int):Aae Aag 281 #[v,i6 n] w λe w'=>LJ (HG (cx l) n) w e w':=by
 obtain⟨a,cap,rfl⟩:=hv.slice;refine q6 ?_;intro h1;refine oD func281 rfl trivial ?_ rfl;simp only[ntmps281,Abh,Aal,Aa5,Nat.reduceAdd,Nat.reduceSub,Aa6,Aa7,Abj,Aa9,Aay,Aa2];gi_wp2_with(refine⟨trivial,?_⟩;gi_at_call 228;refine(fy.2 (tI _ _ _ _)).mono ?_;rintro e w' ⟨rfl,rfl⟩);obtain⟨c0,c1,c2⟩:=db (de w (i6 n) 3) (de (w.alloc (.cells #[i6 n] 3)) (.bool false) 4) (de ((w.alloc (.cells #[i6 n] 3)).alloc (.cells #[.bool false] 4)) (.slice a (κ l) cap) 63);simp only[Aa3]at c1 c2;have ag:Below w.heap.size w (((w.alloc (.cells #[i6 n] 3)).alloc (.cells #[.bool false] 4)).alloc (.cells #[.slice a (κ l) cap] 63)):=(((eZ _ w).alloc (aG _) _).alloc aq _).alloc ab _;refine wi (F:=Abw) rfl h1 (gf:=264) (lb:=#[pz (w.heap.size+1+1)]) rfl trivial (enters_of func264 ay rfl) (zZ 5 ae (w.heap.size+1+1) w.heap.size _ l _ aq c2.1 (aI.up hv ag) hb) cY.trans jD (eZ _ _) (λ_=>rfl) (λpre W=>((∀y∈pre,y<n)/\W.cell? (ad w.heap.size 0)=some (i6 n)/\W.cell? (ad (w.heap.size+1) 0)=some (.bool false)/\W.frozen? ⟨w.heap.size+1,0,none⟩=false)/\Below w.heap.size w W) (λc pre W=>(c=.ret/\(∃pr x,pre=pr++[x]/\(∀y∈pr,y<n)/\n<=x/\W.cell? (ad (w.heap.size+1) 0)=some (.bool (x==n))))/\Below w.heap.size w W) (nH (Own.from (λs A B row hs hg hr=>⟨hs.1,lo hs.2.1 hg hr,lo hs.2.2.1 hg hr,(frozen_kept hs.2.2.1 hg hr).trans hs.2.2.2⟩) _) (oE (aG _) ab)) (λc=>nH (Own.from (λs A B row hs hg hr=>⟨hs.1,Tj⟩) _) (oE (aG _) ab)) ⟨⟨aq,bG _ (bG _ c0.1),bG _ c1.1,jx _ c1.1 c1.2⟩,ag⟩ (λx=>{tmps:=#[.slice a (κ l) cap,i6 n,Aar,pz w.heap.size,pz (w.heap.size+1),i6 x,.slice a (κ l) cap,.func (.func 264) #[] #[pz (w.heap.size+1+1)],i6 x,Aar,Aar,Aar,Aar,Aar,Aar],defers:=[]}) ?assign ?body ?done ?stop
 case assign=>exact lH
 case body=>
  rintro l' pre x W⟨⟨hp,aa,hcr,au⟩,hB⟩_;by_cases hx:n<=x
  ·gi_wp2;exact⟨p7 _ _ _,⟨rfl,pre,x,rfl,hp,hx,yD _ _ _ aQ⟩,hB.setCell (p:=⟨w.heap.size+1,0,none⟩) aq _⟩
  ·gi_wp2;exact⟨KeepsOthers.refl _,cY.refl _,⟨λy hy=>(eT.1 hy).elim (hp y) (λe=>aQ),aa,hcr,au⟩,hB⟩
 case done=>rintro D ys W hD rfl⟨⟨hne,_,hcr,au⟩,hB⟩hK;gi_wp2;have hK':=(p7 W ⟨w.heap.size+1,0,none⟩ (.bool false)).same D _ hK rfl;refine⟨aq,.inl ⟨_,_,rfl,E0 hK',?_⟩⟩;have ao:=lo (yD W ⟨w.heap.size+1,0,none⟩ (.bool false) aQ) (yE _ D (.deferred none)) (λr e=>by cases e;exact⟨_,hK',rfl⟩);refine⟨.bool false,?_,by rw[Px hne],(hB.setCell (p:=⟨w.heap.size+1,0,none⟩) aq _).trans (oF (w:=w) (aG _) _ D _ _ p9 hK' rfl rfl)⟩;simp[results,Tryz.f281,go_sem,ao]
 case stop=>rintro D c pre W hD aj⟨⟨rfl,pr,x,rfl,ax,hx,hcr⟩,hB⟩hK;gi_wp2;refine Nx ?_;intro ao;refine⟨.bool (x==n),?_,by rw[(Py ax hx aj)],hB.trans (oF (w:=w) (aG _) W D _ _ p9 hK rfl rfl)⟩;simp[results,Tryz.f281,go_sem,ao]
end
theorem sU{l:List bM}(h:k<κ l){z n:Int}(hp:l[k]=⟨z,n⟩):κ (cR (l.take (k+1)))=κ (cR (l.take k))+n.toNat:=by rw[<-oZ h hp];simp[hq]
theorem CE(w:af)(v:ah)(l:List bM)(hv:dS w v l):Aae Aag 227 #[v] w λe w'=>e=.returned (i6 (κ (cx l):Int))/\Up w w':=by
 have hlen:=hv.length_le;obtain⟨a,cap,rfl⟩:=hv.slice;have R:=an (f' w _ l hv);obtain⟨g,hg⟩:=bK (cq (-1) l);rw[<-hg]at R;cases g
 ·have ab:=an (show(cx l).length=0 from yU);clear hg;go_in;go_wp2_with fail;refine R.mono ?_;rintro e w1⟨rfl,up1⟩;go_wp2;go_ret;exact⟨by rw[ab.out]<;>rfl,up1⟩
 have aH:=an (show cx l=cR l from yU);replace hg:=an hg;go_in;go_wp2_with fail;refine R.mono ?_;rintro e w1⟨rfl,up1⟩;go_wp2;go_loopw [3,11] (λm i wr=>∃k q:Nat,∃z:Int,k<=κ l/\i=i6 k/\m=i6 q/\q=κ (cR (l.take k))/\cq z (l.drop k)=true/\(q:Int)<=z+1/\z<=4096/\Up w wr) (λ_ i _=>κ l-(Aat i).toNat)
 case atStart=>exact⟨0,0,-1,bE _,rfl,rfl,rfl,hg.symm,ae,ae,up1⟩
 case round=>
  obtain⟨k,q,z,hk,rfl,rfl,hq,ad,hz1,az,upr⟩:=hrel;have HQ:=an hq;clear hq;by_cases hlt:k<κ l
  ·obtain⟨b,off,rfl,hbs,bd,hc⟩:=qv (aI.up hv upr) ae;obtain⟨x0,x1⟩:=aA ((hc k hlt).1) ((hc k hlt).2);obtain⟨p,hp⟩:∃p:bM,l[k]=p:=⟨_,rfl⟩;rw[hp]at x0 x1;have hd:l.drop k=p::l.drop (k+1):=by rw[<-hp];exact(List.getElem_cons_drop hlt).symm
   have hs:=ad;rw[hd]at hs;obtain⟨ps,pl⟩:=p;simp only[cq,Abc,decide_eq_true_eq]at hs;obtain⟨⟨aR,av⟩,al⟩:=hs;obtain⟨j,rfl⟩:∃j:Nat,pl=(j:Int):=⟨pl.toNat,by have:=(dW _ _).1 aR;omega⟩;obtain⟨ao,ak,aa⟩:=vh aR;have ag:q+j<5000:=ae
   have aC:((q+j:Nat):Int)<=ps+(j:Int)+1:=ae
   have t2:IntKind.i64.wrap ((q:Int)+(j:Int))=((q+j:Nat):Int):=by rw[show(q:Int)+(j:Int)=((q+j:Nat):Int)from ae];exact aY _ ae
   refine iP ?_;intro b2;simp only at x0 x1;have CC:=dg wr #[i6 ps,i6 (j:Int)] 139 (0,0);obtain⟨c0,c1⟩:=aA (CC 0 _ rfl) (CC 1 _ rfl);go_wp2_with fail;go_roundw
   case rel=>exact⟨k+1,q+j,ps+j,ae,aq,ay,by rw[sU hlt hp,<-HQ.out];simp,al,aC,aa,upr.alloc _⟩
   case measure=>simp[Aat];omega
  ·obtain rfl:k=κ l:=by omega
   have ai:=HQ.out;rw[fx]at ai;have HL:=an (show(cx l).length=q by rw[aH.out,ai]);go_wp2;go_ret;exact⟨by rw[HL.out]<;>rfl,upr⟩
section
open Go.Shelf
attribute [local go_sem] kr
theorem xW{W w1:af}{n₀ B:Nat}{size k:Nat}{v v':ah}{xs:List ah}{tmp:Obj}(hv:Boxed W B t v)(aj:W.ownsRow n₀ e size v k xs)(hp:∀b,n₀<=b->¬p b t/\¬p b e)(hB:n₀<=B)(aa:(W.alloc tmp).grownBy w1 v.ownBlock):cY p W (w1.setCell ⟨B,0,none⟩ v'):=λb cs t' fr hb az=>by
 have hlt:b<W.heap.size:=by exact M4
 have hne:b≠B:=λe1=>by subst e1;rw[hv]at hb;cases hb;exact(hp _ hB).1 az
 have ao:some b≠v.ownBlock:=λe1=>by
  rcases aj.2 with⟨rfl,_⟩|⟨g,cap,cur,rfl,hg,bw,_⟩
  ·simp[Aan]at e1
  ·obtain rfl:b=g:=by simpa[Aan]using e1
   rw[bw]at hb;cases hb;exact(hp _ hg).2 az
 show(w1.heap.modify B _)[b]?=_;rw[EI,aM (λe=>hne e.symm),((aa.block b ab ao).trans (Below.heap_alloc W tmp b hlt)),hb]
theorem Dr:∀{l:List bM}{z:Int},cq z l=true->z<=4096->(κ (cR l):Int)<=4096-z
 | [],z,_,h=>by simp[cR];omega
 | ⟨a,n⟩::l,z,h,hz=>by simp only[cq,Abc,decide_eq_true_eq]at h;have h1:=(dW _ _).1 h.1.1;have h2:=Dr h.2 ae;rw[cR,Abg,Aaf,<-cR,Aad,Acx];simp only at h h1 h2 ⊢;omega
theorem HY(l:List bM):κ (cx l)<=4097:=by
 unfold cx;split
 ·have:=Dr cm ae;omega
 ·simp
theorem qQ:(prog.info? 3).map (λi=>(i.zero,i.size,i.bytes))=some (some (i6 0),1,8):=av
theorem vj(w:af)(v:ah)(l:List bM)(hv:dS w v l)(hb:∀a m c,v=.slice (some a) m c->a.block<w.heap.size):Aae Aag 163 #[v] w λe w'=>∃u,e=.returned u/\Own bz 3 w' w.heap.size u (cx l)/\Up w w':=by
 obtain⟨a,cap,rfl⟩:=hv.slice;obtain⟨i0,hi,hz0,hz1,az⟩:=jF qQ;have C:=an (CE w _ l hv);have hT:=HY l;obtain⟨T,aw⟩:=bK (κ (cx l));rw[<-aw]at C hT;have aB:=an aw;clear aw;have MK:∀W:af,(Ach 41 (i6 0) (i6 (T:Int))).run Aag W=_:=λW=>kH (P:=Aag) 41 3 (i6 0) 8 underlying41 qQ T ae ae W;refine q6 ?_;intro h1;refine oD func163 rfl trivial ?_ rfl;simp only[ntmps163,Abh,Aal,Aa5,Nat.reduceAdd,Nat.reduceSub,Aa6,Aa7,Abj,Aa9,Aay,Aa2];gi_wp2_with(refine⟨trivial,?_⟩;first|(gi_at_call 228;refine(fy.2 (tI _ _ _ _)).mono ?_;rintro e w' ⟨rfl,rfl⟩)|(gi_at_call 227;refine(fy.2 C).mono ?_;rintro e w1 ⟨rfl,up1⟩));obtain⟨bO,bN⟩:=aA (Boxed.new (w1.alloc (.cells (j2 (i6 0) T) 3)) 41 (cv w1.heap.size 0 T)) (Boxed.new ((w1.alloc (.cells (j2 (i6 0) T) 3)).alloc (.cells #[cv w1.heap.size 0 T] 41)) 63 (.slice a (κ l) cap));have ai:(w1.alloc (.cells (j2 (i6 0) T) 3)).ownsRow w1.heap.size 3 1 (cv w1.heap.size 0 T) 0 []:=AO w1 _ T (aG _) dE (by rw[rJ,Nat.mul_one]);simp only[Aa3]at bO bN;have ag:Below w1.heap.size w1 (((w1.alloc (.cells (j2 (i6 0) T) 3)).alloc (.cells #[cv w1.heap.size 0 T] 41)).alloc (.cells #[.slice a (κ l) cap] 63)):=(((eZ _ w1).alloc (aG _) _).alloc aq _).alloc ab _;refine E1 (F:=Abw) rfl h1 (gf:=264) (lb:=#[pz (w1.heap.size+1+1)]) rfl trivial (enters_of func264 ay rfl) (zZ 5 ae (w1.heap.size+1+1) w1.heap.size _ l _ aq bN.cell ((aI.up hv up1).up ag) (λa m c h=>eg (hb a m c h) up1.size)) cY.trans jD (eZ _ _) (λ_=>rfl) (λpre W=>(∃v,Boxed W (w1.heap.size+1) 41 v/\W.ownsRow w1.heap.size 3 1 v (κ pre) (pre.map bz)/\True)/\Below w1.heap.size w1 W) (λ_ _ _=>False) (nH (Own.from (holdsRow_own w1.heap.size (w1.heap.size+1) 41 3 1 (λpre:List Int=>κ pre) (λpre=>pre.map bz) (λ_ _=>True)) _) (oE (aG _) ab)) (λ_ _ _ _ _ hs _ _=>hs) ⟨⟨_,bO.alloc _,(sy (sy ai (yC _ _ none) (.inr wq)) (yC _ _ none) (.inr wq)),trivial⟩,ag⟩ (λx=>{tmps:=#[.slice a (κ l) cap,Aar,nl,pz (w1.heap.size+1),i6 x,.slice a (κ l) cap,i6 T,cv w1.heap.size 0 T,.slice a (κ l) cap,.func (.func 264) #[] #[pz (w1.heap.size+1+1)],i6 x,Aar,Aar,Aar,Aar,Aar],defers:=[]}) ?assign ?body ?done ?stop
 case assign=>exact lH
 case body=>
  rintro l' pre x W⟨⟨v,hv,aj,_⟩,hB⟩hlt;have hc:=hv.cell;have aU:κ pre<=4100:=dL
  have au:=hB.size;gi_wp2_with(gi_at_builtin;refine wpListIn_append_own _ rfl _ _ 41 rfl w1.heap.size 3 i0 (i6 0) 1 8 underlying41 hi hz0 hz1 az rfl ax _ _ _ rfl (aj.alloc _) ⟨W.heap.size,0,none⟩ 1 1 [i6 x] rfl rfl (cell_one_new _ _ _) Fi dE ae ab ?_;intro v' w2 ad aa _;obtain⟨g',av,rfl⟩:=ownsRow_succ ad;have ak:=xW (p:=n9 w1.heap.size) (v':=cv g' (κ pre+1) av) hv aj (λb hb=>⟨λh=>h.elim (λh=>ae) ax,λh=>h.elim (λh=>ae) ax⟩) ae aa;obtain⟨aC,ao,aO,ar,hb2⟩:=hv.appended ax aj au ae ad aa;have al:=aC.cell;have aD:=aC.frozen);exact⟨ar.from _,ak,⟨_,ao,by simpa[bz]using aO,trivial⟩,hB.trans hb2⟩
 case done=>rintro D ys W hD rfl⟨⟨v,hv,aj,_⟩,hB⟩hK;have hc:=hv.cell;gi_wp2;refine za ?_;refine⟨_,sD rfl _ _ _,v,rfl,Own.mono (ownsRow_putObj aj _ hK rfl) up1.size,up1.aE (hB.trans (oF (w:=w1) (aG _) W D _ _ p9 hK rfl rfl)) up1.size⟩
 case stop=>simp
end
def a7(w:af)(b n:Nat)(t:Aab)(f:Nat->ah):Prop:=∃C,aH w b t C/\C.size=n/\∀i,i<n->C[i]?=some (f i)
section
variable {w w':af} {b n:Nat} {t:Aab} {f:Nat->ah}
theorem a7.cell(h:a7 w b n t f){i:Nat}(hi:i<n):w.cell? ⟨b,i,none⟩=some (f i):=by obtain⟨C,h1,_,h3⟩:=h;rw[h1.cell,h3 i hi]
theorem a7.free(h:a7 w b n t f)(i:Nat):w.frozen? ⟨b,i,none⟩=false:=by obtain⟨C,h1,_,_⟩:=h;exact h1.free i
theorem a7.lt(h:a7 w b n t f):b<w.heap.size:=by obtain⟨C,h1,_,_⟩:=h;exact h1.lt
theorem a7.up(h:a7 w b n t f)(hu:Up w w'):a7 w' b n t f:=by obtain⟨C,h1,h2⟩:=h;exact⟨C,h1.up hu,h2⟩
theorem a7.grown(h:a7 w b n t f){row:Option Nat}(hg:w.grownBy w' row)(hne:row≠some b):a7 w' b n t f:=by obtain⟨C,h1,h2⟩:=h;exact⟨C,h1.grown hg hne,h2⟩
theorem a7.set(h:a7 w b n t f){i:Nat}(hi:i<n)(v:ah):a7 (w.setCell ⟨b,i,none⟩ v) b n t (λk=>if k=i then v else f k):=by obtain⟨C,h1,h2,h3⟩:=h;refine⟨_,h1.setCell i v,ab,λk hk=>?_⟩;grind
theorem a7.congr(h:a7 w b n t f){g:Nat->ah}(hg:∀i,i<n->f i=g i):a7 w b n t g:=by obtain⟨C,h1,h2,h3⟩:=h;exact⟨C,h1,h2,λi hi=>aa⟩
theorem a7.new(w:af)(t:Aab)(n:Nat)(v:ah):a7 (w.alloc (.cells (Aac n v).toArray t)) w.heap.size n t (λ_=>v):=⟨_,aH.new w t _,aq,λi hi=>aa⟩
end
def pr(w:af)(b:Nat)(f:Nat->Bool):Prop:=a7 w b 4096 212 (λi=>.bool (f i))
def noBits:Array ah:=(Aac 4096 (Value.bool false)).toArray
theorem wZ:∀W:af,(Ab9 212).run Aag W=.ok (.agg noBits) W:=(lq (P:=Aag) (t:=212) (v:=.agg noBits) (n:=4096) av).1
section
variable {α:Type} {f:α->List ah} {k:Nat}
theorem w'(hw:hL f k):∀(l:List α)(i:Nat)(hi:i<κ l)(j:Nat)(u:ah)(x:α),j<k->f x=(f l[i]).set j u->(l.set i x).flatMap f=(l.flatMap f).set (i*k+j) u
 | y::l,0,_,j,u,x,hj,hx=>by simp only[List.set_cons_zero,Abg,Nat.zero_mul,Abr];rw[List.set_append_left _ _ (by rw[hw.len];exact hj),hx];rfl
 | y::l,i+1,hi,j,u,x,hj,hx=>by simp only[List.set_cons_succ,Abg];rw[yF _ _ (by rw[hw.len,vZ];omega),hw.len,show(i+1)*k+j-k=i*k+j from by rw[vZ];omega];rw[w' hw l i AY j u x hj hx]
theorem ak.setCell(hw:hL f k){e:Aab}{w:af}{base g n cap:Nat}{xs:List α}(h:ak f k e w base (.slice (some ⟨g,0,none⟩) n cap) xs)(i j:Nat)(hi:i<κ xs)(hj:j<k)(x:α)(u:ah)(hx:f x=(f xs[i]).set j u):ak f k e (w.setCell ⟨g,i*k+j,none⟩ u) base (.slice (some ⟨g,0,none⟩) n cap) (xs.set i x):=by
 obtain⟨h1,h2⟩:=h;refine⟨?_,?_⟩
 ·rw[hw.flat]
 ·rcases h2 with⟨h3,_⟩|⟨g',av,cur,h3,h4,h5,h6,h7,h8,h9⟩
  ·simp at h3
  ·simp at h3;obtain⟨rfl,rfl,rfl⟩:=h3;refine .inr ⟨g,cap,cur.setIfInBounds (i*k+j) u,aq,h4,aH.setCell (show aH w g e cur from h5) _ _,ab,h7,ab,?_⟩;rw[Aaz,Abl,w' hw xs i hi j u x hj hx,<-h9,List.take_set]
theorem ak.shape{e:Aab}{w:af}{base:Nat}{v:ah}{xs:List α}(h:ak f k e w base v xs)(h0:0<κ xs):∃g cap,v=.slice (some ⟨g,0,none⟩) (κ xs) cap/\base<=g/\g<w.heap.size/\(κ xs)<=cap/\∀i,w.frozen? ⟨g,i,none⟩=false:=by
 obtain⟨h1,h2⟩:=h;rcases h2 with⟨_,h3⟩|⟨g,cap,cur,h3,h4,h5,h6,_⟩
 ·omega
 ·have hb:aH w g e cur:=h5;exact⟨g,cap,h3,h4,hb.lt,h6,λi=>hb.free i⟩
end
def rL(l:List bM)(n:Nat):List bM:=match l.getLast? with
 | some s=>if s.st+s.len=(n:Int)then l.set (κ l-1) ⟨s.st,s.len+1⟩ else l++[⟨n,1⟩]
 | none=>l++[⟨n,1⟩]
def aB(f:Nat->Bool):Nat->List bM
 | 0=>[]
 | n+1=>if f n=true then rL (aB f n) n else aB f n
theorem R2{l:List bM}(h:∀s∈l,0<=s.st/\1<=s.len/\s.st+s.len<=(n:Int)):∀s∈rL l n,0<=s.st/\1<=s.len/\s.st+s.len<=((n+1:Nat):Int):=by grind [rL,bM]
theorem ny(f:Nat->Bool):∀n,∀s∈aB f n,0<=s.st/\1<=s.len/\s.st+s.len<=(n:Int)
 | 0,s,hs=>by simp[aB]at hs
 | n+1,s,hs=>by
  unfold aB at hs;split at hs
  ·exact R2 (ny f n) s hs
  ·have:=ny f n s hs;omega
theorem G2(l:List bM)(n:Nat):κ (rL l n)<=κ l+1:=by grind [rL]
theorem gG(f:Nat->Bool):∀n,κ (aB f n)<=n
 | 0=>by simp[aB]
 | n+1=>by
  unfold aB;have:=gG f n;split
  ·have:=G2 (aB f n) n;omega
  ·omega
theorem CM{l:List bM}(h:m<κ l)(hm:κ l=m+1){p:bM}(hp:l[m]=p):l.getLast?=some p:=aQ
theorem Wm{l:List bM}(h:m<κ l)(hm:κ l=m+1){p:bM}(hp:l[m]=p)(he:p.st+p.len=(n:Int)):rL l n=l.set m ⟨p.st,p.len+1⟩:=by grind [rL,CM]
theorem Wn{l:List bM}(h:m<κ l)(hm:κ l=m+1){p:bM}(hp:l[m]=p)(he:p.st+p.len≠(n:Int)):rL l n=l++[⟨n,1⟩]:=by grind [rL,CM]
theorem vU:(prog.info? 139).map (λi=>(i.zero,i.size,i.bytes))=some (some (.agg #[.int .i64 0,.int .i64 0]),2,16):=av
theorem Vz(w:af)(b:Nat)(hb:b=w.heap.size)(z n:Int):dS (w.alloc (.cells #[.int .i64 z,.int .i64 n] 139)) (.slice (some ⟨b,0,none⟩) 1 1) [⟨z,n⟩]:=aI.er w b hb _ _ _ _ 1 rfl ax rfl
theorem DO(w:af)(b:Nat)(f:Nat->Bool)(hb:pr w b f):Aae Aag 123 #[pz b] w λe w'=> ∃v,e=.returned v/\hV w' w.heap.size v (aB f 4096)/\Up w w':=by
 go_in;go_wp2_with fail;go_loopw [3,8] (λv i wr=>∃k:Nat,k<=4096/\i=i6 k/\hV wr w.heap.size v (aB f k)/\Up w wr) (λ_ i _=>4096-(Aat i).toNat)
 case atStart=>exact⟨0,bE _,rfl,ak.nil _ _ _ _ _,Up.refl _⟩
 case round=>
  obtain⟨k,hk,rfl,aj,upr⟩:=hrel;have ao:=an aj;clear aj;by_cases hlt:k<4096
  ·have x0:=dR ((hb.up upr).cell hlt);have b2:((k:Int)<4096)=True:=by simp;omega
   cases hf:f k
   ·have hs:=an (show aB f (k+1)=aB f k by simp[aB,hf]);rw[hf]at x0;clear hf;go_wp2_with fail;refine g' ?_;repeat(go_big_quiet_step (fail))
    refine yY ?_;intro w4 d os hw4 up4;clear hw4 x0;go_wp2_with fail;go_roundw
    case rel=>exact⟨k+1,ae,aq,by rw[hs.out];exact ao.up up4,upr.trans up4⟩
    case measure=>simp[Aat];omega
   ·obtain⟨hs,ag⟩:=aw (show aB f (k+1)=rL (aB f k) k by simp[aB,hf]) (ny f k);have hl:=gG f k;rw[hf]at x0;clear hf;generalize aB f k=ls at *;obtain⟨a,cap,rfl⟩:=(ao.row BV).slice;by_cases h0:κ ls=0
    ·obtain rfl:ls=[]:=oz.1 h0;simp only[Aa5]at ao hl h0 ⊢;go_wp2_with fail;refine g' ?_;repeat(go_big_quiet_step (fail))
     refine yY ?_;intro w4 d os hw4 up4;clear hw4 x0;go_wp2_with fail;refine g' ?_;repeat(go_big_quiet_step (fail))
     refine FK ?_;intro w5 d os aJ al;clear aJ;have ad:=up4.trans al;obtain⟨ah,aD⟩:=aA (ao.up ad) ((upr.trans ad).size);have n1:(κ ([]:List bM) + [(⟨(k:Int),1⟩:bM)].length)*16<=140737488355328:=aq
     have n2:κ ([]:List bM) + [(⟨(k:Int),1⟩:bM)].length<=9223372036854775807:=aq
     have n3:w.heap.size<=(w5.alloc (.cells #[i6 (k:Int),i6 1] 139)).heap.size:=ab
     go_wp2_with(at_builtin;refine bI BV rfl (.tmp 44) (.tmp 47) 63 rfl w.heap.size 139 (.agg #[i6 0,i6 0]) 16 underlying63 vU rfl _ [] rfl (ah.up (ai _ _)) (cv w5.heap.size 1 1) [⟨(k:Int),1⟩] rfl (Vz _ _ rfl k 1) n1 n2 n3 ?_);intro v6 w6 aa aT aU;go_wp2_with fail;go_roundw
     case rel=>exact⟨k+1,ae,aq,by rw[hs.out];exact aa,(upr.trans (ad.trans (ai _ _))).aE aU (aG _)⟩
     case measure=>simp[Aat];omega
    ·obtain⟨g,az,aR,bk,ax,hg4,au⟩:=ao.shape ae;simp only[Abp,true_and]at aR;obtain⟨rfl,rfl⟩:=aR;obtain⟨m,hm⟩:∃m,κ ls=m+1:=⟨κ ls-1,ae⟩;have av:m<κ ls:=by omega
     obtain⟨p,hp⟩:∃p:bM,ls[m]=p:=⟨_,rfl⟩;have aS:=ag p aQ;have HP:=an hp;obtain⟨z,n⟩:=p;simp only at aS;obtain⟨hz,hn,hzn⟩:=aS;obtain⟨z,rfl⟩:=iX hz;obtain⟨n,rfl⟩:=iX (show 0<=n from ae);obtain⟨b9,aL,aI,_,_,aF⟩:=qv (ao.row BV) ae;simp only[Aai,Abd,and_true]at aI;obtain⟨rfl,rfl⟩:=aI;obtain⟨c0,c1⟩:=aA ((aF m av).1) ((aF m av).2);rw[hp]at c0 c1;simp only[Abr]at c0 c1;have aK:z+n<=k:=ae
     clear aF hp hz hn hzn;have t0:decide ((0:Int)<=(m:Int))=true:=aq
     have t1:IntKind.i64.wrap ((κ ls:Int)-1)=(m:Int):=by rw[show(κ ls:Int)-1=(m:Int)from ae];exact aY m ae
     have t2:((m:Int)<(κ ls:Int))=True:=ab
     have t3:IntKind.i64.wrap ((z:Int)+(n:Int))=((z+n:Nat):Int):=by rw[show(z:Int)+(n:Int)=((z+n:Nat):Int)from ae];exact aY _ ae
     have t4:IntKind.i64.wrap ((n:Int)+1)=((n+1:Nat):Int):=by rw[show(n:Int)+1=((n+1:Nat):Int)from ae];exact aY _ ae
     by_cases he:z+n=k
     ·have t5:((z:Int)+(n:Int)==(k:Int))=true:=by simp;omega
      have HA:=an (Wm (l:=ls) (n:=k) av hm HP (show(z:Int)+(n:Int)=(k:Int)from ae));clear he hm;go_wp2_with fail;refine g' ?_;repeat(go_big_quiet_step (fail))
      refine Uo ?_;clear x0;intro w4 d os up4 y0 y1;go_wp2_with fail;refine g' ?_;repeat(go_big_quiet_step (fail))
      refine FK ?_;intro w5 d os aJ al;clear aJ y0 y1;have ad:=up4.trans al;obtain⟨ah,aD,d0,d1⟩:=iJ (ao.up ad) ((upr.trans ad).size) (ad.cell c0) (ad.cell c1);obtain⟨g6,aH,ar,_,_,_,aC⟩:=ah.shape ae;simp only[Abp,Aai,Abd,true_and,and_true]at ar;obtain⟨rfl,rfl⟩:=ar;have f1:=aC (m*2+1);clear aC;go_wp2_with fail;go_roundw
      case rel=>exact⟨k+1,ae,aq,by rw[hs.out,HA.out];exact ah.setCell BV m 1 av ae ⟨z,(n:Int)+1⟩ _ sJ,(upr.trans ad).setCell bk _⟩
      case measure=>simp[Aat];omega
     ·have t5:((z:Int)+(n:Int)==(k:Int))=false:=by simp;omega
      have HA:=an (Wn (l:=ls) (n:=k) av hm HP (show(z:Int)+(n:Int)≠(k:Int)from ae));clear he hm;go_wp2_with fail;refine g' ?_;repeat(go_big_quiet_step (fail))
      refine Uo ?_;clear x0;intro w4 d os up4 y0 y1;go_wp2_with fail;refine g' ?_;repeat(go_big_quiet_step (fail))
      refine FK ?_;intro w5 d os aJ al;clear aJ y0 y1;have ad:=up4.trans al;obtain⟨ah,aD⟩:=aA (ao.up ad) ((upr.trans ad).size);have n1:(κ ls + [(⟨(k:Int),1⟩:bM)].length)*16<=140737488355328:=ab
      have n2:κ ls + [(⟨(k:Int),1⟩:bM)].length<=9223372036854775807:=ae
      have n3:w.heap.size<=(w5.alloc (.cells #[i6 (k:Int),i6 1] 139)).heap.size:=ab
      go_wp2_with(at_builtin;refine bI BV rfl (.tmp 44) (.tmp 47) 63 rfl w.heap.size 139 (.agg #[i6 0,i6 0]) 16 underlying63 vU rfl _ ls rfl (ah.up (ai _ _)) (cv w5.heap.size 1 1) [⟨(k:Int),1⟩] rfl (Vz _ _ rfl k 1) n1 n2 n3 ?_);intro v6 w6 aa aT aU;go_wp2_with fail;go_roundw
      case rel=>exact⟨k+1,ae,aq,by rw[hs.out,HA.out];exact aa,(upr.trans (ad.trans (ai _ _))).aE aU (aG _)⟩
      case measure=>simp[Aat];omega
  ·obtain rfl:k=4096:=by omega
   go_wp2_with fail;go_ret;exact⟨_,rfl,ao,upr⟩
def rU(l:List Int)(i:Nat):Bool:=decide ((i:Int)∈l)
def jV(l:List Int):List bM:=aB (rU l) 4096
theorem X5(l:List Int)(k:Nat)(h:k<κ l)(i:Nat):rU (l.take (k+1)) i=(rU (l.take k) i || decide ((i:Int)=l[k])):=by
 unfold rU;have e:(i:Int)∈l.take (k+1)↔(i:Int)∈l.take k\/(i:Int)=l[k]:=by rw[en h,eT,kl]
 simp_all
theorem s'(w:af)(v:ah)(l:List Int)(hv:aD bz w v l):Aae Aag 62 #[v] w λe w'=> ∃u,e=.returned u/\hV w' w.heap.size u (jV l)/\Up w w':=by
 have hlen:=hv.length_le;obtain⟨a,cap,rfl⟩:=hv.slice;go_in;go_wp2_with refine bD 212 wZ ?_;go_loopw [8] (λi wr=>∃k:Nat,k<=κ l/\i=i6 k/\pr wr w.heap.size (rU (l.take k))/\Up w wr) (λi _=>κ l-(Aat i).toNat)
 case atStart=>exact⟨0,bE _,rfl,a7.congr (a7.new w _ 4096 (.bool false)) (λi _=>ay),ai _ _⟩
 case round=>
  obtain⟨k,hk,rfl,aa,upr⟩:=hrel;have HB:=an aa;by_cases hlt:k<κ l
  ·obtain⟨b,off,rfl,hbs,hc⟩:=cg (aD.up hv upr) rfl ae;have x0:=hc k hlt;refine iP ?_;intro b2;have hT:=an (X5 l k hlt);generalize l[k]=x at *;unfold bz at x0;clear hc;by_cases h1:0<=x
   ·by_cases h2:x<4096
    ·obtain⟨n,rfl⟩:=iX h1;have hn:n<4096:=by omega
     obtain⟨c0,f0⟩:=aA (HB.cell hn) (HB.free n);have b3:((n:Int)<4096)=True:=ab
     go_wp2_with fail;go_roundw
     case rel=>exact⟨k+1,ae,aq,a7.congr (HB.set hn (.bool true)) (λi hi=>by rw[hT.out i];by_cases e:i=n<;>simp[e];intro h;omega),upr.setCell (aG _) _⟩
     case measure=>simp[Aat];omega
    ·refine NT ?_;intro hS;go_wp2_with fail;go_roundw
     case rel=>exact⟨k+1,ae,aq,hS,upr⟩
     case measure=>simp[Aat];omega
   ·refine NT ?_;intro hS;go_wp2_with fail;go_roundw
    case rel=>exact⟨k+1,ae,aq,hS,upr⟩
    case measure=>simp[Aat];omega
  ·obtain rfl:k=κ l:=by omega
   have aI:=HB.out;rw[fx]at aI;have S:=an (DO wr w.heap.size _ aI);go_wp2_with fail;refine S.mono ?_;rintro e w1⟨u,rfl,own,up1⟩;go_wp2_with fail;go_ret;exact⟨_,rfl,own.mono upr.size,upr.trans up1⟩
section
open Go.Shelf
attribute [local go_sem] kr
abbrev Num:={x:Int // 0<=x/\x<4096}
theorem uR:∀{l:List bM}{z:Int},cq z l=true->∀x∈cR l,0<=x/\x<4096
 | [],_,_,x,hx=>by simp[cR]at hx
 | s::l,z,h,x,hx=>by
  simp only[cq,Abc]at h;have h1:=(dW s.st s.len).1 h.1.1;rw[cR,Abg]at hx;rcases eT.1 hx with hx|hx
  ·obtain⟨k,hk,rfl⟩:=Abf.1 hx;have:=uf.1 hk;omega
  ·exact uR h.2 x hx
theorem xk(l:List bM)(x:Int)(hx:x∈cx l):0<=x/\x<4096:=by
 unfold cx at hx;split at hx
 ·exact uR cm x hx
 ·cases hx
theorem xb(n:Nat)(hn:1<=n)(Bs n₀:Nat)(v:ah)(l:List bM)(w:af)(au:Bs<w.heap.size)(hc:w.cell? (ad Bs 0)=some v)(hv:dS w v l)(aB:∀a m c,v=.slice (some a) m c->a.block<n₀):SeqStopsK Abw n Aag 264 #[pz Bs] (λx:Num=>#[i6 x.1]) (cY (n9 n₀)) (λys=>ys.map (·.1)=cx l) (λpre=>pre.map (·.1) <+:cx l) (κ (cx l)) w:=λl' J Jx W hW hJ _ hY h0=>by
 refine(Hq n hn l' Bs n₀ v l (λpre W=>∃ps:List Num,ps.map (·.1)=pre/\J ps W) (λpre W=>∃ps:List Num,ps.map (·.1)=pre/\Jx ps W) W (λs A B row hs hg hr=>Fy) ?_ ((hW.cell (p:=⟨Bs,0,none⟩) au).trans hc) (aI.up hv hW) ⟨[],rfl,h0⟩ aB).mono ?_
 ·rintro pre x W1⟨ps,rfl,h⟩hp;refine(hY ps ⟨x,(xk l x (hp.subset aq))⟩ W1 h aQ).mono ?_;exact M9
 ·exact y2
theorem AG{W:af}{f:Nat->ah}(h:a7 W b n t f)(hp:¬p b t)(i:Nat)(v:ah):cY p W (W.setCell ⟨b,i,none⟩ v):=λk cs t' fr hb ae=>by
 have hne:k≠b:=λe=>by subst e;obtain⟨C,h1,_⟩:=h;rw[show W.heap[k]?=_ from h1]at hb;cases hb;exact hp ae
 show(W.heap.modify b _)[k]?=_;rw[EI,aM (λe=>hne e.symm),hb]
theorem w3(b n:Nat)(t:Aab)(f:β->Nat->ah):Go.Own (λ(s:β) W=>a7 W b n t (f s)):=λs A B row hs hg hr=>by refine hs.grown hg (λe=>?_);obtain⟨o,ho,hc⟩:=hr b e;obtain⟨C,h1,_⟩:=hs;rw[show A.heap[b]?=_ from h1]at ho;cases ho;cases hc
theorem Ap(pre:List Int)(x:Int)(i:Nat):rU (pre++[x]) i=(rU pre i || decide ((i:Int)=x)):=by simp[rU]
theorem GB(w:af)(v:ah)(l:List bM)(hv:dS w v l)(hb:∀a m c,v=.slice (some a) m c->a.block<w.heap.size):Aae Aag 295 #[v] w λe w'=>e=.returned (pz w.heap.size)/\pr w' w.heap.size (rU (cx l))/\Up w w':=by
 obtain⟨a,cap,rfl⟩:=hv.slice;refine q6 ?_;intro h1;have ZB:=wZ;refine oD func295 rfl trivial ?_ rfl;simp only[ntmps295,Abh,Aal,Aa5,Nat.reduceAdd,Nat.reduceSub,Aa6,Aa7,Abj,Aa9,Aay,Aa2];gi_wp2_with(refine⟨trivial,?_⟩;gi_at_call 228;refine(fy.2 (tI _ _ _ _)).mono ?_;rintro e w' ⟨rfl,rfl⟩);have c2:=de (w.alloc (.cells noBits 212)) (.slice a (κ l) cap) 63;simp only[Aa3]at c2;have ad:pr ((w.alloc (.cells noBits 212)).alloc (.cells #[.slice a (κ l) cap] 63)) w.heap.size (rU []):=a7.congr ((a7.new w _ 4096 (.bool false)).up (ai _ _)) (λi _=>ay);have ag:Below w.heap.size w ((w.alloc (.cells noBits 212)).alloc (.cells #[.slice a (κ l) cap] 63)):=((eZ _ w).alloc (aG _) _).alloc aq _;refine wi (F:=Abw) rfl h1 (gf:=264) (lb:=#[pz (w.heap.size+1)]) rfl trivial (enters_of func264 ay rfl) (xb 5 ae (w.heap.size+1) w.heap.size _ l _ aq c2.1 (aI.up hv ag) hb) cY.trans jD (eZ _ _) (λ_=>rfl) (λpre W=>pr W w.heap.size (rU (pre.map (·.1)))/\Below w.heap.size w W) (λ_ _ _=>False) (nH (Own.from (w3 w.heap.size 4096 212 (λ(pre:List Num) i=>.bool (rU (pre.map (·.1)) i))) _) (oE (aG _) ab)) (λ_ _ _ _ _ hs _ _=>hs) ⟨ad,ag⟩ (λx=>{tmps:=#[.slice a (κ l) cap,Aar,.pointer none,pz w.heap.size,i6 x.1,.slice a (κ l) cap,.func (.func 264) #[] #[pz (w.heap.size+1)],i6 x.1,Aar,Aar],defers:=[]}) ?assign ?body ?done ?stop
 case assign=>exact lH
 case body=>
  rintro l' pre⟨x,aa,aF⟩W⟨hI,hB⟩_;obtain⟨n,rfl⟩:=iX aa;have hn:n<4096:=ae
  obtain⟨c0,f0⟩:=aA (hI.cell hn) (hI.free n);gi_wp2;exact⟨p7 _ _ _,AG hI (λh=>h.elim (λh=>ae) ax) _ _,a7.congr (hI.set hn (.bool true)) (λi hi=>by rw[Aao,yH,Ap];by_cases e:i=n<;>simp[e];intro h;omega),hB.setCell (p:=⟨w.heap.size,n,none⟩) (aG _) _⟩
 case done=>rintro D ys W hD aE⟨hI,hB⟩hK;gi_wp2;refine za ?_;refine⟨_,sD rfl _ _ _,rfl,?_,hB.trans (oF (w:=w) (aG _) W D _ _ p9 hK rfl rfl)⟩;rw[<-aE];exact a7.grown hI (yE W D _) (λe=>by simp at e hD;omega)
 case stop=>simp
end
section
variable {P:bx} {ops:Array Abn} {Q:Exit->Act->af->Prop} {l n:Nat} {md:Ab0}
def XL{row:String}{args:Array ah}{w:af}{R:ah->af->Prop}(h:Rows P row args w R):RowsIn (Fence.wide.inRound l) n P row args w R:=λc cs _=>let⟨v,w',r,s⟩:=h c cs;⟨v,w',r,stepsIn_wide.2 s⟩
theorem N'{o:Abn}{a:Act}{w:af}{K:Act->af->Prop}(hd:∀c,o.op≠.defer c)(h:o.wp P a w K Q):o.wpIn (Fence.wide.inRound l) n P a w K Q:=by
 unfold Acb at h;unfold Oper.wpIn;refine⟨λ_ _=>trivial,?_⟩;rw[show(Fence.wide.inRound l).round=some l from rfl,kr l a.eval o hd];generalize hx:(Abs a.eval o).run P w=r at *;cases r with
 | ok x w'=>
  cases x with
  | enter f args=>exact⟨λh=>fI,CallsIn.inRound l (fy.2 h)⟩
  | row row args=>exact⟨λh=>fI,XL h⟩
  | round l f tmps assign body=>exact h.elim
  | _=>exact h
 | halt x w'=>cases x<;>exact h
def ri(ops:Array Abn):Bool:=ops.toList.all λo=>match o.op with | .defer _=>false|_=>true
theorem KD{ops:Array Abn}(h:ri ops=true){i:Nat}{o:Abn}(hi:ops[i]?=some o):∀c,o.op≠.defer c:=λc e=>by
 have hm:o∈ops.toList:=by have:=Array.mem_of_getElem? hi;exact Array.mem_toList_iff.2 this
 have:=List.all_eq_true.1 h o hm;rw[e]at this;cases this
theorem zz(hd:ri ops=true)(ao:¬LetsOut Q):∀(fuel:Nat)(aZ:Array Bool)(a:Act)(w:af),wpAny P md ops Q fuel aZ a w->Acy (Fence.wide.inRound l) n P md ops Q fuel aZ a w
 | 0,_,_,_,h=>h
 | fuel+1,aZ,a,w,h=>⟨h.1,λi hi=>by
  have:=h.2 i hi;unfold wpOp at this;unfold wpOpIn;cases ho:ops[i]? with
  | none=>rw[ho]at this;exact zz hd ao fuel _ _ _ this
  | some o=>
   rw[ho]at this;simp only at this ⊢;split
   ·rename_i hw;rw[bo hw]at this;rcases this with h1|⟨_,h1⟩
    ·exact N' (KD hd ho) (Oper.wp_mono (λa w=>zz hd ao fuel _ a w) h1)
    ·exact absurd h1 ao
   ·rename_i hw;rw[aM hw]at this;exact⟨λ_ _=>trivial,zz hd ao fuel _ _ _ this⟩⟩
theorem EC(ao:¬LetsOut Q):∀(os:List Abn)(a:Act)(w:af),(∀o∈os,∀c,o.op≠.defer c)->Aak P ops Q os a w->wpListIn (Fence.wide.inRound l) n P ops Q os a w
 | [],_,_,_,h=>h
 | o::os,a,w,hd,h=>by
  unfold Aak at h;unfold wpListIn;split
  ·rename_i hw;rw[bo hw]at h;rcases h with h1|⟨_,h1⟩
   ·exact N' (hd o aq) (Oper.wp_mono (λa w=>EC ao os a w (λo ho=>hd o (by simp[ho]))) h1)
   ·exact absurd h1 ao
  ·rename_i hw;rw[aM hw]at h;exact⟨λ_ _=>trivial,EC ao os _ _ (λo ho=>hd o (by simp[ho])) h⟩
theorem H9{os:List Abn}(h:ri os.toArray=true):∀o∈os,∀c,o.op≠.defer c:=λo hm c e=>by have:=List.all_eq_true.1 h o hm;rw[e]at this;cases this
def gI{S:af->Prop}{id:Nat}{a:Act}{w:af}(hm:P.follows .mixedOrders=true)(hd:ri ops=true)(ao:¬LetsOut Q)(h:wpAnyH P .any ops Q S ops.size (Array.replicate ops.size false) a {w with drawn:=w.drawn+1}):(Code.region id ops true).wpIn (Fence.wide.inRound l) n P Q a w:=yI hm (zz hd ao _ _ _ _ (wpAny_of_held _ _ _ _ h))
end
abbrev cN:={s:List aj // (κ s)=128}
def ep:cN:=⟨aK,rfl⟩
def qo(s:cN):List ah:=s.val.map aF
theorem sw:hL qo 128:=⟨ae,λs=>by grind [qo],λs u hu=>by obtain⟨y,_,rfl⟩:=Abf.1 hu;rfl⟩
theorem k8(s:cN):(aC s.val).toList=qo s:=ay
structure CL where
 loc:Nat
 s:cN
def qE(x:CL):List ah:=.int .i64 (x.loc:Int)::qo x.s
theorem ww:hL qE 129:=⟨ae,λx=>by unfold qE;rw[Aal,sw.len],λx u hu=>by
 rcases Aam.1 hu with rfl|hu
 ·rfl
 ·exact sw.one x.s u hu⟩
structure bC where
 aR:List cN
 ct:List cN
 bP:List CL
 ops:Nat
 left:Int
 dead:Bool
structure iE where
 d:Nat
 g1:Nat
 g2:Nat
 vp:ah
def gg(l:List cN):Array ah:=(l.flatMap qo).toArray
theorem s7(l:List cN):(gg l).size=κ l*128:=by simp[gg,sw.flat]
theorem BL(l:List cN):(gg l).toList=l.flatMap qo:=ay
def zU(h:iE)(v:bC):Array ah:=#[.slice (some ⟨h.g1,0,none⟩) (κ v.aR) (κ v.aR),.slice (some ⟨h.g2,0,none⟩) (κ v.aR) (κ v.aR),h.vp,.int .i64 (v.ops:Int),.int .i64 v.left,.bool v.dead]
structure Dv(w:af)(h:iE)(v:bC):Prop where
 dev:aH w h.d 114 (zU h v)
 b1:aH w h.g1 60 (gg v.aR)
 b2:aH w h.g2 60 (gg v.ct)
 len:κ v.ct=κ v.aR
 max:κ v.aR<=1024
 ne:h.g1≠h.g2
 bP:ak qE 129 116 w 0 h.vp v.bP
 AL:∀x∈v.bP,x.loc<κ v.aR
 ops:v.ops<=4611686018427387903
 left:-1<=v.left/\v.left<=9223372036854775807
def cI(h:iE)(b:Nat):Prop:=b=h.d\/b=h.g1\/b=h.g2\/h.vp.ownBlock=some b
structure Touch(F:Nat->Prop)(w w':af):Prop where
 os:w'.os=w.os
 tape:w'.tape=w.tape
 output:w'.output=w.output
 size:w.heap.size<=w'.heap.size
 block:∀k,k<w.heap.size->¬F k->w'.heap[k]?=w.heap[k]?
theorem Touch.refl(F:Nat->Prop)(w:af):Touch F w w:=⟨rfl,rfl,rfl,aG _,λ_ _ _=>rfl⟩
theorem Touch.trans{F F':Nat->Prop}{a b c:af}(h:Touch F a b)(k:Touch F' b c)(hf:∀n,F' n->n<a.heap.size->F n):Touch F a c:=⟨by rw[k.os,h.os],by rw[k.tape,h.tape],by rw[k.output,h.output],bN h.size k.size,λn hn hF=>by
  rw[k.block n (eg hn h.size) (λhh=>hF (hf n hh hn)),h.block n hn hF]⟩
theorem Touch.bW{F:Nat->Prop}{w w':af}(h:Up w w'):Touch F w w':=⟨h.os,h.tape,h.output,h.size,λk hk _=>oA h k hk⟩
theorem Touch.bg{F:Nat->Prop}{w w':af}{row:Option Nat}(h:w.grownBy w' row)(hf:∀k,row=some k->F k):Touch F w w':=⟨h.os,h.tape,h.output,h.size,λk hk hF=>h.block k hk (λe=>hF (hf k e.symm))⟩
def Touch.mono{F F':Nat->Prop}{w w':af}(h:Touch F w w')(hf:∀n,F n->F' n):Touch F' w w':=⟨h.os,h.tape,h.output,h.size,λk hk hF=>h.block k hk (λhh=>hF (hf k hh))⟩
theorem Touch.up{F:Nat->Prop}{w0 w w':af}(h:Touch F w w')(hu:Up w0 w)(hf:∀n,F n->w0.heap.size<=n):Up w0 w':=⟨by rw[h.os,hu.os],by rw[h.tape,hu.tape],by rw[h.output,hu.output],bN hu.size h.size,λk hk=>by
  rw[h.block k (eg hk hu.size) (λhh=>aQ)];exact oA hu k hk⟩
theorem aH.az{w w':af}{C:Array ah}{F:Nat->Prop}(h:aH w g t C)(ht:Touch F w w')(hf:¬F g):aH w' g t C:=by unfold aH;rw[ht.block g h.lt hf];exact h
theorem fk{w w':af}{F:Nat->Prop}{b o:Nat}{v:ah}(h:w.cell? (ad b o)=some v)(ht:Touch F w w')(hf:¬F b):w'.cell? (ad b o)=some v:=by rw[nG (ht.block b (hX w _ h) hf)];exact h
section
variable {w w':af} {h:iE} {v:bC}
theorem Dv.oy(D:Dv w h v)(b:Nat)(hb:cI h b):b<w.heap.size:=by
 rcases hb with rfl|rfl|rfl|hb
 ·exact D.dev.lt
 ·exact D.b1.lt
 ·exact D.b2.lt
 ·exact(D.bP.aN b hb).2
theorem Dv.ye(D:Dv w h v):h.d≠h.g1:=λe=>by have h1:=D.dev;rw[e]at h1;have:=h1.symm.trans D.b1;simp at this
theorem Dv.tD(D:Dv w h v):h.d≠h.g2:=λe=>by have h1:=D.dev;rw[e]at h1;have:=h1.symm.trans D.b2;simp at this
theorem i'{t e:Aab}{base g:Nat}{C:Array ah}{α:Type}{f:α->List ah}{k:Nat}{vp:ah}{xs:List α}(hne:t≠e)(hb:aH w g t C)(ho:ak f k e w base vp xs):vp.ownBlock≠some g:=λe0=>by exact My
def Dv.up(D:Dv w h v)(hu:Up w w'):Dv w' h v:=⟨D.dev.up hu,D.b1.up hu,D.b2.up hu,D.len,D.max,D.ne,D.bP.up hu,D.AL,D.ops,D.left⟩
theorem ak.az{α:Type}{f:α->List ah}{k:Nat}{e:Aab}{base:Nat}{vp:ah}{xs:List α}(ho:ak f k e w base vp xs){F:Nat->Prop}(ht:Touch F w w')(hf:∀b,vp.ownBlock=some b->¬F b):ak f k e w' base vp xs:=by
 obtain⟨h1,h2⟩:=ho;refine⟨h1,?_⟩;rcases h2 with h2|⟨g,cap,cur,hv,hg,hh,r⟩
 ·simp_all
 ·have hlt:=(p2.1 hh).1;exact NO
theorem Dv.az(D:Dv w h v){F:Nat->Prop}(ht:Touch F w w')(hf:∀b,cI h b->¬F b):Dv w' h v:=⟨D.dev.az ht (hf _ (.inl rfl)),D.b1.az ht (hf _ (.inr (.inl rfl))),D.b2.az ht (hf _ (.inr (.inr (.inl rfl)))),D.len,D.max,D.ne,D.bP.az ht (λb hb=>hf b (.inr (.inr (.inr hb)))),D.AL,D.ops,D.left⟩
theorem Dv.cells(D:Dv w h v):w.cell? (ad h.d 0)=some (cv h.g1 (κ v.aR) (κ v.aR))/\w.cell? (ad h.d 1)=some (cv h.g2 (κ v.aR) (κ v.aR))/\w.cell? (ad h.d 2)=some h.vp/\w.cell? (ad h.d 3)=some (i6 (v.ops:Int))/\w.cell? (ad h.d 4)=some (i6 v.left)/\w.cell? (ad h.d 5)=some (.bool v.dead):=by refine⟨?_,?_,?_,?_,?_,?_⟩<;>(rw[D.dev.cell];rfl)
end
def iU(w:af)(h:iE)(v':bC)(w':af):Prop:=∃vp,Dv w' {h with vp:=vp} v'/\Touch (cI h) w w'/\∀b,vp.ownBlock=some b->h.vp.ownBlock=some b\/w.heap.size<=b
theorem iU.Zd{w w':af}{h:iE}{vp:ah}(hw:∀b,vp.ownBlock=some b->h.vp.ownBlock=some b\/w.heap.size<=b)(b:Nat)(hb:cI {h with vp:=vp} b):cI h b\/w.heap.size<=b:=by
 rcases hb with hb|hb|hb|hb
 ·exact .inl (.inl hb)
 ·exact .inl (.inr (.inl hb))
 ·exact .inl (.inr (.inr (.inl hb)))
 ·rcases hw b hb with h|h
  ·exact .inl (.inr (.inr (.inr h)))
  ·omega
theorem Af:∀(l:List ah)(k off:Nat)(cs:Array ah),off+k+κ l<=cs.size->((l.zipIdx k).foldl (λ(cs:Array ah) p=>cs.setIfInBounds (off+p.2) p.1) cs).toList=cs.toList.take (off+k)++(l++cs.toList.drop (off+k+κ l))
 | [],k,off,cs,_=>aq
 | v::l,k,off,cs,hc=>by simp only[Aal]at hc;rw[List.zipIdx_cons,yr];have ih:=Af l (k+1) off (cs.setIfInBounds (off+k) v) ab;exact UH
def Jd:CL:=⟨0,ep⟩
def j6(x:CL):Array ah:=(qE x).toArray
theorem od(x:CL):(j6 x).size=129:=by unfold j6;rw[Abh];exact ww.len x
def zp(x:CL):(j6 x).all (·.oneCell')=true:=AQ (ww.one x)
theorem tU:(prog.info? 116).map (λi=>(i.zero,i.size,i.bytes))=some (some (.agg (j6 Jd)),129,136):=av
theorem C7(V cs:Array ah)(off:Nat)(h:off+V.size<=cs.size):V.zipIdx.foldl (λ(cs:Array ah) (p:ah × Nat)=>cs.setIfInBounds (off+p.2) p.1) cs=(Aby cs.toList off V.toList).toArray:=by apply hS.1;rw[<-Array.foldl_toList,Array.toList_zipIdx,Af V.toList 0 off cs ae];rfl
theorem Sm(x:CL):prog.built 116 [(0,i6 (x.loc:Int)),(1,.agg (aC x.s.val))]=some (j6 x):=by
 obtain⟨i,hi,hz0,_,_⟩:=jF tU;unfold Program.built;rw[hi,underlying116];simp only[hz0];rw[show(List.mapM (λ(f:Field)=>(prog.info? f.type).map λi=>(f.offset,i.size)) _:Option (List (Nat × Nat)))=some [(0,1),(1,128)] from ay];have h1:(aC x.s.val).size=128:=by grind [bX]
 have h0:=od Jd;simp only[Instr.fill,Value.cells];have hf:=C7 (aC x.s.val) ((j6 Jd).setIfInBounds 0 (i6 (x.loc:Int))) 1 ab;simp only[Array.size_zipIdx,h1]at hf;simp[h0,h1];rw[hf];apply hS.1;simp only[Acz,Aby,Abl];have hl:κ (j6 Jd).toList=129:=ae
 have h2:((j6 Jd).toList.set 0 (i6 (x.loc:Int))).take 1=[i6 (x.loc:Int)]:=by
  cases hc:(j6 Jd).toList with
  | nil=>simp_all
  | cons y r=>simp
 rw[h2,k8,v' (by rw[Aaz,hl,sw.len];omega),Ab5];rfl
def e7(s:Nat->Nat)(i x:Nat):Nat->Nat:=λk=>if k=i then x else s k
def gQ(s:Nat->Nat)(j:Nat):Nat:=κ ((Aaj 64).filter (λk=>decide (s (64*j+k)=1)))
def A2(s:Nat->Nat)(i:Nat):ah:=if i<1024 then .int .u8 (s i:Int)else .int .i64 (gQ s (i-1024):Int)
def ck(w:af)(b:Nat)(s:Nat->Nat):Prop:=a7 w b 1040 165 (A2 s)
theorem IA(s:Nat->Nat)(j:Nat):gQ s j<=64:=by grind [gQ]
theorem z8(p q:Nat->Bool)(i:Nat)(h:∀k,k≠i->p k=q k):(κ ((Aaj n).filter p)+(if i<n/\q i=true then 1 else 0))=κ ((Aaj n).filter q)+(if i<n/\p i=true then 1 else 0):=by
 induction n with
 | zero=>simp
 | succ n ih=>rw[Abz,ki,ki,Aaf,Aaf];grind
theorem wJ(s:Nat->Nat)(i x j:Nat):gQ (e7 s i x) j+(if j=i/64/\s i=1 then 1 else 0)=gQ s j+(if j=i/64/\x=1 then 1 else 0):=by
 unfold gQ;by_cases e:j=i/64
 ·have:=z8 (n:=64) (λk=>decide (e7 s i x (64*j+k)=1)) (λk=>decide (s (64*j+k)=1)) (i%64) (λk hk=>by
   have:64*j+k≠i:=ae
   simp[e7,this])
  grind [e7]
 ·have h1:((Aaj 64).filter λk=>decide (e7 s i x (64*j+k)=1))=(Aaj 64).filter λk=>decide (s (64*j+k)=1):=List.filter_congr (λk hk=>by
   have:=uf.1 hk;have:64*j+k≠i:=ae
   simp[e7,this])
  simp_all
theorem QF(s:Nat->Nat)(i:Nat)(h:s i=1):1<=gQ s (i/64):=by have:=wJ s i 0 (i/64);grind
section
variable {w w':af} {b:Nat} {s:Nat->Nat}
theorem ck.state(h:ck w b s){i:Nat}(hi:i<1024):w.cell? ⟨b,i,none⟩=some (.int .u8 (s i:Int)):=by have:=a7.cell h (i:=i) ae;grind [A2]
theorem ck.room(h:ck w b s){j:Nat}(hj:j<16):w.cell? ⟨b,1024+j,none⟩=some (.int .i64 (gQ s j:Int)):=by have:=a7.cell h (i:=1024+j) ae;grind [A2]
def ck.up(h:ck w b s)(hu:Up w w'):ck w' b s:=a7.up h hu
end
theorem te{w:af}{f:Nat->ah}(h:a7 w b n t f)(i:Nat)(v:ah):Touch (·=b) w (w.setCell ⟨b,i,none⟩ v):=by obtain⟨C,h1,_⟩:=h;grind [Touch.bg,b0]
theorem a7.az{w w':af}{f:Nat->ah}(h:a7 w b n t f){F:Nat->Prop}(ht:Touch F w w')(hf:¬F b):a7 w' b n t f:=by obtain⟨C,h1,h2⟩:=h;exact⟨C,h1.az ht hf,h2⟩
theorem ck.of{W:af}{s g:_}{i to:Nat}(h:a7 W b 1040 165 g)(hi:i<1024)(h1:∀k,k<1024->k≠i->g k=.int .u8 (s k:Nat))(h2:g i=.int .u8 (to:Int))(h3:∀j,j<16->j≠i/64->g (1024+j)=.int .i64 (gQ s j:Int))(h4:g (1024+i/64)=.int .i64 (gQ (e7 s i to) (i/64):Int)):ck W b (e7 s i to):=a7.congr h (λk hk=>by
 unfold A2;by_cases e:k<1024
 ·rw[bo e];by_cases e2:k=i
  ·subst e2;rw[h2];simp[e7]
  ·rw[h1 k e e2];simp[e7,e2]
 ·rw[aM e];obtain⟨j,rfl⟩:∃j,k=1024+j:=⟨k-1024,ae⟩;rw[E2];by_cases e2:j=i/64
  ·subst e2;exact h4
  ·rw[h3 j ae e2];have:=wJ s i to j;simp only[e2,false_and,if_false,Nat.add_zero]at this;rw[this])
theorem ra{s:Nat->Nat}(h:k<1024):A2 s k=.int .u8 (s k:Int):=by simp[A2,h]
theorem q'{s:Nat->Nat}(j:Nat):A2 s (1024+j)=.int .i64 (gQ s j:Int):=by simp[A2]
theorem vl(w:af)(b:Nat)(s:Nat->Nat)(S:ck w b s)(i to:Nat)(hi:i<1024):Aae Aag 111 #[pz b,i6 (i:Int),.int .u8 (to:Int)] w λe w'=>e=rt #[]/\ck w' b (e7 s i to)/\Touch (·=b) w w':=by
 have hq:i/64<16:=ae
 obtain⟨hp,hr⟩:=aA (QF s i) (IA s (i/64));have hd:((i:Int)/64)=((i/64:Nat):Int):=ae
 obtain⟨HU,HS⟩:=aw (wJ s i to (i/64)) S;obtain⟨c0,c1,f0,f1⟩:=iJ (S.state hi) (S.room hq) (a7.free S i) (a7.free S (1024+i/64));obtain⟨r,aO⟩:=bK (gQ s (i/64));obtain⟨q,ai⟩:=bK (i/64);obtain⟨x,hx⟩:=bK (s i);rw[<-aO]at hp hr c1;rw[<-hx]at hp c0;rw[<-ai]at hd c1 hq f1;obtain⟨HQ,HX,HR⟩:=aW ai hx aO;clear ai hx aO;have an:IntKind.i64.wrap (q:Int)=(q:Int):=aY q ae;have ak:((q:Int)<16)=True:=ab
 have av:((i:Int)<1024)=True:=ab
 by_cases e1:x=1
 ·subst e1;replace hp:1<=r:=hp rfl;have ar:IntKind.i64.wrap ((r:Int)-1)=((r-1:Nat):Int):=by rw[show(r:Int)-1=((r-1:Nat):Int)from ae];exact aY _ ae
  by_cases e2:to=1
  ·subst e2;have al:IntKind.i64.wrap (((r-1:Nat):Int)+1)=(r:Int):=by rw[show((r-1:Nat):Int)+1=(r:Int)from ae];exact aY _ ae
   go_in;go_wp2_with fail;refine M5 ?_;repeat still_step
   refine T9 ?_;intro HA HT ag ao aj ay;go_wp2_with fail;clear c0 c1 f0 f1;generalize w.setCell ⟨b,1024+q,none⟩ (i6 ((r-1:Nat):Int))=w1 at *;obtain⟨HB,aa⟩:=aw (a7.up (HA.set (i:=i) ae (.int .u8 1)) (Up.drew (Up.refl _))) ((HT.trans (te HA i (.int .u8 1)) (λn h _=>h)).trans (Touch.bW (F:=(·=b)) (Up.drew (Up.refl _))) (λn h _=>h));obtain⟨d1,g1⟩:=aA (HB.cell (i:=1024+q) ae) (HB.free (1024+q));simp only[show ¬1024+q=i from ae,if_false,if_true]at d1;generalize(w1.setCell ⟨b,i,none⟩ (.int .u8 1)).drew=w2 at *;refine M6 ?_;repeat still_step
   refine hA ?_;obtain⟨HC,ah⟩:=aw (a7.up (a7.set HB (i:=1024+q) ae (i6 (r:Int))) (Up.drew (Up.refl _))) ((aa.trans (te HB (1024+q) (i6 (r:Int))) (λn h _=>h)).trans (Touch.bW (F:=(·=b)) (Up.drew (Up.refl _))) (λn h _=>h));clear aj ay ag ao;go_wp2_with fail;go_end0;have hu:=HU.out;rw[<-HR.out,<-HX.out]at hu;refine⟨rfl,ck.of HC hi (λk hk hne=>by simp[show ¬k=1024+q from ae,hne,ra hk]) (by simp[show ¬i=1024+q from ae]) (λj hj hne=>by rw[<-HQ.out]at hne;simp[hne,show ¬1024+j=i from ae,q']) (by rw[<-HQ.out]at hu ⊢;simp at hu ⊢;omega),ah⟩
  ·have et:((to:Int)==1)=false:=by simp;omega
   go_in;go_wp2_with fail;refine M5 ?_;repeat still_step
   refine T9 ?_;intro HA HT ag ao aj ay;go_wp2_with fail;clear c0 c1 f0 f1;generalize w.setCell ⟨b,1024+q,none⟩ (i6 ((r-1:Nat):Int))=w1 at *;obtain⟨HB,aa⟩:=aw (a7.up (HA.set (i:=i) ae (.int .u8 (to:Int))) (Up.drew (Up.refl _))) ((HT.trans (te HA i (.int .u8 (to:Int))) (λn h _=>h)).trans (Touch.bW (F:=(·=b)) (Up.drew (Up.refl _))) (λn h _=>h));go_end0;have hu:=HU.out;rw[<-HR.out,<-HX.out]at hu;refine⟨rfl,ck.of HB hi (λk hk hne=>by simp[show ¬k=1024+q from ae,hne,ra hk]) aq (λj hj hne=>by rw[<-HQ.out]at hne;simp[hne,show ¬1024+j=i from ae,q']) (by rw[<-HQ.out]at hu ⊢;simp[e2,show ¬1024+q=i from ae]at hu ⊢;omega),aa⟩
 ·have ex:((x:Int)==1)=false:=by simp;omega
  by_cases e2:to=1
  ·subst e2;have al:IntKind.i64.wrap ((r:Int)+1)=((r+1:Nat):Int):=by rw[show(r:Int)+1=((r+1:Nat):Int)from ae];exact aY _ ae
   go_in;go_wp2_with fail;obtain⟨HB,aa⟩:=aw (a7.set HS (i:=i) ae (.int .u8 1)) (te HS i (.int .u8 1));have d1:(w.setCell ⟨b,i,none⟩ (.int .u8 1)).cell? (ad b (1024+q))=some (i6 (r:Int)):=(World.cell?_setCell_other _ _ _ _ (λe=>by simp at e<;>omega)).trans c1;have g1:=HB.free (1024+q);clear c0 c1 f0 f1;generalize w.setCell ⟨b,i,none⟩ (.int .u8 1)=w2 at *;refine M6 ?_;repeat still_step
   refine hA ?_;obtain⟨HC,ah⟩:=aw (a7.up (a7.set HB (i:=1024+q) ae (i6 ((r+1:Nat):Int))) (Up.drew (Up.refl _))) ((aa.trans (te HB (1024+q) (i6 ((r+1:Nat):Int))) (λn h _=>h)).trans (Touch.bW (F:=(·=b)) (Up.drew (Up.refl _))) (λn h _=>h));go_wp2_with fail;go_end0;have hu:=HU.out;rw[<-HR.out,<-HX.out]at hu;refine⟨rfl,ck.of HC hi (λk hk hne=>by simp[show ¬k=1024+q from ae,hne,ra hk]) (by simp[show ¬i=1024+q from ae]) (λj hj hne=>by rw[<-HQ.out]at hne;simp[hne,show ¬1024+j=i from ae,q']) (by rw[<-HQ.out]at hu ⊢;simp[e1]at hu ⊢;omega),ah⟩
  ·have et:((to:Int)==1)=false:=by simp;omega
   go_in;go_wp2_with fail;obtain⟨HB,aa⟩:=aw (a7.set HS (i:=i) ae (.int .u8 (to:Int))) (te HS i (.int .u8 (to:Int)));go_end0;have hu:=HU.out;rw[<-HR.out,<-HX.out]at hu;refine⟨rfl,ck.of HB hi (λk hk hne=>by simp[hne,ra hk]) aq (λj hj hne=>by rw[<-HQ.out]at hne;simp[show ¬1024+j=i from ae,q']) (by have h9:=HR.out;rw[<-HQ.out]at hu h9 ⊢;simp[e1,e2,show ¬1024+q=i from ae,q']at hu ⊢;omega),aa⟩
def J7(s:Nat->Nat)(i:Int)(x:Nat):Bool:=decide (0<=i/\i<1024/\s i.toNat=x)
theorem qX(s:Nat->Nat)(i x:Nat)(h:i<1024):J7 s (i:Int) x=decide (s i=x):=by grind [J7]
theorem zh(w:af)(b:Nat)(s:Nat->Nat)(S:ck w b s)(i:Int)(x:Nat):Aae Aag 220 #[pz b,i6 i,.int .u8 (x:Int)] w λe w'=>e=.returned (.bool (J7 s i x))/\w=w':=by
 by_cases h0:0<=i
 ·obtain⟨i,rfl⟩:=iX h0;by_cases h1:i<1024
  ·have c0:=S.state h1;have HR:=an (qX s i x h1);have t0:decide ((0:Int)<=(i:Int))=true:=by simp
   have t1:decide ((i:Int)<1024)=true:=ab
   have t2:((i:Int)<1024)=True:=ab
   generalize s i=y at *;by_cases e:y=x
   ·have t3:((y:Int)==(x:Int))=true:=by simp;omega
    exact MD
   ·have t3:((y:Int)==(x:Int))=false:=by simp;omega
    exact MD
  ·have t0:decide ((0:Int)<=(i:Int))=true:=by simp
   have t1:decide ((i:Int)<1024)=false:=ab
   have HR:=an (show J7 s (i:Int) x=false by unfold J7;simp;omega);go_in;exact FP
 ·have t0:decide ((0:Int)<=i)=false:=by simp;omega
  have HR:=an (show J7 s i x=false by unfold J7;simp;omega);go_in;exact FP
def Ys(s:Nat->Nat)(i:Int)(x:Nat):Int:=if J7 s i x=true then 0 else 72
def sc(s:Nat->Nat)(i:Int)(x y:Nat):Nat->Nat:=if J7 s i x=true then e7 s i.toNat y else s
theorem WC{s:Nat->Nat}{i x y:Nat}(hi:i<1024)(hs:s i=x):sc s (i:Int) x y=e7 s i y:=by grind [sc,qX]
theorem qp(w:af)(b:Nat)(s:Nat->Nat)(S:ck w b s)(i:Int)(x y:Nat):Aae Aag 164 #[pz b,i6 i,.int .u8 (x:Int),.int .u8 (y:Int)] w λe w'=>e=.returned (i6 (Ys s i x))/\ck w' b (sc s i x y)/\Touch (·=b) w w':=by
 have I:=an (zh w b s S i x);obtain⟨g,hg⟩:=bK (J7 s i x);rw[<-hg]at I;cases g
 ·obtain⟨HE,HV⟩:=aw (show Ys s i x=72 by unfold Ys;rw[<-hg];rfl) (show sc s i x y=s by unfold sc;rw[<-hg];rfl);clear hg;go_in;go_wp2_with fail;refine I.mono ?_;rintro e w1⟨rfl,rfl⟩;go_wp2;go_ret;exact⟨nJ,by rw[HV.out];exact S,Touch.refl _ _⟩
 ·obtain⟨HE,HV⟩:=aw (show Ys s i x=0 by unfold Ys;rw[<-hg];rfl) (show sc s i x y=e7 s i.toNat y by unfold sc;rw[<-hg];rfl);have hb:0<=i/\i<1024/\s i.toNat=x:=by have:=hg.symm;unfold J7 at this;grind
  obtain⟨h0,h1,_⟩:=hb;obtain⟨i,rfl⟩:=iX h0;have ST:=an (vl w b s S i y ae);clear hg h0;go_in;go_wp2_with fail;refine I.mono ?_;rintro e w1⟨rfl,rfl⟩;go_wp2_with fail;refine ST.mono ?_;rintro e w1⟨rfl,S1,T1⟩;go_wp2;go_ret;exact⟨nJ,by rw[HV.out];exact S1,T1⟩
theorem VK(w:af)(b:Nat)(s:Nat->Nat)(S:ck w b s)(i:Int):Aae Aag 107 #[pz b,i6 i] w λe w'=>e=.returned (i6 (Ys s i 1))/\ck w' b (sc s i 1 2)/\Touch (·=b) w w':=by have C:=an (qp w b s S i 1 2);go_in;exact Kn
theorem QP(w:af)(b:Nat)(s:Nat->Nat)(S:ck w b s)(i:Int):Aae Aag 159 #[pz b,i6 i] w λe w'=>e=.returned (i6 (Ys s i 2))/\ck w' b (sc s i 2 1)/\Touch (·=b) w w':=by have C:=an (qp w b s S i 2 1);go_in;exact Kn
theorem PN(w:af)(b:Nat)(s:Nat->Nat)(S:ck w b s)(i:Int):Aae Aag 226 #[pz b,i6 i] w λe w'=>e=.returned (i6 (Ys s i 2))/\ck w' b (sc s i 2 3)/\Touch (·=b) w w':=by have C:=an (qp w b s S i 2 3);go_in;exact Kn
def gT(s:Nat->Nat)(n:Nat):Nat:=κ ((Aaj n).filter (λk=>decide (s k=1)))
def bp(s:Nat->Nat):Nat:=gT s 1024
theorem tz(s:Nat->Nat)(j:Nat):gT s (64*(j+1))=gT s (64*j)+gQ s j:=by unfold gT gQ;rw[show 64*(j+1)=64*j+64 from ae,List.range_add,ki,Aaf];congr 1;rw[List.filter_map,Aad];rfl
theorem zN(s:Nat->Nat)(n:Nat):gT s n<=n:=by grind [gT]
def xA(s:Nat->Nat):Array ah:=((Aaj 16).map (λj=>Acj .i64 (gQ s j:Int))).toArray
theorem ck.YI{w:af}{s:Nat->Nat}(S:ck w b s):w.rangeAt b 1024 (xA s).toList:=λj v hj=>by
 have hl:j<16:=by
  rcases ma j 16 with h|h
  ·exact h
  ·rw[sC cm]at hj;cases hj
 rw[S.room hl];simp[xA,hl]at hj;rw[<-hj]
theorem Ar(s:Nat->Nat)(k:Nat)(h:k<16)(W:af):(Abi 163 (.agg (xA s)) (i6 (k:Int))).run Aag W=.ok (i6 (gQ s k:Int)) W:=by
 have hs:(sizeOf 3).run Aag W=.ok 1 W:=av
 have hg:(isAgg 3).run Aag W=.ok false W:=av
 have hp:((xA s)[k]?)=some (i6 (gQ s k:Int)):=by simp[xA,h]
 simp[Abi,asIntOf,run_underlying (P:=Aag) underlying163,ae,hs,part,hg,hp];omega
theorem Ax(s:Nat->Nat):(prog.info? 163).map (·.size)=some (xA s).size:=ay
theorem jc(w:af)(b:Nat)(s:Nat->Nat)(S:ck w b s):Aae Aag 35 #[pz b] w λe w'=>e=.returned (i6 (bp s:Int))/\w=w':=by
 go_in;go_wp2_with refine cK 163 8 (xA s) S.YI (hi:=(Ax s)) ?_;go_loop [3,10] (λn i=>∃k:Nat,k<=16/\i=i6 k/\n=i6 (gT s (64*k):Int)) (λ_ i=>16-(Aat i).toNat)
 case atStart=>exact⟨0,ae,rfl,ay⟩
 case round=>
  obtain⟨k,hk,rfl,rfl⟩:=hrel;have HC:=an (tz s k);obtain⟨hc,hr⟩:=aA (zN s (64*k)) (IA s k);by_cases hlt:k<16
  ·have ix:=(Ar s) k hlt;have b2:((k:Int)<16)=True:=by simp;omega
   generalize gQ s k=r at *;generalize gT s (64*k)=c at *;go_wp2;go_round
   case rel=>exact⟨k+1,ae,aq,by rw[HC.out];simp⟩
   case measure=>simp[Aat];omega
  ·obtain rfl:k=16:=by omega
   have b2:((16:Nat):Int)=16:=rfl;go_wp2;go_ret;exact⟨ay,rfl⟩
def bC.bb(v:bC):bC:={v with ops:=if v.ops<4611686018427387903 then v.ops+1 else v.ops}
def bC.hasB(v:bC)(i:Int):Bool:=decide (0<=i/\i<κ v.aR)
def bC.eH(v:bC):bC:=if v.dead=true\/v.left=0 then {v with dead:=true} else {v with left:=if 0<v.left then v.left-1 else v.left}
def bC.hv(v:bC):Bool:=!(v.dead || decide (v.left=0))
theorem jd{w:af}{h:iE}{v:bC}(D:Dv w h v)(i:Nat)(x:ah):Touch (cI h) w (w.setCell ⟨h.d,i,none⟩ x):=Touch.bg (b0 D.dev i x) (λk hk=>FC)
theorem Dv.field{w:af}{h:iE}{v v':bC}(D:Dv w h v)(i:Nat)(x:ah)(hc:(zU h v).setIfInBounds i x=zU h v')(hs:v'.aR=v.aR)(hn:v'.ct=v.ct)(hp:v'.bP=v.bP)(ho:v'.ops<=4611686018427387903)(hl:-1<=v'.left/\v'.left<=9223372036854775807):Dv (w.setCell ⟨h.d,i,none⟩ x) h v':=by
 have G:=b0 D.dev i x;refine⟨by rw[<-hc];exact D.dev.setCell i x,?_,?_,by rw[hs,hn];exact D.len,by rw[hs];exact D.max,D.ne,?_,by rw[hs,hp];exact D.AL,ho,hl⟩
 ·rw[hs];exact D.b1.grown G (λe=>D.ye (dB e))
 ·rw[hn];exact D.b2.grown G (λe=>D.tD (dB e))
 ·rw[hp];exact D.bP.kept G (.inr (i' ax D.dev D.bP))
theorem vP(w:af)(h:iE)(v:bC)(D:Dv w h v):Aae Aag 229 #[pz h.d] w λe w'=>e=rt #[]/\Dv w' h v.bb/\Touch (cI h) w w':=by
 obtain⟨c0,c1,c2,c3,c4,c5⟩:=D.cells;obtain⟨f3,hb⟩:=aA (D.dev.free 3) D.ops;obtain⟨n,hn⟩:=bK (v.ops);have HN:=an hn;rw[<-hn]at c3 hb;clear c0 c1 c2 c4 c5 hn;by_cases hlt:n<4611686018427387903
 ·have t1:decide ((n:Int)<4611686018427387903)=true:=by simp;omega
  go_in;go_wp2_with fail;go_end0;have e:(zU h v).setIfInBounds 3 (i6 ((n:Int)+1))=zU h v.bb:=by unfold zU bC.bb;rw[bo dL,HN.out];rfl
  exact⟨rfl,Dv.field D 3 _ e rfl rfl rfl (by unfold bC.bb;rw[bo dL];show v.ops+1<=_;have:=HN.out;omega) D.left,jd D 3 _⟩
 ·have t1:decide ((n:Int)<4611686018427387903)=false:=by simp;omega
  go_in;go_wp2_with fail;go_end0;have e:v.bb=v:=by unfold bC.bb;rw[aM dL]
  exact⟨rfl,aQ,Touch.refl _ _⟩
theorem L8(w:af)(h:iE)(v:bC)(D:Dv w h v)(i:Int)(hi:-9223372036854775808<=i/\i<=9223372036854775807):Aae Aag 230 #[pz h.d,i6 i] w λe w'=>e=.returned (.bool (v.hasB i))/\w=w':=by
 obtain⟨c0,c1,c2,c3,c4,c5⟩:=D.cells;have hm:=D.max;obtain⟨n,hn⟩:=bK (κ v.aR);have HB:=an (show v.hasB i=decide (0<=i/\i<(n:Int))by rw[hn];rfl);rw[<-hn]at c0 hm;clear c1 c2 c3 c4 c5 D hn;by_cases h0:0<=i
 ·have t0:decide (0<=i)=true:=by simp;omega
  by_cases h1:i<(n:Int)
  ·have t1:decide (i<(n:Int))=true:=by simp;omega
   have HR:=an (show v.hasB i=true from Fl);exact MB
  ·have t1:decide (i<(n:Int))=false:=by simp;omega
   have HR:=an (show v.hasB i=false from Fl);exact MB
 ·have t0:decide (0<=i)=false:=by simp;omega
  have HR:=an (show v.hasB i=false from Fl);go_in;exact FP
theorem DP(w:af)(h:iE)(v:bC)(D:Dv w h v):Aae Aag 262 #[pz h.d] w λe w'=>e=.returned (.bool v.hv)/\Dv w' h v.eH/\Touch (cI h) w w':=by
 obtain⟨c0,c1,c2,c3,c4,c5⟩:=D.cells;obtain⟨f4,f5,hl⟩:=db (D.dev.free 4) (D.dev.free 5) D.left;obtain⟨l,aR⟩:=bK (v.left);obtain⟨d,aa⟩:=bK (v.dead);obtain⟨HP,HS,aD,ad⟩:=bR (show v.hv=!(d || decide (l=0))by rw[aR,aa];rfl) (show v.eH=if d=true\/l=0 then {v with dead:=true} else {v with left:=if 0<l then l-1 else l} by rw[aR,aa];rfl) aR aa;rw[<-aR]at c4 hl;rw[<-aa]at c5;clear c0 c1 c2 c3 aR aa;by_cases h0:l=0
 ·subst h0;obtain⟨HR,HV⟩:=aw (show v.hv=false by rw[HP.out];simp) (show v.eH={v with dead:=true} by rw[HS.out,bo (.inr rfl)]);go_in;go_wp2_with fail;go_ret;exact⟨by rw[HR.out];rfl,by rw[HV.out];exact Dv.field D 5 (.bool true) rfl rfl rfl rfl D.ops D.left,jd D 5 _⟩
 have t0:(l==0)=false:=ab
 cases d
 case true=>obtain⟨HR,HV⟩:=aw (show v.hv=false from cm) (show v.eH=v by rw[HS.out,bo (.inl rfl),ad.out]);exact MC
 case false=>
  have HR:=an (show v.hv=true by rw[HP.out];simpa using h0);by_cases h1:0<l
  ·have t1:decide (0<l)=true:=by simp;omega
   have HV:=an (show v.eH={v with left:=l-1} by rw[HS.out,aM ab,bo h1]);go_in;go_wp2_with fail;go_ret;exact⟨by rw[HR.out];rfl,by rw[HV.out];exact Dv.field D 4 (i6 (l-1)) rfl rfl rfl rfl D.ops ab,jd D 4 _⟩
  ·have t1:decide (0<l)=false:=by simp;omega
   have HV:=an (show v.eH=v by rw[HS.out,aM ab,aM h1,aD.out]);exact MC
theorem Su(w:af)(h:iE)(v:bC)(D:Dv w h v):Aae Aag 55 #[pz h.d] w λe w'=>e=.returned (i6 (κ v.aR:Int))/\w=w':=by obtain⟨c0,c1,c2,c3,c4,c5⟩:=D.cells;go_in;exact eW
theorem Pd(w:af)(h:iE)(v:bC)(D:Dv w h v):Aae Aag 53 #[pz h.d] w λe w'=>e=.returned (.bool v.dead)/\w=w':=by obtain⟨c0,c1,c2,c3,c4,c5⟩:=D.cells;go_in;exact eW
section
variable {P:bx}
theorem fS{ops:Array Abn}{rest:List Abn}{op:Abn}{a:Act}{w:af}{Q:Act->Prop}(hw:Aaa op (Aa1 ops a.tmps)=true)(ty:Aab)(x:bO)(ho:op.op=.load ty x)(g off:Nat)(hx:a.eval x=pq g off)(C:Array ah)(hc:w.rangeAt g off C.toList)(d:eJ)(hu:P.underlying ty=some d)(hd:d.isRow=true)(hi:(P.info? ty).map (·.size)=some C.size)(h:Adc P ops w Q rest (a.put op.dst (.agg C))):Adc P ops w Q (op::rest) a:=by refine wpStill_step λK hK=>?_;rw[bo hw];unfold Oper.still Abs;have:=EJ (P:=P) w g off ty C.toList d hc hu hd ae;simp only[ho,hx,Instr.loadAt,Adf,Aaw,Acq,Aau,this];exact⟨rfl,hK _ jG⟩
def ik{ops:Array Abn}{rest:List Abn}{op:Abn}{a:Act}{w:af}{Q:Act->Prop}(hw:Aaa op (Aa1 ops a.tmps)=true)(ty:Aab)(x:bO)(ho:op.op=.load ty x)(g:Nat)(hx:a.eval x=pz g)(t:Aab)(C:Array ah)(hb:aH w g t C)(d:eJ)(hu:P.underlying ty=some d)(hd:d.isRow=true)(hi:(P.info? ty).map (·.size)=some C.size)(h:Adc P ops w Q rest (a.put op.dst (.agg C))):Adc P ops w Q (op::rest) a:=fS hw ty x ho g 0 hx C hb.range d hu hd hi h
theorem CH{ops:Array Abn}{rest:List Abn}{op:Abn}{a:Act}{w:af}{Q:Act->Prop}(hw:Aaa op (Aa1 ops a.tmps)=true)(t:Aab)(parts:Array (Nat × bO))(ho:op.op=.build t parts)(C:Array ah)(hb:P.built t (parts.map λ(i,x)=>(i,a.eval x)).toList=some C)(h:Adc P ops w Q rest (a.put op.dst (.agg C))):Adc P ops w Q (op::rest) a:=by refine wpStill_step λK hK=>?_;rw[bo hw];unfold Oper.still Abs;simp only[ho,Aaw,run_build w t _ C hb,Aau];exact⟨rfl,hK _ h⟩
theorem oc{ops:Array Abn}{Q:Exit->Act->af->Prop}{i:Nat}{o:Abn}{K:Act->af->Prop}{a:Act}{w:af}(hi:ops[i]?=some o)(hw:Aaa o (Aa1 ops a.tmps)=true)(h:o.wp P a w K Q):wpOp P ops Q i K a w:=Fs
theorem ih{ops:Array Abn}{Q:Exit->Act->af->Prop}{md:Ab0}{fuel:Nat}{aZ:Array Bool}{a:Act}{w:af}(i:Nat)(o:Abn)(hr:Abb md ops aZ=[i])(hi:ops[i]?=some o)(hw:Aaa o (Aa1 ops a.tmps)=true)(h:o.wp P a w (wpAny P md ops Q fuel (aZ.setIfInBounds i true)) Q):wpAny P md ops Q (fuel+1) aZ a w:=ud hr aq (λj hj=>by simp at hj;subst hj;exact oc hi hw h)
theorem wW{ops:Array Abn}{Q:Exit->Act->af->Prop}{md:Ab0}{fuel:Nat}{aZ:Array Bool}{a:Act}{w:af}(i j:Nat)(o o':Abn)(hr:Abb md ops aZ=[i,j])(hi:ops[i]?=some o)(hj:ops[j]?=some o')(hw:Aaa o (Aa1 ops a.tmps)=true)(ay:Aaa o' (Aa1 ops a.tmps)=true)(h:o.wp P a w (wpAny P md ops Q fuel (aZ.setIfInBounds i true)) Q)(h':o'.wp P a w (wpAny P md ops Q fuel (aZ.setIfInBounds j true)) Q):wpAny P md ops Q (fuel+1) aZ a w:=ud hr aq (λk hk=>by
  simp at hk;rcases hk with rfl|rfl
  ·exact oc hi hw h
  ·exact oc hj ay h')
theorem o5{o:Abn}{a:Act}{w:af}{K:Act->af->Prop}{Q:Exit->Act->af->Prop}(ty:Aab)(x:bO)(ho:o.op=.load ty x)(ad:Addr)(hx:a.eval x=.pointer (some ad))(v:ah)(hc:w.cell? ad=some v)(hagg:(isAgg ty).run P w=.ok false w)(h:K (a.put o.dst v) w):o.wp P a w K Q:=by exact MA
theorem CJ{o:Abn}{a:Act}{w:af}{K:Act->af->Prop}{Q:Exit->Act->af->Prop}(ty:Aab)(x y:bO)(ho:o.op=.store ty x y)(ad:Addr)(hx:a.eval x=.pointer (some ad))(v:ah)(hy:a.eval y=v)(hv:v.cells=#[v])(h1:v.oneCell'=true)(old:ah)(hc:w.cell? ad=some old)(hf:w.frozen? ad=false)(hs:(sizeOf ty).run P w=.ok 1 w)(h:K (a.put o.dst Aar) (w.setCell ad v)):o.wp P a w K Q:=by
 have aE:(store (ad.add 0) v).run P w=.ok () (w.setCell ad v):=by
  have e:ad.add 0=ad:=ay
  rw[e,run_store P w _ v _ h1,hc];simp[hf]
 have a6:(storeVar ty ad v).run P w=.ok () (w.setCell ad v):=by simp[storeVar,Aaw,hs,hv,storeCells,aE]
 unfold Acb Abs;simp only[ho,hx,hy,Instr.storeAt,Adf,Aaw,Acq,Aau,a6];exact h
theorem CK{ops:Array Abn}{op:Abn}{a:Act}(hw:Aaa op (Aa1 ops a.tmps)=true)(t:Aab)(i0 i1:Nat)(x0 x1:bO)(ho:op.op=.build t #[(i0,x0),(i1,x1)])(v0 v1:ah)(h0:a.eval x0=v0)(h1:a.eval x1=v1)(C:Array ah)(hb:P.built t [(i0,v0),(i1,v1)]=some C):Yields P ops op (.agg C) a:=.inl ⟨hw,λw=>by
  unfold Abs;simp only[ho,Aaw,(run_build (P:=P) w t (#[(i0,x0),(i1,x1)].map λ(i,x)=>(i,a.eval x)) C aa),Aau];rfl⟩
theorem I6{o:Abn}{a:Act}{w:af}{K:Act->af->Prop}{Q:Exit->Act->af->Prop}(ty:Aab)(x:bO)(ho:o.op=.load ty x)(g:Nat)(hx:a.eval x=pz g)(t:Aab)(C:Array ah)(hb:aH w g t C)(d:eJ)(hu:P.underlying ty=some d)(hd:d.isRow=true)(hi:(P.info? ty).map (·.size)=some C.size)(h:K (a.put o.dst (.agg C)) w):o.wp P a w K Q:=wp_load_mid ty x ho g 0 hx C.toList d hb.range hu hd ae ae
theorem x2{ops:Array Oper}{rest:List Oper}{op:Oper}{a:Act}{w:af}{Q:Exit->Act->af->Prop}(hgd:op.guard=none)(d s:bO)(dT sT:TypeId)(ho:op.op=.call {callee:=.builtin .copy,args:=#[d,s],argTypes:=#[dT,sT]})(elem:TypeId)(k:Nat)(hu:P.underlying dT=some (.slice elem))(aL:(P.info? elem).map (·.size)=some k)(g1 g2 n:Nat)(hd:a.eval d=cv g2 n n)(hs:a.eval s=cv g1 n n)(t:TypeId)(C1 C2:Array ah)(hb1:aH w g1 t C1)(hb2:aH w g2 t C2)(h1:C1.size=n*k)(h2:C2.size=n*k)(aV:C1.all (·.oneCell')=true)(h:∀w',aH w' g2 t C1->w.grownBy w' (some g2)->wpList P ops Q rest (a.put op.dst (goInt n)) w'):wpList P ops Q (op::rest) a w:=by
 refine gZ hgd λK hK=>?_;have hl:=run_loadCells_list (P:=P) w ⟨g1,0,none⟩ C1.toList (λj v hj=>by rw[add_plain,Abr,hb1.cell];simpa using hj)
 have aE:=v7 (P:=P) g2 0 t C1.toList 0 C2 w hb2 ab (λv hv=>(v8.1 aV) v aa);have ag:(C2.toList.take (0+0)++C1.toList++C2.toList.drop (0+0+κ C1.toList)).toArray=C1:=aQ
 rw[ag]at aE;cases hq:P.info? elem with
 | none=>simp_all
 | some i=>
  have hi:i.size=k:=aa
  have hlen:κ C1.toList=n*k:=ae
  rw[hlen]at hl;have hrun:(Builtin.copy_ #[dT,sT] op.type #[cv g2 n n,cv g1 n n]).run P w=.ok (goInt n) (w.setRow g2 C1):=by simp[Builtin.copy_,run_underlying hu,Builtin.lenOf,Builtin.firstCells,sizeOf,typeInfo,hq,hi,hl,aE]
  unfold Acb;simp[Abs,ho,resolve,invoke,builtin,hd,hs,hrun,Aap];exact hK _ _ (h _ (hb2.set C1) (cQ w g2 C1))
end
def QL(l:List cN):(gg l).all (·.oneCell')=true:=AQ (sw.cC l)
theorem K9{w:af}{l:List cN}(h:aH w g t (gg l))(i:Nat)(hi:i<κ l):w.rangeAt g (i*128) (aC l[i].val).toList:=λj v hj=>by
 rw[h.cell];rw[k8]at hj;have aa:j<128:=by have:=(lp.1 hj).1;rwa [sw.len]at this
 unfold gg;rw[EU,sw.at l i hi j aa];exact hj
theorem V5{f:α->List ah}(hw:hL f k)(l:List α)(i:Nat)(hi:i<κ l)(x:α):Aby (l.flatMap f) (i*k) (f x)=(l.set i x).flatMap f:=by
 unfold Aby;have h2:l.flatMap f=(l.take i).flatMap f++(f l[i]++(l.drop (i+1)).flatMap f):=by rw[<-Abg,<-wc hi,<-gC,fH]
 have h3:κ ((l.take i).flatMap f)=i*k:=by rw[hw.flat,ev];congr 1;omega
 rw[(Mg .. |>.trans (bo hi)),gC,Abg,h2,hY h3,EX,h3,hw.len];rw[v' ae,Aay];congr 2;rw[show i*k+k-i*k=κ (f l[i]) by rw[hw.len];omega,List.drop_left]
theorem IH(l:List cN)(i:Nat)(hi:i<κ l)(s:cN):(Aby (gg l).toList (i*128) (aC s.val).toList).toArray=gg (l.set i s):=by rw[BL,k8,V5 sw l i hi s];rfl
theorem n3(s:cN):(aC s.val).size=128:=by grind [bX]
theorem dD(s:cN):(prog.info? 60).map (·.size)=some (aC s.val).size:=by simp[n3,dx]
theorem Gv(l:List cN)(i:Nat)(hi:i<κ l)(s:cN):i*128+(aC s.val).size<=(gg l).size:=by grind [n3,s7]
theorem I8{w:af}{vp:ah}{l:List CL}(h:ak qE 129 116 w base vp l)(i:Nat)(hi:i<κ l):∃g cap,vp=cv g (κ l) cap/\w.rangeAt g (i*129) (j6 l[i]).toList:=by
 rcases h.2 with⟨_,h0⟩|⟨g,cap,cur,rfl,_⟩
 ·omega
 ·obtain⟨b,off,aa,_,_,hc⟩:=aI.get (h.row ww) ww ae;simp only[Aai,Abd]at aa;obtain⟨rfl,rfl,_⟩:=aa;exact⟨g,cap,rfl,λj v hj=>by have:=hc i hi j v cm;simpa using this⟩
theorem kY(x:CL):(prog.info? 116).map (·.size)=some (j6 x).size:=by rw[od];kernel_rfl
def bC.nowAt(v:bC)(i:Int):cN:=if v.hasB i=true then v.ct.getD i.toNat ep else ep
def bC.jT(v:bC)(i:Int):Int:=if v.hasB i=true then(if v.dead=true then 42 else 0)else 41
def bC.mj(v:bC)(i:Int):cN:=if v.dead=true then ep else v.nowAt i
theorem nU(v:bC)(i:Int):v.hasB i=true↔0<=i/\i<κ v.aR:=by simp[bC.hasB]
theorem C0(w:af)(h:iE)(v:bC)(D:Dv w h v)(i:Int)(hi:-9223372036854775808<=i/\i<=9223372036854775807):Aae Aag 166 #[pz h.d,i6 i] w λe w'=>e=rt #[.agg (aC (v.mj i).val),i6 (v.jT i)]/\Dv w' h v.bb/\Touch (cI h) w w':=by
 have upa:=ai w (.cells (aC aK) 60);obtain⟨D1,B1⟩:=aA (D.up upa) (aH.new w 60 (aC aK));obtain⟨CT,HS⟩:=aw (λW (DD:Dv W h v)=>vP W h v DD) (λW (DD:Dv W h v.bb)=>L8 W h v.bb DD i hi);have HH:v.bb.hasB i=v.hasB i:=rfl;rw[HH]at HS;obtain⟨HL,HF,aS⟩:=aW (Touch.bW (F:=cI h) upa) (show ¬cI h w.heap.size from λhf=>yB _ (D.oy _ hf)) (nU v i);cases hb:v.hasB i
 case false=>
  rw[hb]at HS;have E:=an (show v.mj i=ep/\v.jT i=41 by unfold bC.mj bC.jT bC.nowAt;rw[hb];simp);go_in;go_wp2_with(refine dk rfl 60 rfl (aC aK) hI ?_);refine(CT _ D1).mono ?_;rintro e w2⟨rfl,D2,T2⟩;go_wp2_with fail;refine(HS _ D2).mono ?_;rintro e w3⟨rfl,rfl⟩;have ax:=an (B1.az T2 HF);go_wp2_with(first
   | (refine kT rfl 60 rfl (aC aK) hZ ?_)
   | (refine ek rfl 60 (.tmp 4) (.tmp 12) rfl w.heap.size (aC aK) rfl rfl 60 (aC aK) ax dx rfl (dj _) ?_))
  intro w4 au hg4;go_wp2;refine bS (.tuple #[.agg (aC aK),i6 41]) au ⟨by rw[E.out.1,E.out.2];rfl,D2.az (Touch.bg (F:=λb=>b=w.heap.size) hg4 (λk hk=>aQ)) (λb hb e=>HF (e ▸ hb)),?_⟩;exact F3
 case true=>
  rw[hb]at HS;have aU:=aS.1 hb;cases aa:v.dead
  case true=>
   obtain⟨E,DD⟩:=aw (show v.mj i=ep/\v.jT i=42 by unfold bC.mj bC.jT;rw[hb,aa];simp) (show v.bb.dead=true from aa);go_in;go_wp2_with(refine dk rfl 60 rfl (aC aK) hI ?_);refine(CT _ D1).mono ?_;rintro e w2⟨rfl,D2,T2⟩;go_wp2_with fail;refine(HS _ D2).mono ?_;rintro e w3⟨rfl,rfl⟩;have ax:=an (B1.az T2 HF);have c5:=D2.cells.2.2.2.2.2;rw[DD.out]at c5;go_wp2_with(first
    | (refine kT rfl 60 rfl (aC aK) hZ ?_)
    | (refine ek rfl 60 (.tmp 4) (.tmp 17) rfl w.heap.size (aC aK) rfl rfl 60 (aC aK) ax dx rfl (dj _) ?_))
   intro w4 au hg4;go_wp2;refine bS (.tuple #[.agg (aC aK),i6 42]) au ⟨by rw[E.out.1,E.out.2];rfl,D2.az (Touch.bg (F:=λb=>b=w.heap.size) hg4 (λk hk=>aQ)) (λb hb e=>HF (e ▸ hb)),?_⟩;exact F3
  case false=>
   obtain⟨n,rfl⟩:∃n:Nat,i=n:=⟨i.toNat,ae⟩;have aN:n<κ v.aR:=ae
   have ao:n<κ v.ct:=by rw[D1.len];exact aN
   have E:=an (show v.mj n=v.ct[n]/\v.jT n=0 by unfold bC.mj bC.jT bC.nowAt;rw[hb,aa];simp only[Ab2,if_false,if_true,Abq,and_true];rw[sB,jE ao];rfl)
   obtain⟨DD,aT⟩:=aw (show v.bb.dead=false from aa) ao;have hm:=D1.max;go_in;go_wp2_with(refine dk rfl 60 rfl (aC aK) hI ?_);refine(CT _ D1).mono ?_;rintro e w2⟨rfl,D2,T2⟩;go_wp2_with fail;refine(HS _ D2).mono ?_;rintro e w3⟨rfl,rfl⟩;have ax:=an (B1.az T2 HF);have c5:=D2.cells.2.2.2.2.2;rw[DD.out]at c5;have c1:=D2.cells.2.1;have ay:w2.cell? (ad h.d 1)=some (cv h.g2 (κ v.aR) (κ v.aR)):=c1;have b2:((n:Int)<(κ v.aR:Int))=True:=ab
   go_wp2_with(first
    | (refine gJ rfl 60 (.tmp 23) rfl h.g2 (n*128) rfl _ (K9 (l:=v.ct) D2.b2 n aT) _ Acr rfl (dD _) ?_)
    | (refine ek rfl 60 (.tmp 4) (.tmp 24) rfl w.heap.size (aC (v.ct[n]'aT.out).val) rfl rfl 60 (aC aK) ax (dD _) p' (dj _) ?_))
   intro w4 au hg4;go_wp2;refine bS (hi:=(dD _)) (.tuple #[.agg (aC (v.ct[n]'aT.out).val),i6 0]) au ⟨by rw[E.out.1,E.out.2],D2.az (Touch.bg (F:=λb=>b=w.heap.size) hg4 (λk hk=>aQ)) (λb hb e=>HF (e ▸ hb)),?_⟩;exact F3
theorem pd{P:bx}(w:af)(t e:Aab)(z:ah)(k bytes:Nat)(C:Array ah)(ht:P.underlying t=some (.slice e))(hinfo:(P.info? e).map (λi=>(i.zero,i.size,i.bytes))=some (some z,k,bytes))(h0:0<k)(hk:k<=16777216)(hC:C.size=k):(Acd t 1 #[(0,.agg C)]).run P w=.ok (.slice (some ⟨w.heap.size,0,none⟩) 1 1) (w.alloc (.cells C e)):=by
 obtain⟨i,hi,hz0,hz1,_⟩:=jF hinfo;have hf:=C7 C ((Array.range k).map (z.cells[· % z.cells.size]!)) 0 ab;have hs:(Aby ((Array.range k).map (z.cells[· % z.cells.size]!)).toList 0 C.toList).toArray=C:=by unfold Aby;exact Ns
 exact T8
theorem ti{P:bx}{op:Abn}{a:Act}{w:af}{Q:Exit->Act->af->Prop}(hgd:op.guard=none)(t e:Aab)(x:bO)(ho:op.op=.buildSlice t 1 #[(0,x)])(z:ah)(k bytes:Nat)(C:Array ah)(hx:a.eval x=.agg C)(ht:P.underlying t=some (.slice e))(hinfo:(P.info? e).map (λi=>(i.zero,i.size,i.bytes))=some (some z,k,bytes))(h0:0<k)(hk:k<=16777216)(hC:C.size=k)(h:Aak P ops Q rest (a.put op.dst (.slice (some ⟨w.heap.size,0,none⟩) 1 1)) (w.alloc (.cells C e))):Aak P ops Q (op::rest) a w:=by refine uH ?_;intro K hK;simp[ho,hx,(pd (P:=P) w t e z k bytes C ht hinfo h0 hk hC),Aap];exact hK _ _ h
theorem mH{P:bx}{op:Abn}{a:Act}{w:af}{K:Act->af->Prop}{Q:Exit->Act->af->Prop}(t e:Aab)(x:bO)(ho:op.op=.buildSlice t 1 #[(0,x)])(z:ah)(k bytes:Nat)(C:Array ah)(hx:a.eval x=.agg C)(ht:P.underlying t=some (.slice e))(hinfo:(P.info? e).map (λi=>(i.zero,i.size,i.bytes))=some (some z,k,bytes))(h0:0<k)(hk:k<=16777216)(hC:C.size=k)(h:K (a.put op.dst (cv w.heap.size 1 1)) (w.alloc (.cells C e))):op.wp P a w K Q:=by have hr:=pd (P:=P) w t e z k bytes C ht hinfo h0 hk hC;unfold Acb Abs;simp[ho,hx,hr,Aap];exact h
theorem nw{p:Tmp}(h:fn.results=#[.cell p ty])(tmps:Array ah)(P:bx)(w:af)(g:Nat)(t:Aab)(C:Array ah)(hp:tmps.getD p Aar=.pointer (some ⟨g,0,none⟩))(hb:aH w g t C)(d:eJ)(hd:P.underlying ty=some d)(hr:d.isRow=true)(hi:(P.info? ty).map (·.size)=some C.size):(results fn tmps).run P w=.ok (.agg C) w:=by
 simp only[results,h];have:=ij (P:=P) (w:=w) ty g t C hb d hd hr hi;have aJ:tmps[p]?.getD Aar=.pointer (some ⟨g,0,none⟩):=aa
 simp[Aaw,Aap,hp,aJ,asAddr,this]
theorem Z9(w:af)(b:Nat)(hb:b=w.heap.size)(x:CL):aI qE (w.alloc (.cells (j6 x) 116)) (.slice (some ⟨b,0,none⟩) 1 1) [x]:=aI.er w b hb (j6 x) 116 (0,0) [x] 1 rfl ax (by simp[j6])
end Go.Proofs.YtkpjfnbbkohciaaGreat
