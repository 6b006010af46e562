/-
  aquifertop.WholeModel: for every input the law returns true, and each argument reads as it did. No condition.
-/
import Derived.Test.YtkpjfnbbkohciaaGreatAk
import Derived.Test.YtkpjfnbbkohciaaGreatAf
import Derived.Shelf.Slices.In.SortNone
set_option maxRecDepth 100000
set_option maxHeartbeats 16000000
set_option linter.all false
open Go renaming TypeId->Aab,Ending->Ab2,Calls->Aae,Oper->Abn,execOp->Abt,Addr->Adr,wpAnyH->Acp,splice->Abx,zeroValue->Acj
open List renaming mem_append->Aa8,length_append->Aaf,drop_drop->Ac4,range->Aak,replicate->Aad,length_map->Aac,length_range->Acm,length_nil->Aa4,flatMap_cons->Abc,map_cons->Acd,length->κ
open List.Pairwise renaming nil->Abz
open Go.Value renaming ownBlock->Aan,int->Ack,slice->Acr
open Go.Proofs.Tryz renaming prog->Aag,underlying30->Aa0
open Go.RowKit renaming intOf->Aau
open Option.some renaming injEq->Aai
open Int renaming toNat->Adp,toNat_natCast->Abp
open Go.Value.slice renaming injEq->Abg
open Go.Addr.mk renaming injEq->Abq
open Go.Op renaming equalIn->Ach
open Go.Sem renaming run_bind->Aay,run_pure->Ac7
open Go.Result renaming andThen_ok->Aax
open Nat renaming zero_add->Aby
open And renaming intro->Adc
open Go.World renaming size_alloc->Aa3
namespace Go.Proofs.YtkpjfnbbkohciaaGreat
open Go.Proofs.Tryz Go.RowKit Go.Sort
variable{e t:Aab}{base cap g i j k m n:Nat}{u:hT}{C:List cS}{M:cR}{α:Type}{W w:af}{H:aR}{l:List ao}{G:ct}
def bz.counts(v:bz):Nat->bz
 | 0=>v
 | k+1=>(v.counts k).bb
theorem ED(v:bz):v.bb.aS=v.aS/\v.bb.cv=v.cv/\v.bb.bQ=v.bQ/\v.bb.dead=v.dead/\v.bb.left=v.left:=by simp[bz.bb]
theorem p2(v:bz):∀k,(v.counts k).aS=v.aS/\(v.counts k).cv=v.cv/\(v.counts k).bQ=v.bQ/\(v.counts k).dead=v.dead/\(v.counts k).left=v.left
 | 0=>⟨rfl,rfl,rfl,rfl,rfl⟩
 | k+1=>by obtain⟨h1,h2,h3,h4,h5⟩:=p2 v k;obtain⟨g1,g2,g3,g4,g5⟩:=ED (v.counts k);exact⟨g1.trans h1,g2.trans h2,g3.trans h3,g4.trans h4,g5.trans h5⟩
theorem xt(v:bz)(k:Nat)(i:Int):(v.counts k).j3 i=v.j3 i/\(v.counts k).mw i=v.mw i:=by simp[p2,bz.j3,bz.mw,bz.nowAt,bz.hasB]
def bz.sP(v:bz)(i:Nat):Option hT:=if v.j3 (i:Int)=0 then(lr (v.mw (i:Int)).val).bind λu=>if u.dz%4=i then some u else none else none
def bz.ll(v:bz):Nat->List hT
 | 0=>[]
 | k+1=>v.ll k++(v.sP k).toList
def bz.I8(v:bz):List hT:=Pg (v.ll 4)
theorem Mw{v:bz}(h:v.sP i=some u):u.dz%4=i:=by grind [bz.sP,lr]
theorem I1{v:bz}:∀k,∀u∈v.ll k,u.dz%4<k
 | 0,u,h=>hE
 | k+1,u,h=>by
  rw[bz.ll]at h;rcases Aa8.1 h with h|h
  ·exact Nat.lt_succ_of_lt (I1 k u h)
  ·have:=Mw (Option.mem_toList.1 h);omega
theorem w0(v:bz):∀k,Pw (v.ll k)
 | 0=>Abz
 | k+1=>by
  unfold Pw;rw[bz.ll,Bj];refine⟨w0 v k,?_,λa ha b hb=>?_⟩
  ·cases v.sP k with
   | none=>exact Abz
   | some x=>exact yQ _ _
  ·obtain⟨h1,h2⟩:=az (I1 k a ha) (Mw (Option.mem_toList.1 hb));intro e;rw[e]at h1;omega
theorem qN(v:bz):∀k,κ (v.ll k)<=k
 | 0=>aE _
 | k+1=>by
  have:=qN v k;rw[bz.ll,Aaf];have h2:κ (v.sP k).toList<=1:=by cases v.sP k<;>simp
  omega
theorem aH.ax{f:α->List ah}{w w':af}{v:ah}{l:List α}{F:Nat->Prop}(h:aH f w v l)(T:Touch F w w')(hF:∀b,v.ownBlock=some b->¬F b):aH f w' v l:=by exact N6
theorem I3(v:bz)(i:Int):v.j3 i=0\/v.j3 i=42\/v.j3 i=41:=by grind [bz.j3]
theorem TW:(prog.info? 122).map (λi=>(i.zero,i.size,i.bytes))=some (some (.agg (uC tV)),7,56):=al
def SJ(v:bz)(h:iM)(w:af)(e:Ab2)(w':af):Prop:=∃a n c,e=.returned (.slice a n c)/\aH fR w' (.slice a n c) v.I8/\(∀b,Aan (.slice a n c)=some b->w.heap.size<=b)/\Dv w' h (v.counts 4)/\Touch (cM h) w w'
theorem T4(w:af)(h:iM)(v:bz)(D:Dv w h v):Aae Aag 110 #[pz h.d] w λe w'=>SJ v h w e w':=by
 obtain⟨DH,al⟩:=aw D D.oU;go_in;go_wp2;go_loopw [3,9] (λlv i wr=>∃k:Nat,k<=4/\i=i6 k/\ak fR 7 122 wr w.heap.size lv (v.ll k)/\Dv wr h (v.counts k)/\Touch (cM h) w wr) (λ_ i _=>4-(Aau i).toNat)
 case atStart=>exact⟨0,bT _,rfl,(ak.nil _ 7 _ w _),DH,Touch.refl _ _⟩
 case round=>
  obtain⟨k,hk,rfl,ow,dv,tc⟩:=hrel;obtain⟨OW,DK,TC⟩:=aV ow dv tc;by_cases hlt:k<4
  ·have b2:((k:Int)<4)=True:=by simp;omega
   have RD:=Dp _ h _ DK (k:Int) ae;rw[(xt v k _).1,(xt v k _).2]at RD;obtain⟨aN,RS,AT,RL⟩:=bW RD (show v.ll (k+1)=v.ll k++(v.sP k).toList from rfl) (show v.sP k=if v.j3 (k:Int)=0 then(lr (v.mw (k:Int)).val).bind λu=>if u.dz%4=k then some u else none else none from rfl) (qN v k);have EC:=I3 v (k:Int);generalize v.mw (k:Int)=sv at *;generalize v.j3 (k:Int)=se at *;go_wp2_with fail;refine aN.mono ?_;rintro e w2⟨rfl,D2,T2⟩;have UX:=ai w2 (.cells (aC sv.val) 60);obtain⟨ay,ag,aD,au,D3⟩:=eW (wx sv) (dx sv.val) (show(aC aM).size=(aC sv.val).size by rw[bX,bX,sv.property];rfl) ((TC.trans T2 (λn hn _=>hn)).trans (Touch.bP (F:=λ_=>False) UX) (λn hn _=>hn.elim)) (show Dv _ h (v.counts (k+1))from D2.up UX);have ao:=an (ak.up (ak.ax OW T2 (λb hb hf=>by obtain⟨h1,h2⟩:=az ((ak.aJ OW b hb).1) (al b hf);omega)) UX)
   rcases EC with rfl|he
   rotate_left
   ·have aj:=an (show v.ll (k+1)=v.ll k by rw[RS.out,AT.out,aY ae];simp);have ad:=ao.out;rw[<-aj.out]at ad;have hb:∃z:Int,z=se/\z≠0:=⟨se,rfl,ae⟩;rcases he with rfl|rfl
    all_goals
     go_wp2_with(first
      | refine arm ?_
      | ((with_reducible refine cx _ _ _ ?_);refine fK _ rfl _ (.tmp 5) (.tmp 16) rfl _ _ (aC aM) rfl rfl rfl ay aD ag ?_))
     refine⟨⟨k+1,ae,aq,ad,D3,au⟩,?_⟩;simp only[Aau];omega
   ·have bQ:=an (show v.sP k=(lr sv.val).bind λu=>if u.dz%4=k then some u else none by rw[AT.out,bI rfl]);go_wp2_with(first
     | refine arm ?_
     | ((with_reducible refine cx _ _ _ ?_);refine fK _ rfl _ (.tmp 5) (.tmp 16) rfl _ _ (aC aM) rfl rfl rfl ay aD ag ?_))
    refine((λW=>Sf W _ sv.property) _).mono ?_;rintro e w4 aL;unfold SX at aL;obtain⟨rfl,U4⟩:=aL;cases hs:lr sv.val with
    | none=>have aj:=an (show v.ll (k+1)=v.ll k by rw[RS.out,bQ.out,hs];simp);have UX:=U4.trans (ai w4 (.cells (uC tV) 122));have ad:=ak.up ao UX;rw[<-aj.out]at ad;obtain⟨D4,av⟩:=aw (D3.up UX) (au.trans (Touch.bP (F:=λ_=>False) UX) (λn hn _=>hn.elim));have SC:=run_storeCells_new (P:=Aag) w4 122 (uC tV) (uC tV) (EO tV) rfl (xd tV);clear hs;simp only[Option.getD_none,Option.isSome_none];go_wp2_with(refine arm ?_);refine⟨⟨k+1,ae,aq,ad,D4,av⟩,?_⟩;simp only[Aau];omega
    | some u=>
     have UX:=U4.trans (ai w4 (.cells (uC u) 122));obtain⟨BU,ad,D4,av,ar,bK⟩:=ix (aF.new w4 122 (uC u)) (ak.up ao UX) (D3.up UX) (au.trans (Touch.bP (F:=λ_=>False) UX) (λn hn _=>hn.elim)) (Jj (w4.alloc (.cells (uC u) 122)) u) (show v.sP k=if u.dz%4=k then some u else none by rw[bQ.out,hs];rfl);clear hs;simp only[Option.getD_some,Option.isSome_some];generalize u.dz%4=tx at *;go_wp2_with(first
      | refine arm ?_
      | ((with_reducible refine cx _ _ _ ?_);refine fK _ rfl _ (.tmp 7) (.tmp 23) rfl _ _ (uC tV) rfl rfl rfl (EO u) rfl (xd u) ?_))
     refine ar.mono ?_;rintro e w6⟨rfl,U6⟩;obtain⟨aE,D6,aI⟩:=aV (ak.up ad U6) (D4.up U6) (av.trans (Touch.bP (F:=λ_=>False) U6) (λn hn _=>hn.elim));by_cases aa:tx=k;rotate_left
     ·have aj:=an (show v.ll (k+1)=v.ll k by rw[RS.out,bK.out,aY aa];simp);have ow:=aE.out;rw[<-aj.out]at ow;have bt:((tx:Int)==(k:Int))=false:=by simp;omega
      clear aa;go_wp2;refine⟨⟨k+1,ae,aq,ow,D6,aI⟩,?_⟩;simp only[Aau];omega
     ·have aj:=an (show v.ll (k+1)=v.ll k++[u] by rw[RS.out,bK.out,bI aa];rfl);have bt:((tx:Int)==(k:Int))=true:=by simp;omega
      have UY:=ai w6 (.cells (uC u) 122);obtain⟨RW,aG,D7,aK,hb1,hb2⟩:=ix (show aH fR (w6.alloc (.cells (uC u) 122)) (cD w6.heap.size 1 1) [u] from aH.ew _ _ rfl (uC u) 122 (0,0) [u] 1 rfl dK (by simp[fR])) (ak.up aE UY) (D6.up UY) (aI.trans (Touch.bP (F:=λ_=>False) UY) (λn hn _=>hn.elim)) (show(κ (v.ll k) + [u].length)*56<=140737488355328 by have:=RL.out;simp;omega) (show(v.ll k).length + [u].length<=9223372036854775807 by have:=RL.out;simp;omega);obtain⟨aP,II⟩:=aw aK.size TW;clear aa;go_wp2_with(first
       | refine arm ?_
       | ((with_reducible refine eo _ 1 _ ?_);refine tQ rfl 192 _ (.tmp 33) rfl _ 7 _ _ rfl underlying192 II ae ae rfl ?_)
       | (at_builtin;refine bH uw rfl (.tmp 32) (.tmp 34) 192 rfl _ _ _ _ underlying192 II rfl _ _ rfl aG _ _ rfl RW hb1 hb2 aP ?_))
      intro v8 w8 ab aB aQ;rw[<-aj.out]at ab;have GT:=Touch.bg (F:=λb=>w.heap.size<=b) aB (λb hb=>(ak.aJ aG b hb).1);obtain⟨D8,aO⟩:=aw (D7.ax GT (λb hb hle=>by have:=al b hb;omega)) (aK.trans GT (λn hn hl=>ae));go_wp2;refine⟨⟨k+1,ae,aq,ab,D8,aO⟩,?_⟩;simp only[Aau];omega
  ·obtain rfl:k=4:=by omega
   have b2:((4:Nat):Int)=4:=rfl;obtain⟨sa,sc,a6⟩:=(ak.row OW uw).slice;subst a6;have SO:=an (Wp wr w.heap.size _ (v.ll 4) OW (by have:=qN v 4;omega));generalize(v.ll 4).length=rn at *;go_wp2_with fail;refine SO.mono ?_;rintro e w6⟨rfl,l',hp,hs,hr,T6⟩;have hl:=LZ (w0 v 4) hp hs;subst hl;go_wp2;go_ret;refine⟨sa,rn,sc,rfl,hr,λb hb=>(ak.aJ OW b hb).1,DK.ax T6 (λb hb hf=>?_),TC.trans T6 (λn hn hlt=>?_)⟩
   ·obtain⟨h1,h2⟩:=az ((ak.aJ OW b hf).1) (al b hb);omega
   ·have h1:=(ak.aJ OW n hn).1;omega
def bz.z8(v:bz):Option hT:=v.I8.getLast?
def SE(v:bz)(h:iM)(w:af)(e:Ab2)(w':af):Prop:=e=.returned (.tuple #[.agg (uC (v.z8.getD tV)),.bool v.z8.isSome])/\Dv w' h (v.counts 4)/\Touch (cM h) w w'
theorem S3(w:af)(h:iM)(v:bz)(D:Dv w h v):Aae Aag 54 #[pz h.d] w λe w'=>SE v h w e w':=by
 obtain⟨al,U1,BZ,BB⟩:=bW D.oU (ai w (.cells (uC tV) 122)) Dh (show v.z8=v.I8.getLast? from rfl);go_in;go_wp2_with(refine arm ?_);refine(T4 _ h v (D.up U1)).mono ?_;rintro e w3⟨a,n,c,rfl,IR,FR,D3,T3⟩;have T3':=an ((Touch.bP (F:=cM h) U1).trans T3 (λn hn _=>hn));have Z3:=an ((aF.new w 122 (uC tV)).ax T3 (λhf=>by have:=al _ hf;omega));obtain⟨l,hl⟩:=bE (v.I8);rw[<-hl]at IR BB;clear hl FR;obtain rfl:n=κ l:=by obtain⟨_,_,h⟩:=IR.slice;simp at h;exact h.2.1
 have NF:=an (show ¬cM h w.heap.size from λhf=>by have:=al _ hf;omega);by_cases h0:κ l=0
 ·have HB:=an (show v.z8=none by rw[BB.out,qt.1 h0];rfl);rw[h0];clear h0 BB;go_wp2_with(first|refine arm ?_|refine oJ ?_);refine NK ?_;intro w9 b9 g9 GT D9 T9;go_wp2;exact bG (.tuple #[.agg (uC tV),.bool false]) b9 ⟨by rw[HB.out];rfl,D9,T9⟩
 obtain⟨m,hm⟩:∃m,κ l=m+1:=⟨κ l-1,ae⟩;have au:m<κ l:=ae
 obtain⟨b,off,rfl,_,_,hc⟩:=aH.get IR uw ae;have RG:=an (show w3.rangeAt b (off+m*7) (uC l[m]).toList from λj u hj=>by have:=hc m au j u hj;rwa [show off+(m*7+j)=off+m*7+j from ae]at this)
 have HB:=an (show v.z8=some l[m] by rw[BB.out,List.getLast?_eq_getElem?,hm,Nat.add_sub_cancel,h6 au])
 have hlen:=IR.length_le;generalize l[m]=u at *;rw[hm]at hlen ⊢;have b1:(((m+1:Nat):Int)==0)=false:=aA
 have wm:((m+1:Nat):Int)-1=(m:Int):=ae
 have aa:m<m+1:=ae
 obtain⟨n,hn⟩:=bE (m+1);rw[<-hn]at b1 wm hlen aa ⊢;have ab:=aX m ae;clear hm au hc h0 BB hn;go_wp2_with(first|refine arm ?_|refine oJ ?_);refine NK ?_;intro w9 b9 g9 GT D9 T9;go_wp2;exact bG (.tuple #[.agg (uC u),.bool true]) b9 ⟨by rw[HB.out];rfl,D9,T9⟩
theorem L'(hr:eT u=true)(hw:u.wf):Cq (eY u)=u:=by
 obtain⟨⟨g1,g2⟩,⟨g3,g4⟩,⟨hg,_⟩,⟨g5,g6⟩,⟨g7,g8⟩⟩:=(kQ u).1 hr;obtain⟨rest,hs⟩:∃rest,eY u=mh++(aZ u.dz 8++(aZ u.ay 8++(bR u.iV++(aZ u.len.toNat 4++(aZ u.sec.toNat 4++rest))))):=by simp[aW,Cr,eY,q3,Ej]
 have d4:(eY u).drop 4=aZ u.dz 8++(aZ u.ay 8++(bR u.iV++(aZ u.len.toNat 4++(aZ u.sec.toNat 4++rest)))):=by rw[hs];exact lB rfl
 have d12:(eY u).drop 12=aZ u.ay 8++(bR u.iV++(aZ u.len.toNat 4++(aZ u.sec.toNat 4++rest))):=by rw[show(12:Nat)=4+8 from rfl,<-Ac4,d4];exact lB (bx _ _)
 have d20:(eY u).drop 20=bR u.iV++(aZ u.len.toNat 4++(aZ u.sec.toNat 4++rest)):=by rw[show(20:Nat)=12+8 from rfl,<-Ac4,d12];exact lB (bx _ _)
 have d36:(eY u).drop 36=aZ u.len.toNat 4++(aZ u.sec.toNat 4++rest):=by rw[show(36:Nat)=20+16 from rfl,<-Ac4,d20];exact lB (fx _)
 have d40:(eY u).drop 40=aZ u.sec.toNat 4++rest:=by rw[show(40:Nat)=36+4 from rfl,<-Ac4,d36];exact lB (bx _ _)
 have hp:mq (bR u.iV)=u.iV:=by have:=nE u.iV hw.2.2.1 hg;unfold mu at this;simp_all
 unfold Cq;rw[d4,d12,d20,d36,d40,h5 (bx _ _),h5 (bx _ _),h5 (fx _),h5 (bx _ _),h5 (bx _ _),hc 8 u.dz ae,hc 8 u.ay ae,hc 4 u.len.toNat ae,hc 4 u.sec.toNat ae,hp];obtain⟨t,s,p,l,m⟩:=u;grind
theorem Mc(hr:eT u=true)(hw:u.wf):lr (eY u)=some u:=by grind [lr,L']
def sP(C:List cS)(i:Nat):Option hT:=(C[i]?).bind (λs=>(lr s.val).bind λu=>if u.dz%4=i then some u else none)
theorem S1{l:List hT}(h:Zc l)(hu:u∈l)(hm:∀x∈l,x.dz<=u.dz):l.getLast?=some u:=by
 rcases Fs l with rfl|⟨l',z,rfl⟩
 ·cases hu
 ·rw[Ft]at *;rw[List.getLast?_append];simp only[List.getLast?_singleton,Option.some_or,Aai];rcases List.mem_append.mp hu with h1|h1
  ·have h2:=(List.pairwise_append.mp h).2.2 u h1 z aq;grind
  ·simp_all
theorem bz.ZR{v:bz}(hd:v.dead=false)(hs:κ v.cv=κ v.aS)(hi:i<κ v.cv):v.sP i=_root_.Go.Proofs.YtkpjfnbbkohciaaGreat.sP v.cv i:=by have hb:v.hasB (i:Int)=true:=(ob v i).2 ae;unfold bz.sP _root_.Go.Proofs.YtkpjfnbbkohciaaGreat.sP;grind [bz.j3,bz.mw,bz.nowAt]
theorem Xo{v:bz}(hd:v.dead=false)(hs:κ v.cv=κ v.aS)(h4:4<=κ v.cv)(hu:_root_.Go.Proofs.YtkpjfnbbkohciaaGreat.sP v.cv (u.dz%4)=some u)(hm:∀i,i<4->∀x,_root_.Go.Proofs.YtkpjfnbbkohciaaGreat.sP v.cv i=some x->x.dz<=u.dz):v.z8=some u:=by
 have mem:∀k,k<=4->∀x,x∈v.ll k↔∃i,i<k/\_root_.Go.Proofs.YtkpjfnbbkohciaaGreat.sP v.cv i=some x:=by
  intro k;induction k with
  | zero=>simp[bz.ll]
  | succ k ih=>grind [bz.ll,bz.ZR]
 unfold bz.z8 bz.I8;grind [S1,Eb,w0,tI]
theorem Xn(w:af)(h:iM)(C:List cS)(m:Nat)(fl:Bool)(D:DA w h C m fl)(h4:4<=κ C)(u:hT)(hu:sP C (u.dz%4)=some u)(hm:∀i,i<4->∀x,sP C i=some x->x.dz<=u.dz):Aae Aag 54 #[pz h.d] w λe w'=>e=rt #[.agg (uC u),.bool true]/\DA w' h C m fl/\Touch (cM h) w w':=by obtain⟨v,h1,h2,h3,h5,h6,h7,h8⟩:=D;refine(S3 w h v h1).mono ?_;rintro e w'⟨rfl,D',T⟩;rw[(Xo (v:=v) h3 h1.len aa (u:=u) aa aQ)];obtain⟨c1,c2,c3,c4,c5⟩:=p2 v 4;exact⟨rfl,⟨v.counts 4,D',cj,cj,ae,cj,aa,cj⟩,T⟩
theorem BF(h1:1<=n)(h2:n<=128):dN n=1:=by grind [dN,eG,lZ,hx]
theorem VJ:dN 1024=9:=by simp[dN,eG,lZ,kC,hx]
theorem tt{t:Nat}(ht:64<=t/\t<=400):dN (cL t)<=9:=by
 have h:cL t=2+5*((t+1)/2):=by grind [cL]
 rw[<-VJ];exact BE ae ae ae
theorem Dm(hn:n<=1024):n-4<=bN (kf n):=by
 have h:((Aak (n-4)).map (· + 4)).Nodup:=List.pairwise_map.mpr (List.nodup_range.imp (λh e=>h ae));have:=HP (s:=kf n) h (λi hi=>by obtain⟨k,hk,rfl⟩:=List.mem_map.mp hi;have:=List.mem_range.mp hk;exact⟨ae,by grind [kf]⟩)
 simp_all
theorem QZ{fl:Bool}(h:64<=κ C/\(κ C)<=400):fu (tu C m fl)<=11/\0<fu (tu C m fl):=by have e:fu (tu C m fl)=e8 12 (κ C):=jt (next:=1) (l:=[]) ⟨ae,aq,aq⟩ av Uv;grind [e8,BF,tt]
theorem ID{fl:Bool}(h:64<=κ C/\(κ C)<=400):bm (tu C m fl):=by
 have hc:=Dm (n:=κ C) ae;obtain⟨f1,f2⟩:=QZ (m:=m) (fl:=fl) h;refine⟨⟨zh,Bq,?_,Abz,?_,?_,?_,?_,?_,?_⟩,⟨?_,?_,?_,?_,?_,?_⟩,?_,Abz,?_,?_,λi=>?_,λi hi=>?_,λi=>?_,by show 0<1;omega,zh,Uv,?_⟩;all_goals first
  | (intro x hx;cases hx;done)
  | skip
 ·show kf (κ C) i=0↔(i<4\/κ C<=i);grind [kf]
 ·show kf (κ C) i=2↔_;constructor
  ·grind [kf]
  ·rintro(⟨x,hx,_⟩|⟨q,hq,_⟩)
   ·cases hx
   ·cases hq
 ·show kf (κ C) i<=3;grind [kf]
 ·unfold e0;refine h8 ⟨f2,?_,?_⟩
  ·show _<=bN (kf (κ C));omega
  ·show _<=bN (kf (κ C))+0;omega
structure Ring(G:ct):Prop where
 le:∀i,i<4->∀u,sP G.P.C i=some u->u.dz<=G.u.dz
 here:1<=G.u.dz->sP G.P.C (G.u.dz%4)=some G.u
theorem Ring.congr{G G2:ct}(R:Ring G)(I:bm G)(hu:G2.u=G.u)(hc:∀j,G.P.s j≠1->G2.P.C[j]?=G.P.C[j]?):Ring G2:=by
 have e:∀i,i<4->sP G2.P.C i=sP G.P.C i:=λi hi=>by unfold sP;rw[hc i (by have:=(I.s0 i).mpr (.inl hi);omega)]
 exact⟨λi hi u h=>by rw[hu];exact R.le i hi u aa,λh=>by rw[hu]at h ⊢;rw[e _ ae];exact R.here h⟩
section
variable {G:ct} {b:List aj}
structure ZL(G:ct)(b:List aj):Prop where
 ex:lv G.P.C G.u.iV b (iS (κ G.P.C) (aB (gW G.P.s) 4096)) G.ms
 ZD:e2 G.next G.l=some b
 ub:G.u.sec=(κ G.P.C:Int)/\G.u.len=40/\G.u.ay=G.P.ba/\G.P.st=G.P.ba+1/\1<=G.u.dz
 no3:∀i,G.P.s i≠3
theorem ME(I:bm G)(B:pU G)(R:Ring G){G2:ct}(h:oE G b G2)(K:CI G b):ZL G2 b/\Ring G2:=by
 obtain⟨ats,CO⟩:=EA I h;obtain⟨q,ps,P8,⟨ab,h1,h2,h3,h4,h5,h6,h7⟩,rfl⟩:=h;have qn:q≠hole:=Jb ⟨ab,h1,h2,h3,h4,h5,h6,h7⟩;obtain⟨ln,aG,hba,aa⟩:=iv I.ln I.st I.sb B.tx;have ru:eT (nX G q)=true:=(kQ _).mpr ⟨⟨Nat.le_add_left _ _,by show G.u.dz+1<=_;omega⟩,⟨by show 1<=G.P.st;omega,aG⟩,⟨h7,qn⟩,⟨by show(1:Int)<=40;omega,by show(40:Int)<=_;omega⟩,⟨by show(64:Int)<=(κ G.P.C:Int);omega,by show(κ G.P.C:Int)<=_;omega⟩⟩;have wu:(nX G q).wf:=⟨by show G.u.dz+1<_;omega,by show G.P.st<_;omega,h6,by show(_:Int)<=40/\(40:Int)<=_;omega,by show(_:Int)<=(κ G.P.C:Int)/\(κ G.P.C:Int)<=_;omega⟩;have c4:∀i,i<4->P8.C[i]?=G.P.C[i]?:=λi hi=>h5.other i (λha=>by have:=(h3 i ha).2;have hz:=(h9 (s:=G.P.s) (ba:=G.P.ba) (k:=i) G.ms).mpr ((I.s0 i).mpr (.inl hi));omega)
 have ad:∀i,i<4->sP (XJ G P8 q ps).P.C i=if i=(G.u.dz+1)%4 then some (nX G q)else sP G.P.C i:=λi hi=>by show sP (P8.C.set _ _) i=_;grind [sP,q6,nX,eY,Mc]
 refine⟨⟨?_,K.ZD,⟨by rw[CO.cl];rfl,rfl,?_,?_,Nat.le_add_left _ _⟩,λi=>?_⟩,⟨λi hi u hu=>?_,λ_=>?_⟩⟩
 ·have tf:gW (XJ G P8 q ps).P.s=gW (fk (bO G.P.s G.P.ba G.ms) ab):=by funext i;show decide (i<1024/\iR P8.s 1024 i=2)=decide (i<1024/\fk (bO G.P.s G.P.ba G.ms) ab i=2);rw[h5.s];grind [iR]
  have e:W' {G.P with s:=fk (bO G.P.s G.P.ba G.ms) ab}=iS (κ (XJ G P8 q ps).P.C) (aB (gW (XJ G P8 q ps).P.s) 4096):=by rw[tf,CO.cl];rfl
  rw[<-e];show lv (P8.C.set _ _) q b _ ps;refine h4.congr (λp hp=>Fv (λh=>?_));obtain⟨k,hk,e⟩:=(List.mem_map.mp (h5.Bb.mem_iff.mp (List.mem_map.mpr ⟨p,hp,rfl⟩)));have hz:=mt (I.s0 k).mpr (λh=>by grind [h9]);omega
 ·show G.P.st=P8.st;rw[h5.st]
 ·rfl
 ·by_cases hi:i<1024
  ·exact CO.no3 i hi
  ·have:(XJ G P8 q ps).P.s i=0:=(CO.zer i).mpr ((I.s0 i).mpr (.inr ae));omega
 ·rw[ad i hi]at hu;split at hu
  ·cases hu;exact aE _
  ·have:=R.le i hi u hu;show u.dz<=G.u.dz+1;omega
 ·have:(XJ G P8 q ps).u.dz%4=(G.u.dz+1)%4:=rfl;rw[this,ad _ ae,bI rfl];rfl
end
theorem Md:lr aM=none:=aA
theorem Q0(n m:Nat)(fl:Bool):Ring (tu (Aad n ey) m fl):=by
 refine⟨λi hi u h=>?_,λh=>by have h:1<=0:=h;omega⟩;have h:sP (Aad n ey) i=some u:=h;unfold sP at h;rw[List.getElem?_replicate]at h;split at h
 ·have e:lr ey.val=none:=Md;simp_all
 ·cases h
structure g'(n:Nat)(G:ct)(b:List aj):Prop where
 inv:bm G
 ring:Ring G
 dsk:ZL G b
 nx:G.next=1
 l:G.l=[]
 st:G.P.st=2
 tx:G.u.dz=1
 m:G.P.m=0
 len:κ G.P.C=n
 room:n<=bN G.P.s+κ G.ms+4
 few:κ G.ms<=11
theorem xN(n:Nat):pU (tu (Aad n ey) 0 true):=⟨zh,zh,Bq,Bq⟩
theorem Lc(hn:64<=n/\n<=400){b:List aj}(h:oE (tu (Aad n ey) 0 true) b G)(K:CI (tu (Aad n ey) 0 true) b)(hb:κ b=cO []):g' n G b:=by
 have I:=ID (C:=Aad n ey) (m:=0) (fl:=true) ab;obtain⟨ats,CO⟩:=EA I h;obtain⟨d,r⟩:=ME I (xN n) (Q0 n 0 true) h K;have hc:=CO.count I;have hl:κ (Aad n ey)=n:=wK;have h2:n-4<=bN (tu (Aad n ey) 0 true).P.s:=by have:=Dm (n:=n) ae;show n-4<=bN (kf (κ (Aad n ey)));simp;omega
 have ml:κ G.ms=κ ats:=by have:=CO.loc.length_eq;simp_all
 have hc:=hc;exact⟨I.com CO hb (by show 1<_;omega),r,d,CO.nx,CO.l,CO.st,CO.tx,CO.m,by rw[CO.cl];exact hl,ae,by rw[ml,CO.len,hb];show e8 12 (κ (Aad n ey))<=11;rw[hl];unfold e8;rw[BF ae ae];have:=tt hn;omega⟩
theorem MI(S:G.next<=281474976710655/\(κ G.l)<=32/\∀x∈G.l,cK x=true)(hs:cO G.l<=128)(h1:12<=cO G.l)(ht:64<=κ G.P.C/\(κ G.P.C)<=400)(hc:11<=bN G.P.s)(h2:22<=bN G.P.s+κ G.ms):e0 G=true:=by have e:fu G=e8 (cO G.l) (κ G.P.C):=jt S ae ae;grind [fu,e8,BF,tt,e0]
def zS:List aj:=[118]
def j7(G:ct):ct:={G with next:=2,l:=[ef 1 zS 4]}
section
variable {G G2 G3:ct} {b:List aj} {n:Nat}
theorem Jy(N:g' 64 G b):cU G.next G.l zS 4=.ok (2,[ef 1 zS 4]):=by rw[N.nx,N.l];rfl
theorem WK(N:g' 64 G b):e0 (j7 G)=true:=by obtain⟨h1,h2,h3⟩:=cZ N.room N.few N.len;refine MI ⟨by show 2<=_;omega,by show 1<=32;omega,?_⟩ (by show cO [ef 1 zS 4]<=128;decide) (by simp[cO,ef,zS]) (by show 64<=κ G.P.C/\(κ G.P.C)<=400;omega) (by show 11<=bN G.P.s;omega) (by show 22<=bN G.P.s+κ G.ms;omega);intro x hx;have hx:=hx;rw[List.mem_singleton.mp hx];decide
theorem aaM(N:g' 64 G b){r:Int}(h:fW G (cU G.next G.l zS 4) id true r G2):r=0/\G2=j7 G:=by
 rw[Jy N]at h;rcases h with⟨n,h,_⟩|⟨nx,l',h,rfl,rfl⟩
 ·cases h
 ·cases h;grind [wu,j7,WK]
theorem ZE(N:g' 64 G b):bm (j7 G):=N.inv.create (by rw[N.nx];omega) (Jy N) (WK N)
theorem abQ(N:g' 64 G b):pU (j7 G):=⟨by show 2<=_;omega,by show G.P.st<=_;rw[N.st];omega,by show G.P.m<=_;rw[N.m];omega,by show G.u.dz<=_;rw[N.tx];omega⟩
theorem ZF:iU [ef 1 zS 4] zS 1=.ok 0:=aA
theorem aaK{x:ao}(h:cp x=cp (ef 1 zS 4)):e9 [x] zS 1=.ok 0:=by obtain⟨a1,a2,a3,a4,a5,a6,a7,a8,a9⟩:=x;simp only[cp,ef,ao.mk.injEq]at h;obtain⟨rfl,rfl,rfl,rfl,rfl,rfl,rfl,_,_⟩:=h;rfl
theorem Y4(N:g' 64 G b):¬Zj (j7 G):=by
 obtain⟨h1,h2,h3⟩:=cZ N.room N.few N.len;rintro(h|⟨G2,U,hf⟩)
 ·have h:bN G.P.s<3:=h;omega
 ·have c:=U.mR;have c:bN G.P.s<=bN G2.P.s+3:=c;have s:=U.sl;have e:cO (j7 G).l=73:=by rfl
  rw[e]at s;have l:κ G2.P.C=κ G.P.C:=U.len;have:=MI (G:=G2) U.sh ae (by simp[cO]) ae ae ae;simp_all
theorem Y5(N:g' 64 G b){r:Int}(h:lI (j7 G) zS 1 (decide (128 < [(97:aj)].length)) (jW [97]) r G2):r=0/\kY (j7 G) 0 1 (jW [97]) G2/\e0 G2=true:=by
 rcases h with⟨n,h,_⟩|⟨k,h,h2⟩
 ·grind [iU,j7,zS,ZF]
 ·have e:iU (j7 G).l zS 1=.ok 0:=ZF;rw[e]at h;cases h;rcases h2 with⟨h,_⟩|⟨_,_,h⟩|⟨_,h,t,f⟩
  ·cases h
  ·exact absurd h.2.2.2 (Y4 N)
  ·simp_all
theorem abS(N:g' 64 G b)(T:kY (j7 G) 0 1 (jW [97]) G2):∃x,G2.l=[x]/\cp x=cp (ef 1 zS 4):=by have h:G2.l.map cp=[cp (ef 1 zS 4)]:=T.strip;simp_all
theorem acp{x:ao}(h:cp x=cp (ef 1 zS 4)):x.id=1:=by
 have:(cp x).id=1:=nS
 exact this
theorem WM(T:kY (j7 G) 0 1 (jW [97]) G2){x:ao}(hx:G2.l=[x])(hs:cp x=cp (ef 1 zS 4)):tT G2.P.C x 1=some (jW [97]):=by have:=T.rd x aa 1 ae;rw[this,bI ⟨acp hs,rfl⟩]
theorem aao:jW [97]≠ey:=av
theorem abR(I:bm G2){x:ao}(hx:G2.l=[x])(hr:tT G2.P.C x 1=some (jW [97])):∃a b c:Int,[a,b,c].Nodup/\∀k∈[a,b,c],∃p,gf G2.P.C x.root p/\p.loc=k:=by
 have hm:x∈G2.l:=aa
 have T:=I.tr x hm;unfold tT at hr;have n10:eK G2.P.C x.root 10≠hole:=λe=>by grind [js,aao]
 have ab:eK G2.P.C x.root 10=a6 (bD G2.P.C (eK G2.P.C x.root 1)) 1:=iz G2.P.C x.root (i:=1) ae;have n1:eK G2.P.C x.root 1≠hole:=λe=>n10 (by grind [kN,gY]);have e1:eK G2.P.C x.root 1=a6 (bD G2.P.C x.root) 0:=dr G2.P.C x.root (k:=0) ae;have n0:x.root≠hole:=λe=>n1 (by grind [kN,gY]);have i0:gf G2.P.C x.root (eK G2.P.C x.root 0):=⟨n0,0,ae,rfl⟩;have i1:gf G2.P.C x.root (eK G2.P.C x.root 1):=⟨n1,1,ae,rfl⟩;have i2:gf G2.P.C x.root (eK G2.P.C x.root 10):=⟨n10,10,ae,rfl⟩;refine⟨(eK G2.P.C x.root 0).loc,(eK G2.P.C x.root 1).loc,(eK G2.P.C x.root 10).loc,?_,?_⟩
 ·have d:∀a b,a<73->b<73->gf G2.P.C x.root (eK G2.P.C x.root a)->gf G2.P.C x.root (eK G2.P.C x.root b)->a≠b->(eK G2.P.C x.root a).loc≠(eK G2.P.C x.root b).loc:=λa b ha hb ia ib hn e=>hn (T.inj a b ha hb (I.si.lc x hm x hm _ _ ia ib e) ia.1);grind
 ·grind
theorem xP:∀{L:List Int},L.Nodup->(∀k∈L,0<=k)->(L.map Adp).Nodup:=λ{L} h h0=>by refine List.Pairwise.map Adp ?_ (List.Pairwise.imp_of_mem (S:=λa b=>a∈L/\b∈L/\a≠b) (λ{a b} ha hb hn=>⟨ha,hb,hn⟩) h);rintro a b⟨ha,hb,hn⟩e;have:=h0 a ha;have:=h0 b hb;omega
theorem aaL(N:g' 64 G b)(T:kY (j7 G) 0 1 (jW [97]) G2)(I:bm G2){L:List Int}(hn:L.Nodup)(hL:∀k∈L,∃x∈G2.l,∃p,gf G2.P.C x.root p/\p.loc=k):κ L<=3:=by
 have c:bN G.P.s<=bN G2.P.s+3:=T.us.mR;have m:G2.ms=G.ms:=T.us.ms;have l:κ G2.P.C=κ G.P.C:=T.len;obtain⟨h1,h3⟩:=az N.room N.len;have rg:∀k∈L,4<=k/\k<1024:=λk hk=>by obtain⟨x,hx,p,hp,rfl⟩:=hL k hk;exact⟨(gf.loc (I.tr x hx) hp).1,(gf.loc (I.tr x hx) hp).2.1⟩
 have nB:((G2.ms.map (·.loc)).map Adp).Nodup:=xP I.md (λk hk=>by obtain⟨q,hq,rfl⟩:=List.mem_map.mp hk;have:=I.ml q hq;omega)
 have sB:∀j∈(G2.ms.map (·.loc)).map Adp,j<1024/\G2.P.s j=2:=λj hj=>by obtain⟨k,hk,rfl⟩:=List.mem_map.mp hj;obtain⟨q,hq,rfl⟩:=List.mem_map.mp hk;have:=I.ml q hq;exact⟨ae,I.rP hq⟩
 have sL:∀j∈L.map Adp,j<1024/\G2.P.s j=2:=λj hj=>by obtain⟨k,hk,rfl⟩:=List.mem_map.mp hj;have h:=rg k hk;obtain⟨x,hx,p,hp,rfl⟩:=hL k hk;exact⟨ae,I.taken hx hp⟩
 have aa:∀a∈(G2.ms.map (·.loc)).map Adp,∀c∈L.map Adp,a≠c:=λa ha c hc e=>by obtain⟨k,hk,rfl⟩:=List.mem_map.mp ha;obtain⟨q,hq,rfl⟩:=List.mem_map.mp hk;obtain⟨k,hk,rfl⟩:=List.mem_map.mp hc;have h:=rg k hk;obtain⟨x,hx,p,hp,rfl⟩:=hL k hk;have:=I.ml q hq;exact I.mx q hq x hx p hp ae
 have key:=eR (((Aak 1024).filter (λk=>decide (G2.P.s k=1)))++(((G2.ms.map (·.loc)).map Adp)++L.map Adp)) ((Aak 60).map (· + 4)) (List.nodup_append.mpr ⟨(List.nodup_range.filter _),List.nodup_append.mpr ⟨nB,(xP hn (λk hk=>aQ)),aa⟩,λa ha c hc e=>by
  have h1:=jk (List.mem_filter.mp ha).2;rcases List.mem_append.mp hc with hc|hc
  ·have:=(sB c hc).2;rw[<-e]at this;omega
  ·have:=(sL c hc).2;rw[<-e]at this;omega⟩) (λj hj=>by
  have hne:G2.P.s j≠0:=by
   rcases List.mem_append.mp hj with hj|hj
   ·have h1:=jk (List.mem_filter.mp hj).2;omega
   ·rcases List.mem_append.mp hj with hj|hj
    ·have:=(sB j hj).2;omega
    ·have:=(sL j hj).2;omega
  have:=mt (I.s0 j).mpr hne;exact List.mem_map.mpr ⟨j-4,List.mem_range.mpr ae,ae⟩)
 simp only[Aaf,Aac,Acm]at key;have e:bN G2.P.s=κ ((Aak 1024).filter (λk=>decide (G2.P.s k=1))):=rfl;grind
theorem Y3(N:g' 64 G b)(T:kY (j7 G) 0 1 (jW [97]) G2)(I:bm G2){x:ao}(hx:G2.l=[x])(hs:cp x=cp (ef 1 zS 4)){ks:List Int}{f:Int->Bool}(hk:ks.Nodup)(hf:∀k,(k∈ks/\f k=true)↔∃y∈G2.l,∃p,gf G2.P.C y.root p/\p.loc=k):κ (ks.filter f)=3:=by
 have up:=aaL N T I (L:=ks.filter f) (hk.filter f) (λk hk=>(hf k).mp (List.mem_filter.mp hk));obtain⟨a,c,d,hn,h⟩:=abR I hx (WM T hx hs);have low:=eR [a,c,d] (ks.filter f) hn (λk hk=>by obtain⟨p,hp,e⟩:=h k hk;exact List.mem_filter.mpr ((hf k).mpr ⟨x,aa,p,hp,e⟩))
 grind
end
section
open Go.Shelf
theorem RR(w:af)(base:Nat)(v:ah)(l:List Int)(h:Own bC 3 w base v l)(hl:κ l<=5000):Aae Aag 61 #[v] w λe w'=>e=rt #[]/\∃l',l'.Perm l/\aD bC w' v l'/\Touch (λb=>v.ownBlock=some b) w w':=by
 by_cases h0:l=[]
 ·subst h0;have hr:=h.cu;obtain⟨a,cap,hv⟩:=hr.slice;rw[Aa4]at hv;subst hv;have ad:=Any.slices_Sort_int_none Jl a cap w;change Aae Aag 61 _ _ _ at ad;refine ad.mono λe w' hh=>?_;grind [Touch.refl]
 ·have ag:=FB.2 h0;obtain⟨_,h2⟩:=id h;rcases h2 with⟨_,hz⟩|⟨g,cap,cur,rfl,aI,ai,hn,hm,aC,aJ⟩
  ·omega
  obtain⟨g',al,e1,_,hlt,hc,ao,_⟩:=h.row ag;simp only[Abg,Aai,Abq,and_true,true_and]at e1;obtain⟨rfl,rfl⟩:=e1;have hH:Holds (Ack .i64) w g 0 l.toArray:=λj hj=>by grind [bC]
  have ad:=Any.slices_Sort_int Jl g 0 cap l w hH hlt ae;change Aae Aag 61 _ _ _ at ad;refine ad.mono λe w' hh=>?_;obtain⟨he,n,os,hw⟩:=hh;refine⟨he,l.mergeSort (λx y=>decide (x<=y)),List.mergeSort_perm _ _,?_,?_⟩
  ·have aN:κ (l.mergeSort (λx y=>decide (x<=y)))=κ l:=List.length_mergeSort _;have aE:=holds_grow (Ack .i64) (putRow (Ack .i64) (Sort.ahead w n) g 0 (l.mergeSort (λx y=>decide (x<=y))).toArray) os g 0 _ ab (holds_putRow (Ack .i64) (Sort.ahead w n) g 0 l.toArray (l.mergeSort (λx y=>decide (x<=y))).toArray (holds_ahead _ w n g 0 _ hH) aq);rw[hw];generalize l.mergeSort (λx y=>decide (x<=y))=l' at *;rw[<-aN];refine .inr ⟨g,0,cap,rfl,ae,ae,hm,λi hi=>?_⟩;have:=(aE i ae).1;grind [bC]
  ·rw[hw];unfold putRow mapBlock Sort.ahead grow;exact Of
theorem G7{l l':List Int}(h:l'.Perm l):j6 l'=j6 l:=by unfold j6;congr 1;grind [sx]
end
def yi(G:ct)(x:ao):List au:=yr x.root (bD G.P.C x.root) (λk=>bD G.P.C (a6 (bD G.P.C x.root) k)) 0
def h7(G:ct)(k:Nat):List p1:=(G.l.take k).foldl (λL x=>ig false L (yi G x)) (ig true [] G.ms)
section
variable {G:ct}
theorem l2(I:bm G){x:ao}(hx:x∈G.l)(p:au):p∈yi G x↔gf G.P.C x.root p:=by unfold yi;rw[Hy (I.tr x hx)];exact⟨λh=>h.1,λh=>⟨h,by have:=(I.si.brt x hx p h).1;omega⟩⟩
def R2(I:bm G){x:ao}(hx:x∈G.l):κ (yi G x)<=73:=xn (λj hj=>cN ((I.tr x hx).S hj))
theorem pc{k:Nat}(hk:k<κ G.l):h7 G (k+1)=ig false (h7 G k) (yi G (recAt G.l k)):=by unfold h7;rw[et hk,Fl,b9 hk];rfl
theorem kK(I:bm G):∀(k:Nat),k<=κ G.l->∀x∈h7 G k,(x.1∈G.ms/\x.2=true)\/((∃y∈G.l,gf G.P.C y.root x.1)/\x.2=false)
 | 0,_,x,hx=>by
  rcases pd (show x∈ig true [] G.ms from hx)with h|h
  ·cases h
  ·exact .inl h
 | k+1,hk,x,hx=>by
  rw[pc ae]at hx;rcases pd hx with h|⟨h,h2⟩
  ·exact kK I k ae x h
  ·have hm:=aI (show k<κ G.l from ae);exact .inr ⟨⟨_,hm,(l2 I hm x.1).mp h⟩,h2⟩
theorem Iv{q:au}(hq:q∈G.ms):∀(k:Nat),k<=κ G.l->∃x∈h7 G k,x.1.loc=q.loc
 | 0,_=>tn (own:=true) (L:=[]) hq
 | k+1,hk=>by obtain⟨x,hx,e⟩:=Iv hq k ae;exact⟨x,by rw[pc ae];exact lf hx,e⟩
theorem Bu(I:bm G){j:Nat}(hj:j<κ G.l){q:au}(hq:gf G.P.C (recAt G.l j).root q):∀(k:Nat),j<k->k<=κ G.l->∃x∈h7 G k,x.1.loc=q.loc
 | 0,h,_=>ae
 | k+1,h,hk=>by
  rw[pc ae];by_cases e:j=k
  ·subst e;exact tn ((l2 I (aI hj) q).mpr hq)
  ·obtain⟨x,hx,e2⟩:=Bu I hj hq k ae ae;exact⟨x,lf hx,e2⟩
theorem abm(I:bm G){q:au}(hq:q∈G.ms):0<=q.loc/\q.loc<=4096:=by have:=I.ml q hq;omega
theorem abO(I:bm G){x:ao}(hx:x∈G.l){p:au}(hp:gf G.P.C x.root p):0<=p.loc/\p.loc<=4096:=by have:=gf.loc (I.tr x hx) hp;omega
theorem ZZ(I:bm G):SI [] G.ms:=by refine⟨aq,λp hp q hq e=>?_,λq hq=>abm I hq⟩;have:=I.md;obtain⟨i,hi,rfl⟩:=jP hp;obtain⟨j,hj,rfl⟩:=jP hq;have:=List.pairwise_iff_getElem.mp this;grind
theorem Z0(I:bm G){k:Nat}(hk:k<κ G.l):SI (h7 G k) (yi G (recAt G.l k)):=by
 have hm:=aI hk;refine⟨λx hx q hq e=>?_,λp hp q hq e=>I.si.lc _ hm _ hm p q ((l2 I hm p).mp hp) ((l2 I hm q).mp hq) e,λq hq=>abO I hm ((l2 I hm q).mp hq)⟩;have hq:=(l2 I hm q).mp hq;rcases kK I k ae x hx with⟨h,_⟩|⟨⟨y,hy,h⟩,_⟩
 ·exact absurd e.symm (I.mx _ h _ hm q hq)
 ·exact I.si.lc y hy _ hm x.1 q h hq e
theorem Ix(I:bm G)(i:Int):(∃x∈h7 G (κ G.l),x.1.loc=i)↔∃n:Nat,i=(n:Int)/\n<1024/\G.P.s n=2:=by
 constructor
 ·rintro⟨x,hx,rfl⟩;have h:0<=x.1.loc/\x.1.loc<1024:=by
   rcases kK I _ (aE _) x hx with⟨h,_⟩|⟨⟨y,hy,h⟩,_⟩
   ·have:=I.ml _ h;omega
   ·have:=gf.loc (I.tr y hy) h;omega
  refine⟨x.1.loc.toNat,ae,ae,?_⟩;rcases kK I _ (aE _) x hx with⟨h,_⟩|⟨⟨y,hy,h⟩,_⟩
  ·exact I.rP h
  ·exact I.taken hy h
 ·rintro⟨n,rfl,hn,h2⟩;rcases(I.s2 n hn).mp h2 with⟨x,hx,p,hp,e⟩|⟨q,hq,e⟩
  ·grind [kL,Bu]
  ·obtain⟨y,hy,ey⟩:=Iv hq (κ G.l) (aE _);grind
def VH(L:List p1)(k:Int):Bool:=decide (∃x∈L,x.1.loc=k/\x.2=false)
theorem GD(I:bm G)(k:Int):VH (h7 G (κ G.l)) k=true↔∃y∈G.l,∃p,gf G.P.C y.root p/\p.loc=k:=by
 unfold VH;rw[decide_eq_true_eq];constructor
 ·rintro⟨x,hx,e,h2⟩;rcases kK I _ (aE _) x hx with⟨_,h⟩|⟨⟨y,hy,h⟩,_⟩
  ·simp_all
  ·grind
 ·rintro⟨y,hy,p,hp,e⟩;obtain⟨j,hj,rfl⟩:=kL hy;obtain⟨x,hx,ex⟩:=Bu I hj hp (κ G.l) hj (aE _);rcases kK I _ (aE _) x hx with⟨h,_⟩|⟨_,h⟩
  ·exact absurd ex.symm (I.mx _ h _ hy p hp)
  ·grind
structure Seen(G:ct)(ks:List Int):Prop where
 nd:ks.Nodup
 all:∀k,k∈ks↔∃x∈h7 G (κ G.l),x.1.loc=k
theorem Seen.set(I:bm G){ks:List Int}(S:Seen G ks):j6 ks=aB (gW G.P.s) 4096:=by unfold j6;congr 1;funext i;unfold sx gW;rw[E',S.all,Ix I];grind
end
theorem aby(x y:bM)(W:af):(Ach 10000 139 (.agg (lu x)) (.agg (lu y))).run Aag W=.ok (decide (x=y)) W:=by
 obtain⟨a,b⟩:=x;obtain⟨c,d⟩:=y;have e:decide ((⟨a,b⟩:bM)=⟨c,d⟩)=((a==c) && (b==d)):=aQ
 rw[e];clear e;show(Ach (9999+1) 139 (.agg #[i6 a,i6 b]) (.agg #[i6 c,i6 d])).run Aag W=_;rw[yX W 9999 139 _ _ aA aq];cases h:(a==c)<;>cases h1:(b==d);all_goals go_simp
theorem aaC{a:Act}{o:Abn}(x1 x2:bU)(ho:o.op=.binOp .neq 139 x1 x2 139)(y:bM)(h1:a.eval x1=.agg (lu y))(h2:a.eval x2=.agg (lu y))(W:af):(Abt a.eval o).run Aag W=.ok (.value (.bool false)) W:=by
 have e:(Ach Op.maxDepth 139 (.agg (lu y)) (.agg (lu y))).run Aag W=.ok (decide (y=y)) W:=aby y y W;rw[show decide (y=y)=true from aq]at e;unfold Abt;simp only[ho,h1,h2,binOp,Op.equal];have g:(eqGuard .neq 139 x1 x2 (.agg (lu y)) (.agg (lu y))).run Aag W=.ok () W:=by unfold eqGuard;go_simp
 simp only[Aay,g,Aax,Ac7];rw[e];rfl
theorem ZC{a:Option Adr}{l:List bM}(h:dX w (.slice a n cap) l)(hk:k<κ l):∃b off,a=some ⟨b,off,none⟩/\b<w.heap.size/\w.rangeAt b (off+k*2) (lu l[k]).toList:=by obtain⟨b,off,e,hb,_,hc⟩:=aH.get h Cj ae;exact Gj
theorem Ko(w:af)(va vb:ah)(l:List bM)(ha:dX w va l)(hb:dX w vb l)(hl:κ l<=100000):Aae Aag 63 #[va,vb] w λe w'=>e=.returned (.bool true)/\Up w w':=by
 obtain⟨a,ca,rfl⟩:=aH.slice ha;obtain⟨b,cb,rfl⟩:=aH.slice hb;obtain⟨n,hn⟩:=bE (κ l);rw[<-hn]at ha hb hl ⊢;obtain⟨HA,HB,HN⟩:=aV ha hb hn;have hne:((n:Int) != (n:Int))=false:=aq
 clear hn;go_in;go_wp2;go_loopw [13] (λi wr=>∃k:Nat,k<=n/\i=i6 k/\Up w wr) (λi _=>n-(Aau i).toNat)
 case atStart=>exact⟨0,bT _,rfl,Up.refl _⟩
 case round=>
  obtain⟨k,hk,rfl,ar⟩:=hrel;have UR:=an ar;by_cases hlt:k<n
  ·have b3:((k:Int)<(n:Int))=True:=by simp;omega
   have KA:=an (show k<κ l from di);obtain⟨ba,oa,ea,_,ra⟩:=ZC (aH.up HA UR) KA.out;obtain⟨bb,ob,eb,_,rb⟩:=ZC (aH.up HB UR) KA.out;subst ea;subst eb;obtain⟨y,hy⟩:=bE (l[k]'KA.out);rw[<-hy]at ra rb;obtain⟨RA,RB⟩:=aw ra rb;clear hy;go_wp2;have II:=an (TV y);refine e7 (S:=λW=>W.rangeAt ba (oa+k*2) (lu y).toList/\W.rangeAt bb (ob+k*2) (lu y).toList) aA ?_;change Acp _ _ _ _ _ 9 #[false,false,false,false,false,false,false,false,false] _ (wr.drew);have ud:=Up.drew (Up.refl wr);have F0:(λW=>W.rangeAt ba (oa+k*2) (lu y).toList/\W.rangeAt bb (ob+k*2) (lu y).toList) wr.drew:=⟨ud.range RA,ud.range RB⟩;generalize wr.drew=w3 at *;refine o8 ?_;refine tb 3 rfl (yp (λW h=>h.1) II underlying139) ?_;refine ta 4 ?_;refine ta 5 ?_;refine ta 6 ?_;refine tb 7 rfl (yp (λW h=>h.2) II underlying139) ?_;refine tb 8 rfl (ya (h:=aaC (.tmp 19) (.tmp 23) rfl y al al)) ?_;refine nr ?_;go_wp2;have e1:(k:Int)+1=((k+1:Nat):Int):=ae
   have KN:=an hlt;go_roundw
   case rel=>exact⟨k+1,hlt,rfl,(UR.trans ud)⟩
   case measure=>simp only[Aau];have:=KN.out;omega
  ·have b3:((k:Int)<(n:Int))=False:=by simp;omega
   go_wp2;go_ret;simp;omega
def lS(vr vt:ah)(tw:Bool)(cm blocks:Int):Array ah:=#[vr,vt,.bool tw,.int .i64 cm,.int .i64 blocks]
theorem JR(w:af)(va vb:ah)(l:List bM)(ha:dX w va l)(hb:dX w vb l)(hl:κ l<=100000)(cm blocks:Int):Aae Aag 23 #[.agg (lS va vb false cm blocks)] w λe w'=>e=.returned (.bool true)/\Up w w':=by obtain⟨u1,B1⟩:=az (ai w (.cells (lS va vb false cm blocks) 65)) (aF.new w 65 (lS va vb false cm blocks));have c0:(w.alloc (.cells (lS va vb false cm blocks) 65)).cell? (ad w.heap.size 0)=some va:=B1.cell 0;have c1:(w.alloc (.cells (lS va vb false cm blocks) 65)).cell? (ad w.heap.size 1)=some vb:=B1.cell 1;have EQ:=an (Ko _ va vb l (aH.up ha u1) (aH.up hb u1) hl);have c2:(w.alloc (.cells (lS va vb false cm blocks) 65)).cell? (ad w.heap.size 2)=some (.bool false):=B1.cell 2;have C2:=an c2;obtain⟨a,ca,rfl⟩:=aH.slice ha;obtain⟨b,cb,rfl⟩:=aH.slice hb;clear c2;go_in;go_wp2_with(refine arm ?_);refine EQ.mono ?_;rintro e w2⟨rfl,u2⟩;have U2:=an (u1.trans u2);have c2:=u2.cell C2;clear c0 c1;go_wp2;go_ret;exact⟨rfl,U2⟩
section
open Go.Maps
theorem ak.fg{f:α->List ah}{v:ah}{xs:List α}(h:ak f k e w base v xs){b:Nat}(hb:v.ownBlock=some b):∃C,aF w b e C:=by
 obtain⟨_,h2⟩:=h;rcases h2 with⟨rfl,_⟩|⟨g',cap,cur,rfl,_,hh,_⟩
 ·simp[Aan]at hb
 ·simp[Aan]at hb;subst hb;exact⟨cur,hh⟩
theorem abx{F:Nat->Prop}{w w':af}{v:ah}(h:bc w 0 v l)(T:Touch F w w')(hF:∀b C,(aF w b 90 C\/aF w b 87 C)->¬F b):bc w' 0 v l:=by obtain⟨ys,y1,y2,y3⟩:=h;exact⟨ys,y1,ak.ax y2 T (λb hb hf=>by obtain⟨C,hC⟩:=ak.fg y2 hb;exact hF b C (.inl hC) hf),λy hy=>ak.ax (y3 y hy) T (λb hb hf=>by obtain⟨C,hC⟩:=ak.fg (y3 y hy) hb;exact hF b C (.inr hC) hf)⟩
theorem bL.Yp{p gb:Nat}(A:bL w p gb H G){b:Nat}{C:Array ah}(hb:aF w b t C)(h1:vA t=false)(h2:t≠82):¬(PF H b\/b=p):=by
 rintro((rfl|rfl|h)|rfl)
 ·exact e5 A.ga.pa.fg hb uU rfl
 ·exact sR hb A.ga.pa.map uU rfl
 ·exact A.ga.pa.dev.jV hb uU uU uU h
 ·exact e5 A.fg hb (λe=>h2 e.symm) rfl
theorem bh.abu{w w':af}{p gb mb kb n:Nat}(h:bh w mb kb n M)(A:bL w p gb H G)(T:Touch (λk=>PF H k\/k=p) w w')(hk:¬(PF H kb\/kb=p)):bh w' mb kb n M:=by obtain⟨vb,a,b,c⟩:=h;exact⟨vb,a.ax T (A.Yp a av av),abx b T (λk C hC=>hC.elim (λh=>A.Yp h av av) (λh=>A.Yp h av av)),c.ax T hk⟩
def Yu(t:Aab):Bool:=vA t || decide (t=153) || decide (t=90) || decide (t=87) || decide (t=82)
def Zb(w:af)(b:Nat):Prop:=(∃t C,aF w b t C/\Yu t=false)\/∃es c,w.heap[b]?=some (.map es c)
theorem PB{C:Array ah}(hb:aF w g t C)(ht:Yu t=true):¬Zb w g:=by
 rintro(⟨t',C',aI,h⟩|⟨es,c,h⟩)
 ·grind [e5]
 ·grind [aF]
theorem bL.aa8{w w':af}{p gb:Nat}(A:bL w p gb H G){F:Nat->Prop}(T:Touch F w w')(hF:∀b,F b->Zb w b):bL w' p gb H G:=by
 have K:∀{g:Nat}{t:Aab}{C:Array ah},aF w g t C->Yu t=true->¬F g:=λhb ht h=>PB hb ht (hF _ h);have R:∀{α:Type}{f:α->List ah}{k:Nat}{e:Aab}{v:ah}{xs:List α},ak f k e w 0 v xs->Yu e=true->∀b,v.ownBlock=some b->¬F b:=λh he b hb=>by obtain⟨C,hC⟩:=ak.fg h hb;grind
 obtain⟨vb,vm,g1,⟨ys,y1,y2,y3⟩,om,pa⟩:=A.ga;refine⟨A.fg.ax T (K A.fg rfl),vb,vm,g1.ax T (K g1 rfl),⟨ys,y1,ak.ax y2 T (R y2 rfl),λy hy=>ak.ax (y3 y hy) T (R (y3 y hy) rfl)⟩,ak.ax om T (R om rfl),pa.ax T ?_⟩;rintro b(rfl|rfl|h)
 ·exact K pa.fg rfl
 ·obtain⟨C,hC,_⟩:=pa.map;exact K hC rfl
 ·obtain⟨v,D,_⟩:=pa.dev;rcases h with rfl|rfl|rfl|h
  ·exact K D.dev rfl
  ·exact K D.b1 rfl
  ·exact K D.b2 rfl
  ·exact R D.bQ rfl b h
theorem bL.model{w w':af}{p gb mb kb n:Nat}(A:bL w p gb H G)(h:bh w mb kb n M)(T:Touch (λb=>b=mb\/b=kb) w w'):bL w' p gb H G:=by
 obtain⟨vb,a,b,c⟩:=h;refine A.aa8 T (λb hb=>?_);rcases hb with rfl|rfl
 ·exact .inl ⟨_,_,a,rfl⟩
 ·obtain⟨_,D,⟨es,clock,hb,_⟩,_⟩:=c;exact .inr ⟨_,_,hb⟩
theorem XN(o:oC)(vd vk:ah):(prog.info? 33).map (·.size)=some (gx o vd vk).size:=al
def aaW(p mb kb n:Nat)(H:aR)(G:ct)(M:cR)(o:oC)(w:af)(e:Ab2)(w':af):Prop:=e=.returned (.bool true)/\∃s r G3 gb' H' vp M',JO G o s r G3/\Step G M o s r M' G3/\bL w' p gb' H' G3/\bh w' mb kb (n+1) M'/\H'.h={H.h with vp:=vp}/\Touch (λk=>PF H k\/k=p\/k=mb\/k=kb) w w'/\n2 H H' w.heap.size vp
def rsv(F:Nat->Prop):As:=⟨F,λw=>∀n,F n->n<w.heap.size,λh T _ n hn=>ej (h n hn) T.size⟩
theorem S9(w:af)(p gb:Nat)(H:aR)(G:ct)(A:bL w p gb H G)(I:bm G)(B:pU G)(mb kb n:Nat)(M:cR)(AM:bh w mb kb n M)(hn:n<900000)(SM:oD G M)(m1:M.st<=100000000)(m2:M.made<=100000000)(o:oC)(ad ak:Option Adr)(nd cd nk ck:Nat)(aG:o.kind=4->M.st=G.P.st)(hi:SN w (.slice ad nd cd) o)(hd:κ o.data<=140737488351232)(hb1:o.data≠[]->∀k,(Acr ad nd cd).ownBlock=some k->k≠mb/\k≠kb/\¬PF H k/\k≠p/\k<w.heap.size)(aY:∀k,(PF H k\/k=p)->k≠mb/\k≠kb):Aae Aag 9 #[.pointer (some ⟨p,0,none⟩),.pointer (some ⟨mb,0,none⟩),.agg (gx o (.slice ad nd cd) (.slice ak nk ck))] w (aaW p mb kb n H G M o w):=by
 obtain⟨IM,N⟩:=aw (T9 I B SM m1 m2) (IF I B SM o);obtain⟨w0,rfl⟩:=bE w;have aa:∀k,(PF H k\/k=p)->k<w0.heap.size:=λk hk=>hk.elim (λh=>A.ga.pa.lt k h) (λh=>by subst h;exact A.fg.lt);have Izq:=an (XN o (.slice ad nd cd) (.slice ak nk ck));have s:=Fr.start w0;go_in;go_wp2_with(refine fw s ?_;intro _ w s);refine(Yw w p gb H G (A.up s.pure) I B o (.slice ad nd cd) (.slice ak nk ck) ⟨hi.nm,hi.to,aD.up hi.bs s.pure⟩ hd).mono ?_;rintro e w3⟨sc,r,G3,gb',H',vp,rfl,hR,hP,hH,hT,hV⟩;obtain⟨b3,g3⟩:=az (s.fg (t:=33) gG) ((s.f _ (df (a:=bk _ 33 _)) _ rfl).2.resolve_left id);replace b3:=(b3.ax hT (λh=>by have:=aa _ h;omega)).range;have M3:=(AM.up s.pure).abu (A.up s.pure) hT (λh=>(aY _ h).2 rfl);obtain⟨O3,T3⟩:=az ((aD.up hi.bs s.pure).WC hT (λhne k hk h=>by have h5:=hb1 hne k hk;exact h.elim h5.2.2.1 h5.2.2.2.1)) (Touch.and (Touch.bP (F:=λk=>PF H k\/k=p\/k=mb\/k=kb) s.pure) hT (λb hb=>.inl (hb.imp id .inl)));obtain⟨IR,SR⟩:=aw (show(prog.info? 60).map (·.size)=some (aC sc.val).size from by rw[dw,bX,sc.2]) (show(aC aM).size=(aC sc.val).size from by rw[bX,bX,sc.2];rfl);have S1:=s.pure.size;obtain⟨M',ST⟩:=Wu I B SM aG hR;have PK:(r=71/\hG o=true/\(lb M o).2.1=0)\/(r=71/\hG o=false/\r=((lb M o).2.1:Int)/\sc=(lb M o).1)\/((r==71)=false/\r=((lb M o).2.1:Int)/\sc=(lb M o).1):=by
  rcases ST.ag with⟨h1,h2,h3⟩|⟨h1,h2,h3⟩
  ·exact .inl ⟨h1,h2,h3⟩
  ·by_cases ab:r=71
   ·exact .inr (.inl ⟨ab,by simpa[ab]using h1,h2,h3⟩)
   ·exact .inr (.inr ⟨by simpa using ab,h2,h3⟩)
 obtain⟨MS,HRR,aj⟩:=aV ST hR hH;clear hR hH ST aG I B SM A AM;obtain⟨s,OB⟩:=az (Fr.start w3) (λW (u:Up w3 W)=>show SN W (.slice ad nd cd) o from⟨hi.nm,hi.to,aD.up O3 u⟩);rcases PK with⟨h1,h2,h3⟩|⟨h1,h2,h3⟩|⟨h1,h3⟩
 case' inl=>
  subst h1;go_wp2_with(refine fw s ?_;intro _ w s);refine(DK w o (.slice ad nd cd) (.slice ak nk ck)).mono ?_;refine er ?_;intro w u s;have H2:=an h2;rw[h2];have z8:(((lb M o).2.1:Int)==0)=true:=by rw[h3];rfl
  replace h3:=an h3;clear h2;go_wp2_with(refine fw s ?_;intro _ w s);refine ka _ s (λ_ h=>h) (λw s=>?_) al;repeat refine kt ?_
  refine kj 2 ?_;refine xJ (λw _ s=>K5 w mb kb n M (M3.up s.pure) IM.out.hl) ?_;rintro w _ s _ w'⟨m2,k2,rfl,aB,ao,a2,u⟩;have e2:w3.heap.size<=m2/\w3.heap.size<=k2:=⟨bK s.pure.size aB,bK s.pure.size ao⟩;have l2:m2<w'.heap.size/\k2<w'.heap.size:=by obtain⟨_,a,_,c⟩:=a2;exact⟨a.lt,c.lt⟩
  refine⟨_,rsv (λb=>b=m2\/b=k2),rfl,.one u (λb hb=>by rcases hb with rfl|rfl<;>first|exact l2.1|exact l2.2) (λb hb=>by rcases hb with rfl|rfl<;>exact⟨cj,ae⟩),?_⟩;repeat(first|refine kx ?_|refine kt ?_)
  refine Zn (λw u s=>Bx w m2 k2 n M (a2.up u) ae IM o (.slice ad nd cd) (.slice ak nk ck) (OB w s.pure) (λhne k hk=>?hne) N) ?_
  case hne=>have h5:=(hb1 hne k hk).2.2.2.2;have:=hT.size;exact⟨ae,ae⟩
  rintro w _ s _ w'⟨rfl,-,t2⟩;refine⟨_,_,rfl,.Aj s (B:=rsv (λb=>b=m2\/b=k2)) .head t2 (λb hb=>?hb) (λb hb=>?hF),Xc,?_⟩
  case hb=>exact ej (s.p _ df b hb) t2.size
  case hF=>exact⟨ej (s.p _ df b hb) t2.size,.inl hb⟩
  obtain⟨aq,au,ar⟩:=aV (show(prog.info? 60).map (·.size)=some (aC (lb M o).1.val).size from by rw[dw,bX,(lb M o).1.2]) (show(aC aM).size=(aC (lb M o).1.val).size from by rw[bX,bX,(lb M o).1.2];rfl) (dx (lb M o).1.val);repeat(first|refine kx ?_|refine kt ?_)
  refine kn (λ_ w u s=>?_);refine ks (λw s=>?_);repeat(first|refine kx ?_|refine kt ?_)
  refine kd (λw u s=>?_);go_wp2_with(refine fw s ?_;intro _ w s);refine bj ?_;have PK:M'=M:=by
   rcases MS.out.pick with⟨_,_,h⟩|⟨h,_⟩
   ·exact h
   ·exact absurd ⟨rfl,H2⟩ h
  subst PK;exact⟨rfl,sc,71,G3,gb',H',vp,_,HRR,MS,hP.up s.pure,(M3.up s.pure).more,aj,T3.iZ s.pure,hV.mono S1⟩
 case' inr.inl=>
  replace h3:=an h3;have H2:=an h2;have aE:(r==71)=true:=zn
  clear h1;go_wp2_with(refine fw s ?_;intro _ w s);refine(DK w o (.slice ad nd cd) (.slice ak nk ck)).mono ?_;refine er ?_;intro w u s;rw[h2];clear h2;have PK:M'=(lb M o).2.2:=by
   rcases MS.out.pick with⟨h4,h5,_⟩|⟨_,h⟩
   ·rw[H2.out]at h5;cases h5
   ·exact h
  replace PK:=an PK
 case' inr.inr=>
  replace h3:=an h3;have PK:M'=(lb M o).2.2:=by
   rcases MS.out.pick with⟨h4,h5,_⟩|⟨_,h⟩
   ·rw[h4]at h1;cases h1
   ·exact h
  replace PK:=an PK
 case' inr.inl|inr.inr=>
  obtain⟨ds,ay⟩:=bE ((lb M o).1);obtain⟨dc,ai⟩:∃x:Int,x=((lb M o).2.1:Int):=⟨_,rfl⟩;obtain⟨HC,HS⟩:=aw (h3.out.1.trans ai.symm) (h3.out.2.trans ay.symm);have rr:(r==dc)=true:=by rw[HC.out];simp
  clear h3;obtain⟨aq,au,ar⟩:=aV (show(prog.info? 60).map (·.size)=some (aC ds.val).size from by rw[dw,bX,ds.2]) (show(aC aM).size=(aC ds.val).size from by rw[bX,bX,ds.2];rfl) (dx ds.val);have EQ:∀W:af,(Ach 10000 60 (.agg (aC sc.val)) (.agg (aC ds.val))).run Aag W=.ok true W:=λW=>by rw[LQ sc.val ds.val sc.2 ds.2 W,HS.out,h8 rfl]
  go_wp2_with(refine fw s ?_;intro _ w s);have M5:=M3.up s.pure;have DD:=Bx _ mb kb n M M5 ae IM o (.slice ad nd cd) (.slice ak nk ck) (OB _ s.pure) (λhne k hk=>⟨(hb1 hne k hk).1,(hb1 hne k hk).2.1⟩) N;unfold Px at DD;rw[<-ay,<-ai]at DD;clear ay ai;refine DD.mono ?_;rintro e w6⟨rfl,m6,t6⟩;have D5:=s.fg (t:=60) gG;obtain⟨D6,P6,T6,s⟩:=iv ((D5.ax t6 (λh=>bh.IC M5 D5 av h)).range) ((hP.up s.pure).model M5 t6) ((T3.iZ s.pure).and t6 (λb hb=>.inl (hb.elim (λh=>.inr (.inr (.inl h))) (λh=>.inr (.inr (.inr h)))))) (Fr.start w6);go_wp2_with(refine fw s ?_;intro _ w s);refine bj ?_;rw[<-PK.out]at m6;exact⟨rfl,sc,r,G3,gb',H',vp,_,HRR,MS,P6.up s.pure,m6.up s.pure,aj,T6.iZ s.pure,hV.mono S1⟩
end
def dv(h:iM)(C:List cS)(m:Nat)(fl:Bool):As:=⟨cM h,λw=>DA w h C m fl,λh T hf=>h.ax T hf⟩
def ZX(h:iM)(mb:Nat)(C:List cS)(m:Nat)(fl:Bool)(sl:Nat->Nat):As:=⟨λn=>cM h n\/n=mb,λw=>DA w h C m fl/\b' w mb sl,λh T hf=>⟨h.1.ax T λb hb=>hf b (.inl hb),a7.ax h.2 T (hf _ (.inr rfl))⟩⟩
def mr(b:Nat)(v:ah)(ys:List gH)(u:ah)(sp:List bM)(z:ah)(ps:List au):As:=jn (os b v ys) (jn (GK r6 2 139 b u sp) (op b z ps))
theorem Cs(h:aF w g t (uC u)):w.rangeAt g 2 (be u.iV).toList:=λj v hj=>by
 match j,hj with
 | 0,hj=>exact(h.cell 2).trans hj
 | 1,hj=>exact(h.cell 3).trans hj
 | 2,hj=>exact(h.cell 4).trans hj
 | (k+3),hj=>simp[be]at hj
section
variable {P:bp} {ops:Array Abn} {Q:Exit->Act->af->Prop} {F0:Nat->Prop} {x0 x w w':af} {L0 L L':List As} {a:Act} {o:Abn} {J:List Nat} {k mb pb:Nat} {h:iM} {C:List cS} {m:Nat} {fl:Bool} {sl aa:Nat->Nat} {H:aR} {vp:ah} {P':bq}
theorem Fr.Zm(s:Fr F0 x0 L w)(hm:dv h C m fl∈L:=by exact gG):DA w h C m fl:=s.p _ hm
theorem Fr.gds(s:Fr F0 x0 L w)(hm:ZX h mb C m fl sl∈L:=by exact gG):DA w h C m fl/\b' w mb sl:=s.p _ hm
theorem Fr.dt(s:Fr F0 x0 L w)(d:DA w' h C m fl)(t:Touch (cM h) w w')(hU:mW L (dv h C m fl) (dv h C m fl) L':=by exact wc):Fr F0 x0 L' w':=s.Aj hU t d λn h=>⟨d.lt n h,.inl h⟩
theorem Fr.sn(s:Fr F0 x0 L w)(S:b' w' w.heap.size sl)(u:Up w w')(hU:mW L (dv h C m fl) (ZX h w.heap.size C m fl sl) L':=by exact wc):Fr F0 x0 L' w':=s.Aj hU (Touch.bP u) ⟨(s.p _ hU.mem).up u,S⟩ λn h=>by
 have h1:=a7.lt S;rcases h with h|h
 ·exact⟨((s.p _ hU.mem).up u).lt n h,.inl h⟩
 ·exact⟨ae,.inr ae⟩
theorem yo.pn{st ba:Nat}(s:Fr F0 x L w)(A:PA w' ⟨w.heap.size,mb,h⟩ ⟨C,m,fl,sl,st,ba⟩)(u:Up w w')(hU:mW L (ZX h mb C m fl sl) (pl x ⟨w.heap.size,mb,h⟩ h.vp ⟨C,m,fl,sl,st,ba⟩) L':=by exact wc):yo F0 x L w L' w':=.Aj s hU (Touch.bP u) ⟨A,λ_ h=>.inl h⟩ λn hn=>⟨A.lt n hn,by
  rcases hn with hn|hn|hn
  ·exact .inr (za hn.symm)
  ·exact .inl (.inr hn)
  ·exact .inl (.inl hn)⟩
theorem Fr.tx(s:Fr F0 x L w)(S:b' w' mb sl)(T:Touch (·=mb) w w')(hU:mW L (pl x ⟨pb,mb,h⟩ h.vp P') (ZX h mb P'.C P'.m P'.fl sl) L':=by exact wc):Fr F0 x L' w':=by have A:=(s.p _ hU.mem).1;have F:∀n,(ZX h mb P'.C P'.m P'.fl sl).F n->PF ⟨pb,mb,h⟩ n:=λn hn=>.inr hn.symm;exact s.Aj hU (T.mono λn hn=>.inr (.inl hn)) ⟨A.dev.ax T λb hb e=>A.wR (e ▸ hb),S⟩ λn hn=>⟨ej (A.lt n (F n hn)) T.size,.inl (F n hn)⟩
theorem yo.ml{next:Nat}{l:List ao}{sp:List bM}{ps:List au}{e:Ending}(s:Fr F0 x L w)(d:SK (H.at vp) P' next l sp ps w e w')(hU:mW L (pl x H vp P') (pl x H vp P') L':=by exact wc):∃va vc ta tc za zc ys,e=.returned (.tuple #[.agg (aO next (.slice va (κ l) vc)),.slice ta (κ sp) tc,.slice za (κ ps) zc,.int .i64 0])/\ys.map (·.d)=l/\yo F0 x L w (mr x.heap.size (.slice va (κ l) vc) ys (.slice ta (κ sp) tc) sp (.slice za (κ ps) zc) ps::L') w':=by
 obtain⟨v,u,z,rfl,a1,a2,a3,a4⟩:=d;obtain⟨va,vc,rfl⟩:=a1.cm.slice;obtain⟨ta,tc,rfl⟩:=(ak.row a2 Cj).slice;obtain⟨za,zc,rfl⟩:=(ak.row a3 pw).slice;obtain⟨ys,rfl,b2,b3⟩:=a1;have f:∀n,(mr x.heap.size (.slice va (κ (ys.map (·.d))) vc) ys (.slice ta (κ sp) tc) sp (.slice za (κ ps) zc) ps).F n->w.heap.size<=n/\n<w'.heap.size:=λn h=>by
  rcases h with(h|⟨y,hy,h⟩)|h|h
  ·exact b2.aJ n h
  ·exact(b3 y hy).aJ n h
  ·exact a2.aJ n h
  ·exact a3.aJ n h
 refine⟨va,vc,ta,tc,za,zc,ys,rfl,rfl,yo.add s (yo.pg s a4 hU) ⟨⟨b2.mono s.t.size,λy hy=>(b3 y hy).mono s.t.size⟩,ak.mono a2 s.t.size,ak.mono a3 s.t.size⟩ f λE hE n h he=>?_⟩;have:=(f n h).1;rcases hU.sub E hE with rfl|hE
 ·have:=(s.f _ hU.mem n he).1;omega
 ·have:=(s.f E hE n he).1;omega
def V9(w:af)(h:iM)(mb:Nat)(C:List cS)(m:Nat)(fl:Bool)(s:Nat->Nat)(D:DA w h C m fl/\b' w mb s):Aae Aag 56 #[pz h.d,pz mb,.int .u64 0,.int .u64 0] w λe w'=>e=.returned (pz w.heap.size)/\PA w' ⟨w.heap.size,mb,h⟩ ⟨C,m,fl,s,0,0⟩/\Up w w':=vC w h mb C m fl s D.1 D.2 0 0
theorem kA{id:Nat}(D:As)(s:Fr F0 x0 L w)(h:∀w,Fr F0 x0 L w->RK P ops Q F0 x0 L0 L [] 0 a w)(hr:yq L D L0:=by exact SD)(hm:P.follows .mixedOrders=true:=by kernel_rfl):(Code.region id ops true).wp P Q a w:=ka L0 s hr.sub h hm
theorem kbx{t:TypeId}{n:Nat}{C:Array ah}{a':Nat->Act}(h:∀g w,Up x w->Fr F0 x0 (bk g t C::L) w->RK P ops Q F0 x0 L0 (bk g t C::L) J (k+1) (a' g) w)(hJ:J.contains k=false:=by rfl)(hi:ops[k]?=some o:=by rfl)(ho:o.op=.box t (.tmp n):=by rfl)(hx:(a.eval (.tmp n)).cells=C:=by exact zcv)(ha:∀g,a.put o.dst (pz g)=a' g:=by intro _;first|(simp only[Act.put,fB];rfl)|rfl)(hw:Region.wanted o (yielded ops a.tmps)=true:=by rfl)(hc:(MC P ops (ml ops.size J k) k && Region.noSelect ops)=true:=by kernel_rfl)(hQ:∀c a w b,a.defers=b.defers->Q (.panic c) a w->Q (.panic c) b w:=by intro _ ⟨_,_⟩ _ ⟨_,_⟩ e h;cases e;exact h):RK P ops Q F0 x0 L0 L J k a x:=ko (λw u s K hK=>JD ho hx (hK _ _ (bk w.heap.size t C::L) (.res s (.one (ai _ _) (aF.new ..) (λn h=>by
  have h:n=w.heap.size:=h;have:=(aF.new w t C).lt;omega))) (λA _ h=>bt _ h) (by
  have:=h w.heap.size _ (u.trans (ai _ _)) (s.alloc t C);rw[ha];exact this))) hJ hi hw hc hQ
end
section
open Go.Maps
theorem JY(a:Option Adr)(n c:Nat)(s:Int):prog.built 65 [(1,.slice a n c),(3,i6 s)]=some (lS (nl) (.slice a n c) false s 0):=al
theorem Wb(a:Option Adr)(n c:Nat)(a2:Option Adr)(n2 c2:Nat)(tw:Bool)(s b:Int):(lS (.slice a n c) (.slice a2 n2 c2) tw s b).all (·.oneCell')=true:=by simp[lS,Value.oneCell']
theorem abn{G:ct}(I:bm G){q:p1}(hq:q∈h7 G (κ G.l)):VH (h7 G (κ G.l)) q.1.loc=!q.2:=by
 rcases kK I _ (aE _) q hq with⟨h,e⟩|⟨⟨y,hy,h⟩,e⟩
 ·rw[e];cases hb:VH (h7 G (κ G.l)) q.1.loc with
  | false=>rfl
  | true=>obtain⟨y,hy,p,hp,e2⟩:=(GD I _).mp hb;exact absurd e2 (I.mx _ h _ hy p hp)
 ·grind [GD]
theorem TB{f:Int->Bool}{ks:List Int}{k:Int}(h:f k=true):κ ((ks++[k]).filter f)=κ (ks.filter f)+1:=by simp[h]
theorem XD{f:Int->Bool}{ks:List Int}{k:Int}(h:f k=false):κ ((ks++[k]).filter f)=κ (ks.filter f):=by simp[h]
theorem gg.len{w:af}{b r n mR:Nat}{D:DataW Unit}{L:List p1}{ks:List Int}(h:gg w b r n D L ks mR)(rg:∀x∈L,0<=x.1.loc/\x.1.loc<=4096):κ ks<=4097:=by
 have:=eR ks ((Aak 4097).map (λk:Nat=>(k:Int))) h.nd (λk hk=>by obtain⟨x,hx,rfl⟩:=h.sub k hk;have:=rg x hx;exact List.mem_map.mpr ⟨x.1.loc.toNat,List.mem_range.mpr ae,ae⟩)
 simp_all
def aa6(h:iM)(G:ct)(m:Nat)(fl:Bool)(w:af)(e:Ab2)(w':af):Prop:=∃vr vt ks,e=.returned (.tuple #[.agg (lS vr vt false (κ G.l:Int) (κ (ks.filter (VH (h7 G (κ G.l)))):Int)),.int .i64 0])/\Seen G ks/\dX w' vr (aB (gW G.P.s) 4096)/\dX w' vt (aB (gW G.P.s) 4096)/\DA w' h G.P.C m fl/\Touch (cM h) w w'
theorem A2{G:ct}(I:bm G):oF (gW G.P.s) (κ G.P.C):=λi hi=>by unfold gW at hi;have:=jk hi;have:=mt (I.s0 i).mpr ae;omega
theorem acu:zc Aag 65=lS nl nl false 0 0:=al
theorem abY:zc Aag 134=CG (hole,false):=al
theorem gg.at{w:af}{b r n mR:Nat}{D:DataW Unit}{L:List p1}{ks:List Int}(h:gg w b r n D L ks mR):b<w.heap.size/\r<w.heap.size/\∀w',w'.heap[b]?=w.heap[b]?->w'.heap[r]?=w.heap[r]?->gg w' b r n D L ks mR:=by obtain⟨⟨left,⟨es,clock,since,seen,c0,hb,x1,x2,x3,hr,x4⟩,h2⟩,h3,h4,h5,h6⟩:=h;exact⟨(qv.1 hb).1,(qv.1 hr).1,λw' e1 e2=>⟨⟨left,⟨es,clock,since,seen,c0,e1.trans hb,x1,x2,x3,e2.trans hr,x4⟩,h2⟩,h3,h4,h5,h6⟩⟩
def mp(b n:Nat)(l:List p1):As:=⟨(·=b),λw=>Marks w b n l,λh T hf=>h.ax T (hf b rfl)⟩
def rs(b r n:Nat)(D:DataW Unit)(l:List p1)(ks:List Int)(mR:Nat):As:=⟨λk=>k=b\/k=r,λw=>gg w b r n D l ks mR,λh T hf=>h.at.2.2 _ (T.block b h.at.1 (hf b (.inl rfl))) (T.block r h.at.2.1 (hf r (.inr rfl)))⟩
def ic(n:Int):List ah:=[bC n]
theorem icw:hh ic 1:=⟨av,λ_=>rfl,λx u h=>by rw[kG.1 h];rfl⟩
theorem Z4{w:af}{b:Nat}{v:ah}{l:List Int}(h:ak ic 1 3 w b v l):Own bC 3 w b v l:=by
 have e:∀l:List Int,l.flatMap ic=l.map bC:=λl=>by
  induction l with
  | nil=>rfl
  | cons x l ih=>rw[Abc,Acd];exact cn _ ih
 unfold ak at h;rw[e]at h;exact h
section
variable {F0:Nat->Prop} {x w w':af} {L L':List As} {b n n' r mR ab:Nat} {l l':List p1} {D:DataW Unit} {ks ar:List Int}
theorem Fr.mt(s:Fr F0 x L w)(m:Marks w' b n' l')(t:Touch (·=b) w w')(hU:mW L (mp b n l) (mp b n' l') L':=by exact wc):Fr F0 x L' w':=s.Aj hU t m λk h=>⟨by rw[show k=b from h];exact m.lt,.inl h⟩
theorem Fr.m0(s:Fr F0 x L w):Fr F0 x (mp w.heap.size 0 []::L) (w.alloc (.map #[] 0)):=s.new (.one (ai ..) (Marks.made w) λn h=>by have h:n=w.heap.size:=h;have:=(Marks.made w).lt;omega)
theorem Fr.gm(s:Fr F0 x L w)(h:mp b n l∈L:=by exact gG):Marks w b n l:=s.p _ h
theorem Fr.gr(s:Fr F0 x L w)(h:rs b r n D l ks mR∈L:=by exact gG):gg w b r n D l ks mR:=s.p _ h
theorem Fr.rg(s:Fr F0 x L w)(R:gg w' b w.heap.size n D l [] mR)(g:w.grownBy w' none)(hU:mW L (mp b n l) (rs b w.heap.size n D l [] mR) L':=by exact wc):Fr F0 x L' w':=s.Aj hU (Touch.bg g λk e=>by cases e) R λk h=>by
 have:=R.at;rcases h with rfl|rfl
 ·exact⟨this.1,.inl rfl⟩
 ·exact⟨this.2.1,.inr (aE _)⟩
theorem Fr.rn(s:Fr F0 x L w)(R:gg w' b r n D l ar ab)(g:w.grownBy w' (some r))(hU:mW L (rs b r n D l ks mR) (rs b r n D l ar ab) L':=by exact wc):Fr F0 x L' w':=s.Aj hU (Touch.bg g λk e=>.inr (dE e).symm) R λk h=>by
 have:=R.at;rcases h with rfl|rfl
 ·exact⟨this.1,.inl (.inl rfl)⟩
 ·exact⟨this.2.1,.inl (.inr rfl)⟩
end
theorem PH(w:af)(h:iM)(G:ct)(m:Nat)(ff:Bool)(D:DA w h G.P.C m ff)(I:bm G)(R:Ring G)(b:List aj)(K:ZL G b):Aae Aag 22 #[.pointer (some ⟨h.d,0,none⟩)] w (aa6 h G m ff w):=by
 obtain⟨HI,HK,LN⟩:=aV I K I.ln;obtain⟨⟨tx,us,iV,ul,uS⟩,hu⟩:=bE (G.u);obtain rfl:uS=(κ G.P.C:Int):=by have:=K.ub.1;rwa [<-hu]at this
 obtain rfl:ul=40:=by have:=K.ub.2.1;rwa [<-hu]at this
 obtain rfl:us=G.P.ba:=by have:=K.ub.2.2.1;rwa [<-hu]at this
 refine OG ?_;intro HU BE;obtain⟨au,EX⟩:=aw (A2 I) (show lv G.P.C iV b (iS (κ G.P.C) (aB (gW G.P.s) 4096)) G.ms from MX);obtain⟨w0,rfl⟩:=bE w;have s:=Fr.from (A:=dv h G.P.C m ff) D D.lt;clear D I R K hu;go_in;go_wp2_with(refine fw s ?_;intro _ w s);refine(uh _ h _ m ff s.Zm).mono ?_;rintro e _⟨rfl,rfl⟩;go_wp2_with fail;refine(BE _ s.Zm).mono ?_;rintro e w⟨rfl,d2,t2⟩;have s:=s.dt d2 t2;clear d2 t2 BE;go_wp2_with(refine fw s ?_;intro _ w s);refine kb s (λw s=>?_);repeat refine kt ?_
 refine kc (λw u s=>kZ w h _ m ff s.Zm) ?_;rintro w u s e _⟨rfl,rfl⟩;refine lQ ?_;repeat refine kt ?_
 refine kd (λw u s=>?_);go_wp2_with fail;refine(kZ w h _ m ff s.Zm).mono ?_;rintro e _⟨rfl,rfl⟩;go_wp2_with fail;refine(Cf w (κ G.P.C) F2 F2).mono ?_;rintro e w5⟨rfl,s5,u5⟩;have s:=s.sn s5 u5;go_wp2_with fail;refine(V9 _ h _ _ m ff _ s.gds).mono ?_;rintro e w6⟨rfl,pa,uu⟩;have s:=(yo.pn s pa uu).s;go_wp2_with(refine fw s ?_;intro _ w s);have ML:=DO _ _ ⟨G.P.C,m,ff,kf (κ G.P.C),0,0⟩ s.pa iV b _ G.ms EX G.next G.l HK.ZD HI.wf HI.hY.abc LN (gW G.P.s) au rfl FP
 refine ML.mono ?_;clear ML;intro e w7 hl;obtain⟨va,vc,ta,tc,za,zc,ys,rfl,aG,nx⟩:=yo.ml s hl;have HY:=an aG;have s:=nx.s;clear nx hl aG pa uu s5 u5;obtain⟨BU,hmm⟩:=az (JY ta (κ (aB (gW G.P.s) 4096)) tc (κ G.l:Int)) (@run_makeMap Aag);go_wp2_with(refine fw s ?_;intro _ w s);have s:=s.m0;have q:=s.p (mr _ _ ys _ _ _ _) gG;refine(D3 _ _ 0 [] s.gm (.slice za (κ G.ms) zc) G.ms (ak.row q.2.2 pw) FP (ZZ HI) true).mono ?_;rintro e w⟨rfl,m11,t11⟩;have s:=s.mt (show Marks w _ (κ G.ms+73*0) (h7 G 0)from by rw[Aby]at m11;exact m11) t11;clear q m11 t11;have p2:(Abx (lS nl (.slice ta (κ (aB (gW G.P.s) 4096)) tc) false (κ G.l:Int) 0).toList 2 (#[.bool false]:Array ah).toList).toArray=lS nl (.slice ta (κ (aB (gW G.P.s) 4096)) tc) false (κ G.l:Int) 0:=rfl;go_wp2_with(refine fw s ?_;intro _ w s);change Fr _ w0 (mp ?mk _ _::bk ?q11 _ _::?rest) _ at s;go_loopw [73] (λi wr=>∃k:Nat,k<=κ G.l/\i=.int .i64 k/\Fr (cM h) w0 (mp ?mk (κ G.ms+73*k) (h7 G k)::bk ?q11 65 (lS nl (.slice ta (κ (aB (gW G.P.s) 4096)) tc) false (κ G.l:Int) 0)::?rest) wr) (λi _=>κ G.l-(Aau i).toNat)
 case atStart=>exact⟨0,bT _,rfl,s⟩
 case round=>
  obtain⟨k,hk,rfl,s⟩:=hrel;have aH:wr.cell? ⟨_,1,none⟩=some (.slice va (κ G.l) vc):=(s.fg (t:=73) gG).cell 1;obtain⟨aK,n32⟩:=az HI.s4 HI.hY.len;by_cases hlt:k<κ G.l
  ·have b3:((k:Int)<(κ G.l:Int))=True:=by simp;omega
   have KN:=an hlt;have hm:=aI KN;obtain⟨bb,off,rfl,hbs,da,dc,rg,dp⟩:=cf (bc.cm ⟨ys,HY,(s.p (mr _ _ ys _ _ _ _) gG).1⟩) KN;have RG:=an (cd rg).2.2.2.2.2.2.2.1;clear rg dp;go_wp2_with(refine cT 87 82 (be (recAt G.l k).root) RG ?_);have TL:=Jr _ _ ⟨G.P.C,m,ff,kf (κ G.P.C),0,0⟩ s.pa (recAt G.l k).root 0 _ (λj=>bD G.P.C (a6 (bD G.P.C (recAt G.l k).root) j)) (HI.tr _ hm).F (λj hj=>(HI.tr _ hm).S hj);refine TL.mono ?_;clear TL;rintro e w⟨v2,rfl,ov,pg⟩;replace ov:bf w _ v2 (yi G (recAt G.l k)):=ov;have s:=(yo.pt s pg.1 pg.2 (λ_ h=>.inl h) ov).s;obtain⟨LT,SU⟩:=aw (R2 HI hm) (pc KN);go_wp2_with fail;refine(D3 _ _ _ _ s.gm v2 (yi G (recAt G.l k)) (ak.row s.CU pw) (by have:=LT.out;omega) (Z0 HI KN) false).mono ?_;rintro e w⟨rfl,m14,t14⟩;have s:=s.mt (show Marks w _ (κ G.ms+73*(k+1)) (h7 G (k+1))from by rw[SU.out];exact m14.mono (by have:=LT.out;omega)) t14;clear m14 t14;go_wp2_with fail;go_roundw
   case rel=>exact⟨k+1,ae,aq,s.rem .head⟩
   case measure=>simp only[Aau];omega
  ·obtain rfl:k=κ G.l:=by omega
   have b3:((κ G.l:Int)<(κ G.l:Int))=False:=aq
   go_wp2_with(at_range;refine Sn rfl (.tmp 99) rfl rfl s.gm ?_);intro w DM aF ai g15 aD;have ax:=an s.gm.rg;have s:=s.rg ai g15;clear ai g15 aD;change Fr _ w0 (rs ?mk ?r _ DM _ _ _::_) _ at s;go_wp2_with fail;go_loopw [16] (λav wr=>∃ks mR,Fr (cM h) w0 (GK ic 1 3 w0.heap.size av ks::rs ?mk ?r (κ G.ms+73*κ G.l) DM (h7 G (κ G.l)) ks mR::bk ?q11 65 (lS nl (.slice ta (κ (aB (gW G.P.s) 4096)) tc) false (κ G.l:Int) (κ (ks.filter (VH (h7 G (κ G.l)))):Int))::?rest) wr) (λ_ wr=>wr.rangeLeft ?mk ?r)
   case atStart=>exact⟨[],_,s.aak⟩
   case round=>
    obtain⟨ks,mR,s⟩:=hrel;have RS:=an s.gr;have hkl:κ ks<=4097:=RS.len ax;obtain⟨aa,ac,rfl⟩:=(ak.row s.row icw).slice;go_wp2_with(at_next;refine W0 rfl (.tmp 100) rfl rfl RS ?_ ?_)
    ·intro ad;have S:Seen G ks:=⟨RS.nd,λk=>by simpa using ad k⟩;clear ad;have HS:=an S;clear S;have OA:=s.row (f:=ic);go_wp2_with fail;refine(RR _ w0.heap.size _ ks (Z4 OA) ae).mono ?_;rintro e w⟨rfl,ar,perm,on,t21⟩;have s:=s.Aj .head (B:=rsv (λn=>(Acr aa (κ ks) ac).ownBlock=some n)) t21 (λn h=>ej (OA.aJ n h).2 t21.size) (λn h=>⟨ej (OA.aJ n h).2 t21.size,.inl h⟩);clear OA t21;go_wp2_with fail;refine(tJ _ _ ar on).mono ?_;rintro e w⟨vr,rfl,ag,u⟩;rw[G7 perm,HS.set HI]at ag;obtain⟨ra,rc,rfl⟩:=(ak.row ag Cj).slice;have s:=s.new (A:=GK r6 2 139 w0.heap.size _ _) (.one u (ag.mono s.t.size) ag.aJ);clear ag u on perm;obtain⟨c,hc⟩:=bE (κ (ks.filter (VH (h7 G (κ G.l)))));have HC:=an hc;rw[<-hc]at s;clear hc;have p0:(Abx (lS nl (.slice ta (κ (aB (gW G.P.s) 4096)) tc) false (κ G.l:Int) (c:Int)).toList 0 (#[.slice ra (κ (aB (gW G.P.s) 4096)) rc]:Array ah).toList).toArray=lS (.slice ra (κ (aB (gW G.P.s) 4096)) rc) (.slice ta (κ (aB (gW G.P.s) 4096)) tc) false (κ G.l:Int) (c:Int):=rfl;go_wp2_with(refine fw s ?_;intro _ w s);refine bj ?_;have A:=s.pa (P:=⟨G.P.C,m,ff,kf (κ G.P.C),0,0⟩);exact⟨.slice ra (κ (aB (gW G.P.s) 4096)) rc,.slice ta (κ (aB (gW G.P.s) 4096)) tc,ks,by rw[<-HC.out];rfl,HS,ak.row s.row Cj,ak.row (s.p (mr _ _ ys _ _ _ _) gG).2.1 Cj,A.dev,s.t⟩
    ·unfold Zg;intro q hq aC w ab ao hlt g16 aE ay;obtain⟨NQ,al⟩:=aw (abn HI hq) hlt;obtain⟨s,ii⟩:=az (s.rn ao g16) AX;clear hq aC ao hlt g16 aE;obtain⟨c,hc⟩:=bE (κ (ks.filter (VH (h7 G (κ G.l)))));have n4:c<=4097:=by rw[hc];exact bK (qx _ _) hkl
     have HC:=an hc;rw[<-hc]at s;clear hc;have p4:(Abx (lS nl (.slice ta (κ (aB (gW G.P.s) 4096)) tc) false (κ G.l:Int) (c:Int)).toList 4 (#[.int .i64 ((c:Int)+1)]:Array ah).toList).toArray=lS nl (.slice ta (κ (aB (gW G.P.s) 4096)) tc) false (κ G.l:Int) ((c:Int)+1):=rfl;obtain⟨q,ow⟩:=q;cases ow with
     | true=>
      go_wp2_with(first|(refine fw s ?_;intro _ w s)|((with_reducible refine eo 41 1 _ ?_);refine fal #[.int .i64 q.loc] 3 (λg=>cD g 1 1) s ?_;intro _ w s)|(at_builtin;refine far icw q.loc s ?_;intro _ _ w s));go_roundw
      case rel=>exact⟨ks++[q.loc],ab,by rw[XD NQ.out,<-HC.out];exact s.sl⟩
      case measure=>rw[RS.out.left_eq,s.gr.left_eq];exact al
     | false=>
      go_wp2_with(first|(refine fw s ?_;intro _ w s)|((with_reducible refine eo 41 1 _ ?_);refine fal #[.int .i64 q.loc] 3 (λg=>cD g 1 1) s ?_;intro _ w s)|(at_builtin;refine far icw q.loc s ?_;intro _ _ w s));go_roundw
      case rel=>exact⟨ks++[q.loc],ab,by rw[TB NQ.out,<-HC.out,show((c+1:Nat):Int)=(c:Int)+1 from rfl];exact s.sl⟩
      case measure=>rw[RS.out.left_eq,s.gr.left_eq];exact al
end
theorem Su:∀W:af,(Acj 65).run Aag W=.ok (.agg (lS (nl) (nl) false 0 0)) W:=zb
theorem OV{f:Nat->Bool}(hj:j<4096):(j:Int)∈cG (aB f 4096)↔f j=true:=by grind [qp]
theorem RZ(I:bm G)(n3:∀i,G.P.s i≠3):je (kf (κ G.P.C)) (cG (aB (gW G.P.s) 4096))=G.P.s:=by
 funext j;obtain⟨ln,h0,h3⟩:=cZ I.ln (I.s0 j) (I.s3 j);rw[Co _ _ (λi hi=>?_)]
 ·grind [OV,gW,kf]
 ·have:=xK _ _ hi;obtain⟨n,rfl⟩:∃n:Nat,i=(n:Int):=⟨i.toNat,ae⟩;grind [OV,gW]
def AR(G:ct)(m:Nat)(fl:Bool):ct:=⟨⟨G.P.C,m,fl,G.P.s,G.P.ba+1,G.P.ba⟩,G.next,G.l,G.ms,G.u⟩
def ab2(h:iM)(G:ct)(m:Nat)(fl:Bool)(w:af)(e:Ab2)(w':af):Prop:=∃gb H,e=.returned (.tuple #[.pointer (some ⟨gb,0,none⟩),.int .i64 0])/\H.h=h/\GA w' gb H (AR G m fl)/\Touch (cM h) w w'/\w.heap.size<=gb/\w.heap.size<=H.pb/\w.heap.size<=H.mb
theorem KD(w:af)(h:iM)(G:ct)(m:Nat)(ff:Bool)(D:DA w h G.P.C m ff)(I:bm G)(R:Ring G)(b:List aj)(K:ZL G b)(hB:G.u.dz<=100000000/\G.next<=100000000/\G.P.ba<=100000000):Aae Aag 50 #[.pointer (some ⟨h.d,0,none⟩)] w (ab2 h G m ff w):=by
 obtain⟨HI,HK,LN⟩:=aV I K I.ln;obtain⟨⟨tx,us,iV,ul,uS⟩,hu⟩:=bE (G.u);obtain rfl:uS=(κ G.P.C:Int):=by have:=K.ub.1;rwa [<-hu]at this
 obtain rfl:ul=40:=by have:=K.ub.2.1;rwa [<-hu]at this
 obtain rfl:us=G.P.ba:=by have:=K.ub.2.2.1;rwa [<-hu]at this
 refine OG ?_;intro HU BE;have g1:((tx:Int)>281474976710652)=False:=by have:=hB.1;rw[<-hu]at this;apply cI;simp only at this;omega
 have g2:((G.next:Int)>281474976710652)=False:=by apply cI;omega
 have g3:((G.P.ba:Int)>281474976710652)=False:=by apply cI;omega
 have hba:G.P.ba<=100000000:=hB.2.2;obtain⟨au,EX⟩:=aw (A2 I) (show lv G.P.C iV b (iS (κ G.P.C) (aB (gW G.P.s) 4096)) G.ms from MX);obtain⟨w0,rfl⟩:=bE w;have s:=Fr.from (A:=dv h G.P.C m ff) D D.lt;clear D I R K hu hB;go_in;go_wp2_with fail;refine(uh _ h _ m ff s.Zm).mono ?_;rintro e _⟨rfl,rfl⟩;go_wp2_with fail;refine(BE _ s.Zm).mono ?_;rintro e w⟨rfl,d2,t2⟩;have s:=s.dt d2 t2;clear d2 t2 BE;go_wp2_with(refine fw s ?_;intro _ w s);refine kb s (λw s=>?_);repeat refine kt ?_
 refine kc (λw u s=>kZ w h _ m ff s.Zm) ?_;rintro w u s e _⟨rfl,rfl⟩;refine lQ ?_;repeat refine kt ?_
 refine kd (λw u s=>?_);go_wp2_with fail;refine(kZ w h _ m ff s.Zm).mono ?_;rintro e _⟨rfl,rfl⟩;go_wp2_with fail;refine(Cf w (κ G.P.C) F2 F2).mono ?_;rintro e w5⟨rfl,s5,u5⟩;have s:=s.sn s5 u5;go_wp2_with fail;refine kA (ZX h _ G.P.C m ff _) s (λw s=>?_);repeat refine kt ?_
 refine kj 3 ?_;refine kj 4 ?_;refine Zn (λw u s=>V9 w h _ _ m ff _ s.gds) ?_;rintro w u s e w'⟨rfl,pa,uu⟩;refine⟨_,_,rfl,.pn s pa uu,Xc,?_⟩;repeat(first|refine kx ?_|refine kt ?_)
 refine Zn (λw u s=>DO w _ ⟨G.P.C,m,ff,kf (κ G.P.C),0,0⟩ s.pa iV b _ G.ms EX G.next G.l HK.ZD HI.wf HI.hY.abc LN (gW G.P.s) au rfl FP) ?_;rintro w u s e w' hl;obtain⟨va,vc,ta,tc,za,zc,ys,rfl,aG,nx⟩:=yo.ml s hl;have HY:=an aG;refine⟨_,_,rfl,nx,Xc,?_⟩;repeat refine kt ?_
 refine kn (λ_ w u s=>?_);refine ks (λw s=>?_);repeat refine kt ?_
 refine kd (λw u s=>?_);go_wp2_with(refine fw s ?_;intro _ w s);obtain⟨q,A⟩:=az (s.p (mr _ _ ys _ _ _ _) gG) (s.pa (P:=⟨G.P.C,m,ff,kf (κ G.P.C),0,0⟩));have TX:=Ma _ (.slice ta (κ (aB (gW G.P.s) 4096)) tc) _ (ak.row q.2.1 Cj) (λa k c e=>(ak.aJ q.2.1 _ tp).2) _ _ A.map;refine TX.mono ?_;clear TX A;rintro e w11⟨rfl,aa,t11⟩;rw[RZ HI.out HK.out.no3]at aa;have s:=s.tx aa t11;clear q aa t11;go_wp2_with(refine fw s ?_;intro _ w s);refine kA (ZX h _ G.P.C m ff _) s (λw s=>?_);iterate 4 refine kt ?_
 refine kt (v:=.int .u64 ((G.P.ba:Int)+1)) ?_ (hy:=ya (h:=by intro _;go_simp;have:=dT (G.P.ba+1) ae;simpa using this));iterate 2 refine kt ?_
 refine kj 8 ?_;refine kj 9 ?_;refine kj 10 ?_;refine Zn (λw u s=>vC w h _ _ m ff _ s.gds.1 s.gds.2 (G.P.ba+1) G.P.ba) ?_;rintro w u s e w'⟨rfl,pa,uu⟩;refine⟨_,_,rfl,.pn s pa uu,Xc,?_⟩;have BG:=xp w.heap.size G.next va (κ G.l) vc za (κ G.ms) zc ⟨tx,G.P.ba,iV,40,(κ G.P.C:Int)⟩
 repeat(first|refine kx ?_|refine kt ?_)
 refine kbx (λgb w u s=>?_);repeat refine kt ?_
 refine kd (λw u s=>?_);go_wp2_with fail;refine bj ?_;obtain⟨A,q,hb⟩:=cZ s.pa (s.p (mr _ _ ys _ _ _ _) gG) (s.fg (t:=153) gG);exact⟨_,⟨_,_,h⟩,rfl,rfl,⟨_,_,by show aF _ _ _ (fD _ G.next _ _ G.u);rw[<-HU.out];exact hb,bc.mono ⟨ys,HY,q.1⟩ (bT _),ak.mono q.2.2 (bT _),A⟩,s.t,(s.f _ (gG (b:=bk _ 153 _)) _ rfl).2.resolve_left (A.dev.jV hb av av av),(s.f _ (gG (b:=pl _ _ _ _)) _ (.inl rfl)).2.resolve_left A.wX,(s.f _ (gG (b:=pl _ _ _ _)) _ (.inr (.inl rfl))).2.resolve_left A.wR⟩
def aa2(h:iM)(G:ct)(m:Nat)(fl:Bool)(w:af)(e:Ab2)(w':af):Prop:=∃p gb H,e=.returned (.tuple #[.pointer (some ⟨p,0,none⟩),.int .i64 0])/\H.h=h/\bL w' p gb H (AR G m fl)/\Touch (cM h) w w'/\w.heap.size<=p/\w.heap.size<=gb/\w.heap.size<=H.pb/\w.heap.size<=H.mb
theorem Rl(w:af)(h:iM)(G:ct)(m:Nat)(fl:Bool)(D:DA w h G.P.C m fl)(I:bm G)(R:Ring G)(b:List aj)(K:ZL G b)(hB:G.u.dz<=100000000/\G.next<=100000000/\G.P.ba<=100000000):Aae Aag 20 #[.pointer (some ⟨h.d,0,none⟩)] w (aa2 h G m fl w):=by
 obtain⟨FO,BP⟩:=aw (KD w h G m fl D I R b K hB) Ae;clear D I R K hB;go_in;go_wp2_with fail;refine FO.mono ?_;rintro e w2⟨gb,H,rfl,hh,ga,t2,h1,h2,h3⟩;have ab:=an (BP gb);have u3:=ai w2 (.cells #[.pointer (some ⟨gb,0,none⟩)] 82);obtain⟨aa,B3,T3,S2,ad,HH⟩:=ix (ga.up u3) (aF.new w2 82 #[.pointer (some ⟨gb,0,none⟩)]) (t2.iZ u3) t2.size (Adc h1 (Adc h2 h3)) hh;clear hh ga t2 u3 h1 h2 h3 FO;go_wp2_with(first
  | ((with_reducible refine eP 82 #[(0,.tmp 14)] ?_);refine k6 rfl 82 0 (.tmp 14) rfl _ rfl #[.pointer (some ⟨gb,0,none⟩)] ab ?_)
  | refine hs 82 15 #[.pointer (some ⟨gb,0,none⟩)] ?_)
 go_ret2;exact⟨w2.heap.size,gb,H,rfl,HH,⟨B3,aa⟩,T3,S2,ad.1,ad.2.1,ad.2.2⟩
theorem XK(I:bm G){b:List aj}(K:ZL G b)(m:Nat)(fl:Bool):bm (AR G m fl):=by
 have hs:=K.ub.2.2.2.1;have e:AR G m fl={G with P:={G.P with m:=m,fl:=fl}}:=by grind [AR]
 rw[e];exact⟨I.hY,I.si,I.tr,I.md,I.ml,I.mx,I.s0,I.s2,I.s3,I.sb,I.st,I.ln,I.ft⟩
structure JN(G:ct)(b:List aj):Prop where
 inv:bm G
 ring:Ring G
 dsk:ZL G b
 bd:G.u.dz<=100000000/\G.next<=100000000/\G.P.ba<=100000000
 m:G.P.m=0
 one:∃x,G.l=[x]/\cp x=cp (ef 1 zS 4)/\tT G.P.C x 1=some (jW [97])
 three:∀(ks:List Int)(f:Int->Bool),ks.Nodup->(∀k,(k∈ks/\f k=true)↔∃y∈G.l,∃p,gf G.P.C y.root p/\p.loc=k)->κ (ks.filter f)=3
theorem WL{G G2:ct}{b:List aj}(N:g' 64 G b)(T:kY (j7 G) 0 1 (jW [97]) G2):pU G2:=by
 obtain⟨h2,h3,h4⟩:=cZ T.st T.m T.u;have e1:G2.next=2:=T.next
 have e2:G2.P.st=G.P.st:=h2;have e3:G2.P.m<=G.P.m+3:=h3;have e4:G2.u=G.u:=h4;exact⟨ae,by rw[e2,N.st];omega,by rw[N.m]at e3;omega,by rw[e4,N.tx];omega⟩
theorem SZ{G G2 G3:ct}{b b3:List aj}(N:g' 64 G b)(T:kY (j7 G) 0 1 (jW [97]) G2)(f:e0 G2=true)(hb:κ b3=cO G2.l)(K:CI G2 b3)(h:oE G2 b3 G3):JN G3 b3:=by
 obtain⟨I2,F2⟩:=az (T.inv f) (WL N T);have R1:Ring (j7 G):=⟨N.ring.le,N.ring.here⟩;obtain⟨ats,CO⟩:=EA I2 h;obtain⟨D3,R3⟩:=ME I2 F2 (R1.congr (ZE N) T.u T.W9) h K;obtain⟨x,hx,hs⟩:=abS N T;have hm:x∈G2.l:=aa
 obtain⟨st,nx,tx,ab⟩:=iv F2.st F2.nx F2.tx CO.ba;have ctx:=CO.tx;refine⟨I2.com CO hb ae,R3,D3,⟨ae,by rw[CO.nx];omega,ae⟩,CO.m,⟨x,by rw[CO.l];exact hx,hs,by rw[CO.read I2 hm ae];exact WM T hx hs⟩,λks f hk hf=>?_⟩;refine Y3 N T I2 hx hs hk (λk=>?_);rw[hf k,CO.l];constructor
 ·rintro⟨y,hy,p,hp,e⟩;exact⟨y,hy,p,(CO.inT I2 hy p).mp hp,e⟩
 ·rintro⟨y,hy,p,hp,e⟩;exact⟨y,hy,p,(CO.inT I2 hy p).mpr hp,e⟩
theorem DA.fl0{h:iM}{fl:Bool}(D:DA w h C 0 fl):DA w h C 0 true:=by obtain⟨v,h1,h2,h3,h4,h5,h6,h7⟩:=D;exact⟨v,h1,h2,h3,h4,h5,h6,λ_=>MT ae⟩
theorem JN.walk{b:List aj}(A:JN G b){ks:List Int}(S:Seen G ks):κ (ks.filter (VH (h7 G (κ G.l))))=3:=by
 refine A.three ks _ S.nd (λk=>?_);constructor
 ·rintro⟨_,h⟩;exact(GD A.inv k).mp h
 ·intro h;have h2:=(GD A.inv k).mpr h;refine⟨?_,h2⟩;unfold VH at h2;obtain⟨x,hx,e,_⟩:=jk h2;exact(S.all k).mpr ⟨x,hx,e⟩
theorem A0(S:oD G M):EF (G.l.map (jK G.l)) (M.l.map (fN M.l)):=by unfold EF;rw[S.l,qu,qu];refine E4 (λx _=>?_);show fN (iT G.l) (cp x)=hV.live (jK G.l x);unfold fN jK hV.live Kv;simp[xE,pJ,YX,ss3,ss7]
theorem QK(I:bm G):κ (G.l.map (jK G.l))<=32:=by rw[Aac];exact I.hY.len
theorem TR(h:k<κ (l.map (fN l))):(l.map (fN l))[k]=fN l (recAt l k):=by grind [b9]
theorem Kw{a:List aj}(h:ei a=true):qd a []=a:=by grind [qd]
theorem Kx{a b:List aj}(h:ei a=true)(h2:ei b=true)(h0:b≠[]):qd a b=a++64::b:=by grind [qd]
theorem OX{b:List aj}(h:ei b=true):b≠[]:=by rintro rfl;revert h;decide
theorem Ik{a b:List aj}(ha:ei a=true)(hb:ei b=true):dm (a++64::b)=some (a,b):=by
 have h1:(a++64::b).take (κ a)=a:=aq
 have h2:(a++64::b).drop (κ a+1)=b:=aq
 grind [Qz]
theorem gd.full{next:Nat}(F:gd next l)(hk:k<κ l):dP l (ec l (recAt l k).id)=.ok k/\(κ (ec l (recAt l k).id))<=100:=by
 obtain⟨hm,nm⟩:=az (aI hk) (λx hx=>((br x).mp (F.rt x hx)).2.2.2.2.1);obtain⟨i,hi,p1,p2⟩:=ca F.fP hm;have e:i=k:=F.fP.lG hi hk p2;subst e;have short:∀x∈l,κ x.name<=24:=λx hx=>pe (nm x hx);have pl:∀x∈l,∀j,j<κ l->recAt l j=x->eg l (cb x)=some j:=λx hx j hj ej=>by obtain⟨j',h1,h2,h3⟩:=F.placeOf hx;rw[h2,F.fP.lG h1 hj aa]
 cases hs:(recAt l i).aT with
 | false=>rw[ML p1 hs,Kw (nm _ hm)];refine⟨?_,aQ⟩;have h1:=pl _ hm i hi rfl;rw[show cb (recAt l i)=⟨0,(recAt l i).name⟩ from uW]at h1;exact IA (Bz (nm _ hm)) h1 rfl
 | true=>obtain⟨v,hv,ev,v0⟩:=F.ov _ hm hs;obtain⟨j,hj,q1,q2⟩:=ca F.fP hv;rw[MM p1 hs (by rw[<-ev];exact q1),q2,Kx (nm _ hv) (nm _ hm) (OX (nm _ hm))];grind [cb,recAt,IB,Ik,OX]
theorem Ru(I:bm G)(S:oD G M)(hk:k<κ M.l)(hj:(j:Int)<(fN M.l (recAt M.l k)).blocks):∃s,e9 G.l (fN M.l (recAt M.l k)).name (j:Int)=.ok k/\tT G.P.C (recAt G.l k) j=some s/\ki M (fN M.l (recAt M.l k)).name (j:Int)=(s,0):=by
 have ao:k<κ G.l:=by rw[S.l,lY]at hk;exact hk
 have hm:=aI ao;refine OH ?_;intro e1 e2;rw[e2]at hj;rw[e1];have hb:=((br _).mp (I.hY.rt _ hm)).2.2.2.1.2;have hf:=EI (I.hY.full ao).1 (i:=(j:Int)) ae;have hr:=S.rd _ hm j ae;refine⟨_,hf,hr,?_⟩;rw[GS (by rw[S.l,p9];exact hf),S.l,a'];rfl
theorem EN(I:bm G)(S:oD G M)(hk:k<κ M.l):(1:Int)<=(fN M.l (recAt M.l k)).blocks/\(fN M.l (recAt M.l k)).blocks<=64/\(κ (fN M.l (recAt M.l k)).name)<=100:=by
 have ao:k<κ G.l:=by rw[S.l,lY]at hk;exact hk
 refine OH ?_;intro e1 e2;rw[e1,e2];have hb:=((br _).mp (I.hY.rt _ (aI ao))).2.2.2.1;exact⟨hb.1,hb.2,(I.hY.full ao).2⟩
theorem sG(w:af)(va vb:ah)(la lb:List hV)(ha:Et w va la)(hb:Et w vb lb)(hl:κ la<=1000)(he:EF la lb):Aae Aag 10 #[va,vb] w λe w'=>e=.returned (.bool true)/\Up w w':=by
 obtain⟨a,ca,rfl⟩:=aH.slice ha;have aS:κ lb=κ la:=by rw[he,Aac]
 obtain⟨b,cb,rfl⟩:=aH.slice hb;rw[aS]at hb ⊢;obtain⟨n,hn⟩:=bE (κ la);rw[<-hn]at ha hb hl ⊢;obtain⟨HA,HB,HE,HN,HL⟩:=eW ha hb he hn aS;have hne:((n:Int) != (n:Int))=false:=aq
 clear hn aS;go_in;go_wp2;go_loopw [14] (λi wr=>∃k:Nat,k<=n/\i=i6 k/\Up w wr) (λi _=>n-(Aau i).toNat)
 case atStart=>exact⟨0,bT _,rfl,Up.refl _⟩
 case round=>
  obtain⟨k,hk,rfl,ar⟩:=hrel;have UR:=an ar;by_cases hlt:k<n
  ·have b3:((k:Int)<(n:Int))=True:=by simp;omega
   obtain⟨KA,KB⟩:=aw (show k<κ la from by rw[<-HN.out];exact hlt) (show k<κ lb from by rw[HL.out,<-HN.out];exact hlt);obtain⟨ba,oa,ea,_,ra⟩:=KG (aH.up HA UR) KA.out;obtain⟨bb,ob,eb,_,rb⟩:=KG (aH.up HB UR) KB.out;subst ea;subst eb;have EQ:=an (show lb[k]'KB.out=(la[k]'KA.out).live from by simp only[show lb=la.map hV.live from HE.out,List.getElem_map]);obtain⟨x,hx⟩:=bE (la[k]'KA.out);rw[EQ.out]at rb;rw[<-hx]at ra rb;obtain⟨RA,RB,NB⟩:=aV ra rb (aF.new wr 45 (hN x));have cz:(wr.alloc (.cells (hN x) 45)).cell? (ad wr.heap.size 2)=some (i6 x.dead):=NB.cell 2;have fz:=NB.free 2;clear hx EQ;go_wp2_with(refine arm ?_);rw[show(hN x).setIfInBounds 2 (i6 0)=hN x.live from rfl];obtain⟨b2,u2⟩:=az (aF.new wr 45 (hN x.live)) (ai wr (.cells (hN x.live) 45));have r2:=u2.range RB;obtain⟨w2,hw2⟩:=bE (wr.alloc (.cells (hN x.live) 45));rw[<-hw2]at b2 u2 r2 ⊢;obtain⟨q,hq⟩:=bE (wr.heap.size);rw[<-hq]at b2 ⊢;obtain⟨y,hy⟩:=bE (x.live);rw[<-hy]at b2 r2;clear hw2 hq cz fz hy;have NE:=an (λW:af=>TQ y y W);have ag:decide (y=y)=true:=aq
   rw[ag]at NE;have II:=an (AW y);refine e7 (S:=λW=>aF W q 45 (hN y)/\W.rangeAt bb (ob+k*4) (hN y).toList) al ?_;change Acp _ _ _ _ _ 6 #[false,false,false,false,false,false] _ (w2.drew);have ud:=Up.drew (Up.refl w2);have F0:(λW=>aF W q 45 (hN y)/\W.rangeAt bb (ob+k*4) (hN y).toList) w2.drew:=⟨b2.up ud,ud.range r2⟩;generalize w2.drew=w3 at *;refine tb 0 rfl (yp (λW h=>h.1.range) II underlying45) ?_;refine ta 1 ?_;refine ns ?_;refine tb 4 rfl (yp (λW h=>h.2) II underlying45) ?_;refine tb 5 rfl (ya (h:=XL (.tmp 22) (.tmp 26) rfl y rfl rfl)) ?_;refine nr ?_;clear NE;go_wp2;have e1:(k:Int)+1=((k+1:Nat):Int):=ae
   have KN:=an hlt;go_roundw
   case rel=>exact⟨k+1,hlt,rfl,((UR.trans u2).trans ud)⟩
   case measure=>simp only[Aau];have:=KN.out;omega
  ·have b3:((k:Int)<(n:Int))=False:=by simp;omega
   go_wp2;go_ret;exact⟨rfl,UR⟩
section
open Go.Maps
theorem bh.Zv{mb kb n n':Nat}(h:bh w mb kb n M)(hn:n<=n'):bh w mb kb n' M:=by obtain⟨vb,a,b,c⟩:=h;exact⟨vb,a,b,c.mono hn⟩
theorem Tc(s:List aj)(n:Int):prog.built 33 [(0,i6 3),(1,.string (strOf s)),(3,i6 n)]=some (gx ⟨3,s,[],n,[]⟩ (nl) (nl)):=al
theorem Pz(w:af)(p gb:Nat)(H:aR)(G:ct)(A:bL w p gb H G)(I:bm G)(B:pU G)(mb kb n:Nat)(M:cR)(AM:bh w mb kb n M)(hn:n<800000)(SM:oD G M)(m1:M.st<=100000000)(m2:M.made<=100000000)(aY:∀k,(PF H k\/k=p)->k≠mb/\k≠kb):Aae Aag 13 #[pz p,pz mb] w λe w'=>e=.returned (.bool true)/\bL w' p gb H G/\bh w' mb kb (n+2100) M/\Touch (λk=>PF H k\/k=mb\/k=kb) w w':=by
 obtain⟨IM,N⟩:=az (T9 I B SM m1 m2) (λo=>IF I B SM o);obtain⟨aK,au,HN,ao⟩:=bW N AM hn aY;have aa:=an (show ∀k,(PF H k\/k=mb\/k=kb)->k<w.heap.size from λk hk=>by
  obtain⟨_,a,_,c⟩:=AM;rcases hk with h|rfl|rfl
  ·exact A.ga.pa.lt k h
  ·exact a.lt
  ·exact c.lt)
 have ML:=an (show ∃vb,Aae Aag 12 #[pz mb] w λe w'=>∃v,e=.returned v/\tY w' w.heap.size v (M.l.map (fN M.l))/\Up w w' from by obtain⟨vb,a,b,c⟩:=AM;exact⟨vb,DN w _ _ _ _ _ _ _ a (bc.cm b) IM.hl⟩)
 obtain⟨vb,aI⟩:=ML.out;clear ML hn m1 m2 aY N;go_in;go_wp2_with fail;refine aI.mono ?_;rintro e w1⟨v,rfl,ov,u1⟩;obtain⟨L,hL⟩:=bE (M.l.map (fN M.l));obtain⟨HL,LL⟩:=aw hL (show κ L=κ M.l from by rw[hL];exact(Aac ..));have aS:κ L<=32:=by rw[LL.out];exact(by rw[SM.l,lY];exact I.hY.len)
 rw[<-hL]at ov;have OV:=an (ak.row ov iw);obtain⟨a,cap,rfl⟩:=(ak.row ov iw).slice;clear hL;go_wp2_with fail;refine(wZ _ p _ H G (A.up u1) I).mono ?_;rintro e w2⟨va,rfl,oa,u2⟩;go_wp2_with fail;refine(sG _ _ _ _ L (ak.row oa iw) (aH.up OV u2) (by have:=(QK I);omega) (by rw[HL.out];exact(A0 SM))).mono ?_;rintro e w3⟨rfl,u3⟩;have U3:=an ((u1.trans u2).trans u3);go_wp2;go_loopw [22] (λi wr=>∃k:Nat,k<=κ L/\i=i6 k/\bL wr p gb H G/\bh wr mb kb (n+65*k) M/\Touch (λk=>PF H k\/k=mb\/k=kb) w3 wr) (λi _=>κ L-(Aau i).toNat)
 case atStart=>exact⟨0,bT _,rfl,(A.up U3),(au.up U3),Touch.refl _ _⟩
 case round=>
  obtain⟨k,hk,rfl,ar,mr,tr⟩:=hrel;by_cases hlt:k<κ L
  ·have b3:((k:Int)<(κ L:Int))=True:=by simp;omega
   have KM:=an (show k<κ M.l from by rw[<-LL.out];exact hlt);obtain⟨b,off,ea,_,ra⟩:=KG (aH.tN (aH.up (aH.up OV u2) u3) tr (λc hc h=>by have:=aa c h;have:=(ov.aJ c hc).1;omega)) hlt;subst ea;have ex:L[k]=fN M.l (recAt M.l k):=by
    have:∀(L':List hV)(h:L'=M.l.map (fN M.l))(h2:k<κ L'),L'[k]=fN M.l (recAt M.l k):=by rintro _ rfl h2;exact TR h2
    exact this L HL hlt
   rw[ex]at ra;obtain⟨RB,BL⟩:=aw (λ(j:Nat) (hj:(j:Int)<(fN M.l (recAt M.l k)).blocks)=>Ru I SM KM hj) (EN I SM KM);obtain⟨x,hx⟩:=bE (fN M.l (recAt M.l k));rw[<-hx]at ra RB BL;obtain⟨UX,BX⟩:=aw (ai wr (.cells (hN x) 45)) (aF.new wr 45 (hN x));clear hx ex;go_wp2_with(refine arm ?_);obtain⟨w4,hw4⟩:=bE (wr.alloc (.cells (hN x) 45));obtain⟨q,hq⟩:=bE (wr.heap.size);have QL:=an (show w.heap.size<=q from by rw[hq];exact bK U3.size tr.size);rw[<-hw4,<-hq]at BX ⊢;rw[<-hw4]at UX;have aG:x.blocks<=64:=BL.2.1;clear hw4 hq;obtain⟨w0,ay⟩:=bE (wr);subst ay;go_loopw [8] (λi wr=>∃j:Nat,(j:Int)<=x.blocks/\i=i6 j/\bL wr p gb H G/\bh wr mb kb (n+65*k+j) M/\Touch (λk=>PF H k\/k=mb\/k=kb) w3 wr/\aF wr q 45 (hN x)) (λi _=>x.blocks.toNat-(Aau i).toNat)
   case atStart=>exact⟨0,by have:=BL.1;omega,rfl,(ar.up UX),(mr.up UX),(tr.iZ UX),BX⟩
   case round=>
    obtain⟨j,hj,rfl,aj,mj,tj,bj⟩:=hrel;have c0:wr.cell? (ad q 0)=some (.string (strOf x.name)):=bj.cell 0;have c1:wr.cell? (ad q 1)=some (i6 x.blocks):=bj.cell 1;by_cases bk:(j:Int)<x.blocks
    ·have b4:=ee bk;obtain⟨s,f1,f2,f3⟩:=RB j bk;obtain⟨F3,F1,F2,IS,SS⟩:=eW f3 f1 f2 (show(prog.info? 60).map (·.size)=some (aC s.val).size from by rw[dw,bX,s.2]) (show(aC aM).size=(aC s.val).size from by rw[bX,bX,s.2];rfl);clear f1 f2 f3;go_wp2_with fail;refine(xa _ p _ H G aj I _ (by have:=BL.2.2;omega) _).mono ?_;rintro e w5⟨hr,a5,t5⟩;have aP:e=rt #[.agg (aC s.val),i6 0]:=by
      rcases hr with⟨m,h1,h2⟩|⟨k',s',h1,h2,h3⟩
      ·rw[F1.out]at h1;cases h1
      ·rw[F1.out]at h1;cases h1;rw[show((j:Nat):Int).toNat=j from Abp j,F2.out]at h2;cases h2;exact h3
     subst aP;obtain⟨U6,S6⟩:=aw (ai w5 (.cells (aC s.val) 60)) (aF.new w5 60 (aC s.val));obtain⟨w6,ab⟩:=bE (w5.alloc (.cells (aC s.val) 60));obtain⟨q6,ag⟩:=bE (w5.heap.size);obtain⟨aE,aB⟩:=aw ab ag;rw[<-ab,<-ag]at S6;rw[<-ab]at U6;obtain⟨M6,B6⟩:=aw ((mj.abu aj (t5.mono (λ_ h=>.inl h)) (λh=>(ao _ h).2 rfl)).up U6) ((bj.ax t5 (λh=>by have:=aa q (.inl h);have:=QL.out;omega)).up U6);have al:=an (Bx w6 mb kb (n+65*k+j) M M6 (by have:=HN.out;omega) IM ⟨3,x.name,[],(j:Int),[]⟩ (nl) (nl) ⟨by have:=BL.2.2;show κ x.name<=_;omega,Bq,aD.nil _ _⟩ (λhne=>absurd rfl hne) (aK _));replace c0:w6.cell? (ad q 0)=some (.string (strOf x.name)):=B6.cell 0;have DV:=an (show lb M ⟨3,x.name,[],(j:Int),[]⟩=(s,(0,M))from by show((ki M x.name (j:Int)).1,((ki M x.name (j:Int)).2,M))=_;rw[F3.out])
     rw[DV.out]at al;clear hr ab ag c1;go_wp2_with(first
      | refine bB 60 hP ?_
      | ((with_reducible refine cx _ _ _ ?_);refine fK _ rfl _ (.tmp 9) (.tmp 38) rfl _ _ (aC aM) rfl rfl rfl IS SS (dx _) ?_)
      | ((with_reducible refine r9 9 _ ?_);refine j8 ?_))
     rw[<-aB.out,<-aE.out];refine an ?_;go_wp2_with(first
      | ((with_reducible refine eP _ _ ?_);refine En rfl _ 0 1 3 (.const (i6 3)) (.tmp 43) (.tmp 44) rfl _ _ _ _ (Tc _ _) rfl rfl rfl ?_))
     refine al.mono ?_;rintro e w7⟨rfl,m7,t7⟩;have U8:=an (ai w7 (.cells (aC s.val) 60));have EQ:∀W:af,(Ach 10000 60 (.agg (aC s.val)) (.agg (aC s.val))).run Aag W=.ok true W:=λW=>by rw[LQ s.val s.val s.2 s.2 W,h8 rfl]
     clear c0;go_wp2_with(first
      | refine bB 60 hP ?_
      | ((with_reducible refine cx _ _ _ ?_);refine fK _ rfl _ (.tmp 11) (.tmp 47) rfl _ _ (aC aM) rfl rfl rfl IS SS (dx _) ?_)
      | refine cY 60 9 ((S6.ax t7 (λh=>bh.IC M6 S6 av h)).up U8) (hi:=IS) ?_
      | refine cY 60 11 (aF.new _ _ _) (hi:=IS) ?_)
     go_roundw
     case rel=>exact⟨j+1,ae,aq,((a5.up U6).model M6 t7).up U8,m7.up U8,(((tj.trans t5 (λ_ h _=>.inl h)).iZ U6).trans t7 (λ_ h _=>.inr h)).iZ U8,(B6.ax t7 (λh=>by have:=aa q (.inr h);have:=QL.out;omega)).up U8⟩
     case measure=>simp only[Aau];omega
    ·have b4:=cI bk;go_wp2;go_roundw
     case rel=>exact⟨k+1,ae,aq,aj,mj.Zv ae,tj⟩
     case measure=>simp only[Aau];omega
  ·obtain rfl:k=κ L:=by omega
   have b3:((κ L:Int)<(κ L:Int))=False:=aq
   go_wp2;go_ret;exact⟨rfl,ar,mr.Zv ae,(Touch.bP (F:=λk=>PF H k\/k=mb\/k=kb) U3).trans tr (λ_ h _=>h)⟩
end
def aaZ(N:Int)(w:af)(e:Ab2)(w':af):Prop:=((N<64\/400<N)/\e=.returned (.tuple #[.pointer none,.pointer none])/\Up w w')\/(64<=N/\N<=400/\∃p gb H G b,e=.returned (.tuple #[.pointer (some ⟨p,0,none⟩),.pointer (some ⟨H.h.d,0,none⟩)])/\bL w' p gb H G/\Up w w'/\w.heap.size<=p/\(∀k,PF H k->w.heap.size<=k)/\g' N.toNat G b)
theorem Iu(w:af)(N:Int):Aae Aag 7 #[i6 N] w (aaZ N w):=by
 by_cases h1:N<64
 ·have b1:=ee h1;go_in;go_wp2;go_ret2;exact .inl ⟨.inl h1,rfl,Up.refl w⟩
 by_cases h2:400<N
 ·obtain⟨b1,b2⟩:=az (cI h1) (ee h2);go_in;go_wp2;go_ret2;exact .inl ⟨.inr h2,rfl,Up.refl w⟩
 obtain⟨n,rfl⟩:∃n:Nat,N=(n:Int):=⟨N.toNat,ae⟩;obtain⟨b1,b2⟩:=az (cI h1) (cI h2);have hn:64<=n/\n<=400:=ae
 obtain⟨HN,DN⟩:=aw hn (XB w n ae);clear h1 h2 hn;go_in;go_wp2_with fail;refine DN.mono ?_;rintro e w1⟨h,rfl,da,u1,fo⟩;obtain⟨b,K,hb,_⟩:=MB (G:=tu (Aad n ey) 0 true) (ID aQ) (xN n);obtain⟨HB,FO⟩:=aw hb fo;clear fo hb b1 b2;go_wp2_with fail;refine(Rj _ h _ 0 _ da b K).mono ?_;rintro e w2⟨p,gb,H,G2,vp,rfl,hp,hA,hH,aY,hc,T,hv⟩;obtain⟨HH,ao,HV,HP⟩:=bW hH aY hv hp;clear hH aY hv hp;go_wp2;go_ret2;have hd:H.h.d=h.d:=by rw[HH.out]
 rw[<-hd];have us:=u1.size;refine .inr ⟨di,di,p,gb,H,G2,b,rfl,hA,Touch.up T u1 (λk hk=>FO k hk),bK us HP,?_,Lc cj cj cj HB⟩;rintro k(rfl|rfl|hk)
 ·simp only[Hid]at *;omega
 ·simp only[Hid]at *;omega
 ·rw[HH.out]at hk;rcases ur hk with hk|hk
  ·exact FO k hk
  ·rcases HV.out k hk with h3|h3
   ·exact FO k (.inr (.inr (.inr h3)))
   ·omega
theorem Sw:∀W:af,(Acj 65).run Aag W=.ok (.agg (lS (nl) (nl) false 0 0)) W:=zb
theorem PC(w:af):Aae Aag 6 #[] w λe w'=>e=.returned (.bool true)/\Up w w':=by
 go_in;go_wp2_with fail;refine(Iu w _).mono ?_;rintro e w1 h;rcases h with⟨h,_⟩|⟨_,_,p,gb,H,G,b,rfl,A1,u1,up,uf,N⟩
 ·omega
 have N:=N;obtain⟨UP,UF,CR⟩:=aV up uf (show Aae Aag 17 #[pz p,.string ⟨#[118]⟩,i6 4] w1 _ from xS w1 p gb H G A1 N.inv ⟨by rw[N.nx];omega,by rw[N.st];omega,by rw[N.m];omega,by rw[N.tx];omega⟩ zS av 4);clear up uf;go_wp2_with fail;refine CR.mono ?_;rintro e w2⟨r,G1,bl,aa,H1,rfl,hR,bj,hA,T1,bb⟩;obtain⟨ag,hG⟩:=aaM N hR;subst ag hG;obtain⟨A2,U2,aR⟩:=aV ((hA.resolve_right (λh=>h.1 rfl)).2) (show Up w w2 from Touch.up T1 u1 (λk hk=>hk.elim (λh=>UF k (.inr (.inr h))) (λh=>by rw[h];exact UP))) (show ∀k,PF H1 k->w.heap.size<=k from λk hk=>(bb.2 k hk).elim (UF k) (bK u1.size));have WR:=an (show Aae Aag 18 #[pz p,.string ⟨#[118]⟩,i6 1,cD w2.heap.size 1 1] (w2.alloc (.cells #[.int .u8 97] 5 (1,2))) _ from
  xY (w2.alloc (.cells #[.int .u8 97] 5 (1,2))) p aa H1 (j7 G) (A2.up (ai w2 _)) (ZE N) (abQ N) zS av 1 (some ⟨w2.heap.size,0,none⟩) 1 [97] (aD.lit w2 #[.int .u8 97] 5 (1,2) [97] 1 rfl dK rfl)
   (λk hk=>by
    simp[Aan]at hk
    subst hk
    exact⟨λhf=>by have:=A2.ga.pa.lt _ (.inr (.inr hf));omega,by rw[Aa3];omega⟩))
 have kc:=Lib.run_convert_bytes_const (P:=Aag) w2 30 5 #[.int .u8 97] 1 1 Aa0 underlying5;clear hA UF;go_wp2_with fail;refine WR.mono ?_;rintro e w3⟨r,G2,ao,bg,H2,rfl,hR,aE,hA,T2,bc⟩;obtain⟨ag,TT,ft⟩:=Y5 N hR;subst ag;have UA:=an (show Up w (w2.alloc (.cells #[.int .u8 97] 5 (1,2)))from U2.trans (ai _ _));obtain⟨U3,aS,FT⟩:=aV (show Up w w3 from Touch.up T2 UA (λk hk=>hk.elim (λh=>aR k (.inr (.inr h))) (λh=>by rw[h];exact UP))) (show ∀k,PF H2 k->w.heap.size<=k from λk hk=>(bc.2 k hk).elim (aR k) (bK UA.size)) ft;clear kc aR;go_wp2_with fail;refine(D0 _ p _ _ _ ((hA.resolve_right (λh=>h.1 rfl)).2) (TT.inv ft) (WL N TT)).mono ?_;rintro e w4⟨b3,G3,bq,H3,bs,rfl,hb,hK,hC,a1,A4,T3,be⟩;obtain⟨AL,U4,aq,aG⟩:=bW (SZ N TT FT hb hK hC) (show Up w w4 from Touch.up T3 U3 (λk hk=>hk.elim (λh=>aS k (.inr (.inr h))) (λh=>by rw[h];exact UP))) (show ∀k,PF H3 k->w.heap.size<=k from λk hk=>(be.2 k hk).elim (aS k) (bK U3.size)) (show H3.h.d=H.h.d from by rw[a1];exact(by rw[aE];exact(by rw[bj])));have CS:=an (Qb _ _ _ 0 (DA.fl0 (by have:=A4.ga.pa.dev;rw[AL.out.m]at this;exact this)));rw[aG.out]at CS;clear hb a1 aS FT;go_wp2_with fail;refine CS.mono ?_;rintro e w5⟨rfl,bm,d5,t5,o5⟩;obtain⟨h5,aJ⟩:∃y:iM,y={H3.h with vp:=bm}:=⟨_,rfl⟩;have aX:=an (show h5.d=H.h.d from by rw[aJ];exact aG);rw[<-aJ]at d5;have U5:=an (show Up w w5 from Touch.up t5 U4 (λk hk=>aq k (.inr (.inr hk))));have aT:=an (show ∀k,cM h5 k->w.heap.size<=k from λk hk=>by
  rw[aJ]at hk;rcases ur hk with h|h
  ·exact aq k (.inr (.inr h))
  ·rcases o5 k h with h2|h2
   ·exact aq k (.inr (.inr (.inr (.inr (.inr h2)))))
   ·exact bK U4.size h2)
 have OP:=an (Rl _ _ _ 0 _ d5 AL.inv AL.ring _ AL.dsk AL.bd);rw[aX.out]at OP;clear o5 aJ aq aG;go_wp2_with fail;refine OP.mono ?_;rintro e w6⟨p2,bh,H6,rfl,a6,A6,T6,l1,l2,l3,l4⟩;obtain⟨U6,II⟩:=aw (show Up w w6 from Touch.up T6 U5 (λk hk=>aT k hk)) (XK AL.inv AL.dsk 0 true);have aY:=an (show ∀k,PF H6 k->w.heap.size<=k from λk hk=>by
  have:=U5.size;rcases hk with rfl|rfl|hk
  ·omega
  ·omega
  ·rw[a6]at hk;exact aT k hk)
 clear l1 l2 l3 l4;go_wp2_with fail;refine(wZ _ _ _ _ _ A6 II).mono ?_;rintro e w7⟨v,rfl,oi,u7⟩;have L1:κ ((AR G3 0 true).l.map (jK (AR G3 0 true).l))=1:=by obtain⟨x,hx,_⟩:=AL.one;show(G3.l.map (jK G3.l)).length=1;rw[hx];rfl
 obtain⟨ia,ic,rfl⟩:=(ak.row oi iw).slice;rw[L1];have RD:=an (show Aae Aag 21 #[pz p2,.string ⟨#[118]⟩,i6 1] w7 _ from xa w7 p2 bh H6 (AR G3 0 true) (A6.up u7) II zS av 1);clear L1;go_wp2_with fail;refine RD.mono ?_;rintro e w8⟨he,A8,t8⟩;have he:e=.returned (.tuple #[.agg (aC (jW [97]).val),i6 0]):=by
  obtain⟨x,hx,hs,hr⟩:=AL.one;have hf:e9 (AR G3 0 true).l zS 1=.ok 0:=by show e9 G3.l zS 1=.ok 0;rw[hx];exact aaK hs
  have ay:tT (AR G3 0 true).P.C (recAt (AR G3 0 true).l 0) (1:Int).toNat=some (jW [97]):=by show tT G3.P.C (recAt G3.l 0) 1=_;rw[hx];exact hr
  rcases he with⟨n,h,_⟩|⟨k,s,h,h2,h3⟩
  ·rw[hf]at h;cases h
  ·rw[hf]at h;cases h;rw[ay]at h2;cases h2;exact h3
 subst he;obtain⟨cc,aP⟩:=bE (aC (jW [97]).val);have CZ:=an (show cc.size=128/\cc[0]?=some (.int .u8 97)/\cc.all (·.oneCell')=true from by rw[aP];exact⟨by rw[bX];exact(jW [97]).property,al,dx _⟩)
 rw[<-aP];obtain⟨D8,U8⟩:=aw (show DA w8 h5 G3.P.C 0 true from by have:=A8.ga.pa.dev;rw[a6]at this;exact this) (show Up w w8 from Touch.up t8 (U6.trans u7) (λk hk=>aY k hk));obtain⟨u9,b9⟩:=az (ai w8 (.cells cc 60)) (aF.new w8 60 cc);obtain⟨w9,ar⟩:=bE (w8.alloc (.cells cc 60));obtain⟨q5,au⟩:=bE (w8.heap.size);obtain⟨ba,a7⟩:=aw ar au;rw[<-ar]at u9 b9;rw[<-au]at b9;obtain⟨F8,WK⟩:=aw (show ∀k,cM h5 k->k<q5 from by rw[au];exact D8.lt) (PH _ _ _ 0 _ (D8.up u9) AL.inv AL.ring _ AL.dsk);rw[aX.out]at WK;clear aP ar au aY;go_wp2_with(first
  | refine arm ?_
  | ((with_reducible refine cx _ _ _ ?_);refine fK _ rfl _ (.tmp 5) (.tmp 54) rfl _ _ (aC aM) rfl rfl rfl (by rw[CZ.out.1];kernel_rfl) (by rw[CZ.out.1];rfl) CZ.2.2 ?_))
 rw[<-a7.out,<-ba.out];refine WK.mono ?_;rintro e aQ⟨vr,vt,ks,rfl,se,r1,r2,d1,t1⟩;obtain⟨ra,rc,rfl⟩:=aH.slice r1;obtain⟨ta,tc,rfl⟩:=aH.slice r2;rw[show((κ (ks.filter (VH (h7 G3 (κ G3.l)))):Nat):Int)=3 from by rw[AL.out.walk se];rfl];have LN:=an (show(aB (gW G3.P.s) 4096).length<=100000 from by have:=iu (gW G3.P.s) 4096;omega);obtain⟨sl,aI⟩:=bE (aB (gW G3.P.s) 4096);rw[<-aI]at r1 r2 LN ⊢;obtain⟨rl,aO⟩:=bE (κ sl);obtain⟨n,hn⟩:∃y:Int,y=(κ G3.l:Int):=⟨_,rfl⟩;rw[<-aO]at r1 r2 ⊢;rw[<-hn];obtain⟨bo,U10⟩:=aw (b9.ax t1 (λhf=>absurd (F8 _ hf) ae)) (show Up w aQ from Touch.up t1 (U8.trans u9) (λk hk=>aT k hk));obtain⟨aj,aU⟩:=az (ai aQ (.cells (lS (.slice ra rl rc) (.slice ta rl tc) false n 3) 65)) (aF.new aQ 65 (lS (.slice ra rl rc) (.slice ta rl tc) false n 3));obtain⟨w11,ab⟩:=bE (aQ.alloc (.cells (lS (.slice ra rl rc) (.slice ta rl tc) false n 3) 65));obtain⟨q7,aW⟩:=bE (aQ.heap.size);obtain⟨aL,a8⟩:=aw ab aW;rw[<-ab]at aj aU;rw[<-aW]at aU;obtain⟨B5,CL⟩:=aw (bo.up aj) (JR w11 (.slice ra rl rc) (.slice ta rl tc) sl (aH.up r1 aj) (aH.up r2 aj) LN n 3);have bf:w11.cell? (ad q5 0)=some (.int .u8 97):=(B5.cell 0).trans CZ.2.1;clear ab aW aI aO hn;go_wp2_with(first
  | refine arm ?_
  | ((with_reducible refine r9 5 _ ?_);refine j8 ?_)
  | ((with_reducible refine r9 _ _ ?_);refine j8 ?_))
 rw[<-a8.out,<-aL.out];refine an ?_;go_wp2_with(refine arm ?_);refine CL.mono ?_;rintro e bO⟨rfl,aK⟩;have bn:bO.cell? (ad q7 4)=some (i6 3):=(aU.up aK).cell 4;clear bf;go_wp2;go_ret;exact⟨rfl,((U10.trans aj).trans aK)⟩
structure SM where
 d:oC
 da:Option Adr
 dn:Nat
 dc:Nat
 ka:Option Adr
 kn:Nat
 kc:Nat
def Ys(y:SM):Array ah:=gx y.d (.slice y.da y.dn y.dc) (.slice y.ka y.kn y.kc)
def po(y:SM):List ah:=(Ys y).toList
theorem O'(y:SM):(Ys y).all (·.oneCell')=true:=by simp[Ys,gx,Value.oneCell']
theorem opw:hh po 6:=⟨ae,λ_=>rfl,λy v hv=>by have:=O' y;rw[Fh]at this;exact this v (by grind [po])⟩
def Ht(w:af)(y:SM):Prop:=SN w (.slice y.da y.dn y.dc) y.d/\(κ y.d.data)<=140737488351232
def Ht.up{w w':af}{y:SM}(h:Ht w y)(u:Up w w'):Ht w' y:=⟨⟨h.1.nm,h.1.to,aD.up h.1.bs u⟩,h.2⟩
theorem HI:prog.cellsOf 33=6/\prog.cellsOf 3=1/\prog.cellsOf 9=1/\prog.cellsOf 30=1/\prog.cellsOf 31=1/\prog.cellsOf 5=1/\prog.cellsOf 4=1/\prog.bytesOf 5=1:=av
theorem Qd{H:Type}{enc:Aab × ah->H}{P:bp}(he:P.underlying e=some .bool):∀n c y,DataW.trod enc P W 0 (λ_=>true) true n e [c]=some y->∃x,c=Ab x/\True:=by intro n c y hy;obtain⟨b,hb,_⟩:=DataW.trod_bool he hy;simp at hb;exact⟨b,hb,trivial⟩
theorem Yt{H:Type}{enc:Aab × ah->H}{n0:Nat}{cs:List ah}{x:DataW H × List MemPlace}(hf:DataW.trod enc Aag W 0 (λ_=>true) true n0 33 cs=some x)(hw:∀m∈x.1.weights Aag 33,m<=reachBytes):∃y:SM,cs=po y/\Ht W y:=by
 obtain⟨k0,k1,k2,k3,k4,k5,k6,k7⟩:=HI;obtain⟨xs,n,_,rfl,hl,hlen,hg⟩:=DataW.trod_struct underlying33 hf;rw[k0]at hl;match cs,hl with
 | [c0,c1,c2,c3,c4,c5],_=>
 match xs,hlen with
 | [y0,y1,y2,y3,y4,y5],_=>
 obtain⟨g0,g1,g2,g3,g4,g5⟩:=q5 (hg 0 _ rfl) (hg 1 _ rfl) (hg 2 _ rfl) (hg 3 _ rfl) (hg 4 _ rfl) (hg 5 _ rfl);simp[k1,k2,k3,k4]at g0 g1 g2 g3 g4 g5;obtain⟨m0,h0,_,w0⟩:=DataW.trod_int underlying3 g0;obtain⟨s1,h1,_,l1⟩:=DataW.trod_string underlying9 g1;obtain⟨s2,h2,_,l2⟩:=DataW.trod_string underlying9 g2;obtain⟨m3,h3,_,w3⟩:=DataW.trod_int underlying3 g3;obtain⟨d4,p4⟩:=y4;obtain⟨l8,r8,s8,t8,w8⟩:=DU aK (λ_=>True) Aa0 k5 (ZW underlying5) g4;obtain⟨d5,p5⟩:=y5;obtain⟨l9,r9,s9,t9,w9⟩:=DU Ab (λ_=>True) underlying31 k6 (Qd underlying4) g5;simp at h0 h1 h2 h3;subst h0 h1 h2 h3;obtain⟨pa,pc,rfl⟩:=r8.slice;obtain⟨qa,qc,rfl⟩:=r9.slice;refine⟨⟨⟨m0,s1.data.toList,s2.data.toList,m3,l8⟩,pa,κ l8,pc,qa,κ l9,qc⟩,rfl,⟨?_,?_,r8⟩,?_⟩
 ·assumption
 ·assumption
 ·show κ l8<=_;rcases t8 with rfl|⟨ee,ss,rfl⟩
  ·grind [Tq]
  ·have hm:=hw ((κ ee+κ ss)*1) (by simp only[DataW.weights,underlying33];exact DataW.weights_mem_each (j:=4) rfl rfl _ (by simp[DataW.weights,Aa0,k7]))
   have aa:κ l8<=κ ee+κ ss:=s8;unfold reachBytes at hm;omega
theorem V0{H:Type}{enc:Aab × ah->H}{v:ah}{d:DataW H}{ps:List MemPlace}(ab:Value.okWide Aag W .any base 22 v)(hd:DataW.Trod enc Aag W 0 (λ_=>true) true 22 v d ps)(aj:∀m∈d.weights Aag 22,m<=reachBytes):∃l:List SM,aH po W v l/\∀y∈l,Ht W y:=by obtain⟨a0,len,cap,rfl⟩:=WideShapes.okWide_slice underlying22 ab;obtain⟨fuel,hf⟩:=hd;obtain⟨ys,h1,_,_,h4⟩:=LM opw (λy:SM=>Ht W y) underlying22 HI.1 (λn cs y hy hm=>Yt hy (λm h=>aj m (hm m h))) hf;grind
section
open Go.Maps
theorem JL:∀W:af,(Acj 33).run Aag W=.ok (.agg (gx ⟨0,[],[],0,[]⟩ (nl) (nl))) W:=zb
theorem abq{a:Option Adr}{l:List SM}(h:aH po w (.slice a n cap) l)(hk:k<κ l):∃b off,a=some ⟨b,off,none⟩/\b<w.heap.size/\w.rangeAt b (off+k*6) (Ys l[k]).toList:=by obtain⟨b,off,e,hb,_,hc⟩:=aH.get h opw ae;exact Gj
theorem IU{p gb mb kb n:Nat}(A:bL w p gb H G)(AM:bh w mb kb n M):∀k,(PF H k\/k=p)->k≠mb/\k≠kb:=λk hk=>by
 obtain⟨_,a,_,c⟩:=AM;refine⟨λe=>by subst e;exact A.Yp a av av hk,λe=>?_⟩;subst e;rcases hk with h|rfl
 ·obtain⟨C,t,fr,h2⟩:=A.ga.pa.cellsOf h;obtain⟨_,D,⟨es,clock,hb,_⟩,_⟩:=c;rw[hb]at h2;cases h2
 ·exact c.ne A.fg rfl
theorem YK{b:List aj}(N:g' n G b):oD G Lb:=⟨by rw[N.nx];rfl,by rw[N.l];rfl,by rw[N.nx];omega,rfl,λ_=>rfl,λx hx=>by rw[N.l]at hx;cases hx⟩
def WhI(w0:af)(p mb kb k:Nat)(W:af):Prop:=∃gb H G M,bL W p gb H G/\bm G/\oD G M/\M.st=G.P.st/\bh W mb kb k M/\(G.next<=1+k/\G.P.st<=2+k/\G.P.m<=3*k/\G.u.dz<=1+k/\M.st<=2+k/\M.made<=k)/\Up w0 W/\∀j,PF H j->w0.heap.size<=j
theorem Y6(w:af)(N:Int)(v:ah)(l:List SM)(hv:aH po w v l)(ho:∀y∈l,Ht w y):Aae Aag 3 #[i6 N,v] w λe w'=>e=.returned (.bool true)/\Up w w':=by
 obtain⟨a0,c0,rfl⟩:=aH.slice hv;obtain⟨n,hn⟩:=bE (κ l);have HN:=an hn;rw[<-hn]at hv ⊢;have HO:=an ho;clear ho hn;go_in;go_wp2_with fail;refine(PC w).mono ?_;rintro e w1⟨rfl,u1⟩;go_wp2_with fail;refine(Iu _ N).mono ?_;rintro e w2 h;rcases h with⟨_,rfl,u2⟩|⟨h1,h2,p,gb,H,G,b,rfl,A2,u2,up,uf,NP⟩
 ·have U2:=an (u1.trans u2);go_wp2;go_ret;exact⟨rfl,U2⟩
 obtain⟨S1,U2⟩:=aw u1.size (u1.trans u2);obtain⟨UP,UF⟩:=aw (show w.heap.size<=p from bK S1 up) (show ∀j,PF H j->w.heap.size<=j from λj hj=>bK S1 (uf j hj));clear up uf h1 h2;by_cases ax:60<n
 ·have au:((n:Int)>60)=True:=by simp;omega
  go_wp2;go_ret;exact⟨rfl,U2⟩
 have au:((n:Int)>60)=False:=ab
 have ax:n<=60:=ae
 go_wp2_with fail;refine(QT _).mono ?_;rintro e w3⟨mb,kb,rfl,m1,m2,AM,u3⟩;have UM:=an (show w.heap.size<=mb/\w.heap.size<=kb from⟨bK U2.size m1,bK U2.size m2⟩);clear m1 m2 S1;go_wp2;go_loopw [27] (λi wr=>∃k:Nat,k<=n/\i=i6 k/\WhI w p mb kb k wr) (λi _=>n-(Aau i).toNat)
 case atStart=>exact⟨0,bT _,rfl,⟨gb,H,G,Lb,A2.up u3,NP.inv,YK NP,by rw[NP.st];rfl,AM,⟨by rw[NP.nx];omega,by rw[NP.st];omega,by rw[NP.m];omega,by rw[NP.tx];omega,av,av⟩,U2.trans u3,UF⟩⟩
 case round=>
  obtain⟨k,hk,rfl,hw⟩:=hrel;by_cases hlt:k<n
  ·have b3:((k:Int)<(n:Int))=True:=by simp;omega
   obtain⟨gb,H,G,M,a,i,s,st,am,bd,u,uf⟩:=hw;obtain⟨A,I,ST,AM,BD,U,UF,SS⟩:=Ju a i st am bd u uf s;have KL:k<κ l:=di
   obtain⟨b0,off,rfl,aD,rg⟩:=abq hv KL;have YO:=an (HO l[k] (cw KL));obtain⟨y,hy⟩:=bE (l[k]);rw[<-hy]at rg YO;obtain⟨u4,b4⟩:=az (ai wr (.cells (Ys y) 33)) (aF.new wr 33 (Ys y));obtain⟨w4,hw4⟩:=bE (wr.alloc (.cells (Ys y) 33));obtain⟨q9,aa⟩:=bE (wr.heap.size);obtain⟨ar,ao⟩:=aw hw4 aa;rw[<-hw4]at u4 b4;rw[<-aa]at b4;have U4:=an (u.trans u4);obtain⟨aj,A4,ad⟩:=aV (YO.up U4) (a.up u4) (show bh w4 mb kb k M from am.up u4);clear st bd uf hw4 aa hy;go_wp2_with(first
    | refine cT 33 29 (Ys y) (λj x hj=>by have:=rg j x hj;exact u.cell this) ?_
    | refine bB 33 JL ?_
    | refine eh 33 9 30 wr (Ys y) 33 (gx ⟨0,[],[],0,[]⟩ (nl) (nl)) ?_
    | ((with_reducible refine r9 _ _ ?_);refine j8 ?_))
   rw[<-ao.out,<-ar.out];refine an ?_;go_wp2_with(refine arm ?_);refine(S9 _ p _ H G A4 I ⟨di,di,di,di⟩ _ _ k M ad ae SS di di _ _ _ _ _ _ _ (λ_=>ST) aj.1 aj.2 (λhne j hj=>by have hb:=tA YO.1.bs (FB.2 hne) _ hj;have h1:=UM.out;have h2:=UP.out;have h3:=U4.size;exact⟨ae,ae,λhf=>by have:=UF j hf;omega,ae,ae⟩) (IU A4 ad)).mono ?_;rintro e w5⟨rfl,s2,r2,G3,gb',H',vp,M',ay,tU,A5,ag,hH,T5,NH⟩;have U5:=an (show Up w w5 from Touch.up T5 U4 (λj hj=>by
    obtain⟨h1,h2⟩:=az UM.out UP.out;rcases hj with hj|rfl|rfl|rfl
    ·exact UF j hj
    ·exact h2
    ·exact h1.1
    ·exact h1.2))
   have al:=an (show G3.next<=1+(k+1)/\G3.P.st<=2+(k+1)/\G3.P.m<=3*(k+1)/\G3.u.dz<=1+(k+1)/\M'.st<=2+(k+1)/\M'.made<=k+1 from by have:=BD.out;have:=tU.b1;have:=tU.b2;have:=tU.b3;have:=tU.b4;have:=tU.c1;have:=tU.c2;omega)
   obtain⟨I5,S5⟩:=aw tU.inv tU.sim;clear hH b3;go_wp2_with fail;refine(wZ _ p _ _ _ A5 tU.inv).mono ?_;rintro e w6⟨v6,rfl,o6,u6⟩;have ML:=an (show ∃vb:Unit,Aae Aag 12 #[pz mb] w6 λe w'=>∃v,e=.returned v/\tY w' w6.heap.size v (M'.l.map (fN M'.l))/\Up w6 w' from by obtain⟨vb,a,b,c⟩:=(ag.up u6);exact⟨(),DN _ _ _ _ _ _ _ _ a (bc.cm b) (by rw[S5.out.l,lY];have:=I5.hY.len;omega)⟩)
   obtain⟨_,ml⟩:=ML.out;clear ML;go_wp2_with fail;refine ml.mono ?_;rintro e w7⟨v7,rfl,o7,u7⟩;have U7:=an (u6.trans u7);go_wp2_with fail;refine(sG _ _ _ _ _ (aH.up (ak.row o6 iw) u7) (ak.row o7 iw) (by rw[Aac];have:=I5.hY.len;omega) (A0 S5)).mono ?_;rintro e w8⟨rfl,u8⟩;go_wp2;go_roundw
   case rel=>exact⟨k+1,ae,aq,⟨gb',H',G3,M',A5.up (U7.trans u8),I5,S5,(tU.st ST),ag.up (U7.trans u8),al,U5.trans (U7.trans u8),(λj hj=>(NH.2 j hj).elim (UF j) (bK U4.size))⟩⟩
   case measure=>simp only[Aau];omega
  ·obtain rfl:k=n:=by omega
   have b3:((k:Int)<(k:Int))=False:=aq
   obtain⟨gb,H,G,M,a,i,s,st,am,bd,u,uf⟩:=hw;obtain⟨AG,UF⟩:=aw (Pz wr p gb H G a i ⟨ae,ae,ae,ae⟩ mb kb k M am ae s ae ae (IU a am)) uf;clear st bd uf;go_wp2_with fail;refine AG.mono ?_;rintro e w9⟨rfl,_,_,T9⟩;have U9:=an (show Up w w9 from Touch.up T9 u (λj hj=>by
    have h1:=UM.out;rcases hj with hj|rfl|rfl
    ·exact UF j hj
    ·exact h1.1
    ·exact h1.2))
   go_wp2;go_ret;exact⟨rfl,U9⟩
end
def yA(w:af)(n:Int)(hn:-9223372036854775808<=n/\n<=9223372036854775807)(v:ah)(l:List SM)(hv:aH po w v l)(ho:∀y∈l,Ht w y):Aae Aag 3 #[i6 n,v] w λe w'=>e=.returned (.bool true)/\Up w w':=Y6 w n v l hv ho
section
open Go.ChangeAt Go.ChangeShapes Go.WideShapes
theorem own:ownKnob prog.godebug=none:=al
theorem laidOut:laidOutB Aag=true:=al
theorem lifted(os:Os)(started:os.Started)(H:Type)(enc:Aab × ah->H):ReturnsInHanded {} Tryz.checked os 3 .any (Rows.wholeModelSpec.pre6 enc Aag Tryz.f3 Rows.wholeModelRow.domain false) (Rows.wholeModelSpec.post enc Aag Tryz.f3 false true false false):=by
 refine returnsInHanded_of_change_sized (C:=Tryz.checked) own started al func3 (ChangeSpec.witness6 (enc:=enc) (C:=Tryz.checked) false ⟨#[],#[i6 0,nl],[]⟩ 8 al al al al) ?_;intro W base args ds gs before ad hW an a6 _;have ab:=ad;have ai:=hW;obtain⟨p,q,af,hV,rfl,ao,aK⟩:=hW;obtain⟨hA,aN⟩:=az af a6;rw[Tryz.params3]at hA ab aN;obtain⟨v0,ay,d0,aw,p0,aj,ag,rfl,rfl,h0,au⟩:=trodAll_cons hA;obtain⟨v1,aA,d1,ax,p1,ak,rfl,rfl,rfl,h1,av⟩:=trodAll_cons au;obtain⟨rfl,rfl,rfl⟩:=trodAll_nil av;obtain rfl:args=#[v0,v1]:=by cases args;simp_all
 obtain⟨rfl,rfl⟩:=trodVars_none hV;have k0:=h0;have aq:∀x∈p0,x.block<W.heap.size:=by obtain⟨m,hm⟩:=k0;exact DataW.trod_lt m _ _ _ hm
 obtain⟨n0,rfl,b0⟩:=VZ underlying3 (ab 0 3 v0 rfl rfl) h0;have k1:=h1;have ar:∀x∈p1,x.block<W.heap.size:=by obtain⟨m,hm⟩:=k1;exact DataW.trod_lt m _ _ _ hm
 obtain⟨l1,b1,c1⟩:=V0 (ab 1 22 v1 rfl rfl) h1 (abV aN (j:=1) rfl rfl);clear af ad ab aN a6;refine(yA W n0 b0 v1 l1 b1 c1).mono λe W' ⟨he,ae⟩=>?_;subst he;exact⟨_,rfl,_,_,_,[],_,[],ai,trodAll_mk1 (shut_bool underlying4 _),(trodAll_cons_mk (Below.trod laidOut al (jk al) k0 ae aq) (trodAll_cons_mk (Below.trod laidOut al (jk al) k1 ae ar) trodAll_mk0)),rfl,ae.below.frame _,λh=>aa⟩
theorem aco:Rows.wholeModelRow.holds Tryz.pinned (OpenSpec.ofChange Rows.wholeModelSpec):=OpenClaim.holds_of_wide 3 Tryz.f3 rfl rfl rfl rfl rfl rfl rfl ⟨rfl,rfl,rfl,rfl,rfl⟩ rfl rfl rfl rfl rfl al func3 Sq (jk al) (by unfold Func.isWrapper;rw[aY (FA al)];exact⟨rfl,rfl⟩) (λos started H enc _=>lifted os started H enc)
def proved:Rows.WholeModelSaid:=aco
#print axioms proved
end
end Go.Proofs.YtkpjfnbbkohciaaGreat
