import Derived.Test.YtkpjfnbbkohciaaGreatAb
set_option maxRecDepth 100000
set_option maxHeartbeats 16000000
set_option linter.all false
open Go renaming Oper->Abn,Ending->Ab2,yielded->Aa1,TypeId->Aab,Addr->Adr,execOp->Abt,Calls->Aae,wpList->Aal,madeCells->Acv,splice->Abx,undef->Aas,zeroValue->Acj,wpAnyH->Acp,YieldsIf->Acb
open Go.Region renaming wanted->Aaa,Mode->Ab0,ready->Abi
open Go.Proofs.Tryz renaming prog->Aag,underlying30->Aa0,underlying88->Aaq,underlying270->Acx
open Go.Oper renaming wp->Aca
open Go.Result renaming andThen->Aap,andThen_ok->Aax
open Nat renaming zero_add->Aby
open Go.Value renaming ownBlock->Aan,slice->Acr,int->Ack
open Int renaming toNat_natCast->Abp
open Go.Act renaming put->Aao
open List renaming length_map->Aac,map_append->Aar,map_cons->Acd,mem_append->Aa8,all_eq_true->Ac9,length_cons->Aaj,flatMap_cons->Abc,append_nil->Ab1,append_assoc->Aa9,length_set->Aat,range->Aak,range_succ->Ab5,length_append->Aaf,drop_zero->Aaw,take_zero->Abk,size_toArray->Abh,length_nil->Aa4,push_toArray->Abj,append_toArray->Aba,nil_append->Aaz,cons_append->Aa2,sum_cons->Ace,sum_nil->Ac5,replicate->Aad,getElem_cons_succ->Adi,getElem_cons_zero->Abw,length_range->Acm,drop_drop->Ac4,mem_map->Abd,mem_cons->Aam,drop_succ_cons->Abu,length->κ
open Go.RowKit renaming intOf->Aau
open Option.some renaming injEq->Aai
open Go.Instr renaming buildSlice->Acz,index->Adf,slice->Aav,sliceAt->Abo,makeSlice->Acf,sureAddr->Adg
open Go.World renaming size_alloc->Aa3
open Go.Sem renaming run_bind->Aay,run_pure->Ac7
open Go.Value.slice renaming injEq->Abg
open Go.Fence renaming wide->Abv
open Array renaming replicate_succ->Aa6,replicate_zero->Aa7
open Go.Addr.mk renaming injEq->Abq
open Go.KeepsOthers renaming of_grownBy->Ado
open Bool renaming and_eq_true->Abe
open Go.Builtin renaming zeroCells->Abf
namespace Go.Proofs.YtkpjfnbbkohciaaGreat
open Go.Proofs.Tryz Go.RowKit Go.Sort
variable{base base' c cap g i j k n off st t:Nat}{rest:List Abn}{R:Ab2->af->Prop}{H α β:Type}{L:List As}{ats:List Nat}{w:af}{Q:Exit->Act->af->Prop}{C:List cS}{fn:Func}{a:Act}{ops:Array Abn}{P:bp}
def jC:List Int:=[8,1,8,8,8,1]
def ir(b:Bool):Nat:=if b=true then 1 else 0
def D7(x:ao):List Nat:=[x.id,ir x.aT,x.owner,x.prev,x.ay,x.blocks.toNat]
def lU(x:ao):List aj:=aW jC (D7 x)++bR x.root
def fe(x:ao):List aj:=eD [lU x,x.name,cX x.dead]
def LG(x:ao):Option (List aj):=if cK x=true then some (fe x)else none
def Ev(o:Option (List aj))(w:af)(e:Ab2)(w':af):Prop:=(o=none/\e=.returned (.tuple #[.slice none 0 0,.int .i64 151])/\Up w w')\/∃m u,o=some m/\e=.returned (.tuple #[u,.int .i64 0])/\Own aK 5 w' w.heap.size u m/\Up w w'
theorem x0{x:ao}(h:cK x=true):x.ay<=281474976710655:=by grind [br]
theorem DS{x:ao}(h:cK x=true):nB jC (D7 x):=by
 obtain⟨⟨_,h1⟩,⟨_,h2⟩,h3,⟨_,h4⟩,_⟩:=(br x).1 h;have hn:ir x.aT<=1:=by grind [ir]
 refine⟨rfl,av,?_⟩;grind [jC,D7,fits]
theorem im(x:ao):κ (lU x)=50:=aA
theorem pe{l:List aj}(h:ei l=true):κ l<=24:=by grind [ei]
theorem BK{x:ao}(h:cK x=true):tz [lU x,x.name,cX x.dead]:=by obtain⟨_,_,_,_,h5,_,h7,_⟩:=(br x).1 h;refine⟨aq,λt ht=>?_⟩;grind [im,pe,eb]
theorem aD.grown{f:α->ah}{w w':af}{v:ah}{l:List α}{row:Option Nat}(h:aD f w v l)(hg:w.grownBy w' row)(hne:∀b,v.ownBlock=some b->row≠some b):aD f w' v l:=by
 rcases h with h|⟨b,off,cap,h1,h2,h3,h4,h5⟩
 ·exact .inl h
 ·refine .inr ⟨b,off,cap,h1,h2,h3,h4,λi hi=>?_⟩;rw[nN (hg.block b (ie w _ (h5 i hi)) (λe=>hne b zn e.symm))];simp_all
section
variable {P:bp}
theorem tR{ops:Array Abn}{Q:Exit->Act->af->Prop}{i:Nat}{o:Abn}{K:Act->af->Prop}{a:Act}{w:af}(hi:ops[i]?=some o)(hw:Aaa o (Aa1 ops a.tmps)=true)(h:o.wp P a w K Q):wpOp P ops Q i K a w:=FN
theorem pL{ops:Array Abn}{Q:Exit->Act->af->Prop}{md:Ab0}{fuel:Nat}{aZ:Array Bool}{a:Act}{w:af}(i:Nat)(o:Abn)(hr:Abi md ops aZ=[i])(hi:ops[i]?=some o)(hw:Aaa o (Aa1 ops a.tmps)=true)(h:o.wp P a w (wpAny P md ops Q fuel (aZ.setIfInBounds i true)) Q):wpAny P md ops Q (fuel+1) aZ a w:=uK hr aq (λj hj=>by simp at hj;subst hj;exact tR hi hw h)
theorem CB{ops:Array Abn}{Q:Exit->Act->af->Prop}{md:Ab0}{fuel:Nat}{aZ:Array Bool}{a:Act}{w:af}(i j:Nat)(o o':Abn)(hr:Abi md ops aZ=[i,j])(hi:ops[i]?=some o)(hj:ops[j]?=some o')(hw:Aaa o (Aa1 ops a.tmps)=true)(av:Aaa o' (Aa1 ops a.tmps)=true)(h:o.wp P a w (wpAny P md ops Q fuel (aZ.setIfInBounds i true)) Q)(h':o'.wp P a w (wpAny P md ops Q fuel (aZ.setIfInBounds j true)) Q):wpAny P md ops Q (fuel+1) aZ a w:=uK hr aq (λk hk=>by
  simp at hk;rcases hk with rfl|rfl
  ·exact tR hi hw h
  ·exact tR hj av h')
def pK{ops:Array Abn}{Q:Exit->Act->af->Prop}{md:Ab0}{fuel:Nat}{aZ:Array Bool}{a:Act}{w:af}(i:Nat)(o:Abn)(hr:Abi md ops aZ=[i])(hi:ops[i]?=some o)(hw:Aaa o (Aa1 ops a.tmps)=true)(h:∀K:Act->af->Prop,(∀a w,wpAny P md ops Q fuel (aZ.setIfInBounds i true) a w->K a w)->o.wp P a w K Q):wpAny P md ops Q (fuel+1) aZ a w:=pL i o hr hi hw (h _ (λ_ _ h=>h))
theorem sL{o:Abn}{a:Act}{w:af}{K:Act->af->Prop}{Q:Exit->Act->af->Prop}(ty:Aab)(x:bU)(ho:o.op=.load ty x)(ad:Adr)(hx:a.eval x=.pointer (some ad))(v:ah)(hc:w.cell? ad=some v)(hagg:(isAgg ty).run P w=.ok false w)(h:K (a.put o.dst v) w):o.wp P a w K Q:=by exact Np
end
theorem wa{o:Abn}{K:Act->af->Prop}(x:bU)(ho:o.op=.convert 9 30 x)(l:List aj)(hx:a.eval x=.string (strOf l))(h0:0<κ l)(hl:κ l<=1000000)(h:∀v' w',a8 w' v' l->Up w w'->(∀b,v'.ownBlock=some b->w.heap.size<=b)->K (a.put o.dst v') w'):o.wp Aag a w K Q:=by
 obtain⟨hr,aI⟩:=az (run_bytes_of_string (P:=Aag) w 9 30 5 (strOf l) underlying9 Aa0 underlying5) (grownCap_ge w (strOf l).size 0 5);have hle:=grownCap_le_maxLen w (strOf l).size 0 5 (by rw[tK];unfold maxLen;omega);unfold Aca;simp[Abt,ho,hx,hr,Aap];generalize grownCap w (strOf l).size 0 5=cap at *;rw[tK]at *;refine h _ _ (.inr ⟨w.heap.size,0,cap,rfl,h0,aI,hle,λi hi=>?_⟩) (((Up.refl w).drew).trans (ai _ _)) (λb hb=>?_)
 ·have:=World.cell?_alloc_mark w.drew (bytesRow (strOf l) cap) 5 ((bytesRow (strOf l) cap).size,(bytesRow (strOf l) cap).size+1) i;rw[Aby];refine this.trans ?_;unfold bytesRow;rw[Array.getElem?_append_left (by simp[strOf];exact hi),Array.getElem?_map];show Option.map _ (l.toArray[i]?)=_;rw[Fg,h6 hi];rfl
 ·obtain rfl:w.heap.size=b:=by simpa[Aan]using hb
  omega
theorem yh(w:af)(a1 a2 a3:Option Adr)(n1 n2 n3 c1 c2 c3:Nat)(x y z:List aj)(h1:a8 w (.slice a1 n1 c1) x)(h2:a8 w (.slice a2 n2 c2) y)(h3:a8 w (.slice a3 n3 c3) z):ra (w.alloc (.cells #[.slice a1 n1 c1,.slice a2 n2 c2,.slice a3 n3 c3] 30)) (cD w.heap.size 3 3) [x,y,z]:=by
 refine⟨[⟨a1,n1,c1⟩,⟨a2,n2,c2⟩,⟨a3,n3,c3⟩],rfl,aD.lit w _ 30 (0,0) _ 3 rfl av rfl,λi hi _=>?_⟩;have U:=ai w (.cells #[.slice a1 n1 c1,.slice a2 n2 c2,.slice a3 n3 c3] 30);match i,hi with
 | 0,_=>exact h1.up U
 | 1,_=>exact h2.up U
 | 2,_=>exact h3.up U
 | (k+3),hi=>grind
theorem LH(w:af)(x:ao)(aL:x.wf)(vd:ah)(hd:c9 w vd x.dead):Aae Aag 241 #[.agg (b8 x vd)] w λe w'=>Ev (LG x) w e w':=by
 obtain⟨da,dc,rfl⟩:=hd.slice;obtain⟨B1,U1,HR,PB,LB⟩:=eW (aF.new w 90 (b8 x (.slice da (κ x.dead) dc))) (ai w (.cells (b8 x (.slice da (κ x.dead) dc)) 90)) (λW U=>Ck W x (.slice da (κ x.dead) dc) (aH.up hd U)) (λW=>n5 W x.root aL.2.2.2.2.2.1) (λW U=>KJ W (.slice da (κ x.dead) dc) x.dead (aH.up hd U) aL.2.2.2.2.2.2);cases ab:cK x
 ·have HF:=an (show LG x=none by unfold LG;rw[ab];rfl);rw[ab]at HR;clear ab;go_in;go_wp2_with(refine arm ?_);refine(HR _ U1).mono ?_;rintro e w2⟨rfl,U2⟩;go_wp2;go_ret2;exact .inl ⟨HF,rfl,U1.trans U2⟩
 have HT:=an (show LG x=some (fe x)by unfold LG;rw[ab];rfl);rw[ab]at HR;obtain⟨aX,OKJ,HL⟩:=aV (DS ab) (BK ab) (im x);obtain⟨⟨_,g1⟩,⟨_,g2⟩,g3,⟨g4,g5⟩,hnm,hgr,aM,aN,_⟩:=(br x).1 ab;have g6:=x0 ab;obtain⟨aY,ax,NM1,NM2,bb⟩:=eW (show cA x.root≠false by rw[hgr];simp) (show wk x.dead=some (cX x.dead)by unfold wk;rw[bI ⟨aM,aN⟩]) (show 0<κ x.name by have:=(jx _).1 hnm;omega) (show κ x.name<=1000000 by have:=(jx _).1 hnm;omega) (show(cX x.dead).length<=64000 by rw[eb];omega);clear ab hnm hgr aN;obtain⟨HE,RB,PO,PL,RL⟩:=eW (show lU x=aW jC [x.id,ir x.aT,x.owner,x.prev,x.ay,x.blocks.toNat]++bR x.root from rfl) (show fe x=eD [lU x,x.name,cX x.dead] from rfl) (show nB jC [x.id,ir x.aT,x.owner,x.prev,x.ay,x.blocks.toNat] from aX) (show(aW jC [x.id,ir x.aT,x.owner,x.prev,x.ay,x.blocks.toNat]).length=34 by simp[jC,aW,bx]) (show(bR x.root).length=16 by unfold bR;simp[kh,BX,aW,bx]);generalize aj:fe x=out at *;generalize ba:lU x=hdr at *;clear aj ba;obtain⟨id,name,aT,owner,prev,ay,blocks,root,dead⟩:=x;dsimp only at *;obtain⟨nb,rfl⟩:∃n:Nat,blocks=n:=⟨blocks.toNat,ae⟩;simp only[Abp]at *;obtain⟨c0,c1,c2,c3,c4,c5,c6,R7,Ah⟩:=B1.setAt.GV;go_in;go_wp2_with(refine arm ?_);refine(HR _ U1).mono ?_;rintro e w2⟨rfl,U2⟩;obtain⟨B2,U3⟩:=aw (B1.up U2) (U1.trans U2);have a1:=an U3.size;clear c0 c1 c2 c3 c4 c5 c6 Ah;obtain⟨c0,c1,c2,c3,c4,c5,c6,R7,Ah⟩:=B2.setAt.GV;clear HR;obtain⟨UA,sza⟩:=az (ai w2 (.cells #[i6 8,i6 1,i6 8,i6 8,i6 8,i6 1] 3)) (mI w2 (.cells #[i6 8,i6 1,i6 8,i6 8,i6 8,i6 1] 3));obtain⟨e0,e3,e4,e5,e6⟩:=yj (UA.cell c0) (UA.cell c3) (UA.cell c4) (UA.cell c5) (UA.cell c6);have wn:=dT nb ae;have ak:∀m:Nat,m=ir aT->Hid (Aae Aag 240 #[cD w2.heap.size 6 6,cD (w2.heap.size+1) 6 6] ((w2.alloc (.cells #[i6 8,i6 1,i6 8,i6 8,i6 8,i6 1] 3)).alloc (.cells #[u6 (id:Int),u6 (m:Int),u6 (owner:Int),u6 (prev:Int),u6 (ay:Int),u6 (nb:Int)] 70)) λe w'=>∃v,e=rt #[v,i6 0]/\Own aK 5 w' (w2.heap.size+2) v (aW jC [id,ir aT,owner,prev,ay,nb])/\Up w2 w'/\w2.heap.size+2<=w'.heap.size):=λm hm=>by
  subst hm;have UB:=ai (w2.alloc (.cells #[i6 8,i6 1,i6 8,i6 8,i6 8,i6 1] 3)) (.cells #[u6 (id:Int),u6 (ir aT:Int),u6 (owner:Int),u6 (prev:Int),u6 (ay:Int),u6 (nb:Int)] 70);have i1:aD bC _ (cD w2.heap.size 6 6) jC:=(aD.ew (f:=bC) w2 w2.heap.size rfl #[i6 8,i6 1,i6 8,i6 8,i6 8,i6 1] 3 (0,0) jC 6 rfl dK rfl).up UB;have i2:aD cr _ (cD (w2.heap.size+1) 6 6) [id,ir aT,owner,prev,ay,nb]:=aD.ew (f:=cr) (w2.alloc (.cells #[i6 8,i6 1,i6 8,i6 8,i6 8,i6 1] 3)) (w2.heap.size+1) vb #[u6 (id:Int),u6 (ir aT:Int),u6 (owner:Int),u6 (prev:Int),u6 (ay:Int),u6 (nb:Int)] 70 (0,0) [id,ir aT,owner,prev,ay,nb] 6 rfl dK rfl;have aS:ir aT<=1:=by unfold ir;split<;>omega
  refine an ((ps _ _ jC i1 (by simp[jC]) _ _ i2 Bk PO).mono λe w' h=>?_);obtain⟨v,rfl,ho,hu⟩:=h;refine⟨v,rfl,?_,(UA.trans UB).trans hu,?_⟩
  ·rw[mI,sza]at ho;exact ho
  ·have:=hu.size;rw[mI,sza]at this;exact this
 have ad:∀m:Int,m=(ir aT:Int)->Hid (Aae Aag 240 #[cD w2.heap.size 6 6,cD (w2.heap.size+1) 6 6] ((w2.alloc (.cells #[i6 8,i6 1,i6 8,i6 8,i6 8,i6 1] 3)).alloc (.cells #[u6 (id:Int),u6 m,u6 (owner:Int),u6 (prev:Int),u6 (ay:Int),u6 (nb:Int)] 70)) λe w'=>∃v,e=rt #[v,i6 0]/\Own aK 5 w' (w2.heap.size+2) v (aW jC [id,ir aT,owner,prev,ay,nb])/\Up w2 w'/\w2.heap.size+2<=w'.heap.size):=λm hm=>by subst hm;exact ak _ rfl
 have aE:=an (show ∀m:Int,m=(ir aT:Int)->_ from λm hm=>(ad m hm).out);clear ak ad;have a6:∃m:Int,m=(ir aT:Int)/\((aT=true/\m=1)\/(aT=false/\m=0)):=by
  cases aT
  ·exact⟨0,rfl,.inr ⟨rfl,rfl⟩⟩
  ·exact⟨1,rfl,.inl ⟨rfl,rfl⟩⟩
 obtain⟨mv,a7,ar⟩:=a6;have aU:=an (aE mv a7);clear aE;rcases ar with⟨rfl,rfl⟩|⟨rfl,rfl⟩
 all_goals
  clear a7;go_wp2_with fail;refine aU.mono ?_;rintro e w4⟨v5,rfl,O5,U5,s4⟩;obtain⟨B4,U6,S4⟩:=aV (B2.up U5) (U3.trans U5) s4;clear s4 c0 c1 c2 c3 c4 c5 c6 Ah e0 e3 e4 e5 e6 sza wn;obtain⟨c0,c1,c2,c3,c4,c5,c6,R7,Ah⟩:=B4.setAt.GV;go_wp2_with(refine arm ?_);refine(PB w4).mono ?_;rintro e w5 aP;rcases aP with⟨_,v7,rfl,O7,U7⟩|⟨aB,_⟩
  rotate_left
  ·exact absurd aB aY
  obtain⟨S45,OO⟩:=aw U7.size O5;have aR:=an (O5.up U7);obtain⟨B5,U8⟩:=aw (B4.up U7) (U6.trans U7);clear c0 c1 c2 c3 c4 c5 c6 Ah;obtain⟨c0,c1,c2,c3,c4,c5,c6,R7,Ah⟩:=B5.setAt.GV;go_wp2_with fail;refine(LB w5 U8).mono ?_;rintro e w6 bL;rcases bL with⟨aB,_⟩|⟨aI,v8,ag,rfl,O8,U9⟩
  ·rw[ax.out]at aB;cases aB
  rw[ax.out]at ag;obtain rfl:=dE ag;obtain⟨O6,P6,B6,U10,S5⟩:=eW (aR.up U9) (O7.up U9) (B5.up U9) (U8.trans U9) (show w5.heap.size<=w6.heap.size from U9.size);clear c0 c1 c2 c3 c4 c5 c6 Ah;obtain⟨c0,c1,c2,c3,c4,c5,c6,R7,Ah⟩:=B6.setAt.GV;clear ag;go_wp2;have ff:=(Up.refl w6).drew;obtain⟨Od,Pd,O8d,Ud⟩:=bW (O6.up ff) ((P6.up ff).cu) (O8.up ff) (U10.trans ff);obtain⟨aC,sd⟩:=az (ff.cell c1) ff.size;obtain⟨SB,SW⟩:=aw (show w2.heap.size+2<=w6.drew.heap.size by have:=S4.out;have:=S45.out;have:=S5.out;omega) (show w.heap.size<w2.heap.size+2 by have:=a1.out;omega);clear c0 c1 c2 c3 c4 c5 c6 Ah;refine wp_region_any al ?_;change wpAny _ _ _ _ 14 _ _ w6.drew;generalize w6.drew=w7 at *;refine yz 0 (v5) rfl ?_;refine yz 1 (v7) rfl ?_;refine yz 3 (pq w.heap.size 1) rfl ?_;refine yz 6 (v8) rfl ?_;simp only[Aao,fB];obtain⟨hb1,hb2⟩:=aw (show(κ (aW jC [id,ir _,owner,prev,ay,nb])+κ (bR root))*1<=140737488355328 by rw[PL.out,RL.out];omega) (show(aW jC [id,ir _,owner,prev,ay,nb]).length+κ (bR root)<=9223372036854775807 by rw[PL.out,RL.out];omega);refine CB 2 4 _ _ al rfl rfl rfl rfl ?_ ?_
  ·refine OL ?_;intro va w8 hoa hga hba;have a8:=(nN (oV hba w.heap.size SW)).trans aC;refine pL 4 _ al rfl rfl ?_;refine sL 9 (.tmp 55) rfl ⟨w.heap.size,1,none⟩ rfl _ a8 al ?_;exact Zo
  ·refine sL 9 (.tmp 55) rfl ⟨w.heap.size,1,none⟩ rfl _ aC al ?_;refine CB 2 5 _ _ al rfl rfl rfl rfl ?_ ?_
   ·refine OL ?_;intro va w8 hoa hga hba;exact Zo
   ·refine wa (.tmp 56) rfl name rfl NM1 NM2 ?_;intro vn w8 hn hu aO;refine pL 2 _ al rfl rfl ?_;refine j' aK cy (.tmp 52) (.tmp 53) 30 rfl (w2.heap.size+2) 5 (.int .u8 0) 1 Aa0 eX rfl v5 _ rfl (Od.up hu) v7 _ rfl (aD.up Pd hu) hb1 hb2 (bK SB hu.size) ?_;intro va w9 hoa hga hba;rw[<-HE.out]at hoa;obtain⟨HO,HN,H8,HU⟩:=bW (hoa) (hn.grown hga (λb hb e=>by have h1:=aO b hb;have h2:=(OO.aJ b e).2;have h3:=S45.out;have h4:=S5.out;omega)) ((O8d.up hu).wA OO S45 hga) ((Ud.trans hu).aG hba (oY SW));have HZ:=an (show w.heap.size<=w9.heap.size from HU.size);clear aO;obtain⟨aa,ac,rfl⟩:=HO.cu.slice;obtain⟨na,nc,rfl⟩:=HN.slice;obtain⟨la,lc,rfl⟩:=H8.cu.slice;have JN:=an (A5 _ _ _ (yh w9 aa na la _ _ _ ac nc lc _ _ _ HO.cu HN H8.cu) OKJ);have av:=mI w9 (.cells #[.slice aa (κ hdr) ac,.slice na (κ name) nc,.slice la (κ (cX dead)) lc] 30);have au:=an (ai w9 (.cells #[.slice aa (κ hdr) ac,.slice na (κ name) nc,.slice la (κ (cX dead)) lc] 30));generalize cX dead=aI at *;refine pK 7 _ al rfl rfl ?_;intro K hK;go_simp;refine hK _ _ ?_;refine pK 8 _ al rfl rfl ?_;intro K2 aq;go_simp;refine JN.mono ?_;rintro e aQ⟨vj,rfl,OJ,UJ⟩;refine aq _ _ ?_;refine yz 9 (.tuple #[vj,i6 0]) rfl ?_;simp only[Aao,fB];refine yz 10 (vj) rfl ?_;simp only[Aao,fB];refine yz 11 (i6 0) rfl ?_;simp only[Aao,fB];refine yz 12 (vj) rfl ?_;simp only[Aao,fB];refine yz 13 (i6 0) rfl ?_;simp only[Aao,fB];refine⟨al,?_⟩;(try simp only[Aao]);go_wp2;go_ret2;refine .inr ⟨_,_,HT,rfl,?_,HU.trans (au.trans UJ)⟩;rw[RB.out];exact OJ.mono (by rw[av];have:=HZ.out;omega)
structure gH where
 d:ao
 a:Option Adr
 n:Nat
 c:Nat
def gH.v(y:gH):ah:=.slice y.a y.n y.c
def dh(y:gH):List ah:=(b8 y.d y.v).toList
theorem lV:hh dh 11:=⟨ae,λ_=>rfl,λy u hu=>by have:=mC y.d y.a y.n y.c;unfold dh gH.v at hu;rw[Fh]at this;exact this u aa⟩
def cq(w:af)(v:ah)(l:List ao):Prop:=∃ys:List gH,ys.map (·.d)=l/\aH dh w v ys/\∀y∈ys,c9 w y.v y.d.dead
theorem cq.up{w w':af}{v:ah}{l:List ao}(h:cq w v l)(hu:Up w w'):cq w' v l:=by obtain⟨ys,h1,h2,h3⟩:=h;exact⟨ys,h1,aH.up h2 hu,λy hy=>aH.up (h3 y hy) hu⟩
theorem cq.slice{v:ah}{l:List ao}(h:cq w v l):∃a cap,v=.slice a (κ l) cap:=by obtain⟨ys,rfl,h2,_⟩:=h;rw[Aac];exact h2.slice
theorem cq.length_le{v:ah}{l:List ao}(h:cq w v l):κ l<=9223372036854775807:=by obtain⟨ys,rfl,h2,_⟩:=h;rw[Aac];exact h2.length_le
theorem cq.nil(w:af):cq w (nl) []:=⟨[],rfl,aH.nil _ _,λ_ h=>aa⟩
theorem r4{a:Option Adr}{l:List ao}(h:cq w (.slice a n cap) l)(h0:0<κ l):∃b off,a=some ⟨b,off,none⟩/\b<w.heap.size/\∀i(hi:i<κ l),∃da dn dc,w.rangeAt b (off+i*11) (b8 l[i] (.slice da dn dc)).toList/\c9 w (.slice da dn dc) l[i].dead:=by
 obtain⟨ys,rfl,h2,h3⟩:=h;rw[Aac]at h0;obtain⟨b,off,h4,h5,_,h6⟩:=aH.get h2 lV h0;refine⟨b,off,h4,h5,λi hi=>?_⟩;rw[Aac]at hi;refine⟨ys[i].a,ys[i].n,ys[i].c,λj v hj=>?_,?_⟩
 ·rw[List.getElem_map]at hj;have:=h6 i hi j v hj;grind
 ·rw[List.getElem_map];exact h3 _ (cw hi)
def fT(next:Nat):List aj:=aW [8] [next]
def ek(next:Nat)(l:List ao):List (List aj):=fT next::l.map fe
def lL(next:Nat)(l:List ao):Option (List aj):=if next<=281474976710655/\(κ l)<=32/\(∀x∈l,cK x=true)then some (eD (ek next l))else none
theorem gK(next:Nat):κ (fT next)=8:=aA
theorem oe(a b c:List aj):κ (eD [a,b,c])=8+κ a+κ b+κ c:=by grind [eD,de,uD,bx]
theorem B1{x:ao}(h:cK x=true):κ (fe x)<=65535:=by obtain⟨_,_,_,_,h5,_,h7,_⟩:=(br x).1 h;grind [pe,fe,oe,im,eb]
theorem xR{next:Nat}{l:List ao}(hl:κ l<=32)(hr:∀x∈l,cK x=true):tz (ek next l):=by refine⟨by grind [ek],λt ht=>?_⟩;grind [ek,gK,B1]
theorem Ll{next:Nat}(h:next<=281474976710655):nB [8] [next]:=vc
theorem LS{next:Nat}{l:List ao}{x:ao}(hx:x∈l)(h:cK x=false):lL next l=none:=by grind [lL]
theorem eN.one(w:af)(base:Nat)(hb:base<=w.heap.size)(a:Option Adr)(n c:Nat)(t:List aj)(h:Own aK 5 w base (.slice a n c) t):eN (w.alloc (.cells #[.slice a n c] 30)) base (cD w.heap.size 1 1) [t]:=by
 refine⟨[⟨a,n,c⟩],rfl,?_,λi hi _=>?_⟩
 ·exact yZ (base:=base) (e:=30) (size:=1) w #[.slice a n c] 1 hb av rfl
 ·match i,hi with
  | 0,_=>exact h.up (ai w _)
  | (k+1),hi=>simp at hi
theorem sH(w:af)(next:Nat)(hn:next<18446744073709551616)(v:ah)(l:List ao)(hv:cq w v l)(aL:∀x∈l,x.wf):Aae Aag 180 #[u6 (next:Int),v] w λe w'=>Ev (lL next l) w e w':=by
 have aS:=hv.length_le;obtain⟨la,lc,rfl⟩:=hv.slice;obtain⟨HV,aQ⟩:=aw hv aL;clear aL;by_cases aC:281474976710655<next
 ·have b1:((281474976710655:Int)<(next:Int))=True:=by simp;omega
  exact M6
 have b1:((281474976710655:Int)<(next:Int))=False:=ab
 by_cases hlen:32<κ l
 ·have b2:((32:Int)<(κ l:Int))=True:=by simp;omega
  exact M6
 have b2:((32:Int)<(κ l:Int))=False:=ab
 obtain⟨UA,UB,sza⟩:=cZ (ai w (.cells #[i6 8] 3)) (ai (w.alloc (.cells #[i6 8] 3)) (.cells #[u6 (next:Int)] 70)) (mI w (.cells #[i6 8] 3));have aU:=an (show Aae Aag 240 #[cD w.heap.size 1 1,cD (w.heap.size+1) 1 1] ((w.alloc (.cells #[i6 8] 3)).alloc (.cells #[u6 (next:Int)] 70)) (λe w'=>∃v,e=rt #[v,i6 0]/\Own aK 5 w' w.heap.size v (fT next)/\Up w w')from by have i1:aD bC _ (cD w.heap.size 1 1) [8]:=(aD.ew (f:=bC) w w.heap.size rfl #[i6 8] 3 (0,0) [8] 1 rfl dK rfl).up UB;have i2:aD cr _ (cD (w.heap.size+1) 1 1) [next]:=aD.ew (f:=cr) (w.alloc (.cells #[i6 8] 3)) (w.heap.size+1) vb #[u6 (next:Int)] 70 (0,0) [next] 1 rfl dK rfl;refine(ps _ _ [8] i1 aq _ _ i2 Bk (Ll ae)).mono λe w' h=>?_;obtain⟨v,rfl,ho,hu⟩:=h;exact⟨v,rfl,ho.mono (UA.trans UB).size,(UA.trans UB).trans hu⟩)
 clear sza;go_in;go_wp2_with fail;refine aU.mono ?_;rintro e w2⟨v6,rfl,O6,U2⟩;obtain⟨ha,hc,rfl⟩:=O6.cu.slice;obtain⟨OT,U3⟩:=aw (eN.one w2 w.heap.size U2.size ha _ hc _ O6) (U2.trans (ai w2 (.cells #[.slice ha (κ (fT next)) hc] 30)));generalize(fT next).length=aN at *;go_wp2;go_loopw [8,34] (λtv i wr=>∃k:Nat,k<=κ l/\i=i6 k/\eN wr w.heap.size tv (fT next::(l.take k).map fe)/\Up w wr/\∀x∈l.take k,cK x=true) (λ_ i _=>κ l-(Aau i).toNat)
 case atStart=>exact⟨0,bT _,rfl,OT,U3,λx hx=>by simp at hx⟩
 case round=>
  obtain⟨k,hk,rfl,ot,ur,rt⟩:=hrel;obtain⟨OR,UR,RT⟩:=aV ot ur rt;clear rt;by_cases hlt:k<κ l
  ·refine vk ?_;intro b3;obtain⟨sb,so,rfl,_,sg⟩:=r4 (HV.up UR) ae;obtain⟨da,dn,dc,rg,dp⟩:=sg k hlt;obtain⟨SG,DP,WX,aJ,TK⟩:=eW rg dp (aQ l[k] (cw hlt)) (cw hlt) (show l.take (k+1)=l.take k++[l[k]] from et hlt);clear sg;generalize l[k]=x at *;obtain⟨aj,H1⟩:=aw (ku x (.slice da dn dc)) (mC x da dn dc);have UX:=ai wr (.cells (b8 x (.slice da dn dc)) 90);obtain⟨BX,RC,O4,U4⟩:=bW (aF.new wr 90 (b8 x (.slice da dn dc))) (LH _ x WX _ (aH.up DP UX)) (OR.up UX) (UR.trans UX);generalize b8 x (.slice da dn dc)=C at *;go_wp2_with(first
    | refine arm ?_
    | ((with_reducible refine cx 90 (.tmp 10) (.tmp 37) ?_);refine fK wr rfl 90 (.tmp 10) (.tmp 37) rfl C 90 b6 rfl rfl rfl aj (by have:=aj.out;rw[show(prog.info? 90).map (·.size)=some 11 from al]at this;exact dE this) H1 ?_))
   refine RC.mono ?_;rintro e w5 aa;rcases aa with⟨ay,rfl,U5⟩|⟨bs,v11,ag,rfl,O5,U5⟩
   ·have HF:=an (show lL next l=none from LS aJ (by
     unfold LG at ay;by_cases hh:cK x=true
     ·rw[bI hh]at ay;cases ay
     ·simpa using hh))
    have U6:=an (U4.trans U5);clear ay;go_wp2;go_ret2;exact .inl ⟨HF,rfl,U6⟩
   have ax:cK x=true/\fe x=bs:=by
    unfold LG at ag;by_cases hh:cK x=true
    ·rw[bI hh]at ag;exact⟨hh,dE ag⟩
    ·rw[aY hh]at ag;cases ag
   have RX:=an ax;obtain⟨ra,rc,rfl⟩:=O5.cu.slice;obtain⟨o5,ot⟩:=az (O5.mono U4.size) (O4.up U5);have U6:=an (U4.trans U5);clear ag ax;obtain⟨vs,aR,hvo,ar⟩:=ot;have aI:=an aR;have UY:=ai w5 (.cells #[.slice ra (κ bs) rc] 30);obtain⟨O5,av,ad,au⟩:=bW (show Own aK 5 (w5.alloc (.cells #[.slice ra (κ bs) rc] 30)) w.heap.size (gu ⟨ra,κ bs,rc⟩) bs from o5.up UY) (hvo.up UY) (λi a b=>(ar i a b).up UY) (aD.lit (f:=gu) w5 #[.slice ra (κ bs) rc] 30 (0,0) [⟨ra,κ bs,rc⟩] 1 rfl dK rfl);have ak:κ vs<=33:=by have:=aR;simp at this;omega
   obtain⟨hb1,hb2,U7⟩:=aV (show(κ vs + [(⟨ra,κ bs,rc⟩:Xe)].length)*24<=140737488355328 from ab) (show κ vs + [(⟨ra,κ bs,rc⟩:Xe)].length<=9223372036854775807 from ab) (U6.trans UY);have aP:=an U7.size;clear aR ar ak;generalize (κ bs)=bl at *;go_wp2_with(first
    | (at_builtin;refine bu gu Cd rfl (.tmp 46) (.tmp 48) 40 rfl w.heap.size 30 (nl) 24 underlying40 s5 rfl _ vs rfl av (cD w5.heap.size 1 1) [⟨ra,bl,rc⟩] rfl au hb1 hb2 aP ?_))
   intro v' w7 hown hg aB;obtain⟨aM,U8⟩:=aw (eN.snoc aI av ad O5 hown hg) (U7.aG aB (aE _));clear ad hb1 hb2 aP;go_wp2;refine⟨⟨k+1,hlt,aq,?_,U8,?_⟩,?_⟩
   ·rw[TK.out,Aar,Acd,List.map_nil,RX.out.2];exact aM
   ·rw[TK.out];intro y hy;rcases Aa8.1 hy with hy|hy
    ·exact RT y hy
    ·simp at hy;subst hy;exact RX.1
   ·exact np
  ·obtain rfl:k=κ l:=by omega
   have b3:((κ l:Int)<(κ l:Int))=False:=aq
   obtain⟨rt,ot⟩:=az RT.out OR.out;rw[fF]at rt ot;obtain⟨OKJ,HT⟩:=aw (show tz (ek next l)from xR ae rt) (show lL next l=some (eD (ek next l))by unfold lL;rw[bI ⟨ae,ae,rt⟩]);have JN:=an (A5 _ _ (ek next l) ot.texts OKJ);clear rt RT;go_wp2_with fail;refine JN.mono ?_;rintro e w8⟨vj,rfl,OJ,UJ⟩;go_wp2_with fail;go_ret2;exact .inr ⟨_,_,HT,rfl,OJ.mono UR.size,UR.trans UJ⟩
theorem z7(w:af)(v u:ah)(a b:List aj)(hv:a8 w v a)(hu:a8 w u b):Aae Aag 181 #[v,u] w λe w'=>e=.returned (.bool (decide (a=b)))/\w=w':=by obtain⟨c1,c2⟩:=az (toStr w v a hv) (toStr w u b hu);have ST:=an (vT a b);generalize strOf a=x at *;generalize strOf b=y at *;go_in;go_wp2;go_ret;exact⟨by rw[<-ST.out]<;>rfl,rfl⟩
theorem kr:(prog.info? 90).map (λi=>(i.zero,i.size,i.bytes))=some (some (.agg b6),11,112):=al
theorem L8:prog.underlying 40=some (.slice (prog.elem 40)):=al
theorem L9:∀W:af,(sizeOf (prog.elem 40)).run Aag W=.ok 1 W:=λW=>by rw[show prog.elem 40=30 from aA];obtain⟨i,hi,_,hz1,_⟩:=jN s5;simp[sizeOf,typeInfo,hi,hz1]
theorem gM:(prog.info? 90).map (·.size)=some b6.size:=al
def gU:b6.all (·.oneCell')=true:=mC xk none 0 0
def eC:ao:=⟨1,[118],false,1,0,0,8,hole,[]⟩
theorem JS(a:Adr)(i j:Nat):(a.add i).add j=a.add (i+j):=by obtain⟨b,off,spot⟩:=a;unfold Addr.add;grind
theorem abV{ts:List Aab}{ds:List (DataW H)}(h:(DataW.weightsEach P ts ds).all (·<=reachBytes)=true){t:Aab}{d:DataW H}(ht:ts[j]?=some t)(hd:ds[j]?=some d):∀m∈d.weights P t,m<=reachBytes:=λm hm=>by have:=Ac9.1 h _ (DataW.weights_mem_each ht hd m hm);simpa using this
theorem iE{f:α->List ah}{f2:β->List ah}{k k2:Nat}{e e2:Aab}{b b2:Nat}{v v2:ah}{xs:List α}{ys:List β}(hne:e≠e2)(h:ak f k e w b v xs)(h2:ak f2 k2 e2 w b2 v2 ys):v.ownBlock=none\/v.ownBlock≠v2.ownBlock:=by
 obtain⟨_,h⟩:=h;obtain⟨_,h2⟩:=h2;rcases h with⟨rfl,_⟩|⟨g,cap,cur,rfl,_,hh,_⟩
 ·exact .inl rfl
 ·refine .inr ?_;rcases h2 with⟨rfl,_⟩|⟨g2,ax,aa,rfl,_,ab,_⟩
  ·simp[Aan]
  ·simp only[Aan,ne_eq,Aai];grind
def bc(w:af)(base:Nat)(v:ah)(l:List ao):Prop:=∃ys:List gH,ys.map (·.d)=l/\ak dh 11 90 w base v ys/\∀y∈ys,bf w base y.v y.d.dead
theorem bc.mono{v:ah}{l:List ao}(h:bc w base v l)(hb:base'<=base):bc w base' v l:=by obtain⟨ys,h1,h2,h3⟩:=h;exact⟨ys,h1,ak.mono h2 hb,λy hy=>ak.mono (h3 y hy) hb⟩
theorem bc.cm{v:ah}{l:List ao}(h:bc w base v l):cq w v l:=by obtain⟨ys,h1,h2,h3⟩:=h;exact⟨ys,h1,ak.row h2 lV,λy hy=>ak.row (h3 y hy) pw⟩
theorem bc.up{w w':af}{v:ah}{l:List ao}(h:bc w base v l)(hu:Up w w'):bc w' base v l:=by obtain⟨ys,h1,h2,h3⟩:=h;exact⟨ys,h1,ak.up h2 hu,λy hy=>ak.up (h3 y hy) hu⟩
def G9(l:List ah)(o:Nat)(m:List ah):List ah:=l.take o++(m++l.drop (o+κ m))
theorem xD:∀(l:List ah)(k off:Nat)(cs:Array ah),off+k+κ l<=cs.size->((l.zipIdx k).foldl (λ(cs:Array ah) p=>cs.setIfInBounds (off+p.2) p.1) cs).toList=cs.toList.take (off+k)++(l++cs.toList.drop (off+k+κ l))
 | [],k,off,cs,_=>aq
 | v::l,k,off,cs,hc=>by simp only[Aaj]at hc;rw[List.zipIdx_cons,yP];have ih:=xD l (k+1) off (cs.setIfInBounds (off+k) v) ab;exact M5
theorem Ks(V cs:Array ah)(off:Nat)(h:off+V.size<=cs.size):V.zipIdx.foldl (λ(cs:Array ah) (p:ah × Nat)=>cs.setIfInBounds (off+p.2) p.1) cs=(G9 cs.toList off V.toList).toArray:=by apply h3.1;rw[<-Array.foldl_toList,Array.toList_zipIdx,xD V.toList 0 off cs ae];rfl
theorem w2(w:af)(t e:Aab)(z:ah)(k bytes:Nat)(C:Array ah)(ht:P.underlying t=some (.slice e))(hinfo:(P.info? e).map (λi=>(i.zero,i.size,i.bytes))=some (some z,k,bytes))(h0:0<k)(hk:k<=16777216)(hC:C.size=k):(Acz t 1 #[(0,.agg C)]).run P w=.ok (cD w.heap.size 1 1) (w.alloc (.cells C e)):=by
 obtain⟨i,hi,hz0,hz1,_⟩:=jN hinfo;have hf:=Ks C ((Array.range k).map (z.cells[· % z.cells.size]!)) 0 ab;have hs:(G9 ((Array.range k).map (z.cells[· % z.cells.size]!)).toList 0 C.toList).toArray=C:=by unfold G9;exact Oj
 exact U5
theorem bS{op:Abn}(hgd:op.guard=none)(t e:Aab)(x:bU)(ho:op.op=.buildSlice t 1 #[(0,x)])(z:ah)(k bytes:Nat)(C:Array ah)(hx:a.eval x=.agg C)(ht:P.underlying t=some (.slice e))(hinfo:(P.info? e).map (λi=>(i.zero,i.size,i.bytes))=some (some z,k,bytes))(h0:0<k)(hk:k<=16777216)(hC:C.size=k)(h:Aal P ops Q rest (a.put op.dst (cD w.heap.size 1 1)) (w.alloc (.cells C e))):Aal P ops Q (op::rest) a w:=by refine vh ?_;intro K hK;simp[ho,hx,(w2 (P:=P) w t e z k bytes C ht hinfo h0 hk hC),Aap];exact hK _ _ h
def pl(x:af)(H:aR)(vp:ah)(P:bq):As:=⟨PF (H.at vp),λw=>PA w (H.at vp) P/\∀b,vp.ownBlock=some b->H.h.vp.ownBlock=some b\/x.heap.size<=b,λh T hf=>⟨h.1.ax T hf,h.2⟩⟩
section
variable {w w' x:af} {H:aR} {P P':bq} {vp:ah} {F0:Nat->Prop} {L L':List As}
def Fr.nV(A:PA w H P):Fr (PF H) w [pl w H H.h.vp P] w:=Fr.from (A:=pl w H H.h.vp P) ⟨A,λ_ h=>.inl h⟩ A.lt
theorem Fr.pa(s:Fr F0 x L w)(h:pl x H vp P∈L:=by exact gG):PA w (H.at vp) P:=(s.p _ h).1
theorem Fr.pt{L':ah->List As}(s:Fr F0 x L w)(d:PT w (H.at vp) P' w')(hU:∀aa,mW L (pl x H vp P) (pl x H aa P') (L' aa):=by intro _;exact wc):∃aa,Fr F0 x (L' aa) w':=by
 obtain⟨aa,A,T,O⟩:=d;refine⟨aa,s.Aj (hU aa) T ⟨A,λb h=>?_⟩ (λn h=>⟨A.lt n h,?_⟩)⟩
 ·rcases O b h with h|h
  ·exact(s.p _ (hU vp).mem).2 b h
  ·exact .inr (bK s.t.size h)
 ·rcases h with h|h|h|h|h|h
  ·exact .inl (.inl h)
  ·exact .inl (.inr (.inl h))
  ·exact .inl (.inr (.inr (.inl h)))
  ·exact .inl (.inr (.inr (.inr (.inl h))))
  ·exact .inl (.inr (.inr (.inr (.inr (.inl h)))))
  ·rcases O n h with h|h
   ·exact Gs
   ·exact .inr h
theorem Fr.pg(s:Fr F0 x L w)(d:PG w (H.at vp) P w')(hU:mW L (pl x H vp P) (pl x H vp P) L':=by exact wc):Fr F0 x L' w':=s.Aj hU d.2 ⟨d.1,(s.p _ hU.mem).2⟩ (λn h=>⟨d.1.lt n h,.inl h⟩)
theorem Fr.ePG(s:Fr (PF H) x L w)(h:pl x H H.h.vp P∈L:=by exact gG):PG x H P w:=⟨(s.p _ h).1,s.t⟩
theorem Fr.ePT(s:Fr (PF H) x L w)(h:pl x H vp P∈L:=by exact gG):PT x H P w:=⟨vp,(s.p _ h).1,s.t,(s.p _ h).2⟩
end
def jH(l:List au):List au:=l.filter (λx=>decide (x≠hole))
theorem Qr(l:List au)(k:Nat)(h:k<κ l)(hx:l[k]≠hole):jH (l.take (k+1))=jH (l.take k)++[l[k]]:=by exact N4
theorem TE(l:List au)(k:Nat)(h:k<κ l)(hx:l[k]=hole):jH (l.take (k+1))=jH (l.take k):=by exact N4
def uu(l:List au):κ (jH l)<=κ l:=qx _ _
theorem Tb(a b c:au):prog.built 239 [(0,.agg (be a)),(1,.agg (be b)),(2,.agg (be c))]=some (aP [a,b,c]):=al
theorem TP(l:List au)(hl:κ l=3)(k:Nat)(h:k<κ l)(W:af):(Adf 239 (.agg (aP l)) (i6 (k:Int))).run Aag W=.ok (.agg (be l[k])) W:=by
 have h8:(0:Int)<=(k:Int)/\(k:Int)<((3:Nat):Int):=ae
 have hp:=wU l k h;refine Gq ?_;intro hs hg;simp[Adf,asIntOf,run_underlying (P:=Aag) underlying239,h8,hs,part,hg,hp];omega
theorem vF(w:af)(b:Nat)(hb:b=w.heap.size)(p:au):c9 (w.alloc (.cells (be p) 87)) (cD b 1 1) [p]:=aH.ew w b hb (be p) 87 (0,0) [p] 1 rfl av aA
theorem sJ(w:af)(F S:List au)(lF:κ F=8)(lS:κ S=8)(p root:au)(i:Nat)(hi:i<64):Aae Aag 103 #[.agg (aP (fA F S p)),.agg (be root),i6 (i:Int)] w λe w'=>∃v,e=.returned v/\bf w' w.heap.size v (jH [p,a6 F (i/8),root])/\Up w w':=by
 obtain⟨U1,U2⟩:=az (ai w (.cells (aP (fA F S p)) 178)) (ai (w.alloc (.cells (aP (fA F S p)) 178)) (.cells (be root) 87));obtain⟨b1,b2⟩:=az ((aF.new w 178 (aP (fA F S p))).up U2) (aF.new (w.alloc (.cells (aP (fA F S p)) 178)) 87 (be root));rw[aN]at b2;obtain⟨q,hq⟩:=bE (i/8);have ao:q<8:=ae
 have av:((i:Int)/8)=(q:Int):=ae
 rw[<-hq];clear hq;have UD:=an (Up.drew (Up.refl ((w.alloc (.cells (aP (fA F S p)) 178)).alloc (.cells (be root) 87))));obtain⟨aj,ax,B2,IB,IF,IR,UU,BT⟩:=Ju (Up.range UD ((mM b1 lF lS))) (Up.range UD ((Cx b1 lF q ao))) (b2.up UD) (ia p) (ia (a6 F q)) (ia root) ((U1.trans U2).trans UD) (Tb p (a6 F q) root);have b8:((q:Int)<8)=True:=ab
 have wq:IntKind.i64.wrap (q:Int)=(q:Int):=aX q ae;clear lF lS;generalize a6 F q=pf at *;go_in;go_wp2;refine wp_region_still_lit al al ?_;repeat(first
  | (refine gb rfl 87 (.tmp 10) rfl w.heap.size 48 rfl _ aj _ underlying87 rfl IB ?_)
  | (refine gb rfl 87 (.tmp 15) rfl w.heap.size (q*3) rfl _ ax _ underlying87 rfl IF ?_)
  | (refine iJ rfl 87 (.tmp 4) rfl (w.heap.size+1) rfl 87 _ B2 _ underlying87 rfl IR ?_)
  | (refine Eo rfl 239 0 1 2 (.tmp 11) (.tmp 16) (.tmp 17) rfl _ _ _ _ BT rfl rfl rfl ?_)
  | still_step)
 refine hB ?_;show Exit.then _ _ _ _ (World.drew _);generalize((w.alloc (.cells (aP (fA F S p)) 178)).alloc (.cells (be root) 87)).drew=w3 at *;clear IB IF IR BT;have ag:[p,pf,root].length=3:=rfl;generalize aC:[p,pf,root]=ls at *;obtain⟨ar,ad⟩:=aw aC ag;clear ag aC wq b8 av;go_wp2;go_loopw [7,19] (λv i wr=>∃k:Nat,k<=3/\i=i6 k/\bf wr w.heap.size v (jH (ls.take k))/\Up w wr) (λ_ i _=>3-(Aau i).toNat)
 case atStart=>exact⟨0,ae,rfl,ak.nil _ _ _ _ _,UU⟩
 case round=>
  obtain⟨k,hk,rfl,hown,upr⟩:=hrel;obtain⟨HOWN,UR⟩:=aw hown upr;by_cases hlt:k<3
  ·have hkl:k<κ ls:=by rw[ad.out];exact hlt
   have IX:=TP ls ad k hkl;obtain⟨FY,FN⟩:=aw (Qr ls k hkl) (TE ls k hkl);have aD:κ (jH (ls.take k))<=3:=bK (uu _) (by rw[ez];omega);have b2:((k:Int)<3)=True:=ab
   generalize ls[k]=x at *;generalize jH (ls.take k)=fl at *;have EQ:=D2 x;obtain⟨UA,BX⟩:=aw (ai wr (.cells (be x) 87)) (aF.new wr 87 (be x));have aB:=IX;by_cases hx:x=hole
   ·rw[h8 hx]at EQ;have FN:=an (FN hx);clear hx FY;go_wp2_with(refine arm ?_);go_roundw
    case rel=>exact⟨k+1,ae,aq,by rw[FN.out];exact HOWN.up UA,UR.trans UA⟩
    case measure=>simp[Aau];omega
   ·rw[jj hx]at EQ;obtain⟨FY,n1,n2,n3,OW,PR⟩:=ix (FY hx) (show(κ fl + [x].length)*24<=140737488355328 from ab) (show κ fl + [x].length<=9223372036854775807 from ab) (show w.heap.size<=((wr.alloc (.cells (be x) 87)).alloc (.cells (be x) 87)).heap.size by rw[Aa3,Aa3];have:=UR.size;omega) (HOWN.up (UA.trans (ai _ (.cells (be x) 87)))) (vF (wr.alloc (.cells (be x) 87)) _ rfl x);obtain⟨va,vc,rfl⟩:=(ak.row HOWN pw).slice;clear hx FN;go_wp2_with(first
     | refine arm ?_
     | ((with_reducible refine eo 88 1 _ ?_);refine bS rfl 88 87 (.tmp 26) rfl _ 3 24 (be x) rfl Aaq cF ae ae rfl ?_)
     | (at_builtin;refine bH pw rfl (.tmp 25) (.tmp 27) 88 rfl w.heap.size 87 _ 24 Aaq cF rfl _ fl rfl OW _ [x] rfl PR n1 n2 n3 ?_))
    intro v6 w6 aa ay aL;have U6:=an ((UR.trans (UA.trans (ai _ _))).aG aL (aE _));go_wp2;go_roundw
    case rel=>exact⟨k+1,ae,aq,by rw[FY.out];exact aa,U6⟩
    case measure=>simp[Aau];omega
  ·obtain rfl:k=3:=by omega
   have b2:((3:Nat):Int)=3:=rfl;have ho:=HOWN.out;rw[dq (by rw[ad.out];exact aE _)]at ho;go_wp2;go_ret;exact⟨_,rfl,by rw[ar.out];exact ho,UR⟩
def TF(C:List cS)(root:au)(i:Nat):Option cS:=(node8 C root).bind λF=>(node8 C (a6 F (i/8))).bind λS=>fM C (a6 S (i%8))
theorem Qs{root:au}{s:cS}(h:TF C root i=some s):∃F S,node8 C root=some F/\node8 C (a6 F (i/8))=some S/\fM C (a6 S (i%8))=some s:=by
 unfold TF at h;cases hF:node8 C root with
 | none=>simp_all
 | some F=>
  rw[hF,qA]at h;cases hS:node8 C (a6 F (i/8))with
  | none=>simp_all
  | some S=>simp_all
theorem WB(w:af)(H:aR)(P:bq)(A:PA w H P)(root:au)(i:Nat)(hi:i<64)(s:cS)(hs:TF P.C root i=some s):Aae Aag 52 #[pz H.pb,.agg (be root),i6 (i:Int)] w λe w'=>e=rt #[.agg (aC s.val),i6 0]/\PG w H P w':=by
 obtain⟨F,S,hF,hS,hb⟩:=Qs hs;obtain⟨lF,lS⟩:=az (cN hF) (cN hS);obtain⟨IW,OW⟩:=aw (ru (fA F S (a6 S (i%8))) (fy lF lS _)) (jU (fA F S (a6 S (i%8))));have aa:Hid ((aP ke).size=(aP (fA F S (a6 S (i%8)))).size):=an (by rw[b7,b7,fy lF lS];rfl);have IS:=an (dJ s);obtain⟨U2,b2⟩:=az (ai (w.alloc (.cells (be root) 87)) (.cells (aC aM) 60)) (aF.new (w.alloc (.cells (be root) 87)) 60 (aC aM));rw[aN]at b2;obtain⟨B2,UU,HA⟩:=aV b2 ((ai w (.cells (be root) 87)).trans U2) A;have TW:=an (xc _ H P (A.up UU) root i hi F S hF hS);have ad:=an (λW (AW:PA W H P)=>vx W H P AW (a6 S (i%8)) s hb);have WI:=tP ((w.alloc (.cells (be root) 87)).alloc (.cells (aC aM) 60)) (i:Int);rw[show decide (0<=(i:Int)/\(i:Int)<64)=true from ab]at WI;obtain⟨LF,LS,NS⟩:=aV lF lS (show ¬PF H (w.heap.size+1)from λhf=>by have:=HA.lt _ hf;omega);clear hF hS hb hs lF lS;generalize a6 S (i%8)=p at *;go_in;go_wp2_with(refine arm ?_);refine WI.mono ?_;rintro e w3⟨rfl,rfl⟩;go_wp2_with(refine arm ?_);refine TW.mono ?_;rintro e w3⟨rfl,g3⟩;have U4:=an (ai w3 (.cells (aP (fA F S p)) 178));obtain⟨G4,R4⟩:=aw (((PG.of HA UU).trans g3).up U4) (mM (aF.new w3 178 (aP (fA F S p))) LF LS);go_wp2_with(first
  | refine arm ?_
  | ((with_reducible refine cx 178 (.tmp 8) (.tmp 19) ?_);refine fK w3 rfl 178 (.tmp 8) (.tmp 19) rfl (aP (fA F S p)) 178 (aP ke) rfl rfl rfl IW aa OW ?_))
 refine(ad _ G4.1).mono ?_;rintro e w5⟨rfl,g5⟩;go_wp2_with(first
  | refine db 60 6 29 (aC s.val) (((B2.ax g3.2 NS).up U4).ax g5.2 NS) (hi:=IS) (hold:=(an qC)) ?_)
 intro w7 ag aK;go_wp2;exact bG (hi:=IS) (.tuple #[.agg (aC s.val),i6 0]) ag ⟨rfl,((G4.trans g5).grown aK NS ae)⟩

theorem LM{f:α->List ah}(hw:hh f k)(Q:α->Prop){enc:Aab × ah->H}{W:af}{t e:Aab}{v:ah}{d:DataW H}{ps:List MemPlace}{fuel:Nat}(ht:P.underlying t=some (.slice e))(aN:P.cellsOf e=k)(ai:∀n cs y,DataW.trod enc P W 0 (λ_=>true) true n e cs=some y->(∀m∈y.1.weights P e,m∈d.weights P t)->∃x,cs=f x/\Q x)(hf:DataW.trod enc P W 0 (λ_=>true) true fuel t [v]=some (d,ps)):∃l:List α,aH f W v l/\(κ l)<=Tq d/\(d=.nil\/∃x y,d=.slice x y)/\∀x∈l,Q x:=by
 rcases DataW.trod_slice ht hf with⟨h1,h2⟩|⟨a,len,cap,elems,rest,n,_,aC,hx,_,hl,hm,ak,ad,aY,_⟩
 ·simp at h1;subst h1;simp only[Prod.mk.injEq]at h2;exact⟨[],aH.nil f W,aq,.inl h2.1,aq⟩
 ·simp at aC;subst aC;simp only[Prod.mk.injEq]at hx;obtain⟨rfl,_⟩:=hx;have aj:∀y∈elems,∀m∈y.1.weights P e,m∈(DataW.slice (elems.map (·.1)) (rest.map (·.1))).weights P t:=by
   intro y hy m hm;simp only[DataW.weights,ht];refine bt _ (nO _ ?_);have:∀(ds:List (DataW H)),y.1∈ds->m∈DataW.weightsAll P e ds:=by
    intro ds;induction ds with
    | nil=>simp
    | cons z r ih=>intro h;simp only[DataW.weightsAll,Aa8];grind
   grind
  have each:∀i,i<len->∃x,(∀j u,(f x)[j]?=some u->W.cell? ((a.add (i*k)).add j)=some u)/\Q x:=by
   intro i hi;have h:=ad i hi;rw[aN,h6 ae,E3]at h;obtain⟨cs,aC,hy⟩:=h;obtain⟨x,rfl,hq⟩:=ai n cs _ hy (aj _ (cw _));refine⟨x,λj u hj=>?_,hq⟩;have aM:j<k:=by rw[<-hw.len x];exact(kE.1 hj).1
   have:=(World.cells?_some aC).2.2 j aM;simp_all
  have all:∀m,m<=len->∃l:List α,κ l=m/\(∀j u,(l.flatMap f)[j]?=some u->W.cell? (a.add j)=some u)/\∀x∈l,Q x:=by
   intro m;induction m with
   | zero=>simp
   | succ m ih=>
    intro hk;obtain⟨l,h1,h2,h3⟩:=ih ae;obtain⟨x,hx,hq⟩:=each m ae;refine⟨l++[x],ab,λj u hj=>?_,λy hy=>?_⟩
    ·rw[gk]at hj;by_cases aM:j<κ (l.flatMap f)
     ·grind
     ·rw[yN ae]at hj;simp only[Abc,List.flatMap_nil,Ab1]at hj;have:=hx _ u hj;rw[hw.flat,h1]at this aM;grind [JS]
    ·grind
  obtain⟨l,h1,h2,h3⟩:=all len (aE _);refine⟨l,?_,by grind [Tq],.inr ⟨_,_,rfl⟩,h3⟩;by_cases h0:len=0
  ·exact Nl
  ·have ag:0<κ (l.flatMap f):=by rw[hw.flat,h1];exact Nat.mul_pos ae hw.pos
   obtain⟨b,off,spot⟩:=a;have aa:spot=none:=by simpa[Addr.add]using World.cell?_spot (h2 0 _ (h6 ag))
   subst aa;refine .inr ⟨b,off,cap,ab,ae,ae,hm,λj u hj=>?_⟩;grind [add_plain]
theorem oi(n:Nat)(h:n<=65535)(r:List aj):bn ((aZ n 2++r).take 2)=n:=by grind [bx,hc]
theorem p6(n:Nat)(r:List aj):(aZ n 2++r).drop 2=r:=aA
theorem CP(t:List aj)(ts:List (List aj)):de (t::ts)=aZ (κ t) 2++(t++de ts):=aA
theorem yf:∀(ts:List (List aj))(r:List aj),lp ts->qY (κ ts) (de ts++r)=if r=[] then some ts else none
 | [],r,_=>by by_cases h:r=[]<;>simp[qY,de,h]
 | t::ts,r,h=>by have ht:κ t<=65535:=h t (df ..);have ih:=yf ts r (λx hx=>h x (bt _ hx));rw[CP,Aa9,Aa9,Aaj,qY,oi _ ht,p6,aY (by simp[bx]),aY (by simp[bx]),List.take_left,List.drop_left,ih];by_cases hr:r=[]<;>simp[hr]
theorem Ci(ts:List (List aj))(h:tz ts)(r:List aj):mF (eD ts++r)=if r=[] then some ts else none:=by unfold mF eD;rw[aY (by simp[bx]),Aa9,oi _ h.1,p6,yf ts r h.2]
theorem Lw(b:List aj)(k:Nat):(b.drop (16*k)).drop 16=b.drop (16*(k+1)):=ab
theorem KK(w:af)(v:ah)(b:List aj)(hv:a8 w v b)(l:List au)(hl:Pc b=some l):Aae Aag 239 #[v] w λe w'=>∃u,e=.returned (.tuple #[u,.int .i64 0])/\bf w' w.heap.size u l/\Up w w':=by
 have NO:Pc b≠none:=by rw[hl];exact nofun
 obtain⟨bg,h4⟩:κ b%16=0/\(κ b)<=64000:=yS λh=>NO (aY h);have hlen:=hv.length_le;obtain⟨a,cap,rfl⟩:=hv.slice;have t1:((κ b:Int)%16 != 0)=false:=ab
 have t2:decide ((64000:Int)<(κ b:Int))=false:=ab
 have t3:decide (64000<κ b)=false:=ab
 obtain⟨T,hT⟩:=bE (κ b/16);have HN:=an (show some l=B2 (e1 b T)by rw[<-hl,hT];exact bI ⟨bg,h4⟩);refine OK ?_;intro MK;have RM:=an (λW (B:Nat) (hB:B<=W.heap.size)=>ak.room dL 3 87 W (.agg #[i6 0,.int .u64 0,.int .u32 0]) B T hB ae);generalize Acv (Value.agg #[i6 0,.int .u64 0,.int .u32 0]).cells (T*3)=zr at *;have wt:(κ b:Int)/16=(T:Int):=ae
 have av:κ b=16*T:=ae
 have aB:=an av;obtain⟨n0,ay⟩:=bE (κ b);rw[<-ay]at t1 t2 t3 wt ⊢;have aO:=hv;rw[<-ay]at aO;have aT:=an ay;have aH:n0<=64000:=ae
 have aU:T<=4000:=ae
 clear hT bg av ay h4 hlen;go_in;go_wp2;have aA:=RM w w.heap.size (aE _);obtain⟨g,hg⟩:=bE (w.heap.size);have HG:=an hg;go_loopw [0,4] (λs u wr=>∃(k n ka:Nat)(pa:Option Adr)(out:List au),s=.slice pa n ka/\a8 w (.slice pa n ka) (b.drop (16*k))/\n+16*k=n0/\e1 b k=some out/\u=cD g k T/\bf wr w.heap.size (cD g k T) out/\Up w wr) (λs _ _=>T3 s)
 case atStart=>exact⟨0,n0,cap,a,[],rfl,aO,rfl,rfl,aq,aQ,ai _ _⟩
 case round=>
  obtain⟨k,n,ka,pa,out,rfl,hs,aL,aN,rfl,hown,upr⟩:=hrel;clear MK wt hg t1 t2 t3;have aW:k<=T:=di
  have al:=an aN;have aM:n=κ (b.drop (16*k)):=by rw[hA];have:=aT.out;omega
  obtain⟨aV,aX⟩:=aw aM (k1 aN);clear aN aM;by_cases h0:0<n
  ·have bg:16<=n:=by simp only[Hid]at *;omega
   have aP:k<T:=di
   have aS:n<=ka:=by
    rcases hs with⟨_,_,_,hx,_,_⟩|⟨_,_,_,hx,_,h1,_⟩
    ·grind
    ·grind
   obtain⟨n',ag⟩:∃x,x=n-16:=⟨_,rfl⟩;obtain⟨v1,aI⟩:=bE (bY pa 0 16 ka);obtain⟨aF,aC⟩:∃p:Option Adr,p=(if ka=16 then pa else pa.map (·.add (16*1))):=⟨_,rfl⟩;obtain⟨aJ,aR⟩:∃x,x=ka-16:=⟨_,rfl⟩;have PT:∀W,(Aav 30 (.slice pa n ka) none (some (i6 16)) none).run Aag W=.ok v1 W:=λW=>by rw[aI];exact hj (P:=Aag) 30 dC dD pa n ka 16 ae W
   have PF:∀W,(Aav 30 (.slice pa n ka) (some (i6 16)) none none).run Aag W=.ok (.slice aF n' aJ) W:=λW=>by have:=dg (P:=Aag) 30 dC dD pa n ka 16 ae W;rw[aC,ag,aR];exact this
   have V1:=an (show a8 w v1 (jY b k)by have:=aD.piece hs (lo:=0) (hi:=16) ae di;rw[aI];simpa[jY]using this)
   have V2:=an (show a8 w (.slice aF n' aJ) (b.drop (16*(k+1)))by have:=aD.piece hs (lo:=16) (hi:=n) ae di;rw[aC,ag,aR,<-Lw];rw[dq di]at this;exact this)
   have aK:=an (show n'+16=n from ae);have t3:decide ((0:Int)<(n:Int))=true:=ab
   have t4:decide (0<n)=true:=ab
   obtain⟨RD,NX⟩:=aw (λW (up:Up w W)=>qP W v1 (jY b k) (V1.up up) (by rw[jY,ez,hA];have:=aB.out;omega)) (nF al);clear aC ag aI aR;unfold SP at RD;go_wp2_with fail;refine(RD _ upr).mono ?_;rintro e w2(⟨p,hp,rfl,ao⟩|⟨hp,rfl,ao⟩)
   case inr=>have h:=HN.out;rw[qO b (k+1) (by rw[NX.out,hp];rfl) T ae]at h;cases h
   case inl=>
    have HF:=an (show e1 b (k+1)=some (out++[p])by rw[NX.out,hp];rfl);clear hp;obtain⟨pl,pb,ps⟩:=p;unfold fI;simp only;obtain⟨ax,o3⟩:=az ((upr.trans ao).trans (ai w2 (.cells #[i6 pl,.int .u64 (pb:Int),.int .u32 (ps:Int)] 87))) ((hown.up ao).up (ai w2 (.cells #[i6 pl,.int .u64 (pb:Int),.int .u32 (ps:Int)] 87)));have y0:(w2.alloc (.cells #[i6 pl,.int .u64 pb,.int .u32 ps] 87)).cell? (ad w2.heap.size 0)=some (i6 pl):=du w2 _ _ _ 0 _ rfl;have y1:(w2.alloc (.cells #[i6 pl,.int .u64 pb,.int .u32 ps] 87)).cell? (ad w2.heap.size 1)=some (.int .u64 pb):=du w2 _ _ _ 1 _ rfl;have y2:(w2.alloc (.cells #[i6 pl,.int .u64 pb,.int .u32 ps] 87)).cell? (ad w2.heap.size 2)=some (.int .u32 ps):=du w2 _ _ _ 2 _ rfl;go_wp2_with(at_builtin;refine eU pw rfl (.tmp 33) (.tmp 35) 88 rfl w.heap.size 87 (.agg #[i6 0,.int .u64 0,.int .u32 0]) 24 Aaq hy g T k out aX.symm rfl (o3.up (ai _ _)) (cD (w2.heap.size+1) 1 1) [⟨pl,pb,ps⟩] rfl (rU _ _ (Aa3 _ _).symm pl pb ps) (k+1) (by rw[aX.out];rfl) ae (bK ax.size (ai _ _).size) ?_);intro w5 aa _ ar;go_wp2;go_roundw
    case rel=>exact⟨k+1,n',aJ,aF,out++[⟨pl,pb,ps⟩],rfl,V2,di,HF.out,rfl,aa,(ax.alloc _).aG ar (aE _)⟩
    case measure=>have:=aK.out;show n'<n;omega
  ·have aP:k=T:=by simp only[Hid]at *;omega
   subst aP;have t3:decide ((0:Int)<(n:Int))=false:=ab
   have t4:decide (0<n)=false:=ab
   have HF:=HN.out;rw[al.out]at HF;cases hR:hn out
   ·simp only[B2,hR]at HF;cases HF
   ·simp only[B2,hR]at HF;obtain rfl:=dE HF;have LR:=an (λW u (h:c9 W u l)=>s7 W u l h);rw[hR]at LR;clear hR HF;go_wp2_with fail;refine(LR _ _ (ak.row hown pw)).mono ?_;rintro e w3⟨rfl,ax⟩;go_wp2;go_ret2;exact⟨_,rfl,ak.up hown ax,upr.trans ax⟩
theorem xQ{s:List aj}{l:List au}(h:e1 s 8=some l):lJ s=(l,0):=by grind [lJ]
theorem xZ{l:List au}(hl:κ l=8)(hw:∀x∈l,x.wf)(hg:jI l=true):lJ (cX l)=(l,0):=by grind [xQ,px,nn]
theorem vy(s:List aj):∀k l,e1 s k=some l->∀x∈l,x.wf/\cA x=true
 | 0,l,h=>by simp[e1]at h;subst h;simp
 | k+1,l,h=>by
  rw[e1]at h;cases h1:e1 s k with
  | none=>rw[h1]at h;cases h
  | some m=>
   rw[h1]at h;simp only[Option.map_eq_some_iff]at h;obtain⟨p,hp,rfl⟩:=h;obtain⟨h4,h5,_⟩:=HH _ _ hp;intro x hx;rcases Aa8.1 hx with h|h
   ·exact vy s k m h1 x h
   ·simp at h;subst h;exact⟨h4,h5⟩
theorem gn{q:au}{l:List au}(h:node8 C q=some l):∀x∈l,x.wf/\cA x=true:=by grind [ph,e1,lJ,xQ,vy]
theorem mD(l:List au)(k:Nat)(hk:k<κ l)(p:au):(Abx (aP l).toList (k*3) (be p).toList).toArray=aP (l.set k p):=by have:=ny l [p] k hk;rw[IJ]at this;rw[this];congr 1;rw[MV,bI hk];simp
theorem fv{l:List au}(h:∀x∈l,x.wf/\cA x=true){p:au}(hp:p.wf/\cA p=true)(k:Nat):(∀x∈l.set k p,x.wf)/\jI (l.set k p)=true:=by grind [cA,nn]
theorem ik(h4:4<=i)(hi:i<1024)(s1:1<=st)(s2:st<=281474976710655)(s:cS):(⟨(i:Int),st,dQ s⟩:au).wf/\cA ⟨(i:Int),st,dQ s⟩=true:=by refine⟨⟨ab,ab,Kb _ _⟩,?_⟩;grind [wv]
def sT{P:bq}{s:cS}(hi:i<1024)(h:P.s i=1):bN (P.put i s).s+1=bN P.s:=Am hi h
theorem qM{P:bq}{s:cS}(h:∀j,P.s j=1->4<=j/\j<κ P.C):∀j,(P.put i s).s j=1->4<=j/\j<κ (P.put i s).C:=λj hj=>by
 have aa:ff P.s i 2 j=1:=hj;unfold ff at aa;split at aa
 ·cases aa
 ·have:=h j aa;refine⟨this.1,?_⟩;show j<κ (P.C.set i s);rw[Aat];exact this.2
def ZP(P:bq)(H:aR)(root:au)(i:Nat)(b:cS)(F S:List au)(w:af)(e:Ab2)(w':af):Prop:=(bN P.s<3/\e=.returned (.tuple #[.agg (be root),.slice none 0 0,.int .i64 71])/\PG w H P w')\/(3<=bN P.s/\∃(i1 i2 i3:Nat)(v:ah),i1<1024/\i2<1024/\i3<1024/\P.s i1=1/\ff P.s i1 2 i2=1/\ff (ff P.s i1 2) i2 2 i3=1/\e=.returned (.tuple #[.agg (be ⟨i3,P.st,dQ (bJ (F.set (i/8) ⟨i2,P.st,dQ (bJ (S.set (i%8) ⟨i1,P.st,dQ b⟩))⟩))⟩),v,.int .i64 0])/\bf w' w.heap.size v (jH [a6 S (i%8),a6 F (i/8),root])/\PT w H (((P.put i1 b).put i2 (bJ (S.set (i%8) ⟨i1,P.st,dQ b⟩))).put i3 (bJ (F.set (i/8) ⟨i2,P.st,dQ (bJ (S.set (i%8) ⟨i1,P.st,dQ b⟩))⟩))) w')
theorem sF{p u v:Tmp}{ty:Aab}(h:fn.results=#[.cell p ty,.tmp u,.tmp v])(tmps:Array ah)(P:bp)(w:af)(g:Nat)(t:Aab)(C:Array ah)(x y:ah)(hp:tmps.getD p Aas=pz g)(hu:tmps.getD u Aas=x)(hv:tmps.getD v Aas=y)(hb:aF w g t C)(d:eQ)(hd:P.underlying ty=some d)(hr:d.isRow=true)(hi:(P.info? ty).map (·.size)=some C.size):(results fn tmps).run P w=.ok (.tuple #[.agg C,x,y]) w:=by
 simp only[results,h];have aI:tmps[p]?.getD Aas=pz g:=aa
 have ab:tmps[u]?.getD Aas=x:=aa
 have ax:tmps[v]?.getD Aas=y:=aa
 simp[Aay,Aap,hp,aI,hu,ab,hv,ax,asAddr,iF (P:=P) ty g t C hb d hd hr hi]
theorem ab0:zc Aag 178=aP ke:=al
theorem abZ:zc Aag 176=aP dM:=al
theorem Le{l m:List au}(h':κ m=n)(h:κ l=n):(aP l).size=(aP m).size:=by rw[b7,b7,h,h']
theorem WD(w:af)(H:aR)(P:bq)(A:PA w H P)(root:au)(i:Nat)(hi:i<64)(F S:List au)(hF:node8 P.C root=some F)(hS:node8 P.C (a6 F (i/8))=some S)(vb:ah)(b:List aj)(hb:∀w',Touch (PF H) w w'->a8 w' vb b)(aa:κ b<=128)(hm:P.m<=800000)(hf:∀j,P.s j=1->4<=j/\j<κ P.C)(s1:1<=P.st)(s2:P.st<=281474976710655):Aae Aag 47 #[pz H.pb,.agg (be root),i6 (i:Int),vb] w (ZP P H root i (eS b aa) F S w):=by
 obtain⟨lF,lS,gF,gS⟩:=iv (cN hF) (cN hS) (gn hF) (gn hS);obtain⟨va,vc,rfl⟩:=(hb w (Touch.refl _ _)).slice;obtain⟨q,hq⟩:=bE (i/8);obtain⟨r,hr⟩:=bE (i%8);have lW:=fy lF lS (a6 S r);obtain⟨IW,s,TW,TR⟩:=iv (ru (fA F S (a6 S r)) lW) (Fr.nV A) (λW (B:PA W H P)=>xc W H P B root i hi F S hF hS) (λW=>sJ W F S lF lS (a6 S (i%8)) root i hi);have b0:((i:Int)<64)=True:=ab
 refine Gp ?_;intro t1 t2;rw[<-hr]at TW TR;rw[<-hq]at TR;refine U' ?_;intro ao ak av al b8 b9 wq wr;replace hq:=an hq;replace hr:=an hr;replace hf:=an hf;go_in;go_wp2_with(refine fw s ?_;intro _ w s);refine(tP w i).mono ?_;rintro e w⟨rfl,rfl⟩;go_wp2_with(refine fw s ?_;intro _ w s);refine(TW w s.pa).mono ?_;rintro e w⟨rfl,g3⟩;have s:=s.pg g3;go_wp2_with(refine fw s ?_;intro _ w s);refine(mo _ H P s.pa).mono ?_;rintro e _⟨rfl,rfl⟩;go_wp2_with fail;refine(kT _ H.mb P.s s.pa.map).mono ?_;rintro e _⟨rfl,rfl⟩;go_wp2_with(refine fw s ?_;intro _ w s)
 ·refine bj ?_;exact .inl ⟨ae,rfl,s.ePG⟩
 have h3:3<=bN P.s:=ae
 refine(IX w H P s.pa _ b (λw' T=>hb w' (s.t.trans T (λn h _=>h))) aa ae (λj h=>(hf j h).2) ae).mono ?_;rintro e w⟨i1,ad,f1,rfl,d⟩;obtain⟨vp,s⟩:=s.pt d;have GG:=fv gS (ik (hf i1 f1).1 ad s1 s2 (eS b aa)) r;have Q2:=an (mD S r ae ⟨(i1:Int),P.st,dQ (eS b aa)⟩);have aB:r*3+(be ⟨(i1:Int),P.st,dQ (eS b aa)⟩).size<=(aP S).size:=by rw[b7,lS];show r*3+3<=24;omega
 have L2:κ (S.set r ⟨(i1:Int),P.st,dQ (eS b aa)⟩)=8:=by rw[Aat];exact lS
 have h1:=sT (P:=P) (s:=eS b aa) ad f1;replace f1:=an f1;go_wp2_with(refine fw s ?_;intro _ w s);refine(ot _ (H.at vp) _ s.pa _ L2 GG.1 GG.2 (show P.m+1<=900000 from ae) (λj h=>(qM hf j h).2) ae).mono ?_;rintro e w⟨i2,ai,f2,rfl,d⟩;obtain⟨vp,s⟩:=s.pt d;have ag:=fv gF (ik (qM hf i2 f2).1 ai s1 s2 (bJ (S.set r ⟨(i1:Int),P.st,dQ (eS b aa)⟩))) q;have Q3:=an (mD F q ae ⟨(i2:Int),P.st,dQ (bJ (S.set r ⟨(i1:Int),P.st,dQ (eS b aa)⟩))⟩);have aC:q*3+(be ⟨(i2:Int),P.st,dQ (bJ (S.set r ⟨(i1:Int),P.st,dQ (eS b aa)⟩))⟩).size<=(aP F).size:=by rw[b7,lF];show q*3+3<=24;omega
 have L3:κ (F.set q ⟨(i2:Int),P.st,dQ (bJ (S.set r ⟨(i1:Int),P.st,dQ (eS b aa)⟩))⟩)=8:=KR
 have h2:=sT (P:=P.put i1 (eS b aa)) (s:=bJ (S.set r ⟨(i1:Int),P.st,dQ (eS b aa)⟩)) ai f2;replace f2:=an f2;go_wp2_with(refine fw s ?_;intro _ w s);refine(ot _ (H.at vp) _ s.pa _ L3 ag.1 ag.2 (show P.m+1+1<=900000 from ae) (λj h=>(qM (qM hf) j h).2) ae).mono ?_;rintro e w⟨i3,ar,f3,rfl,d⟩;obtain⟨vp,s⟩:=s.pt d;replace f3:=an f3;go_wp2_with(refine fw s ?_;intro _ w s);refine kw 5 s (λw s=>?_);repeat refine kt ?_
 refine xJ (λw _ _=>TR w) ?_;rintro w _ s _ w'⟨v,rfl,ov,u⟩;refine⟨_,_,rfl,.q ov u s.t.size,?_⟩;refine ks (λw s=>?_);repeat refine kt ?_
 refine kd (λw u s=>?_);go_wp2_with fail;refine bj ?_;exact .inr ⟨h3,i1,i2,i3,v,ad,ai,ar,f1,f2,f3,by rw[<-hq.out,<-hr.out];rfl,by rw[<-hq.out,<-hr.out];exact s.CU,by rw[<-hq.out,<-hr.out];exact s.ePT⟩
def qI(F S:List au):Nat:=if gh S=true/\gh F=true then 0 else if gh S=true then 1 else 2
def SV(P:bq)(H:aR)(root:au)(q r:Nat)(F S:List au)(w:af)(e:Ab2)(w':af):Prop:=(a6 S r=hole/\e=.returned (.tuple #[.agg (be root),.slice none 0 0,.int .i64 0])/\PG w H P w')\/(a6 S r≠hole/\bN P.s<qI (F.set q hole) (S.set r hole)/\e=.returned (.tuple #[.agg (be root),.slice none 0 0,.int .i64 71])/\PG w H P w')\/(a6 S r≠hole/\∃v,bf w' w.heap.size v (jH [a6 S r,a6 F q,root])/\((qI (F.set q hole) (S.set r hole)=0/\e=.returned (.tuple #[.agg (be hole),v,.int .i64 0])/\PG w H P w')\/(qI (F.set q hole) (S.set r hole)=1/\∃i1:Nat,i1<1024/\P.s i1=1/\e=.returned (.tuple #[.agg (be ⟨i1,P.st,dQ (bJ (F.set q hole))⟩),v,.int .i64 0])/\PT w H (P.put i1 (bJ (F.set q hole))) w')\/(qI (F.set q hole) (S.set r hole)=2/\∃i1 i2:Nat,i1<1024/\i2<1024/\P.s i1=1/\ff P.s i1 2 i2=1/\e=.returned (.tuple #[.agg (be ⟨i2,P.st,dQ (bJ (F.set q ⟨i1,P.st,dQ (bJ (S.set r hole))⟩))⟩),v,.int .i64 0])/\PT w H ((P.put i1 (bJ (S.set r hole))).put i2 (bJ (F.set q ⟨i1,P.st,dQ (bJ (S.set r hole))⟩))) w')))
theorem gL:hole.wf/\cA hole=true:=by refine⟨⟨av,av,av⟩,av⟩
theorem R9(w:af)(H:aR)(P:bq)(A:PA w H P)(root:au)(i q r:Nat)(hi:i<64)(hq:q=i/8)(hr:r=i%8)(F S:List au)(hF:node8 P.C root=some F)(hS:node8 P.C (a6 F q)=some S)(hm:P.m<=800000)(hf:∀j,P.s j=1->4<=j/\j<κ P.C)(s1:1<=P.st)(s2:P.st<=281474976710655):Aae Aag 125 #[.pointer (some ⟨H.pb,0,none⟩),.agg (be root),.int .i64 (i:Int)] w (SV P H root q r F S w):=by
 obtain⟨lF,lS,gF,gS⟩:=iv (cN hF) (cN hS) (gn hF) (gn hS);have lW:=fy lF lS (a6 S r);obtain⟨IW,s⟩:=az (ru (fA F S (a6 S r)) lW) (Fr.nV A);have b0:((i:Int)<64)=True:=ab
 have EQ:=D2 (a6 S r);have TW:=λW (B:PA W H P)=>xc W H P B root i hi F S hF (by rw[<-hq];exact hS);rw[<-hr]at TW;refine U' ?_;intro ao ak av al b8 b9 wq wr;obtain⟨Q1,Q2⟩:=aw (mD F q ae hole) (mD S r ae hole);have aE:q*3+(be hole).size<=(aP F).size:=by rw[b7,lF];show q*3+3<=24;omega
 have aB:r*3+(be hole).size<=(aP S).size:=by rw[b7,lS];show r*3+3<=24;omega
 have aj:κ (F.set q hole)=8:=KR
 have ay:κ (S.set r hole)=8:=by rw[Aat];exact lS
 obtain⟨aq,ax,ES,EF,TR⟩:=yj (fv gF gL q) (fv gS gL r) (λW=>Dt W (S.set r hole) ay) (λW=>Dt W (F.set q hole) aj) (λW=>sJ W F S lF lS (a6 S r) root i hi);rw[<-hq]at TR;have ND:=an (show qI (F.set q hole) (S.set r hole)=if gh (S.set r hole)=true/\gh (F.set q hole)=true then 0 else if gh (S.set r hole)=true then 1 else 2 from rfl);replace hf:=an hf;replace hq:=an hq;replace hr:=an hr;go_in;go_wp2_with(refine fw s ?_;intro _ w s);refine(tP w i).mono ?_;rintro e w⟨rfl,rfl⟩;go_wp2_with(refine fw s ?_;intro _ w s);refine(TW w s.pa).mono ?_;rintro e w⟨rfl,g3⟩;have s:=s.pg g3;go_wp2_with(refine fw s ?_;intro _ w s)
 ·refine bj ?_;exact .inl ⟨cj,rfl,s.ePG⟩
 have HH:=an (show a6 S r≠hole from cj);refine kb s (λw s=>?_);repeat refine kt ?_
 refine kn (λ_ w u s=>?_);refine kn (λ_ w u s=>?_);refine ks (λw s=>?_);refine ks (λw s=>?_);refine kd (λw u s=>?_);go_wp2_with(refine fw s ?_;intro _ w s);refine(ES w).mono ?_;refine er ?_;intro w u s;cases ag:gh (S.set r hole);case' false=>have HN:=an (show qI (F.set q hole) (S.set r hole)=2 by rw[ND.out,ag];rfl);go_wp2_with(refine fw s ?_;intro _ w s);refine(ES w).mono ?_;refine er ?_;intro w u s;rw[ag];go_wp2_with fail
 case' true=>go_wp2_with(refine fw s ?_;intro _ w s);refine(EF w).mono ?_;refine er ?_;intro w u s;by_cases aa:gh (F.set q hole)=true
 case' neg=>rw[uJ]at aa;have HN:=an (show qI (F.set q hole) (S.set r hole)=1 by rw[ND.out,ag,aa];rfl);rw[aa];go_wp2_with(refine fw s ?_;intro _ w s);refine(ES w).mono ?_;refine er ?_;intro w u s;rw[ag];go_wp2_with fail
 case' pos=>have HN:=an (show qI (F.set q hole) (S.set r hole)=0 by rw[ND.out,ag,aa];rfl);rw[aa];go_wp2_with fail
 all_goals
  refine(mo _ H P s.pa).mono ?_;rintro e _⟨rfl,rfl⟩;go_wp2_with fail;refine(kT _ H.mb P.s s.pa.map).mono ?_;rintro e _⟨rfl,rfl⟩;go_wp2_with(refine fw s ?_;intro _ w s)
 rotate_left
 ·refine bj ?_;exact .inr (.inl ⟨HH,by rw[HN.out];omega,rfl,s.ePG⟩)
 refine(ot _ H P s.pa _ aj aq.1 aq.2 ae (λj h=>(hf j h).2) ae).mono ?_;rintro e w⟨i1,ad,f1,rfl,d⟩;obtain⟨vp,s⟩:=s.pt d;replace f1:=an f1;go_wp2_with(refine fw s ?_;intro _ w s);rotate_left
 ·refine bj ?_;exact .inr (.inl ⟨HH,by rw[HN.out];omega,rfl,s.ePG⟩)
 refine(ot _ H P s.pa _ ay ax.1 ax.2 ae (λj h=>(hf j h).2) ae).mono ?_;rintro e w⟨i1,ad,f1,rfl,d⟩;obtain⟨vp,s⟩:=s.pt d;have ar:=fv gF (ik (hf i1 f1).1 ad s1 s2 (bJ (S.set r hole))) q;have Q3:=an ((mD (F.set q hole) q ae ⟨(i1:Int),P.st,dQ (bJ (S.set r hole))⟩).trans (by rw[wN]));have aC:q*3+(be ⟨(i1:Int),P.st,dQ (bJ (S.set r hole))⟩).size<=(aP (F.set q hole)).size:=by rw[b7,aj];show q*3+3<=24;omega
 have aD:κ (F.set q ⟨(i1:Int),P.st,dQ (bJ (S.set r hole))⟩)=8:=KR
 have h1:=sT (P:=P) (s:=bJ (S.set r hole)) ad f1;replace f1:=an f1;go_wp2_with(refine fw s ?_;intro _ w s);refine(ot _ (H.at vp) _ s.pa _ aD ar.1 ar.2 (show P.m+1<=900000 from ae) (λj h=>(qM hf j h).2) ae).mono ?_;rintro e w⟨i2,ai,f2,rfl,d⟩;obtain⟨vp,s⟩:=s.pt d;replace f2:=an f2;go_wp2_with(refine fw s ?_;intro _ w s);all_goals
  refine kw 5 s (λw s=>?_);repeat refine kt ?_
  refine xJ (λw _ _=>TR w) ?_;rintro w _ s _ w'⟨v,rfl,ov,u⟩;refine⟨_,_,rfl,.q ov u s.t.size,?_⟩;refine ks (λw s=>?_);repeat refine kt ?_
  refine kd (λw u s=>?_);go_wp2_with fail;refine bj ?_;refine .inr (.inr ⟨HH,v,s.CU,?_⟩);first
  | exact .inl ⟨HN,rfl,s.ePG⟩
  | exact .inr (.inl ⟨HN,i1,ad,f1,rfl,s.ePT⟩)
  | exact .inr (.inr ⟨HN,i1,i2,ad,ai,f1,f2,rfl,s.ePT⟩)
def xH(F:List au)(SS:Nat->List au)(st k:Nat):List au:=if fj (a6 F k) st=true then a6 F k::(SS k).filter (λx=>fj x st)else []
def jL(F:List au)(SS:Nat->List au)(st k:Nat):List au:=(Aak k).flatMap (xH F SS st)
def yr(root:au)(F:List au)(SS:Nat->List au)(st:Nat):List au:=if fj root st=true then root::jL F SS st 8 else []
theorem xI(F:List au)(SS:Nat->List au)(st k:Nat):jL F SS st (k+1)=jL F SS st k++xH F SS st k:=by unfold jL;rw[Ab5,gk];simp
theorem ES{F:List au}{SS:Nat->List au}(h:κ (SS k)=8):κ (xH F SS st k)<=9:=by grind [xH,fj]
theorem nM{F:List au}{SS:Nat->List au}{st:Nat}:∀k,(∀j,j<k->κ (SS j)=8)->κ (jL F SS st k)<=9*k
 | 0,_=>by simp[jL]
 | k+1,h=>by rw[xI,Aaf];have h1:=nM (F:=F) (SS:=SS) (st:=st) k (λj hj=>h j ae);have h2:=ES (F:=F) (SS:=SS) (st:=st) (h k ae);omega
theorem Kq(p:α->Bool)(l:List α)(k:Nat)(h:k<κ l)(hp:p l[k]=true):(l.take (k+1)).filter p=(l.take k).filter p++[l[k]]:=by rw[et h,kD];simp[hp]
theorem Qi(p:α->Bool)(l:List α)(k:Nat)(h:k<κ l)(hp:p l[k]=false):(l.take (k+1)).filter p=(l.take k).filter p:=by rw[et h,kD];simp[hp]
def Wj(w:af)(p:au)(n:Nat):Aae Aag 119 #[.agg (be p),u6 (n:Int)] w λe w'=>kk (fj p n) w e w':=D8 w p n
theorem GL(w:af)(base:Nat)(hb:base<=w.heap.size)(p:au):bf (w.alloc (.cells (be p) 87)) base (cD w.heap.size 1 1) [p]:=by have:=yZ (base:=base) (e:=87) (size:=3) w (be p) 1 hb av rfl;exact this
theorem rY(l:List au)(k:Nat)(h:k<κ l):a6 l k=l[k]:=by grind [a6]
theorem ql(l:List au)(hl:κ l=8)(k:Nat)(h:k<8)(W:af):(Adf 176 (.agg (aP l)) (i6 (k:Int))).run Aag W=.ok (.agg (be (a6 l k))) W:=by grind [rY,AT]
def ab1(l:List au)(H:aR)(P:bq)(w:af)(e:Ab2)(w':af):Prop:=∃v,e=.returned (.tuple #[v,.int .i64 0])/\bf w' w.heap.size v l/\PG w H P w'
theorem Jr(w:af)(H:aR)(P:bq)(A:PA w H P)(root:au)(st:Nat)(F:List au)(SS:Nat->List au)(hF:node8 P.C root=some F)(hS:∀k,k<8->node8 P.C (a6 F k)=some (SS k)):Aae Aag 60 #[pz H.pb,.agg (be root),u6 (st:Int)] w (ab1 (yr root F SS st) H P w):=by
 have lF:=cN hF;obtain⟨U1,HA,SN,LS,az,LF⟩:=ix (ai w (.cells (be root) 87)) A (λW p=>Wj W p st) (show ∀k,k<8->κ (SS k)=8 from λk hk=>cN (hS k hk)) (hI F lF) lF;refine Gw ?_;intro ag;cases hs:fj root st
 case false=>have HL:=an (show yr root F SS st=[] by unfold yr;rw[hs];rfl);go_in;go_wp2;go_step3;go_wp2_with(refine arm ?_);refine(SN _ root).mono ?_;rintro e w2⟨rfl,u2⟩;rw[hs];clear hs;go_wp2;go_ret2;exact⟨_,rfl,by rw[HL.out];exact ak.nil _ _ _ _ _,PG.of HA (U1.trans u2)⟩
 have HL:=an (show yr root F SS st=root::jL F SS st 8 by unfold yr;rw[hs];rfl);go_in;go_wp2;go_step3;go_wp2_with(refine arm ?_);refine(SN _ root).mono ?_;rintro e w2⟨rfl,u2⟩;obtain⟨B2,G2⟩:=aw ((aF.new w 87 (be root)).up u2) (PG.of HA (U1.trans u2));rw[hs];clear hs;go_wp2_with(refine arm ?_);refine((λW (AW:PA W H P)=>r7 W H P AW _ F hF) _ G2.1).mono ?_;rintro e w3⟨rfl,g3⟩;obtain⟨G3,U4,U5⟩:=aV (G2.trans g3) (ai w3 (.cells (aP F) 176)) (ai (w3.alloc (.cells (aP F) 176)) (.cells (be root) 87));clear SN;have SN:=an (λW p=>Wj W p st);go_wp2_with(first
  | refine bB 176 pO ?_
  | ((with_reducible refine cx _ _ _ ?_);refine fK _ rfl _ (.tmp 8) (.tmp 25) rfl _ _ (aP dM) rfl rfl rfl az (an (by rw[b7,b7,lF];rfl)) (jU F) ?_)
  | refine cY 87 4 ((B2.ax g3.2 (ag _ (aE _))).up U4) ?_
  | ((with_reducible refine eo _ 1 _ ?_);refine bS rfl 88 _ (.tmp 30) rfl _ 3 _ _ rfl Aaq cF ae ae rfl ?_)
  | refine cY 176 8 ((aF.new _ _ _).up U5) (hi:=az) ?_)
 go_step3;go_wp2_with(refine arm ?_);clear az;have a7:=an (show bf ((w3.alloc (.cells (aP F) 176)).alloc (.cells (be root) 87)) w.heap.size (cD (w3.heap.size+1) 1 1) (root::jL F SS st 0)from by have:=(GL (w3.alloc (.cells (aP F) 176)) w.heap.size (by rw[Aa3];have:=G3.2.size;omega) root);rw[aN]at this;exact this)
 go_loopw [10,33] (λv i wr=>∃k:Nat,k<=8/\i=i6 k/\bf wr w.heap.size v (root::jL F SS st k)/\PG w H P wr) (λ_ i _=>8-(Aau i).toNat)
 case atStart=>exact⟨0,ae,rfl,a7,((G3.up U4).up U5)⟩
 case round=>
  obtain⟨k,hk,rfl,hown,hg⟩:=hrel;obtain⟨HOWN,GR⟩:=aw hown hg;by_cases hlt:k<8
  ·have IX:=ql F LF k hlt;obtain⟨aU,IT,TK,LK⟩:=bW (xI F SS st k) (show xH F SS st k=if fj (a6 F k) st=true then a6 F k::(SS k).filter (λx=>fj x st)else [] from rfl) (λW AW=>(λW (AW:PA W H P) k hk=>r7 W H P AW _ _ (hS k hk)) W AW k hlt) (LS k hlt);have aH:=nM (F:=F) (SS:=SS) (st:=st) k (λj hj=>LS j ae);have b2:((k:Int)<8)=True:=by simp;omega
   obtain⟨sk,aK⟩:=bE (SS k);have bd:=an aK;rw[<-aK]at IT TK LK;clear aK;generalize a6 F k=x at *;generalize ad:jL F SS st k=il at *;have aT:=an ad;clear ad;have UX:=an (ai wr (.cells (be x) 87));obtain⟨va,vc,rfl⟩:=(ak.row HOWN pw).slice;cases hs:fj x st
   case false=>
    have NX:=an (show jL F SS st (k+1)=il by rw[aU.out,IT.out,hs];simp);go_wp2_with(refine arm ?_);go_step3;go_wp2_with(refine arm ?_);refine(SN _ x).mono ?_;rintro e w6⟨rfl,u6⟩;obtain⟨G6,O6⟩:=aw (GR.up (UX.trans u6)) (HOWN.up (UX.trans u6));rw[hs];clear hs;go_wp2;rw[Exit.noGoto_exit];go_wp2;go_roundw
    case rel=>exact⟨k+1,ae,aq,by rw[NX.out];exact O6,G6⟩
    case measure=>simp[Aau];omega
   case true=>
    have NX:=an (show jL F SS st (k+1)=il++x::sk.filter (λx=>fj x st)by rw[aU.out,IT.out,hs];simp);go_wp2_with(refine arm ?_);go_step3;go_wp2_with(refine arm ?_);refine(SN _ x).mono ?_;rintro e w6⟨rfl,u6⟩;obtain⟨G6,O6,B6⟩:=aV (GR.up (UX.trans u6)) (HOWN.up (UX.trans u6)) ((aF.new wr 87 (be x)).up u6);rw[hs];clear hs;go_wp2_with(refine arm ?_);refine(TK _ G6.1).mono ?_;rintro e w7⟨rfl,g7⟩;obtain⟨aW,U8,U9⟩:=aV (hI sk LK) (ai w7 (.cells (aP sk) 176)) (ai (w7.alloc (.cells (aP sk) 176)) (.cells (be x) 87));obtain⟨Y9,O9,G9,n1,n2⟩:=eW ((aF.new w7 176 (aP sk)).up U9) (((ak.ax O6 g7.2 (λb hb=>ag b (O6.aJ b hb).1)).up U8).up U9) (((G6.trans g7).up U8).up U9) (show(κ (root::il) + [x].length)*24<=140737488355328 from ab) (show(root::il).length + [x].length<=9223372036854775807 from ab);obtain⟨n3,PR⟩:=aw (show w.heap.size<=((w7.alloc (.cells (aP sk) 176)).alloc (.cells (be x) 87)).heap.size by have:=G9.2.size;omega) (vF (w7.alloc (.cells (aP sk) 176)) _ rfl x);clear TK;go_wp2_with(first
     | refine bB 176 pO ?_
     | ((with_reducible refine cx _ (.tmp 13) (.tmp 44) ?_);refine fK w7 rfl 176 (.tmp 13) (.tmp 44) rfl (aP sk) 176 (aP dM) rfl rfl rfl aW (an (by rw[b7,b7,LK.out];rfl)) (jU sk) ?_)
     | refine cY 87 12 ((B6.ax g7.2 (ag _ GR.2.size)).up U8) ?_
     | ((with_reducible refine eo 88 1 _ ?_);refine bS rfl 88 87 (.tmp 50) rfl _ 3 24 (be x) rfl Aaq cF ae ae rfl ?_)
     | (at_builtin;refine bH pw rfl (.tmp 49) (.tmp 51) 88 rfl w.heap.size 87 _ 24 Aaq cF rfl _ (root::il) rfl O9 _ [x] rfl PR n1 n2 n3 ?_))
    intro v6 aQ aa ay aL;have ck:=an aa;have aO:=λkk aG=>(O9.aJ kk aG).1;have bh:=an (Y9.grown ay (λe=>by
     obtain⟨_,h2⟩:=O9.out;rcases h2 with⟨h3,_⟩|⟨g',al,aB,h3,_,h5,_⟩
     ·simp at h3
     ·simp only[Abg]at h3;rw[h3.1]at e;simp only[Aan,Aai]at e;subst e;have:=Y9.symm.trans h5;simp at this))
    clear n1 n2 n3;go_wp2_with(refine arm ?_);go_step3;go_wp2_with(refine arm ?_);clear aW;go_loopw [10,54] (λv i wr=>∃j:Nat,j<=8/\i=i6 j/\bf wr w.heap.size v (root::il++x::(sk.take j).filter (λx=>fj x st))/\PG w H P wr) (λ_ i _=>8-(Aau i).toNat)
    case atStart=>exact⟨0,ae,rfl,(by simpa using ck.out),⟨G9.1.ax (Touch.bg (F:=λn=>w.heap.size<=n) ay (λkk aG=>aO kk aG)) (λb hb=>λhle=>ag b hle hb),G9.2.hp ay aO⟩⟩
    case round=>
     obtain⟨j,hj,rfl,hown,hg⟩:=hrel;obtain⟨HOWN,GR⟩:=aw hown hg;by_cases br:j<8
     ·have IX:=ql sk LK j br;have aM:j<κ sk:=by rw[LK.out];exact br
      obtain⟨FY,FN⟩:=aw (Kq (λx=>fj x st) sk j aM) (Qi (λx=>fj x st) sk j aM);have aD:=qx (λx=>fj x st) (sk.take j);have aj:κ (sk.take j)<=8:=by rw[ez];omega
      rw[<-rY sk j aM]at FY FN;have b3:((j:Int)<8)=True:=ab
      generalize a6 sk j=y at *;generalize(sk.take j).filter (λx=>fj x st)=fl at *;have aS:κ (root::il++x::fl)<=90:=ab
      obtain⟨ls,aC⟩:=bE (root::il++x::fl);have ar:=an aC;rw[<-aC]at HOWN aS;clear aC;obtain⟨UY,BY⟩:=aw (ai wr (.cells (be y) 87)) (aF.new wr 87 (be y));obtain⟨a8,bb,rfl⟩:=(ak.row HOWN pw).slice;clear aM;cases hs:fj y st
      case false=>
       have FN:=an (FN hs);clear FY;go_wp2_with(refine arm ?_);refine(SN _ y).mono ?_;rintro e bc⟨rfl,ao⟩;rw[hs];clear hs;go_wp2;go_roundw
       case rel=>exact⟨j+1,ae,aq,by rw[FN.out,<-ar.out];exact(HOWN.up (UY.trans ao)),(GR.up (UY.trans ao))⟩
       case measure=>simp[Aau];omega
      case true=>
       have FY:=an (FY hs);clear FN;go_wp2_with(refine arm ?_);refine(SN _ y).mono ?_;rintro e bc⟨rfl,ao⟩;have aY:=an (ai bc (.cells (be y) 87));obtain⟨av,a1⟩:=aw ((GR.up (UY.trans ao)).up aY) ((HOWN.up (UY.trans ao)).up aY);rw[hs];clear hs;obtain⟨n1,n2,n3,PR⟩:=bW (show(κ ls + [y].length)*24<=140737488355328 from ab) (show κ ls + [y].length<=9223372036854775807 from ab) (show w.heap.size<=(bc.alloc (.cells (be y) 87)).heap.size by have:=av.2.size;omega) (vF bc _ rfl y);go_wp2_with(first
        | refine arm ?_
        | ((with_reducible refine eo 88 1 _ ?_);refine bS rfl 88 87 (.tmp 62) rfl _ 3 24 (be y) rfl Aaq cF ae ae rfl ?_)
        | (at_builtin;refine bH pw rfl (.tmp 61) (.tmp 63) 88 rfl w.heap.size 87 _ 24 Aaq cF rfl _ ls rfl a1 _ [y] rfl PR n1 n2 n3 ?_))
       intro v7 cS aI aX ba;have aO:=λkk aG=>(a1.aJ kk aG).1;go_wp2;go_roundw
       case rel=>exact⟨j+1,ae,aq,by rw[FY.out];have:=aI;rw[ar.out]at this;simpa using this,⟨av.1.ax (Touch.bg (F:=λn=>w.heap.size<=n) aX (λkk aG=>aO kk aG)) (λb hb=>λhle=>ag b hle hb),av.2.hp aX aO⟩⟩
       case measure=>simp[Aau];omega
     ·obtain rfl:j=8:=by omega
      have b3:((8:Nat):Int)=8:=rfl;have ho:=HOWN.out;rw[dq (by rw[LK.out];exact aE _)]at ho;go_wp2;rw[Exit.noGoto_normal];go_wp2;go_roundw
      case rel=>exact⟨k+1,ae,aq,by rw[NX.out];simpa using ho,GR⟩
      case measure=>simp[Aau];omega
  ·obtain rfl:k=8:=by omega
   have b2:((8:Nat):Int)=8:=rfl;go_wp2;try rw[Exit.noGoto_ret]
   go_ret2;exact⟨_,rfl,by rw[HL.out];exact HOWN,GR⟩
structure gF where
 take:Bool
 st:Int
 len:Int
deriving DecidableEq
def gF.sp(m:gF):bM:=⟨m.st,m.len⟩
def vr(m:gF):List ah:=[.bool m.take,.int .i64 m.st,.int .i64 m.len]
def iy(m:gF):Array ah:=#[.bool m.take,.int .i64 m.st,.int .i64 m.len]
def lu(m:bM):Array ah:=#[.int .i64 m.st,.int .i64 m.len]
theorem O0:hh vr 3 where
 pos:=av
 len:=λ_=>rfl;one:=by intro x u hu;simp[vr]at hu;rcases hu with rfl|rfl|rfl<;>rfl
abbrev tX(w:af)(v:ah)(l:List gF):Prop:=aH vr w v l
abbrev n4(w:af)(base:Nat)(v:ah)(l:List gF):Prop:=ak vr 3 326 w base v l
theorem km:(prog.info? 326).map (λi=>(i.zero,i.size,i.bytes))=some (some (.agg #[.bool false,i6 0,i6 0]),3,24):=al
theorem TU(m:gF):(prog.info? 326).map (·.size)=some (iy m).size:=al
theorem TV(m:bM):(prog.info? 139).map (·.size)=some (lu m).size:=al
theorem K9(w:af)(m:gF):tX (w.alloc (.cells (iy m) 326)) (cD w.heap.size 1 1) [m]:=aH.ew w _ rfl _ _ _ _ 1 rfl av rfl
theorem YV(w:af)(m:bM):dX (w.alloc (.cells (lu m) 139)) (cD w.heap.size 1 1) [m]:=aH.ew w _ rfl _ _ _ _ 1 rfl av rfl
theorem Rw(s:bM):ck (-1) [s]=gE s:=by grind [ck,gE,d']
theorem qH(w:af)(m:gF):Aae Aag 246 #[.agg (iy m)] w λe w'=>Mn (gE m.sp) w e w':=by
 have R1:=an (show(w.alloc (.cells (iy m) 326)).rangeAt w.heap.size 1 (lu m.sp).toList from λj v hj=>by
  rw[(aF.new w 326 (iy m)).cell];match j,hj with
  | 0,hj=>exact hj
  | 1,hj=>exact hj)
 have S1:=an (gv _ _ [m.sp] (YV (w.alloc (.cells (iy m) 326)) m.sp));rw[Rw,aN]at S1;go_in;go_wp2_with(first
  | refine arm ?_
  | ((with_reducible refine eo 63 1 _ ?_);refine bS rfl 63 139 (.tmp 4) rfl _ 2 16 (lu m.sp) rfl underlying63 wy ae ae rfl ?_))
 refine S1.mono ?_;rintro e w1⟨rfl,u1⟩;go_wp2;go_ret;exact⟨rfl,((ai w (.cells (iy m) 326)).trans (ai (w.alloc (.cells (iy m) 326)) (.cells (lu m.sp) 139))).trans u1⟩
theorem PN(s:bM):prog.built 326 [(1,.agg (lu s))]=some (iy ⟨false,s.st,s.len⟩):=al
theorem PO(s:bM):prog.built 326 [(0,.bool true),(1,.agg (lu s))]=some (iy ⟨true,s.st,s.len⟩):=al
section
variable {P:bp}
theorem xg{ops:Array Abn}{rest:List Abn}{o:Abn}{a:Act}{w:af}{Q:Exit->Act->af->Prop}(hw:Aaa o (Aa1 ops a.tmps)=true)(t:Aab)(i0:Nat)(x0:bU)(ho:o.op=.build t #[(i0,x0)])(v0:ah)(C:Array ah)(hb:P.built t [(i0,v0)]=some C)(h0:a.eval x0=v0)(h:Aal P ops Q rest (a.put o.dst (.agg C)) w):Aal P ops Q (o::rest) a w:=qw hw λ_ hK=>wp_build t #[(i0,x0)] ho aQ (hK _ _ (by simpa[hb,h0]using h))
theorem kV{ops:Array Abn}{rest:List Abn}{o:Abn}{a:Act}{w:af}{Q:Exit->Act->af->Prop}(hw:Aaa o (Aa1 ops a.tmps)=true)(t:Aab)(i0 i1:Nat)(x0 x1:bU)(ho:o.op=.build t #[(i0,x0),(i1,x1)])(v0 v1:ah)(C:Array ah)(hb:P.built t [(i0,v0),(i1,v1)]=some C)(h0:a.eval x0=v0)(h1:a.eval x1=v1)(h:Aal P ops Q rest (a.put o.dst (.agg C)) w):Aal P ops Q (o::rest) a w:=qw hw λ_ hK=>wp_build t #[(i0,x0),(i1,x1)] ho aQ (hK _ _ (by simpa[hb,h0,h1]using h))
end
theorem aH.range{f:α->List ah}{a:Option Adr}{l:List α}(h:aH f w (.slice a n cap) l)(hw:hh f k)(h0:0<κ l):∃b off,a=some ⟨b,off,none⟩/\b<w.heap.size/\n<=cap/\∀i(hi:i<κ l),w.rangeAt b (off+i*k) (f l[i]):=by obtain⟨b,off,h1,h2,h3,h4⟩:=aH.get h hw h0;exact⟨b,off,h1,h2,h3,λi hi j v hj=>aQ⟩
theorem YT(s:bM):(lu s).all (·.oneCell')=true:=by simp[lu,Value.oneCell']
theorem OY(s:gF):(iy s).all (·.oneCell')=true:=by simp[iy,Value.oneCell']
theorem zW:∀W:af,(Acj 139).run Aag W=.ok (.agg (lu ⟨0,0⟩)) W:=by simp[lu]
theorem DW{f:α->List ah}{f':β->List ah}{k k':Nat}{e e':Aab}{v v':ah}{xs:List α}{ys:List β}(h:ak f k e w base v xs)(h':ak f' k' e' w base' v' ys)(he:e≠e'):v.ownBlock=none\/v.ownBlock≠v'.ownBlock:=by exact Na
def h2(s:bM):gF:=⟨false,s.st,s.len⟩
def dI(s:bM):gF:=⟨true,s.st,s.len⟩
def HR(a b:List bM):List gF:=(aB (oO (cG a) (cG b)) 4096).map h2++(aB (oO (cG b) (cG a)) 4096).map dI
theorem Tp(w:af)(va vb:ah)(la lb:List bM)(ha:dX w va la)(ar:∀a m c,va=.slice (some a) m c->a.block<w.heap.size)(hv:dX w vb lb)(hb:∀a m c,vb=.slice (some a) m c->a.block<w.heap.size)(ra:ck (-1) la=true)(rb:ck (-1) lb=true):Aae Aag 276 #[va,vb] w λe w'=>∃u,e=.returned u/\n4 w' w.heap.size u (HR la lb)/\Up w w':=by
 obtain⟨a1,ao,rfl⟩:=ha.slice;obtain⟨a2,ax,rfl⟩:=hv.slice;obtain⟨R1,R2,C1,C2⟩:=bW (λW (u:Up w W)=>gv W _ la (ha.up u)) (λW (u:Up w W)=>gv W _ lb (hv.up u)) (λW (u:Up w W)=>yd W _ _ la lb (ha.up u) (λa m c e=>ej (ar a m c e) u.size) (hv.up u) (λa m c e=>ej (hb a m c e) u.size)) (λW (u:Up w W)=>yd W _ _ lb la (hv.up u) (λa m c e=>ej (hb a m c e) u.size) (ha.up u) (λa m c e=>ej (ar a m c e) u.size));obtain⟨L1,L2⟩:=az (iu (oO (cG la) (cG lb)) 4096) (iu (oO (cG lb) (cG la)) 4096);have DD:=an (show HR la lb=(aB (oO (cG la) (cG lb)) 4096).map h2++(aB (oO (cG lb) (cG la)) 4096).map dI from rfl);rw[ra]at R1;rw[rb]at R2;generalize aB (oO (cG la) (cG lb)) 4096=ls at *;generalize aB (oO (cG lb) (cG la)) 4096=ms at *;clear ar hb ra rb;go_in;go_wp2_with fail;refine(R1 _ (Up.refl _)).mono ?_;rintro e w1⟨rfl,u1⟩;go_wp2_with fail;refine(R2 _ u1).mono ?_;rintro e w2⟨rfl,u2⟩;go_wp2_with fail;refine(C1 _ (u1.trans u2)).mono ?_;rintro e w3⟨vx,rfl,aH,u3⟩;obtain⟨U3,OX⟩:=aw ((u1.trans u2).trans u3) (aH.mono (u1.trans u2).size);obtain⟨xa,xc,rfl⟩:=(aH.row Cj).slice;go_wp2;go_loopw [5,22] (λv i wr=>∃k:Nat,k<=κ ls/\i=i6 k/\n4 wr w.heap.size v ((ls.take k).map h2)/\hX wr w.heap.size (.slice xa (κ ls) xc) ls/\Up w wr) (λ_ i _=>κ ls-(Aau i).toNat)
 case atStart=>exact⟨0,bT _,rfl,ak.nil _ _ _ _ _,OX,U3⟩
 case round=>
  obtain⟨k,hk,rfl,hown,aI,upr⟩:=hrel;obtain⟨HOWN,au,ag⟩:=aV hown aI upr;by_cases hlt:k<κ ls
  ·obtain⟨b,off,rfl,hbs,bc,hc⟩:=(au.row Cj).range Cj ae;have b2:((k:Int)<(κ ls:Int))=True:=by simp;omega
   obtain⟨NX,RC⟩:=aw (show(ls.take (k+1)).map h2=(ls.take k).map h2++[h2 ls[k]] by rw[et hlt,Aar];rfl) (hc k hlt);have aC:κ ((ls.take k).map h2)<=4096:=ab
   clear hc;generalize ls[k]=p at *;generalize(ls.take k).map h2=il at *;obtain⟨va,vc,rfl⟩:=(ak.row HOWN O0).slice;obtain⟨BX,BD,U4,U5⟩:=bW (aF.new wr 139 (lu p)) (PN p) (ai wr (.cells (lu p) 139)) (ai (wr.alloc (.cells (lu p) 139)) (.cells (iy (h2 p)) 326));obtain⟨O5,X5,UU,PR,n1,n2⟩:=ix ((HOWN.up U4).up U5) ((au.up U4).up U5) ((ag.trans U4).trans U5) (K9 (wr.alloc (.cells (lu p) 139)) (h2 p)) (show(κ il + [h2 p].length)*24<=140737488355328 from ab) (show κ il + [h2 p].length<=9223372036854775807 from ab);have n3:=an (show w.heap.size<=((wr.alloc (.cells (lu p) 139)).alloc (.cells (iy (h2 p)) 326)).heap.size from UU.size);go_wp2_with(first
    | refine cT 139 24 (lu p) RC ?_
    | refine bB 139 zW ?_
    | refine eh 139 7 25 wr (lu p) 139 (lu ⟨0,0⟩) ?_
    | refine cY 139 7 BX ?_
    | (refine xg rfl 326 _ _ rfl _ (iy (h2 p)) BD rfl ?_)
    | ((with_reducible refine eo 270 1 _ ?_);refine bS rfl 270 326 (.tmp 28) rfl _ 3 24 (iy (h2 p)) rfl Acx km ae ae rfl ?_)
    | (at_builtin;refine bH O0 rfl (.tmp 26) (.tmp 29) 270 rfl w.heap.size 326 _ 24 Acx km rfl _ il rfl O5 _ [h2 p] rfl PR n1 n2 n3 ?_))
   intro v6 w6 aa ay aL;obtain⟨U6,O6,X6⟩:=aV (Up.aG UU aL (aE _)) aa (ak.kept X5 ay (DW X5 O5 av));go_wp2;go_roundw
   case rel=>exact⟨k+1,ae,aq,by rw[NX.out];exact O6,X6,U6⟩
   case measure=>simp[Aau];omega
  ·obtain rfl:k=κ ls:=by omega
   refine zE ?_;intro ho;have HO:=an ho;go_wp2_with fail;refine(C2 _ ag).mono ?_;rintro e w4⟨vy,rfl,aj,u4⟩;obtain⟨U4,OX⟩:=aw (ag.trans u4) (aj.mono ag.size);obtain⟨ya,yc,rfl⟩:=(aj.row Cj).slice;generalize al:ls.map h2=fs at *;have aD:κ fs<=4096:=by rw[<-al];simp;omega
   have HF:=an al;clear al;go_wp2;go_loopw [5,36] (λv i wr=>∃k:Nat,k<=κ ms/\i=i6 k/\n4 wr w.heap.size v (fs++(ms.take k).map dI)/\hX wr w.heap.size (.slice ya (κ ms) yc) ms/\Up w wr) (λ_ i _=>κ ms-(Aau i).toNat)
   case atStart=>exact⟨0,bT _,rfl,by simpa using(HO.up u4),OX,U4⟩
   case round=>
    obtain⟨k,hk,rfl,hown,aI,upr⟩:=hrel;obtain⟨HOWN,au,ag⟩:=aV hown aI upr;by_cases hlt:k<κ ms
    ·obtain⟨b,off,rfl,hbs,bc,hc⟩:=(au.row Cj).range Cj ae;have b2:((k:Int)<(κ ms:Int))=True:=by simp;omega
     obtain⟨NX,RC⟩:=aw (show fs++(ms.take (k+1)).map dI=fs++(ms.take k).map dI++[dI ms[k]] by rw[et hlt,Aar,Aa9];rfl) (hc k hlt);have aC:κ (fs++(ms.take k).map dI)<=8192:=ab
     clear hc;generalize ms[k]=p at *;generalize fs++(ms.take k).map dI=il at *;obtain⟨va,vc,rfl⟩:=(ak.row HOWN O0).slice;obtain⟨BX,BD,U4,U5⟩:=bW (aF.new wr 139 (lu p)) (PO p) (ai wr (.cells (lu p) 139)) (ai (wr.alloc (.cells (lu p) 139)) (.cells (iy (dI p)) 326));obtain⟨O5,X5,UU,PR,n1,n2⟩:=ix ((HOWN.up U4).up U5) ((au.up U4).up U5) ((ag.trans U4).trans U5) (K9 (wr.alloc (.cells (lu p) 139)) (dI p)) (show(κ il + [dI p].length)*24<=140737488355328 from ab) (show κ il + [dI p].length<=9223372036854775807 from ab);have n3:=an (show w.heap.size<=((wr.alloc (.cells (lu p) 139)).alloc (.cells (iy (dI p)) 326)).heap.size from UU.size);go_wp2_with(first
      | refine cT 139 38 (lu p) RC ?_
      | refine bB 139 zW ?_
      | refine eh 139 9 39 wr (lu p) 139 (lu ⟨0,0⟩) ?_
      | refine cY 139 9 BX ?_
      | (refine kV rfl 326 _ _ _ _ rfl _ _ (iy (dI p)) BD rfl rfl ?_)
      | ((with_reducible refine eo 270 1 _ ?_);refine bS rfl 270 326 (.tmp 42) rfl _ 3 24 (iy (dI p)) rfl Acx km ae ae rfl ?_)
      | (at_builtin;refine bH O0 rfl (.tmp 40) (.tmp 43) 270 rfl w.heap.size 326 _ 24 Acx km rfl _ il rfl O5 _ [dI p] rfl PR n1 n2 n3 ?_))
     intro v6 w6 aa ay aL;obtain⟨U6,X6⟩:=aw (Up.aG UU aL (aE _)) (ak.kept X5 ay (DW X5 O5 av));go_wp2;go_roundw
     case rel=>exact⟨k+1,ae,aq,by rw[NX.out];exact aa,X6,U6⟩
     case measure=>simp[Aau];omega
    ·obtain rfl:k=κ ms:=by omega
     refine zE ?_;intro ho;go_wp2;go_ret;exact⟨_,rfl,by rw[DD.out];exact ho,ag⟩
def ts:List Int:=[1,2,2]
def aai(m:gF):List Nat:=[if m.take=true then 1 else 0,m.st.toNat,m.len.toNat]
def jc(m:gF):List aj:=aW ts (aai m)
def iC(l:List gF):List aj:=l.flatMap jc
def zK(m:gF):Prop:=gE m.sp=true
theorem jT(m:gF):κ (jc m)=5:=aA
theorem jv(l:List gF):κ (iC l)=5*κ l:=by
 induction l with
 | nil=>rfl
 | cons m l ih=>grind [iC,jc,jT]
theorem QN{l:List gF}(h:k<κ l):iC (l.take (k+1))=iC (l.take k)++jc l[k]:=by unfold iC;rw[et h,gk];simp
theorem xL{m:gF}(h:zK m):∃x y:Nat,m=⟨m.take,x,y⟩/\x<4096/\1<=y/\y<=4096:=by obtain⟨aa,s,l⟩:=m;have:=(d' s l).1 h;exact⟨s.toNat,l.toNat,ab,ae,ae,ae⟩
theorem BL{n x y:Nat}(hn:n<=1)(hx:x<4096)(hy:y<=4096):nB ts [n,x,y]:=by refine⟨rfl,av,?_⟩;grind [ts,fits]
def yG(w:af)(v:ah)(ws:List Int)(hv:aD bC w v ws)(hlen:κ ws*8<=140737488351232)(u:ah)(ns:List Nat)(hu:aD cr w u ns)(aj:∀n∈ns,n<18446744073709551616)(ak:nB ws ns):Aae Aag 240 #[v,u] w λe w'=>∃v,e=rt #[v,i6 0]/\Own aK 5 w' w.heap.size v (aW ws ns)/\Up w w':=ps w v ws hv hlen u ns hu aj ak
theorem wg:∀W:af,(Acj 326).run Aag W=.ok (.agg (iy ⟨false,0,0⟩)) W:=by simp[iy]
theorem lh(w:af):Aae Aag 245 #[] w λe w'=>∃v,e=.returned v/\Own bC 3 w' w.heap.size v ts/\Up w w':=by go_in;go_wp2;go_ret;exact⟨_,rfl,(yZ (base:=w.heap.size) (e:=3) (size:=1) w #[i6 1,i6 2,i6 2] 3 (aE _) av rfl),ai _ _⟩
theorem EB(w:af)(va:ah)(la:List bM)(ha:dX w va la)(ar:∀a m c,va=.slice (some a) m c->a.block<w.heap.size)(ra:ck (-1) la=true):Aae Aag 248 #[va] w λe w'=>∃u,e=.returned u/\n4 w' w.heap.size u (HR [] la)/\Up w w':=by have D:=an (Tp w (nl) va [] la (aH.nil _ _) (λa m c h=>aQ) ha ar rfl ra);obtain⟨a1,ao,rfl⟩:=ha.slice;clear ar;go_in;go_wp2_with fail;refine D.mono ?_;rintro e w1⟨u,rfl,own,up⟩;go_wp2;go_ret;exact⟨u,rfl,own,up⟩
theorem LN(w:af)(v:ah)(l:List gF)(hv:tX w v l)(hl:κ l<=4096)(hr:∀m∈l,zK m):Aae Aag 249 #[v] w λe w'=>∃u,e=rt #[u,i6 0]/\Own aK 5 w' w.heap.size u (iC l)/\Up w w':=by
 obtain⟨HV,HRR⟩:=aw hv hr;obtain⟨a1,ao,rfl⟩:=hv.slice;have HM:=kR (P:=Aag) 30 5 (.int .u8 0) 1 Aa0 eX (5*κ l) ae ae;rw[show((5*κ l:Nat):Int)=5*(κ l:Int)from ae]at HM;have b1:((κ l:Int)>4096)=False:=ab
 clear hr;go_in;go_wp2;clear HM;go_loopw [4,19] (λv i wr=>∃k:Nat,k<=κ l/\i=i6 k/\Own aK 5 wr w.heap.size v (iC (l.take k))/\Up w wr) (λ_ i _=>κ l-(Aau i).toNat)
 case atStart=>exact⟨0,bT _,rfl,by simpa[iC]using(Own.room aK 5 w (.int .u8 0) w.heap.size (5*κ l) (aE _) ae),(ai w (.cells (kg (.int .u8 0) (5*κ l)) 5))⟩
 case round=>
  obtain⟨k,hk,rfl,hown,upr⟩:=hrel;obtain⟨HOWN,ag⟩:=aw hown upr;by_cases hlt:k<κ l
  ·obtain⟨b,off,rfl,hbs,bc,hc⟩:=(HV.up ag).range O0 ae;refine iD ?_;intro b2;obtain⟨NX,RC⟩:=aw (QN hlt) (hc k hlt);obtain⟨RM,LL⟩:=az (HRR _ (cw hlt)) (jv (l.take k));have LT:κ (l.take k)<=4096:=by rw[ez];omega
   clear hc;generalize l[k]=p at *;obtain⟨x,y,hp,hx,ar,hy⟩:=xL RM;have BB:=an (show jc p=aW ts [if p.take=true then 1 else 0,x,y] by rw[hp];unfold jc aai;simp);have aS:κ (iC (l.take k))<=20480:=ae
   clear LL LT;generalize iC (l.take k)=il at *;have RG:=an (λW=>qH W p);rw[show gE p.sp=true from RM]at RG;generalize aj:jc p=bb at *;have HBL:=an (show κ bb=5 by rw[<-aj,jT]);clear aj;generalize aU:p.take=aa at *;subst hp;clear aU;obtain⟨BX,U2⟩:=aw (aF.new wr 326 (iy ⟨aa,x,y⟩)) (ai wr (.cells (iy ⟨aa,x,y⟩) 326));cases aa
   ·go_wp2_with(first
     | refine cT 326 21 (iy ⟨false,(x:Int),(y:Int)⟩) RC ?_
     | refine bB 326 wg ?_
     | refine eh 326 6 22 wr (iy ⟨false,(x:Int),(y:Int)⟩) 326 (iy ⟨false,0,0⟩) ?_
     | refine cY 326 6 BX ?_)
    refine(RG _).mono ?_;rintro e w3⟨rfl,u3⟩;obtain⟨U3,B3,O3⟩:=aV ((ag.trans U2).trans u3) (BX.up u3) ((HOWN.up U2).up u3);clear RG;have d0:w3.cell? (ad wr.heap.size 0)=some (.bool false):=B3.cell 0;go_wp2;clear d0;refine e7 (S:=λW=>aF W wr.heap.size 326 (iy ⟨false,(x:Int),(y:Int)⟩)) al ?_;change Acp _ _ _ _ _ 17 _ _ (w3.drew);have UD:=an (Up.drew (Up.refl w3));obtain⟨B3,O3,U3⟩:=aV (B3.up UD) (O3.up UD) (U3.trans UD);generalize w3.drew=w4 at *;have wx:=dT x ae;have wy:=dT y ae;refine ta 1 ?_;refine ns ?_;refine tb 4 rfl (yc (λW hS=>hS.cell 1)) ?_;refine vg ?_;refine tb 8 rfl (yc (λW hS=>hS.cell 2)) ?_;refine ta 9 ?_;have F4:=an (show aF w4 wr.heap.size 326 (iy ⟨false,(x:Int),(y:Int)⟩)/\Up w4 w4 from⟨B3,Up.refl _⟩);refine qa 0 10 al rfl rfl rfl rfl ?_ ?_
    ·intro K hK;go_simp;refine(lh _).mono ?_;rintro e w5⟨vw,rfl,ow,u5⟩;obtain⟨OW,F5⟩:=aw (ow.mono (F4.2.size)) (show aF w5 wr.heap.size 326 (iy ⟨false,(x:Int),(y:Int)⟩)/\Up w4 w5 from⟨F4.1.up u5,F4.2.trans u5⟩);refine hK _ _ F5.1 ?_;clear hK K;refine ok 10 ?_;intro K hK;go_simp;have IN:=an (aD.ew (f:=cr) w5 w5.heap.size rfl #[.int .u64 0,.int .u64 (x:Int),.int .u64 (y:Int)] 70 (0,0) [0,x,y] 3 rfl dK rfl);have u6:=ai w5 (.cells #[.int .u64 0,.int .u64 (x:Int),.int .u64 (y:Int)] 70);obtain⟨F6,OW⟩:=aw (show aF (w5.alloc (.cells #[.int .u64 0,.int .u64 (x:Int),.int .u64 (y:Int)] 70)) wr.heap.size 326 (iy ⟨false,(x:Int),(y:Int)⟩)/\Up w4 (w5.alloc (.cells #[.int .u64 0,.int .u64 (x:Int),.int .u64 (y:Int)] 70))from⟨F5.1.up u6,F5.2.trans u6⟩) (OW.up u6);refine hK _ _ F6.1 ?_;clear hK K;generalize w5.alloc (.cells #[.int .u64 0,.int .u64 (x:Int),.int .u64 (y:Int)] 70)=w6 at *;refine ok 11 ?_;intro K hK;obtain⟨va,vc,rfl⟩:=(Own.cu OW).slice;go_simp;refine Nu ?_;intro w7 vp op u7 OP F7;exact Zt
    ·intro K hK;go_simp;have IN:=an (aD.ew (f:=cr) w4 w4.heap.size rfl #[.int .u64 0,.int .u64 (x:Int),.int .u64 (y:Int)] 70 (0,0) [0,x,y] 3 rfl dK rfl);have u5:=ai w4 (.cells #[.int .u64 0,.int .u64 (x:Int),.int .u64 (y:Int)] 70);have F5:=an (show aF (w4.alloc (.cells #[.int .u64 0,.int .u64 (x:Int),.int .u64 (y:Int)] 70)) wr.heap.size 326 (iy ⟨false,(x:Int),(y:Int)⟩)/\Up w4 (w4.alloc (.cells #[.int .u64 0,.int .u64 (x:Int),.int .u64 (y:Int)] 70))from⟨F4.1.up u5,F4.2.trans u5⟩);refine hK _ _ F5.1 ?_;clear hK K;generalize w4.alloc (.cells #[.int .u64 0,.int .u64 (x:Int),.int .u64 (y:Int)] 70)=w5 at *;refine ok 0 ?_;intro K hK;go_simp;refine(lh _).mono ?_;rintro e w6⟨vw,rfl,ow,u6⟩;obtain⟨OW,F6,IN⟩:=aV (ow.mono (F5.2.size)) (show aF w6 wr.heap.size 326 (iy ⟨false,(x:Int),(y:Int)⟩)/\Up w4 w6 from⟨F5.1.up u6,F5.2.trans u6⟩) (IN.up u6);refine hK _ _ F6.1 ?_;clear hK K;refine ok 11 ?_;intro K hK;obtain⟨va,vc,rfl⟩:=(Own.cu OW).slice;go_simp;refine Nu ?_;intro w7 vp op u7 OP F7;exact Zu
   ·go_wp2_with(first
     | refine cT 326 21 (iy ⟨true,(x:Int),(y:Int)⟩) RC ?_
     | refine bB 326 wg ?_
     | refine eh 326 6 22 wr (iy ⟨true,(x:Int),(y:Int)⟩) 326 (iy ⟨false,0,0⟩) ?_
     | refine cY 326 6 BX ?_)
    refine(RG _).mono ?_;rintro e w3⟨rfl,u3⟩;obtain⟨U3,B3,O3⟩:=aV ((ag.trans U2).trans u3) (BX.up u3) ((HOWN.up U2).up u3);clear RG;have d0:w3.cell? (ad wr.heap.size 0)=some (.bool true):=B3.cell 0;go_wp2;clear d0;refine e7 (S:=λW=>aF W wr.heap.size 326 (iy ⟨true,(x:Int),(y:Int)⟩)) al ?_;change Acp _ _ _ _ _ 17 _ _ (w3.drew);have UD:=an (Up.drew (Up.refl w3));obtain⟨B3,O3,U3⟩:=aV (B3.up UD) (O3.up UD) (U3.trans UD);generalize w3.drew=w4 at *;have wx:=dT x ae;have wy:=dT y ae;refine ta 1 ?_;refine ns ?_;refine tb 4 rfl (yc (λW hS=>hS.cell 1)) ?_;refine vg ?_;refine tb 8 rfl (yc (λW hS=>hS.cell 2)) ?_;refine ta 9 ?_;have F4:=an (show aF w4 wr.heap.size 326 (iy ⟨true,(x:Int),(y:Int)⟩)/\Up w4 w4 from⟨B3,Up.refl _⟩);refine qa 0 10 al rfl rfl rfl rfl ?_ ?_
    ·intro K hK;go_simp;refine(lh _).mono ?_;rintro e w5⟨vw,rfl,ow,u5⟩;obtain⟨OW,F5⟩:=aw (ow.mono (F4.2.size)) (show aF w5 wr.heap.size 326 (iy ⟨true,(x:Int),(y:Int)⟩)/\Up w4 w5 from⟨F4.1.up u5,F4.2.trans u5⟩);refine hK _ _ F5.1 ?_;clear hK K;refine ok 10 ?_;intro K hK;go_simp;have IN:=an (aD.ew (f:=cr) w5 w5.heap.size rfl #[.int .u64 1,.int .u64 (x:Int),.int .u64 (y:Int)] 70 (0,0) [1,x,y] 3 rfl dK rfl);have u6:=ai w5 (.cells #[.int .u64 1,.int .u64 (x:Int),.int .u64 (y:Int)] 70);obtain⟨F6,OW⟩:=aw (show aF (w5.alloc (.cells #[.int .u64 1,.int .u64 (x:Int),.int .u64 (y:Int)] 70)) wr.heap.size 326 (iy ⟨true,(x:Int),(y:Int)⟩)/\Up w4 (w5.alloc (.cells #[.int .u64 1,.int .u64 (x:Int),.int .u64 (y:Int)] 70))from⟨F5.1.up u6,F5.2.trans u6⟩) (OW.up u6);refine hK _ _ F6.1 ?_;clear hK K;generalize w5.alloc (.cells #[.int .u64 1,.int .u64 (x:Int),.int .u64 (y:Int)] 70)=w6 at *;refine ok 11 ?_;intro K hK;obtain⟨va,vc,rfl⟩:=(Own.cu OW).slice;go_simp;refine Nv ?_;intro w7 vp op u7 OP F7;exact Zt
    ·intro K hK;go_simp;have IN:=an (aD.ew (f:=cr) w4 w4.heap.size rfl #[.int .u64 1,.int .u64 (x:Int),.int .u64 (y:Int)] 70 (0,0) [1,x,y] 3 rfl dK rfl);have u5:=ai w4 (.cells #[.int .u64 1,.int .u64 (x:Int),.int .u64 (y:Int)] 70);have F5:=an (show aF (w4.alloc (.cells #[.int .u64 1,.int .u64 (x:Int),.int .u64 (y:Int)] 70)) wr.heap.size 326 (iy ⟨true,(x:Int),(y:Int)⟩)/\Up w4 (w4.alloc (.cells #[.int .u64 1,.int .u64 (x:Int),.int .u64 (y:Int)] 70))from⟨F4.1.up u5,F4.2.trans u5⟩);refine hK _ _ F5.1 ?_;clear hK K;generalize w4.alloc (.cells #[.int .u64 1,.int .u64 (x:Int),.int .u64 (y:Int)] 70)=w5 at *;refine ok 0 ?_;intro K hK;go_simp;refine(lh _).mono ?_;rintro e w6⟨vw,rfl,ow,u6⟩;obtain⟨OW,F6,IN⟩:=aV (ow.mono (F5.2.size)) (show aF w6 wr.heap.size 326 (iy ⟨true,(x:Int),(y:Int)⟩)/\Up w4 w6 from⟨F5.1.up u6,F5.2.trans u6⟩) (IN.up u6);refine hK _ _ F6.1 ?_;clear hK K;refine ok 11 ?_;intro K hK;obtain⟨va,vc,rfl⟩:=(Own.cu OW).slice;go_simp;refine Nv ?_;intro w7 vp op u7 OP F7;exact Zu
  ·obtain rfl:k=κ l:=by omega
   refine zE ?_;intro ho;go_wp2;go_ret2;exact⟨_,rfl,ho,ag⟩
def EH(w:af)(v:ah)(ws:List Int)(hv:aD bC w v ws)(hlen:κ ws*8<=140737488351232)(u:ah)(b:List aj)(hu:a8 w u b)(ak:BJ ws b):Aae Aag 177 #[v,u] w λe w'=>∃v,e=rt #[v,i6 0]/\Own cr 70 w' w.heap.size v (c8 ws b)/\Up w w':=uy w v ws hv hlen u b hu ak
theorem mj{f:α->ah}{a:Option Adr}{l:List α}(h:aD f w (.slice a n cap) l):n<=cap:=by
 rcases h with⟨rfl,a',al,hv,hm,hn⟩|⟨b,off,al,hv,h0,hl,hm,hc⟩
 ·simp_all
 ·simp_all
def Pf(v:ah):Nat:=match v with | .slice _ n _=>n|_=>0
theorem VT(m:gF):BJ ts (jc m):=⟨av,aA⟩
def Z2{n x y:Nat}(hn:n<=1)(hx:x<4096)(hy:y<=4096):c8 ts (aW ts [n,x,y])=[n,x,y]:=rm _ _ rfl (BL hn hx hy).2.2
theorem QM{l:List gF}(h:k<κ l):iC (l.drop k)=jc l[k]++iC (l.drop (k+1)):=by unfold iC;rw[td h,Abc]
section
variable {P:bp} {ops:Array Abn} {S:af->Prop} {o:Abn} {v:ah} {a:Act}
theorem xj(hw:Aaa o (Aa1 ops a.tmps)=true)(t:Aab)(i0 i1:Nat)(x0 x1:bU)(ho:o.op=.build t #[(i0,x0),(i1,x1)])(v0 v1:ah)(C:Array ah)(hb:P.built t [(i0,v0),(i1,v1)]=some C)(h0:a.eval x0=v0)(h1:a.eval x1=v1):Acb P ops S o (.agg C) a:=.inl ⟨hw,λw _=>by
  unfold Abt;simp only[ho,List.map_toArray,Acd,List.map_nil,h0,h1,Aay,run_build w t _ C hb,Aax,Ac7]⟩
end
theorem PS(x y:Nat):prog.built 139 [(0,i6 (x:Int)),(1,i6 (y:Int))]=some (lu ⟨x,y⟩):=al
theorem PQ(aa:Bool)(x y:Nat):prog.built 326 [(0,.bool aa),(1,.agg (lu ⟨x,y⟩))]=some (iy ⟨aa,x,y⟩):=al
theorem RT(w:af)(v:ah)(l:List gF)(hv:a8 w v (iC l))(hl:κ l<=4096)(hr:∀m∈l,zK m):Aae Aag 187 #[v] w λe w'=>∃u,e=rt #[u,i6 0]/\n4 w' w.heap.size u l/\Up w w':=by
 obtain⟨HV,HRR⟩:=aw hv hr;obtain⟨a1,ao,rfl⟩:=hv.slice;have HM:=mB (P:=Aag) 270 326 _ 3 24 Acx km (κ l) ae ae;have r1:((5*(κ l:Int)).tmod 5)=0:=by rw[Int.tmod_eq_emod_of_nonneg ae];omega
 have r2:((5*(κ l:Int)).tdiv 5)=κ l:=by rw[Int.tdiv_eq_ediv_of_nonneg ae];omega
 have b1:((5*(κ l:Int))>20480)=False:=ab
 have q5:((κ (iC l):Nat):Int)=5*(κ l:Int):=by rw[(jv l)];omega
 clear hr;go_in;go_wp2;clear HM r1 r2 b1;go_loopw [0,4] (λu v wr=>∃k:Nat,k<=κ l/\a8 w u (iC (l.drop k))/\n4 wr w.heap.size v (l.take k)/\Up w wr) (λu _ _=>Pf u)
 case atStart=>exact⟨0,bT _,by rw[Aaw];exact HV,by rw[Abk];exact(ak.room vr 3 326 w (.agg #[.bool false,i6 0,i6 0]) w.heap.size (κ l) (aE _) ae),(ai w (.cells (Acv (Value.agg #[.bool false,i6 0,i6 0]).cells (κ l*3)) 326))⟩
 case round=>
  obtain⟨k,hk,hu,hown,upr⟩:=hrel;obtain⟨HOWN,ag,HU⟩:=aV hown upr hu;clear q5;have hN:=jv (l.drop k);rw[hA]at hN;obtain⟨za,zc,rfl⟩:=hu.slice;by_cases hlt:k<κ l
  ·obtain⟨NX,DP⟩:=aw (et hlt) (QM hlt);have RM:=HRR _ (cw hlt);have LT:κ (l.take k)<=4096:=by rw[ez];omega
   generalize l[k]=p at *;obtain⟨x,y,hp,hx,ar,hy⟩:=xL RM;have RG:=an (λW=>qH W p);rw[show gE p.sp=true from RM]at RG;obtain⟨v1,aI⟩:=bE (bY za 0 5 zc);obtain⟨v3,aC⟩:=bE (bY za 5 (κ (iC (l.drop k))) zc);have V1:=an (show a8 w v1 (jc p)by have:=aD.piece HU (lo:=0) (hi:=5) ae ae;rw[aI];rw[DP.out,Aaw,h5 (jT p)]at this;exact this)
   have V3:=an (show a8 w v3 (iC (l.drop (k+1)))by have:=aD.piece HU (lo:=5) (hi:=κ (iC (l.drop k))) ae ae;rw[aC];rw[dq (aE _)]at this;rw[DP.out,lB (jT p),<-DP.out]at this;exact this)
   have PT:∀W,(Aav 30 (.slice za (κ (iC (l.drop k))) zc) none (some (i6 5)) none).run Aag W=.ok v1 W:=λW=>by rw[aI];exact hj (P:=Aag) 30 dC dD za _ zc 5 (by have:=(mj hu);omega) W
   have PF:∀W,(Aav 30 (.slice za (κ (iC (l.drop k))) zc) (some (i6 5)) none none).run Aag W=.ok v3 W:=λW=>by rw[aC];exact dg (P:=Aag) 30 dC dD za _ zc 5 ae W
   have MS:=an (show Pf v3<κ (iC (l.drop k)) from by rw[aC];show(iC (l.drop k)).length-5<_;omega)
   have b2:((κ (iC (l.drop k)):Nat):Int)>0:=ae
   clear aI aC DP hN;generalize aj:jc p=bb at *;have aL:=an (VT p);have GB:=an (show c8 ts bb=[if p.take=true then 1 else 0,x,y] by rw[<-aj,hp];unfold jc aai;simp only[Abp];exact Z2 (by split<;>omega) hx hy)
   rw[aj]at aL;clear aj;generalize aK:p.take=aa at *;subst hp;clear aK;obtain⟨n0,ay⟩:∃n0:Nat,n0=(if aa=true then 1 else 0):=⟨_,rfl⟩;have E0:=an (show decide ((n0:Int)=1)=aa by rw[ay];cases aa<;>simp);have b3:((n0:Int)>1)=False:=by
    have:n0<=1:=by rw[ay];split<;>omega
    simp;omega
   rw[<-ay]at GB;clear ay;have wx:=aX x ae;have wy:=aX y ae;generalize(iC (l.drop k)).length=nn at *;go_wp2;refine e7 (S:=λ_=>True) al ?_;change Acp _ _ _ _ _ 9 _ _ (wr.drew);have UD:=an (Up.drew (Up.refl wr));generalize wr.drew=w4 at *;refine ta 1 ?_;refine ta 2 ?_;refine ok 0 ?_;intro K hK;go_simp;refine(lh _).mono ?_;rintro e w5⟨vw,rfl,ow,u5⟩;obtain⟨OW,U5⟩:=aw ow (UD.trans u5);refine hK _ _ trivial ?_;clear hK K;refine ok 3 ?_;intro K hK;obtain⟨va,vc,rfl⟩:=(Own.cu OW).slice;go_simp;refine(EH _ _ ts OW.cu (by simp[ts]) _ bb (V1.up (ag.trans U5)) aL).mono ?_;rintro e w6⟨vn,rfl,on,u6⟩;rw[GB.out]at on;obtain⟨ON,U6⟩:=aw on (U5.trans u6);refine hK _ _ trivial ?_;clear hK K;refine ta 4 ?_;refine vg ?_;refine ta 8 ?_;refine dn ?_;obtain⟨g,ax,rfl,a6,hg,hc,_,_⟩:=Own.row ON aq;have c0:w6.cell? (ad g 0)=some (.int .u64 (n0:Int)):=hc 0 aq;obtain⟨C1,C2⟩:=aw (show w6.cell? (ad g 1)=some (.int .u64 (x:Int))from hc 1 aq) (show w6.cell? (ad g 2)=some (.int .u64 (y:Int))from hc 2 aq);clear hc GB PT;go_wp2;have C0:=an c0;clear c0 b3;refine e7 (S:=λW=>W.cell? (ad g 0)=some (.int .u64 (n0:Int))/\W.cell? (ad g 1)=some (.int .u64 (x:Int))/\W.cell? (ad g 2)=some (.int .u64 (y:Int))) al ?_;change Acp _ _ _ _ _ 16 _ _ (w6.drew);have UD:=an (Up.drew (Up.refl w6));obtain⟨F7,U7,aN,HZ⟩:=bW (show w6.drew.cell? (ad g 0)=some (.int .u64 (n0:Int))/\w6.drew.cell? (ad g 1)=some (.int .u64 (x:Int))/\w6.drew.cell? (ad g 2)=some (.int .u64 (y:Int))from⟨UD.cell C0,UD.cell C1,UD.cell C2⟩) ((ag.trans U6).trans UD) (U6.trans UD) UD.size;clear C0 C1 C2;generalize w6.drew=w7 at *;refine ta 0 ?_;refine ta 1 ?_;refine tb 2 rfl (yc (λW hS=>hS.1)) ?_;refine tk 3 (.bool aa) rfl (rf rfl (λ_=>by go_simp;rw[<-E0.out];rfl)) (F7) ?_;refine ta 4 ?_;refine ta 5 ?_;refine tb 6 rfl (yc (λW hS=>hS.2.1)) ?_;refine F' ?_;refine tb 10 rfl (yc (λW hS=>hS.2.2)) ?_;refine bA ?_;refine ta 11 ?_;refine bA ?_;refine tb 12 rfl (xj rfl _ _ _ _ _ rfl _ _ _ (PS x y) rfl rfl) ?_;refine bA ?_;refine tb 13 rfl (xj rfl _ _ _ _ _ rfl _ _ _ (PQ aa x y) rfl rfl) ?_;refine bA ?_;obtain⟨IS,OS⟩:=aw (TU ⟨aa,x,y⟩) (OY ⟨aa,x,y⟩);refine ok 14 ?_;intro K hK;refine fm 326 rfl (iy ⟨false,0,0⟩) wg ?_;have u8:=ai w7 (.cells (iy ⟨false,0,0⟩) 326);obtain⟨F8,B8⟩:=aw (show(w7.alloc (.cells (iy ⟨false,0,0⟩) 326)).cell? (ad g 0)=some (.int .u64 (n0:Int))/\(w7.alloc (.cells (iy ⟨false,0,0⟩) 326)).cell? (ad g 1)=some (.int .u64 (x:Int))/\(w7.alloc (.cells (iy ⟨false,0,0⟩) 326)).cell? (ad g 2)=some (.int .u64 (y:Int))from⟨u8.cell F7.1,u8.cell F7.2.1,u8.cell F7.2.2⟩) (aF.new w7 326 (iy ⟨false,0,0⟩));have aM:w6.heap.size<=w7.heap.size:=HZ;refine hK _ _ F8 ?_;refine gC ?_;clear hK K;generalize aJ:w7.alloc (.cells (iy ⟨false,0,0⟩) 326)=w8 at *;refine ok 15 ?_;intro K hK;refine tf 326 (.tmp 7) (.tmp 54) rfl w7.heap.size (iy ⟨aa,(x:Int),(y:Int)⟩) rfl rfl 326 (iy ⟨false,0,0⟩) B8 IS rfl OS ?_;have aB:=below_setRow (e6 w7.heap.size w8) (aE _) (iy ⟨aa,(x:Int),(y:Int)⟩);obtain⟨U9,W9,B9⟩:=aV ((U7.trans u8).aG aB U7.size) (show Up wr (w8.setRow w7.heap.size (iy ⟨aa,(x:Int),(y:Int)⟩))from(aN.trans u8).aG aB aN.size) (B8.set (iy ⟨aa,(x:Int),(y:Int)⟩));obtain⟨UW,g9⟩:=az (u8.aG aB (aE _)) (cV w8 w7.heap.size (iy ⟨aa,(x:Int),(y:Int)⟩));have F9:=an (show(w8.setRow w7.heap.size (iy ⟨aa,(x:Int),(y:Int)⟩)).cell? (ad g 0)=some (.int .u64 (n0:Int))/\(w8.setRow w7.heap.size (iy ⟨aa,(x:Int),(y:Int)⟩)).cell? (ad g 1)=some (.int .u64 (x:Int))/\(w8.setRow w7.heap.size (iy ⟨aa,(x:Int),(y:Int)⟩)).cell? (ad g 2)=some (.int .u64 (y:Int))from⟨UW.cell F7.1,UW.cell F7.2.1,UW.cell F7.2.2⟩);refine hK _ _ F9 ?_;clear hK K F8 F7;refine bA ?_;generalize w8.setRow w7.heap.size (iy ⟨aa,(x:Int),(y:Int)⟩)=w9 at *;refine dn ?_;clear F9;go_wp2_with(refine arm ?_);refine(RG _).mono ?_;rintro e aQ⟨rfl,aR⟩;have bM:=an (ai aQ (.cells (iy ⟨aa,x,y⟩) 326));obtain⟨aS,aO⟩:=aw ((W9.trans aR).trans bM) ((U9.trans aR).trans bM);obtain⟨bI,PR,n1,n2⟩:=bW (HOWN.up aS) (K9 aQ ⟨aa,x,y⟩) (show(κ (l.take k) + [(⟨aa,x,y⟩:gF)].length)*24<=140737488355328 from ab) (show(l.take k).length + [(⟨aa,x,y⟩:gF)].length<=9223372036854775807 from ab);clear RG OS HRR HZ;obtain⟨lk,aP⟩:=bE (l.take k);rw[<-aP]at bI n1 n2 NX;clear aP LT;obtain⟨ma,mc,a7⟩:=(ak.row bI O0).slice;rw[a7]at bI;subst a7;go_wp2_with(first
    | refine arm ?_
    | ((with_reducible refine eo 270 1 _ ?_);refine bS rfl 270 326 (.tmp 59) rfl _ 3 24 (iy ⟨aa,(x:Int),(y:Int)⟩) rfl Acx km ae ae rfl ?_)
    | (at_builtin;refine bH O0 rfl (.tmp 58) (.tmp 60) 270 rfl w.heap.size 326 _ 24 Acx km rfl _ lk rfl bI _ [⟨aa,x,y⟩] rfl PR n1 n2 aO.size ?_))
   intro v12 bO au aT av;have aH:=an (aO.aG av (aE _));go_wp2;go_roundw
   case rel=>exact⟨k+1,ae,V3,by rw[NX.out];exact au,aH⟩
   case measure=>exact MS
  ·obtain rfl:k=κ l:=by omega
   refine zE ?_;intro ho;have b2:κ (iC (l.drop (κ l)))=0:=by rw[Fu];rfl
   go_wp2;go_ret2;exact⟨_,rfl,ho,ag⟩
section
open Go.Shelf
attribute [local go_sem] kI
def gJ(k b off n c j:Nat):ah:=.slice (some ⟨b,off+(c*j)*k,none⟩) (min c (n-c*j)) (min c (n-c*j))
def bo(n c:Nat):Nat:=(n+c-1)/c
theorem fS(hc:0<c):j<bo n c↔c*j<n:=by unfold bo;rw[Nat.lt_iff_add_one_le,Nat.le_div_iff_mul_le hc,Nat.add_mul,Nat.one_mul,uI j c];omega
abbrev sg(m:Nat):={j:Nat // j<m}
def oL(Bs:Nat)(b:Nat)(t:Aab):Prop:=b=Bs\/b=Bs+1
theorem J2(w:af)(a:Option Adr)(n cap:Nat):Aae Aag 290 #[.slice a n cap,i6 128] w λe w'=> e=.returned (.func (.func 296) #[] #[pz w.heap.size,pz (w.heap.size+1)])/\w'=(w.alloc (.cells #[.slice a n cap] 30)).alloc (.cells #[i6 128] 3):=by have c0:=(dp (w.alloc (.cells #[.slice a n cap] 30)) (i6 128) 3).1;rw[aN]at c0;go_in;exact e3
theorem J1(n:Nat)(hn:1<=n)(lp Bs b off nn cap:Nat)(aa:nn<=1000000)(aS:nn<=cap)(J Jx:List Nat->af->Prop)(W:af)(hJ:AbidesFrom W.heap.size J)(hY:∀pre x W1,J pre W1->pre++[x] <+:Aak (bo nn 128)->YieldAt Abv (n-1) Aag lp #[gJ 1 b off nn 128 x] W1 λe W'=>
  (e=.returned (.bool true)/\J (pre++[x]) W'/\c' (oL Bs) W1 W')\/(e=.returned (.bool false)/\Jx (pre++[x]) W'))
 (au:W.cell? (ad Bs 0)=some (sq b off nn cap)) (ai:W.cell? (ad (Bs+1) 0)=some (i6 128)) (h0:J [] W):
 CallsIn Abv n Aag 296 #[.func (.yield lp) #[] #[],pz Bs,pz (Bs+1)] W λe W'=>(∃v,e=.returned v)/\
  ((∃ys,ys=Aak (bo nn 128)/\J ys W')\/(∃pre,pre <+:Aak (bo nn 128)/\Jx pre W')):=by
 refine uM func296 rfl trivial ?_ rfl;simp only[ntmps296,Abh,Aaj,Aa4,Nat.reduceAdd,Nat.reduceSub,Aa6,Aa7,Abj,Aba,Aaz,Aa2];gi_wp2;gi_loopw [4] (λi wr=>∃j:Nat,j<=bo nn 128/\i=i6 (128*(j:Int))/\J (Aak j) wr/\c' (oL Bs) W wr) (λi _=>nn-(Aau i).toNat)
 case atStart=>exact⟨0,bT _,rfl,h0,c'.refl _⟩
 case round=>
  obtain⟨j,hj,rfl,ar,ao⟩:=hrel;obtain⟨x0,x1⟩:=az (ao.cell (a:=⟨Bs,0,none⟩) (λt=>.inl rfl) au) (ao.cell (a:=⟨Bs+1,0,none⟩) (λt=>.inr rfl) ai);obtain⟨HK,HJ⟩:=aw ao ar;by_cases hlt:128*j<nn
  ·have b2:(128*(j:Int)<(nn:Int))=True:=by simp;omega
   obtain⟨y0,y1⟩:=az (dk x0) (dk x1);gi_wp2;clear y0 y1;refine wpIn_wide.2 ?_;refine e7 (S:=λW=>W.cell? (ad Bs 0)=some (sq b off nn cap)/\W.cell? (ad (Bs+1) 0)=some (i6 128)) al ?_;change Acp _ _ _ _ _ 7 _ _ (wr.drew);have UD:=an (Up.drew (Up.refl wr));have F4:=an (show wr.drew.cell? (ad Bs 0)=some (sq b off nn cap)/\wr.drew.cell? (ad (Bs+1) 0)=some (i6 128)from⟨UD.cell x0,UD.cell x1⟩);generalize wr.drew=w4 at *;have PF:∀W,(Aav 30 (sq b off nn cap) (some (i6 (128*(j:Int)))) none none).run Aag W=.ok (partOf 1 (some ⟨b,off,none⟩) (128*j) nn cap) W:=λW=>by have:=gq (P:=Aag) 30 1 al (λW=>al) (some ⟨b,off,none⟩) nn cap (128*j) ae W;rw[show((128*j:Nat):Int)=128*(j:Int)from ae]at this;exact this
   refine tb 0 rfl (yc (λW hS=>hS.2)) ?_;refine tb 1 rfl (yc (λW hS=>hS.1)) ?_;refine ns ?_;refine tk 4 (i6 ((nn-128*j:Nat):Int)) rfl (rf rfl (λ_=>by unfold partOf;go_simp)) (F4) ?_;refine tk 5 (i6 ((min 128 (nn-128*j):Nat):Int)) rfl (rf rfl (λ_=>by go_simp;split<;>omega)) (F4) ?_;refine ta 6 ?_;refine dn ?_;obtain⟨z0,z1,ag⟩:=cZ F4.1 F4.2 UD;have aQ:=(fS (n:=nn) (c:=128) ae).2 hlt;have aj:Aak j++[j] <+:Aak (bo nn 128):=by rw[<-Ab5];have:=List.take_prefix (j+1) (Aak (bo nn 128));rw[List.take_range,Nat.min_eq_left ae]at this;exact this
   clear x0 x1 PF F4;have SL:∀W,(Aav 30 (sq b off nn cap) (some (i6 (128*(j:Int)))) (some (i6 (128*(j:Int)+((min 128 (nn-128*j):Nat):Int)))) (some (i6 (128*(j:Int)+((min 128 (nn-128*j):Nat):Int))))).run Aag W=.ok (gJ 1 b off nn 128 j) W:=λW=>by
    rw[run_slice_lhm W 30 (some ⟨b,off,none⟩) nn cap al .i64 .i64 .i64 (128*(j:Int)) (128*(j:Int)+((min 128 (nn-128*j):Nat):Int)) (128*(j:Int)+((min 128 (nn-128*j):Nat):Int)) ae ae ae ae];have e1:(128*(j:Int)).toNat=128*j:=ae
    have e2:(128*(j:Int)+((min 128 (nn-128*j):Nat):Int)).toNat=128*j+min 128 (nn-128*j):=ae
    rw[show(sizeOf (prog.elem 30)).run Aag W=.ok 1 W from al];exact Nw
   obtain⟨mm,hmm⟩:=bE (min 128 (nn-128*j));rw[<-hmm]at SL;have bL:1<=mm/\mm<=128:=ae
   exact Va
  ·have aQ:¬j<bo nn 128:=λh=>hlt ((fS ae).1 h);obtain rfl:j=bo nn 128:=by omega
   have b2:(128*((bo nn 128:Nat):Int)<(nn:Int))=False:=ab
   clear hY;gi_wp2;go_end0;exact⟨⟨_,rfl⟩,.inl ⟨_,rfl,HJ⟩⟩
theorem Ey(n:Nat)(hn:1<=n)(Bs b off nn cap:Nat)(aa:nn<=1000000)(aS:nn<=cap)(w:af)(ag:Bs+1<w.heap.size)(au:w.cell? (ad Bs 0)=some (sq b off nn cap))(ai:w.cell? (ad (Bs+1) 0)=some (i6 128)):SeqStopsK Abv n Aag 296 #[pz Bs,pz (Bs+1)] (λx:sg (bo nn 128)=>#[gJ 1 b off nn 128 x.1]) (c' (oL Bs)) (λys=>ys.map (·.1)=Aak (bo nn 128)) (λpre=>pre.map (·.1) <+:Aak (bo nn 128)) (bo nn 128) w:=λl' J Jx W hW hJ _ hY h0=>by
 refine(J1 n hn l' Bs b off nn cap aa aS (λpre W=>∃ps:List (sg (bo nn 128)),ps.map (·.1)=pre/\J ps W) (λpre W=>∃ps:List (sg (bo nn 128)),ps.map (·.1)=pre/\Jx ps W) W (λs A B row hs hg hr=>FT) ?_ ((hW.cell (p:=⟨Bs,0,none⟩) (show Bs<_ from ae)).trans au) ((hW.cell (p:=⟨Bs+1,0,none⟩) ag).trans ai) ⟨[],rfl,h0⟩).mono ?_
 ·exact Nb
 ·exact zz
theorem J7(w:af)(a:Option Adr)(n cap:Nat):Aae Aag 291 #[.slice a n cap,i6 8] w λe w'=> e=.returned (.func (.func 297) #[] #[pz w.heap.size,pz (w.heap.size+1)])/\w'=(w.alloc (.cells #[.slice a n cap] 88)).alloc (.cells #[i6 8] 3):=by have c0:=(dp (w.alloc (.cells #[.slice a n cap] 88)) (i6 8) 3).1;rw[aN]at c0;go_in;exact e3
theorem J3(n:Nat)(hn:1<=n)(lp Bs b off nn cap:Nat)(aa:nn<=1000000)(aS:nn<=cap)(J Jx:List Nat->af->Prop)(W:af)(hJ:AbidesFrom W.heap.size J)(hY:∀pre x W1,J pre W1->pre++[x] <+:Aak (bo nn 8)->YieldAt Abv (n-1) Aag lp #[gJ 3 b off nn 8 x] W1 λe W'=>
  (e=.returned (.bool true)/\J (pre++[x]) W'/\c' (oL Bs) W1 W')\/(e=.returned (.bool false)/\Jx (pre++[x]) W'))
 (au:W.cell? (ad Bs 0)=some (sq b off nn cap)) (ai:W.cell? (ad (Bs+1) 0)=some (i6 8)) (h0:J [] W):
 CallsIn Abv n Aag 297 #[.func (.yield lp) #[] #[],pz Bs,pz (Bs+1)] W λe W'=>(∃v,e=.returned v)/\
  ((∃ys,ys=Aak (bo nn 8)/\J ys W')\/(∃pre,pre <+:Aak (bo nn 8)/\Jx pre W')):=by
 refine uM func297 rfl trivial ?_ rfl;simp only[ntmps297,Abh,Aaj,Aa4,Nat.reduceAdd,Nat.reduceSub,Aa6,Aa7,Abj,Aba,Aaz,Aa2];gi_wp2;gi_loopw [4] (λi wr=>∃j:Nat,j<=bo nn 8/\i=i6 (8*(j:Int))/\J (Aak j) wr/\c' (oL Bs) W wr) (λi _=>nn-(Aau i).toNat)
 case atStart=>exact⟨0,bT _,rfl,h0,c'.refl _⟩
 case round=>
  obtain⟨j,hj,rfl,ar,ao⟩:=hrel;obtain⟨x0,x1⟩:=az (ao.cell (a:=⟨Bs,0,none⟩) (λt=>.inl rfl) au) (ao.cell (a:=⟨Bs+1,0,none⟩) (λt=>.inr rfl) ai);obtain⟨HK,HJ⟩:=aw ao ar;by_cases hlt:8*j<nn
  ·have b2:(8*(j:Int)<(nn:Int))=True:=by simp;omega
   obtain⟨y0,y1⟩:=az (dk x0) (dk x1);gi_wp2;clear y0 y1;refine wpIn_wide.2 ?_;refine e7 (S:=λW=>W.cell? (ad Bs 0)=some (sq b off nn cap)/\W.cell? (ad (Bs+1) 0)=some (i6 8)) al ?_;change Acp _ _ _ _ _ 7 _ _ (wr.drew);have UD:=an (Up.drew (Up.refl wr));have F4:=an (show wr.drew.cell? (ad Bs 0)=some (sq b off nn cap)/\wr.drew.cell? (ad (Bs+1) 0)=some (i6 8)from⟨UD.cell x0,UD.cell x1⟩);generalize wr.drew=w4 at *;have PF:∀W,(Aav 88 (sq b off nn cap) (some (i6 (8*(j:Int)))) none none).run Aag W=.ok (partOf 3 (some ⟨b,off,none⟩) (8*j) nn cap) W:=λW=>by have:=gq (P:=Aag) 88 3 al (λW=>al) (some ⟨b,off,none⟩) nn cap (8*j) ae W;rw[show((8*j:Nat):Int)=8*(j:Int)from ae]at this;exact this
   refine tb 0 rfl (yc (λW hS=>hS.2)) ?_;refine tb 1 rfl (yc (λW hS=>hS.1)) ?_;refine ns ?_;refine tk 4 (i6 ((nn-8*j:Nat):Int)) rfl (rf rfl (λ_=>by unfold partOf;go_simp)) (F4) ?_;refine tk 5 (i6 ((min 8 (nn-8*j):Nat):Int)) rfl (rf rfl (λ_=>by go_simp;split<;>omega)) (F4) ?_;refine ta 6 ?_;refine dn ?_;obtain⟨z0,z1,ag⟩:=cZ F4.1 F4.2 UD;have aQ:=(fS (n:=nn) (c:=8) ae).2 hlt;have aj:Aak j++[j] <+:Aak (bo nn 8):=by rw[<-Ab5];have:=List.take_prefix (j+1) (Aak (bo nn 8));rw[List.take_range,Nat.min_eq_left ae]at this;exact this
   clear x0 x1 PF F4;have SL:∀W,(Aav 88 (sq b off nn cap) (some (i6 (8*(j:Int)))) (some (i6 (8*(j:Int)+((min 8 (nn-8*j):Nat):Int)))) (some (i6 (8*(j:Int)+((min 8 (nn-8*j):Nat):Int))))).run Aag W=.ok (gJ 3 b off nn 8 j) W:=λW=>by
    rw[run_slice_lhm W 88 (some ⟨b,off,none⟩) nn cap al .i64 .i64 .i64 (8*(j:Int)) (8*(j:Int)+((min 8 (nn-8*j):Nat):Int)) (8*(j:Int)+((min 8 (nn-8*j):Nat):Int)) ae ae ae ae];have e1:(8*(j:Int)).toNat=8*j:=ae
    have e2:(8*(j:Int)+((min 8 (nn-8*j):Nat):Int)).toNat=8*j+min 8 (nn-8*j):=ae
    rw[show(sizeOf (prog.elem 88)).run Aag W=.ok 3 W from al];exact Nw
   obtain⟨mm,hmm⟩:=bE (min 8 (nn-8*j));rw[<-hmm]at SL;have bL:1<=mm/\mm<=8:=ae
   exact Va
  ·have aQ:¬j<bo nn 8:=λh=>hlt ((fS ae).1 h);obtain rfl:j=bo nn 8:=by omega
   have b2:(8*((bo nn 8:Nat):Int)<(nn:Int))=False:=ab
   clear hY;gi_wp2;go_end0;exact⟨⟨_,rfl⟩,.inl ⟨_,rfl,HJ⟩⟩
theorem Ez(n:Nat)(hn:1<=n)(Bs b off nn cap:Nat)(aa:nn<=1000000)(aS:nn<=cap)(w:af)(ag:Bs+1<w.heap.size)(au:w.cell? (ad Bs 0)=some (sq b off nn cap))(ai:w.cell? (ad (Bs+1) 0)=some (i6 8)):SeqStopsK Abv n Aag 297 #[pz Bs,pz (Bs+1)] (λx:sg (bo nn 8)=>#[gJ 3 b off nn 8 x.1]) (c' (oL Bs)) (λys=>ys.map (·.1)=Aak (bo nn 8)) (λpre=>pre.map (·.1) <+:Aak (bo nn 8)) (bo nn 8) w:=λl' J Jx W hW hJ _ hY h0=>by
 refine(J3 n hn l' Bs b off nn cap aa aS (λpre W=>∃ps:List (sg (bo nn 8)),ps.map (·.1)=pre/\J ps W) (λpre W=>∃ps:List (sg (bo nn 8)),ps.map (·.1)=pre/\Jx ps W) W (λs A B row hs hg hr=>FT) ?_ ((hW.cell (p:=⟨Bs,0,none⟩) (show Bs<_ from ae)).trans au) ((hW.cell (p:=⟨Bs+1,0,none⟩) ag).trans ai) ⟨[],rfl,h0⟩).mono ?_
 ·exact Nb
 ·exact zz
end
def lZ(n b:Nat):Nat:=(n+b-1)/b
theorem xe{n b:Nat}(hb:0<b)(h:1<=n):1<=lZ n b:=by unfold lZ;exact(Nat.le_div_iff_mul_le hb).2 ae
theorem Hi{s:Nat}(h:1<s):lZ s 8<s:=by grind [lZ]
def mf(s:Nat):List Nat:=if h:s<=1 then [] else lZ s 8::mf (lZ s 8)
termination_by s
decreasing_by exact Hi ae
theorem hx{s:Nat}(h:s<=1):mf s=[]:=by grind [mf]
theorem kC{s:Nat}(h:1<s):mf s=lZ s 8::mf (lZ s 8):=by grind [mf]
def eG(n:Nat):List Nat:=if 1<=n/\n<=65535 then lZ n 128::mf (lZ n 128)else []
def dN(n:Nat):Nat:=(eG n).sum
theorem Bc:∀(k s:Nat),s<=8 ^ k->κ (mf s)<=k/\(mf s).sum<=s
 | 0,s,h=>by
  have:s<=1:=jR
  rw[hx this];simp
 | k+1,s,h=>by
  by_cases h1:s<=1
  ·rw[hx h1];simp
  ·have h8:lZ s 8<=8 ^ k:=by
    unfold lZ;have:8 ^ (k+1)=8*8 ^ k:=by rw[yT];omega
    omega
   obtain⟨a,b⟩:=Bc k (lZ s 8) h8;rw[kC ae];simp only[Aaj,Ace];refine⟨ae,?_⟩;unfold lZ at *;omega
theorem jw(n:Nat):κ (eG n)<=4/\(eG n).sum<=1024:=by
 unfold eG;split
 ·rename_i h;have h1:lZ n 128<=8 ^ 3:=by grind [lZ]
  obtain⟨a,b⟩:=Bc 3 _ h1;simp;omega
 ·simp
theorem aaJ(w:af)(n b:Nat)(hb:1<=b)(hn:n<=1000000)(hb2:b<=1000):Aae Aag 234 #[i6 (n:Int),i6 (b:Int)] w λe w'=>e=.returned (i6 ((lZ n b:Nat):Int))/\w'=w:=by
 have e1:((n:Int)+(b:Int)-1).tdiv (b:Int)=((lZ n b:Nat):Int):=by unfold lZ;grind
 have b0:((b:Int)=0)=False:=ab
 have E1:=an e1;have hq:(lZ n b:Int)<=1000000+1000:=by have:lZ n b<=n+b-1:=Nat.div_le_self _ _;omega
 go_in;exact e3
theorem Ba(w:af)(n:Nat)(hn:n<=1000000):Aae Aag 173 #[.int .i64 (n:Int)] w λe w'=>∃v,e=.returned v/\Own bC 3 w' w.heap.size v ((eG n).map (λk:Nat=>(k:Int)))/\Up w w':=by
 have UA:=an (λW (a b:Nat) (h1:1<=b) (h2:a<=1000000) (h3:b<=1000)=>aaJ W a b h1 h2 h3);by_cases h1:n<1
 ·have HL:=an (show eG n=[] by unfold eG;rw[aY ae]);have b1:((n:Int)<1)=True:=by simp;omega
  exact Nx
 have b1:((n:Int)<1)=False:=ab
 by_cases h2:n<=65535
 case neg=>
  have HL:=an (show eG n=[] by unfold eG;rw[aY ae]);have b2:((n:Int)>65535)=True:=ab
  exact Nx
 have b2:((n:Int)>65535)=False:=ab
 have aS:=xe (b:=128) ae (show 1<=n from ae);have aJ:lZ n 128<=512:=by unfold lZ;omega
 obtain⟨HL,C1,IN,U1⟩:=bW (show eG n=lZ n 128::mf (lZ n 128)by unfold eG;rw[bI ae]) (UA w n 128 ae ae ae) (show Own bC 3 (w.alloc (.cells #[.int .i64 ((lZ n 128:Nat):Int)] 3)) w.heap.size (.slice (some ⟨w.heap.size,0,none⟩) 1 1) [((lZ n 128:Nat):Int)] from yZ (base:=w.heap.size) (e:=3) (size:=1) w #[.int .i64 ((lZ n 128:Nat):Int)] 1 (aE _) dK rfl) (ai w (.cells #[.int .i64 ((lZ n 128:Nat):Int)] 3));generalize lZ n 128=s0 at *;go_in;go_wp2_with fail;refine C1.mono ?_;rintro e w1⟨rfl,rfl⟩;go_wp2_with fail;obtain⟨w9,ar⟩:=bE (w1);go_loopw [3,4] (λs v wr=>∃k:Nat,∃pre:List Int,1<=k/\k<=512/\s=.int .i64 k/\(κ pre)+k<=1024/\pre++(mf k).map (λk:Nat=>(k:Int))=(eG n).map (λk:Nat=>(k:Int))/\Own bC 3 wr w1.heap.size v pre/\Up w1 wr) (λs _ _=>(Aau s).toNat)
 case atStart=>exact⟨s0,[(s0:Int)],aS,aJ,rfl,ab,by rw[HL.out];rfl,IN,U1⟩
 case round=>
  obtain⟨k,pre,aj,ao,rfl,aK,ad,hown,upr⟩:=hrel;obtain⟨HOWN,aa,HU⟩:=aV hown ad upr;clear hown ad upr IN U1 ar;by_cases hlt:1<k
  ·have b3:((k:Int)>1)=True:=by simp;omega
   have C2:=an (UA wr k 8 ae ae ae);have ah:=Hi hlt;have ag:=xe (b:=8) ae aj;have LM:=an (kC hlt);generalize lZ k 8=k8 at *;obtain⟨va,vc,rfl⟩:=(Own.cu HOWN).slice;have U8:=an (ai wr (.cells #[.int .i64 (k8:Int)] 3));obtain⟨O8,IN,UU⟩:=aV (HOWN.up U8) (aD.ew (f:=bC) wr wr.heap.size rfl #[.int .i64 (k8:Int)] 3 (0,0) [(k8:Int)] 1 rfl dK rfl) (HU.trans U8);go_wp2_with fail;refine C2.mono ?_;rintro e w2⟨rfl,rfl⟩;go_wp2_with(at_builtin;refine bu bC qm rfl (.tmp 19) (.tmp 21) 41 rfl w1.heap.size 3 (.int .i64 0) 8 underlying41 rp rfl _ pre rfl O8 _ [(k8:Int)] rfl IN ab ab UU.size ?_);intro v9 w9 aA ax aB;obtain⟨U9,O9⟩:=aw (UU.aG aB (aE _)) aA;clear aA ax aB;go_wp2_with fail;go_roundw
   case rel=>exact⟨k8,pre++[(k8:Int)],ag,ae,rfl,ab,by rw[<-aa.out,LM.out];simp,O9,U9⟩
   case measure=>simp[Aau];omega
  ·obtain rfl:k=1:=by omega
   have b3:(((1:Nat):Int)>1)=False:=aq
   have HA:=aa.out;rw[hx (aE _)]at HA;simp only[List.map_nil,Ab1]at HA;have HP:=an HA;clear HA;go_wp2_with fail;go_ret;exact⟨_,rfl,by rw[<-HP.out];exact HOWN,HU⟩
theorem vu(w:af)(n:Nat)(hn:n<=1000000):Aae Aag 256 #[.int .i64 (n:Int)] w λe w'=>e=.returned (.int .i64 (dN n:Int))/\Up w w':=by
 have L:=an (Ba w n hn);obtain⟨B1,B2⟩:=jw n;have HN:=an (show dN n=(eG n).sum from rfl);generalize eG n=l at *;go_in;go_wp2_with fail;refine L.mono ?_;rintro e w1⟨v,rfl,ow,up⟩;obtain⟨OW,U1⟩:=aw ow up;obtain⟨va,vc,rfl⟩:=ow.cu.slice;clear ow up;have aS:κ (l.map (λk:Nat=>(k:Int)))=κ l:=aq
 rw[aS];go_wp2_with fail;go_loopw [3,9] (λs i wr=>∃k:Nat,k<=κ l/\i=.int .i64 k/\s=.int .i64 ((l.take k).sum:Nat)/\wr=w1) (λ_ i _=>κ l-(Aau i).toNat)
 case atStart=>exact⟨0,bT _,rfl,rfl,rfl⟩
 case round=>
  obtain⟨k,hk,rfl,rfl,rfl⟩:=hrel;by_cases hlt:k<κ l
  ·obtain⟨b,off,aP,hbs,hc⟩:=cg (Own.cu OW) rfl (by simpa using Nat.lt_of_le_of_lt (bT _) hlt);have x0:=hc k (by simpa using hlt);rw[List.getElem_map]at x0;refine vk ?_;intro b3;have SU:(l.take (k+1)).sum=(l.take k).sum+l[k]:=by rw[et hlt,wO];simp only[Ace,Ac5];omega
   have SL:(l.take (k+1)).sum<=1024:=by
    have:=fQ (k+1) l;have h2:l.sum=(l.take (k+1)).sum+(l.drop (k+1)).sum:=by rw[<-wO,this]
    omega
   have aa:=an SU;rw[SU]at SL;generalize l[k]=y at *;generalize(l.take k).sum=sm at *;unfold bC at x0;subst aP;clear hc SU;go_wp2_with fail;go_roundw
   case rel=>exact⟨k+1,ae,aq,by rw[aa.out];go_num,trivial⟩
   case measure=>simp[Aau];omega
  ·obtain rfl:k=κ l:=by omega
   have HT:=an (show(l.take (κ l)).sum=l.sum by rw[dq (aE _)]);go_wp2_with fail;go_ret;exact⟨by rw[HN.out,<-HT.out];rfl,U1⟩
section
variable {w w':af} {H:aR} {P:bq}
def mU(w:af)(k:Nat):Prop:=∃C t fr,w.heap[k]?=some (.cells C t fr)
def aF.cellsOf{g:Nat}{t:Aab}{C:Array ah}(h:aF w g t C):mU w g:=⟨_,_,_,h⟩
theorem nC{α:Type}{f:α->List ah}{k:Nat}{e:Aab}{base:Nat}{v:ah}{xs:List α}(h:ak f k e w base v xs){b:Nat}(hb:v.ownBlock=some b):mU w b:=by
 obtain⟨_,h2⟩:=h;rcases h2 with⟨h3,_⟩|⟨g,cap,cur,h3,_,h5,_⟩
 ·rw[h3]at hb;cases hb
 ·rw[h3]at hb;simp only[Aan,Aai]at hb;subst hb;exact⟨_,_,_,h5⟩
theorem PA.cellsOf(A:PA w H P){k:Nat}(h:PF H k):mU w k:=by
 rcases h with rfl|rfl|hf
 ·exact A.fg.cellsOf
 ·obtain⟨C,h1,_⟩:=A.map;exact h1.cellsOf
 ·obtain⟨v,d,_⟩:=A.dev;rcases hf with rfl|rfl|rfl|e
  ·exact d.dev.cellsOf
  ·exact d.b1.cellsOf
  ·exact d.b2.cellsOf
  ·exact nC d.bQ e
theorem Touch.others{F:Nat->Prop}(T:Touch F w w')(hF:∀k,F k->mU w k):KeepsOthers w w':=⟨T.size,λk o hk ho=>by
 rw[T.block k ((qv.1 hk).1) (λhf=>?_)]
 ·exact hk
 ·obtain⟨C,t,fr,h⟩:=hF k hf;rw[h]at hk;cases hk;cases ho⟩
theorem Touch.wz{F:Nat->Prop}{p:Nat->Aab->Prop}(T:Touch F w w')(hF:∀b t,p b t->¬F b):c' p w w':=λb cs t fr hb hp=>by rw[T.block b (qv.1 hb).1 (hF b t hp)];exact hb
def zX(w:af)(B:Nat)(row:Option Nat):Prop:=∀r,row=some r->B<=r/\∃o:Obj,w.heap[r]?=some o/\o.isCells=false
theorem mU.ne{k B:Nat}{row:Option Nat}(h:mU w k)(hr:zX w B row):row≠some k:=λe=>by obtain⟨o,h1,h2⟩:=(hr k e).2;obtain⟨C,t,fr,h⟩:=h;rw[h]at h1;cases h1;cases h2
def PA.H'{B:Nat}{row:Option Nat}(A:PA w H P)(hg:w.grownBy w' row)(hr:zX w B row):PA w' H P:=A.ax (F:=λk=>row=some k) (Touch.bg hg (λk hk=>hk)) (λb hb e=>(A.cellsOf hb).ne hr e)
end
def bV(P:bq):List (Nat × cS)->bq
 | []=>P
 | (i,s)::l=>bV {P with C:=P.C.set i s,m:=P.m+1,fl:=false} l
theorem sE(P:bq)(l:List (Nat × cS))(i:Nat)(s:cS):bV P (l++[(i,s)])={bV P l with C:=(bV P l).C.set i s,m:=(bV P l).m+1,fl:=false}:=by
 induction l generalizing P with
 | nil=>rfl
 | cons x l ih=>obtain⟨j,u⟩:=x;exact ih _
theorem gp(P:bq)(l:List (Nat × cS)):(bV P l).s=P.s/\(bV P l).st=P.st/\(bV P l).ba=P.ba/\(bV P l).m=P.m+κ l/\(κ (bV P l).C)=κ P.C:=by
 induction l generalizing P with
 | nil=>exact⟨rfl,rfl,rfl,rfl,rfl⟩
 | cons x l ih=>grind [bV]
def ar(st:Nat)(x:Nat × cS):au:=⟨x.1,st,dQ x.2⟩
def nD(b:List aj)(j:Nat):List aj:=(b.drop (128*j)).take 128
theorem vw(b:List aj)(j:Nat):κ (nD b j)<=128:=by grind [nD]
def dB(b:List aj)(j:Nat):cS:=eS (nD b j) (vw b j)
theorem HK{b:List aj}(h:a8 w (sq g off (κ b) cap) b)(j:Nat)(hj:128*j<κ b):a8 w (gJ 1 g off (κ b) 128 j) (nD b j):=by
 rcases h with⟨h0,_⟩|⟨g',aC,al,hv,h0,hl,hm,hc⟩
 ·simp_all
 ·simp only[Abg,Aai,Abq]at hv;obtain⟨⟨rfl,ab,_⟩,_,rfl⟩:=hv;have hlen:κ (nD b j)=min 128 (κ b-128*j):=by simp[nD]
  refine .inr ⟨g,off+(128*j)*1,min 128 (κ b-128*j),by grind [gJ],ae,ae,ae,λi hi=>?_⟩;grind [nD]
section
open Go.Shelf
attribute [local go_sem] kI
def gj(ats:List Nat)(b:List aj)(pre:List Nat):List (Nat × cS):=(ats.take (κ pre)).zip (pre.map (dB b))
theorem sA{ats:List Nat}{b:List aj}{pre:List Nat}(h:κ pre<=κ ats):κ (gj ats b pre)=κ pre:=by grind [gj]
theorem Ii{ats:List Nat}{b:List aj}{pre:List Nat}(x:Nat)(h:κ pre<κ ats):gj ats b (pre++[x])=gj ats b pre++[(ats[κ pre],dB b x)]:=by unfold gj;exact Ox
theorem Wt(w:af)(t1 t2 t3 t4 t5 t6 t7:Aab)(A1 A2 A3 A4 A5 A6 A7:Array ah):let W:=((((((w.alloc (.cells A1 t1)).alloc (.cells A2 t2)).alloc (.cells A3 t3)).alloc (.cells A4 t4)).alloc (.cells A5 t5)).alloc (.cells A6 t6)).alloc (.cells A7 t7);Up w W/\aF W w.heap.size t1 A1/\aF W (w.heap.size+1) t2 A2/\aF W (w.heap.size+1+1) t3 A3/\aF W (w.heap.size+1+1+1) t4 A4/\aF W (w.heap.size+1+1+1+1) t5 A5/\aF W (w.heap.size+1+1+1+1+1) t6 A6/\aF W (w.heap.size+1+1+1+1+1+1) t7 A7:=by
 intro W;have b1:=aF.new w t1 A1;obtain⟨w1,ay⟩:=bE (w.alloc (.cells A1 t1));have s1:w1.heap.size=w.heap.size+1:=by rw[ay,aN]
 have b2:=aF.newAt w1 _ s1.symm t2 A2;obtain⟨w2,hw2⟩:=bE (w1.alloc (.cells A2 t2));have s2:w2.heap.size=w.heap.size+1+1:=by rw[hw2,aN,s1]
 have b3:=aF.newAt w2 _ s2.symm t3 A3;obtain⟨w3,aa⟩:=bE (w2.alloc (.cells A3 t3));have s3:w3.heap.size=w.heap.size+1+1+1:=by rw[aa,aN,s2]
 have b4:=aF.newAt w3 _ s3.symm t4 A4;obtain⟨w4,hw4⟩:=bE (w3.alloc (.cells A4 t4));have s4:w4.heap.size=w.heap.size+1+1+1+1:=by rw[hw4,aN,s3]
 have b5:=aF.newAt w4 _ s4.symm t5 A5;obtain⟨w5,aO⟩:=bE (w4.alloc (.cells A5 t5));have s5:w5.heap.size=w.heap.size+1+1+1+1+1:=by rw[aO,aN,s4]
 have b6:=aF.newAt w5 _ s5.symm t6 A6;obtain⟨w6,ab⟩:=bE (w5.alloc (.cells A6 t6));have s6:w6.heap.size=w.heap.size+1+1+1+1+1+1:=by rw[ab,aN,s5]
 have hW:W=w6.alloc (.cells A7 t7):=by rw[ab,aO,hw4,aa,hw2,ay]
 rw[hW];have u1:Up w w1:=by rw[ay];exact ai _ _
 have u2:Up w1 w2:=by rw[hw2];exact ai _ _
 have u3:Up w2 w3:=by rw[aa];exact ai _ _
 have u4:Up w3 w4:=by rw[hw4];exact ai _ _
 have u5:Up w4 w5:=by rw[aO];exact ai _ _
 have u6:Up w5 w6:=by rw[ab];exact ai _ _
 have u7:=ai w6 (.cells A7 t7);rw[<-ay]at b1;rw[<-hw2]at b2;rw[<-aa]at b3;rw[<-hw4]at b4;rw[<-aO]at b5;rw[<-ab]at b6;exact⟨(((((u1.trans u2).trans u3).trans u4).trans u5).trans u6).trans u7,(((((b1.up u2).up u3).up u4).up u5).up u6).up u7,((((b2.up u3).up u4).up u5).up u6).up u7,(((b3.up u4).up u5).up u6).up u7,((b4.up u5).up u6).up u7,(b5.up u6).up u7,b6.up u7,(aF.newAt w6 _ s6.symm t7 A7)⟩
structure iN(tc:Aab)(cn:Int)(w:af)(H:aR)(P:bq)(va vb:ah)(its:List (Nat × cS))(outs:List au)(vp ab:ah)(W:af):Prop where
 ht:vA tc=false/\tc≠87
 pa:PA W (H.at vp) (bV P its)
 t:Touch (PF H) w W
 o:∀k,vp.ownBlock=some k->H.h.vp.ownBlock=some k\/w.heap.size<=k
 x3:aF W w.heap.size 94 #[.pointer (some ⟨H.pb,0,none⟩)]
 x5:aF W (w.heap.size+1) 41 #[va]
 x6:aF W (w.heap.size+1+1) 88 #[.slice none 0 0]
 x7:aF W (w.heap.size+1+1+1) 50 #[.int .i64 0]
 x8:aF W (w.heap.size+1+1+1+1) 88 #[ab]
 c1:aF W (w.heap.size+1+1+1+1+1) tc #[vb]
 c2:aF W (w.heap.size+1+1+1+1+1+1) 3 #[.int .i64 cn]
 ov:bf W w.heap.size ab outs
def iN.up{tc:Aab}{cn:Int}{w:af}{H:aR}{P:bq}{va vb:ah}{its:List (Nat × cS)}{outs:List au}{vp ab:ah}{W W':af}(J:iN tc cn w H P va vb its outs vp ab W)(u:Up W W'):iN tc cn w H P va vb its outs vp ab W':=⟨J.ht,J.pa.up u,J.t.iZ u,J.o,J.x3.up u,J.x5.up u,J.x6.up u,J.x7.up u,J.x8.up u,J.c1.up u,J.c2.up u,J.ov.up u⟩
theorem iN.put{tc:Aab}{cn:Int}{w:af}{H:aR}{P:bq}{va vb:ah}{its ae:List (Nat × cS)}{outs:List au}{vp ab:ah}{W W':af}(J:iN tc cn w H P va vb its outs vp ab W)(D:PT W (H.at vp) (bV P ae) W'):(∃aa,iN tc cn w H P va vb ae outs aa ab W')/\Touch (PF (H.at vp)) W W':=by
 have⟨bl,A1,T1,O1⟩:=D;obtain⟨ao,A2,T2,O2⟩:=PT.then J.t J.o D;have no:∀{g:Nat}{t:Aab}{C:Array ah},aF W g t C->vA t=false->¬PF (H.at vp) g:=λh1 h2=>J.pa.cc h1 h2;exact⟨⟨ao,J.ht,A2,T2,O2,J.x3.ax T1 (no J.x3 av),J.x5.ax T1 (no J.x5 av),J.x6.ax T1 (no J.x6 av),J.x7.ax T1 (no J.x7 av),J.x8.ax T1 (no J.x8 av),J.c1.ax T1 (no J.c1 J.ht.1),J.c2.ax T1 (no J.c2 av),
  ak.ax J.ov T1 (λk hk=>by
   obtain⟨_,h2⟩:=J.ov
   rcases h2 with⟨h3,_⟩|⟨g,cap,cur,h3,_,h5,_⟩
   ·
    rw[h3]at hk;cases hk
   ·
    rw[h3]at hk
    simp only[Aan,Aai]at hk
    subst hk
    exact J.pa.cc (t:=87) (C:=cur) h5 av)⟩,T1⟩
theorem iN.grow{tc:Aab}{cn:Int}{w:af}{H:aR}{P:bq}{va vb:ah}{its:List (Nat × cS)}{outs:List au}{vp ab:ah}{W W':af}(J:iN tc cn w H P va vb its outs vp ab W){g:Nat}(hg:W.grownBy W' (some g))(hn:¬PF (H.at vp) g)(h0:w.heap.size+7<=g)(hv:ab.ownBlock≠some g):iN tc cn w H P va vb its outs vp ab W':=⟨J.ht,J.pa.grown hg hn,J.t.hp hg (λk hk=>aQ),J.o,J.x3.grown hg (λe=>aQ),J.x5.grown hg (λe=>aa),J.x6.grown hg (λe=>aQ),J.x7.grown hg (λe=>aQ),J.x8.grown hg (λe=>aQ),J.c1.grown hg (λe=>aQ),J.c2.grown hg (λe=>aQ),ak.kept J.ov hg (.inr hv)⟩
theorem iN.push{tc:Aab}{cn:Int}{w:af}{H:aR}{P:bq}{va vb:ah}{its:List (Nat × cS)}{outs ad:List au}{vp ab v':ah}{W W1:af}(J:iN tc cn w H P va vb its outs vp ab W)(hg:W.grownBy W1 ab.ownBlock)(own:bf W1 w.heap.size v' ad):iN tc cn w H P va vb its ad vp v' (W1.setCell ⟨w.heap.size+1+1+1+1,0,none⟩ v')/\aF W1 (w.heap.size+1+1+1+1) 88 #[ab]/\KeepsOthers W W1:=by
 have ne:∀{b:Nat}{t:Aab}{C:Array ah},aF W b t C->t≠87->ab.ownBlock≠some b:=λh1 h2=>jm h2 h1 J.ov;have y8:=J.x8.grown hg (ne J.x8 av);have g2:=bZ y8 0 v';have A1:PA W1 (H.at vp) (bV P its):=J.pa.ax (F:=λk=>ab.ownBlock=some k) (Touch.bg hg (λk hk=>hk)) (λk hk e=>by
  obtain⟨_,h2⟩:=J.ov;rcases h2 with⟨h3,_⟩|⟨g,cap,cur,h3,_,h5,_⟩
  ·rw[h3]at e;cases e
  ·rw[h3]at e;simp only[Aan,Aai]at e;subst e;exact J.pa.cc (t:=87) (C:=cur) h5 av hk)
 refine⟨⟨J.ht,A1.grown g2 (A1.cc y8 av),(J.t.hp hg (λk hk=>(J.ov.aJ k hk).1)).hp g2 (λk hk=>aQ),J.o,?_,?_,?_,?_,?_,?_,?_,?_⟩,y8,?_⟩
 ·exact(J.x3.grown hg (ne J.x3 av)).grown g2 (λe=>aQ)
 ·exact(J.x5.grown hg (ne J.x5 av)).grown g2 (λe=>aQ)
 ·exact(J.x6.grown hg (ne J.x6 av)).grown g2 (λe=>aQ)
 ·exact(J.x7.grown hg (ne J.x7 av)).grown g2 (λe=>aa)
 ·exact y8.setCell 0 v'
 ·exact(J.c1.grown hg (ne J.c1 J.ht.2)).grown g2 (λe=>aa)
 ·exact(J.c2.grown hg (ne J.c2 av)).grown g2 (λe=>aa)
 ·exact ak.kept own g2 (.inr (jm av y8 own))
 ·exact Ado hg (λj o e h=>by obtain⟨C,t,fr,hc⟩:=nC J.ov e;rw[hc]at h;cases h;rfl)
theorem iN.wz{tc:Aab}{cn:Int}{w:af}{H H':aR}{P P':bq}{va vb:ah}{its ae:List (Nat × cS)}{outs ad:List au}{vp ab aa ag:ah}{W W':af}(J:iN tc cn w H P va vb its outs vp ab W)(J':iN tc cn w H' P' va vb ae ad aa ag W'):c' (oL (w.heap.size+1+1+1+1+1)) W W':=λb cs t fr hb hp=>by
 rcases hp with rfl|rfl
 ·rw[<-hb,show W.heap[_]?=_ from J.c1];exact J'.c1
 ·rw[<-hb,show W.heap[_]?=_ from J.c2];exact J'.c2
theorem iN.fin{tc:Aab}{cn:Int}{w:af}{H:aR}{P:bq}{va vb:ah}{its:List (Nat × cS)}{outs:List au}{vp ab:ah}{W:af}(J:iN tc cn w H P va vb its outs vp ab W)(v6 v7:ah)(D:Nat)(hD:w.heap.size<=D)(hK:W.heap[D]?=some (.deferred (some []))):let W1:=(W.setCell ⟨w.heap.size+1+1,0,none⟩ v6).setCell ⟨w.heap.size+1+1+1,0,none⟩ v7;W1.heap[D]?=some (.deferred (some []))/\(W1.putObj D (.deferred none)).cell? (ad (w.heap.size+1+1) 0)=some v6/\(W1.putObj D (.deferred none)).cell? (ad (w.heap.size+1+1+1) 0)=some v7/\bf (W1.putObj D (.deferred none)) w.heap.size ab outs/\PT w H (bV P its) (W1.putObj D (.deferred none)):=by
 intro W1;have g1:=bZ J.x6 0 v6;have y6:aF (W.setCell ⟨w.heap.size+1+1,0,none⟩ v6) (w.heap.size+1+1) 88 #[v6]:=J.x6.setCell 0 v6;have y7:=J.x7.grown g1 (λe=>by have:=dE e;omega);obtain⟨g2,z7⟩:=az (bZ y7 0 v7) (y7.setCell 0 v7);have z6:=y6.grown g2 (λe=>by have:=dE e;omega);have A1:=J.pa.grown g1 (J.pa.cc J.x6 av);have o1:=ak.kept J.ov g1 (.inr (jm av J.x6 J.ov));have o2:=ak.kept o1 g2 (.inr (jm av y7 o1));have aq:W1.heap[D]?=some (.deferred (some [])):=((qz W _ _).trans (qz _ _ _)).same D _ hK rfl;have g3:=y3 W1 D (.deferred none);have hr:zX W1 w.heap.size (some D):=λr e=>by cases e;exact⟨hD,_,aq,rfl⟩
 exact⟨aq,((z6.grown g3 (z6.cellsOf.ne hr)).cell 0),((z7.grown g3 (z7.cellsOf.ne hr)).cell 0),ak.kept o2 g3 (by
  cases hv:ab.ownBlock with
  | none=>exact .inl rfl
  | some k=>exact .inr (λe=>(nC o2 hv).ne hr e.symm)),vp,(A1.grown g2 (A1.cc y7 av)).H' g3 hr,((J.t.hp g1 (λk hk=>by cases hk;omega)).hp g2 (λk hk=>by cases hk;omega)).hp g3 (λk hk=>by cases hk;exact hD),J.o⟩
def r8{W W':af}(u:Up W W'):KeepsOthers W W':=(Touch.bP (F:=λ_=>False) u).others (λ_ h=>h.elim)
theorem jJ{W W':af}{g:Nat}(hg:W.grownBy W' (some g))(hc:mU W g):KeepsOthers W W':=Ado hg (λj o e h=>by cases e;obtain⟨C,t,fr,hc⟩:=hc;rw[hc]at h;cases h;rfl)
def SU(tc:Aab)(cn:Int)(w:af)(H:aR)(P:bq)(va vb:ah)(its:List (Nat × cS))(W:af):Prop:=∃vp ab,iN tc cn w H P va vb its (its.map (ar P.st)) vp ab W
section
variable {F:Fence} {n:Nat} {P:bp} {ops:Array Abn} {a:Act} {w:af} {Q:Exit->Act->af->Prop} {rest:List Abn} {dst:Option Tmp} {type:Aab} {pos:String} {after:Array Edge} {guard:Option (Nat × Bool)}
def yH(ty:TypeId)(x:bU)(h:wpListIn F n P ops Q ({dst:=dst,op:=.load ty x,type:=type,pos:=pos,after:=after,guard:=guard}::rest) a w):wpListIn F n P ops Q ({dst:=dst,op:=.load ty x,type:=type,pos:=pos,after:=after,guard:=guard}::rest) a w:=h
def nk{l:Nat}(ay:¬LetsOut Q){os:List Abn}(hd:rR os.toArray=true)(h:Hid (Aal P ops Q os a w)):wpListIn (Fence.wide.inRound l) n P ops Q os a w:=EY ay os a w (IG hd) h
end
theorem Eh(tc:Aab)(cn:Int)(w:af)(H:aR)(P:bq)(va vb:ah)(f:List α->List (Nat × cS))(B:Nat)(hB:w.heap.size<=B):OwnFrom B (λpre W=>SU tc cn w H P va vb (f pre) W):=by
 rintro pre W W' row⟨vp,ab,⟨ht,A,T,O,X3,X5,X6,X7,X8,C1,C2,OV⟩⟩hg hr;exact⟨vp,ab,ht,A.H' hg hr,T.hp hg (λk hk=>bK hB (hr k hk).1),O,X3.grown hg (X3.cellsOf.ne hr),X5.grown hg (X5.cellsOf.ne hr),X6.grown hg (X6.cellsOf.ne hr),X7.grown hg (X7.cellsOf.ne hr),X8.grown hg (X8.cellsOf.ne hr),C1.grown hg (C1.cellsOf.ne hr),C2.grown hg (C2.cellsOf.ne hr),
  ak.kept OV hg (by
   cases hv:ab.ownBlock with
   | none=>exact .inl rfl
   | some k=>exact .inr (λe=>(nC OV hv).ne hr e.symm))⟩
theorem G0(w:af)(H:aR)(P:bq)(A:PA w H P)(vb:ah)(b:List aj)(hb:a8 w vb b)(aW:∀k,vb.ownBlock=some k->¬PF H k)(h1:1<=κ b)(aB:κ b<=65535)(va:ah)(ats:List Nat)(ha:aD bC w va (ats.map (λk:Nat=>(k:Int))))(han:∀k,va.ownBlock=some k->¬PF H k)(aT:bo (κ b) 128<=κ ats)(has:∀i∈ats,i<1024/\P.s i=2/\i<κ P.C)(hm:P.m+1024<=900000):Aae Aag 278 #[pz H.pb,vb,va] w λe w'=>∃v,e=rt #[v,i6 0]/\
  bf w' w.heap.size v ((gj ats b (Aak (bo (κ b) 128))).map (ar P.st))/\PT w H (bV P (gj ats b (Aak (bo (κ b) 128)))) w':=by
 obtain⟨ba,bc,rfl⟩:=hb.slice;obtain⟨aa,ac,rfl⟩:=ha.slice;rw[Aac]at ha han ⊢;refine(fG (n:=6)).1 ?_;have bg:1<=6:=ae
 refine oZ func278 rfl trivial ?_ rfl;simp only[ntmps278,Abh,Aaj,Aa4,Nat.reduceAdd,Nat.reduceSub,Aa6,Aa7,Abj,Aba,Aaz,Aa2];gi_wp2_with(refine⟨trivial,?_⟩;gi_at_call 290;refine(fG.2 ((λW=>J2 W ba (κ b) bc) _)).mono ?_;rintro e w' ⟨rfl,rfl⟩);obtain⟨g,off,rfl,bd,_⟩:=cg hb rfl h1;obtain⟨U0,X3,X5,X6,X7,X8,C1,C2⟩:=Wt w 94 41 88 50 88 30 3 #[pz H.pb] #[.slice aa (κ ats) ac] #[nl] #[i6 0] #[nl] #[sq g off (κ b) bc] #[i6 128];obtain⟨w0,ay⟩:=bE (((((((w.alloc (.cells #[pz H.pb] 94)).alloc (.cells #[.slice aa (κ ats) ac] 41)).alloc (.cells #[nl] 88)).alloc (.cells #[i6 0] 50)).alloc (.cells #[nl] 88)).alloc (.cells #[sq g off (κ b) bc] 30)).alloc (.cells #[i6 128] 3));rw[<-ay]at U0 X3 X5 X6 X7 X8 C1 C2;rw[<-ay];clear ay;have aQ:bo (κ b) 128<=512:=Br
 have aS:κ b<=bc:=mj hb;have HA0:=A;refine Fp (F:=Abv) rfl bg (gf:=296) (lb:=#[pz (w.heap.size+1+1+1+1+1),pz (w.heap.size+1+1+1+1+1+1)]) rfl trivial (enters_of func296 al rfl) (Ey 5 ae (w.heap.size+1+1+1+1+1) g off (κ b) bc ae aS w0 C2.lt (C1.cell 0) (C2.cell 0)) c'.trans jM (e6 _ _) (λ_=>rfl) (λpre W=>SU 30 128 w H P (.slice aa (κ ats) ac) (sq g off (κ b) bc) (gj ats b (pre.map (·.1))) W) (λ_ _ _=>False) (Eh 30 128 w H P _ _ (λpre:List (sg (bo (κ b) 128))=>gj ats b (pre.map (·.1))) _ U0.size) (λ_ _ _ _ _ hs _ _=>hs) ⟨H.h.vp,nl,⟨av,av⟩,A.up U0,Touch.bP U0,λ_ h=>.inl h,X3,X5,X6,X7,X8,C1,C2,ak.nil _ _ _ _ _⟩ (λx=>{tmps:=#[pz H.pb,sq g off (κ b) bc,.slice aa (κ ats) ac,pz w.heap.size,Aas,pz (w.heap.size+1),pz (w.heap.size+1+1),pz (w.heap.size+1+1+1),pz (w.heap.size+1+1+1+1),gJ 1 g off (κ b) 128 x.1,Aas,Aas,sq g off (κ b) bc,.func (.func 296) #[] #[pz (w.heap.size+1+1+1+1+1),pz (w.heap.size+1+1+1+1+1+1)],gJ 1 g off (κ b) 128 x.1,Aas,Aas,Aas,Aas,Aas,Aas,Aas,Aas,Aas,Aas,Aas,Aas,Aas,Aas,Aas,Aas,Aas,Aas,Aas],defers:=[]}) ?assign ?body ?done ?stop
 case assign=>exact lP
 case stop=>rintro D c pre W _ _ h _;exact h.elim
 case done=>rintro D ys W hD aG⟨vp,ab,J⟩hK;have HJ:=an (show iN 30 128 w H P _ _ (gj ats b (Aak (bo (κ b) 128))) ((gj ats b (Aak (bo (κ b) 128))).map (ar P.st)) vp ab W from by rw[<-aG];exact J);refine Vb ?_;clear aG;intro f6 f7 c8 c6 c7 za zc hz;obtain⟨zn,hzn⟩:=bE (κ ((gj ats b (Aak (bo (κ b) 128))).map (ar P.st)));rw[<-hzn]at hz;clear hzn;subst hz;have FIN:=an (HJ.fin (.slice za zn zc) (i6 0) D (by have:=U0.size;omega) hK);gi_wp2;refine Ny ?_;intro h6 h7;simp[results,Tryz.f278,go_sem,h6,h7]
 case body=>
  rintro l pre x W⟨vp,ab,J⟩hlt;obtain⟨j,hj⟩:=x;have aK:κ pre<κ ats:=ae
  obtain⟨its,ao⟩:=bE (gj ats b (pre.map (·.1)));have IL:κ its=κ pre:=by rw[ao];exact(sA (ats:=ats) (b:=b) (pre:=pre.map (λx=>x.1)) mg).trans (Aac _)
  have SN:gj ats b ((pre++[(⟨j,hj⟩:sg (bo (κ b) 128))]).map (λx=>x.1))=its++[(ats[κ pre],dB b j)]:=by rw[Aar,y6,Ii (b:=b) (pre:=pre.map (λx=>x.1)) j mg,<-ao];simp
  rw[<-ao]at J;clear ao;obtain⟨i1,i2,i3⟩:=has _ (cw aK);have aE:=ha.ax J.t han;obtain⟨ga,offa,rfl,bw,hca⟩:=cg aE FJ mg;refine N5 ?_;intro ca hga;have br:=HK (hb.ax J.t aW) j ((fS ae).1 hj);have bx:¬PF (H.at vp) g:=qJ HA0 J.o bd (aW g rfl);obtain⟨e1,e2,e3,e4,e5⟩:=gp P its;generalize ats[κ pre]=i at *;have aU:=an (show ∀W',iN 30 128 w H P (sq ga offa (κ ats) ac) (sq g off (κ b) bc) its (its.map (ar P.st)) vp ab W'->a8 W' (gJ 1 g off (κ b) 128 j) (nD b j)->Aae Aag 260 #[pz H.pb,i6 (i:Int),gJ 1 g off (κ b) 128 j] W' λe W2=>e=rt #[.agg (be (ar P.st (i,dB b j))),i6 0]/\PT W' (H.at vp) (bV P (its++[(i,dB b j)])) W2 from λW' J' aI=>by rw[sE];refine(tD W' (H.at vp) (bV P its) J'.pa i i1 (by rw[e1];exact i2) (by rw[e5];exact i3) _ (nD b j) aI (vw b j) (by rw[e4,IL];omega)).mono ?_;rintro e W2⟨rfl,D⟩;exact⟨by rw[show ar P.st (i,dB b j)=⟨i,(bV P its).st,dQ (dB b j)⟩ from by rw[e2];rfl];rfl,D⟩)
  obtain⟨JJ,a7,bh⟩:=aV J br SN;obtain⟨vd,vc,hvo⟩:=(ak.row J.ov pw).slice;rw[Aac,IL]at hvo;subst hvo;clear SN e1 e2 e3 e4 e5 i1 i2 i3 hca has;generalize bj:gJ 1 g off (κ b) 128 j=cv at *;clear bj;gi_wp2;refine gT (S:=λW'=>aF W' w.heap.size 94 #[pz H.pb]/\aF W' (w.heap.size+1) 41 #[sq ga offa (κ ats) ac]/\aF W' (w.heap.size+1+1+1+1) 88 #[.slice vd (κ pre) vc]/\W'.cell? (ad ga (offa+κ pre))=some (i6 (i:Int))) al al (λ⟨_,_,h⟩=>h) ?_;change Acp _ _ _ _ _ 14 _ _ (W.drew);have UD:=an (Up.drew (Up.refl W));obtain⟨J4,HB4,CA4,KW⟩:=bW (JJ.up UD) (a7.up UD) (UD.cell ca) (y9 W);generalize hw4:W.drew=w4 at *;refine ON ?_;intro S4;refine tb 0 rfl (yc (λW hS=>hS.1.cell 0)) ?_;refine tb 1 rfl (yc (λW hS=>hS.2.1.cell 0)) ?_;refine tb 2 rfl (yc (λW hS=>hS.2.2.1.cell 0)) ?_;refine ta 3 ?_;refine ta 4 ?_;refine tb 5 rfl (yc (λW hS=>hS.2.2.2)) ?_;refine ta 6 ?_;refine qa 7 11 al rfl rfl rfl rfl ?_ ?_
  ·intro K hK;go_simp;refine(aU w4 J4 HB4).mono ?_;refine Vc ?_;clear hK K;intro w5 D7 bm j7 T7 J5 CA5 K7 S7;refine ta 8 ?_;refine ta 9 ?_;refine vi ?_;obtain⟨IQ,OQ⟩:=aw (ia (ar P.st (i,dB b j))) (jX (ar P.st (i,dB b j)));refine UF ?_;intro G7 GV GL u8 J6 aq B8 K8 S8;generalize w5.alloc (.cells (be hole) 87)=w6 at *;refine ok 12 ?_;intro K hK;refine tf 87 (.tmp 10) (.tmp 24) rfl w5.heap.size (be (ar P.st (i,dB b j))) rfl rfl 87 (be hole) B8 IQ rfl OQ ?_;have g9:=cV w6 w5.heap.size (be (ar P.st (i,dB b j)));obtain⟨B9,J9⟩:=aw (B8.set (be (ar P.st (i,dB b j)))) (J6.grow g9 (J6.pa.cc B8 av) G7 GV);have a6:=an (show(w6.setRow w5.heap.size (be (ar P.st (i,dB b j)))).cell? (ad ga (offa+κ pre))=some (i6 (i:Int))from by have hlt:=uP GL;rw[nN (show(w6.setRow w5.heap.size (be (ar P.st (i,dB b j)))).heap[ga]?=w6.heap[ga]? from g9.block ga (ie w6 _ aq.out) (λe=>hlt (dE e)))];exact aq)
   have K9:=an (jJ g9 B8.cellsOf);obtain⟨KK,S9⟩:=aw ((K7.trans K8).trans K9) (show aF (w6.setRow w5.heap.size (be (ar P.st (i,dB b j)))) w.heap.size 94 #[pz H.pb]/\aF (w6.setRow w5.heap.size (be (ar P.st (i,dB b j)))) (w.heap.size+1) 41 #[sq ga offa (κ ats) ac]/\aF (w6.setRow w5.heap.size (be (ar P.st (i,dB b j)))) (w.heap.size+1+1+1+1) 88 #[.slice vd (κ pre) vc]/\(w6.setRow w5.heap.size (be (ar P.st (i,dB b j)))).cell? (ad ga (offa+κ pre))=some (i6 (i:Int))from⟨J9.x3,J9.x5,J9.x8,a6⟩);refine hK _ _ S9 ?_;refine gC ?_;clear hK K;generalize w6.setRow w5.heap.size (be (ar P.st (i,dB b j)))=w9 at *;refine UQ ?_;intro U10 J10 PR LO n1 n2 c8;gi_wp2_with((with_reducible refine yH 88 (.tmp 8) ?_);refine nk (λ⟨_,_,h⟩=>h) al ?_);refine an ?_;go_wp2_with(first
    | refine arm ?_
    | ((with_reducible refine eo 88 1 _ ?_);refine bS rfl 88 87 (.tmp 30) rfl _ 3 24 (be (ar P.st (i,dB b j))) rfl Aaq cF ae ae rfl ?_)
    | (at_builtin;refine bH pw rfl (.tmp 29) (.tmp 31) 88 rfl w.heap.size 87 _ 24 Aaq cF rfl _ (its.map (ar P.st)) rfl J10.ov _ [(ar P.st (i,dB b j))] rfl PR n1 n2 J10.t.size ?_))
   intro v11 w11 own11 gr11 bb;obtain⟨za,zc,hz⟩:=(ak.row own11 pw).slice;obtain⟨zn,hzn⟩:=bE (κ (its.map (ar P.st)++[(ar P.st (i,dB b j))]));exact UM
  ·intro K hK;obtain⟨IQ,OQ⟩:=aw (ia (ar P.st (i,dB b j))) (jX (ar P.st (i,dB b j)));refine UH ?_;clear hK K;intro G7 GV GL aX u8 J5 CA5 B8 K8 S8;generalize w4.alloc (.cells (be hole) 87)=w5 at *;refine ok 7 ?_;intro K hK;go_simp;refine(aU w5 J5 aX).mono ?_;refine UI ?_;clear hK K;intro w6 D7 bm j7 T7 J6 aq K7 B8 S7;refine bA ?_;refine ta 9 ?_;refine bA ?_;refine vi ?_;refine ok 12 ?_;intro K hK;refine tf 87 (.tmp 10) (.tmp 24) rfl w4.heap.size (be (ar P.st (i,dB b j))) rfl rfl 87 (be hole) B8 IQ rfl OQ ?_;have g9:=cV w6 w4.heap.size (be (ar P.st (i,dB b j)));obtain⟨B9,J9⟩:=aw (B8.set (be (ar P.st (i,dB b j)))) (J6.grow g9 (J6.pa.cc B8 av) G7 GV);have a6:=an (show(w6.setRow w4.heap.size (be (ar P.st (i,dB b j)))).cell? (ad ga (offa+κ pre))=some (i6 (i:Int))from by have hlt:=uP GL;rw[nN (show(w6.setRow w4.heap.size (be (ar P.st (i,dB b j)))).heap[ga]?=w6.heap[ga]? from g9.block ga (ie w6 _ aq.out) (λe=>hlt (dE e)))];exact aq)
   have K9:=an (jJ g9 B8.cellsOf);obtain⟨KK,S9⟩:=aw ((K8.trans K7).trans K9) (show aF (w6.setRow w4.heap.size (be (ar P.st (i,dB b j)))) w.heap.size 94 #[pz H.pb]/\aF (w6.setRow w4.heap.size (be (ar P.st (i,dB b j)))) (w.heap.size+1) 41 #[sq ga offa (κ ats) ac]/\aF (w6.setRow w4.heap.size (be (ar P.st (i,dB b j)))) (w.heap.size+1+1+1+1) 88 #[.slice vd (κ pre) vc]/\(w6.setRow w4.heap.size (be (ar P.st (i,dB b j)))).cell? (ad ga (offa+κ pre))=some (i6 (i:Int))from⟨J9.x3,J9.x5,J9.x8,a6⟩);refine hK _ _ S9 ?_;refine gC ?_;clear hK K;generalize w6.setRow w4.heap.size (be (ar P.st (i,dB b j)))=w9 at *;refine UQ ?_;intro U10 J10 PR LO n1 n2 c8;gi_wp2_with((with_reducible refine yH 88 (.tmp 8) ?_);refine nk (λ⟨_,_,h⟩=>h) al ?_);refine an ?_;go_wp2_with(first
    | refine arm ?_
    | ((with_reducible refine eo 88 1 _ ?_);refine bS rfl 88 87 (.tmp 30) rfl _ 3 24 (be (ar P.st (i,dB b j))) rfl Aaq cF ae ae rfl ?_)
    | (at_builtin;refine bH pw rfl (.tmp 29) (.tmp 31) 88 rfl w.heap.size 87 _ 24 Aaq cF rfl _ (its.map (ar P.st)) rfl J10.ov _ [(ar P.st (i,dB b j))] rfl PR n1 n2 J10.t.size ?_))
   intro v11 w11 own11 gr11 bb;obtain⟨za,zc,hz⟩:=(ak.row own11 pw).slice;obtain⟨zn,hzn⟩:=bE (κ (its.map (ar P.st)++[(ar P.st (i,dB b j))]));exact UR
end
section
open Go.Shelf
attribute [local go_sem] kI
section
variable {P:bp}
def zU{ops:Array Oper}{Q:Exit->Act->af->Prop}{rest:List Oper}{a:Act}{w:af}{dst:Option Tmp}{type:TypeId}{pos:String}{after:Array Edge}{guard:Option (Nat × Bool)}(d s:bU)(dT sT:TypeId)(h:wpList P ops Q ({dst:=dst,op:=.call {callee:=.builtin .copy,args:=#[d,s],argTypes:=#[dT,sT]},type:=type,pos:=pos,after:=after,guard:=guard}::rest) a w):wpList P ops Q ({dst:=dst,op:=.call {callee:=.builtin .copy,args:=#[d,s],argTypes:=#[dT,sT]},type:=type,pos:=pos,after:=after,guard:=guard}::rest) a w:=h
theorem v7{α:Type}{f:α->List ah}{k:Nat}(hw:hh f k){ops:Array Oper}{rest:List Oper}{op:Oper}{a:Act}{w:af}{Q:Exit->Act->af->Prop}(hgd:op.guard=none)(d s:bU)(dT sT:TypeId)(ho:op.op=.call {callee:=.builtin .copy,args:=#[d,s],argTypes:=#[dT,sT]})(elem:TypeId)(hu:P.underlying dT=some (.slice elem))(aN:(P.info? elem).map (·.size)=some k)(g n m:Nat)(sa:Option Addr)(sc:Nat)(hd:a.eval d=cD g n n)(hs:a.eval s=.slice sa m sc)(ys:List α)(hm:m=κ ys)(al:aH f w (.slice sa m sc) ys)(h0:0<κ ys)(hn:κ ys<=n)(t:TypeId)(C:Array ah)(hb:aF w g t C)(hC:C.size=n*k)(h:∀w',aF w' g t (ys.flatMap f++C.toList.drop (κ ys*k)).toArray->w.grownBy w' (some g)->wpList P ops Q rest (a.put op.dst (goInt (κ ys))) w'):wpList P ops Q (op::rest) a w:=by
 subst hm;obtain⟨b,off,rfl,hbs,bc,hc⟩:=aH.get al hw h0;refine h' hgd λK hK=>?_;have aD:κ (ys.flatMap f)=κ ys*k:=hw.flat ys;have hle:κ ys*k<=n*k:=Nat.mul_le_mul_right k hn;have hl:=run_loadCells_list (P:=P) w ⟨b,off,none⟩ (ys.flatMap f) (λj v hj=>by
  rw[add_plain];have ak:=hw.pos;have hi:j/k<κ ys:=(Nat.div_lt_iff_lt_mul ak).2 (by rw[<-aD];exact(kE.1 hj).1);have e:j/k*k+j%k=j:=by rw[uI];exact Nat.div_add_mod j k
  have:=hw.at ys (j/k) hi (j%k) (Nat.mod_lt _ ak);rw[e,hj]at this;have h2:=hc (j/k) hi (j%k) v this.symm;rw[e]at h2;exact h2)
 have aG:=wD (P:=P) g 0 t (ys.flatMap f) 0 C w hb ae (λv hv=>hw.cu ys v hv);have ai:(C.toList.take (0+0)++ys.flatMap f++C.toList.drop (0+0+κ (ys.flatMap f))).toArray=(ys.flatMap f++C.toList.drop (κ ys*k)).toArray:=aa
 rw[ai]at aG;cases hq:P.info? elem with
 | none=>simp_all
 | some i=>
  have hi:i.size=k:=aa
  rw[aD]at hl;have hrun:(Builtin.copy_ #[dT,sT] op.type #[cD g n n,sq b off (κ ys) sc]).run P w=.ok (goInt (κ ys)) (w.setRow g (ys.flatMap f++C.toList.drop (κ ys*k)).toArray):=by simp[Builtin.copy_,run_underlying hu,Builtin.lenOf,Builtin.firstCells,sizeOf,typeInfo,hq,hi,(Nat.min_eq_left hn),hl,aG]
  unfold Aca;simp[Abt,ho,resolve,invoke,builtin,hd,hs,hrun,Aap];exact hK _ _ (h _ (hb.set _) (cV w g _))
end
def fc(l:List au)(j:Nat):List au:=(l.drop (8*j)).take 8
def hR(p:List au):List au:=p++Aad (8-κ p) hole
theorem lR(l:List au)(j:Nat):κ (fc l j)=min 8 (κ l-8*j):=by simp[fc]
theorem pj{p:List au}(h:κ p<=8):κ (hR p)=8:=by grind [hR]
theorem IH{p:List au}(h:κ p<=8):(p.flatMap dL++(aP dM).toList.drop (κ p*3)).toArray=aP (hR p):=by
 apply h3.1;show p.flatMap dL++(aP dM).toList.drop (κ p*3)=(aP (hR p)).toList;rw[fH,fH,hR,gk];congr 1;have:dM=Aad (κ p) hole++Aad (8-κ p) hole:=by rw[List.replicate_append_replicate];grind [dM]
 rw[this,gk,lB (by rw[pw.flat,wK])]
theorem J8{l:List au}(h:c9 w (sq g off (κ l) cap) l)(j:Nat)(hj:8*j<κ l):c9 w (gJ 3 g off (κ l) 8 j) (fc l j):=by
 obtain⟨b,o,e,hbs,bc,hc⟩:=aH.get h pw ae;simp only[Aai,Abq]at e;obtain⟨rfl,rfl,_⟩:=e;have hlen:=lR l j;refine .inr ⟨g,off+(8*j)*3,min 8 (κ l-8*j),by grind [gJ],ae,ae,dK,λq u hq=>?_⟩;have aa:q<κ (fc l j)*3:=by rw[<-pw.flat];exact(kE.1 hq).1
 have hi:q/3<κ (fc l j):=ae
 have:=pw.at (fc l j) (q/3) hi (q%3) ae;rw[show q/3*3+q%3=q from ae,hq]at this;have h2:=hc (8*j+q/3) ae (q%3) u (by grind [fc]);grind
def hv(ats:List Nat)(l:List au)(pre:List Nat):List (Nat × cS):=(ats.take (κ pre)).zip (pre.map (λj=>bJ (hR (fc l j))))
theorem sy{l:List au}{pre:List Nat}(h:κ pre<=κ ats):κ (hv ats l pre)=κ pre:=by grind [hv]
theorem Ih{l:List au}{pre:List Nat}(x:Nat)(h:κ pre<κ ats):hv ats l (pre++[x])=hv ats l pre++[(ats[κ pre],bJ (hR (fc l x)))]:=by unfold hv;exact Ox
theorem Ra(s:cS)(h:κ s.val<=128):eS s.val h=s:=by apply Subtype.ext;show e' s.val=s.val;unfold e';simp;omega
theorem AO{l:List au}(hg:∀p∈l,cA p=true)(j:Nat):jI (hR (fc l j))=true:=by
 unfold jI hR;simp only[List.all_append,Abe,Ac9];refine⟨λp hp=>hg p ?_,λp hp=>?_⟩
 ·grind [fc]
 ·rw[List.eq_of_mem_replicate hp];decide
theorem Jh(g:Nat)(W:af):(Abo 176 (pz g) none none none).run Aag W=.ok (cD g 8 8) W:=aA
theorem QI:(prog.info? 87).map (·.size)=some 3:=al
theorem aH.tN{f:α->List ah}{w w':af}{v:ah}{l:List α}{F:Nat->Prop}(h:aH f w v l)(T:Touch F w w')(hF:∀b,v.ownBlock=some b->¬F b):aH f w' v l:=by exact N6
theorem JA{l:List au}(hg:∀p∈l,p.wf)(j:Nat):∀p∈hR (fc l j),p.wf:=by grind [hR,fc,au.wf,hole]
theorem CY(w:af)(H:aR)(P:bq)(A:PA w H P)(vb:ah)(b:List au)(hb:c9 w vb b)(aW:∀k,vb.ownBlock=some k->¬PF H k)(h1:1<=κ b)(aB:κ b<=1000)(hgd:∀p∈b,cA p=true)(aL:∀p∈b,p.wf)(va:ah)(ats:List Nat)(ha:aD bC w va (ats.map (λk:Nat=>(k:Int))))(han:∀k,va.ownBlock=some k->¬PF H k)(aT:bo (κ b) 8<=κ ats)(has:∀i∈ats,i<1024/\P.s i=2/\i<κ P.C)(hm:P.m+1024<=900000):Aae Aag 279 #[pz H.pb,vb,va] w λe w'=>∃v,e=rt #[v,i6 0]/\
  bf w' w.heap.size v ((hv ats b (Aak (bo (κ b) 8))).map (ar P.st))/\PT w H (bV P (hv ats b (Aak (bo (κ b) 8)))) w':=by
 obtain⟨ba,bc,rfl⟩:=hb.slice;obtain⟨aa,ac,rfl⟩:=ha.slice;rw[Aac]at ha han ⊢;refine(fG (n:=6)).1 ?_;have bg:1<=6:=ae
 refine oZ func279 rfl trivial ?_ rfl;simp only[ntmps279,Abh,Aaj,Aa4,Nat.reduceAdd,Nat.reduceSub,Aa6,Aa7,Abj,Aba,Aaz,Aa2];gi_wp2_with(refine⟨trivial,?_⟩;gi_at_call 291;refine(fG.2 ((λW=>J7 W ba (κ b) bc) _)).mono ?_;rintro e w' ⟨rfl,rfl⟩);obtain⟨g,off,rfl,bd,bz,_⟩:=aH.get hb pw h1;obtain⟨U0,X3,X5,X6,X7,X8,C1,C2⟩:=Wt w 94 41 88 50 88 88 3 #[pz H.pb] #[.slice aa (κ ats) ac] #[nl] #[i6 0] #[nl] #[sq g off (κ b) bc] #[i6 8];obtain⟨w0,ay⟩:=bE (((((((w.alloc (.cells #[pz H.pb] 94)).alloc (.cells #[.slice aa (κ ats) ac] 41)).alloc (.cells #[nl] 88)).alloc (.cells #[i6 0] 50)).alloc (.cells #[nl] 88)).alloc (.cells #[sq g off (κ b) bc] 88)).alloc (.cells #[i6 8] 3));rw[<-ay]at U0 X3 X5 X6 X7 X8 C1 C2;rw[<-ay];clear ay;have aQ:bo (κ b) 8<=512:=Br
 have aS:κ b<=bc:=bz;have HA0:=A;refine Fp (F:=Abv) rfl bg (gf:=297) (lb:=#[pz (w.heap.size+1+1+1+1+1),pz (w.heap.size+1+1+1+1+1+1)]) rfl trivial (enters_of func297 al rfl) (Ez 5 ae (w.heap.size+1+1+1+1+1) g off (κ b) bc ae aS w0 C2.lt (C1.cell 0) (C2.cell 0)) c'.trans jM (e6 _ _) (λ_=>rfl) (λpre W=>SU 88 8 w H P (.slice aa (κ ats) ac) (sq g off (κ b) bc) (hv ats b (pre.map (·.1))) W) (λ_ _ _=>False) (Eh 88 8 w H P _ _ (λpre:List (sg (bo (κ b) 8))=>hv ats b (pre.map (·.1))) _ U0.size) (λ_ _ _ _ _ hs _ _=>hs) ⟨H.h.vp,nl,⟨av,av⟩,A.up U0,Touch.bP U0,λ_ h=>.inl h,X3,X5,X6,X7,X8,C1,C2,ak.nil _ _ _ _ _⟩ (λx=>{tmps:=#[pz H.pb,sq g off (κ b) bc,.slice aa (κ ats) ac,pz w.heap.size,Aas,pz (w.heap.size+1),pz (w.heap.size+1+1),pz (w.heap.size+1+1+1),pz (w.heap.size+1+1+1+1),gJ 3 g off (κ b) 8 x.1,Aas,Aas,Aas,Aas,sq g off (κ b) bc,.func (.func 297) #[] #[pz (w.heap.size+1+1+1+1+1),pz (w.heap.size+1+1+1+1+1+1)],gJ 3 g off (κ b) 8 x.1,Aas,Aas,Aas,Aas,Aas,Aas,Aas,Aas,Aas,Aas,Aas,Aas,Aas,Aas,Aas,Aas,Aas,Aas,Aas,Aas,Aas,Aas,Aas,Aas,Aas,Aas,Aas,Aas,Aas,Aas],defers:=[]}) ?assign ?body ?done ?stop
 case assign=>exact lP
 case stop=>rintro D c pre W _ _ h _;exact h.elim
 case done=>rintro D ys W hD aG⟨vp,ab,J⟩hK;have HJ:=an (show iN 88 8 w H P _ _ (hv ats b (Aak (bo (κ b) 8))) ((hv ats b (Aak (bo (κ b) 8))).map (ar P.st)) vp ab W from by rw[<-aG];exact J);refine Vb ?_;clear aG;intro f6 f7 c8 c6 c7 za zc hz;obtain⟨zn,hzn⟩:=bE (κ ((hv ats b (Aak (bo (κ b) 8))).map (ar P.st)));rw[<-hzn]at hz;clear hzn;subst hz;have FIN:=an (HJ.fin (.slice za zn zc) (i6 0) D (by have:=U0.size;omega) hK);gi_wp2;refine Ny ?_;intro h6 h7;simp[results,Tryz.f279,go_sem,h6,h7]
 case body=>
  rintro l pre x W⟨vp,ab,J⟩hlt;obtain⟨j,hj⟩:=x;have aK:κ pre<κ ats:=ae
  obtain⟨its,ao⟩:=bE (hv ats b (pre.map (·.1)));have IL:κ its=κ pre:=by rw[ao];exact(sy (ats:=ats) (l:=b) (pre:=pre.map (λx=>x.1)) mg).trans (Aac _)
  have SN:hv ats b ((pre++[(⟨j,hj⟩:sg (bo (κ b) 8))]).map (λx=>x.1))=its++[(ats[κ pre],bJ (hR (fc b j)))]:=by rw[Aar,y6,Ih (l:=b) (pre:=pre.map (λx=>x.1)) j mg,<-ao];simp
  rw[<-ao]at J;clear ao;obtain⟨i1,i2,i3⟩:=has _ (cw aK);have aE:=ha.ax J.t han;obtain⟨ga,offa,rfl,bw,hca⟩:=cg aE FJ mg;refine N5 ?_;intro ca hga;have br:=J8 (aH.tN hb J.t aW) j ((fS ae).1 hj);have bx:¬PF (H.at vp) g:=qJ HA0 J.o bd (aW g rfl);obtain⟨e1,e2,e3,e4,e5⟩:=gp P its;generalize ats[κ pre]=i at *;have aY:=lR b j;have bk:=(fS (n:=κ b) (c:=8) ae).1 hj;obtain⟨m,hm⟩:=bE (κ (fc b j));have bF:1<=m/\m<=8:=ae
  have bj:gJ 3 g off (κ b) 8 j=sq g (off+(8*j)*3) m m:=by unfold gJ;rw[hm,aY]
  rw[bj];rw[bj]at br;have NL:=pj (p:=fc b j) ae;obtain⟨NC,GA⟩:=az (IH (p:=fc b j) ae) (AO hgd j);obtain⟨v1,v2,v3⟩:=rS NL GA;have NB:=λW'=>BC W' (hR (fc b j)) NL (JA aL j);unfold JP at NB;rw[v2,<-v1]at NB;obtain⟨NB,IN⟩:=aw NB (hI (hR (fc b j)) NL);generalize ag:bJ (hR (fc b j))=sn at *;generalize bn:fc b j=pp at *;have aU:=an (show ∀W' gs,iN 88 8 w H P (sq ga offa (κ ats) ac) (sq g off (κ b) bc) its (its.map (ar P.st)) vp ab W'->a8 W' (cD gs 128 128) sn.val->Aae Aag 260 #[pz H.pb,i6 (i:Int),cD gs 128 128] W' λe W2=>e=rt #[.agg (be (ar P.st (i,sn))),i6 0]/\PT W' (H.at vp) (bV P (its++[(i,sn)])) W2 from λW' gs J' aI=>by rw[sE];have:=tD W' (H.at vp) (bV P its) J'.pa i i1 (by rw[e1];exact i2) (by rw[e5];exact i3) _ sn.val aI FE (by rw[e4,IL];omega);rw[Ra]at this;refine this.mono ?_;rintro e W2⟨rfl,D⟩;exact⟨by rw[show ar P.st (i,sn)=⟨i,(bV P its).st,dQ sn⟩ from by rw[e2];rfl],D⟩)
  obtain⟨JJ,a7,CA,bh⟩:=bW J br (show W.cell? (ad ga (offa+κ pre))=some (i6 (i:Int))from ca) SN;obtain⟨vd,vc,hvo⟩:=(ak.row J.ov pw).slice;rw[Aac,IL]at hvo;subst hvo;clear ca SN e1 e2 e3 e4 e5 i1 i2 i3 hca has;obtain⟨aj,a1⟩:=az Jh hm.symm;rw[a1]at NC;obtain⟨bu,U10⟩:=aw (aF.new W 176 (aP dM)) (ai W (.cells (aP dM) 176));clear hm bj v1 v2 v3 NL GA aY ag bn;gi_wp2_with(refine nk (λ⟨_,_,h⟩=>h) al ?_);refine an ?_;go_wp2_with(refine arm ?_);gi_wp2_with(refine nk (λ⟨_,_,h⟩=>h) al ?_);refine an ?_;go_wp2_with((with_reducible refine zU (.tmp 17) (.tmp 18) 88 88 ?_);refine v7 pw rfl (.tmp 17) (.tmp 18) 88 88 rfl 87 Aaq QI W.heap.size 8 m _ m rfl rfl pp a1.symm (a7.up U10) ae ae 176 (aP dM) bu (by rw[b7];decide) ?_);intro w2 hb2 bl;have B2:=an hb2;have bG:=an (show w2.cell? (ad ga (offa+κ pre))=some (i6 (i:Int))from by obtain⟨aN,hlt⟩:=az (U10.cell CA) (uP (ie W _ CA));rw[nN (show w2.heap[ga]?=_ from bl.block ga (ie _ _ aN) (λe=>hlt (dE e)))];exact aN)
  clear aj CA NC;go_wp2;gi_wp2_with(refine nk (λ⟨_,_,h⟩=>h) al ?_);refine an ?_;go_wp2_with(refine arm ?_);refine(NB _).mono ?_;rintro e w3⟨rfl,u3⟩;have U4:=an (u3.trans (ai w3 (.cells (aC sn.val) 60)));clear NB IN;go_wp2_with(first
   | refine arm ?_
   | ((with_reducible refine cx 60 (.tmp 11) (.tmp 23) ?_);refine fK w3 rfl 60 (.tmp 11) (.tmp 23) rfl (aC sn.val) 60 (aC aM) rfl rfl rfl (dJ sn) (an qC) (dx sn.val) ?_))
  have bI:=an (show a8 (w3.alloc (.cells (aC sn.val) 60)) (cD w3.heap.size 128 128) sn.val from by have:=iA (aF.new w3 60 (aC sn.val)) 0 128 128 FE ae ae ae;rw[Aaw,dq FE]at this;exact this)
  have bK:=mE;generalize aO:w3.alloc (.cells (aC sn.val) 60)=w5 at *;clear aO;generalize w3.heap.size=gs at *;gi_wp2;refine gT (S:=λW'=>aF W' w.heap.size 94 #[pz H.pb]/\aF W' (w.heap.size+1) 41 #[sq ga offa (κ ats) ac]/\aF W' (w.heap.size+1+1+1+1) 88 #[.slice vd (κ pre) vc]/\W'.cell? (ad ga (offa+κ pre))=some (i6 (i:Int))) al al (λ⟨_,_,h⟩=>h) ?_;change Acp _ _ _ _ _ 14 _ _ (w5.drew);have UD:=an (Up.drew (Up.refl w5));obtain⟨J4,HB4,CA4,KW⟩:=bW ((((JJ.up U10).grow bl ((JJ.pa.up U10).cc bu av) (by have:=JJ.c2.lt;omega) (λe=>by have:=(JJ.ov.aJ _ e).2;omega)).up U4).up UD) (bI.up UD) (UD.cell (U4.cell bG)) ((((r8 U10).trans (jJ bl bu.cellsOf)).trans (r8 U4)).trans (y9 w5));generalize hw4:w5.drew=w4 at *;refine ON ?_;intro S4;refine tb 0 rfl (yc (λW hS=>hS.1.cell 0)) ?_;refine tb 1 rfl (yc (λW hS=>hS.2.1.cell 0)) ?_;refine tb 2 rfl (yc (λW hS=>hS.2.2.1.cell 0)) ?_;refine ta 3 ?_;refine ta 4 ?_;refine tb 5 rfl (yc (λW hS=>hS.2.2.2)) ?_;refine ta 6 ?_;refine bA ?_;refine qa 7 11 al rfl rfl rfl rfl ?_ ?_
  ·intro K hK;go_simp;refine(aU w4 gs J4 HB4).mono ?_;refine Vc ?_;clear hK K;intro w5 D7 bm j7 T7 J5 CA5 K7 S7;refine bA ?_;refine ta 8 ?_;refine ta 9 ?_;refine vi ?_;obtain⟨IQ,OQ⟩:=aw (ia (ar P.st (i,sn))) (jX (ar P.st (i,sn)));refine UF ?_;intro G7 GV GL u8 J6 aq B8 K8 S8;generalize w5.alloc (.cells (be hole) 87)=w6 at *;refine ok 12 ?_;intro K hK;refine tf 87 (.tmp 13) (.tmp 37) rfl w5.heap.size (be (ar P.st (i,sn))) rfl rfl 87 (be hole) B8 IQ rfl OQ ?_;have g9:=cV w6 w5.heap.size (be (ar P.st (i,sn)));obtain⟨B9,J9⟩:=aw (B8.set (be (ar P.st (i,sn)))) (J6.grow g9 (J6.pa.cc B8 av) G7 GV);have a6:=an (show(w6.setRow w5.heap.size (be (ar P.st (i,sn)))).cell? (ad ga (offa+κ pre))=some (i6 (i:Int))from by have hlt:=uP GL;rw[nN (show(w6.setRow w5.heap.size (be (ar P.st (i,sn)))).heap[ga]?=w6.heap[ga]? from g9.block ga (ie w6 _ aq.out) (λe=>hlt (dE e)))];exact aq)
   have K9:=an (jJ g9 B8.cellsOf);obtain⟨KK,S9⟩:=aw ((K7.trans K8).trans K9) (show aF (w6.setRow w5.heap.size (be (ar P.st (i,sn)))) w.heap.size 94 #[pz H.pb]/\aF (w6.setRow w5.heap.size (be (ar P.st (i,sn)))) (w.heap.size+1) 41 #[sq ga offa (κ ats) ac]/\aF (w6.setRow w5.heap.size (be (ar P.st (i,sn)))) (w.heap.size+1+1+1+1) 88 #[.slice vd (κ pre) vc]/\(w6.setRow w5.heap.size (be (ar P.st (i,sn)))).cell? (ad ga (offa+κ pre))=some (i6 (i:Int))from⟨J9.x3,J9.x5,J9.x8,a6⟩);refine hK _ _ S9 ?_;refine gC ?_;clear hK K;generalize w6.setRow w5.heap.size (be (ar P.st (i,sn)))=w9 at *;refine US ?_;intro U10 J10 PR LO n1 n2 c8;gi_wp2_with((with_reducible refine yH 88 (.tmp 8) ?_);refine nk (λ⟨_,_,h⟩=>h) al ?_);refine an ?_;go_wp2_with(first
    | refine arm ?_
    | ((with_reducible refine eo 88 1 _ ?_);refine bS rfl 88 87 (.tmp 43) rfl _ 3 24 (be (ar P.st (i,sn))) rfl Aaq cF ae ae rfl ?_)
    | (at_builtin;refine bH pw rfl (.tmp 42) (.tmp 44) 88 rfl w.heap.size 87 _ 24 Aaq cF rfl _ (its.map (ar P.st)) rfl J10.ov _ [(ar P.st (i,sn))] rfl PR n1 n2 J10.t.size ?_))
   intro v11 w11 own11 gr11 bb;obtain⟨za,zc,hz⟩:=(ak.row own11 pw).slice;obtain⟨zn,hzn⟩:=bE (κ (its.map (ar P.st)++[(ar P.st (i,sn))]));exact UM
  ·intro K hK;obtain⟨IQ,OQ⟩:=aw (ia (ar P.st (i,sn))) (jX (ar P.st (i,sn)));refine UH ?_;clear hK K;intro G7 GV GL aX u8 J5 CA5 B8 K8 S8;generalize w4.alloc (.cells (be hole) 87)=w5 at *;refine ok 7 ?_;intro K hK;go_simp;refine(aU w5 gs J5 aX).mono ?_;refine UI ?_;clear hK K;intro w6 D7 bm j7 T7 J6 aq K7 B8 S7;refine ta 9 ?_;refine vi ?_;refine ok 12 ?_;intro K hK;refine tf 87 (.tmp 13) (.tmp 37) rfl w4.heap.size (be (ar P.st (i,sn))) rfl rfl 87 (be hole) B8 IQ rfl OQ ?_;have g9:=cV w6 w4.heap.size (be (ar P.st (i,sn)));obtain⟨B9,J9⟩:=aw (B8.set (be (ar P.st (i,sn)))) (J6.grow g9 (J6.pa.cc B8 av) G7 GV);have a6:=an (show(w6.setRow w4.heap.size (be (ar P.st (i,sn)))).cell? (ad ga (offa+κ pre))=some (i6 (i:Int))from by have hlt:=uP GL;rw[nN (show(w6.setRow w4.heap.size (be (ar P.st (i,sn)))).heap[ga]?=w6.heap[ga]? from g9.block ga (ie w6 _ aq.out) (λe=>hlt (dE e)))];exact aq)
   have K9:=an (jJ g9 B8.cellsOf);obtain⟨KK,S9⟩:=aw ((K8.trans K7).trans K9) (show aF (w6.setRow w4.heap.size (be (ar P.st (i,sn)))) w.heap.size 94 #[pz H.pb]/\aF (w6.setRow w4.heap.size (be (ar P.st (i,sn)))) (w.heap.size+1) 41 #[sq ga offa (κ ats) ac]/\aF (w6.setRow w4.heap.size (be (ar P.st (i,sn)))) (w.heap.size+1+1+1+1) 88 #[.slice vd (κ pre) vc]/\(w6.setRow w4.heap.size (be (ar P.st (i,sn)))).cell? (ad ga (offa+κ pre))=some (i6 (i:Int))from⟨J9.x3,J9.x5,J9.x8,a6⟩);refine hK _ _ S9 ?_;refine gC ?_;clear hK K;generalize w6.setRow w4.heap.size (be (ar P.st (i,sn)))=w9 at *;refine US ?_;intro U10 J10 PR LO n1 n2 c8;gi_wp2_with((with_reducible refine yH 88 (.tmp 8) ?_);refine nk (λ⟨_,_,h⟩=>h) al ?_);refine an ?_;go_wp2_with(first
    | refine arm ?_
    | ((with_reducible refine eo 88 1 _ ?_);refine bS rfl 88 87 (.tmp 43) rfl _ 3 24 (be (ar P.st (i,sn))) rfl Aaq cF ae ae rfl ?_)
    | (at_builtin;refine bH pw rfl (.tmp 42) (.tmp 44) 88 rfl w.heap.size 87 _ 24 Aaq cF rfl _ (its.map (ar P.st)) rfl J10.ov _ [(ar P.st (i,sn))] rfl PR n1 n2 J10.t.size ?_))
   intro v11 w11 own11 gr11 bb;obtain⟨za,zc,hz⟩:=(ak.row own11 pw).slice;obtain⟨zn,hzn⟩:=bE (κ (its.map (ar P.st)++[(ar P.st (i,sn))]));exact UR
end
def vU(b:List aj)(k:Nat):List aj:=(Aak k).flatMap (λi=>(dB b i).val)
theorem tL(b:List aj)(k:Nat):vU b (k+1)=vU b k++(dB b k).val:=by unfold vU;rw[Ab5,gk];simp
theorem Hc(b:List aj)(k:Nat):κ (vU b k)=128*k:=by
 induction k with
 | zero=>rfl
 | succ k ih=>grind [tL,dB]
theorem Js(b:List aj):∀k,k<=bo (κ b) 128->vU b k=b.take (128*k)++Aad (128*k-κ b) 0
 | 0,_=>by simp[vU]
 | k+1,h=>by
  have hk:=(fS (n:=κ b) (c:=128) ae).1 (show k<_ from ae);rw[tL,Js b k ae,show 128*k-κ b=0 from ae,List.replicate_zero,Ab1];show _++e' (nD b k)=_;unfold e';rw[<-Aa9];congr 1
  ·unfold nD;rw[show 128*(k+1)=128*k+128 from ae,List.take_add]
  ·congr 1;unfold nD;rw[ez,hA];omega
theorem R1(b:List aj):vU b (bo (κ b) 128)=b++Aad (128*bo (κ b) 128-κ b) 0:=by rw[Js b _ (aE _),dq];grind [bo,fS]
theorem EZ(w:af)(H:aR)(P:bq)(A:PA w H P)(vl:ah)(ps:List au)(hv:c9 w vl ps)(ao:∀k,vl.ownBlock=some k->¬PF H k)(b:List aj)(h1:1<=κ b)(aB:κ b<=65535)(hl:κ ps=bo (κ b) 128)(hb:∀k(h:k<κ ps),fM P.C ps[k]=some (dB b k)):Aae Aag 175 #[pz H.pb,vl,i6 (κ b:Int)] w λe w'=>∃v,e=rt #[v,i6 0]/\a8 w' v b/\(∀k,v.ownBlock=some k->w.heap.size<=k)/\PG w H P w':=by
 have aQ:bo (κ b) 128<=512:=Br
 have aI:κ b<=128*bo (κ b) 128:=by have:¬bo (κ b) 128<bo (κ b) 128:=uL _;rw[fS ae]at this;omega
 obtain⟨va,vc,rfl⟩:=hv.slice;obtain⟨HV,aN,HA,HB⟩:=bW hv ao A hb;refine Gw ?_;intro ag;have MK:∀W:af,(Acf 30 (i6 0) (i6 ((κ ps:Int)*128))).run Aag W=.ok (cD W.heap.size 0 (κ ps*128)) (W.alloc (.cells (kg (.int .u8 0) (κ ps*128)) 5)):=λW=>by have:=kR (P:=Aag) 30 5 (.int .u8 0) 1 Aa0 eX (κ ps*128) ae ae W;assumption
 have HL:=an hl;have bd:κ ps<=512:=ae
 clear ao hb hl;go_in;go_wp2;clear MK;go_loopw [8,21] (λv i wr=>∃k:Nat,k<=κ ps/\i=i6 k/\Own aK 5 wr w.heap.size v (vU b k)/\PG w H P wr) (λ_ i _=>κ ps-(Aau i).toNat)
 case atStart=>exact⟨0,bT _,rfl,(Own.room aK 5 w (.int .u8 0) w.heap.size (κ ps*128) (aE _) ae),(PG.of A (ai w (.cells (kg (.int .u8 0) (κ ps*128)) 5)))⟩
 case round=>
  obtain⟨k,hk,rfl,hown,hg⟩:=hrel;obtain⟨HOWN,GR⟩:=aw hown hg;by_cases hlt:k<κ ps
  ·obtain⟨b0,off,rfl,hbs,bc,hc⟩:=(aH.tN HV GR.2 aN).range pw ae;have RC:=an (hc k hlt);have b2:((k:Int)<(κ ps:Int))=True:=by simp;omega
   obtain⟨TS,aU,al⟩:=aV (tL b k) ((Hc b) k) (λW (AW:PA W H P)=>vx W H P AW ps[k] (dB b k) (HB k hlt));generalize ps[k]=p at *;generalize dB b k=s at *;generalize vU b k=tb at *;have br:κ tb<=65536:=di
   clear hc;obtain⟨ta,tc,rfl⟩:=(Own.cu HOWN).slice;obtain⟨SP,BX,G2,O2⟩:=bW s.property (aF.new wr 87 (be p)) (GR.up (ai wr (.cells (be p) 87))) (HOWN.up (ai wr (.cells (be p) 87)));go_wp2_with(first
    | refine cT 87 23 (be p) RC ?_
    | refine bB 87 fL ?_
    | refine eh 87 10 24 wr (be p) 87 (be hole) ?_
    | refine cY 87 10 BX ?_)
   refine(al _ G2.1).mono ?_;rintro e w3⟨rfl,g3⟩;have U4:=an (ai w3 (.cells (aC s.val) 60));obtain⟨G4,O4⟩:=aw ((G2.trans g3).up U4) ((Own.ax O2 g3.2 (λk hk=>ag _ (by have:=(O2.aJ k hk).1;omega))).up U4);have SI:=an (show a8 (w3.alloc (.cells (aC s.val) 60)) (cD w3.heap.size 128 128) s.val from by have:=iA (aF.new w3 60 (aC s.val)) 0 128 128 ae ae ae ae;rw[Aaw,dq ae]at this;exact this)
   have bK:=mE;clear al;go_wp2_with(first
    | refine arm ?_
    | ((with_reducible refine cx 60 (.tmp 11) (.tmp 29) ?_);refine fK w3 rfl 60 (.tmp 11) (.tmp 29) rfl (aC s.val) 60 (aC aM) rfl rfl rfl (dJ s) (an qC) (dx s.val) ?_)
    | (at_builtin;refine bu aK cy rfl (.tmp 34) (.tmp 35) 30 rfl w.heap.size 5 (.int .u8 0) 1 Aa0 eX rfl _ tb rfl O4 _ s.val aA SI ae ae G4.2.size ?_))
   intro v6 w6 aa ay aL;have aO:=λkk aG=>(O4.aJ kk aG).1;go_wp2;go_roundw
   case rel=>exact⟨k+1,ae,aq,by rw[TS.out];exact aa,⟨G4.1.ax (Touch.bg (F:=λn=>w.heap.size<=n) ay (λkk aG=>aO kk aG)) (λb hb=>λhle=>ag b hle hb),G4.2.hp ay aO⟩⟩
   case measure=>simp[Aau];omega
  ·obtain rfl:k=κ ps:=by omega
   have ho:=HOWN.out;rw[HL.out,(R1 b)]at ho;obtain⟨z,hz⟩:=bE (128*bo (κ b) 128-κ b);rw[<-hz]at ho;have aX:z<=65536:=ae
   clear hz;obtain⟨g,cap,aP,a6,ak,hc,_,_⟩:=Own.row ho ab;have bD:=an hc;have aS:κ b+z<=cap:=by have:=mj (aP ▸ ho.cu);grind
   subst aP;clear hc;rw[show(b++Aad z (0:aj)).length=κ b+z from aq];have PC:=aD.piece (lo:=κ b) (hi:=κ b+z) (show a8 wr (cD g (κ b+z) cap) (b++Aad z 0)from by have:=ho.cu;simpa using this) ae aq;rw[dq aq,lB rfl]at PC;have ba:∀W,(Aav 30 (cD g (κ b+z) cap) (some (i6 (κ b:Int))) none none).run Aag W=.ok (bY (some ⟨g,0,none⟩) (κ b) (κ b+z) cap) W:=λW=>dg (P:=Aag) 30 dC dD _ _ cap (κ b) ae W;obtain⟨pa,pc,bn⟩:=PC.slice;rw[wK]at bn;rw[bn]at ba PC;clear bn;have az:∀W,(Aav 30 (cD g (κ b+z) cap) none (some (i6 (κ b:Int))) (some (i6 (κ b:Int)))).run Aag W=.ok (cD g (κ b) (κ b)) W:=λW=>by rw[run_slice_hm W 30 (some ⟨g,0,none⟩) (κ b+z) cap dC .i64 .i64 (κ b:Int) (κ b:Int) ae ae ae,dD];simp only[Aax,sliced,Abp];rw[aY ae];rfl
   obtain⟨w9,ar⟩:=bE (wr);subst ar;go_wp2;go_loopw [42] (λi wr=>∃k:Nat,k<=z/\i=i6 k/\wr=w9) (λi _=>z-(Aau i).toNat)
   case atStart=>exact⟨0,bT _,rfl,rfl⟩
   case round=>
    obtain⟨k,hk,rfl,rfl⟩:=hrel;by_cases aW:k<z
    ·obtain⟨pb,po,rfl,av,aT⟩:=cg PC aq ab;have x0:=aT k ab;rw[List.getElem_replicate]at x0;replace x0:wr.cell? (ad pb (po+k))=some (.int .u8 0):=x0;have b3:((k:Int)<(z:Int))=True:=by simp;omega
     clear aT;go_wp2;go_roundw
     case rel=>exact⟨k+1,ae,gO,trivial⟩
     case measure=>simp[Aau];omega
    ·obtain rfl:k=z:=by omega
     go_wp2;go_ret2;refine⟨_,rfl,?_,λk hk=>by cases hk;exact a6,GR⟩;refine .inr ⟨g,0,κ b,rfl,h1,aE _,dK,λi hi=>?_⟩;have:=bD i ab;rw[wH hi]at this;simp;omega
theorem Lh{p:List au}(h:aF w g 176 (aP (hR p)))(h0:0<κ p)(h8:κ p<=8):c9 w (cD g (κ p) 8) p:=by refine .inr ⟨g,0,8,rfl,h0,h8,av,λj u hj=>?_⟩;rw[h.cell,Aby];rw[<-oW,fH,hR,gk,yM ((kE.1 hj).1)];exact hj
theorem Ji(g hi:Nat)(h1:hi<=8)(W:af):(Abo 176 (pz g) none (some (i6 (hi:Int))) none).run Aag W=.ok (cD g hi 8) W:=by
 have aT:prog.arrayLen 176=8:=al
 have hs:(sizeOf (prog.elem 176)).run Aag W=.ok 3 W:=al
 rw[run_sliceAt_array_h W 176 ⟨g,0,none⟩ aA .i64 (hi:Int) ae ae,hs,aT];rfl
theorem VN{p:List au}(h:∀x∈p,x≠hole)(i:Nat)(hi:i<8):decide (a6 (hR p) i=hole)=!decide (i<κ p):=by grind [a6,hR]
theorem RY(l:List au)(k:Nat):l.take (8*(k+1))=l.take (8*k)++fc l k:=by grind [fc]
theorem CQ(w:af)(H:aR)(P:bq)(A:PA w H P)(vl:ah)(ps:List au)(hv:c9 w vl ps)(ao:∀k,vl.ownBlock=some k->¬PF H k)(L:List au)(h1:1<=κ L)(aB:κ L<=1000)(hl:κ ps=bo (κ L) 8)(hn:∀k(h:k<κ ps),node8 P.C ps[k]=some (hR (fc L k)))(hh:∀x∈L,x≠hole):Aae Aag 174 #[pz H.pb,vl,i6 (κ L:Int)] w λe w'=>∃v,e=rt #[v,i6 0]/\bf w' w.heap.size v L/\PG w H P w':=by
 have aQ:bo (κ L) 8<=1000:=Br
 have bd:κ ps<=1000:=ae
 obtain⟨va,vc,rfl⟩:=hv.slice;obtain⟨HV,aN,HA,HB,HL,HH⟩:=ix hv ao A hn hl hh;refine Gw ?_;intro ag;have GE:=an (show κ L<=8*κ ps from by have:¬bo (κ L) 8<bo (κ L) 8:=uL _;rw[fS ae]at this;rw[HL.out];omega)
 have MK:=λW=>mB (P:=Aag) 88 87 _ 3 24 Aaq cF (κ L) ae ae W;clear ao hn hl hh;go_in;go_wp2;clear MK;go_loopw [8,21] (λv i wr=>∃k:Nat,k<=κ ps/\i=i6 k/\bf wr w.heap.size v (L.take (8*k))/\PG w H P wr) (λ_ i _=>κ ps-(Aau i).toNat)
 case atStart=>exact⟨0,bT _,rfl,(ak.room dL 3 87 w (.agg #[i6 0,u6 0,.int .u32 0]) w.heap.size (κ L) (aE _) ae),(PG.of A (ai w (.cells (Acv (Value.agg #[i6 0,u6 0,.int .u32 0]).cells (κ L*3)) 87)))⟩
 case round=>
  obtain⟨k,hk,rfl,hown,hg⟩:=hrel;obtain⟨HOWN,GR⟩:=aw hown hg;by_cases hlt:k<κ ps
  ·obtain⟨b0,off,rfl,hbs,bc,hc⟩:=(aH.tN HV GR.2 aN).range pw ae;have RC:=an (hc k hlt);have b2:((k:Int)<(κ ps:Int))=True:=by simp;omega
   obtain⟨s,hs,aj⟩:=ph (HB k hlt);obtain⟨bj,aK⟩:=az ((λk (h:k<κ ps)=>(fS (n:=κ L) (c:=8) ae).1 (by rw[<-HL.out];exact h)) k hlt) (lR L k);have TP:=an (RY L k);have aT:∀x∈fc L k,x≠hole:=λx hx=>HH x (by unfold fc at hx;exact tg (s9 hx));obtain⟨m,hm⟩:=bE (κ (fc L k));obtain⟨r,hr⟩:=bE (κ L-8*k);obtain⟨ol,aW⟩:=bE (L.take (8*k));have aU:κ ol=8*k:=by rw[aW,ez];omega
   rw[<-aW]at HOWN TP;have bF:1<=m/\m<=8:=ae
   have ab:m=if r<8 then r else 8:=by split<;>omega
   obtain⟨on,aa⟩:=bE (κ ol);have a1:on<=1000:=ae
   have e5:(κ L:Int)-(on:Int)=(r:Int):=ae
   obtain⟨al,ad,ay⟩:=aV (λW (AW:PA W H P)=>vx W H P AW ps[k] s hs) aj (λi hi=>VN aT i hi);have LN:=pj (p:=fc L k) ae;have NF:=an (λW g (h:aF W g 176 (aP (hR (fc L k))))=>Lh h ae ae);rw[<-hm]at ay NF;generalize fc L k=pp at *;generalize ps[k]=p at *;obtain⟨bh,HM⟩:=aw aa hm;obtain⟨l,aS⟩:=bE (hR pp);rw[<-aS]at ay NF LN ad;clear hc hs aj aT aW aU hm aK bj hr aS;obtain⟨ta,tc,av⟩:=(ak.row HOWN pw).slice;rw[<-aa]at av;subst av;clear aa;obtain⟨IS,IN,a8,BX,G2,O2⟩:=ix (dJ s) (hI l LN) LN (aF.new wr 87 (be p)) (GR.up (ai wr (.cells (be p) 87))) (HOWN.up (ai wr (.cells (be p) 87)));go_wp2_with(first
    | refine cT 87 23 (be p) RC ?_
    | refine bB 87 fL ?_
    | refine eh 87 10 24 wr (be p) 87 (be hole) ?_
    | refine cY 87 10 BX ?_)
   refine(al _ G2.1).mono ?_;rintro e w3⟨rfl,g3⟩;have U4:=an (ai w3 (.cells (aC s.val) 60));clear al;go_wp2_with(first
    | refine arm ?_
    | ((with_reducible refine cx 60 (.tmp 11) (.tmp 29) ?_);refine fK w3 rfl 60 (.tmp 11) (.tmp 29) rfl (aC s.val) 60 (aC aM) rfl rfl rfl IS (an qC) (dx s.val) ?_))
   refine((λW=>DP W s.val s.property (by rw[ad.out])) _).mono ?_;rintro e w5⟨rfl,u5⟩;rw[ad.out];obtain⟨U6,N6⟩:=aw (u5.trans (ai w5 (.cells (aP l) 176))) (aF.new w5 176 (aP l));clear ad IS;have bb:(r<8/\m=r)\/(¬r<8/\m=8):=by
    by_cases h:r<8
    ·rw[bI h]at ab;exact .inl ⟨h,ab⟩
    ·rw[aY h]at ab;exact .inr ⟨h,ab⟩
   clear ab;obtain⟨mv,a7⟩:∃mv:Int,mv=(m:Int):=⟨_,rfl⟩;have b4:(if(r:Int)<8 then(r:Int)else 8)=mv:=by rw[a7];split<;>omega
   clear bb;go_wp2_with(first
    | refine arm ?_
    | ((with_reducible refine cx 176 (.tmp 13) (.tmp 37) ?_);refine fK w5 rfl 176 (.tmp 13) (.tmp 37) rfl (aP l) 176 (aP dM) rfl rfl rfl IN (an (by rw[b7,b7,LN];rfl)) (jU l) ?_))
   go_loopw [47] (λi wr=>∃k:Nat,k<=8/\i=i6 k/\bf wr w.heap.size (.slice ta on tc) ol/\PG w H P wr/\aF wr w5.heap.size 176 (aP l)) (λi _=>8-(Aau i).toNat)
   case atStart=>exact⟨0,bT _,rfl,(((ak.ax O2 g3.2 (λk hk=>ag _ (by have:=(O2.aJ k hk).1;omega))).up U4).up U6),(((G2.trans g3).up U4).up U6),N6⟩
   case round=>
    obtain⟨i,hi,rfl,hown,hg,hblk⟩:=hrel;obtain⟨HOWN,GR,NB⟩:=aV hown hg hblk;by_cases aD:i<8
    ·obtain⟨IX,EQ⟩:=az (ql l a8 i aD) (D2 (a6 l i));rw[ay.out i aD]at EQ;have b3:((i:Int)<8)=True:=by simp;omega
     generalize a6 l i=x at *;obtain⟨UA,BX⟩:=aw (ai wr (.cells (be x) 87)) (aF.new wr 87 (be x));by_cases aL:i<m
     ·have b5:((i:Int)<mv)=True:=by rw[a7];simp;omega
      rw[h8 aL]at EQ;simp only[Bool.not_true]at EQ;exact Nz
     ·have b5:((i:Int)<mv)=False:=by rw[a7];simp;omega
      rw[jj aL]at EQ;simp only[Bool.not_false]at EQ;exact Nz
    ·obtain rfl:i=8:=by omega
     have b3:(((8:Nat):Int)<8)=False:=aq
     have ar:=Ji w5.heap.size m bF.2;go_wp2_with(first
      | (at_builtin;refine bH pw rfl (.tmp 59) (.tmp 61) 88 rfl w.heap.size 87 _ 24 Aaq cF rfl _ ol rfl HOWN _ pp rfl (NF wr w5.heap.size NB) (by rw[<-bh.out,<-HM.out];omega) (by rw[<-bh.out,<-HM.out];omega) GR.2.size ?_))
     intro v7 w7 aI aX ba;have aO:=λkk aG=>(HOWN.aJ kk aG).1;go_wp2;go_roundw
     case rel=>exact⟨k+1,ae,aq,by rw[TP.out];exact aI,⟨GR.1.ax (Touch.bg (F:=λn=>w.heap.size<=n) aX (λkk aG=>aO kk aG)) (λb hb=>λhle=>ag b hle hb),GR.2.hp aX aO⟩⟩
     case measure=>simp[Aau];omega
  ·obtain rfl:k=κ ps:=by omega
   have ho:=HOWN.out;rw[dq GE.out]at ho;go_wp2;go_ret2;exact⟨_,rfl,ho,GR⟩
theorem DI:∀(n s k:Nat)(h:k+1<κ (s::mf s)),s<=n->(s::mf s)[k+1]=lZ ((s::mf s)[k]' ae) 8
 | 0,s,k,h,hs=>by rw[show mf s=[] from hx ae]at h;simp at h
 | n+1,s,k,h,hs=>by
  by_cases h1:s<=1
  ·rw[hx h1]at h;simp at h
  ·have e:=kC (s:=s) ae;have h8:=Hi (s:=s) ae;cases k with
   | zero=>simp only[e,Adi,Abw]
   | succ k=>
    have h':k+1<κ (lZ s 8::mf (lZ s 8)):=by rw[e]at h;simpa using h
    have:=DI n (lZ s 8) k h' ae;simp only[e,Adi]at this ⊢;exact this
theorem h4(h1:1<=n)(h2:n<=65535):eG n=lZ n 128::mf (lZ n 128):=by grind [eG]
theorem qs(h1:1<=n)(h2:n<=65535)(h:k+1<κ (eG n)):(eG n)[k+1]=bo ((eG n)[k]' ae) 8:=by simp only[(h4 h1 h2)]at h ⊢;exact DI _ _ k h (aE _)
theorem E2{n:Nat}(h1:1<=n)(h2:n<=65535):∀k(h:k<κ (eG n)),1<=(eG n)[k]/\(eG n)[k]<=512
 | 0,h=>by have e:=h4 h1 h2;simp only[e,Abw];exact⟨xe ae h1,by unfold lZ;omega⟩
 | k+1,h=>by have⟨a,b⟩:=E2 h1 h2 k ae;rw[qs h1 h2 h];exact⟨xe ae a,Br⟩
theorem Ls{f:α->ah}{f':β->List ah}{k':Nat}{e e':Aab}{v v':ah}{xs:List α}{ys:List β}(h:Own f e w base v xs)(h':ak f' k' e' w base' v' ys)(he:e≠e'):v.ownBlock=none\/v.ownBlock≠v'.ownBlock:=by exact Na
structure iO(C:List cS)(root:au)(b:List aj)(lv:Nat->List au):Prop where
 len:1<=κ b/\(κ b)<=65535
 sz:∀k(h:k<κ (eG (κ b))),κ (lv k)=(eG (κ b))[k]
 top:lv (κ (eG (κ b))-1)=[root]
 nh:∀k,k<κ (eG (κ b))->∀x∈lv k,x≠hole
 ZD:∀i(h:i<κ (lv 0)),fM C (lv 0)[i]=some (dB b i)
 nod:∀k,k+1<κ (eG (κ b))->∀i(h:i<κ (lv (k+1))),node8 C (lv (k+1))[i]=some (hR (fc (lv k) i))
def iW(lv:Nat->List au)(t:Nat):Nat->List au
 | 0=>[]
 | d+1=>iW lv t d++lv (t-(d+1))
theorem uH{lv:Nat->List au}{t:Nat}(h:∀k,k<t->κ (lv k)<=512):∀d,d<=t->κ (iW lv t d)<=512*d
 | 0,_=>by simp[iW]
 | d+1,hd=>by unfold iW;have:=uH h d ae;have:=h (t-(d+1)) ae;rw[Aaf];omega
def dY(b:List aj)(lv:Nat->List au):List au:=iW lv (κ (eG (κ b))) (κ (eG (κ b)))
theorem ri(w:af)(H:aR)(P:bq)(A:PA w H P)(root:au)(b:List aj)(lv:Nat->List au)(B:iO P.C root b lv):Aae Aag 112 #[pz H.pb,.agg (be root),i6 (κ b:Int)] w λe w'=>∃v u,e=rt #[v,u,i6 0]/\a8 w' v b/\(∀k,v.ownBlock=some k->w.heap.size<=k)/\bf w' w.heap.size u (dY b lv)/\PG w H P w':=by
 obtain⟨h1,h2⟩:=B.len;have a1:=(jw (κ b)).1;have aK:=an (show dY b lv=iW lv (κ (eG (κ b))) (κ (eG (κ b))) from rfl);have LC:=h4 h1 h2;have bl:1<=κ (eG (κ b)):=aQ
 have S0:=an (show(lv 0).length=bo (κ b) 128 by rw[B.sz 0 ae];simp only[LC];rfl);clear LC;obtain⟨SZ,SN,LV,bc,ar⟩:=eW (show ∀k,k<κ (eG (κ b))->1<=κ (lv k)/\(κ (lv k))<=512 from λk hk=>by rw[B.sz k hk];exact(E2 h1 h2) k hk) (show ∀k,k+1<κ (eG (κ b))->κ (lv (k+1))=bo (κ (lv k)) 8 from λk hk=>by rw[B.sz (k+1) hk,B.sz k ae];exact(λk h=>qs (k:=k) h1 h2 h) k hk) (λW=>Ba W (κ b) ae) (λk (h:k<κ (eG (κ b)))=>B.sz k h) B.top;obtain⟨ll,aS⟩:=bE (eG (κ b));obtain⟨t,ht⟩:=bE (κ ll);have ag:=an (show ∀g,w.heap.size<=g->¬PF H g from λg hg hf=>wQ);have EQ:=D2 root;rw[jj (B.nh (κ (eG (κ b))-1) ae root (by rw[B.top];simp))]at EQ;have bm:=an (show(ll.map (λk:Nat=>(k:Int))).length=t from ab);rw[<-aS]at a1 bl bc aK SZ SN ar LV;rw[<-ht]at a1 bl aK SZ SN ar;obtain⟨aD,a7⟩:=aw aS ht;clear aS ht;go_in;go_wp2_with(refine arm ?_);refine(LV _).mono ?_;rintro e w2⟨vs,rfl,os,us⟩;obtain⟨B2,U2⟩:=aw ((aF.new w 87 (be root)).up us) ((ai w (.cells (be root) 87)).trans us);obtain⟨sa,sc,aC⟩:=os.cu.slice;rw[bm.out]at aC;subst aC;obtain⟨U3,U4⟩:=aw (ai w2 (.cells (be root) 87)) (ai (w2.alloc (.cells (be root) 87)) (.cells (be root) 87));have bt:((t:Int)==0)=false:=ab
 clear LV;go_wp2_with(first
  | refine arm ?_
  | ((with_reducible refine eo _ 1 _ ?_);refine bS rfl 88 _ (.tmp 26) rfl _ 3 _ _ rfl Aaq cF ae ae rfl ?_)
  | ((with_reducible refine eo 88 1 _ ?_);refine bS rfl 88 87 (.tmp 28) rfl _ 3 24 (be root) rfl Aaq cF ae ae rfl ?_))
 have bn:=an (show bf ((w2.alloc (.cells (be root) 87)).alloc (.cells (be root) 87)) w.heap.size (cD (w2.heap.size+1) 1 1) (iW lv t 1)from by have:=(GL (w2.alloc (.cells (be root) 87)) w.heap.size (by have:=U2.size;have:=U3.size;omega) root);rw[aN]at this;unfold iW;rw[show iW lv t 0=[] from rfl,Aaz,show t-(0+1)=t-1 from rfl,ar.out];exact this)
 go_loopw [10,11,12] (λbF all i wr=>∃j:Nat,∃z:Int,j+1<=t/\i=i6 z/\z=(j:Int)-1/\bf wr w.heap.size bF (lv j)/\bf wr w.heap.size all (iW lv t (t-j))/\pX bF all/\Own bC 3 wr w.heap.size (.slice sa t sc) (ll.map (λk:Nat=>(k:Int)))/\PG w H P wr) (λ_ _ i _=>(Aau i+1).toNat)
 case atStart=>exact⟨t-1,(t:Int)-2,ae,rfl,ae,(by rw[ar.out];exact((GL _ _ U2.size _).up U4)),by rw[show t-(t-1)=1 from ae];exact bn,.inr ti,((os.up U3).up U4).mono aq,(PG.of A ((U2.trans U3).trans U4))⟩
 case round=>
  obtain⟨j,z,hj,rfl,hz,ao,ad,aZ,bd,hg⟩:=hrel;have GR:=an hg;obtain⟨la,lc,rfl⟩:=(ak.row ao pw).slice;have br:=(ak.row ad pw).slice;obtain⟨aa,ac,rfl⟩:=br;have AL:=an (uH (lv:=lv) (t:=t) (λk hk=>(SZ k hk).2) (t-j) ae);cases j with
  | zero=>
   have b3:(z>=0)=False:=ab
   obtain⟨bj,LT⟩:=aw (show iW lv t (t-0)=dY b lv by rw[aK.out];rfl) (EZ _ H P GR.1 _ _ (ak.row ao pw) (λk hk=>ag _ (ao.aJ k hk).1) b h1 h2 S0 B.ZD);clear hz;obtain⟨n0,ay⟩:=bE (κ (lv 0));obtain⟨n1,aL⟩:=bE (κ (iW lv t (t-0)));rw[<-ay]at LT ⊢;rw[<-aL]at ad ⊢;clear ay aL;go_wp2_with fail;refine LT.mono ?_;rintro e w3⟨v,rfl,hb,aW,hg⟩;obtain⟨bk,bh,bT⟩:=aV (GR.trans hg) (ak.ax ad hg.2 (λk hk=>ag _ (ad.aJ k hk).1)) (show ∀k,v.ownBlock=some k->w.heap.size<=k from λk hk=>bK GR.2.size (aW k hk));clear aW;go_wp2;go_ret3;exact⟨_,_,rfl,hb,bT,by rw[<-bj.out];exact bh,bk⟩
  | succ j=>
   obtain rfl:z=(j:Int):=ae
   have b3:((j:Int)>=0)=True:=aq
   have bb:j<t:=ae
   obtain⟨g,cap,a6,_,_,hc,_,_⟩:=Own.row bd di;have aM:j<κ ll:=di
   have x0:=hc j ab;rw[List.getElem_map]at x0;have aB:ll[j]=κ (lv j):=by have:=aD.out;subst this;exact(bc j aM).symm
   rw[aB]at x0;have az:=bd;rw[a6,bm.out]at az;rw[bm.out]at a6;simp only[Abg]at a6;obtain⟨rfl,_,rfl⟩:=a6;have hz1:=SZ j bb;have aE:=an (CQ _ H P GR.1 _ _ (ak.row ao pw) (λk hk=>ag _ (ao.aJ k hk).1) _ hz1.1 ae (SN j ae) (B.nod j (by rw[<-aD.out,<-a7.out];omega)) (B.nh j (by rw[<-aD.out,<-a7.out];omega)));have NX:=an (show iW lv t (t-j)=iW lv t (t-(j+1))++lv j by obtain⟨d,hd⟩:∃d,t-j=d+1:=⟨t-j-1,ae⟩;rw[hd,show t-(j+1)=d from ae];show iW lv t d++lv (t-(d+1))=_;rw[show t-(d+1)=j from ae])
   obtain⟨L0,aH⟩:=bE (lv j);rw[<-aH]at aE NX x0 hz1;have bI:=an aH;obtain⟨n0,ay⟩:=bE (κ (lv (j+1)));rw[<-ay]at aE ⊢;obtain⟨al,aT⟩:=bE (iW lv t (t-(j+1)));rw[<-aT]at ad NX AL ⊢;clear ay aT hc aB hz aH;unfold bC at x0;go_wp2_with fail;refine aE.mono ?_;rintro e w3⟨v,rfl,hv,hg⟩;obtain⟨V3,G3,A3,S3⟩:=bW (hv.mono (base':=w.heap.size) GR.2.size) (GR.trans hg) (ak.ax ad hg.2 (λk hk=>ag _ (ad.aJ k hk).1)) (Own.ax az hg.2 (λk hk=>ag _ (az.aJ k hk).1));have aY:=an (show pX v (.slice aa (κ al) ac)from by
    cases h:v.ownBlock with
    | none=>exact .inl h
    | some k=>refine .inr (λe=>?_);have h1:=(hv.aJ k h).1;have h2:=(ad.aJ k (by rw[<-e];exact h)).2;omega)
   obtain⟨va,vc,aP⟩:=(ak.row hv pw).slice;obtain⟨m0,aU⟩:=bE (κ L0);rw[<-aU]at aP;subst aP;obtain⟨bu,n1⟩:=aw aU (show(κ al+κ L0)*24<=140737488355328 from di);clear x0 aU;go_wp2_with(first
    | (at_builtin;refine eV pw rfl (.tmp 50) (.tmp 51) 88 rfl _ _ _ _ Aaq cF rfl _ _ rfl A3 _ _ rfl (ak.row V3 pw) n1 di G3.2.size ?_))
   intro v7 w7 aI aX ba bs;have aO:=λkk aG=>(A3.aJ kk aG).1;go_wp2;go_roundw
   case rel=>exact⟨j,(j:Int)-1,ae,gO,rfl,by rw[<-bI.out];exact(ak.kept V3 aX aY),by rw[NX.out];exact aI,(aY.grown bs (λk hk=>(V3.aJ k hk).2)),(s8 S3 aX (Ls S3 A3 av)),⟨G3.1.ax (Touch.bg (F:=λn=>w.heap.size<=n) aX (λkk aG=>aO kk aG)) (λb hb=>λhle=>ag b hle hb),G3.2.hp aX aO⟩⟩
   case measure=>simp[Aau]
def mS(st:Nat)(ats:List Nat)(b:List aj):Nat->List (Nat × cS) × List Nat
 | 0=>(gj ats b (Aak (bo (κ b) 128)),ats.drop (bo (κ b) 128))
 | k+1=>(hv (mS st ats b k).2 ((mS st ats b k).1.map (ar st)) (Aak (bo (κ (mS st ats b k).1) 8)),(mS st ats b k).2.drop (bo (κ (mS st ats b k).1) 8))
def ly(st:Nat)(ats:List Nat)(b:List aj)(k:Nat):List au:=(mS st ats b k).1.map (ar st)
def fE(st:Nat)(ats:List Nat)(b:List aj):Nat->List (Nat × cS)
 | 0=>[]
 | k+1=>fE st ats b k++(mS st ats b k).1
theorem mc{l:List Nat}(h:k<κ l):(l.take (k+1)).sum=(l.take k).sum+l[k]:=by rw[et h,wO];simp only[Ace,Ac5];omega
theorem E1{l:List Nat}(k:Nat):(l.take k).sum<=l.sum:=by
 have h2:l.sum=(l.take k).sum+(l.drop k).sum:=by rw[<-wO,fQ]
 omega
theorem A6{st:Nat}{ats:List Nat}{b:List aj}(h1:1<=κ b)(h2:κ b<=65535)(hn:κ ats=dN (κ b)):∀k(h:k<κ (eG (κ b))),κ (mS st ats b k).1=(eG (κ b))[k]/\(mS st ats b k).2=ats.drop ((eG (κ b)).take (k+1)).sum
 | 0,h=>by
  have e:=h4 h1 h2;have e0:(eG (κ b))[0]=bo (κ b) 128:=by simp only[e,Abw];rfl
  have hs:=mc h;rw[Abk,Ac5,Aby]at hs;have hle:=E1 (l:=eG (κ b)) 1;rw[e0]at hs;refine⟨?_,?_⟩
  ·show(gj ats b _).length=_;rw[sA (by rw[Acm,hn];unfold dN;omega),Acm,e0]
  ·show ats.drop _=_;rw[hs,Aby]
 | k+1,h=>by
  obtain⟨a,c⟩:=A6 (st:=st) h1 h2 hn k ae;obtain⟨aC,hs,hle⟩:=cZ (qs h1 h2 h) (mc h) (E1 (l:=eG (κ b)) (k+1+1));have aa:bo (κ (mS st ats b k).1) 8=(eG (κ b))[k+1]:=by rw[a,aC]
  refine⟨?_,?_⟩
  ·show(hv _ _ _).length=_;rw[sy (by rw[Acm,c,hA,hn,aa];unfold dN;omega),Acm,aa]
  ·show(mS st ats b k).2.drop _=_;rw[c,Ac4,aa,hs]
theorem DH:∀(n s k:Nat)(h:k<κ (s::mf s)),s<=n->((s::mf s)[k]<=1↔k+1=κ (s::mf s))
 | 0,s,k,h,hs=>by have e:=hx (s:=s) ae;exact N7
 | n+1,s,k,h,hs=>by
  by_cases h1:s<=1
  ·have e:=hx h1;exact N7
  ·have e:=kC (s:=s) ae;have h8:=Hi (s:=s) ae;cases k with
   | zero=>simp only[e,Abw,Aaj];omega
   | succ k=>
    have h':k<κ (lZ s 8::mf (lZ s 8)):=by rw[e]at h;simpa using h
    have:=DH n (lZ s 8) k h' ae;simp only[e,Adi,Aaj]at this ⊢;rw[this];omega
theorem T8(h1:1<=n)(h2:n<=65535)(h:k<κ (eG n)):((eG n)[k]<=1↔k+1=κ (eG n)):=by simp only[(h4 h1 h2)]at h ⊢;exact DH _ _ k h (aE _)
theorem rz:prog.underlying 41=some (.slice (prog.elem 41)):=al
theorem rA(W:af):(sizeOf (prog.elem 41)).run Aag W=.ok 1 W:=al
theorem A4(st:Nat)(ats:List Nat)(b:List aj)(k:Nat):(mS st ats b (k+1)).1=hv (mS st ats b k).2 (ly st ats b k) (Aak (bo (κ (ly st ats b k)) 8))/\(mS st ats b (k+1)).2=(mS st ats b k).2.drop (bo (κ (ly st ats b k)) 8):=by unfold ly;rw[Aac];exact⟨rfl,rfl⟩
def ER(st:Nat)(ats:List Nat)(b:List aj):∀k,∀i∈(mS st ats b k).2,i∈ats
 | 0,i,h=>tg h
 | k+1,i,h=>ER st ats b k i (tg h)
theorem EP(st:Nat)(ats:List Nat)(b:List aj):∀k,∀x∈(mS st ats b k).1,x.1∈ats
 | 0,x,h=>s9 (List.of_mem_zip h).1
 | k+1,x,h=>ER st ats b k _ (s9 (List.of_mem_zip h).1)
theorem og{P:bq}{b:List aj}(has:∀i∈ats,4<=i/\i<1024/\P.s i=2/\i<κ P.C)(aG:1<=P.st/\P.st<=281474976710655)(k:Nat):∀p∈ly P.st ats b k,p.wf/\cA p=true:=λp hp=>by obtain⟨x,hx,rfl⟩:=Abd.1 hp;have:=has _ (EP _ _ _ k x hx);exact ik this.1 this.2.1 aG.1 aG.2 x.2
theorem uB{st:Nat}{ats:List Nat}{b:List aj}(h1:1<=κ b)(h2:κ b<=65535)(hn:κ ats=dN (κ b)):∀k,k<=κ (eG (κ b))->κ (fE st ats b k)=((eG (κ b)).take k).sum
 | 0,_=>rfl
 | k+1,h=>by show(fE st ats b k++(mS st ats b k).1).length=_;rw[Aaf,uB h1 h2 hn k ae,(A6 h1 h2 hn k ae).1,mc]
theorem yw(P:bq)(l m:List (Nat × cS)):bV P (l++m)=bV (bV P l) m:=by
 induction l generalizing P with
 | nil=>rfl
 | cons x l ih=>obtain⟨i,s⟩:=x;exact ih _
theorem eE{H:aR}{P:bq}(A:PA w H P){v:ah}{xs:List au}(h:bf w base v xs):∀k,v.ownBlock=some k->¬PF H k:=λk hk=>by
 obtain⟨_,h2⟩:=h;rcases h2 with⟨h3,_⟩|⟨g,cap,cur,h3,_,h5,_⟩
 ·rw[h3]at hk;cases hk
 ·rw[h3]at hk;simp only[Aan,Aai]at hk;subst hk;exact A.cc (t:=87) (C:=cur) h5 av
theorem rW{a:Option Adr}{lo hi cap n c:Nat}(h:(bY a lo hi cap).ownBlock=some k):(Acr a n c).ownBlock=some k:=by
 cases a with
 | none=>unfold bY at h;simp[Aan]at h
 | some a=>
  unfold bY at h;split at h
  ·exact h
  ·simp only[Option.map_some,Aan,Aai]at h;rw[show(a.add (lo*1)).block=a.block from by unfold Addr.add;split<;>rfl]at h;simp only[Aan,h]
theorem tA{f:α->ah}{v:ah}{l:List α}(h:aD f w v l)(h0:0<κ l):∀k,v.ownBlock=some k->k<w.heap.size:=λk hk=>by
 rcases h with⟨rfl,_⟩|⟨b,off,cap,h1,h2,h3,h4,h5⟩
 ·simp at h0
 ·rw[h1]at hk;simp only[Aan,Aai]at hk;subst hk;exact ie w _ (h5 0 h0)
theorem Dd(w:af)(H:aR)(P:bq)(A:PA w H P)(vb:ah)(b:List aj)(hb:a8 w vb b)(aW:∀k,vb.ownBlock=some k->¬PF H k)(h1:1<=κ b)(h2:κ b<=65535)(va:ah)(ats:List Nat)(ha:aD bC w va (ats.map (λk:Nat=>(k:Int))))(han:∀k,va.ownBlock=some k->¬PF H k)(aT:κ ats=dN (κ b))(has:∀i∈ats,4<=i/\i<1024/\P.s i=2/\i<κ P.C)(aG:1<=P.st/\P.st<=281474976710655)(hm:P.m+4096<=900000):Aae Aag 257 #[pz H.pb,vb,va] w λe w'=>∃root,ly P.st ats b (κ (eG (κ b))-1)=[root]/\e=rt #[.agg (be root),i6 0]/\PT w H (bV P (fE P.st ats b (κ (eG (κ b))))) w':=by
 obtain⟨T4,N1⟩:=jw (κ b);have LC:=h4 h1 h2;have bl:1<=κ (eG (κ b)):=aQ
 have aL:1<=dN (κ b):=by unfold dN;rw[LC,Ace];have:=xe (b:=128) ae h1;omega
 have al:dN (κ b)<=1024:=N1;obtain⟨bJ,LM,a7,bO⟩:=bW (A6 (st:=P.st) h1 h2 aT) (E2 h1 h2) han has;have e0:(eG (κ b))[0]' ae=bo (κ b) 128:=by simp only[LC,Abw];rfl
 have aM:bo (κ b) 128<=κ ats:=by have:=mc (l:=eG (κ b)) (k:=0) ae;have h3:=E1 (l:=eG (κ b)) (0+1);rw[Abk,Ac5,e0]at this;rw[aT];unfold dN;omega
 have ND:=an (vu (w.alloc (.cells (be hole) 87)) (κ b) ae);obtain⟨ba,bc,rfl⟩:=hb.slice;obtain⟨aa,ac,rfl⟩:=ha.slice;rw[Aac,aT]at ha a7;have ST:=an (λW (u:Up w W)=>G0 W H P (A.up u) _ b (hb.up u) aW h1 h2 _ _ (ha.up u) a7 aM (λi hi=>(has i hi).2) ae);have bm:κ (ats.map (λk:Nat=>(k:Int)))=κ ats:=aq
 rw[bm,aT];obtain⟨bD,HAL,E0⟩:=aV aM aT e0;have L0:(fE P.st ats b 1)=gj ats b (Aak (bo (κ b) 128)):=aA
 have bI:=an L0;clear aW han has aM LC e0 L0 bm;obtain⟨nd,aK⟩:=bE (dN (κ b));rw[<-aK]at ND ST ha a7 aL al ⊢;have HND:=an aK;clear aK N1;have bn:((nd:Int)==0)=false:=ab
 go_in;go_wp2_with(refine arm ?_);refine ND.mono ?_;rintro e w2⟨rfl,u2⟩;obtain⟨U2,B2⟩:=aw ((ai w (.cells (be hole) 87)).trans u2) ((aF.new w 87 (be hole)).up u2);go_wp2_with fail;refine(ST _ U2).mono ?_;rintro e w3⟨v,rfl,hv,D3⟩;obtain⟨t,ht⟩:=bE (κ (eG (κ b)));have HT:=an ht;have⟨bs,A3,T3,O3⟩:=D3;have a6:=(bJ 0 ae).1;have bz:κ (ly P.st ats b 0)=bo (κ b) 128:=by unfold ly;rw[Aac,a6];exact E0
 obtain⟨vv,vc,aP⟩:=(ak.row hv pw).slice;obtain⟨n0,ay⟩:=bE (bo (κ b) 128);have aO:κ ((gj ats b (Aak (bo (κ b) 128))).map (ar P.st))=n0:=by rw[ay];exact bz
 rw[aO]at aP;subst aP;have bj:n0<=nd:=di
 have AT:=aD.piece ha (lo:=n0) (hi:=nd) bj Un;rw[dq Un,<-qy]at AT;have bP:∀W,(Aav 41 (.slice aa nd ac) (some (i6 (n0:Int))) none none).run Aag W=.ok (bY aa n0 nd ac) W:=λW=>dg (P:=Aag) 41 rz rA aa nd ac n0 bj W;have bw:=an (show aD bC w (bY aa n0 nd ac) ((mS P.st ats b 0).2.map (λk:Nat=>(k:Int)))from by rw[show(mS P.st ats b 0).2=ats.drop n0 from by rw[ay];rfl];exact AT)
 have bk:=an (show ∀k,(bY aa n0 nd ac).ownBlock=some k->¬PF H k from λk hk=>a7 k (rW hk));obtain⟨bU,aB⟩:=bE (bY aa n0 nd ac);rw[<-aB]at bP bw bk;clear O3 ST a6 bz aO ay bj aB ht;have b0:1<=t:=di
 go_wp2;clear bP;go_loopw [2,9,10] (λbB bF err wr=>∃j:Nat,j<t/\err=i6 0/\bf wr w.heap.size bF (ly P.st ats b j)/\aD bC w bB ((mS P.st ats b j).2.map (λk:Nat=>(k:Int)))/\(∀k,bB.ownBlock=some k->¬PF H k)/\PT w H (bV P (fE P.st ats b (j+1))) wr/\aF wr w.heap.size 87 (be hole)) (λbB _ _ _=>Pf bB)
 case atStart=>exact⟨0,ae,rfl,(hv.mono U2.size),bw,bk,(by rw[bI.out];exact PT.pre U2 D3),(B2.ax T3 ((A.up U2).cc B2 av))⟩
 case round=>
  obtain⟨j,hj,rfl,ao,CF,bx,hd,hblk⟩:=hrel;have aN:=an bx;have bb:j<κ (eG (κ b)):=di
  obtain⟨bu,bN⟩:=bJ j bb;have br:κ (ly P.st ats b j)=(eG (κ b))[j]:=by unfold ly;rw[Aac,bu]
  obtain⟨bR,ad⟩:=az (LM j bb) ((λk h=>T8 (k:=k) h1 h2 h) j bb);obtain⟨la,lc,aY⟩:=(ak.row ao pw).slice;obtain⟨xa,xc,bt⟩:=CF.slice;rw[Aac]at bt;rw[br]at aY;clear bx bk;by_cases bK:1<(eG (κ b))[j]
  ·have bh:j+1<κ (eG (κ b)):=by omega
   have⟨vp,A5,T5,O5⟩:=hd;obtain⟨aC,aS,aJ,aI⟩:=iv ((λk h=>qs (k:=k) h1 h2 h) j bh) (mc bb) (mc bh) (E1 (l:=eG (κ b)) (j+1+1));have bM:(eG (κ b)).sum=nd:=by rw[HND.out];rfl
   have aX:κ (mS P.st ats b j).2=nd-((eG (κ b)).take (j+1)).sum:=by rw[bN,hA,HAL.out,<-HND.out]
   have bX:bo (κ (ly P.st ats b j)) 8=(eG (κ b))[j+1]:=aQ
   have bL:=LM (j+1) bh;obtain⟨q1,q2,q3,q4,q5⟩:=gp P (fE P.st ats b (j+1));have aH:=(uB (st:=P.st) h1 h2 aT) (j+1) ae;obtain⟨k1,k2⟩:=A4 P.st ats b j;have hgd:=og (P:=P) (b:=b) bO aG j;have bQ:=CY wr (H.at vp) (bV P (fE P.st ats b (j+1))) A5 u9 (ly P.st ats b j) (ak.row ao pw) (eE A5 ao) ae ae (λp hp=>(hgd p hp).2) (λp hp=>(hgd p hp).1)
    u2 (mS P.st ats b j).2 (CF.ax T5 aN) (λk hk=>qJ A O5 (tA CF ab k hk) (aN k hk)) ae (λi hi=>by
     have:=bO i (ER _ _ _ j i hi)
     exact⟨this.2.1,aQ,ae⟩) (by rw[q4,aH];omega)
   rw[q2,<-k1]at bQ;have AT:=aD.piece (a:=xa) (n:=κ (mS P.st ats b j).2) (cap:=xc) (bt ▸ CF) (lo:=(eG (κ b))[j+1]) (hi:=κ (mS P.st ats b j).2) ae aq;rw[dq aq,<-qy]at AT;have aU:∀W,(Aav 41 (.slice xa (κ (mS P.st ats b j).2) xc) (some (i6 (((eG (κ b))[j+1]:Nat):Int))) none none).run Aag W=.ok (bY xa (eG (κ b))[j+1] (κ (mS P.st ats b j).2) xc) W:=λW=>dg (P:=Aag) _ rz rA _ _ _ _ ae W;obtain⟨bw,bk⟩:=aw (show aD bC w (bY xa (eG (κ b))[j+1] (κ (mS P.st ats b j).2) xc) ((mS P.st ats b (j+1)).2.map (λk:Nat=>(k:Int)))from aQ) (show ∀k,(bY xa (eG (κ b))[j+1] (κ (mS P.st ats b j).2) xc).ownBlock=some k->¬PF H k from λk hk=>aN k (by rw[bt];exact rW hk));have MS:=an (show Pf (bY xa (eG (κ b))[j+1] (κ (mS P.st ats b j).2) xc)<κ (mS P.st ats b j).2 from by show(mS P.st ats b j).2.length-(eG (κ b))[j+1]<_;omega)
   have NL:=an (show((mS P.st ats b (j+1)).1.map (ar P.st)).length=(eG (κ b))[j+1] from by rw[Aac];exact(bJ (j+1) bh).1);have bT:=an (show ∀w6,PT wr (H.at vp) (bV (bV P (fE P.st ats b (j+1))) (mS P.st ats b (j+1)).1) w6->PT w H (bV P (fE P.st ats b (j+1+1))) w6 from λw6 D6=>by have:=PT.then T5 O5 D6;rw[<-yw]at this;exact this)
   obtain⟨bU,aB⟩:=bE (bY xa (eG (κ b))[j+1] (κ (mS P.st ats b j).2) xc);rw[<-aB]at aU bw bk MS;obtain⟨m1,bA⟩:=bE ((eG (κ b))[j+1]);rw[<-bA]at aU NL;obtain⟨nj,bS⟩:=bE ((eG (κ b))[j]);rw[<-bS]at aY bK bR;obtain⟨xn,bg⟩:=bE (κ (mS P.st ats b j).2);rw[<-bg]at aU MS bt;clear aB bA bS bg aC aS aJ aI bM aX bX bL q1 q2 q3 q4 q5 aH k1 k2 hgd O5 ad br bu bN bb aN;have b5:((nj:Int)>1)=True:=ab
   subst aY bt;go_wp2_with fail;refine bQ.mono ?_;rintro e w6⟨v,rfl,hv,D6⟩;have⟨_,_,T6,_⟩:=D6;obtain⟨va,vc,aP⟩:=(ak.row hv pw).slice;rw[NL.out]at aP;subst aP;clear NL;go_wp2;go_roundw
   case rel=>exact⟨j+1,di,rfl,(hv.mono T5.size),bw,bk,(bT _ D6),(hblk.ax T6 (A5.cc hblk av))⟩
   case measure=>exact MS
  ·have bh:=ad.1 ae;obtain⟨root,au⟩:=List.length_eq_one_iff.1 (show(ly P.st ats b j).length=1 from ae);have a1:(eG (κ b))[j]=1:=by omega
   rw[a1]at aY;subst aY;rw[au]at ao;obtain⟨g,off,rfl,bd,bZ,hc⟩:=(ak.row ao pw).range pw aq;obtain⟨RC,bH⟩:=aw (show wr.rangeAt g off (dL root)from by have:=hc 0 aq;simpa using this) bh;clear hc a1 bK ad bR br bu bN bb;subst bt;go_wp2_with(first
    | refine cT 87 57 (be root) RC ?_
    | refine db 87 6 58 (be root) hblk ?_)
   intro wz hbz ag;go_wp2;exact bG (.tuple #[.agg (be root),i6 0]) hbz ⟨root,(by rw[<-bh,Nat.add_sub_cancel];exact au),rfl,by rw[<-bH.out];exact(hd.grow hblk av ag (aE _))⟩
theorem Xc{L L':List As}(h:L.Sublist L':=by repeat(first|exact List.Sublist.slnil|(with_reducible refine List.Sublist.cons₂ _ ?_)|refine List.Sublist.cons _ ?_)):L.Sublist L':=h
section
variable {P:bp} {ops:Array Abn} {Q:Exit->Act->af->Prop} {F0:Nat->Prop} {x0 x w w':af} {L0 L L':List As} {a:Act} {o:Abn} {J:List Nat} {k b:Nat} {A B D:As}
theorem Zn{f:FuncId}{args:Array ah}{a':ah->Act}{R:af->Ending->af->Prop}(C:∀w,Up x w->Fr F0 x0 L w->Calls P f args w (R w))(h:∀w,Up x w->Fr F0 x0 L w->∀e w',R w e w'->∃v L',e=.returned v/\yo F0 x0 L w L' w'/\L0.Sublist L'/\RK P ops Q F0 x0 L0 L' J (k+1) (a' v) w')(hJ:J.contains k=false:=by rfl)(hi:ops[k]?=some o:=by rfl)(ha:∀v,a.put o.dst v=a' v:=by intro _;first|(simp only[Act.put,fB];rfl)|rfl)(he:∀w,(execOp a.eval o).run P w=.ok (.enter f args) w:=by intro _;kernel_rfl)(hw:Region.wanted o (yielded ops a.tmps)=true:=by rfl)(hc:(MC P ops (ml ops.size J k) k && Region.noSelect ops)=true:=by kernel_rfl)(hQ:∀c a w b,a.defers=b.defers->Q (.panic c) a w->Q (.panic c) b w:=by intro _ ⟨_,_⟩ _ ⟨_,_⟩ e h;cases e;exact h):RK P ops Q F0 x0 L0 L J k a x:=ko (λw u s K hK=>by
  unfold Aca;rw[he];refine(C w u s).mono λe w' hR=>?_;obtain⟨v,L',rfl,n,hl,r⟩:=h w u s e w' hR;exact hK v w' _ n (λA hA _=>hl.subset hA) (by rw[ha];exact r)) hJ hi hw hc hQ
theorem yo.Aj(s:Fr F0 x0 L w)(hU:mW L A B L')(T:Touch A.F w w')(hB:B.P w')(hF:∀n,B.F n->n<w'.heap.size/\(A.F n\/w.heap.size<=n)):yo F0 x0 L w L' w':=⟨s.Aj hU T hB hF,λq t C f bq=>⟨⟨f.1,λE h hq=>by
 have:=bq.lt;rcases hU.sub E h with rfl|h
 ·rcases(hF q hq).2 with h|h
  ·exact f.2 A hU.mem h
  ·omega
 ·exact f.2 E h hq⟩,bq.ax T (f.2 A hU.mem)⟩⟩
theorem yo.add(s:Fr F0 x0 L w)(n:yo F0 x0 L w L' w')(hD:D.P w')(fD:∀n,D.F n->w.heap.size<=n/\n<w'.heap.size)(d:∀E∈L',∀n,D.F n->¬E.F n):yo F0 x0 L w (D::L') w':=by
 refine⟨⟨n.s.t,λE h=>?_,λE h n' hn=>?_,gl.2 ⟨d,n.s.d⟩⟩,λq t C f bq=>⟨⟨f.1,λE h hq=>?_⟩,(n.k q t C f bq).2⟩⟩
 ·rcases Aam.1 h with rfl|h
  ·exact hD
  ·exact n.s.p E h
 ·rcases Aam.1 h with rfl|h
  ·exact⟨(fD _ hn).2,.inr (bK s.t.size (fD _ hn).1)⟩
  ·exact n.s.f E h _ hn
 ·rcases Aam.1 h with rfl|h
  ·have:=(fD q hq).1;have:=bq.lt;omega
  ·exact(n.k q t C f bq).1.2 E h hq
theorem yo.pg{H:aR}{vp:ah}{P:bq}(s:Fr F0 x L w)(d:PG w (H.at vp) P w')(hU:mW L (pl x H vp P) (pl x H vp P) L':=by exact wc):yo F0 x L w L' w':=.Aj s hU d.2 ⟨d.1,(s.p _ hU.mem).2⟩ (λn h=>⟨d.1.lt n h,.inl h⟩)
theorem yo.pt{H:aR}{vp aa v:ah}{P P':bq}{l:List au}(s:Fr F0 x L w)(hA:PA w' (H.at aa) P')(T:Touch (PF (H.at vp)) w w')(O:∀b,aa.ownBlock=some b->vp.ownBlock=some b\/w.heap.size<=b)(ov:bf w' w.heap.size v l)(hU:mW L (pl x H vp P) (pl x H aa P') L':=by exact wc):yo F0 x L w (op x.heap.size v l::L') w':=yo.add s (.Aj s hU T ⟨hA,λb h=>by
  rcases O b h with h|h
  ·exact(s.p _ hU.mem).2 b h
  ·exact .inr (bK s.t.size h)⟩ (λn h=>⟨hA.lt n h,by
  rcases h with h|h|h|h|h|h
  ·exact .inl (.inl h)
  ·exact .inl (.inr (.inl h))
  ·exact .inl (.inr (.inr (.inl h)))
  ·exact .inl (.inr (.inr (.inr (.inl h))))
  ·exact .inl (.inr (.inr (.inr (.inr (.inl h)))))
  ·rcases O n h with h|h
   ·exact Gs
   ·exact .inr h⟩)) (ov.mono s.t.size) (λn h=>ov.aJ n h) (λE hE n h he=>by
  rcases hU.sub E hE with rfl|hE
  ·exact eE hA ov n h he
  ·have:=(s.f E hE n he).1;have:=(ov.aJ n h).1;omega)
theorem kwg{id:Nat}(g:Nat){t:TypeId}{C:Array ah}(s:Fr F0 x0 L w)(h:∀w,Fr F0 x0 L w->RK P ops Q F0 x0 L0 L [] 0 a w)(hr:yq L (bk g t C) L0:=by exact SD)(hm:P.follows .mixedOrders=true:=by kernel_rfl):(Code.region id ops true).wp P Q a w:=ka L0 s hr.sub h hm
theorem ksp{m g off:Nat}{y:bU}{ty t:TypeId}{V C C':Array ah}{a':Act}(h:∀w',Fr F0 x0 L' w'->RK P ops Q F0 x0 L0 L' J (k+1) a' w')(hJ:J.contains k=false:=by rfl)(hi:ops[k]?=some o:=by rfl)(ho:o.op=.store ty (.tmp m) y:=by rfl)(hx:a.eval (.tmp m)=.pointer (some ⟨g,off,none⟩):=by rfl)(hy:(a.eval y).cells=V:=by exact zcv)(hm:bk g t C∈L:=by exact gG)(hV:(splice C.toList off V.toList).toArray=C':=by assumption)(hU:mW L (bk g t C) (bk g t C') L':=by exact wc)(hfit:off+V.size<=C.size:=by exact Fa aA)(aN:(P.info? ty).map (·.size)=some V.size:=by exact Sx)(h1:V.all (·.oneCell')=true:=by exact zoa)(hl:L0.Sublist L':=by exact Xc)(hw:Region.wanted o (yielded ops a.tmps)=true:=by rfl)(ha:a.put o.dst undef=a':=by first|(simp only[Act.put,fB];rfl)|rfl)(hc:(MC P ops (ml ops.size J k) k && Region.noSelect ops)=true:=by kernel_rfl)(hQ:∀c a w b,a.defers=b.defers->Q (.panic c) a w->Q (.panic c) b w:=by intro _ ⟨_,_⟩ _ ⟨_,_⟩ e h;cases e;exact h):RK P ops Q F0 x0 L0 L J k a x:=kp (A:=bk g t C) (B:=bk g t C') (λw s=>⟨t,C,s.fg hU.mem,hfit,rfl,λw' hb _=>⟨by rw[hV]at hb;exact hb,λ_ h=>h⟩⟩) (λ_ h=>h) h hU hJ hi ho hx hy aN h1 hl hw ha hc hQ
theorem Fr.own{g:Nat}{t:Aab}{C:Array ah}(s:Fr F0 x0 L w)(h:aF x0 g t C)(hn:¬F0 g):Fr (λk=>F0 k\/k=g) x0 (bk g t C::L) w:=by
 have hb:aF w g t C:=h.ax s.t hn;refine⟨s.t.mono λ_ h=>.inl h,λD hD=>?_,λD hD n hd=>?_,gl.2 ⟨λD hD n ag hd=>?_,s.d⟩⟩
 ·rcases Aam.1 hD with rfl|hD
  ·exact hb
  ·exact s.p D hD
 ·rcases Aam.1 hD with rfl|hD
  ·have hd:n=g:=hd;exact⟨by rw[hd];exact hb.lt,.inl (.inr hd)⟩
  ·exact⟨(s.f D hD n hd).1,(s.f D hD n hd).2.imp .inl (λh=>h)⟩
 ·have e:n=g:=ag;rcases(s.f D hD n hd).2 with h1|h1
  ·exact hn (e ▸ h1)
  ·have:=h.lt;omega
theorem kpl{id:Nat}{H:aR}{vp:ah}{P':bq}(s:Fr F0 x0 L w)(h:∀w,Fr F0 x0 L w->RK P ops Q F0 x0 L0 L [] 0 a w)(hr:yq L (pl x H vp P') L0:=by exact SD)(hm:P.follows .mixedOrders=true:=by kernel_rfl):(Code.region id ops true).wp P Q a w:=ka L0 s hr.sub h hm
end
theorem j2:∀(l:List (Nat × cS))(P:bq)(i:Nat),i ∉ l.map (·.1)->(bV P l).C[i]?=P.C[i]?
 | [],_,_,_=>rfl
 | (j,s)::l,P,i,h=>by simp only[Acd,Aam,not_or]at h;have:=j2 l {P with C:=P.C.set j s,m:=P.m+1,fl:=false} i h.2;show(bV _ l).C[i]?=_;rw[this];exact Fv (λe=>h.1 e.symm)
theorem vH:∀(l:List (Nat × cS))(P:bq),(l.map (·.1)).Nodup->∀x∈l,x.1<κ P.C->(bV P l).C[x.1]?=some x.2
 | [],_,_,x,h,_=>hE
 | (j,s)::l,P,hn,x,hx,hl=>by
  simp only[List.map_cons,List.nodup_cons]at hn;show(bV {P with C:=P.C.set j s,m:=P.m+1,fl:=false} l).C[x.1]?=_;rcases List.mem_cons.1 hx with rfl|hx
  ·rw[j2 l _ _ hn.1];show(P.C.set j s)[j]?=_;rw[uQ hl]
  ·exact vH l _ hn.2 x hx (by show x.1<κ (P.C.set j s);rw[List.length_set];exact hl)
theorem DG{st:Nat}{ats:List Nat}{b:List aj}{k:Nat}{x:Nat × cS}(hx:x∈(mS st ats b k).1):∀{t:Nat},k<t->x∈fE st ats b t
 | 0,h=>ae
 | t+1,h=>by
  show x∈fE st ats b t++_;rcases jO k t with h'|h'
  ·exact nO _ (DG hx h')
  ·obtain rfl:k=t:=by omega
   exact oX _ hx
theorem XO{b:List aj}(h1:1<=κ b)(h2:κ b<=65535)(hn:κ ats=dN (κ b))(k:Nat)(h:k<κ (eG (κ b))):(mS st ats b k).1.map (·.1)=(ats.drop ((eG (κ b)).take k).sum).take (eG (κ b))[k]:=by
 cases k with
 | zero=>
  have e0:(eG (κ b))[0]=bo (κ b) 128:=by simp only[(h4 h1 h2),Abw];rfl
  show(gj ats b _).map _=_;unfold gj;rw[List.map_fst_zip ab,Acm,e0,Abk,Ac5,Aaw]
 | succ k=>
  obtain⟨k1,_⟩:=A4 st ats b k;obtain⟨a,c⟩:=A6 (st:=st) h1 h2 hn k ae;have aC:=qs h1 h2 h;have aa:bo (κ (ly st ats b k)) 8=(eG (κ b))[k+1]:=by grind [ly]
  rw[k1];unfold hv;rw[List.map_fst_zip ab,Acm,aa,c]
theorem DF{st:Nat}{ats:List Nat}{b:List aj}(h1:1<=κ b)(h2:κ b<=65535)(hn:κ ats=dN (κ b)):∀k,k<=κ (eG (κ b))->(fE st ats b k).map (·.1)=ats.take ((eG (κ b)).take k).sum
 | 0,_=>by simp[fE]
 | k+1,h=>by show(fE st ats b k++_).map _=_;rw[Aar,DF h1 h2 hn k ae,XO h1 h2 hn k ae,mc ae,List.take_add]
theorem ky{b:List aj}(h1:1<=κ b)(h2:κ b<=65535)(hn:κ ats=dN (κ b)):(fE st ats b (κ (eG (κ b)))).map (·.1)=ats:=by rw[DF h1 h2 hn _ (aE _),dq (aE _),show(eG (κ b)).sum=κ ats by rw[hn];rfl,fF]
theorem D6{P:bq}{b:List aj}(h1:1<=κ b)(h2:κ b<=65535)(hn:κ ats=dN (κ b))(hd:ats.Nodup)(has:∀i∈ats,4<=i/\i<1024/\P.s i=2/\i<κ P.C)(aG:1<=P.st/\P.st<=281474976710655){root:au}(hr:ly P.st ats b (κ (eG (κ b))-1)=[root]):iO (bV P (fE P.st ats b (κ (eG (κ b))))).C root b (ly P.st ats b):=by
 have hg:∀k,k<κ (eG (κ b))->∀x∈(mS P.st ats b k).1,fM (bV P (fE P.st ats b (κ (eG (κ b))))).C (ar P.st x)=some x.2:=λk hk x hx=>by have:=has _ (EP _ _ _ k x hx);unfold fM;rw[aY (λe=>by grind [ar,hole])];rw[bI (by show(0:Int)<=(x.1:Int);omega)];show((bV P _).C[((x.1:Nat):Int).toNat]?).bind _=_;rw[Abp,(vH _ P (by grind [ky]) x (DG hx hk) this.2.2.2),qA];simp[dQ,ar]
 refine⟨⟨h1,h2⟩,λk hk=>?_,hr,λk hk p hp=>?_,λi hi=>?_,λk hk i hi=>?_⟩
 ·grind [ly,A6]
 ·obtain⟨x,hx,rfl⟩:=Abd.1 hp;grind [EP,ar,hole]
 ·have ht:0<κ (eG (κ b)):=by grind [h4]
  grind [mS,ly,dB,gj,ar]
 ·have aC:i<κ (mS P.st ats b (k+1)).1:=by grind [ly]
  have he:(mS P.st ats b (k+1)).1[i].2=bJ (hR (fc (ly P.st ats b k) i)):=by simp[A4,hv]
  have:=hg (k+1) hk _ (cw aC);rw[he]at this;have hl:(ly P.st ats b (k+1))[i]=ar P.st (mS P.st ats b (k+1)).1[i]:=by simp[ly]
  rw[hl];unfold node8;rw[this,qA];have hgd:=og (b:=b) has aG k;obtain⟨L8,GA⟩:=az (pj (p:=fc (ly P.st ats b k) i) (by grind [lR])) (AO (λp hp=>(hgd p hp).2) i);obtain⟨v1,v2,v3⟩:=rS L8 GA;rw[v1,v3,xZ L8 (JA (λp hp=>(hgd p hp).1) i) GA];rfl
theorem JI:∀W:af,(Acj 211).run Aag W=.ok (.agg noBits) W:=(lA (P:=Aag) (t:=211) (v:=.agg noBits) (n:=4096) al).1
theorem TS:(prog.info? 211).map (·.size)=some 4096:=al
theorem QE(C:Array ah)(f:Nat->Bool)(hc:∀i,i<4096->C[i]?=some (.bool (f i)))(k:Nat)(h:k<4096)(W:af):(Adf 211 (.agg C) (i6 (k:Int))).run Aag W=.ok (.bool (f k)) W:=by
 have aS:(sizeOf 4).run Aag W=.ok 1 W:=al
 have hg:(isAgg 4).run Aag W=.ok false W:=al
 have hc:=hc k h;simp[Adf,asIntOf,run_underlying (P:=Aag) underlying211,ae,aS,part,hg,hc];omega
theorem Qp{l:List Int}(hs:l.Pairwise (· < ·)){pre:List Int}{x:Int}(h:pre++[x] <+:l):x ∉ pre:=λhx=>by have:=(hs.sublist h.sublist);rw[Bj]at this;have:=this.2.2 x hx x aq;omega
theorem Jm{l:List bM}(h:k<κ l){z n:Int}(hp:l[k]=⟨z,n⟩)(hj:j<n.toNat):hF l k j z++[z+(j:Int)] <+:cW l:=by rw[<-lq];grind [w6]
def Lm(f:Nat->Bool)(k:Nat):List Int:=((Aak k).filter f).map (λi:Nat=>(i:Int))
theorem VX(f:Nat->Bool)(k:Nat):Lm f (k+1)=Lm f k++(if f k=true then [(k:Int)] else []):=by unfold Lm;rw[Ab5,kD,Aar];cases h:f k<;>simp[h]
theorem Ln(f:Nat->Bool)(k:Nat):κ (Lm f k)<=k:=by grind [Lm]
theorem LI(w:af)(v:ah)(ms:List bM)(hv:tX w v (ms.map dI))(hr:ck (-1) ms=true)(hs:(cW ms).Pairwise (· < ·)):Aae Aag 188 #[nl,v] w λe w'=>∃u,e=rt #[u,i6 0]/\hX w' w.heap.size u (j6 (Lm (sx (cW ms)) 4096))/\Up w w':=by
 obtain⟨HV,HR⟩:=aw hv hr;have au:κ ms<=9223372036854775807:=by have:=hv.length_le;simpa using this
 have HS:=an hs;have RT:=gv w _ _ (aH.nil _ _);rw[show ck (-1) []=true from rfl]at RT;obtain⟨a1,ao,rfl⟩:=hv.slice;rw[Aac]at *;clear hr;go_in;go_wp2_with fail;refine RT.mono ?_;rintro e w1⟨rfl,u1⟩;go_wp2_with refine bB 211 JI ?_;refine((λW=>vP W _ _ (aH.nil _ _) (λa m c h=>hE)) _).mono ?_;rintro e w3⟨vl,rfl,ol,u3⟩;obtain⟨la,lc,aR⟩:=ol.cu.slice;rw[show(cG []).length=0 from rfl]at aR;subst aR;go_wp2;go_loopw [22] (λi wr=>i=i6 0/\wr=w3) (λ_ _=>0)
 case atStart=>exact⟨rfl,rfl⟩
 case round=>
  obtain⟨rfl,rfl⟩:=hrel;go_wp2;obtain⟨w9,ar⟩:=bE (wr);subst ar;go_loopw [31] (λi wr=>∃k:Nat,k<=κ ms/\i=i6 k/\a7 wr w1.heap.size 4096 211 (λn=>.bool (sx (cW (ms.take k)) n))/\Up w wr) (λi _=>κ ms-(Aau i).toNat)
  case atStart=>exact⟨0,bT _,rfl,a7.congr ((a7.new _ _ _ _).up u3) (λi _=>by simp[sx,cW]),((u1.trans (ai _ _)).trans u3)⟩
  case round=>
   obtain⟨k,hk,rfl,aa,upr⟩:=hrel;obtain⟨HB,ag⟩:=aw aa upr;by_cases hlt:k<κ ms
   ·obtain⟨b,off,rfl,hbs,bc,hc⟩:=(HV.up ag).range O0 mg;have hc:=hc k (by rw[Aac];exact hlt);rw[List.getElem_map]at hc;have RC:=an hc;have b2:((k:Int)<(κ ms:Int))=True:=by simp;omega
    have SB:=pA HR hlt rfl;obtain⟨z,n,hp⟩:∃z n:Nat,ms[k]=⟨z,n⟩/\z<4096/\1<=n/\z+n<=4096:=by generalize ms[k]=p at SB;obtain⟨s,l⟩:=p;have:=(d' s l).1 SB;exact⟨s.toNat,l.toNat,ab,ae,ae,ae⟩
    obtain⟨hp,hz,aL,hn⟩:=hp;have RG:=an (λW=>qH W (dI ms[k]));rw[show gE (dI ms[k]).sp=true from SB]at RG;rw[hp]at RG RC;have HP:=an hp;clear SB hp;obtain⟨BX,U4⟩:=aw (aF.new wr 326 (iy (dI ⟨z,n⟩))) (ai wr (.cells (iy (dI ⟨z,n⟩)) 326));go_wp2_with(first
     | refine cT 326 33 (iy (dI ⟨z,n⟩)) RC ?_
     | refine bB 326 wg ?_
     | refine eh 326 10 34 wr (iy (dI ⟨z,n⟩)) 326 (iy ⟨false,0,0⟩) ?_
     | refine cY 326 10 BX ?_)
    refine(RG _).mono ?_;rintro e w5⟨rfl,u5⟩;obtain⟨B5,aC⟩:=aw (BX.up u5) HB.lt;have x2:w5.cell? (ad wr.heap.size 2)=some (i6 (n:Int)):=B5.cell 2;clear RG;go_wp2;clear x2;obtain⟨aQ,aj⟩:=bE (wr.heap.size);rw[<-aj]at B5 aC;simp only[<-aj];clear aj;go_loopw [41] (λi wr=>∃j:Nat,j<=n/\i=i6 j/\a7 wr w1.heap.size 4096 211 (λm=>.bool (sx (hF ms k j z) m))/\aF wr aQ 326 (iy (dI ⟨z,n⟩))/\Up w wr) (λi _=>n-(Aau i).toNat)
    case atStart=>exact⟨0,bT _,rfl,by rw[yb];exact((HB.up U4).up u5),B5,((ag.trans U4).trans u5)⟩
    case round=>
     obtain⟨j,hj,rfl,aa,hblk,upr⟩:=hrel;by_cases aM:j<n
     ·have hx:z+j<4096:=by omega
      have NF:sx (hF ms k j z) (z+j)=false:=by have:=Qp HS (Jm hlt HP (j:=j) (by simpa using aM));unfold sx;simpa using this
      have c0:=aa.cell hx;rw[NF]at c0;have f0:=aa.free (z+j);have d0:wr.cell? (ad aQ 0)=some (.bool true):=hblk.cell 0;have d1:wr.cell? (ad aQ 1)=some (i6 (z:Int)):=hblk.cell 1;have d2:wr.cell? (ad aQ 2)=some (i6 (n:Int)):=hblk.cell 2;obtain⟨x0,x1⟩:=az (dk c0) (dk d0);have b3:((j:Int)<(n:Int))=True:=ab
      clear NF;have e1:(z:Int)+(j:Int)=((z+j:Nat):Int):=ae
      obtain⟨E1,NX⟩:=aw e1 (show hF ms k (j+1) z=hF ms k j z++[((z+j:Nat):Int)] by rw[lq,e1]);clear e1;go_wp2;rw[E1.out];refine vj ?_;repeat(go_big_quiet_step (fail))
      refine yY ?_;intro w6 av;obtain⟨⟨d,os⟩,hw4⟩:=av;have aI:Up wr w6:=FV
      clear hw4 x0 x1;have ay:=an (aa.up aI);replace c0:=aI.cell c0;replace d0:=aI.cell d0;replace f0:=ay.free (z+j);clear d1 d2;go_wp2;obtain⟨C6,aJ,ak,aN⟩:=ay.out;exact⟨⟨j+1,ae,aq,a7.congr (ay.set hx (.bool true)) (λi hi=>by rw[NX.out,AS];by_cases e:i=z+j<;>simp[e];intro h;omega),(hblk.up aI).grown (bZ aJ _ _) (λe=>by have:=dE e;have:=aC.out;omega),(upr.trans aI).setCell u1.size _⟩,by simp[Aau];omega⟩
     ·obtain rfl:j=n:=by omega
      have NX:=an (show hF ms k j z=cW (ms.take (k+1))from by have:=pD hlt HP;simpa using this);go_wp2;go_roundw
      case rel=>exact⟨k+1,ae,aq,by rw[<-NX.out];exact aa,upr⟩
      case measure=>simp[Aau];omega
   ·obtain rfl:k=κ ms:=by omega
    have hb:=HB.out;rw[dq (aE _)]at hb;obtain⟨f,hf⟩:=bE (sx (cW ms));rw[<-hf]at hb;have HF:=an hf;obtain⟨C,hC,hz,hc⟩:=hb;clear hf;go_wp2_with(first
     | refine cY 211 6 hC (hi:=(by rw[TS,hz])) ?_)
    obtain⟨w9,ar⟩:=bE (wr);subst ar;go_loopw [13,62] (λv i wr=>∃m:Nat,m<=4096/\i=i6 m/\Own bC 3 wr w.heap.size v (Lm f m)/\Up w wr) (λ_ i _=>4096-(Aau i).toNat)
    case atStart=>exact⟨0,bT _,rfl,Own.nil _ _ _ _,ag⟩
    case round=>
     obtain⟨m,hm,rfl,hown,upr⟩:=hrel;by_cases hlt:m<4096
     ·obtain⟨IX,SU⟩:=az ((QE C f hc) m hlt) (VX f m);have b2:((m:Int)<4096)=True:=by simp;omega
      have LL:=Ln f m;cases al:f m
      ·rw[al]at IX;have NX:=an (show Lm f (m+1)=Lm f m by rw[SU,al];simp);clear SU al;go_wp2;go_roundw
       case rel=>exact⟨m+1,ae,aq,by rw[NX.out];exact hown,upr⟩
       case measure=>simp[Aau];omega
      ·rw[al]at IX;have NX:=an (show Lm f (m+1)=Lm f m++[(m:Int)] by rw[SU,al];simp);clear SU al;obtain⟨ol,aW⟩:=bE (Lm f m);rw[<-aW]at hown NX LL;clear aW;obtain⟨va,vc,rfl⟩:=(Own.cu hown).slice;have U8:=an (ai wr (.cells #[i6 (m:Int)] 3));have UU:=an (upr.trans U8);go_wp2_with(at_builtin;refine bu bC qm rfl (.tmp 67) (.tmp 69) 41 rfl w.heap.size 3 (i6 0) 8 underlying41 rp rfl _ ol rfl (hown.up U8) _ [(m:Int)] rfl (aD.ew (f:=bC) wr wr.heap.size rfl #[i6 (m:Int)] 3 (0,0) [(m:Int)] 1 rfl dK rfl) ab ab UU.size ?_);intro v9 w9 aA ax aB;go_wp2;go_roundw
       case rel=>exact⟨m+1,ae,aq,by rw[NX.out];exact aA,(UU.aG aB (aE _))⟩
       case measure=>simp[Aau];omega
     ·obtain rfl:m=4096:=by omega
      have SO:=an (tJ _ _ _ (Own.cu hown));have b2:((4096:Nat):Int)=4096:=rfl;obtain⟨va,vc,hva⟩:=(Own.cu hown).slice;rw[hva]at SO hown;subst hva;go_wp2_with fail;refine SO.mono ?_;rintro e bO⟨u,rfl,own,aK⟩;go_wp2_with fail;go_ret2;exact⟨_,rfl,by rw[<-HF.out];exact own.mono upr.size,upr.trans aK⟩
theorem k2{f g:Nat->Bool}:∀{n:Nat},(∀i,i<n->f i=g i)->aB f n=aB g n
 | 0,_=>rfl
 | n+1,h=>by unfold aB;rw[k2 (n:=n) (λi hi=>h i ae),h n ae]
theorem G8(n:Nat):aB (λ_=>false) n=[]:=by
 induction n with
 | zero=>rfl
 | succ n ih=>assumption
theorem KE(f:Nat->Bool)(i:Nat)(h:i<4096):sx (cG (aB f 4096)) i=f i:=by grind [qp,sx]
theorem ou(f:Nat->Bool):ck (-1) (aB f 4096)=true:=by simp[jD]
theorem Ir{l:List bM}(h:ck (-1) l=true):cG l=cW l:=by grind [cG]
theorem XA(f:Nat->Bool):HR [] (aB f 4096)=(aB f 4096).map dI:=by unfold HR;rw[show aB (oO (cG []) (cG (aB f 4096))) 4096=[] from(k2 (g:=λ_=>false) (λi _=>aA)).trans (G8 _)];rw[show aB (oO (cG (aB f 4096)) (cG [])) 4096=aB f 4096 from k2 (λi hi=>by unfold oO;rw[KE f i hi,show cG []=[] from rfl];simp[sx])];rfl
theorem aam(f:Nat->Bool)(i:Nat)(h:i<4096):sx (Lm f 4096) i=f i:=by rw[show Lm f 4096=cG (aB f 4096)from(qp f).symm];grind [KE]
theorem Rv(f:Nat->Bool):j6 (Lm (sx (cW (aB f 4096))) 4096)=aB f 4096:=by unfold j6;refine k2 (λi hi=>?_);rw[aam _ i hi,<-Ir (ou f),KE f i hi]
theorem Jx(f:Nat->Bool):∀m∈(aB f 4096).map dI,zK m:=by intro m hm;obtain⟨s,hs,rfl⟩:=Abd.1 hm;obtain⟨k,hk,rfl⟩:=List.mem_iff_getElem.1 hs;exact pA (ou f) hk rfl
theorem Se(f:Nat->Bool):(cW (aB f 4096)).Pairwise (· < ·):=by grind [Ir,ou,uG]
def cL(n:Nat):Nat:=if 64<=n/\n<=1024 then 2+5*((n+1)/2)else 0
theorem lW(w:af)(n:Nat)(hn:n<=1000000):Aae Aag 186 #[i6 (n:Int)] w λe w'=>e=.returned (i6 (cL n:Int))/\w'=w:=by
 by_cases h1:n<64
 ·have b1:((n:Int)<64)=True:=by simp;omega
  exact Nc
 have b1:((n:Int)<64)=False:=ab
 by_cases h2:1024<n
 ·have b2:((n:Int)>1024)=True:=by simp;omega
  exact Nc
 have b2:((n:Int)>1024)=False:=ab
 have HE:=an (show cL n=2+5*((n+1)/2)by unfold cL;rw[bI ae]);have e1:((n:Int)+1).tdiv 2=(((n+1)/2:Nat):Int):=aA
 have hq:(n+1)/2<=1000:=ae
 generalize(n+1)/2=q at *;go_in;go_wp2;go_ret;exact⟨by rw[HE.out];simp,rfl⟩
theorem vQ{f:Nat->Bool}{t:Nat}(h:∀i,t<=i->f i=false):∀n,t<=n->aB f n=aB f t
 | 0,hn=>by
  obtain rfl:t=0:=ae
  rfl
 | n+1,hn=>by
  rcases jO n t with h'|h'
  ·obtain rfl:t=n+1:=by omega
   rfl
  ·unfold aB;rw[h n h',aY aq,vQ h n h'];cases t<;>rfl
theorem EW{l:List bM}(hl:gB (-1) l<=n)(h:2*(κ l:Int)<=gB (-1) l+1)(h0:l=[]\/0<=gB (-1) l):2*(κ (sc l n):Int)<=gB (-1) (sc l n)+1/\0<=gB (-1) (sc l n):=by
 rcases Fs l with rfl|⟨m,s,rfl⟩
 ·show 2*(1:Int)<=((n:Int)+1)+1/\0<=(n:Int)+1;omega
 ·rw[Ft]at *;rw[fZ]at hl h h0;rw[C'];split
  ·rename_i he;rw[fZ];grind
  ·rename_i he;rw[fZ];grind
theorem ye(f:Nat->Bool):∀n,n<=4096->2*(κ (aB f n):Int)<=gB (-1) (aB f n)+1/\(aB f n=[]\/0<=gB (-1) (aB f n))
 | 0,_=>by simp[aB,gB]
 | n+1,h=>by
  obtain⟨a,c⟩:=ye f n ae;have:=(jD f n ae).2.1;unfold aB;split
  ·have:=EW this a c;exact⟨this.1,.inr this.2⟩
  ·exact⟨a,c⟩
def oF(f:Nat->Bool)(t:Nat):Prop:=∀i,f i=true->4<=i/\i<t
theorem xG{f:Nat->Bool}(h:oF f t)(ht:t<=4096):aB f 4096=aB f t:=vQ (λi hi=>by cases hf:f i with|false=>rfl|true=>have:=(h i hf).2;omega) 4096 ht
theorem s6{f:Nat->Bool}(h:oF f t)(ht:t<=4096):2*κ (aB f 4096)<=t+1:=by rw[xG h ht];have:=(ye f t ht).1;grind [jD]
theorem Ie{f:Nat->Bool}(h:oF f t)(ht:t<=4096):∀s∈aB f 4096,4<=s.st/\1<=s.len/\s.st+s.len<=(t:Int):=λs hs=>by
 have h1:=nH f t s (by grind [xG]);refine⟨?_,h1.2.1,h1.2.2⟩;have hm:s.st∈cW (aB f 4096):=by unfold cW;exact List.mem_flatMap.2 ⟨s,hs,Abd.2 ⟨0,y5.2 ae,aq⟩⟩
 rw[(jD f 4096 ae).2.2]at hm;obtain⟨i,hi,he⟩:=Abd.1 hm;have:=(h i (wG.1 hi).2).1;omega
theorem Lr{l:List aj}(h:aF w g 5 (l.map aK).toArray)(hb:base<=g)(hl:κ l<=9223372036854775807):Own aK 5 w base (cD g (κ l) (κ l)) l:=by refine⟨aq,.inr ⟨g,κ l,(l.map aK).toArray,rfl,hb,h,aE _,cj,aq,?_⟩⟩;rw[dq aq]
theorem Ch(f:α->β)(l:List α)(off:Nat)(ys:List α):Abx (l.map f) off (ys.map f)=(Abx l off ys).map f:=by unfold Abx;simp
theorem Mm(n:Nat):kg (.int .u8 0) n=((Aad n (0:aj)).map aK).toArray:=by apply h3.1;rw[St (.int .u8 0) rfl];simp[aK]
def iS(t:Nat)(l:List bM):List aj:=aW [2] [κ l]++iC (l.map dI)++Aad (cL t-(2+5*κ l)) 0
theorem ij(n:Nat):κ (aW [2] [n])=2:=aA
theorem G5{c m:List aj}(hc:κ c=2)(hn:2+κ m<=n):Abx (Abx (Aad n (0:aj)) 0 c) 2 m=c++m++Aad (n-(2+κ m)) 0:=by unfold Abx;rw[Abk,Aaz,hc,y8,h5 hc,Fk,hc,wF ae,Aaz,y8];simp;omega
theorem O2(h:n<65536):nB [2] [n]:=vc
theorem Ec(w:af)(t:Nat)(ht:64<=t/\t<=1024)(f:Nat->Bool)(hf:oF f t)(v:ah)(hv:dX w v (aB f 4096))(hb:∀a m c,v=.slice (some a) m c->a.block<w.heap.size):Aae Aag 189 #[i6 (t:Int),v] w λe w'=>∃u,e=rt #[u,i6 0]/\Own aK 5 w' w.heap.size u (iS t (aB f 4096))/\Up w w':=by
 have aa:=s6 hf ae;have bb:=an (Ie hf ae);have SN:cL t=2+5*((t+1)/2):=by unfold cL;rw[bI ae]
 obtain⟨aj,RT⟩:=aw (lW w t ae) (gv w v _ hv);rw[ou f]at RT;have CD:=an (λW (u:Up w W)=>EB W v _ (hv.up u) (λa m c e=>ej (hb a m c e) u.size) (ou f));rw[XA f]at CD;obtain⟨HST,LB,SB,HV⟩:=bW (show iS t (aB f 4096)=aW [2] [κ (aB f 4096)]++iC ((aB f 4096).map dI)++Aad (cL t-(2+5*κ (aB f 4096))) 0 from rfl) (show(iC ((aB f 4096).map dI)).length=5*κ (aB f 4096) by rw[jv,Aac]) (λW (vm:ah) (hm:tX W vm ((aB f 4096).map dI))=>LN W vm _ hm mg (Jx f)) hv;obtain⟨va,vc,rfl⟩:=hv.slice;generalize aB f 4096=l at *;obtain⟨n,hn⟩:=bE (cL t);have aL:2+5*κ l<=n:=ae
 have al:n<=3000:=ae
 have aP:100<=n:=ae
 have aS:κ l<=600:=ae
 rw[<-hn]at aj HST;clear hb SN hn aa;have bn:((n:Int)==0)=false:=ab
 by_cases h0:κ l=0
 ·have b1:((κ l:Int)>0)=False:=cI ae;have ay:(0<κ l)=False:=cI ae;have H0:=an h0;clear h0;go_in;go_wp2_with fail;refine aj.mono ?_;refine o9 ?_;intro w2;go_wp2_with fail;refine RT.mono ?_;rintro e w3⟨rfl,u3⟩;have U3:=an u3;go_wp2_with fail;refine(CD _ U3).mono ?_;rintro e w4⟨vm,rfl,om,u4⟩;obtain⟨U4,OM⟩:=aw (U3.trans u4) (ak.row om O0);obtain⟨ma,mc,a7⟩:=(ak.row om O0).slice;rw[Aac]at a7;subst a7;go_wp2_with fail;refine(SB _ _ OM).mono ?_;rintro e w5⟨vl,rfl,ol,u5⟩;obtain⟨U5,OL⟩:=aw (U4.trans u5) ol;obtain⟨la,lc,aY⟩:=ol.cu.slice;rw[LB.out]at aY;subst aY;refine U2 ?_;intro b5 wl UA sza UB i1 i2 PT U6;have OL6:=an ((OL.up UA).up UB);exact Zq
 ·obtain⟨b,off,rfl,hbs,bc,hc⟩:=qX HV ae;obtain⟨m,hm⟩:∃m,m+1=κ l:=⟨κ l-1,ae⟩;have b1:=ee ae;have ay:=ee ae;have e1:(κ l:Int)-1=(m:Int):=by omega
  have au:m<κ l:=ae
  obtain⟨C0,CM⟩:=aw ((hc 0 ae).1) (hc m au);obtain⟨q0,qm⟩:=az (bb _ (cw (show 0<κ l from ae))) (bb _ (cw au));generalize l[0]=s0 at *;generalize l[m]=sm at *;obtain⟨aR,aT⟩:=s0;obtain⟨ms,ml⟩:=sm;simp only at C0 CM q0 qm;obtain⟨q1,_,_⟩:=q0;obtain⟨q4,q5,q6⟩:=qm;have b6:(aR<4)=False:=cI ae;have b7:(ms+ml>(t:Int))=False:=cI ae;have RM:=an (show w.rangeAt b (off+m*2) (lu ⟨ms,ml⟩).toList from λj v hj=>by
   match j,hj with
   | 0,hj=>simp[lu]at hj;subst hj;exact CM.1
   | 1,hj=>simp[lu]at hj;subst hj;exact CM.2)
  clear hc hm h0 bb;go_in;go_wp2_with fail;refine aj.mono ?_;refine o9 ?_;intro w2;go_wp2_with fail;refine RT.mono ?_;rintro e w3⟨rfl,u3⟩;have B3:=aF.new w3 139 (lu ⟨ms,ml⟩);have U3:=an (u3.trans (ai w3 (.cells (lu ⟨ms,ml⟩) 139)));have x0:=U3.cell C0;rw[Nat.zero_mul,Nat.add_zero]at x0;have x1:(w3.alloc (.cells (lu ⟨ms,ml⟩) 139)).cell? (ad w3.heap.size 0)=some (i6 ms):=B3.cell 0;have x2:(w3.alloc (.cells (lu ⟨ms,ml⟩) 139)).cell? (ad w3.heap.size 1)=some (i6 ml):=B3.cell 1;clear C0 CM;go_wp2_with(first
   | refine cT 139 29 (lu ⟨ms,ml⟩) (λj v hj=>u3.cell (RM j v hj)) ?_
   | refine bB 139 zW ?_
   | refine eh 139 7 30 w3 (lu ⟨ms,ml⟩) 139 (lu ⟨0,0⟩) ?_)
  clear x0 x1 x2;refine(CD _ U3).mono ?_;rintro e w4⟨vm,rfl,om,u4⟩;obtain⟨U4,OM⟩:=aw (U3.trans u4) (ak.row om O0);obtain⟨ma,mc,a7⟩:=(ak.row om O0).slice;rw[Aac]at a7;subst a7;go_wp2_with fail;refine(SB _ _ OM).mono ?_;rintro e w5⟨vl,rfl,ol,u5⟩;have U5:=an (U4.trans u5);obtain⟨la,lc,aY⟩:=ol.cu.slice;rw[LB.out]at aY;subst aY;refine U2 ?_;intro b5 wl UA sza UB i1 i2 PT U6;have OL6:=an ((ol.up UA).up UB);exact Zq
theorem L5(w:af)(t:Nat)(ht:64<=t/\t<=1024)(f:Nat->Bool)(hf:oF f t)(v:ah)(hv:a8 w v (iS t (aB f 4096))):Aae Aag 117 #[i6 (t:Int),v] w λe w'=>∃u,e=rt #[u,i6 0]/\hX w' w.heap.size u (aB f 4096)/\Up w w':=by
 have aa:=s6 hf ae;have SN:cL t=2+5*((t+1)/2):=by unfold cL;rw[bI ae]
 have aj:=an (lW w t ae);have hT:κ (iS t (aB f 4096))=cL t:=by unfold iS;exact Oy
 obtain⟨b5,ao⟩:=aw (λW vs (h:dX W vs (aB f 4096)) (hb:∀a m c,vs=.slice (some a) m c->a.block<W.heap.size)=>Ec W t ht f hf vs h hb) (λW vm (h:tX W vm ((aB f 4096).map dI))=>LI W vm _ h (ou f) (Se f));rw[Rv f]at ao;have LB:κ (iC ((aB f 4096).map dI))=5*κ (aB f 4096):=by rw[jv,Aac]
 have ar:=an (λW vb (h:a8 W vb (iC ((aB f 4096).map dI)))=>RT W vb _ h ab (Jx f));have HST:iS t (aB f 4096)=aW [2] [κ (aB f 4096)]++(iC ((aB f 4096).map dI)++Aad (cL t-(2+5*κ (aB f 4096))) 0):=aA
 have HV:=an hv;obtain⟨va,vc,rfl⟩:=hv.slice;have aS:=mj hv;rw[hT]at aS;have D1:=aD.piece hv (lo:=0) (hi:=2) ae ae;have D2:=aD.piece hv (lo:=2) (hi:=2+5*κ (aB f 4096)) ae ae;rw[Aaw,HST,h5 (ij _)]at D1;rw[HST,List.take_append,ij,dq (by rw[ij];omega),lB (ij _),show 2+5*κ (aB f 4096)-2=5*κ (aB f 4096) from ae,<-LB,h5 rfl,LB]at D2;rw[hT]at HV;rw[hT];generalize aY:iS t (aB f 4096)=tx at *;generalize aB f 4096=l at *;obtain⟨n,hn⟩:=bE (cL t);obtain⟨q,hq⟩:=bE ((t+1)/2);have aL:n=2+5*q:=ae
 have ax:κ l<=q:=ae
 have au:q<=512:=ae
 rw[<-hn]at aj HV aS ⊢;obtain⟨aE,az⟩:=aw aL ax;have bn:((n:Int)==0)=false:=ab
 have wl:=aX (κ l) ae;have al:100<=n/\n<=3000:=ae
 have aU:∀W,(Aav 30 (.slice va n vc) none (some (i6 2)) none).run Aag W=.ok (bY va 0 2 vc) W:=λW=>hj (P:=Aag) 30 dC dD va n vc 2 ae W;have ba:∀W,(Aav 30 (.slice va n vc) (some (i6 2)) (some (i6 (2+5*(κ l:Int)))) none).run Aag W=.ok (bY va 2 (2+5*κ l) vc) W:=λW=>by have:=D' (P:=Aag) 30 dC dD va n vc 2 (2+5*κ l) ae ae W;assumption
 obtain⟨p1,aC⟩:=bE (bY va 0 2 vc);obtain⟨p2,aI⟩:=bE (bY va 2 (2+5*κ l) vc);rw[<-aC]at aU D1;rw[<-aI]at ba D2;have UA:=an (ai w (.cells #[i6 2] 3));have ag:=an (EH (w.alloc (.cells #[i6 2] 3)) (cD w.heap.size 1 1) [2] (aD.ew (f:=bC) w w.heap.size rfl #[i6 2] 3 (0,0) [2] 1 rfl av rfl) aq p1 _ (D1.up UA) ⟨av,aA⟩);rw[rm [2] [κ l] rfl (O2 ae).2.2]at ag;clear aa SN hT LB HST aY hn hq aL ax aC aI;go_in;go_wp2_with fail;refine aj.mono ?_;refine o9 ?_;intro w2;go_wp2_with fail;refine ag.mono ?_;rintro e w3⟨vn,rfl,on,u3⟩;have U3:=an (UA.trans u3);obtain⟨g,cap,rfl,_,_,hc,_,_⟩:=Own.row on aq;have c0:w3.cell? (ad g 0)=some (u6 (κ l:Int)):=hc 0 aq;clear hc;go_wp2_with fail;all_goals(try(exfalso;have:=aE.out;have:=az.out;omega))
 refine(ar _ _ (D2.up U3)).mono ?_;rintro e w4⟨vm,rfl,om,u4⟩;have U4:=an (U3.trans u4);obtain⟨ma,mc,a7⟩:=(ak.row om O0).slice;rw[Aac]at a7;subst a7;clear c0 ba aU;go_wp2_with fail;refine(ao _ _ (ak.row om O0)).mono ?_;rintro e w5⟨vs,rfl,os,u5⟩;obtain⟨OS,aG⟩:=aw (os.mono (base':=w.heap.size) U4.size) (b5 w5 vs (ak.row os Cj) (λa m c e=>(os.aJ a.block tp).2));obtain⟨sa,sc,a6⟩:=(ak.row os Cj).slice;subst a6;clear b5 ao ar;go_wp2_with fail;refine aG.mono ?_;rintro e w6⟨vt,rfl,ot,u6⟩;obtain⟨U6,aF⟩:=aw ((U4.trans u5).trans u6) (OS.up u6);have BE:=z7 w6 vt (.slice va n vc) _ _ ot.cu (HV.up U6);rw[h8 rfl]at BE;obtain⟨ta,tc,ay⟩:=ot.cu.slice;obtain⟨tn,aM⟩:=bE (κ tx);rw[<-aM]at ay;subst ay;clear aM;go_wp2_with fail;refine BE.mono ?_;rintro e w7⟨rfl,rfl⟩;go_wp2;go_ret2;exact⟨_,rfl,aF,U6⟩

theorem MN(w:af)(H:aR)(P:bq)(A:PA w H P)(root:au)(hw:root.wf)(hg:cA root=true)(b:List aj)(lv:Nat->List au)(B:iO P.C root b lv)(v:ah)(hv:a8 w v (bR root++aW [4] [κ b])):Aae Aag 114 #[pz H.pb,v] w λe w'=>∃v u,e=rt #[v,u,i6 0]/\a8 w' v b/\(∀k,v.ownBlock=some k->w.heap.size<=k)/\bf w' w.heap.size u (dY b lv)/\PG w H P w':=by
 obtain⟨h1,h2⟩:=B.len;have hl:κ (bR root++aW [4] [κ b])=20:=by rw[Aaf,fx,jA]
 obtain⟨va,vc,rfl⟩:=hv.slice;have aS:=mj hv;have D1:=aD.piece hv (lo:=0) (hi:=16) ae ae;have D2:=aD.piece hv (lo:=16) (hi:=20) ae ae;rw[Aaw,h5 (fx root)]at D1;rw[dq ae,lB (fx root)]at D2;rw[hl]at aS ⊢;have aU:∀W,(Aav 30 (.slice va 20 vc) none (some (i6 16)) none).run Aag W=.ok (bY va 0 16 vc) W:=λW=>hj (P:=Aag) 30 dC dD va 20 vc 16 ae W;have ba:∀W,(Aav 30 (.slice va 20 vc) (some (i6 16)) none none).run Aag W=.ok (bY va 16 20 vc) W:=λW=>dg (P:=Aag) 30 dC dD va 20 vc 16 ae W;obtain⟨p1,aC⟩:=bE (bY va 0 16 vc);obtain⟨p2,aI⟩:=bE (bY va 16 20 vc);rw[<-aC]at aU D1;rw[<-aI]at ba D2;obtain⟨ab,RB,HA,HB⟩:=bW D2 (nE root hw hg) A B;obtain⟨n,hn⟩:=bE (κ b);rw[<-hn]at ab h1 h2;have HN:=an hn;have wn:=aX n ae;clear hl aC aI hg hn;go_in;go_wp2_with fail;refine(qP w p1 _ D1 aA).mono ?_;rintro e w2(⟨p,av,rfl,u2⟩|⟨ay,_⟩)
 case inr=>rw[RB.out]at ay;cases ay
 obtain rfl:root=p:=by rw[RB.out]at av;exact dE av
 show _;rw[show fI root=.agg (be root)from rfl];obtain⟨U3,UA⟩:=aw (u2.trans (ai w2 (.cells (be root) 87))) (ai (w2.alloc (.cells (be root) 87)) (.cells #[i6 4] 3));have ag:=an (EH ((w2.alloc (.cells (be root) 87)).alloc (.cells #[i6 4] 3)) (cD (w2.heap.size+1) 1 1) [4] (aD.ew (f:=bC) (w2.alloc (.cells (be root) 87)) (w2.heap.size+1) (by rw[aN]) #[i6 4] 3 (0,0) [4] 1 rfl dK rfl) aq p2 _ ((ab.up U3).up UA) ⟨by unfold yv;intro w hw;simp at hw;omega,by rw[jA];rfl⟩);rw[rm [4] [n] rfl (GJ ae).2.2]at ag;clear av RB;go_wp2_with(refine arm ?_);refine ag.mono ?_;rintro e w4⟨vn,rfl,on,u4⟩;obtain⟨g,cap,rfl,a6,_,hc,_,_⟩:=Own.row on aq;clear aU ba;go_wp2;refine e7 (S:=λW=>aF W w2.heap.size 87 (be root)/\W.cell? (ad g 0)=some (u6 (n:Int))) al ?_;change Acp _ _ _ _ _ 13 _ _ (w4.drew);have UD:=an (Up.drew (Up.refl w4));obtain⟨F5,U5⟩:=aw (show aF w4.drew w2.heap.size 87 (be root)/\w4.drew.cell? (ad g 0)=some (u6 (n:Int))from⟨(((aF.new w2 87 (be root)).up UA).up u4).up UD,UD.cell (hc 0 aq)⟩) (((U3.trans UA).trans u4).trans UD);generalize w4.drew=w5 at *;have BL:=an (ri w5 H P (HA.up U5) root b lv HB);rw[<-HN.out]at BL;refine ta 0 ?_;refine tb 1 rfl (W7 (λW hS=>hS.1.range)) ?_;refine ns ?_;refine tb 4 rfl (yc (λW hS=>hS.2)) ?_;refine ta 5 ?_;refine ok 6 ?_;intro K hK;go_simp;refine BL.mono ?_;rintro e w6⟨x,y,rfl,hx,bg,hy,aa⟩;have S6:=an (show aF w6 w2.heap.size 87 (be root)/\w6.cell? (ad g 0)=some (u6 (n:Int))from⟨F5.1.ax aa.2 (λhf=>by have:=HA.lt _ hf;have:=u2.size;omega),fC F5.2 aa.2 (λhf=>by have:=HA.lt _ hf;have:=U3.size;have:=UA.size;omega)⟩);refine hK _ _ S6 ?_;refine U9 ?_;clear hK K;refine vi ?_;refine ta 11 ?_;refine bA ?_;refine ta 12 ?_;refine nr ?_;go_wp2;go_ret3;exact⟨_,_,rfl,hx,(λk hk=>bK U5.size (bg k hk)),(hy.mono (base':=w.heap.size) U5.size),((PG.of HA U5).trans aa)⟩
def e8(k t:Nat):Nat:=1+dN k+dN (cL t)
theorem DL(w:af)(v:ah)(b:List aj)(hv:a8 w v b)(hb:κ b<=1000000)(t:Nat)(ht:t<=1000000):Aae Aag 212 #[v,i6 (t:Int)] w λe w'=>e=.returned (i6 (e8 (κ b) t:Int))/\Up w w':=by
 obtain⟨va,vc,rfl⟩:=hv.slice;have N1:=an (vu w (κ b) hb);have hs:cL t<=1000000:=by unfold cL;split<;>omega
 obtain⟨SL,N2⟩:=aw (λW=>lW W t ht) (λW=>vu W (cL t) hs);obtain⟨B1,B2⟩:=az ((jw (κ b)).2) ((jw (cL t)).2);have h1:dN (κ b)<=1024:=B1;have h2:dN (cL t)<=1024:=B2;have HC:=an (show e8 (κ b) t=1+dN (κ b)+dN (cL t)from rfl);clear B1 B2;generalize dN (κ b)=n1 at *;generalize dN (cL t)=n2 at *;generalize cL t=sp at *;go_in;go_wp2_with fail;refine N1.mono ?_;rintro e w1⟨rfl,u1⟩;go_wp2_with fail;refine(SL _).mono ?_;refine o9 ?_;intro w2;go_wp2_with fail;refine(N2 _).mono ?_;rintro e w3⟨rfl,u3⟩;go_wp2;go_ret;exact⟨by rw[HC.out];simp,u1.trans u3⟩
def aO(next:Nat)(v:ah):Array ah:=#[.int .u64 (next:Int),v]
def e2(next:Nat)(l:List ao):Option (List aj):=(lL next l).bind λm=>if (κ m)<=65535 then some m else none
theorem x1(w:af)(next:Nat)(hn:next<18446744073709551616)(v:ah)(l:List ao)(hv:cq w v l)(aL:∀x∈l,x.wf):Aae Aag 211 #[.agg (aO next v)] w λe w'=>Ev (e2 next l) w e w':=by
 have U1:=an (ai w (.cells (aO next v) 73));have EB:=an (sH _ next hn v l (hv.up U1) aL);have c0:(w.alloc (.cells (aO next v) 73)).cell? (ad w.heap.size 0)=some (u6 (next:Int)):=(aF.new w 73 (aO next v)).cell 0;have c1:(w.alloc (.cells (aO next v) 73)).cell? (ad w.heap.size 1)=some v:=(aF.new w 73 (aO next v)).cell 1;obtain⟨va,vc,aP⟩:=hv.slice;obtain⟨n,aU⟩:=bE (κ l);rw[<-aU]at aP;subst aP;have HR:=an (show e2 next l=(lL next l).bind λm=>if (κ m)<=65535 then some m else none from rfl);clear aL aU hn;go_in;go_wp2_with(refine arm ?_);refine EB.mono ?_;rintro e w2(⟨ho,rfl,u2⟩|⟨m,u,ho,rfl,om,u2⟩)
 ·rw[ho]at HR;have U2:=an (U1.trans u2);clear c0 c1 ho;go_wp2;go_ret2;exact .inl ⟨HR,rfl,U2⟩
 ·rw[ho]at HR;obtain⟨U2,OM⟩:=aw (U1.trans u2) (om.mono (base':=w.heap.size) U1.size);obtain⟨ua,uc,rfl⟩:=om.cu.slice;clear c0 c1 ho;by_cases hm:κ m<=65535
  ·have HS:=an (show e2 next l=some m by rw[HR.out,qA,bI hm]);have b1:((κ m:Int)>65535)=False:=cI ae;go_wp2;go_ret2;exact .inr ⟨m,_,HS,rfl,OM,U2⟩
  ·have HS:=an (show e2 next l=none by rw[HR.out,qA,aY hm]);have b1:((κ m:Int)>65535)=True:=ee ae;clear hm;go_wp2;go_ret2;exact .inl ⟨HS,rfl,U2⟩
def eZ(next:Nat)(l:List ao)(t:Nat):Nat:=match e2 next l with
 | some m=>if cL t=0 then 0 else e8 (κ m) t
 | none=>0
theorem vK{next:Nat}{l:List ao}{m:List aj}(h:e2 next l=some m):κ m<=65535:=by unfold e2 at h;obtain⟨m',h1,h2⟩:=E3.1 h;grind
theorem QP(w:af)(next:Nat)(hn:next<18446744073709551616)(v:ah)(l:List ao)(hv:cq w v l)(aL:∀x∈l,x.wf)(t:Nat)(ht:t<=1000000):Aae Aag 151 #[.agg (aO next v),i6 (t:Int)] w λe w'=>e=.returned (i6 (eZ next l t:Int))/\Up w w':=by
 obtain⟨U1,SL,HB⟩:=aV (ai w (.cells (aO next v) 73)) (λW=>lW W t ht) (show eZ next l t=(match e2 next l with|some m=>if cL t=0 then 0 else e8 (κ m) t|none=>0)from rfl);go_in;go_wp2_with(refine arm ?_);refine(x1 _ next hn v l (hv.up U1) aL).mono ?_;rintro e w2(⟨ho,rfl,u2⟩|⟨m,u,ho,rfl,om,u2⟩)
 ·rw[ho]at HB;have U2:=an (U1.trans u2);clear ho;go_wp2;go_ret;exact⟨by rw[HB.out];rfl,U2⟩
 ·have hm:=vK ho;rw[ho]at HB;obtain⟨U2,MC⟩:=aw (U1.trans u2) (DL w2 u m om.cu ae t ht);obtain⟨ua,uc,hu⟩:=om.cu.slice;obtain⟨n,hn⟩:=bE (κ m);rw[<-hn]at hu MC;subst hu;have HN:=an hn;clear ho hn hm;by_cases h0:cL t=0
  ·have HZ:=an (show eZ next l t=0 by rw[HB.out];exact bI h0);rw[h0]at SL;clear h0;go_wp2_with fail;refine(SL _).mono ?_;rintro e w3⟨rfl,aa⟩;rw[aa];clear aa;go_wp2;go_ret;exact⟨zf,U2⟩
  ·have HZ:=an (show eZ next l t=e8 n t by rw[HB.out,HN.out];exact aY h0);have b0:(((cL t:Nat):Int)==0)=false:=by simp;omega
   generalize cL t=sp at *;clear h0;go_wp2_with fail;refine(SL _).mono ?_;rintro e w3⟨rfl,aa⟩;rw[aa];clear aa;go_wp2_with fail;refine MC.mono ?_;rintro e w4⟨rfl,u4⟩;go_wp2;go_ret;exact⟨zf,U2.trans u4⟩
def sD(x:au × Nat):Array ah:=#[.int .i64 x.1.loc,.int .u64 (x.1.aU:Int),.int .u32 (x.1.sum:Int),.int .i64 (x.2:Int)]
def zL(x:au × Nat):List ah:=(sD x).toList
theorem pnw:hh zL 4:=⟨ae,λ_=>rfl,λx u hu=>by simp[zL,sD]at hu;rcases hu with rfl|rfl|rfl|rfl<;>rfl⟩
theorem Yx(x:au × Nat):(sD x).all (·.oneCell')=true:=by simp[sD,Value.oneCell']
theorem Pu:∀W:af,(Acj 354).run Aag W=.ok (.agg (sD (hole,0))) W:=by simp[sD,hole]
theorem HF(x:au × Nat):prog.built 354 [(0,.agg (be x.1)),(1,i6 (x.2:Int))]=some (sD x):=al
def gP(x:au × Nat):List aj:=bR x.1++aW [4] [x.2]
theorem wW(x:au × Nat):κ (gP x)=20:=aA
def fJ(p:au)(n:Nat)(q:au)(m:Nat):List aj:=[(p,n),(q,m)].flatMap gP
theorem jd(p:au)(n:Nat)(q:au)(m:Nat):κ (fJ p n q m)=40:=aA
theorem GZ(w:af)(x y:au × Nat):(Acz 355 2 #[(0,.agg (sD x)),(1,.agg (sD y))]).run Aag w=.ok (cD w.heap.size 2 2) (w.alloc (.cells (sD x++sD y) 354)):=al
theorem Sp{op:Abn}(hgd:op.guard=none)(t:Aab)(x y:bU)(ho:op.op=.buildSlice t 2 #[(0,x),(1,y)])(X Y:Array ah)(hx:a.eval x=.agg X)(hy:a.eval y=.agg Y)(v:ah)(w':af)(hr:(Acz t 2 #[(0,.agg X),(1,.agg Y)]).run P w=.ok v w')(h:Aal P ops Q rest (a.put op.dst v) w'):Aal P ops Q (op::rest) a w:=by refine vh ?_;intro K hK;simp[ho,hx,hy,hr,Aap];exact hK _ _ h
theorem Jp(w:af)(p:au)(hp:p.wf)(gp:cA p=true)(n:Nat)(hn:n<=65535)(q:au)(hq:q.wf)(gq:cA q=true)(m:Nat)(hm:m<=65535):Aae Aag 259 #[.agg (be p),i6 (n:Int),.agg (be q),i6 (m:Int)] w λe w'=>∃v,e=rt #[v,i6 0]/\Own aK 5 w' w.heap.size v (fJ p n q m)/\Up w w':=by
 have U2:=an (ai (w.alloc (.cells (be p) 87)) (.cells (be q) 87));have b2:=aF.new (w.alloc (.cells (be p) 87)) 87 (be q);rw[aN]at b2;obtain⟨B2,XQ,RB⟩:=aV b2 (HF (q,m)) (λW=>GZ W (p,n) (q,m));obtain⟨ps,bd⟩:∃l:List (au × Nat),l=[(p,n),(q,m)]:=⟨_,rfl⟩;obtain⟨ab,HW,HL⟩:=aV bd (show ∀x∈ps,x.1.wf/\cA x.1=true/\x.2<=65535 by rw[bd];simp[hp,gp,hn,hq,gq,hm]) (show κ ps=2 by rw[bd];rfl);clear gp hn gq hm bd;go_in;go_wp2_with(first
  | refine arm ?_
  | ((with_reducible refine eP 354 #[(0,.tmp 16),(1,.tmp 17)] ?_);refine kV rfl 354 0 1 (.tmp 16) (.tmp 17) rfl _ _ (sD (p,n)) (HF (p,n)) rfl rfl ?_)
  | ((with_reducible refine eP 354 #[(0,.tmp 19),(1,.tmp 20)] ?_);refine kV rfl 354 0 1 (.tmp 19) (.tmp 20) rfl _ _ (sD (q,m)) XQ rfl rfl ?_)
  | ((with_reducible refine eo 355 2 _ ?_);refine Sp rfl 355 (.tmp 18) (.tmp 21) rfl (sD (p,n)) (sD (q,m)) rfl rfl _ _ (RB _) ?_))
 obtain⟨aj,U3⟩:=aw (show aH zL (((w.alloc (.cells (be p) 87)).alloc (.cells (be q) 87)).alloc (.cells (sD (p,n)++sD (q,m)) 354)) (cD (((w.alloc (.cells (be p) 87)).alloc (.cells (be q) 87)).heap.size) 2 2) ps from aH.ew _ _ rfl (sD (p,n)++sD (q,m)) 354 (0,0) ps 2 HL.symm dK (by rw[ab.out];simp[zL])) (((ai w (.cells (be p) 87)).trans U2).trans (ai ((w.alloc (.cells (be p) 87)).alloc (.cells (be q) 87)) (.cells (sD (p,n)++sD (q,m)) 354)));rw[aN,aN]at aj;clear XQ RB;obtain⟨w3,aa⟩:=bE ((((w.alloc (.cells (be p) 87)).alloc (.cells (be q) 87)).alloc (.cells (sD (p,n)++sD (q,m)) 354)));go_loopw [10,24] (λtv i wr=>∃k:Nat,k<=2/\i=i6 k/\Own aK 5 wr w3.heap.size tv ((ps.take k).flatMap gP)/\Up w3 wr) (λ_ i _=>2-(Aau i).toNat)
 case atStart=>exact⟨0,ae,rfl,Own.nil _ _ _ _,by rw[aa];exact Up.refl _⟩
 case round=>
  obtain⟨k,hk,rfl,ho,ur⟩:=hrel;obtain⟨OR,UR⟩:=aw ho ur;rw[<-aa]at aj U3;clear aa;by_cases hlt:k<2
  ·have b2:((k:Int)<2)=True:=by simp;omega
   obtain⟨x,hx⟩:=bE (ps[k]' FH);obtain⟨b,off,ar,_,_,hc⟩:=aH.get (aH.up aj UR) pnw (by rw[HL.out];omega);simp only[Aai,Abq,and_true]at ar;obtain⟨hb,rfl⟩:=ar;subst hb;have RC:=an (show wr.rangeAt (w.heap.size+1+1) (0+k*4) (sD x).toList from λj u hj=>by have:=hc k FH j u (by rw[<-hx];exact hj);rw[show 0+k*4+j=0+(k*4+j)from ae];exact this)
   rw[Aby]at RC;obtain⟨xw,xg,xl⟩:=HW x (by rw[hx];exact cw _);have TK:=an (show(ps.take (k+1)).flatMap gP=(ps.take k).flatMap gP++gP x from by rw[et FH,gk,List.flatMap_singleton,<-hx]);have LK:=an (show((ps.take k).flatMap gP).length<=40 from by
    have:∀l:List (au × Nat),κ (l.flatMap gP)=κ l*20:=λl=>by
     induction l with
     | nil=>rfl
     | cons y l ih=>rw[Abc,Aaf,ih,wW,Aaj];omega
    rw[this,ez];omega)
   obtain⟨tb,br⟩:=bE ((ps.take k).flatMap gP);rw[<-br]at OR LK TK;clear hc hx br;have BX:=an (aF.new wr 354 (sD x));have RP:=an (show(wr.alloc (.cells (sD x) 354)).rangeAt wr.heap.size 0 (be x.1).toList from λj u hj=>by
    rw[Aby,BX.out.cell];match j,hj with
    | 0,hj=>exact hj
    | 1,hj=>exact hj
    | 2,hj=>exact hj
    | (n+3),hj=>simp[be]at hj)
   obtain⟨N3,UX,PB,XG,al⟩:=eW (show(wr.alloc (.cells (sD x) 354)).cell? (ad wr.heap.size 3)=some (i6 (x.2:Int))from by rw[BX.out.cell];rfl) (ai wr (.cells (sD x) 354)) (n5 (wr.alloc (.cells (sD x) 354)) x.1 xw) xg xw;have wn:=dT x.2 ae;clear xg;obtain⟨xp,xn⟩:=x;simp only at *;obtain⟨ta,tc,rfl⟩:=OR.cu.slice;go_wp2_with(first
    | refine cT 354 26 (sD (xp,xn)) RC ?_
    | refine bB 354 Pu ?_
    | refine eh 354 12 27 wr (sD (xp,xn)) 354 (sD (hole,0)) ?_
    | refine cT 87 29 (be xp) RP ?_)
   refine PB.mono ?_;rintro e w4(⟨_,v4,rfl,o4,u4⟩|⟨ay,_⟩)
   case inr=>rw[XG.out]at ay;cases ay
   obtain⟨pa,pc,ag⟩:=o4.cu.slice;rw[fx]at ag;subst ag;have U4:=an (UX.trans u4);have n3:=u4.cell N3;have UA:=an (ai w4 (.cells #[i6 4] 3));have c3:=UA.cell n3;obtain⟨aU,U5,cN⟩:=aV (yG ((w4.alloc (.cells #[i6 4] 3)).alloc (.cells #[u6 (xn:Int)] 70)) (cD w4.heap.size 1 1) [4] ((aD.ew (f:=bC) w4 w4.heap.size rfl #[i6 4] 3 (0,0) [4] 1 rfl dK rfl).up (ai _ _)) aq (cD (w4.heap.size+1) 1 1) [xn] (aD.ew (f:=cr) (w4.alloc (.cells #[i6 4] 3)) (w4.heap.size+1) (by rw[aN]) #[u6 (xn:Int)] 70 (0,0) [xn] 1 rfl dK rfl) (by intro k hk;simp at hk;omega) (GJ ae)) ((U4.trans UA).trans (ai (w4.alloc (.cells #[i6 4] 3)) (.cells #[u6 (xn:Int)] 70))) (UA.trans (ai (w4.alloc (.cells #[i6 4] 3)) (.cells #[u6 (xn:Int)] 70)));clear n3 N3;go_wp2_with fail;refine aU.mono ?_;rintro e w6⟨v6,rfl,o6,u6⟩;obtain⟨qa,qc,ak⟩:=o6.cu.slice;rw[jA]at ak;subst ak;have U6:=an (U5.trans u6);obtain⟨T6,P6,S6⟩:=aV (OR.up U6) (((o4.up cN).up u6).cu) (show w3.heap.size<=w6.heap.size from bK UR.size U6.size);have lk:=LK.out;obtain⟨LP,LQ⟩:=aw (show(bR xp).length=16 from fx _) (jA xn);clear c3;obtain⟨n1,n2⟩:=aw (show(κ tb+κ (bR xp))*1<=140737488355328 by rw[LP.out];omega) (show κ tb+κ (bR xp)<=9223372036854775807 by rw[LP.out];omega);go_wp2_with(first
    | (at_builtin;refine bu aK cy rfl (.tmp 49) (.tmp 50) 30 rfl w3.heap.size 5 (.int .u8 0) 1 Aa0 eX rfl _ tb rfl T6 (.slice pa 16 pc) (bR xp) rfl P6 n1 n2 S6 ?_))
   intro v7 w7 aI aX ba;obtain⟨K7,U7,S7,n3,n4⟩:=eW ((o6.wA (OR.up U5) (aE _) aX).cu) ((UR.trans U6).aG ba (aE _)) (show w3.heap.size<=w7.heap.size from bK S6 ba.size) (show(κ (tb++bR xp)+κ (aW [4] [xn]))*1<=140737488355328 from Ur) (show(tb++bR xp).length+κ (aW [4] [xn])<=9223372036854775807 from Ur);go_wp2_with(first
    | (at_builtin;refine bu aK cy rfl (.tmp 51) (.tmp 52) 30 rfl w3.heap.size 5 (.int .u8 0) 1 Aa0 eX rfl _ (tb++bR xp) rfl aI (.slice qa 4 qc) (aW [4] [xn]) rfl K7 n3 n4 S7 ?_))
   intro v8 w8 ax aB av;have U8:=an (U7.aG av (aE _));go_wp2;go_roundw
   case rel=>exact⟨k+1,ae,aq,by rw[TK.out];exact ax,U8⟩
   case measure=>simp only[Aau];omega
  ·obtain rfl:k=2:=by omega
   have b2:((2:Int)<2)=False:=aq
   have FIN:=an (show(ps.take 2).flatMap gP=fJ p n q m from by rw[ab.out];rfl);go_wp2_with fail;go_ret2;exact⟨_,rfl,by rw[<-FIN.out];exact OR.mono U3.size,U3.trans UR⟩
theorem TI(w:af)(n:Nat)(h0:0<n)(hn:n<=100000):Aae Aag 190 #[nl,i6 (n:Int)] w λe w'=>∃v,e=.returned v/\bf w' w.heap.size v []/\Up w w':=by
 obtain⟨i,hi,hz0,hz1,ar⟩:=jN cF;obtain⟨AP,aa⟩:=aw (λ(ty:Aab)=>Lib.run_append_nil_zeros (P:=Aag) w 88 3 ty 87 i _ .i64 .i64 Aaq aA hi hz0 n h0 ae ae aQ) (show n<=grownCap w n 0 87/\grownCap w n 0 87<=maxLen from⟨grownCap_ge _ _ _ _,grownCap_le_maxLen _ _ _ _ dK⟩);have b1:((n:Int)<0)=False:=aq
 have b2:((n:Int)>0)=True:=ab
 generalize grownCap w n 0 87=gc at *;go_in;go_wp2_with(first
  | (at_builtin;refine Lib.wpList_append_run _ rfl (.tmp 20) (.tmp 21) 88 3 rfl _ _ rfl rfl _ _ (AP _) ?_))
 go_ret;refine⟨_,rfl,⟨rfl,.inr ⟨w.heap.size,gc,_,rfl,aE _,(aF.new w 87 (Abf #[Ack IntKind.i64 0,Ack IntKind.u64 0,Ack IntKind.u32 0] n++Abf #[Ack IntKind.i64 0,Ack IntKind.u64 0,Ack IntKind.u32 0] (gc-n))).up (Up.drew (Up.refl _)),bT _,aa.2,?_,aq⟩⟩,(ai w _).trans (Up.drew (Up.refl _))⟩;have:=aa.1;simp[Abf];omega
def kX(w:af)(v:ah)(ls:List (List au)):Prop:=∃us:List Xe,aD gu w v us/\(κ us)=κ ls/\∀i(a:i<κ us)(b:i<κ ls),c9 w (gu us[i]) ls[i]
theorem kX.slice{v:ah}{ls:List (List au)}(h:kX w v ls):∃a cap,v=.slice a (κ ls) cap:=by obtain⟨us,h1,h2,_⟩:=h;rw[<-h2];exact h1.slice
theorem kX.up{w w':af}{v:ah}{ls:List (List au)}(h:kX w v ls)(u:Up w w'):kX w' v ls:=by obtain⟨us,h1,h2,h3⟩:=h;exact⟨us,h1.up u,h2,λi a b=>aH.up (h3 i a b) u⟩
theorem kX.get{a:Option Adr}{ls:List (List au)}(h:kX w (.slice a n cap) ls)(hk:k<κ ls):∃b off va vc,a=some ⟨b,off,none⟩/\n=κ ls/\w.cell? (ad b (off+k))=some (.slice va ls[k].length vc)/\c9 w (.slice va ls[k].length vc) ls[k]:=by
 obtain⟨us,h1,h2,h3⟩:=h;obtain⟨va,vc,hv⟩:=aH.slice (h3 k ae hk);rcases h1 with⟨rfl,_⟩|⟨b,off,al,h4,_,_,_,hc⟩
 ·grind
 grind
def gS(ls:List (List au)):Nat:=(ls.map List.length).sum
theorem yg{ls:List (List au)}(h:k<κ ls):gS (ls.take (k+1))=gS (ls.take k)+ls[k].length:=by unfold gS;rw[et h,Aar,wO];rfl
theorem RX(ls:List (List au))(k:Nat):gS (ls.take k)<=gS ls:=by
 have h:gS ls=gS (ls.take k)+gS (ls.drop k):=by unfold gS;rw[<-wO,<-Aar,fQ]
 omega
theorem Qm{ls:List (List au)}(h:k<κ ls):(ls.take (k+1)).flatten=(ls.take k).flatten++ls[k]:=by rw[et h,List.flatten_append];simp
theorem H2(ls:List (List au)):κ ls.flatten=gS ls:=by simp[gS]
theorem Al(w:af)(v:ah)(ls:List (List au))(hv:kX w v ls)(h0:0<gS ls)(hn:gS ls<=100000)(hl:κ ls<=1000):Aae Aag 118 #[v] w λe w'=>∃v,e=.returned v/\bf w' w.heap.size v ls.flatten/\Up w w':=by
 obtain⟨a,cap,rfl⟩:=hv.slice;obtain⟨HV,SL⟩:=aw hv (RX ls);go_in;go_wp2;go_loopw [3,11] (λs i wr=>∃k:Nat,k<=κ ls/\i=i6 k/\s=i6 (gS (ls.take k):Int)/\wr=w) (λ_ i _=>κ ls-(Aau i).toNat)
 case atStart=>exact⟨0,bT _,rfl,aA,rfl⟩
 case round=>
  obtain⟨k,hk,rfl,rfl,rfl⟩:=hrel;by_cases hlt:k<κ ls
  ·have b2:((k:Int)<(κ ls:Int))=True:=by simp;omega
   obtain⟨b,off,va,vc,rfl,_,hc,_⟩:=HV.get hlt;have ST:=an (yg hlt);have:=SL k;have:=SL (k+1);rw[ST.out]at this;generalize gS (ls.take k)=s0 at *;generalize ls[k].length=lk at *;have e1:IntKind.i64.wrap ((s0:Int)+(lk:Int))=((s0+lk:Nat):Int):=by rw[show(s0:Int)+(lk:Int)=((s0+lk:Nat):Int)from ae];exact aX _ ae
   have b4:(((s0+lk:Nat):Int)<0)=False:=ab
   go_wp2;go_roundw
   case rel=>exact⟨k+1,ae,aq,by rw[ST.out];rfl,trivial⟩
   case measure=>simp only[Aau];omega
  ·obtain rfl:k=κ ls:=by omega
   have b2:((κ ls:Int)<(κ ls:Int))=False:=aq
   rw[fF];obtain⟨sl,aI⟩:=bE (gS ls);rw[<-aI]at h0 hn SL ⊢;have HS:=an aI;obtain⟨w0,ay⟩:=bE (wr);subst ay;clear aI;go_wp2_with fail;refine(TI w0 sl h0 hn).mono ?_;rintro e w2⟨v2,rfl,o2,u2⟩;obtain⟨O2,U2⟩:=aw o2 u2;go_wp2;go_loopw [6,27] (λs i w3=>∃k:Nat,k<=κ ls/\i=i6 k/\bf w3 w0.heap.size s (ls.take k).flatten/\Up w0 w3) (λ_ i _=>κ ls-(Aau i).toNat)
   case atStart=>exact⟨0,bT _,rfl,O2,U2⟩
   case round=>
    obtain⟨k,aa,rfl,ho,hu⟩:=hrel;obtain⟨OO,UU⟩:=aw ho hu;by_cases hlt:k<κ ls
    ·have b2:((k:Int)<(κ ls:Int))=True:=by simp;omega
     obtain⟨b,off,va,vc,rfl,_,hc,hp⟩:=(HV.up UU).get hlt;obtain⟨HP,FT⟩:=aw hp (Qm hlt);have FL:=an (show(ls.take k).flatten.length+ls[k].length<=100000 from by rw[H2,<-yg hlt];exact bK (SL _) hn)
     generalize ls[k]=lk at *;generalize(ls.take k).flatten=acc at *;obtain⟨ta,tc,rfl⟩:=(ak.row OO pw).slice;go_wp2_with(first
      | (at_builtin;refine bH pw rfl (.tmp 31) (.tmp 32) 88 rfl w0.heap.size 87 _ 24 Aaq cF rfl _ acc rfl OO _ lk rfl HP di di UU.size ?_))
     intro v4 w4 aj ag ad;have U4:=an (UU.aG ad (aE _));go_wp2;go_roundw
     case rel=>exact⟨k+1,ae,aq,by rw[FT.out];exact aj,U4⟩
     case measure=>simp only[Aau];omega
    ·obtain rfl:k=κ ls:=by omega
     have oo:=OO.out;rw[fF]at oo;go_wp2;go_ret;exact⟨_,rfl,oo,UU⟩
theorem l8{C C':List cS}{q:au}(h:C'[q.loc.toNat]?=C[q.loc.toNat]?):fM C' q=fM C q:=by grind [fM]
theorem nw{C C':List cS}{q:au}(h:C'[q.loc.toNat]?=C[q.loc.toNat]?):node8 C' q=node8 C q:=by grind [node8,l8]
theorem DJ{lv:Nat->List au}{t:Nat}:∀d,d<=t->∀k,t-d<=k->k<t->∀x∈lv k,x∈iW lv t d
 | 0,_,k,h1,h2,x,_=>ae
 | d+1,hd,k,h1,h2,x,hx=>by
  unfold iW;by_cases h:k=t-(d+1)
  ·subst h;exact oX _ hx
  ·exact nO _ (DJ d ae k ae h2 x hx)
theorem w'{b:List aj}{lv:Nat->List au}(hk:k<κ (eG (κ b))){x:au}(hx:x∈lv k):x∈dY b lv:=DJ _ (aE _) k ae hk x hx
theorem iO.congr{C C':List cS}{root:au}{b:List aj}{lv:Nat->List au}(B:iO C root b lv)(h:∀p∈dY b lv,C'[p.loc.toNat]?=C[p.loc.toNat]?):iO C' root b lv:=by exact⟨B.len,B.sz,B.top,B.nh,λi hi=>by rw[l8 (h _ (w' (by rw[h4 B.len.1 B.len.2];simp) (cw hi)))];exact B.ZD i hi,λk hk i hi=>by rw[nw (h _ (w' hk (cw hi)))];exact B.nod k hk i hi⟩
theorem Bd(lv:Nat->List au)(t:Nat):∀d,d<=t->(iW lv t d).Perm ((List.range' (t-d) d).flatMap lv)
 | 0,_=>by simp[iW]
 | d+1,hd=>by unfold iW;rw[List.range'_succ,Abc,show t-(d+1)+1=t-d from ae];exact((Bd lv t d ae).append_right _).trans List.perm_append_comm
theorem A3(st:Nat)(ats:List Nat)(b:List aj):∀k,(fE st ats b k).map (ar st)=(Aak k).flatMap (ly st ats b)
 | 0=>rfl
 | k+1=>by show(fE st ats b k++(mS st ats b k).1).map _=_;rw[Aar,A3 st ats b k,Ab5,gk,List.flatMap_singleton];rfl
theorem tZ(st:Nat)(ats:List Nat)(b:List aj):(dY b (ly st ats b)).Perm ((fE st ats b (κ (eG (κ b)))).map (ar st)):=by rw[A3];have:=Bd (ly st ats b) (κ (eG (κ b))) _ (aE _);rw[Nat.sub_self,<-List.range_eq_range']at this;exact this
theorem lM{b:List aj}(h1:1<=κ b)(h2:κ b<=65535)(hn:κ ats=dN (κ b)):((dY b (ly st ats b)).map (·.loc)).Perm (ats.map (λk:Nat=>(k:Int))):=by
 have:=(tZ st ats b).map (·.loc);rw[qu]at this;have e:(fE st ats b (κ (eG (κ b)))).map ((·.loc) ∘ ar st)=ats.map (λk:Nat=>(k:Int)):=by rw[<-ky (st:=st) h1 h2 hn,qu,ky h1 h2 hn];rfl
 simp_all
theorem CJ{b:List aj}:∀p∈dY b (ly st ats b),p.aU=st:=λp hp=>by obtain⟨x,_,rfl⟩:=Abd.1 ((tZ st ats b).mem_iff.1 hp);rfl
structure lv(C:List cS)(q:au)(b sp:List aj)(ps:List au):Prop where
 ex:∃(r1 r2:au)(lv1 lv2 lvq:Nat->List au),iO C q (fJ r1 (κ b) r2 (κ sp)) lvq/\iO C r1 b lv1/\iO C r2 sp lv2/\(r1.wf/\cA r1=true)/\(r2.wf/\cA r2=true)/\ps=q::(dY b lv1++dY sp lv2)/\dY (fJ r1 (κ b) r2 (κ sp)) lvq=[q]
theorem lv.congr{C C':List cS}{q:au}{b sp:List aj}{ps:List au}(M:lv C q b sp ps)(h:∀p∈ps,C'[p.loc.toNat]?=C[p.loc.toNat]?):lv C' q b sp ps:=by
 obtain⟨r1,r2,lv1,lv2,lvq,a,b',c,d,e,f,g⟩:=M.ex;subst f;refine⟨r1,r2,lv1,lv2,lvq,a.congr (λp hp=>h p ?_),b'.congr (λp hp=>h p ?_),c.congr (λp hp=>h p ?_),d,e,rfl,g⟩
 ·simp_all
 ·simp_all
 ·simp_all
theorem MS(h1:1<=n)(h2:n<=128):eG n=[1]:=by grind [h4,lZ,hx]
theorem S6{b:List aj}(h1:1<=κ b)(h2:κ b<=128)(hi:4<=i)(hc:C[i]?=some (eS b h2)):iO C ⟨i,st,dQ (eS b h2)⟩ b (λ_=>[⟨i,st,dQ (eS b h2)⟩])/\dY b (λ_=>[⟨i,st,dQ (eS b h2)⟩])=[⟨i,st,dQ (eS b h2)⟩]:=by
 have hl:=MS h1 h2;have ab:(⟨i,st,dQ (eS b h2)⟩:au)≠hole:=λe=>by have:=cn au.loc e;simp[hole]at this;omega
 refine⟨⟨⟨h1,ae⟩,λk hk=>?_,rfl,λk hk x hx=>aa,λj hj=>?_,λk hk=>aa⟩,?_⟩
 ·simp_all
 ·obtain rfl:j=0:=by simp_all
  show fM C ⟨i,st,dQ (eS b h2)⟩=_;unfold fM;rw[aY ab,bI aq];show(C[((i:Nat):Int).toNat]?).bind _=_;rw[Abp,hc,qA,bI rfl];have:nD b 0=b:=by unfold nD;rw[Nat.mul_zero,Aaw,dq h2]
  grind [dB,eS]
 ·unfold dY;rw[hl];rfl
def gW(s:Nat->Nat):Nat->Bool:=λi=>decide (i<1024/\s i=2)
def W'(P:bq):List aj:=iS (κ P.C) (aB (gW P.s) 4096)
structure Mv(P P':bq)(ats:List Nat)(ps:List au):Prop where
 s:P'.s=P.s
 st:P'.st=P.st
 ba:P'.ba=P.ba
 len:κ P'.C=κ P.C
 m:P'.m=P.m+κ ats
 other:∀i,i ∉ ats->P'.C[i]?=P.C[i]?
 Bb:(ps.map (·.loc)).Perm (ats.map (λk:Nat=>(k:Int)))
 aU:∀p∈ps,p.aU=P.st
def Mq(P:bq)(H:aR)(b:List aj)(ats:List Nat)(w:af)(e:Ab2)(w':af):Prop:=∃q v ps P',e=.returned (.tuple #[.agg (be q),v,.int .i64 0])/\bf w' w.heap.size v ps/\PT w H P' w'/\lv P'.C q b (W' P) ps/\Mv P P' ats ps/\q.wf/\cA q=true
theorem W3{P:bq}{b sp T:List aj}{ats a1 a2:List Nat}{last:Nat}(h1:1<=κ b)(h2:κ b<=65535)(ai:1<=κ sp)(ak:κ sp<=65535)(ha:ats=a1++(a2++[last]))(hd:ats.Nodup)(aL:κ a1=dN (κ b))(al:κ a2=dN (κ sp))(has:∀i∈ats,4<=i/\i<1024/\P.s i=2/\i<κ P.C)(aG:1<=P.st/\P.st<=281474976710655){r1 r2:au}(bD:ly P.st a1 b (κ (eG (κ b))-1)=[r1])(aP:ly P.st a2 sp (κ (eG (κ sp))-1)=[r2])(hT:T=fJ r1 (κ b) r2 (κ sp))(bn:κ T<=128){P1 P2 P3:bq}(a7:P1=bV P (fE P.st a1 b (κ (eG (κ b)))))(bJ:P2=bV P1 (fE P.st a2 sp (κ (eG (κ sp)))))(bz:P3={P2 with C:=P2.C.set last (eS T bn),m:=P2.m+1,fl:=false}){q:au}(hq:q=⟨last,P.st,dQ (eS T bn)⟩):iO P3.C r1 b (ly P.st a1 b)/\iO P3.C r2 sp (ly P.st a2 sp)/\lv P3.C q b sp (q::(dY b (ly P.st a1 b)++dY sp (ly P.st a2 sp)))/\
  Mv P P3 ats (q::(dY b (ly P.st a1 b)++dY sp (ly P.st a2 sp)))/\q.wf/\cA q=true:=by
 subst ha;obtain⟨ao,ag⟩:=az ((uN.1 hd).2.1) ((uN.1 hd).2.2);have m2:∀i∈a2,i∈a1++(a2++[last]):=λi h=>oX _ (nO _ h);have m3:last∈a1++(a2++[last]):=oX _ (oX _ aq);have aD:∀i∈a1,i≠last:=λi h e=>ag i h last aq e;have aC:∀i∈a1,i ∉ a2:=λi h h'=>ag i h i (nO _ h') rfl;have aE:∀i∈a2,i≠last:=λi h e=>(uN.1 ao).2.2 i h last aq e;obtain⟨p1,p2,p3,p4,p5⟩:=gp P (fE P.st a1 b (κ (eG (κ b))));obtain⟨q1,q2,q3,q4,q5⟩:=gp P1 (fE P.st a2 sp (κ (eG (κ sp))));rw[<-a7]at p1 p2 p3 p4 p5;rw[<-bJ]at q1 q2 q3 q4 q5;obtain⟨S,hS⟩:=bE (eS T bn);have e3:P3.C=P2.C.set last S/\P3.m=P2.m+1/\P3.s=P2.s/\P3.st=P2.st/\P3.ba=P2.ba:=aa
 clear bz;obtain⟨i1,i2⟩:=az (ky (st:=P.st) h1 h2 aL) (ky (st:=P.st) ai ak al);have B1:iO P1.C r1 b (ly P.st a1 b):=by grind [D6]
 have B2:iO P2.C r2 sp (ly P.st a2 sp):=by grind [D6]
 obtain⟨L1,L2⟩:=az (lM (st:=P.st) h1 h2 aL) (lM (st:=P.st) ai ak al);have Z5:∀p∈dY b (ly P.st a1 b),p.loc.toNat∈a1:=λp hp=>by have:=L1.mem_iff.1 (Abd.2 ⟨p,hp,rfl⟩);exact Oz
 have in2:∀p∈dY sp (ly P.st a2 sp),p.loc.toNat∈a2:=λp hp=>by have:=L2.mem_iff.1 (Abd.2 ⟨p,hp,rfl⟩);exact Oz
 have an:∀i,i≠last->P3.C[i]?=P2.C[i]?:=λi h=>by rw[e3.1];exact Fv (λe=>h e.symm)
 have aw:∀i,i ∉ a2->P2.C[i]?=P1.C[i]?:=λi h=>by rw[bJ];exact j2 _ P1 i aa
 have ay:∀i,i ∉ a1->P1.C[i]?=P.C[i]?:=λi h=>by rw[a7];exact j2 _ P i aa
 have ad:=has last m3;have aB:last<κ P2.C:=ae
 have C1:iO P3.C r1 b (ly P.st a1 b):=B1.congr (λp hp=>by have:=Z5 p hp;rw[an _ (aD _ this),aw _ (aC _ this)])
 have C2:iO P3.C r2 sp (ly P.st a2 sp):=B2.congr (λp hp=>an _ (aE _ (in2 p hp)));have aF:P3.C[last]?=some S:=aQ
 obtain⟨BQ,AQ⟩:=S6 (C:=P3.C) (i:=last) (st:=P.st) (b:=T) (by grind [jd]) bn ad.1 aQ;rw[<-hq]at BQ AQ;have g1:=og (b:=b) (λi h=>has i ((λi h=>nO _ h) i h)) aG (κ (eG (κ b))-1) r1 aQ;obtain⟨g2,gq⟩:=az (og (P:=P) (b:=sp) (λi h=>has i (m2 i h)) aG (κ (eG (κ sp))-1) r2 aQ) (ik ad.1 ad.2.1 aG.1 aG.2 (eS T bn));rw[<-hq]at gq;refine⟨C1,C2,⟨r1,r2,ly P.st a1 b,ly P.st a2 sp,_,by rw[<-hT];exact BQ,C1,C2,g1,g2,rfl,aQ⟩,⟨e3.2.2.1.trans (q1.trans p1),e3.2.2.2.1.trans (q2.trans p2),e3.2.2.2.2.trans (q3.trans p3),?_,?_,λi hi=>?_,?_,λp hp=>?_⟩,gq.1,gq.2⟩
 ·grind
 ·grind
 ·grind
 ·simp only[Acd,Aar,List.map_nil];refine(List.Perm.cons _ (L1.append L2)).trans ?_;rw[hq];grind
 ·grind [CJ]
section
variable {P:bp} {o:Abn} {a:Act} {w:af} {K:Act->af->Prop} {Q:Exit->Act->af->Prop}
theorem iK(ty:Aab)(x y:bU)(ho:o.op=.store ty x y)(g:Nat)(C':Array ah)(hx:a.eval x=pz g)(hy:a.eval y=.agg C')(t:Aab)(C:Array ah)(hb:aF w g t C)(hi:(P.info? ty).map (·.size)=some C'.size)(hold:C.size=C'.size)(h1:C'.all (·.oneCell')=true)(h:∀w',aF w' g t C'->w.grownBy w' (some g)->K (a.put o.dst Aas) w'):o.wp P a w K Q:=by
 have hfit:0+C'.size<=C.size:=ae
 have aG:=wD (P:=P) g 0 t C'.toList 0 C w hb ae (λv hv=>(wE.1 h1) v aQ);have a6:(storeVar ty ⟨g,0,none⟩ (.agg C')).run P w=.ok () (w.setRow g (Abx C.toList 0 C'.toList).toArray):=by
  cases hq:P.info? ty with
  | none=>grind
  | some i=>
   have hs:C'.size=i.size:=aQ
   simp[storeVar,sizeOf,typeInfo,hq,Value.cells,hs];assumption
 have aY:(Abx C.toList 0 C'.toList).toArray=C':=MY
 rw[aY]at a6;unfold Aca Abt;simp[ho,hx,hy,Instr.storeAt,Adg,Aay,a6,Aap];exact h _ (hb.set C') (cV w g C')
theorem Sr(t:Aab)(x y z:bU)(ho:o.op=.buildSlice t 3 #[(0,x),(1,y),(2,z)])(X Y Z:ah)(hx:a.eval x=X)(hy:a.eval y=Y)(hz:a.eval z=Z)(v:ah)(w':af)(hr:(Acz t 3 #[(0,X),(1,Y),(2,Z)]).run P w=.ok v w')(h:K (a.put o.dst v) w'):o.wp P a w K Q:=by unfold Aca Abt;simp[ho,hx,hy,hz,hr,Aap];exact h
end
theorem L3{P:bq}(ht:64<=κ P.C/\(κ P.C)<=1024)(hf:oF (gW P.s) (κ P.C)):κ (W' P)=cL (κ P.C):=by
 unfold W' iS;have SN:cL (κ P.C)=2+5*((κ P.C+1)/2):=by grind [cL]
 have:=s6 hf ae;exact Oy
theorem Lt{H:aR}{P:bq}(A:PA w H P){v:ah}{xs:List aj}(h:Own aK 5 w base v xs):∀k,v.ownBlock=some k->¬PF H k:=λk hk=>by
 obtain⟨_,h2⟩:=h;rcases h2 with⟨h3,_⟩|⟨g,cap,cur,h3,_,h5,_⟩
 ·rw[h3]at hk;cases hk
 ·rw[h3]at hk;simp only[Aan,Aai]at hk;subst hk;exact A.cc (t:=5) (C:=cur) h5 av
theorem Ja(w:af)(a1 a2 a3:Option Adr)(n1 c1 n2 c2 n3 c3:Nat):(Acz 275 3 #[(0,.slice a1 n1 c1),(1,.slice a2 n2 c2),(2,.slice a3 n3 c3)]).run Aag w=.ok (cD w.heap.size 3 3) (w.alloc (.cells #[.slice a1 n1 c1,.slice a2 n2 c2,.slice a3 n3 c3] 88)):=al
theorem L4(h:64<=t/\t<=1024):1<=cL t/\cL t<=65535:=by grind [cL]
theorem K'(w:af)(H:aR)(P:bq)(A:PA w H P)(vt:ah)(b:List aj)(hb:a8 w vt b)(aW:∀k,vt.ownBlock=some k->¬PF H k)(h1:1<=κ b)(h2:κ b<=65535)(va:ah)(ats:List Nat)(ha:aD bC w va (ats.map (λk:Nat=>(k:Int))))(han:∀k,va.ownBlock=some k->¬PF H k)(ht:64<=κ P.C/\(κ P.C)<=1024)(aT:κ ats=e8 (κ b) (κ P.C))(hd:ats.Nodup)(has:∀i∈ats,4<=i/\i<1024/\P.s i=2/\i<κ P.C)(aG:1<=P.st/\P.st<=281474976710655)(hm:P.m<=800000)(hf:oF (gW P.s) (κ P.C)):Aae Aag 214 #[pz H.pb,vt,va] w λe w'=>Mq P H b ats w e w':=by
 obtain⟨b9,spn⟩:=az (L3 ht hf) (L4 ht);have N1:dN (κ b)<=1024:=(jw (κ b)).2;have N2:dN (cL (κ P.C))<=1024:=(jw (cL (κ P.C))).2;obtain⟨sp,aY⟩:=bE (W' P);rw[<-aY]at b9;have cP:dN (κ sp)=dN (cL (κ P.C)):=by rw[b9]
 obtain⟨n,hn⟩:=bE (dN (κ b));obtain⟨m,hmm⟩:=bE (dN (κ sp));have cp:κ ats=n+m+1:=by rw[aT];unfold e8;rw[hn,hmm,cP];omega
 obtain⟨a1,b7⟩:=bE (ats.take n);obtain⟨a2,b8⟩:=bE ((ats.drop n).take m);have aS:n+m<κ ats:=ae
 obtain⟨last,aL⟩:=bE (ats[n+m]);have ay:ats=a1++(a2++[last]):=by
  rw[b7,b8,aL];conv=>lhs;rw[<-fQ n ats]
  congr 1;rw[<-fQ m (ats.drop n)];congr 1
  ·rw[fQ]
  ·rw[Ac4,td aS,wF ae]
 have l1:κ a1=n:=by rw[b7,ez];omega
 have l2:κ a2=m:=by rw[b8,ez,hA];omega
 have m1:∀i∈a1,i∈ats:=λi h=>by rw[ay];exact nO _ h
 have m2:∀i∈a2,i∈ats:=λi h=>by rw[ay];exact oX _ (nO _ h)
 have m3:last∈ats:=by rw[aL];exact cw _
 obtain⟨ta,tc,rfl⟩:=hb.slice;obtain⟨aa,ac,rfl⟩:=ha.slice;rw[Aac]at ha han ⊢;have dB:=mj ha;have aU:∀W,(Aav 41 (.slice aa (κ ats) ac) none (some (i6 (n:Int))) none).run Aag W=.ok (bY aa 0 n ac) W:=λW=>hj (P:=Aag) 41 rz rA aa _ ac n ae W;have ba:∀W,(Aav 41 (.slice aa (κ ats) ac) (some (i6 (n:Int))) (some (i6 ((n:Int)+(m:Int)))) none).run Aag W=.ok (bY aa n (n+m) ac) W:=λW=>by have:=D' (P:=Aag) 41 rz rA aa (κ ats) ac n (n+m) ae ae W;rw[Int.natCast_add]at this;exact this
 have bQ:=an (show aD bC w (bY aa 0 n ac) (a1.map (λk:Nat=>(k:Int)))from by have:=aD.piece ha (lo:=0) (hi:=n) ae mg;rw[Aaw,<-wI,<-b7]at this;exact this)
 have bK:=an (show aD bC w (bY aa n (n+m) ac) (a2.map (λk:Nat=>(k:Int)))from by have:=aD.piece ha (lo:=n) (hi:=n+m) ae mg;rw[<-wI,<-qy]at this;rw[b8];rw[List.drop_take,Fq]at this;exact this)
 obtain⟨p1,aC⟩:=bE (bY aa 0 n ac);obtain⟨p2,aI⟩:=bE (bY aa n (n+m) ac);obtain⟨cy,b'⟩:=aw (show ∀k,p1.ownBlock=some k->¬PF H k from λk hk=>han k (by rw[aC]at hk;exact rW hk)) (show ∀k,p2.ownBlock=some k->¬PF H k from λk hk=>han k (by rw[aI]at hk;exact rW hk));obtain⟨ab,ao,ar,_,b2⟩:=cg ha FJ mg;subst ar;have LC:=an (show w.cell? (ad ab (ao+(n+m)))=some (i6 (last:Int))from by have:=b2 (n+m) (by rw[Aac];exact aS);rw[List.getElem_map,<-aL]at this;exact this)
 have LN:=an (han ab rfl);rw[<-aC]at aU bQ;rw[<-aI]at ba bK;obtain⟨lb,bL⟩:=bE (κ b);rw[<-bL]at hb aW;have aO:n<=1024:=by rw[hn];exact N1
 have dC:m<=1024:=by rw[hmm,cP];exact N2
 obtain⟨HA,HB,bT,bP,bR,bG,b1⟩:=yk A hb aW (λi h=>has i (m1 i h)) (λi h=>has i (m2 i h)) (has last m3) (show ats=a1++(a2++[last])/\ats.Nodup/\(κ a1)=dN (κ b)/\(κ a2)=dN (κ sp)/\(∀i∈ats,4<=i/\i<1024/\P.s i=2/\i<κ P.C)from⟨ay,hd,l1.trans hn,l2.trans hmm,has⟩);obtain⟨nA,cQ⟩:=bE (κ ats);rw[<-cQ]at aU ba ⊢;have cq:nA=n+m+1:=ae
 obtain⟨cd,ND⟩:=aw bL (vu (w.alloc (.cells (be hole) 87)) (κ b) ae);rw[<-hn]at ND;rw[<-bL]at ND ⊢;obtain⟨HN,HM,bb,SPL,U1,B1,bS,bw,H1⟩:=abP hn hmm aY b9 (ai w (.cells (be hole) 87)) (aF.new w 87 (be hole)) l1 l2 (show 1<=κ b/\(κ b)<=65535 from⟨h1,h2⟩);clear aW han aT cp has m1 m2 m3 ay l1 l2 hn hmm aY b9 aC aI b2 cQ aL b7 b8 bL h1 h2;subst cq;go_in;go_wp2_with(refine arm ?_);refine ND.mono ?_;rintro e w2⟨rfl,u2⟩;obtain⟨U2,B2⟩:=aw (U1.trans u2) (B1.up u2);have cV:=an (Dd w2 H P (HA.up U2) (.slice ta lb tc) b (HB.up U2) bT H1.1 H1.2 p1 a1 (bQ.up U2) cy (bS.trans HN) bP aG ae);have wl:IntKind.i64.wrap ((n:Int)+(m:Int))=((n+m:Nat):Int):=by rw[show(n:Int)+(m:Int)=((n+m:Nat):Int)from ae];exact aX _ ae
 go_wp2_with fail;clear aU;refine cV.mono ?_;rintro e w3⟨r1,bD,rfl,d3⟩;obtain⟨R1,D3⟩:=aw bD (PT.pre U2 d3);obtain⟨bs,A3,T3,O3⟩:=d3;obtain⟨B3,U4⟩:=aw (B2.ax T3 ((HA.up U2).cc B2 av)) (ai w3 (.cells (be r1) 87));obtain⟨D4,B4,E4⟩:=aV (D3.up U4) (B3.up U4) (aF.new w3 87 (be r1));clear bD O3 cy;go_wp2_with(refine arm ?_);generalize w3.alloc (.cells (be r1) 87)=w4 at *;obtain⟨P1,a7⟩:=bE (bV P (fE P.st a1 b (κ (eG (κ b)))));obtain⟨q1,q2,q3,q4,q5⟩:=gp P (fE P.st a1 b (κ (eG (κ b))));have dD:P1.m<=P.m+2000:=by have:=cn List.length (ky (st:=P.st) H1.1 H1.2 (bS.trans HN));rw[Aac,bS.out]at this;rw[a7,q4,this];omega
 rw[<-a7]at D4 q1 q2 q3 q5;have cf:=an a7;clear a7 q4;obtain⟨Q1,Q2,Q5⟩:=aV q1 q2 q5;have cr:1<=P1.st/\P1.st<=281474976710655:=by rw[q2];exact aG
 have⟨bs,A4,T4,O4⟩:=D4;obtain⟨dv,PD,LE⟩:=aV A4 (lj w4 (H.at bs) P1 A4) (kZ _ _ _ _ _ A4.dev);rw[q5]at LE;obtain⟨PM,TK⟩:=aw (mo w4 (H.at bs) P1 A4) (Cl _ _ _ A4.map);have cR:qW P1.s 2=aB (gW P.s) 4096:=by rw[q1,r5];rfl
 rw[cR]at TK;clear q1 q2 q3 q5 O4 cR;refine zv ?_;intro wx;go_wp2_with fail;refine zw ?_;intro wx;go_wp2_with fail;refine PM.mono ?_;refine f' ?_;intro wx;go_wp2_with fail;refine TK.mono ?_;rintro e w5⟨vs,rfl,os,u5⟩;have b5:=an (Ec w5 (κ P.C) ht (gW P.s) hf vs (ak.row os Cj) (λa k c h=>by subst h;exact(ak.aJ os a.block rfl).2))
 obtain⟨D5,B5,E5,cN⟩:=bW (D4.up u5) (B4.up u5) (E4.up u5) u5;go_wp2_with fail;refine b5.mono ?_;rintro e w6⟨ds,rfl,di,u6⟩;have cm:=an (show Own aK 5 w6 w5.heap.size ds sp from by rw[bb.out];exact di);obtain⟨sa,sc,a6⟩:=cm.cu.slice;rw[SPL.out]at a6;subst a6;obtain⟨D6,B6,E6⟩:=aV (D5.up u6) (B5.up u6) (E5.up u6);have⟨dq,A6,T6,O6⟩:=D6;have cW:=an (Dd w6 (H.at dq) P1 A6 (.slice sa (cL (κ P.C)) sc) sp (by have:=cm.cu;exact this) (Lt A6 cm) wP Bl p2 a2 (bK.ax T6 b') (λk hk=>qJ HA O6 (by
  by_cases h0:0<κ a2
  ·exact tA bK (by rw[Aac];exact h0) k hk
  ·exfalso;have:=h4 (n:=κ sp) wP Bl;have h9:0<dN (κ sp):=by unfold dN;rw[this,Ace];have:=xe (b:=128) (n:=κ sp) ae wP;omega
   rw[bw.out,HM.out]at h0;omega) (b' k hk)) (bw.trans HM) (λi hi=>by
  have:=bR i hi;exact⟨this.1,this.2.1,by rw[Q1.out];exact this.2.2.1,by rw[Q5.out];exact this.2.2.2⟩) cr ae)
 go_wp2_with fail;clear ba;refine cW.mono ?_;rintro e w7⟨r2,aP,rfl,d7⟩;obtain⟨R2,D7⟩:=aw (show ly P.st a2 sp (κ (eG (κ sp))-1)=[r2] from by rw[<-Q2.out];exact aP) (PT.then T6 O6 d7);obtain⟨bm,A7,T7,O7⟩:=d7;obtain⟨B7,E7,U8⟩:=aV (B6.ax T7 (A6.cc B6 av)) (E6.ax T7 (A6.cc E6 av)) (ai w7 (.cells (be r2) 87));obtain⟨D8,B8,E8,F8⟩:=bW (D7.up U8) (B7.up U8) (E7.up U8) (aF.new w7 87 (be r2));clear aP O7 b' O6;obtain⟨P2,bJ⟩:=bE (bV P1 (fE P1.st a2 sp (κ (eG (κ sp)))));obtain⟨q1,q2,q3,q4,q5⟩:=gp P1 (fE P1.st a2 sp (κ (eG (κ sp))));have dm:P2.m<=P1.m+2000:=by have:=cn List.length (ky (st:=P1.st) wP Bl (bw.trans HM));rw[Aac,bw.out]at this;rw[bJ,q4,this];omega
 rw[<-bJ]at D8 q1 q2 q3 q5;have bx:=an (show P2=bV P1 (fE P.st a2 sp (κ (eG (κ sp))))from by rw[bJ,Q2.out]);have db:=an (q1.trans Q1);have dc:=an (q2.trans Q2);have dd:=an (q5.trans Q5);clear bJ q1 q2 q3 q4 q5;obtain⟨G1,G2⟩:=aw (og (b:=b) bP aG (κ (eG (κ b))-1) r1 (by rw[R1.out];simp)) (og (P:=P) (b:=sp) bR aG (κ (eG (κ sp))-1) r2 (by rw[R2.out];simp));have TO:=an (Jp (w7.alloc (.cells (be r2) 87)) r1 G1.1 G1.2 lb (by have:=H1.out;rw[cd.out];omega) r2 G2.1 G2.2 (cL (κ P.C)) spn.2);go_wp2_with(refine arm ?_);generalize w7.alloc (.cells (be r2) 87)=w8 at *;refine TO.mono ?_;rintro e w9⟨cx,rfl,ct,u9⟩;obtain⟨OT,D9,B9,E9,F9⟩:=eW ct (D8.up u9) (B8.up u9) (E8.up u9) (F8.up u9);have⟨dr,A9,T9,O9⟩:=D9;have c8:=fC LC T9 LN;obtain⟨T,hT⟩:=bE (fJ r1 lb r2 (cL (κ P.C)));rw[<-hT]at OT;have bn:κ T=40:=by rw[hT];exact jd _ _ _ _
 have HT:=an (show T=fJ r1 (κ b) r2 (κ sp) from by rw[hT,cd.out,SPL.out]);have aN:κ T<=128:=ae
 have da:=an (tD w9 (H.at dr) P2 A9 last bG.2.1 (by rw[db.out];exact bG.2.2.1) (by rw[dd.out];exact bG.2.2.2) cx T OT.cu aN ae);obtain⟨dE,dF,br⟩:=OT.cu.slice;rw[bn]at br;have dz:=an bn;clear hT bn;subst br;have bl:((n:Int)+(m:Int)<(n:Int)+(m:Int)+1)=True:=ee ae;have dA:(0<=(n:Int)+(m:Int))=True:=ee ae;have tn:((n:Int)+(m:Int)).toNat=n+m:=ae
 go_wp2_with fail;refine da.mono ?_;rintro e aQ⟨rfl,d10⟩;obtain⟨P3,bz⟩:∃x:bq,x={P2 with C:=P2.C.set last (eS T aN),m:=P2.m+1,fl:=false}:=⟨_,rfl⟩;rw[<-bz]at d10;obtain⟨q,hq⟩:∃q:au,q=⟨last,P.st,dQ (eS T aN)⟩:=⟨_,rfl⟩;rw[show(be ⟨(last:Int),P2.st,dQ (eS T aN)⟩)=be q from by rw[hq,dc.out]];obtain⟨WR,cX⟩:=aw (W3 (b:=b) (sp:=sp) H1.1 H1.2 wP Bl b1.1 b1.2.1 b1.2.2.1 b1.2.2.2.1 b1.2.2.2.2 aG R1 R2 HT aN cf bx bz hq) (PT.then T9 O9 d10);obtain⟨dp,du,bB,ck⟩:=d10;obtain⟨bo,dw,c5,bM⟩:=bW (B9.ax bB (A9.cc B9 av)) (E9.ax bB (A9.cc E9 av)) (F9.ax bB (A9.cc F9 av)) (ai aQ (.cells (be q) 87));obtain⟨cY,cz,cG,cK,IQ,OQ,c7⟩:=yk (cX.up bM) (bo.up bM) (c5.up bM) (aF.new aQ 87 (be q)) (ia q) (jX q) bo.lt;have⟨cv,b3,de,bI⟩:=cY;have cC:=an (ri _ _ P3 b3 r1 b _ WR.1);rw[<-cd.out]at cC;clear bz hq ck O9 c8;go_wp2_with(refine arm ?_);generalize aQ.alloc (.cells (be q) 87)=w11 at *;refine cC.mono ?_;rintro e bO⟨x1,v1,rfl,_,_,dj,g12⟩;obtain⟨cb,ch,bX,cA,dy,cM,b6⟩:=yk g12 de bI (cz.ax g12.2 (b3.cc cz av)) (cG.ax g12.2 (b3.cc cG av)) (cK.ax g12.2 (b3.cc cK av)) dj;have b4:=g12.1;have cE:=an (ri bO (H.at cv) P3 b4 r2 sp _ WR.2.1);rw[SPL.out]at cE;clear bI;go_wp2_with(refine arm ?_);refine cE.mono ?_;rintro e bc⟨x2,v2,rfl,_,_,dk,g13⟩;have gg:=cb.trans g13;obtain⟨cZ,cB,c6,b0,cO⟩:=eW (PT.then ch bX (PT.same gg.1 gg.2)) (cA.ax g13.2 (b4.cc cA av)) (cM.ax g13.2 (b4.cc cM av)) (ak.ax b6 g13.2 (eE b4 b6)) dk;clear bX;go_wp2;have MA:=an WR.2.2;have c9:=an (show(dY b (ly P.st a1 b)).length<=1024 from by have:=(lM (st:=P.st) H1.1 H1.2 (bS.trans HN)).length_eq;rw[Aac,Aac,bS.out]at this;omega)
 have c':=an (show(dY sp (ly P.st a2 sp)).length<=1024 from by have:=(lM (st:=P.st) wP Bl (bw.trans HM)).length_eq;rw[Aac,Aac,bw.out]at this;omega)
 generalize dY b (ly P.st a1 b)=L1 at *;generalize dY sp (ly P.st a2 sp)=L2 at *;obtain⟨bf,bj,rfl⟩:=(ak.row b0 pw).slice;obtain⟨bh,bk,rfl⟩:=(ak.row cO pw).slice;refine e7 (S:=λW=>aF W aQ.heap.size 87 (be q)) al ?_;change Acp _ _ _ _ _ 10 _ _ (bc.drew);have UD:=an (Up.drew (Up.refl bc));obtain⟨ca,c0,cT,dg,dh,SZ⟩:=ix (c6.up UD) (cZ.up UD) (cB.up UD) (ak.row (ak.up b0 UD) pw) (ak.row (ak.up cO UD) pw) (show w.heap.size<bc.drew.heap.size from ej cB.lt UD.size);generalize bc.drew=bd at *;refine tb 0 rfl (W7 (λW hS=>aF.range hS)) ?_;refine bA ?_;refine tb 1 rfl (W7 (λW hS=>aF.range hS)) ?_;refine bA ?_;refine tk 3 (.slice bf (κ L1) bj) rfl ya (ca) ?_;refine bA ?_;refine tk 4 (.slice bh (κ L2) bk) rfl ya (ca) ?_;refine bA ?_;refine ok 2 ?_;intro K hK;refine mO 88 87 (.tmp 123) rfl _ 3 24 (be q) rfl Aaq cF ae ae rfl ?_;have bN:=an (ai bd (.cells (be q) 87));have cH:=an (ca.up bN);refine hK _ _ cH ?_;refine gC ?_;clear hK K;refine ok 5 ?_;intro K hK;refine Sr 275 (.tmp 124) (.tmp 125) (.tmp 126) rfl _ _ _ rfl rfl rfl _ _ (Ja _ _ _ _ _ _ _ _ _ _) ?_;have bH:=an (ai (bd.alloc (.cells (be q) 87)) (.cells #[cD bd.heap.size 1 1,.slice bf (κ L1) bj,.slice bh (κ L2) bk] 88));have cI:=an (cH.up bH);have IL:=an (show kX ((bd.alloc (.cells (be q) 87)).alloc (.cells #[cD bd.heap.size 1 1,.slice bf (κ L1) bj,.slice bh (κ L2) bk] 88)) (cD ((bd.alloc (.cells (be q) 87)).heap.size) 3 3) [[q],L1,L2] from
  ⟨[⟨some ⟨bd.heap.size,0,none⟩,1,1⟩,⟨bf,κ L1,bj⟩,⟨bh,κ L2,bk⟩],aD.ew _ _ rfl _ _ (0,0) _ 3 rfl dK rfl,rfl,λi hi _=>by
   match i,hi with
   | 0,_=>exact aH.up (aH.ew bd _ rfl (be q) 87 (0,0) [q] 1 rfl dK (by simp[dL,be])) bH
   | 1,_=>exact aH.up dg (bN.trans bH)
   | 2,_=>exact aH.up dh (bN.trans bH)
   | (k+3),hi=>exact absurd hi aq⟩)
 have CC:=an (Al _ _ [[q],L1,L2] IL (by simp[gS];omega) (by have:=c9.out;have:=c'.out;simp[gS];omega) aq);have FL:[[q],L1,L2].flatten=q::(L1++L2):=aq
 rw[FL]at CC;obtain⟨c3,cU,bZ⟩:=aV (c0.up (bN.trans bH)) (cT.up (bN.trans bH)) (ej SZ (bN.trans bH).size);clear FL SZ;refine hK _ _ cI ?_;refine gC ?_;clear hK K;generalize bd.alloc (.cells (be q) 87)=cS at *;generalize cS.alloc (.cells #[cD bd.heap.size 1 1,.slice bf (κ L1) bj,.slice bh (κ L2) bk] 88)=dI at *;refine ok 6 ?_;intro K hK;go_simp;refine CC.mono ?_;rintro e dt⟨v17,rfl,ov,bF⟩;obtain⟨cJ,c4,bu⟩:=aV (cI.up bF) (c3.up bF) (cU.up bF);refine hK _ _ cJ ?_;refine gC ?_;clear hK K;refine ok 7 ?_;intro K hK;refine iK 87 (.tmp 6) (.tmp 122) rfl w.heap.size (be q) rfl rfl 87 (be hole) bu IQ rfl OQ ?_;intro wz hbz ag;obtain⟨DZ,VZ,FZ⟩:=aV (c4.grow bu av ag (aE _)) ((ak.kept ov ag (.inr (λe=>by have:=(ov.aJ _ e).1;have:=bZ.out;omega))).mono (base':=w.heap.size) (oY bZ)) (show aF wz aQ.heap.size 87 (be q)from cJ.ax (Touch.bg (F:=(·=w.heap.size)) ag (λk hk=>nR)) (by have:=c7.out;omega));refine hK _ _ FZ ?_;refine gC ?_;clear hK K;refine tk 8 (v17) rfl ya (FZ) ?_;refine bA ?_;refine tk 9 (i6 0) rfl ya (FZ) ?_;refine nr ?_;go_wp2;(try simp only[exi]);exact kF (v:=.tuple #[.agg (be q),v17,i6 0]) (sF rfl _ _ _ w.heap.size 87 _ _ _ rfl rfl rfl hbz _ underlying87 rfl IQ) rfl ⟨q,v17,_,P3,rfl,VZ,DZ,by rw[<-bb.out];exact MA.1,MA.2.1,MA.2.2.1,MA.2.2.2⟩
theorem kbR{F0:Nat->Prop}{x0 w:af}{id l n:Nat}(s:Fr F0 x0 L w)(h:∀w,Fr F0 x0 L w->RK P ops Q F0 x0 L L [] 0 a w)(hm:P.follows .mixedOrders=true:=by kernel_rfl)(hd:rR ops=true:=by kernel_rfl)(ay:¬LetsOut Q:=by exact λ⟨_,_,h⟩=>h):(Code.region id ops true).wpIn (Fence.wide.inRound l) n P Q a w:=by have u:Up w w.drew:=Up.drew (Up.refl w);refine gT (S:=Sv F0 x0 L) hm hd ay ?_;have:=h w.drew (s.up u) (λ_ h=>h) [] w.drew (Up.refl _) (s.up u) ⟨.nil,λ_ h=>hE,λ_ h=>hE⟩;exact NU
def bpN(n:Nat)(P:bp)(fn:Func)(R:Ab2->af->Prop):Exit->Act->af->Prop
 | .panic _,_,_=>False
 | e,a,w=>bodyPostM Abv n P fn R e a w
theorem ZU{f:FuncId}{c:Code}{args:Array ah}(n:Nat)(hf:P.funcs[f]?=some fn)(h:c.wp P (bpN n P fn R) {tmps:=args++Array.replicate (fn.ntmps-args.size) undef,defers:=[]} w)(hb:fn.body=some c:=by rfl):Calls P f args w R:=fG.1 (oZ hf hb trivial (wpIn_wide.2 (wp_mono h λe a w q=>by cases e<;>first|exact q|exact q.elim)) rfl)
theorem EL{F0:Nat->Prop}{x0:af}{rs:List ResultVar}{vs:List ah}{v:ah}(s:Fr F0 x0 L w)(hR:R (.returned v) w)(hf:fn.results=⟨rs⟩:=by first|exact(rfl:_=(⟨[_,_,_]⟩:Array ResultVar))|exact(rfl:_=(⟨[_,_]⟩:Array ResultVar))|exact(rfl:_=(⟨[_]⟩:Array ResultVar))|rfl)(hr:Rs P L a.tmps rs vs:=by first|exact .tmp .nil|exact .tmp (.tmp .nil)|exact .tmp (.tmp (.tmp .nil)))(hv:rv vs=v:=by rfl)(hd:a.defers=[]:=by rfl):bpN n P fn R .ret a w:=by obtain⟨v',h1,h2⟩:=(me s hR hf hr hv hd).2;show LeavesInM _ _ _ _ _ _ a.defers _ _;rw[hd];exact⟨v',h1,h2⟩
def PW(l:List au):Prop:=l.Pairwise (λx y=>dA x y=true)
theorem r1{l:List au}:PW l↔rb l:=by unfold PW rb;rw[List.pairwise_iff_getElem];grind
theorem tq:∀(n:Nat)(a b:List au),κ a+κ b<=n->PW a->PW b->((∃x,x∈a/\x∈b)/\en a b=none)\/((∀x,x∈a->x ∉ b)/\∃m,en a b=some m/\PW m/\∀x,x∈m↔x∈a\/x∈b)
 | n,[],b,_,_,hb=>.inr ⟨aq,b,rO b,hb,aq⟩
 | n,x::a,[],_,ha,_=>.inr ⟨aq,x::a,Bv _,ha,aq⟩
 | 0,x::a,y::b,h,_,_=>by simp at h
 | n+1,x::a,y::b,h,ha,hb=>by
  have aE:=ha;have aI:=hb;unfold PW at aE aI;rw[gl]at aE aI;rw[Bw (x::a) (y::b) aq aq];simp only[Abw,Abu,Aaw];cases h1:dA x y
  ·cases h2:dA y x
   ·have e:=Iq h1 h2;subst e;exact .inl ⟨⟨x,aq,aq⟩,aq⟩
   ·have ad:∀z∈x::a,dA y z=true:=λz hz=>by
     rcases Aam.1 hz with e|hz
     ·rw[e];exact h2
     ·exact kB h2 (aE.1 z hz)
    rcases tq n (x::a) b (by simp at h ⊢;omega) ha aI.2 with⟨⟨z,z1,z2⟩,hm⟩|⟨hd,m,hm,hp,ag⟩
    ·exact .inl ⟨⟨z,z1,bt _ z2⟩,by simp[hm]⟩
    ·refine .inr ⟨λz hz aa=>?_,y::m,by simp[hm],?_,λz=>?_⟩
     ·rcases Aam.1 aa with e|aa
      ·have:=ad z hz;rw[e,uF]at this;cases this
      ·exact hd z hz aa
     ·unfold PW;rw[gl];refine⟨λz hz=>?_,hp⟩;rcases(ag z).1 hz with h3|h3
      ·exact ad z h3
      ·exact aI.1 z h3
     ·rw[Aam,ag,Aam (a:=z) (b:=y)];constructor
      ·exact NC
      ·exact NC
  ·have aC:∀z∈y::b,dA x z=true:=λz hz=>by
    rcases Aam.1 hz with e|hz
    ·rw[e];exact h1
    ·exact kB h1 (aI.1 z hz)
   rcases tq n a (y::b) (by simp at h ⊢;omega) aE.2 hb with⟨⟨z,z1,z2⟩,hm⟩|⟨hd,m,hm,hp,ag⟩
   ·exact .inl ⟨⟨z,bt _ z1,z2⟩,by simp[hm]⟩
   ·refine .inr ⟨λz hz aa=>?_,x::m,by simp[hm],?_,λz=>?_⟩
    ·rcases Aam.1 hz with e|hz
     ·have:=aC z aa;rw[e,uF]at this;cases this
     ·exact hd z hz aa
    ·unfold PW;rw[gl];refine⟨λz hz=>?_,hp⟩;rcases(ag z).1 hz with h3|h3
     ·exact aE.1 z h3
     ·exact aC z h3
    ·rw[Aam,ag,Aam (a:=z) (b:=x)];constructor
     ·rintro(h|h|h)
      ·exact .inl (.inl h)
      ·exact .inl (.inr h)
      ·exact .inr h
     ·rintro((h|h)|h)
      ·exact .inl h
      ·exact .inr (.inl h)
      ·exact .inr (.inr h)
theorem Hw(l:List au)(q:au)(hl:PW l)(hf:nK q=true):(q∈l/\wi l q=none)\/(q ∉ l/\∃m,wi l q=some m/\PW m/\∀x,x∈m↔x=q\/x∈l):=by
 by_cases hm:q∈l
 ·grind [wi]
 ·refine .inr ⟨hm,_,by unfold wi;rw[bI ⟨hf,hm⟩],?_,λx=>?_⟩
  ·have hs:=r1.1 hl;unfold PW;rw[Bj];have aa:=hl;unfold PW at aa;refine⟨aa.sublist (List.take_sublist _ _),?_,?_⟩
   ·rw[gl];refine⟨λz hz=>?_,aa.sublist (List.drop_sublist _ _)⟩;obtain⟨j,hj,rfl⟩:=jP hz;rw[hA]at hj;rw[List.getElem_drop];have h1:=IW l q ae;have h3:dA q l[ho l q]=true:=by
     cases h4:dA q l[ho l q]
     ·grind [Iq]
     ·rfl
    by_cases e:j=0
    ·simp_all
    ·exact kB h3 (hs (ho l q) (ho l q+j) ae ae)
   ·intro y hy z hz;obtain⟨i,hi,rfl⟩:=jP hy;rw[ez]at hi;rw[List.getElem_take];have h1:dA l[i] q=true:=O8 i ae ae;rcases Aam.1 hz with e|hz
    ·simp_all
    ·obtain⟨j,hj,rfl⟩:=jP hz;rw[hA]at hj;rw[List.getElem_drop];exact hs i (ho l q+j) ae ae
  ·rw[Aa8,Aam];have:x∈l↔x∈l.take (ho l q)\/x∈l.drop (ho l q):=by rw[<-Aa8,fQ]
   grind
def bD(C:List cS)(q:au):List au:=(node8 C q).getD dM
def eK(C:List cS)(root:au)(a:Nat):au:=if a=0 then root else if a<9 then a6 (bD C root) (a-1)else a6 (bD C (a6 (bD C root) ((a-9)/8))) ((a-9)%8)
def BP(a:Nat):Nat:=if a<9 then 0 else 1+(a-9)/8
structure eA(C:List cS)(root:au):Prop where
 qh:root.wf/\cA root=true
 node:∀a,a<9->(node8 C (eK C root a)).isSome=true
 fg:∀a,9<=a->a<73->(fM C (eK C root a)).isSome=true
 aU:∀a,0<a->a<73->(eK C root a).aU<=(eK C root (BP a)).aU
 inj:∀a b,a<73->b<73->eK C root a=eK C root b->eK C root a≠hole->a=b
def gf(C:List cS)(root p:au):Prop:=p≠hole/\∃a,a<73/\eK C root a=p
theorem kM(C:List cS):node8 C hole=some dM:=aA
theorem kN(C:List cS):bD C hole=dM:=aA
theorem gY(k:Nat):a6 dM k=hole:=by grind [a6,dM]
theorem dr(C:List cS)(root:au)(hk:k<8):eK C root (1+k)=a6 (bD C root) k:=by grind [eK]
theorem iz(C:List cS)(root:au)(hi:i<64):eK C root (9+i)=a6 (bD C (eK C root (1+i/8))) (i%8):=by grind [dr,eK]
theorem k9(C:List cS)(a:Nat):eK C hole a=hole:=by simp[eK,kN,gY]
theorem pk{q:au}{l:List au}(h:node8 C q=some l):bD C q=l:=by grind [bD]
theorem Lf(C:List cS)(q:au)(k:Nat):(a6 (bD C q) k).wf/\cA (a6 (bD C q) k)=true:=by
 unfold bD;cases h:node8 C q with
 | none=>simp[gY,gL]
 | some l=>grind [a6,gL,gn]
theorem S2{root:au}(h:root.wf/\cA root=true)(a:Nat):(eK C root a).wf/\cA (eK C root a)=true:=by grind [eK,Lf]
theorem TG{p:au}(h:cA p=true)(hn:p≠hole):4<=p.loc/\p.loc<1024/\1<=p.aU/\p.aU<=281474976710655:=by grind [cA]
section
variable {C C':List cS} {root:au}
theorem eA.nodeAt(T:eA C root){a:Nat}(ha:a<9):node8 C (eK C root a)=some (bD C (eK C root a)):=by obtain⟨l,hl⟩:=Option.isSome_iff_exists.mp (T.node a ha);grind [pk]
theorem eA.F(T:eA C root):node8 C root=some (bD C root):=T.nodeAt (a:=0) ae
theorem eA.S(T:eA C root){k:Nat}(hk:k<8):node8 C (a6 (bD C root) k)=some (bD C (a6 (bD C root) k)):=by have:=T.nodeAt (a:=1+k) ae;grind [dr]
def vs(T:eA C root):κ (bD C root)=8:=cN T.F
theorem eA.get(T:eA C root){i:Nat}(hi:i<64):∃s,TF C root i=some s/\fM C (eK C root (9+i))=some s:=by obtain⟨s,hs⟩:=Option.isSome_iff_exists.mp (T.fg (9+i) ae ae);refine⟨s,?_,hs⟩;unfold TF;rw[T.F,qA,T.S ae,qA];grind [iz,dr]
theorem gf.qh(T:root.wf/\cA root=true){p:au}(h:gf C root p):p.wf/\cA p=true:=by obtain⟨_,a,_,rfl⟩:=h;exact S2 T a
def gf.loc(T:eA C root){p:au}(h:gf C root p):4<=p.loc/\p.loc<1024/\1<=p.aU/\p.aU<=281474976710655:=TG (h.qh T.qh).2 h.1
theorem gf.top(T:eA C root)(hn:root≠hole):gf C root root:=⟨hn,0,ae,rfl⟩
theorem eA.abW(T:eA C root){a:Nat}(ha:a<73):(eK C root a).aU<=root.aU:=by
 by_cases h0:a=0
 ·subst h0;exact aE _
 ·have h1:=T.aU a ae ha;by_cases h9:a<9
  ·unfold BP at h1;rw[bI h9]at h1;exact h1
  ·unfold BP at h1;rw[aY h9]at h1;have h2:=T.aU (1+(a-9)/8) ae ae;unfold BP at h2;rw[bI ae]at h2;exact bK h1 h2
theorem PD(h:∀a,a<9->eK C root a≠hole->C'[(eK C root a).loc.toNat]?=C[(eK C root a).loc.toNat]?)(a:Nat)(ha:a<73):eK C' root a=eK C root a:=by
 have N:∀a,a<9->node8 C' (eK C root a)=node8 C (eK C root a):=λa h9=>by grind [eK,hole,kM,nw]
 have O:∀a,a<9->bD C' (eK C root a)=bD C (eK C root a):=λa h9=>by unfold bD;rw[N a h9]
 have e0:bD C' root=bD C root:=O 0 ae;by_cases h0:a=0
 ·subst h0;rfl
 ·by_cases h9:a<9
  ·have e:a=1+(a-1):=by omega
   grind [dr]
  ·have e:a=9+(a-9):=by omega
   grind [eK,dr,iz]
theorem eA.congr(T:eA C root)(h:∀p,gf C root p->C'[p.loc.toNat]?=C[p.loc.toNat]?):eA C' root/\(∀a,a<73->eK C' root a=eK C root a)/\(∀a,a<73->fM C' (eK C root a)=fM C (eK C root a)):=by
 have H:∀a,a<73->eK C root a≠hole->C'[(eK C root a).loc.toNat]?=C[(eK C root a).loc.toNat]?:=λa ha hh=>h _ ⟨hh,a,ha,rfl⟩;have E:=PD (C:=C) (C':=C') (root:=root) (λa h9=>H a ae);have B:∀a,a<73->fM C' (eK C root a)=fM C (eK C root a):=λa ha=>by grind [eK,hole,js,l8]
 refine⟨⟨T.qh,λa ha=>?_,λa h9 ha=>?_,λa h0 ha=>?_,λa b ha hb=>?_⟩,E,B⟩
 ·rw[E a ae];by_cases hh:eK C root a=hole
  ·grind [kM]
  ·rw[nw (H a ae hh)];exact T.node a ha
 ·rw[E a ha,B a ha];exact T.fg a h9 ha
 ·rw[E a ha,E (BP a) (by grind [BP])];exact T.aU a h0 ha
 ·rw[E a ha,E b hb];exact T.inj a b ha hb
theorem gf.congr{p:au}(E:∀a,a<73->eK C' root a=eK C root a):gf C' root p↔gf C root p:=by grind [gf]
theorem QA(C:List cS):eA C hole:=by
 refine⟨gL,λa _=>?_,λa _ _=>?_,λa _ _=>?_,λa b _ _ _ hn=>absurd (k9 C a) hn⟩
 ·rw[k9,kM];rfl
 ·rw[k9,js];rfl
 ·simp[k9]
theorem AQ(C:List cS)(p:au):¬gf C hole p:=λ⟨hn,a,_,h⟩=>hn (by grind [k9])
theorem Q5{C:List cS}{i st sm:Nat}{L:List au}(hi:4<=i)(hc:C[i]?=some (bJ L))(hl:κ L=8)(hw:∀x∈L,x.wf)(hg:jI L=true)(aa:sm=dQ (bJ L)):node8 C ⟨(i:Int),st,sm⟩=some L:=by
 have hh:(⟨(i:Int),st,sm⟩:au)≠hole:=λe=>by have:(i:Int)=0:=cn au.loc e;omega
 obtain⟨hlt,ad⟩:=List.getElem?_eq_some_iff.mp hc;have hb:fM C ⟨(i:Int),st,sm⟩=some (bJ L):=by unfold fM;simp_all
 grind [node8,rS,xZ]
theorem Xr{C:List cS}{i st sm:Nat}{b:cS}(hi:4<=i)(hc:C[i]?=some b)(aa:sm=dQ b):fM C ⟨(i:Int),st,sm⟩=some b:=by
 have hh:(⟨(i:Int),st,sm⟩:au)≠hole:=λe=>by have:(i:Int)=0:=cn au.loc e;omega
 unfold fM;simp_all
end
def sk(C:List cS)(root:au)(i:Nat)(t m b:au)(a:Nat):au:=if a=0 then t else if a=1+i/8 then m else if a=9+i then b else eK C root a
structure zY(C C':List cS)(root:au)(i st:Nat)(t m b:au):Prop where
 at_:∀a,a<73->eK C' t a=sk C root i t m b a
 node:∀a,a<9->(node8 C' (sk C root i t m b a)).isSome=true
 fg:(fM C' b).isSome=true
 ET:∀p,gf C root p->C'[p.loc.toNat]?=C[p.loc.toNat]?
 qh:t.wf/\cA t=true
 nt:t≠hole->t.aU=st/\¬gf C root t
 nm:m≠hole->m.aU=st/\¬gf C root m
 nb:b≠hole->b.aU=st/\¬gf C root b
 hm:t=hole->m=hole
 hb:m=hole->b=hole
 tm:t≠hole->t≠m
 tb:t≠hole->t≠b
 mb:m≠hole->m≠b
 top:t=hole->∀a,a<73->a≠0->a≠1+i/8->a≠9+i->eK C root a=hole
 mid:m=hole->∀a,9<=a->a<73->(a-9)/8=i/8->a≠9+i->eK C root a=hole
section
variable {C C':List cS} {root t m b:au} {i st:Nat}
theorem zY.tree(U:zY C C' root i st t m b)(T:eA C root)(hi:i<64)(aG:∀p,gf C root p->p.aU<=st):eA C' t:=by
 have B:∀a,a<73->(eK C root a).aU<=st:=λa ha=>by
  by_cases h:eK C root a=hole
  ·rw[h];exact bT _
  ·exact aG _ ⟨h,a,ha,rfl⟩
 have aa:hole.aU=0:=rfl;refine⟨U.qh,λa ha=>?_,λa h9 ha=>?_,λa h0 ha=>?_,λa c ha hc e hn=>?_⟩
 ·rw[U.at_ a ae];exact U.node a ha
 ·rw[U.at_ a ha];unfold sk;rw[aY ae,aY ae];split
  ·exact U.fg
  ·by_cases h:eK C root a=hole
   ·grind [js]
   ·rw[l8 (U.ET _ ⟨h,a,ha,rfl⟩)];exact T.fg a h9 ha
 ·rw[U.at_ a ha,U.at_ (BP a) (by grind [BP])];by_cases hu:sk C root i t m b a=hole
  ·simp_all
  have ht:t≠hole:=λe=>by
   apply hu;unfold sk;rw[aY ae];split
   ·exact U.hm e
   ·split
    ·exact U.hb (U.hm e)
    ·exact U.top e a ha ae ae ae
  have le:(sk C root i t m b a).aU<=st:=by
   unfold sk at hu ⊢;rw[aY ae]at hu ⊢;split at hu
   ·rename_i h;rw[bI h];exact za (U.nm hu).1
   ·rename_i h;rw[aY h];split at hu
    ·rename_i h;rw[bI h];exact za (U.nb hu).1
    ·simp_all
  by_cases h9:a<9
  ·have e:BP a=0:=bI h9;rw[e,show sk C root i t m b 0=t from bI rfl,(U.nt ht).1];exact le
  ·have e:BP a=1+(a-9)/8:=aY h9;rw[e];by_cases hq:(a-9)/8=i/8
   ·have e2:sk C root i t m b (1+(a-9)/8)=m:=by grind [sk]
    have hm:m≠hole:=λe3=>by
     apply hu;unfold sk;rw[aY ae,aY ae];split
     ·exact U.hb e3
     ·exact U.mid e3 a ae ha hq ae
    rw[e2,(U.nm hm).1];exact le
   ·have e2:sk C root i t m b (1+(a-9)/8)=eK C root (1+(a-9)/8):=by grind [sk]
    have e3:sk C root i t m b a=eK C root a:=by grind [sk]
    rw[e2,e3];have:=T.aU a h0 ha;simp_all
 ·rw[U.at_ a ha]at e hn;rw[U.at_ c hc]at e;have I:∀a,a<73->a≠0->a≠1+i/8->a≠9+i->eK C root a≠hole->gf C root (eK C root a):=λa ha _ _ _ h=>⟨h,a,ha,rfl⟩;obtain⟨J,It,Im,Ib,h1,h2⟩:=q5 (T.inj a c ha hc) U.nt U.nm U.nb U.tm U.tb;have h3:=U.mb;grind [sk]
theorem zY.mem(U:zY C C' root i st t m b)(T:eA C root)(hi:i<64)(p:au):gf C' t p↔p≠hole/\(p=t\/p=m\/p=b\/(gf C root p/\p≠root/\p≠eK C root (1+i/8)/\p≠eK C root (9+i))):=by
 constructor
 ·rintro⟨hn,a,ha,e⟩;rw[U.at_ a ha]at e;refine⟨hn,?_⟩;by_cases h0:a=0
  ·subst h0;exact .inl (e.symm.trans (bI rfl))
  by_cases h1:a=1+i/8
  ·grind [sk]
  by_cases h2:a=9+i
  ·grind [sk]
  have e3:eK C root a=p:=by grind [sk]
  refine .inr (.inr (.inr ⟨⟨hn,a,ha,e3⟩,λe4=>h0 ?_,λe4=>h1 ?_,λe4=>h2 ?_⟩))
  ·exact T.inj a 0 ha ae (e3.trans e4) aa
  ·exact T.inj a _ ha ae (e3.trans e4) aa
  ·exact T.inj a _ ha ae (e3.trans e4) aa
 ·rintro⟨hn,h⟩;refine⟨hn,?_⟩;rcases h with rfl|rfl|rfl|⟨⟨_,a,ha,e⟩,n0,n1,n2⟩
  ·exact⟨0,ae,rfl⟩
  ·exact⟨1+i/8,ae,by rw[U.at_ _ ae];unfold sk;rw[aY ae,bI rfl]⟩
  ·exact⟨9+i,ae,by rw[U.at_ _ ae];unfold sk;rw[aY ae,aY ae,bI rfl]⟩
  ·refine⟨a,ha,?_⟩;rw[U.at_ a ha];unfold sk;rw[aY (λe0=>n0 (by rw[<-e,e0];rfl)),aY (λe0=>n1 aa),aY (λe0=>n2 aa)];exact e
theorem zY.read(U:zY C C' root i st t m b)(hi:i<64){j:Nat}(hj:j<64):fM C' (eK C' t (9+j))=if j=i then fM C' b else fM C (eK C root (9+j)):=by
 rw[U.at_ _ ae];unfold sk;rw[aY ae,aY ae];by_cases h:j=i
 ·simp_all
 ·rw[aY ae,aY h];by_cases hh:eK C root (9+j)=hole
  ·grind [js]
  ·exact l8 (U.ET _ ⟨hh,_,ae,rfl⟩)
end
structure jF(P:bq)(root:au):Prop where
 ok:eA P.C root
 tk:∀p,gf P.C root p->P.s p.loc.toNat=2
structure oH(P:bq):Prop where
 free:∀j,P.s j=1->4<=j/\j<κ P.C
 len:κ P.C<=1024
 st:1<=P.st/\P.st<=281474976710655
theorem kP{l:List au}(hk:k<κ l)(p:au)(j:Nat):a6 (l.set k p) j=if j=k then p else a6 l j:=by grind [a6]
theorem j0{l:List au}(hl:κ l=8)(h:gh l=true)(k:Nat):a6 l k=hole:=by have:l=dM:=jk h;rw[this,gY]
section
variable {P:bq} {root:au} {i:Nat}
theorem new_ne{p:au}(I:jF P root){k:Nat}(hk:P.s k=1)(h:gf P.C root p):p.loc.toNat≠k:=λe=>by have:=I.tk p h;rw[e,hk]at this;omega
theorem VK{k st sm:Nat}(h4:4<=k):(⟨(k:Int),st,sm⟩:au)≠hole:=λe=>by have:(k:Int)=0:=cn au.loc e;omega
theorem Yj(I:jF P root){k st sm:Nat}(hk:P.s k=1):¬gf P.C root ⟨(k:Int),st,sm⟩:=λh=>by have:=new_ne I hk h;exact this (Abp k)
theorem sO(C:List cS)(root:au){i a:Nat}(h9:9<=a)(ha:a<73)(hq:(a-9)/8=i/8):eK C root a=a6 (bD C (a6 (bD C root) (i/8))) ((a-9)%8):=by have:=iz C root (i:=a-9) ae;grind [dr]
theorem YJ(I:jF P root)(K:oH P)(hi:i<64)(b:cS){i1 i2 i3:Nat}(h1:P.s i1=1)(h2:ff P.s i1 2 i2=1)(h3:ff (ff P.s i1 2) i2 2 i3=1){F S F' S':List au}(hF:F=bD P.C root)(hS:S=bD P.C (a6 F (i/8))){p1 p2 p3:au}(e1:p1=⟨(i1:Int),P.st,dQ b⟩)(eS:S'=S.set (i%8) p1)(e2:p2=⟨(i2:Int),P.st,dQ (bJ S')⟩)(eF:F'=F.set (i/8) p2)(e3:p3=⟨(i3:Int),P.st,dQ (bJ F')⟩):zY P.C (((P.put i1 b).put i2 (bJ S')).put i3 (bJ F')).C root i P.st p3 p2 p1/\i1≠i2/\i1≠i3/\i2≠i3/\P.s i2=1/\P.s i3=1/\fM (((P.put i1 b).put i2 (bJ S')).put i3 (bJ F')).C p1=some b:=by
 have n12:i1≠i2:=λe=>Ut
 have s2:P.s i2=1:=by grind [ff]
 have n23:i2≠i3:=λe=>by unfold ff at h3;rw[bI e.symm]at h3;omega
 have n13:i1≠i3:=λe=>by unfold ff at h3;rw[aY (λe2=>n23 e2.symm),bI e.symm]at h3;omega
 have s3:P.s i3=1:=by grind [ff]
 obtain⟨a1,b1⟩:=K.free i1 h1;obtain⟨a2,b2⟩:=K.free i2 s2;obtain⟨a3,b3⟩:=K.free i3 s3;have hl:=K.len;obtain⟨C',ad⟩:∃C',C'=(((P.put i1 b).put i2 (bJ S')).put i3 (bJ F')).C:=⟨_,rfl⟩;have hC:C'=((P.C.set i1 b).set i2 (bJ S')).set i3 (bJ F'):=ad;have c1:C'[i1]?=some b:=aQ
 have c2:C'[i2]?=some (bJ S'):=aQ
 have c3:C'[i3]?=some (bJ F'):=aQ
 have co:∀k,k≠i1->k≠i2->k≠i3->C'[k]?=P.C[k]?:=λk x1 x2 x3=>aQ
 rw[<-ad];clear hC ad;have g1:=ik a1 ae K.st.1 K.st.2 b;have g2:=ik a2 ae K.st.1 K.st.2 (bJ S');have g3:=ik a3 ae K.st.1 K.st.2 (bJ F');rw[<-e1]at g1;rw[<-e2]at g2;rw[<-e3]at g3;refine K0 ?_;intro lF nS lS nF;obtain⟨gS,gF⟩:=az (fv (gn nS) g1 (i%8)) (fv (gn nF) g2 (i/8));rw[<-eS]at gS;rw[<-eF]at gF;have ag:κ S'=8:=aa
 have ab:κ F'=8:=aa
 have N3:node8 C' p3=some F':=va
 have N2:node8 C' p2=some S':=va
 have B1:fM C' p1=some b:=by grind [Xr]
 have ET:∀p,gf P.C root p->C'[p.loc.toNat]?=P.C[p.loc.toNat]?:=λp hp=>co _ (new_ne I h1 hp) (new_ne I s2 hp) (new_ne I s3 hp);refine OA ?_;intro NK A1;have A:∀a,a<73->eK C' p3 a=sk P.C root i p3 p2 p1 a:=λa ha=>by exact Vq
 have aS:p1≠hole:=lD
 have aJ:p2≠hole:=lD
 have aI:p3≠hole:=lD
 refine⟨⟨A,λa ha=>?_,aa,ET,g3,λ_=>⟨aa,rF⟩,λ_=>⟨aa,rF⟩,λ_=>⟨aa,rF⟩,λh=>absurd h aI,λh=>absurd h aJ,λ_ e=>?_,λ_ e=>?_,λ_ e=>?_,λh=>absurd h aI,λh=>absurd h aJ⟩,n12,n13,n23,s2,s3,B1⟩
 ·exact UT
 ·grind
 ·grind
 ·grind
theorem R8(I:jF P root)(K:oH P)(hi:i<64){i1 i2:Nat}(h1:P.s i1=1)(h2:ff P.s i1 2 i2=1){F S F' S':List au}(hF:F=bD P.C root)(hS:S=bD P.C (a6 F (i/8))){p2 p3:au}(eS:S'=S.set (i%8) hole)(e2:p2=⟨(i1:Int),P.st,dQ (bJ S')⟩)(eF:F'=F.set (i/8) p2)(e3:p3=⟨(i2:Int),P.st,dQ (bJ F')⟩):zY P.C ((P.put i1 (bJ S')).put i2 (bJ F')).C root i P.st p3 p2 hole/\i1≠i2/\P.s i2=1:=by
 have n12:i1≠i2:=λe=>Ut
 have s2:P.s i2=1:=by grind [ff]
 obtain⟨a1,b1⟩:=K.free i1 h1;obtain⟨a2,b2⟩:=K.free i2 s2;have hl:=K.len;obtain⟨C',ad⟩:∃C',C'=((P.put i1 (bJ S')).put i2 (bJ F')).C:=⟨_,rfl⟩;have hC:C'=(P.C.set i1 (bJ S')).set i2 (bJ F'):=ad;have c2:C'[i1]?=some (bJ S'):=aQ
 have c3:C'[i2]?=some (bJ F'):=aQ
 have co:∀k,k≠i1->k≠i2->C'[k]?=P.C[k]?:=λk x1 x2=>aQ
 rw[<-ad];clear hC ad;have g2:=ik a1 ae K.st.1 K.st.2 (bJ S');have g3:=ik a2 ae K.st.1 K.st.2 (bJ F');rw[<-e2]at g2;rw[<-e3]at g3;refine K0 ?_;intro lF nS lS nF;obtain⟨gS,gF⟩:=az (fv (gn nS) gL (i%8)) (fv (gn nF) g2 (i/8));rw[<-eS]at gS;rw[<-eF]at gF;have ag:κ S'=8:=aa
 have ab:κ F'=8:=aa
 have N3:node8 C' p3=some F':=va
 have N2:node8 C' p2=some S':=va
 have ET:∀p,gf P.C root p->C'[p.loc.toNat]?=P.C[p.loc.toNat]?:=λp hp=>co _ (new_ne I h1 hp) (new_ne I s2 hp);refine OA ?_;intro NK A1;have A:∀a,a<73->eK C' p3 a=sk P.C root i p3 p2 hole a:=λa ha=>by exact Vq
 have aJ:p2≠hole:=lD
 have aI:p3≠hole:=lD
 refine⟨⟨A,λa ha=>?_,aA,ET,g3,λ_=>⟨aa,rF⟩,λ_=>⟨aa,rF⟩,λh=>absurd rfl h,λh=>absurd h aI,λh=>absurd h aJ,λ_ e=>?_,λh=>h,λh=>h,λh=>absurd h aI,λh=>absurd h aJ⟩,n12,s2⟩
 ·exact UT
 ·grind
theorem R7(I:jF P root)(K:oH P)(hi:i<64){i1:Nat}(h1:P.s i1=1){F S F':List au}(hF:F=bD P.C root)(hS:S=bD P.C (a6 F (i/8))){p3:au}(eS:gh (S.set (i%8) hole)=true)(eF:F'=F.set (i/8) hole)(e3:p3=⟨(i1:Int),P.st,dQ (bJ F')⟩):zY P.C (P.put i1 (bJ F')).C root i P.st p3 hole hole:=by
 obtain⟨a1,b1⟩:=K.free i1 h1;have hl:=K.len;obtain⟨C',ad⟩:∃C',C'=(P.put i1 (bJ F')).C:=⟨_,rfl⟩;have hC:C'=P.C.set i1 (bJ F'):=ad;have c3:C'[i1]?=some (bJ F'):=aQ
 have co:∀k,k≠i1->C'[k]?=P.C[k]?:=λk x1=>aQ
 rw[<-ad];clear hC ad;have g3:=ik a1 ae K.st.1 K.st.2 (bJ F');rw[<-e3]at g3;refine K0 ?_;intro lF nS lS nF;have gF:=fv (gn nF) gL (i/8);rw[<-eF]at gF;have N3:node8 C' p3=some F':=va
 have ET:∀p,gf P.C root p->C'[p.loc.toNat]?=P.C[p.loc.toNat]?:=λp hp=>co _ (new_ne I h1 hp);have NK:∀k,k<8->node8 C' (a6 F k)=node8 P.C (a6 F k):=λk hk=>by exact Nk
 have HS:∀j,j≠i%8->a6 S j=hole:=λj hj=>by have:=j0 ab eS j;grind [kP]
 have A1:∀k,k<8->eK C' p3 (1+k)=if k=i/8 then hole else a6 F k:=λk hk=>by grind [dr,pk,kP]
 have ag:∀a,9<=a->a<73->(a-9)/8=i/8->a≠9+i->eK P.C root a=hole:=λa h9 ha hq hr=>by grind [sO]
 have A:∀a,a<73->eK C' p3 a=sk P.C root i p3 hole hole a:=λa ha=>by
  unfold sk;by_cases h0:a=0
  ·rw[bI h0,h0];rfl
  rw[aY h0];by_cases h9:a<9
  ·have:=A1 (a-1) ae;grind [dr]
  ·have:=iz C' p3 (i:=a-9) ae;grind [kN,gY,iz,dr,bD]
 have aI:p3≠hole:=lD
 refine⟨A,λa ha=>?_,aA,ET,g3,λ_=>⟨aa,rF⟩,λh=>absurd rfl h,λh=>absurd rfl h,λh=>absurd h aI,λh=>h,λh=>h,λh=>h,λh=>absurd rfl h,λh=>absurd h aI,λ_=>ag⟩;unfold sk;by_cases h0:a=0
 ·simp_all
 rw[aY h0];by_cases hq:a=1+i/8
 ·grind [kM]
 rw[aY hq,aY ae];have e:=dr P.C root (k:=a-1) ae;rw[show 1+(a-1)=a from ae,<-hF]at e;rw[e,NK _ ae,<-e];exact I.ok.node a ha
theorem R6(I:jF P root)(hi:i<64){F S:List au}(hF:F=bD P.C root)(hS:S=bD P.C (a6 F (i/8)))(eS:gh (S.set (i%8) hole)=true)(eF:gh (F.set (i/8) hole)=true):zY P.C P.C root i P.st hole hole hole:=by
 have lF:κ F=8:=by rw[hF];exact vs I.ok
 have nS:=I.ok.S (k:=i/8) ae;rw[<-hF,<-hS]at nS;have lS:κ S=8:=cN nS;have HS:∀j,j≠i%8->a6 S j=hole:=λj hj=>by have:=j0 ab eS j;grind [kP]
 have HF:∀j,j≠i/8->a6 F j=hole:=λj hj=>by have:=j0 ab eF j;grind [kP]
 have ag:∀a,9<=a->a<73->(a-9)/8=i/8->a≠9+i->eK P.C root a=hole:=λa h9 ha hq hr=>by grind [sO]
 have aa:∀a,a<73->a≠0->a≠1+i/8->a≠9+i->eK P.C root a=hole:=λa ha h0 h1 h2=>by
  by_cases h9:a<9
  ·have e:=dr P.C root (k:=a-1) ae;grind
  ·by_cases hq:(a-9)/8=i/8
   ·simp_all
   ·have e:=iz P.C root (i:=a-9) ae;grind [dr,kN,gY]
 have A:∀a,a<73->sk P.C root i hole hole hole a=hole:=λa ha=>by grind [sk]
 refine⟨λa ha=>by grind [k9],λa ha=>by grind [kM],aA,λ_ _=>rfl,gL,λh=>absurd rfl h,λh=>absurd rfl h,λh=>absurd rfl h,λh=>h,λh=>h,λh=>h,λh=>h,λh=>h,λ_=>aa,λ_=>ag⟩
end
section
variable {P:bp} {ops:Array Abn} {S:af->Prop} {md:Ab0} {Q:Exit->Act->af->Prop} {t1 t2:Aab} {C1 C2:Array ah} {Ok:Nat->Prop} {r:Nat} {x:af} {o o1 o2:Abn}
end
end Go.Proofs.YtkpjfnbbkohciaaGreat
