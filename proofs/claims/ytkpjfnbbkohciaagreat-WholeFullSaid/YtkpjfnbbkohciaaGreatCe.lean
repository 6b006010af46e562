import Derived.Test.YtkpjfnbbkohciaaGreatCd
import Derived.Lib.Walk
set_option maxRecDepth 100000
set_option maxHeartbeats 16000000
set_option linter.all false
open Go renaming TypeId->Aab,Calls->Aae,zeroValue->Ab9,wpStill->Adc,wpList->Aak,wpAnyH->Acp,Ending->Ab1,splice->Aby,Oper->Abn,madeCells->Acv,execOp->Abs,yielded->Aa1,wpAnyIn->Acy,undef->Aar,YieldsIf->Ace
open Go.ByteArray renaming extract_mk->Adx,toList_eq->Adl
open Go.Lib renaming indexByte->Aa4
open Go.Proofs.Tryz renaming prog->Aag,underlying88->Aaq
open Go.Result renaming andThen->Aap,andThen_ok->Aau
open Go.RowKit renaming intOf->Aat
open Go.Value renaming oneCell'->Ac8,ownBlock->Aan,slice->Acl
open Go.Op renaming equalIn->Ack
open Go.Act renaming put->Aas
open Option.some renaming injEq->Aai
open Go.Addr.mk renaming injEq->Abd
open List renaming flatMap_cons->Abg,mem_cons->Aam,replicate->Aac,append_assoc->Aa8,append_nil->Ab5,drop_zero->Aax,length_cons->Aal,length_map->Aad,map_append->Aao,getElem_map->Adp,length_append->Aaf,range->Aaj,range_succ->Abz,size_toArray->Abh,length_nil->Aa5,push_toArray->Abj,append_toArray->Aa9,nil_append->Aay,cons_append->Aa2,mem_map->Abf,drop_succ_cons->Abv,length_set->Aaz,map_cons->Acf,sum_cons->Acg,length->κ
open Nat renaming zero_add->Abr
open Go.Sem renaming run_bind->Aaw,run_pure->Acq
open Go.Instr renaming slice->Aav,makeSlice->Ach,sureAddr->Adf,buildSlice->Acd
open Go.Value.slice renaming injEq->Abp
open Go.Region renaming Mode->Ab0,wanted->Aaa,ready->Abb
open Bool renaming false_eq_true->Ab2
open Go.Fence renaming wide->Abw
open Array renaming replicate_succ->Aa6,replicate_zero->Aa7
open Go.World renaming size_alloc->Aa3
open Go.Oper renaming wp->Acb
open Go.Builtin renaming zeroCells->Abe,clear_->Adq
open And renaming intro->Adb
open Classical renaming not_forall->Acm
namespace Go.Proofs.YtkpjfnbbkohciaaGreat
open Go.Proofs.Tryz Go.RowKit Go.Sort
variable{a b ba base cap g i k n o t:Nat}{W w:af}{H:aP}{P:bx}{x y:al}{u:hG}{l:List al}{xs:List Nat}{α:Type}{p:al->Bool}{e:Aab}
theorem VI(l:List aj)(k:Nat):(strOf l).extract 0 k=strOf (l.take k):=by unfold strOf;rw[Adx];simp
theorem Ln(l:List aj)(k:Nat):(strOf l).extract k (strOf l).size=strOf (l.drop k):=by rw[tc];unfold strOf;rw[Adx];rw[dh aq]
theorem iO(l:List aj)(c:aj):Aa4 l c=-1\/∃k:Nat,Aa4 l c=k/\k<κ l/\l[k]?=some c/\∀j,j<k->l[j]?≠some c:=by
 by_cases h:Aa4 l c=-1
 ·omega
 ·have aX:=Lib.indexByte_ge l c;obtain⟨k,hk⟩:∃k:Nat,Aa4 l c=k:=⟨(Aa4 l c).toNat,ae⟩;obtain⟨h1,h2⟩:=Lib.indexByte_some hk;grind
def gd:Option (List aj × List aj)->ah
 | none=>.tuple #[.string ⟨#[]⟩,.string ⟨#[]⟩,.int .i64 141]
 | some (a,b)=>.tuple #[.string (strOf a),.string (strOf b),.int .i64 0]
def cO(l:List aj):Option (List aj × List aj):=if Aa4 l 64=-1 then(if ef l=true then some (l,[])else none) else if ef (l.take (Aa4 l 64).toNat)=true/\ef (l.drop ((Aa4 l 64).toNat+1))=true then some (l.take (Aa4 l 64).toNat,l.drop ((Aa4 l 64).toNat+1))else none
def pN(a b:List aj):List aj:=if ef a=true then(if b=[] then a else if ef b=true then a++64::b else [])else []
theorem J4(w:af)(l:List aj):Aae Aag 282 #[.string (strOf l),.int .u8 64] w λe w'=>e=.returned (i6 (Aa4 l 64))/\w=w':=by go_in;go_wp2;rw[run_callFunc_extern func292 ay ay av (e:=Extern.BytealgIndexByte.indexByte) av,Lib.run_indexByteString];simp only[Aap];rw[EV];go_wp2;go_ret;exact⟨rfl,rfl⟩
theorem HH(w:af)(l:List aj):Aae Aag 263 #[.string (strOf l),.string ⟨#[64]⟩] w λe w'=>e=.returned (i6 (Aa4 l 64))/\w=w':=by
 have hc:=an (λW=>J4 W l);have hd:(strOf l).toList=l:=by rw[Adl,mA]
 generalize strOf l=s at *;by_cases h:l=[64]
 ·subst h;have ht:([64]==s.toList)=true:=by grind
  clear hd hc;go_in;go_wp2;go_ret;exact⟨rfl,rfl⟩
 ·have ht:([64]==s.toList)=false:=by grind
  clear hd;go_in;go_wp2_with fail;refine(hc _).mono ?_;rintro e w'⟨rfl,rfl⟩;exact eW
theorem Cx(n:Nat)(h:n<=9223372036854775807):IntKind.i64.wrap (n:Int)=(n:Int):=by exact y5
theorem Pa(w:af)(l:List aj)(h:Aa4 l 64=-1):Aae Aag 219 #[.string (strOf l),.string ⟨#[64]⟩] w λe w'=>e=.returned (.tuple #[.string (strOf l),.string ⟨#[]⟩,.bool false])/\Up w w':=by have hc:=an (λW=>HH W l);rw[h]at hc;clear h;generalize strOf l=s at *;go_in;go_wp2_with fail;refine(hc _).mono ?_;rintro e w'⟨rfl,rfl⟩;go_wp2;go_ret3;exact⟨rfl,Up.refl _⟩
theorem Pb(w:af)(l:List aj)(k:Nat)(h:Aa4 l 64=k)(hk:k<κ l)(hl:κ l<=9223372036854775807):Aae Aag 219 #[.string (strOf l),.string ⟨#[64]⟩] w λe w'=>e=rt #[.string (strOf (l.take k)),.string (strOf (l.drop (k+1))),.bool true]/\Up w w':=by
 have hc:=an (λW=>HH W l);rw[h]at hc;clear h;have aL:(strOf l).size=κ l:=rfl;obtain⟨e1,e2⟩:=aA (VI l k) (Ln l (k+1));rw[aL]at e2;generalize strOf l=s at *;have h1:((k:Int)<=(κ l:Int))=True:=ab
 have h2:IntKind.i64.wrap ((k:Int)+1)=(k:Int)+1:=Cx (k+1) ae;have h3:((k:Int)+1<=(κ l:Int))=True:=ab
 have aX:(0<=(k:Int)+1)=True:=ab
 have h4:((k:Int)+1).toNat=k+1:=ae
 go_in;go_wp2_with fail;refine(hc _).mono ?_;rintro e w'⟨rfl,rfl⟩;go_wp2;go_quiet (fail);go_wp2;go_ret3;exact⟨rfl,(Up.refl _).drewN _⟩
theorem Sr(w:af)(l:List aj)(h:Aa4 l 64=-1):Aae Aag 156 #[.string (strOf l),.string ⟨#[64]⟩] w λe w'=>e=.returned (.tuple #[.string (strOf l),.string ⟨#[]⟩,.bool false])/\Up w w':=by have hc:=an (λW=>Pa W l h);clear h;generalize strOf l=s at *;exact Ul
theorem Ss(w:af)(l:List aj)(k:Nat)(h:Aa4 l 64=k)(hk:k<κ l)(hl:κ l<=9223372036854775807):Aae Aag 156 #[.string (strOf l),.string ⟨#[64]⟩] w λe w'=>e=rt #[.string (strOf (l.take k)),.string (strOf (l.drop (k+1))),.bool true]/\Up w w':=by have hc:=an (λW=>Pb W l k h hk hl);clear h;generalize strOf l=s at *;generalize strOf (l.take k)=s1 at *;generalize strOf (l.drop (k+1))=s2 at *;exact Ul
theorem qx{l:List aj}(h:Aa4 l 64=-1):cO l=if ef l=true then some (l,[])else none:=by grind [cO]
theorem qy{l:List aj}(h:Aa4 l 64=k):cO l=if ef (l.take k)=true/\ef (l.drop (k+1))=true then some (l.take k,l.drop (k+1))else none:=by grind [cO]
theorem OL:okB 64=false:=ax
theorem A8{l:List aj}(h:ef l=true)(j:Nat):l[j]?≠some 64:=by grind [jk,OL]
theorem KA{l:List aj}(h:ef l=true):Aa4 l 64=-1:=by grind [iO,A8]
theorem x0{l:List aj}(hk:l[k]?=some 64)(h:ef (l.take k)=true):Aa4 l 64=k:=by
 rcases iO l 64 with h1|⟨j,h1,_,h2,h3⟩
 ·exact absurd hk (Lib.indexByte_none h1 k)
 ·have:¬j<k:=λhlt=>by have:=A8 h j;simp_all
  grind
theorem Pz{l:List aj}(h1:l[k]?=some 64)(h2:ef (l.take k)=true)(h3:ef (l.drop (k+1))=true):cO l=some (l.take k,l.drop (k+1)):=by grind [qy,x0]
theorem A9{l:List aj}(h:ef l=true):cO l=some (l,[]):=by grind [qx,KA]
theorem iZ(w:af)(l:List aj)(hl:κ l<=9223372036854775807):Aae Aag 98 #[.string (strOf l)] w λe w'=>e=.returned (gd (cO l))/\Up w w':=by
 rcases iO l 64 with h|⟨k,h,hk,_⟩
 ·obtain⟨C,R⟩:=aw (λW=>Sr W l h) (λW=>kE W l);rw[qx h];clear h;generalize hb:ef l=b at *;clear hb;have V:∀s,strOf l=s->gd (if b=true then some (l,[])else none)=if b=true then .tuple #[.string s,.string ⟨#[]⟩,i6 0] else .tuple #[.string ⟨#[]⟩,.string ⟨#[]⟩,i6 141]:=by rintro s rfl;cases b<;>rfl
  rw[V _ rfl];clear V;generalize strOf l=s at *;cases b;all_goals
   refine FU ?_;go_wp2_with fail;refine(C _).mono ?_;rintro e w1⟨rfl,up1⟩;go_wp2_with fail;refine(R _).mono ?_;rintro e w2⟨rfl,ao⟩;go_wp2;go_ret3;exact⟨rfl,up1.trans ao⟩
 ·obtain⟨C,R1,R2⟩:=aW (λW=>Ss W l k h hk hl) (λW=>kE W (l.take k)) (λW=>kE W (l.drop (k+1)));rw[qy h];clear h hk hl;generalize l.take k=x at *;generalize l.drop (k+1)=y at *;generalize hb:ef x=b at *;generalize hb2:ef y=b2 at *;clear hb hb2;have V:∀s t,strOf x=s->strOf y=t->gd (if b=true/\b2=true then some (x,y)else none)=if b=true/\b2=true then .tuple #[.string s,.string t,i6 0] else .tuple #[.string ⟨#[]⟩,.string ⟨#[]⟩,i6 141]:=by rintro s t rfl rfl;cases b<;>cases b2<;>rfl
  rw[V _ _ rfl rfl];clear V;generalize strOf x=s at *;generalize strOf y=t at *;cases b
  ·refine FU ?_;go_wp2_with fail;refine(C _).mono ?_;rintro e w1⟨rfl,up1⟩;go_wp2_with fail;refine(R1 _).mono ?_;rintro e w2⟨rfl,ao⟩;go_wp2;go_ret3;exact⟨rfl,up1.trans ao⟩
  cases b2;all_goals
   refine FU ?_;go_wp2_with fail;refine(C _).mono ?_;rintro e w1⟨rfl,up1⟩;go_wp2_with fail;refine(R1 _).mono ?_;rintro e w2⟨rfl,ao⟩;go_wp2_with fail;refine(R2 _).mono ?_;rintro e w3⟨rfl,az⟩;go_wp2;go_ret3;exact⟨rfl,up1.trans (ao.trans az)⟩
theorem Lo(a b:List aj):(strOf a++(⟨#[64]⟩:ByteArray))++strOf b=strOf (a++64::b):=by apply ByteArray.ext;simp[strOf]
theorem fO(b:List aj):((strOf b).toList==[])=decide (b=[]):=by rw[Adl,mA];cases b<;>simp
theorem P'(w:af)(a b:List aj):Aae Aag 84 #[.string (strOf a),.string (strOf b)] w λe w'=>e=.returned (.string (strOf (pN a b)))/\Up w w':=by
 obtain⟨R1,R2⟩:=aw (λW=>kE W a) (λW=>kE W b);have ht:=fO b;have hf:strOf (pN a b)=if ef a=true then(if b=[] then strOf a else if ef b=true then strOf (a++64::b)else⟨#[]⟩)else⟨#[]⟩:=by
  unfold pN;split
  ·split
   ·rfl
   ·split<;>rfl
  ·rfl
 rw[hf,<-Lo];clear hf;have aR:ef a=true->(strOf a).size<=24:=λh=>((jk a).1 h).2.1;have av:ef b=true->(strOf b).size<=24:=λh=>((jk b).1 h).2.1;generalize strOf a=s at *;generalize strOf b=t at *;generalize ef a=x at *;generalize ef b=y at *;cases x
 ·refine F2 ?_;exact Um
 by_cases hb:b=[]
 ·have aa:(t.toList==[])=true:=by grind
  rw[bo rfl,bo hb];clear ht hb;exact Um
 have aa:(t.toList==[])=false:=aQ
 rw[bo rfl,aM hb];clear ht hb;cases y
 ·refine F2 ?_;exact TY
 ·refine F2 ?_;obtain⟨z1,z2⟩:=aA (aR rfl) (av rfl);have z3:∀W,(Op.stringOp .add s ⟨#[64]⟩).run Aag W=.ok (.string (s++⟨#[64]⟩)) W:=λW=>run_string_add_sum W s ⟨#[64]⟩ (by show s.size+1<=_;omega);have z4:∀W,(Op.stringOp .add (s++⟨#[64]⟩) t).run Aag W=.ok (.string ((s++⟨#[64]⟩)++t)) W:=λW=>run_string_add_sum W _ t (by rw[ByteArray.size_append'];show s.size+1+t.size<=_;omega);clear aR av z1 z2;generalize(s++⟨#[64]⟩:ByteArray)=st at *;generalize(st++t:ByteArray)=ab at *;exact TY
def fF:Option Nat->Int
 | some i=>(i:Int)
 | none=>-1
def gV(p:al->Bool)(l:List al):Option Nat:=l.findIdx? p
def aV(l:List al)(id:Nat):Option Nat:=gV (λx=>decide (x.id=id)) l
theorem pJ(h:∀j(hj:j<κ l),p l[j]=false):gV p l=none:=by unfold gV;rw[List.findIdx?_eq_none_iff];intro x hx;obtain⟨j,hj,rfl⟩:=List.mem_iff_getElem.1 hx;simp_all
theorem pK(hk:k<κ l)(hp:p l[k]=true)(h:∀j(hj:j<κ l),j<k->p l[j]=false):gV p l=some k:=by unfold gV;rw[Mf];simp_all
theorem JR(h:gV p l=some k):∃hk:k<κ l,p l[k]=true/\∀j(hj:j<k),p (l[j]' ae)=false:=by unfold gV at h;rw[Mf]at h;simp_all
theorem cd{vd:ah}(h:w.rangeAt b o (cf x vd).toList):w.cell? (ad b o)=some (u6 (x.id:Int))/\w.cell? (ad b (o+1))=some (.string (strOf x.name))/\w.cell? (ad b (o+2))=some (.bool x.aU)/\w.cell? (ad b (o+3))=some (u6 (x.owner:Int))/\w.cell? (ad b (o+4))=some (u6 (x.prev:Int))/\w.cell? (ad b (o+5))=some (u6 (x.ar:Int))/\w.cell? (ad b (o+6))=some (i6 x.blocks)/\w.rangeAt b (o+7) (be x.root).toList/\w.cell? (ad b (o+10))=some vd:=⟨h 0 _ rfl,h 1 _ rfl,h 2 _ rfl,h 3 _ rfl,h 4 _ rfl,h 5 _ rfl,h 6 _ rfl,λj u hj=>by
  match j,hj with
  | 0,hj=>exact h 7 _ hj
  | 1,hj=>exact h 8 _ hj
  | 2,hj=>exact h 9 _ hj
  | (n+3),hj=>simp[be]at hj,h 10 _ rfl⟩
theorem jl(w:af)(v:ah)(l:List al)(hv:cB w v l)(id:Nat):Aae Aag 83 #[v,u6 (id:Int)] w λe w'=>e=.returned (i6 (fF (aV l id)))/\w'=w:=by
 have hlen:=hv.length_le;obtain⟨a,cap,rfl⟩:=hv.slice;have HV:=an hv;go_in;go_wp2;go_loopw [8] (λi wr=>∃k:Nat,k<=κ l/\i=i6 k/\(∀j(hj:j<κ l),j<k->decide (l[j].id=id)=false)/\wr=w) (λi _=>κ l-(Aat i).toNat)
 case atStart=>grind
 case round=>
  obtain⟨k,hk,rfl,ao,rfl⟩:=hrel;have HN:=an ao;clear ao;by_cases hlt:k<κ l
  ·refine iP ?_;intro b2;obtain⟨b,off,rfl,_,hc⟩:=vg HV ae;obtain⟨da,dn,dc,rg,dp⟩:=hc k hlt;have c0:=(cd rg).1;have HS:=an (show decide (l[k].id=id)=false->∀j(hj:j<κ l),j<k+1->decide (l[j].id=id)=false from λh j hj aL=>by
    rcases ma j k with h'|h'
    ·exact HN j hj h'
    ·obtain rfl:j=k:=by omega
     exact h)
   clear hc;by_cases he:l[k].id=id
   ·have HP:=an (show aV l id=some k from(λh=>pK (p:=λx=>decide (x.id=id)) hlt h HN) ab);rw[he]at c0;clear he;have b3:((id:Int)==(id:Int))=true:=by simp
    go_wp2;go_ret;exact⟨sJ,rfl⟩
   ·have b3:(((l[k].id:Nat):Int)==(id:Int))=false:=by simp;omega
    generalize l[k].id=x at *;go_wp2;go_roundw
    case rel=>exact⟨k+1,ae,aq,(HS ab),trivial⟩
    case measure=>simp only[Aat];omega
  ·obtain rfl:k=κ l:=by omega
   have b2:((κ l:Int)<(κ l:Int))=False:=aq
   have HP:=an (show aV l id=none from pJ (λj hj=>HN j hj hj));go_wp2;go_ret;exact⟨sJ,rfl⟩
structure jt where
 owner:Nat
 name:List aj
deriving DecidableEq
def bY(x:al):jt:=if x.aU=true then⟨x.owner,x.name⟩ else⟨0,x.name⟩
def eA(c:jt):Array ah:=#[.int .u64 (c.owner:Int),.string (strOf c.name)]
theorem OY(c:jt):(eA c).all (·.oneCell')=true:=by simp[eA,Ac8]
theorem PH(c:jt):(prog.info? 246).map (·.size)=some (eA c).size:=av
theorem D':∀W:af,(Ab9 246).run Aag W=.ok (.agg (eA ⟨0,[]⟩)) W:=(lq (P:=Aag) (t:=246) (v:=.agg (eA ⟨0,[]⟩)) (n:=2) ay).1
theorem zF(n:Nat)(s:List aj):prog.built 246 [(0,u6 (n:Int)),(1,.string (strOf s))]=some (eA ⟨n,s⟩):=av
theorem w6(s:List aj):prog.built 246 [(0,u6 0),(1,.string (strOf s))]=some (eA ⟨0,s⟩):=av
theorem WA(c d:jt)(W:af):(Ack 10000 246 (.agg (eA c)) (.agg (eA d))).run Aag W=.ok (decide (c=d)) W:=by
 obtain⟨a,s⟩:=c;obtain⟨a2,s2⟩:=d;have e:decide ((⟨a,s⟩:jt)=⟨a2,s2⟩)=(((a:Int)==(a2:Int)) && ((strOf s).toList==(strOf s2).toList)):=by rw[BZ,AP];simp;omega
 rw[e];clear e;unfold eA;rw[yx W 9999 246 _ _ ay aq];cases h:((a:Int)==(a2:Int))<;>cases h2:((strOf s).toList==(strOf s2).toList);all_goals go_simp
def eb(l:List al)(c:jt):Option Nat:=gV (λx=>decide (bY x=c)) l
theorem zJ(w:af)(g o:Nat)(x:al)(vd:ah)(R:w.rangeAt g o (cf x vd).toList):Aae Aag 183 #[pq g o] w λe w'=>e=.returned (.agg (eA (bY x)))/\Up w w':=by
 obtain⟨U1,B1⟩:=aw (ai w (.cells (eA ⟨0,[]⟩) 246)) (aH.new w 246 (eA ⟨0,[]⟩));obtain⟨_,c1,c2,c3,_⟩:=cd R;have IC:=an (PH (bY x));obtain⟨x1,x2,x3⟩:=db (U1.cell c1) (U1.cell c2) (U1.cell c3);clear c1 c2 c3;have HC:=an (show bY x=if x.aU=true then⟨x.owner,x.name⟩ else⟨0,x.name⟩ from rfl);obtain⟨BX,BZ⟩:=aA (zF x.owner x.name) (w6 x.name);generalize bY x=c at *;obtain⟨id,nm,sn,ow,pv,sp,bl,rt,dd⟩:=x;cases sn
 ·obtain rfl:c=⟨0,nm⟩:=HC.out;go_in;go_wp2_with(first
   | refine bD 246 D' ?_
   | refine cZ 246 2 20 (eA ⟨0,nm⟩) B1 ?_)
  intro wz hbz ag;go_wp2;exact kk (v:=.agg (eA ⟨0,nm⟩)) (nw rfl _ _ _ w.heap.size 246 _ rfl hbz _ underlying246 rfl IC) rfl ⟨rfl,U1.grown ag (λk hk=>aQ)⟩
 ·obtain rfl:c=⟨ow,nm⟩:=HC.out;go_in;go_wp2_with(refine arm ?_);refine wg 9 ay av ?_;refine q7 ?_;change Adc _ _ (w.alloc (.cells (eA ⟨0,[]⟩) 246)).drew (λa'=>Aak _ _ _ _ a' (w.alloc (.cells (eA ⟨0,[]⟩) 246)).drew) _ _;have UD:=an (Up.drew (Up.refl (w.alloc (.cells (eA ⟨0,[]⟩) 246))));replace x1:=UD.cell x1;replace x3:=UD.cell x3;generalize(w.alloc (.cells (eA ⟨0,[]⟩) 246)).drew=w5 at *;try simp only[Aas,gh]
  repeat(first
   | still_step)
  refine hA ?_;go_wp2_with(first
   | refine cZ 246 2 15 (eA ⟨ow,nm⟩) (B1.up UD) ?_)
  intro wz hbz ag;go_wp2;exact kk (v:=.agg (eA ⟨ow,nm⟩)) (nw rfl _ _ _ w.heap.size 246 _ rfl hbz _ underlying246 rfl IC) rfl ⟨rfl,(U1.trans UD).grown ag (λk hk=>aQ)⟩
theorem Io(w:af)(v:ah)(l:List al)(hv:cB w v l)(c:jt):Aae Aag 165 #[v,.agg (eA c)] w λe w'=>e=.returned (i6 (fF (eb l c)))/\Up w w':=by
 have hlen:=hv.length_le;obtain⟨a,cap,rfl⟩:=hv.slice;have HV:=an hv;go_in;go_wp2_with(refine arm ?_);go_loopw [8] (λi wr=>∃k:Nat,k<=κ l/\i=i6 k/\(∀j(hj:j<κ l),j<k->decide (bY l[j]=c)=false)/\Up w wr/\aH wr w.heap.size 246 (eA c)) (λi _=>κ l-(Aat i).toNat)
 case atStart=>exact⟨0,bE _,rfl,λj _ h=>ae,(ai w (.cells (eA c) 246)),(aH.new w 246 (eA c))⟩
 case round=>
  obtain⟨k,hk,rfl,ao,ur,br⟩:=hrel;obtain⟨HN,UR,BR⟩:=aW ao ur br;clear ao;by_cases hlt:k<κ l
  ·refine iP ?_;intro b2;obtain⟨b,off,rfl,_,hc⟩:=vg (HV.up UR) ae;obtain⟨da,dn,dc,rg,dp⟩:=hc k hlt;have HK:=an (λh=>pK (p:=λx=>decide (bY x=c)) hlt h HN);have HS:=an (show decide (bY l[k]=c)=false->∀j(hj:j<κ l),j<k+1->decide (bY l[j]=c)=false from λh j hj aL=>by
    rcases ma j k with h'|h'
    ·exact HN j hj h'
    ·obtain rfl:j=k:=by omega
     exact h)
   have RG:=an rg;clear hc;generalize l[k]=x at *;have CO:=an (λW (u:Up wr W)=>zJ W b (off+k*11) x _ (λj u' h=>u.cell (RG j u' h)));generalize bY x=cx at *;obtain⟨bb,aj⟩:=bK (decide (cx=c));rw[<-aj]at HK HS;have EQ:∀W,(Ack 10000 246 (.agg (eA cx)) (.agg (eA c))).run Aag W=.ok bb W:=λW=>by rw[aj];exact WA cx c W
   clear aj;go_wp2;refine e3 (S:=λW=>Up wr W/\aH W w.heap.size 246 (eA c)) av ?_;change Acp _ _ _ _ _ 6 _ _ (wr.drew);have UD:=an (Up.drew (Up.refl wr));have F5:=an (show Up wr wr.drew/\aH wr.drew w.heap.size 246 (eA c)from⟨UD,BR.up UD⟩);generalize wr.drew=w5 at *;refine lI ?_;refine tb 4 rfl (Wb (λW hS=>hS.2.range)) ?_;refine ok 3 ?_;intro K hK;go_simp;refine(CO _ UD).mono ?_;rintro e w6⟨rfl,u6⟩;obtain⟨S6,U6⟩:=aw (show Up wr w6/\aH w6 w.heap.size 246 (eA c)from⟨F5.1.trans u6,F5.2.up u6⟩) ((UR.trans UD).trans u6);refine hK _ _ S6 ?_;clear hK K;refine ta 5 ?_;refine yq av ?_ _;cases bb
   case true=>have HP:=an (show eb l c=some k from HK rfl);clear EQ HK HS;go_wp2;go_ret;exact⟨sJ,U6⟩
   case false=>clear EQ HK;go_wp2;exact⟨⟨k+1,hlt,aq,(HS rfl),U6,S6.2⟩,sF⟩
  ·obtain rfl:k=κ l:=by omega
   have b2:((κ l:Int)<(κ l:Int))=False:=aq
   have HP:=an (show eb l c=none from pJ (λj hj=>HN j hj hj));go_wp2;go_ret;exact⟨sJ,UR⟩
def recAt(l:List al)(i:Nat):al:=l.getD i tn
theorem b'(h:i<κ l):recAt l i=l[i]:=by simp[recAt,h]
theorem dH{id i:Nat}(h:aV l id=some i):i<κ l/\(recAt l i).id=id:=Mk
theorem eP{c:jt}(h:eb l c=some i):i<κ l/\bY (recAt l i)=c:=Mk
theorem cn{a:Option Addr}(h:cB w (.slice a n cap) l)(hi:i<κ l):∃b off,a=some ⟨b,off,none⟩/\b<w.heap.size/\∃da dc,w.rangeAt b (off+i*11) (cf (recAt l i) (.slice da (κ (recAt l i).dead) dc)).toList/\cX w (.slice da (κ (recAt l i).dead) dc) (recAt l i).dead:=by
 obtain⟨b,off,h1,h2,hc⟩:=vg h ae;obtain⟨da,dn,dc,rg,dp⟩:=hc i hi;rw[b' hi];have ad:dn=l[i].dead.length:=by obtain⟨_,_,h⟩:=dp.slice;simp at h;exact h.2.1
 grind
def aah(l:List al)(r:Option Nat)(w:af)(e:Ab1)(w':af):Prop:=(r=none/\e=.returned (.tuple #[.agg b6,.bool false])/\Up w w')\/(∃i v,r=some i/\e=.returned (.tuple #[.agg (cf (recAt l i) v),.bool true])/\bf w' w.heap.size v (recAt l i).dead/\Up w w')
theorem r':prog.built 90 []=some b6:=av
theorem z'(w:af)(v:ah)(l:List al)(hv:cB w v l)(hr:∀x∈l,κ x.dead*24<=140737488355328)(id:Nat):Aae Aag 137 #[v,u6 (id:Int)] w λe w'=>aah l (aV l id) w e w':=by
 obtain⟨a,cap,rfl⟩:=hv.slice;obtain⟨HV,HR,U1,B1,IZ,OZ⟩:=im hv hr (ai w (.cells b6 90)) (aH.new w 90 b6) gB gL;have PL:=an (jl (w.alloc (.cells b6 90)) _ l (hv.up U1) id);have HG:Hid (∀i,aV l id=some i->i<κ l/\(recAt l i).id=id):=an (λi h=>dH h);clear hr;generalize aV l id=r at *;go_in;go_wp2_with(refine arm ?_);refine PL.mono ?_;refine oK ?_;intro w2;cases r with
 | none=>
  unfold fF;go_wp2_with(first
   | refine l1 90 r' ?_
   | refine cZ 90 4 12 b6 B1 (hi:=IZ) (h1:=OZ) ?_)
  intro wz hbz ag;have UZ:=an (U1.grown ag (λk hk=>aQ));go_wp2;exact bS (hi:=IZ) (.tuple #[.agg b6,.bool false]) hbz (.inl ⟨rfl,rfl,UZ⟩)
 | some i=>
  unfold fF;obtain⟨hi,hid⟩:=HG i rfl;obtain⟨b,off,rfl,_,da,dc,rg,dp⟩:=cn (HV.up U1) hi;have b1:((i:Int)<0)=False:=aq
  obtain⟨SC,IX⟩:=aw (kI _ _ _ dp (by rw[b' hi];exact HR _ (cJ hi))) (ke (recAt l i) (.slice da (κ (recAt l i).dead) dc));clear hid;obtain⟨x,hx⟩:=bK (recAt l i);rw[<-hx]at rg SC IX;have HX:=an hx;clear hx;go_wp2_with(refine arm ?_);refine SC.mono ?_;rintro e w3⟨v',rfl,ho,u3⟩;obtain⟨na,nc,rfl⟩:=(ak.row ho pw).slice;go_wp2_with(first
   | refine cZ 90 4 17 (cf x (.slice na (κ x.dead) nc)) (B1.up u3) ?_)
  intro wz hbz ag;have UZ:=an ((U1.trans u3).grown ag (λk hk=>aQ));go_wp2;exact bS (.tuple #[.agg (cf x (.slice na (κ x.dead) nc)),.bool true]) hbz (.inr ⟨i,_,rfl,by rw[HX.out],by rw[<-HX.out];exact(ak.kept (ho.mono (base':=w.heap.size) U1.size) ag (.inr (λe=>by have:=(ho.aN _ e).1;have:=aL w (.cells b6 90);omega))),UZ⟩)
def bZ(l:List al)(id:Nat):Nat:=match aV l id with
 | none=>0
 | some i=>if(recAt l i).prev=0 then 0 else match aV l (recAt l i).prev with
  | none=>0
  | some j=>(recAt l j).ar
section
variable {l:List al} {id i j:Nat}
theorem SJ(h:aV l id=none):bZ l id=0:=by grind [bZ]
theorem Ac(h:aV l id=some i)(h0:(recAt l i).prev=0):bZ l id=0:=by grind [bZ]
theorem SK(h:aV l id=some i)(h0:¬(recAt l i).prev=0)(h2:aV l (recAt l i).prev=none):bZ l id=0:=by grind [bZ]
theorem Ad(h:aV l id=some i)(h0:¬(recAt l i).prev=0)(h2:aV l (recAt l i).prev=some j):bZ l id=(recAt l j).ar:=by grind [bZ]
end
theorem qN(w:af)(v:ah)(l:List al)(hv:cB w v l)(id:Nat):Aae Aag 142 #[v,u6 (id:Int)] w λe w'=>e=.returned (u6 (bZ l id:Int))/\w'=w:=by
 obtain⟨a,cap,rfl⟩:=hv.slice;have PL:=an (λid=>jl w _ l hv id);have P1:=an (PL id);cases h1:aV l id with
 | none=>have HE:=an (SJ h1);rw[h1]at P1;unfold fF at P1;clear h1;exact T2
 | some i=>
  have H1:=an h1;rw[h1]at P1;unfold fF at P1;obtain⟨hi,_⟩:=dH h1;obtain⟨b,off,rfl,_,da,dc,rg,_⟩:=cn hv hi;obtain⟨_,_,_,_,c4,_⟩:=cd rg;refine lJ ?_;intro b1 b2;clear h1;by_cases h0:(recAt l i).prev=0
  ·have HE:=an (Ac H1 h0);rw[h0]at c4;clear h0;exact T2
  ·have b3:((((recAt l i).prev:Nat):Int)==(0:Int))=false:=by simp;omega
   obtain⟨HF2,HF3,P2⟩:=aW (@SK l id i H1 h0) (λj=>@Ad l id i j H1 h0) (PL (recAt l i).prev);obtain⟨pv,ar⟩:=bK ((recAt l i).prev);rw[<-ar]at c4 b3 HF2 HF3 P2;clear h0 ar;cases h2:aV l pv with
   | none=>have HE:=an (HF2 h2);rw[h2]at P2;unfold fF at P2;exact TI
   | some j=>have HE:=an (HF3 j h2);rw[h2]at P2;unfold fF at P2;obtain⟨hj,_⟩:=dH h2;obtain⟨b',ak,aj,_,aM,aN,rg,_⟩:=cn hv hj;simp only[Aai,Abd,and_true]at aj;obtain⟨rfl,rfl⟩:=aj;obtain⟨_,_,_,_,_,c5,_⟩:=cd rg;refine FV ?_;intro b4 b5;exact TI
def hs(l:List ah)(o:Nat)(m:List ah):List ah:=l.take o++(m++l.drop (o+κ m))
theorem lQ(l:List ah)(o:Nat)(m:List ah):Aby l o m=hs l o m:=ay
theorem tB{l m:List ah}(h:o+κ m<=κ l):κ (hs l o m)=κ l:=by grind [hs]
theorem mU{l r m:List ah}(h:o+κ m<=κ l):hs (l++r) o m=hs l o m++r:=by grind [hs]
theorem sf{l r m:List ah}:hs (l++r) (κ l+o) m=l++hs r o m:=by unfold hs;rw[show κ l+o+κ m=κ l+(o+κ m)from ae,List.take_length_add_append,List.drop_length_add_append];simp
theorem JE{l m:List ah}(h:o+κ m<=n)(hn:n<=κ l):(hs l o m).take n=hs (l.take n) o m:=by
 conv=>lhs;rw[<-fH n l,mU ab]
 grind [tB]
section
variable {α:Type} {f:α->List ah} {k:Nat}
theorem pL(hw:hL f k):∀(l:List α)(i:Nat)(hi:i<κ l)(off:Nat)(V:List ah)(x:α),off+κ V<=k->f x=hs (f l[i]) off V->(l.set i x).flatMap f=hs (l.flatMap f) (i*k+off) V
 | y::l,0,_,off,V,x,hj,hx=>by simp only[List.set_cons_zero,Abg,Nat.zero_mul,Abr];rw[mU (by rw[hw.len];exact hj),hx];rfl
 | y::l,i+1,hi,off,V,x,hj,hx=>by simp only[List.set_cons_succ,Abg];rw[show(i+1)*k+off=κ (f y)+(i*k+off)from by rw[hw.len,vZ];omega,sf];rw[pL hw l i AY off V x hj hx]
theorem ak.part(hw:hL f k){e:Aab}{w:af}{base g n cap:Nat}{xs:List α}(h:ak f k e w base (cv g n cap) xs)(i:Nat)(hi:i<κ xs):∃cur:Array ah,aH w g e cur/\n=κ xs/\i*k+k<=cur.size/\base<=g/\∀(x:α)(off:Nat)(V:List ah)(w':af),off+κ V<=k->f x=hs (f xs[i]) off V->aH w' g e (hs cur.toList (i*k+off) V).toArray->
  ak f k e w' base (cv g n cap) (xs.set i x):=by
 obtain⟨h1,h2⟩:=h;rcases h2 with⟨h3,_⟩|⟨g',av,cur,h3,h4,h5,h6,h7,h8,h9⟩
 ·simp at h3
 ·simp at h3;obtain⟨rfl,rfl,rfl⟩:=h3;have hk:i*k+k<=κ xs*k:=by have:=Nat.mul_le_mul_right k (show i+1<=κ xs from hi);grind
  have aE:κ xs*k<=cur.size:=aQ
  refine⟨cur,h5,rfl,ae,h4,λx off V w' hv hx hb=>⟨by rw[hw.flat],.inr ⟨g,cap,_,aq,h4,hb,ab,h7,?_,?_⟩⟩⟩
  ·grind [tB]
  ·grind [JE,pL]
end
theorem bq.part(h:bq w base (cv g n cap) l)(i:Nat)(hi:i<κ l):∃(cur:Array ah)(va:Option Addr)(vc:Nat),aH w g 90 cur/\n=κ l/\i*11+11<=cur.size/\base<=g/\w.rangeAt g (i*11) (cf l[i] (.slice va l[i].dead.length vc)).toList/\bf w base (.slice va l[i].dead.length vc) l[i].dead/\
  ∀(x:al)(xa:Option Addr)(xn xc off:Nat)(V:List ah)(w':af),off+κ V<=11->(cf x (.slice xa xn xc)).toList=hs (cf l[i] (.slice va l[i].dead.length vc)).toList off V->bf w base (.slice xa xn xc) x.dead->
   aH w' g 90 (hs cur.toList (i*11+off) V).toArray->w.grownBy w' (some g)->bq w' base (cv g n cap) (l.set i x):=by
 obtain⟨ys,h1,h2,h3⟩:=h;subst h1;have ag:i<κ ys:=aa
 obtain⟨cur,hb,hn,hc,hg,hp⟩:=ak.part mw h2 i ag;obtain⟨b,an,aC,_,_,ai⟩:=aI.get (ak.row h2 mw) mw ae;simp only[Aai,Abd,and_true]at aC;obtain⟨rfl,rfl⟩:=aC;have ad:(ys[i]).n=κ (ys[i]).d.dead:=by obtain⟨_,_,hh⟩:=(ak.row (h3 _ (cJ ag)) pw).slice;grind [gM.v]
 refine⟨cur,ys[i].a,ys[i].c,hb,ab,hc,hg,λj v hj=>?_,?_,λx xa xn xc off V w' hv hx ho aj hgr=>?_⟩
 ·grind [c9,gM.v]
 ·grind [gM.v]
 ·refine⟨ys.set i ⟨x,xa,xn,xc⟩,aq,hp _ off V w' hv (by unfold c9 gM.v;rw[ad];simpa using hx) aj,λy hy=>?_⟩
  have key:∀{v:ah}{ps:List au},bf w base v ps->bf w' base v ps:=λhop=>ak.kept hop hgr (by have:=ig ax hop h2;simpa[Aan]using this)
  rcases yG hy with hy|rfl
  ·simp_all
  ·exact key ho
def os(b:Nat)(v:ah)(ys:List gM):As:=⟨λn=>v.ownBlock=some n\/∃y∈ys,y.v.ownBlock=some n,λw=>ak c9 11 90 w b v ys/\∀y∈ys,bf w b y.v y.d.dead,λh T hf=>⟨h.1.az T λn hn=>hf n (.inl hn),λy hy=>(h.2 y hy).az T λn hn=>hf n (.inr ⟨y,hy,hn⟩)⟩⟩
theorem U6{ys:List gM}(e:ys.map (·.d)=l){j:Nat}(h:j<κ ys):ys[j].d=recAt l j:=by subst e;rw[b' jG];simp
theorem ZF{ys:List gM}(e:ys.map (·.d)=l):κ l=κ ys:=Ff
theorem BO{t:Aab}{vd:ah}(h:aH W g t (cf x vd)):W.rangeAt g 7 (be x.root).toList:=λj v hj=>by
 rw[h.cell];match j with
 | 0=>exact hj
 | 1=>exact hj
 | 2=>exact hj
 | n+3=>cases hj
def XN(b:Nat)(v:ah)(ys:List gM):As:=⟨λn=>v.ownBlock=some n,λw=>ak c9 11 90 w b v ys,λh T hf=>h.az T hf⟩
def UR(b:Nat)(ys:List gM):As:=⟨λn=>∃y∈ys,y.v.ownBlock=some n,λw=>∀y∈ys,bf w b y.v y.d.dead,λh T hf y hy=>(h y hy).az T λn hn=>hf n ⟨y,hy,hn⟩⟩
section
variable {F0:Nat->Prop} {x0:af} {L L':List As} {w w':af} {b B:Nat} {v:ah} {l:List au} {ys:List gM}
theorem Rz.s{s:List al}(h:bq w' w.heap.size v s)(u:Up w w')(hB:B<=w.heap.size):∃ys,ys.map (·.d)=s/\Rz w w' [os B v ys]:=by
 obtain⟨ys,h1,h2,h3⟩:=h;refine⟨ys,h1,.one u ⟨h2.mono hB,λy hy=>(h3 y hy).mono hB⟩ (λn hn=>?_)⟩;rcases hn with hn|⟨y,hy,hn⟩
 ·exact h2.aN n hn
 ·exact(h3 y hy).aN n hn
theorem Rz.s2{s:List al}(h:bq w' w.heap.size v s)(u:Up w w')(hB:B<=w.heap.size):∃ys,ys.map (·.d)=s/\Rz w w' [XN B v ys,UR B ys]:=by
 obtain⟨ys,h1,h2,h3⟩:=h;refine⟨ys,h1,u,λA hA=>?_,λA hA n hn=>?_,List.pairwise_pair.2 λn hn aS=>?_⟩
 ·rcases Aam.1 hA with rfl|hA
  ·exact h2.mono hB
  ·rw[kl.1 hA];exact λy hy=>(h3 y hy).mono hB
 ·rcases Aam.1 hA with rfl|hA
  ·exact h2.aN n hn
  ·rw[kl.1 hA]at hn;obtain⟨y,hy,hn⟩:=hn;exact(h3 y hy).aN n hn
 ·obtain⟨y,hy,aS⟩:=aS;rcases ig ax (h3 y hy) h2 with h|h
  ·rw[h]at aS;cases aS
  ·exact h (aS.trans (show v.ownBlock=some n from hn).symm)
def Fr.abz{A D:As}(s:Fr F0 x0 L w)(r:Rz w w' [A,D]):Fr F0 x0 (A::D::L) w':=s.res r
theorem row_one{g:Nat}{x:al}{a:Option Addr}{n c:Nat}(h:aH w g 90 (cf x (.slice a n c))):aI c9 w (cv g 1 1) [⟨x,a,n,c⟩]:=.inr ⟨g,0,1,rfl,aq,aq,dE,λj u hj=>by
  have hj:(cf x (.slice a n c)).toList[j]?=some u:=by simpa[c9,gM.v]using hj
  rw[h.cell,Abr,<-oB];exact hj⟩
theorem Fr.rows(s:Fr F0 x0 L w)(h:os b v ys∈L:=by exact gR):ak c9 11 90 w b v ys/\∀y∈ys,bf w b y.v y.d.dead:=s.p _ h
theorem Fr.cE(s:Fr F0 x0 L w)(h:os b v ys∈L:=by exact gR):bq w b v (ys.map (·.d)):=⟨ys,rfl,s.p _ h⟩
theorem KO{v v':ah}{aa:List gM}(hv:v'.ownBlock=v.ownBlock)(hy:∀y∈aa,y∈ys):∀n,(os b v' aa).F n->(os b v ys).F n:=λn h=>by
 rcases h with h|⟨y,hm,h⟩
 ·exact .inl (by rw[<-hv];exact h)
 ·exact .inr ⟨y,hy y hm,h⟩
theorem Fr.osT{v':ah}{aa:List gM}{g n cap:Nat}(s:Fr F0 x0 L w)(h:(os b v' aa).P w')(T:Touch (·=g) w w')(hv:v'.ownBlock=some g)(hy:∀y∈aa,y∈ys)(hU:mQ L (os b (cv g n cap) ys) (os b v' aa) L':=by exact vH):Fr F0 x0 L' w':=s.zK hU (T.mono λn e=>by rw[e];exact .inl rfl) h (λn hn=>by
  have:=KO (b:=b) (v:=cv g n cap) (ys:=ys) hv hy n hn;exact⟨eg (s.f _ hU.mem n (KO hv hy n hn)).1 T.size,.inl (KO hv hy n hn)⟩)
variable {P:bx} {ops:Array Abn} {Q:Exit->Act->af->Prop} {L0:List As} {a a':Act} {x:af} {o:Abn} {J:List Nat} {k i j:Nat} {ty:Aab} {y z:bO} {V:Array ah} {g n m cap off:Nat}
theorem kv{id:Nat}{v:ah}(s:Fr F0 x0 L w)(h:∀w,Fr F0 x0 L w->RK P ops Q F0 x0 L0 L [] 0 a w)(hr:xT L (os b v ys) L0:=by exact RE)(hm:P.follows .mixedOrders=true:=by kernel_rfl):(Code.region id ops true).wp P Q a w:=ka L0 s hr.sub h hm
theorem kv2{id:Nat}{v v2:ah}{b2:Nat}{l2:List au}(s:Fr F0 x0 L w)(h:∀w,Fr F0 x0 L w->RK P ops Q F0 x0 L0 L [] 0 a w)(hr:xT L (os b v ys) L':=by exact RE)(aO:xT L' (op b2 v2 l2) L0:=by exact RE)(hm:P.follows .mixedOrders=true:=by kernel_rfl):(Code.region id ops true).wp P Q a w:=ka L0 s (λA h=>hr.sub A (aO.sub A h)) h hm
theorem U7{y0 y':gM}{v:ah}(h0:ys[i]?=some y0)(hd:y'.v=y0.v/\y'.d.dead=y0.d.dead\/y'.v=nl/\y'.d.dead=[]):∀n',(os b v (ys.set i y')).F n'->(os b v ys).F n':=λn' ag=>by
 obtain⟨hi,rfl⟩:=lp.1 h0;rcases ag with ag|⟨y,hy,ag⟩
 ·exact .inl ag
 ·rcases yG hy with hy|rfl
  ·exact .inr ⟨y,hy,ag⟩
  ·rcases hd with⟨e1,e2⟩|⟨e1,e2⟩
   ·rw[e1]at ag;exact .inr ⟨_,cJ hi,ag⟩
   ·rw[e1]at ag;cases ag
theorem Ob{y0 y':gM}(h:(os b (cv g n cap) ys).P w)(h0:ys[i]?=some y0)(hV:j+V.size<=11)(aK:c9 y'=hs (c9 y0) j V.toList)(hd:y'.v=y0.v/\y'.d.dead=y0.d.dead\/y'.v=nl/\y'.d.dead=[]):∃C,aH w g 90 C/\(i*11+j)+V.size<=C.size/\(os b (cv g n cap) ys).F g/\∀w',aH w' g 90 (Aby C.toList (i*11+j) V.toList).toArray->w.grownBy w' (some g)->(os b (cv g n cap) (ys.set i y')).P w'/\∀n',(os b (cv g n cap) (ys.set i y')).F n'->(os b (cv g n cap) ys).F n':=by
 obtain⟨hi,rfl⟩:=lp.1 h0;obtain⟨h2,h3⟩:=h;obtain⟨C,hb,hn,hc,hg,hp⟩:=ak.part mw h2 i hi;refine⟨C,hb,ae,.inl rfl,λw' aG hgr=>⟨⟨hp _ j V.toList w' (by simpa using hV) aK aG,λy hy=>?_⟩,U7 h0 hd⟩⟩;have key:∀{v:ah}{ps:List au},bf w b v ps->bf w' b v ps:=λhop=>ak.kept hop hgr (by have:=ig ax hop h2;simpa[Aan]using this)
 rcases yG hy with hy|rfl
 ·exact key (h3 y hy)
 ·rcases hd with⟨e1,e2⟩|⟨e1,e2⟩
  ·rw[e1,e2];exact key (h3 _ (cJ hi))
  ·rw[e1,e2];exact ak.nil _ _ _ _ _
theorem kqd(i:Nat){y0:gM}{L1 L2:List As}{da:Option Addr}{dn dc:Nat}(h:∀w',Fr F0 x0 L2 w'->RK P ops Q F0 x0 L0 L2 J (k+1) a' w')(h0:ys[i]?=some y0)(hr:xT L (op b (.slice da dn dc) l) L1:=by exact RE)(hU:mQ L1 (os b (cv g n cap) ys) (jn (os b (cv g n cap) ys) (op b (.slice da dn dc) l)) L':=by exact vH)(ar:mQ L' (jn (os b (cv g n cap) ys) (op b (.slice da dn dc) l)) (os b (cv g n cap) (ys.set i ⟨{y0.d with dead:=l},da,dn,dc⟩)) L2:=by exact vH)(hJ:J.contains k=false:=by rfl)(ho:ops[k]?=some o:=by rfl)(av:o.op=.store ty y z:=by rfl)(hx:a.eval y=.pointer (some ⟨g,off,none⟩):=by rfl)(aM:off=i*11+10:=by omega)(hy:a.eval z=.slice da dn dc:=by rfl)(aL:(P.info? ty).map (·.size)=some 1:=by kernel_rfl)(hl:L0.Sublist L2:=by repeat(first|exact List.Sublist.slnil|(with_reducible refine List.Sublist.cons₂ _ ?_)|refine List.Sublist.cons _ ?_))(hw:Region.wanted o (yielded ops a.tmps)=true:=by rfl)(ha:a.put o.dst undef=a':=by first|(simp only[Act.put,gh];rfl)|rfl)(hc:(LZ P ops (ml ops.size J k) k && Region.noSelect ops)=true:=by kernel_rfl)(hQ:∀c a w b,a.defers=b.defers->Q (.panic c) a w->Q (.panic c) b w:=by intro _ ⟨_,_⟩ _ ⟨_,_⟩ e h;cases e;exact h):RK P ops Q F0 x0 L0 L J k a x:=by
 subst aM;obtain⟨hi,rfl⟩:=lp.1 h0;have hF:∀n',(os b (cv g n cap) (ys.set i ⟨{ys[i].d with dead:=l},da,dn,dc⟩)).F n'->(jn (os b (cv g n cap) ys) (op b (.slice da dn dc) l)).F n':=λn' ag=>by exact M7
 refine kpp (V:=#[.slice da dn dc]) (λw s=>?_) (λD hD n' ag=>?_) h hJ ho av hx yV aL Fi hl hw ha hc hQ
 ·have s':=s.join hr hU;obtain⟨⟨h2,h3⟩,h4⟩:=s'.p _ ar.mem;obtain⟨C,hb,hn,aE,hg,hp⟩:=ak.part mw h2 i hi;refine⟨90,C,hb,ab,⟨_,hr.sub _ hU.mem,.inl rfl⟩,λw' aG hgr=>?_⟩;refine NA ?_;intro key T;refine s'.zK ar T ⟨hp _ 10 [.slice da dn dc] w' aq rfl aG,λy hy=>?_⟩ (λn' h=>⟨eg (s'.f _ ar.mem n' (hF n' h)).1 T.size,.inl (hF n' h)⟩);exact M8
 ·rcases ar.sub D hD with rfl|hD
  ·rcases hF n' ag with h|h
   ·exact⟨_,hr.sub _ hU.mem,h⟩
   ·exact⟨_,hr.mem,h⟩
  ·rcases hU.sub D hD with rfl|hD
   ·rcases ag with h|h
    ·exact⟨_,hr.sub _ hU.mem,h⟩
    ·exact⟨_,hr.mem,h⟩
   ·exact⟨D,hr.sub D hD,ag⟩
theorem kq(i j:Nat){y0:gM}(y':gM)(h:∀w',Fr F0 x0 L' w'->RK P ops Q F0 x0 L0 L' J (k+1) a' w')(h0:ys[i]?=some y0)(hU:mQ L (os b (cv g n cap) ys) (os b (cv g n cap) (ys.set i y')) L':=by exact vH)(hJ:J.contains k=false:=by rfl)(ho:ops[k]?=some o:=by rfl)(av:o.op=.store ty y z:=by rfl)(hx:a.eval y=.pointer (some ⟨g,off,none⟩):=by rfl)(aM:off=i*11+j:=by omega)(hy:(a.eval z).cells=V:=by exact zcv)(aK:c9 y'=hs (c9 y0) j V.toList:=by rfl)(hd:y'.v=y0.v/\y'.d.dead=y0.d.dead\/y'.v=nl/\y'.d.dead=[]:=by first|exact .inl ⟨rfl,rfl⟩|exact .inr ⟨rfl,rfl⟩)(aL:(P.info? ty).map (·.size)=some V.size:=by exact Rx)(h1:V.all (·.oneCell')=true:=by exact zoa)(hV:j+V.size<=11:=by first|decide|(simp[be]))(hl:L0.Sublist L':=by repeat(first|exact List.Sublist.slnil|(with_reducible refine List.Sublist.cons₂ _ ?_)|refine List.Sublist.cons _ ?_))(hw:Region.wanted o (yielded ops a.tmps)=true:=by rfl)(ha:a.put o.dst undef=a':=by first|(simp only[Act.put,gh];rfl)|rfl)(hc:(LZ P ops (ml ops.size J k) k && Region.noSelect ops)=true:=by kernel_rfl)(hQ:∀c a w b,a.defers=b.defers->Q (.panic c) a w->Q (.panic c) b w:=by intro _ ⟨_,_⟩ _ ⟨_,_⟩ e h;cases e;exact h):RK P ops Q F0 x0 L0 L J k a x:=by subst aM;exact kp (λw s=>⟨90,Ob (s.p _ hU.mem) h0 hV aK hd⟩) (U7 h0 hd) h hU hJ ho av hx hy aL h1 hl hw ha hc hQ
theorem Za{rest:List Oper}{op:Oper}{ty:TypeId}{n:Nat}{C:Array ah}{e:TypeId}{z:ah}{k bytes:Nat}(s:Fr F0 x0 L w)(h:∀g w,Fr F0 x0 (bk g e C::L) w->wpList P ops Q rest (a.put op.dst (cv g 1 1)) w)(ho:op.op=.buildSlice ty 1 #[(0,.tmp n)]:=by with_reducible rfl)(hx:a.eval (.tmp n)=.agg C:=by rfl)(ht:P.underlying ty=some (.slice e):=by exact hM)(hi:(P.info? e).map (λi=>(i.zero,i.size,i.bytes))=some (some z,k,bytes):=by first|assumption|exact j'|exact cy)(h0:0<k:=by decide)(hk:k<=16777216:=by decide)(hC:C.size=k:=by rfl)(hgd:op.guard=none:=by rfl):wpList P ops Q (op::rest) a w:=bU hgd ty e (.tmp n) ho z k bytes C hx ht hi h0 hk hC (h _ _ (s.alloc e C))
theorem fap{rest:List Oper}{op:Oper}{x:al}{da:Option Addr}{dn dc m n:Nat}{L':ah->List As}(s:Fr F0 x0 L w)(h:∀a' c' w,Fr F0 x0 (L' (.slice a' (κ ys+1) c')) w->wpList P ops Q rest (a.put op.dst (.slice a' (κ ys+1) c')) w)(hgd:op.guard=none:=by rfl)(ho:op.op=.call {callee:=.builtin .append,args:=#[.tmp m,.tmp n],argTypes:=#[71,71]}:=by with_reducible rfl)(hs:a.eval (.tmp m)=v:=by exact zvv)(hx:a.eval (.tmp n)=cv g 1 1:=by rfl)(hm:bk g 90 (cf x (.slice da dn dc))∈L:=by exact gR)(hU:∀v',mQ L (XN x0.heap.size v ys) (XN x0.heap.size v' (ys++[⟨x,da,dn,dc⟩])) (L' v'):=by intro _;exact vH)(ht:P.underlying 71=some (.slice 90):=by exact underlying71)(hi:(P.info? 90).map (λi=>(i.zero,i.size,i.bytes))=some (some (.agg b6),11,112):=by exact j')(hl:κ ys<=1000:=by omega):wpList P ops Q (op::rest) a w:=eN mw hgd (.tmp m) (.tmp n) 71 ho x0.heap.size 90 _ 112 ht hi rfl v ys hs (s.p _ (hU v).mem) _ [⟨x,da,dn,dc⟩] hx (row_one (s.e5 hm)) ab ab s.t.size λv' w' h1 h2 _ h4=>by
  obtain⟨a',c',hv⟩:=(ak.row h1 mw).slice;exact Ko
end
def d'(l:List al)(id:Nat):List aj:=match aV l id with
 | none=>[]
 | some i=>if(recAt l i).aU=true then(match aV l (recAt l i).owner with
  | none=>[]
  | some j=>pN (recAt l j).name (recAt l i).name)else pN (recAt l i).name []
section
variable {l:List al} {id i j:Nat}
theorem WT(h:aV l id=none):d' l id=[]:=by grind [d']
theorem L5(h:aV l id=some i)(h0:(recAt l i).aU=false):d' l id=pN (recAt l i).name []:=by grind [d']
theorem WU(h:aV l id=some i)(h0:(recAt l i).aU=true)(h2:aV l (recAt l i).owner=none):d' l id=[]:=by grind [d']
theorem L6(h:aV l id=some i)(h0:(recAt l i).aU=true)(h2:aV l (recAt l i).owner=some j):d' l id=pN (recAt l j).name (recAt l i).name:=by grind [d']
end
theorem tP(w:af)(v:ah)(l:List al)(hv:cB w v l)(id:Nat):Aae Aag 31 #[v,u6 (id:Int)] w λe w'=>e=.returned (.string (strOf (d' l id)))/\Up w w':=by
 obtain⟨a,cap,rfl⟩:=hv.slice;obtain⟨HV,PL⟩:=aw hv (λid=>jl w _ l hv id);obtain⟨P1,NF⟩:=aw (PL id) (λW a b=>P' W a b);have cv:(⟨#[]⟩:ByteArray)=strOf []:=rfl;cases h1:aV l id with
 | none=>have HE:=an (WT h1);rw[h1]at P1;unfold fF at P1;clear h1 cv;go_in;go_wp2_with fail;refine P1.mono ?_;exact Uy
 | some i=>
  have H1:=an h1;rw[h1]at P1;unfold fF at P1;obtain⟨hi,_⟩:=dH h1;obtain⟨b,off,rfl,_,da,dc,rg,_⟩:=cn HV hi;obtain⟨_,c1,c2,c3,_⟩:=cd rg;refine lJ ?_;intro b1 b2;clear h1;cases hs:(recAt l i).aU with
  | false=>have HE:=an (L5 H1 hs);rw[hs]at c2;obtain⟨nm,hnm⟩:=bK ((recAt l i).name);rw[<-hnm]at c1 HE;have ab:=an (NF w nm []);rw[show(strOf []:ByteArray)=⟨#[]⟩ from rfl]at ab;clear hs hnm cv;go_in;go_wp2_with fail;refine q4 ?_;intro w2;go_wp2_with fail;refine ab.mono ?_;rintro e w3⟨rfl,u3⟩;go_wp2;go_ret;exact⟨nJ,u3⟩
  | true=>
   obtain⟨HF2,HF3⟩:=aw (@WU l id i H1 hs) (λj=>@L6 l id i j H1 hs);rw[hs]at c2;have P2:=an (PL (recAt l i).owner);obtain⟨nm,hnm⟩:=bK ((recAt l i).name);obtain⟨ow,how⟩:=bK ((recAt l i).owner);rw[<-hnm]at c1 HF3;rw[<-how]at c3 HF2 HF3 P2;clear hs hnm how;cases h2:aV l ow with
   | none=>have HE:=an (HF2 h2);rw[h2]at P2;unfold fF at P2;clear h2 HF2 HF3 cv;go_in;go_wp2_with fail;refine q4 ?_;intro w2;go_wp2_with fail;refine P2.mono ?_;exact Uy
   | some j=>have HE:=an (HF3 j h2);rw[h2]at P2;unfold fF at P2;obtain⟨hj,_⟩:=dH h2;obtain⟨b',ak,aj,_,aM,aN,rg,_⟩:=cn HV hj;simp only[Aai,Abd,and_true]at aj;obtain⟨rfl,rfl⟩:=aj;obtain⟨_,d1,_⟩:=cd rg;refine FV ?_;intro b4 b5;obtain⟨om,aa⟩:=bK ((recAt l j).name);rw[<-aa]at d1 HE;have ao:=an (NF w.drew om nm);clear h2 HF2 HF3 cv aa NF;go_in;go_wp2_with fail;refine q4 ?_;intro w2;go_wp2_with fail;refine P2.mono ?_;refine oK ?_;intro w2;go_wp2;refine e3 (S:=λW=>Up w W) av ?_;change Acp _ _ _ _ _ 12 _ _ (w.drew);have F5:=an (Up.drew (Up.refl w));generalize w.drew=w5 at *;refine lI ?_;refine ta 3 ?_;refine tb 4 rfl (yc ((λW (h:Up w W)=>h.cell d1))) ?_;refine uF ?_;refine ta 8 ?_;refine tb 9 rfl (yc ((λW (h:Up w W)=>h.cell c1))) ?_;refine ok 10 ?_;intro K hK;go_simp;refine ao.mono ?_;rintro e w6⟨rfl,u6⟩;have S6:=an (show Up w w6 from F5.trans u6);refine hK _ _ S6 ?_;clear hK K;refine ta 11 ?_;refine dn ?_;go_wp2;go_ret;exact⟨nJ,S6⟩
def dF(l:List al)(full:List aj):Except Nat Nat:=match cO full with
 | none=>.error 141
 | some (v,s)=>match eb l ⟨0,v⟩ with
  | none=>.error 161
  | some i=>if s=[] then .ok i else match eb l ⟨(recAt l i).id,s⟩ with
   | none=>.error 161
   | some j=>.ok j
def RR(l:List al)(r:Except Nat Nat)(w:af)(e:Ab1)(w':af):Prop:=(∃n:Nat,r=.error n/\e=.returned (.tuple #[.agg b6,.int .i64 (n:Int)])/\Up w w')\/(∃i v,r=.ok i/\i<κ l/\e=.returned (.tuple #[.agg (cf (recAt l i) v),.int .i64 0])/\bf w' w.heap.size v (recAt l i).dead/\Up w w')
section
variable {l:List al} {full vn sn:List aj} {i j:Nat}
theorem UN(h:cO full=none):dF l full=.error 141:=q1
theorem UO(h:cO full=some (vn,sn))(h1:eb l ⟨0,vn⟩=none):dF l full=.error 161:=q1
theorem A'(h:cO full=some (vn,sn))(h1:eb l ⟨0,vn⟩=some i)(h0:sn=[]):dF l full=.ok i:=q1
theorem UP(h:cO full=some (vn,sn))(h1:eb l ⟨0,vn⟩=some i)(h0:¬sn=[])(h2:eb l ⟨(recAt l i).id,sn⟩=none):dF l full=.error 161:=q1
theorem Ba(h:cO full=some (vn,sn))(h1:eb l ⟨0,vn⟩=some i)(h0:¬sn=[])(h2:eb l ⟨(recAt l i).id,sn⟩=some j):dF l full=.ok j:=q1
end
theorem rh(w:af)(v:ah)(l:List al)(hv:cB w v l)(hr:∀x∈l,κ x.dead*24<=140737488355328)(full:List aj)(hf:κ full<=9223372036854775807):Aae Aag 108 #[v,.string (strOf full)] w λe w'=>RR l (dF l full) w e w':=by
 obtain⟨a,cap,rfl⟩:=hv.slice;obtain⟨HR,U1,B1,IZ,OZ,SP,PL⟩:=xO hr (ai w (.cells b6 90)) (aH.new w 90 b6) gB gL (iZ (w.alloc (.cells b6 90)) full hf) (λW (u:Up w W) c=>Io W _ l (hv.up u) c);clear hr hf;cases hs:cO full with
 | none=>have HE:=an (@UN l full hs);rw[hs]at SP;unfold gd at SP;clear hs;go_in;go_wp2_with(refine arm ?_);refine uB ?_;intro w2 u2 U2 B2;go_wp2_with(first|refine arm ?_|refine pj ?_);intro wz hbz ag;have UZ:=an (U2.grown ag (λk hk=>sG));go_wp2;exact bS (hi:=IZ) (.tuple #[.agg b6,i6 141]) hbz (.inl ⟨141,HE,rfl,UZ⟩)
 | some vs=>
  obtain⟨vn,sn⟩:=vs;have bb:=an hs;rw[hs]at SP;unfold gd at SP;simp only at SP;have PL1:=an (λW (u:Up w W)=>PL W u ⟨0,vn⟩);have aa:=fO sn;clear hs;have BC:=w6 vn;cases h1:eb l ⟨0,vn⟩ with
  | none=>have HE:=an (UO bb h1);rw[h1]at PL1;unfold fF at PL1;clear h1 aa;go_in;go_wp2_with(refine arm ?_);refine uB ?_;intro w2 u2 U2 B2;go_wp2_with fail;refine y0 ?_;intro w3 u3 U3 B3;go_wp2_with(first|refine arm ?_|refine pj ?_);intro wz hbz ag;have UZ:=an (U3.grown ag (λk hk=>sG));exact NB
  | some i=>
   have H1:=an h1;rw[h1]at PL1;unfold fF at PL1;obtain⟨hi,_⟩:=eP h1;have b1:((i:Int)<0)=False:=aq
   have ax:((i:Int)>=0)=True:=aq
   have b2:((i:Int)<(κ l:Int))=True:=ab
   clear h1;by_cases h0:sn=[]
   ·have HE:=an (A' bb H1 h0);rw[show decide (sn=[])=true from uA]at aa;clear h0;have Hi:=an hi;go_in;go_wp2_with(refine arm ?_);refine uB ?_;intro w2 u2 U2 B2;go_wp2_with fail;refine y0 ?_;intro w3 u3 U3 B3;obtain⟨b,off,aC,_,da,dc,rg,dp⟩:=cn (hv.up U3) Hi;subst aC;obtain⟨RG,SC,IX⟩:=aW rg (kI _ _ _ dp (by rw[b' Hi.out];exact HR _ (cJ Hi))) (ke (recAt l i) (.slice da (κ (recAt l i).dead) dc));obtain⟨x,hx⟩:=bK (recAt l i);rw[<-hx]at RG SC IX;have HX:=an hx;clear hx;go_wp2_with(refine arm ?_);refine SC.mono ?_;rintro e w9⟨v',rfl,ho,u9⟩;obtain⟨HO,aL,U9,B9,ao⟩:=eI (ho.mono (base':=w.heap.size) U3.size) ho (U3.trans u9) (B3.up u9) B3.lt;obtain⟨na,nc,rfl⟩:=(ak.row ho pw).slice;go_wp2_with(first|refine arm ?_|refine pj ?_);intro wz hbz ag;obtain⟨BZ,UZ,OK⟩:=aW hbz (U9.grown ag (λk hk=>sG)) (ak.kept HO ag (.inr (λe=>by have:=(aL.aN _ e).1;have:=ao.out;omega)));go_wp2;exact bS (.tuple #[.agg (cf x (.slice na (κ x.dead) nc)),i6 0]) BZ (.inr ⟨i,_,HE,Hi,by rw[HX.out],by rw[<-HX.out];exact OK,UZ⟩)
   ·obtain⟨HF2,HF3⟩:=aw (@UP l full vn sn i bb H1 h0) (λj=>@Ba l full vn sn i j bb H1 h0);have ae:((strOf sn).toList != [])=true:=by unfold bne;rw[fO];simp[h0]
    have Hi:=an hi;rw[show decide (sn=[])=false from uA]at aa;have ad:=an (λW (u:Up w W)=>PL W u ⟨(recAt l i).id,sn⟩);clear h0;obtain⟨b,off,rfl,_,da,dc,rg,dp⟩:=cn hv hi;have C0:=an (cd rg).1;have BI:=zF (recAt l i).id sn;obtain⟨L9,ar⟩:=bK ((recAt l i).id);rw[<-ar]at ad C0 BI HF2 HF3;clear ar;cases h2:eb l ⟨L9,sn⟩ with
    | none=>have HE:=an (HF2 h2);rw[h2]at ad;unfold fF at ad;clear h2 HF2 HF3;go_in;go_wp2_with(refine arm ?_);refine uB ?_;intro w2 u2 U2 B2;go_wp2_with fail;refine y0 ?_;intro w3 u3 U3 B3;have c0:=U3.cell C0;go_wp2_with fail;refine(ad _ U3).mono ?_;rintro e w4⟨rfl,u4⟩;obtain⟨U4,B4⟩:=aw (U3.trans u4) (B3.up u4);clear c0;go_wp2_with(first|refine arm ?_|refine pj ?_);intro wz hbz ag;have UZ:=an (U4.grown ag (λk hk=>sG));exact NB
    | some j=>have HE:=an (HF3 j h2);rw[h2]at ad;unfold fF at ad;obtain⟨hj,_⟩:=eP h2;have Hj:=an hj;refine FV ?_;intro b4 b5;clear h2 HF2 HF3;go_in;go_wp2_with(refine arm ?_);refine uB ?_;intro w2 u2 U2 B2;go_wp2_with fail;refine y0 ?_;intro w3 u3 U3 B3;have c0:=U3.cell C0;go_wp2_with fail;refine(ad _ U3).mono ?_;rintro e w4⟨rfl,u4⟩;obtain⟨U4,B4⟩:=aw (U3.trans u4) (B3.up u4);clear c0;obtain⟨b,off,aC,_,da,dc,rg,dp⟩:=cn (hv.up U4) Hj;simp only[Aai,Abd,and_true]at aC;obtain⟨rfl,rfl⟩:=aC;obtain⟨SC,IX⟩:=aw (kI _ _ _ dp (by rw[b' Hj.out];exact HR _ (cJ Hj))) (ke (recAt l j) (.slice da (κ (recAt l j).dead) dc));obtain⟨x,hx⟩:=bK (recAt l j);rw[<-hx]at rg SC IX;have HX:=an hx;clear hx;go_wp2_with(refine arm ?_);refine SC.mono ?_;rintro e w9⟨v',rfl,ho,u9⟩;obtain⟨HO,U9,B9,ao⟩:=bR (ho.mono (base':=w.heap.size) U4.size) (U4.trans u9) (B4.up u9) B4.lt;obtain⟨na,nc,rfl⟩:=(ak.row ho pw).slice;go_wp2_with(first|refine arm ?_|refine pj ?_);intro wz hbz ag;obtain⟨UZ,OK⟩:=aw (U9.grown ag (λk hk=>sG)) (ak.kept HO ag (.inr (λe=>by have:=(ho.aN _ e).1;have:=ao.out;omega)));go_wp2;exact bS (.tuple #[.agg (cf x (.slice na (κ x.dead) nc)),i6 0]) hbz (.inr ⟨j,_,HE,Hj,by rw[HX.out],by rw[<-HX.out];exact OK,UZ⟩)
theorem KX(w:af)(x:al)(vd:ah)(g:Nat)(id:Nat)(hc:w.cell? (ad g 0)=some (u6 (id:Int))):Aae Aag 210 #[.agg (cf x vd),pz g] w λe w'=>e=.returned (.bool (decide (x.id=id)))/\Up w w':=by
 have U1:=an (ai w (.cells (cf x vd) 90));have c0:(w.alloc (.cells (cf x vd) 90)).cell? (ad w.heap.size 0)=some (u6 (x.id:Int)):=(aH.new w 90 (cf x vd)).setAt.c0;have c1:=U1.cell hc;have HE:(((x.id:Nat):Int)==(id:Int))=decide (x.id=id):=aQ
 have HI:=an HE;clear hc HE;generalize decide (x.id=id)=bb at *;obtain⟨n,hn⟩:=bK (x.id);rw[<-hn]at c0 HI;clear hn;go_in;go_wp2_with(refine arm ?_);go_ret;exact⟨by rw[<-HI.out];rfl,U1⟩
theorem HQ(w:af)(v:ah)(l:List al)(hv:cB w v l)(g id:Nat)(hc:w.cell? (ad g 0)=some (u6 (id:Int))):Aae Aag 209 #[v,.func (.func 210) #[] #[pz g]] w λe w'=>e=.returned (i6 (fF (gV (λx=>decide (x.id=id)) l)))/\Up w w':=by
 have hlen:=hv.length_le;obtain⟨a,cap,rfl⟩:=hv.slice;obtain⟨HV,CL⟩:=aw hv (λW (u:Up w W) x vd=>KX W x vd g id (u.cell hc));go_in;go_wp2;go_loopw [8] (λi wr=>∃k:Nat,k<=κ l/\i=i6 k/\(∀j(hj:j<κ l),j<k->(λx:al=>decide (x.id=id)) l[j]=false)/\Up w wr) (λi _=>κ l-(Aat i).toNat)
 case atStart=>exact⟨0,bE _,rfl,λj _ h=>ae,Up.refl _⟩
 case round=>
  obtain⟨k,hk,rfl,ao,ur⟩:=hrel;obtain⟨HN,UR⟩:=aw ao ur;clear ao;by_cases hlt:k<κ l
  ·refine iP ?_;intro b2;obtain⟨b,off,rfl,_,hc⟩:=vg (HV.up UR) ae;obtain⟨da,dn,dc,rg,dp⟩:=hc k hlt;obtain⟨RG,HK⟩:=aw rg (λh=>pK (p:=λx=>decide (x.id=id)) hlt h HN);have HS:=an (show(λx:al=>decide (x.id=id)) l[k]=false->∀j(hj:j<κ l),j<k+1->(λx:al=>decide (x.id=id)) l[j]=false from λh j hj aL=>by
    rcases ma j k with h'|h'
    ·exact HN j hj h'
    ·obtain rfl:j=k:=by omega
     exact h)
   have CK:=an (CL wr UR l[k] (.slice da dn dc));clear hc;generalize l[k]=x at *;go_wp2_with(refine arm ?_);refine CK.mono ?_;rintro e w3⟨rfl,u3⟩;have U3:=an (UR.trans u3);clear CL;by_cases he:(decide (x.id=id))=true
   ·have HP:=an (HK he);try simp only at he
    have b3:=he;clear he HS HK;go_wp2;go_ret;exact⟨sJ,U3⟩
   ·rw[wb]at he;have HF:=an (HS he);have b3:=he;clear he HS HK;go_wp2;go_roundw
    case rel=>exact⟨k+1,ae,aq,HF,U3⟩
    case measure=>simp only[Aat];omega
  ·obtain rfl:k=κ l:=by omega
   have b2:((κ l:Int)<(κ l:Int))=False:=aq
   have HP:=an (show gV (λx=>decide (x.id=id)) l=none from pJ (λj hj=>HN j hj hj));go_wp2;go_ret;exact⟨sJ,UR⟩
theorem s6(w:af)(v:ah)(l:List al)(hv:cB w v l)(id:Nat):Aae Aag 147 #[v,u6 (id:Int)] w λe w'=>e=.returned (i6 (fF (aV l id)))/\Up w w':=by have U1:=an (ai w (.cells #[u6 (id:Int)] 70));have IX:=an (HQ (w.alloc (.cells #[u6 (id:Int)] 70)) v l (hv.up U1) w.heap.size id (dg w _ _ _ 0 _ rfl));obtain⟨a,cap,rfl⟩:=hv.slice;go_in;go_wp2_with fail;refine IX.mono ?_;rintro e w2⟨rfl,u2⟩;go_wp2;go_ret;exact⟨rfl,U1.trans u2⟩
def OB:gM:=⟨tn,none,0,0⟩
theorem PU(n:Nat):(Acv b6 (n*11)).toList=(Aac n OB).flatMap c9:=by
 apply wj;intro i;by_cases hi:i<n*11
 ·have hd:i=(i/11)*11+i%11:=by omega
  have h3:=mw.at (Aac n OB) (i/11) ab (i%11) ae;rw[<-hd]at h3;rw[h3,List.getElem_replicate];show _=b6.toList[i%11]?;have hz:b6.size=11:=rfl;rw[oB,oB];unfold Acv;grind
 ·rw[sC (by rw[EZ,vX];omega),sC (by rw[mw.flat,wh];omega)]
theorem bq.aaD(w:af)(n:Nat)(hn:n<=maxLen):bq (w.alloc (.cells (Acv b6 (n*11)) 90)) w.heap.size (cv w.heap.size n n) (Aac n tn):=by
 refine⟨Aac n OB,by simp[OB],⟨by rw[mw.flat],.inr ⟨w.heap.size,n,_,aq,aG _,(aH.new w 90 (Acv b6 (n*11))),aq,hn,vX _ _,?_⟩⟩,λy hy=>?_⟩
 ·rw[wh,<-PU];exact dh (by rw[EZ,vX];exact aG _)
 ·obtain⟨_,rfl⟩:=List.mem_replicate.1 hy;exact ak.nil _ _ _ _ _
theorem QM(x:al)(v u:ah)(y:al):(cf x v).toList=hs (cf y u).toList 0 (cf x v).toList:=ay
theorem eY(next:Nat)(v:ah):(prog.info? 73).map (·.size)=some (aS next v).size:=av
theorem js:∀W:af,(Ab9 73).run Aag W=.ok (.agg (aS 0 (nl))) W:=by simp[aS]
theorem jf(next:Nat)(a:Option Addr)(n c:Nat):(aS next (.slice a n c)).all (·.oneCell')=true:=by simp[aS,Ac8]
theorem zE(next:Nat)(a:Option Addr)(n c:Nat):prog.built 73 [(0,u6 (next:Int)),(1,.slice a n c)]=some (aS next (.slice a n c)):=av
def RH(next:Nat)(l:List al)(w:af)(e:Ab1)(w':af):Prop:=∃v',e=.returned (.agg (aS next v'))/\bq w' w.heap.size v' l/\Up w w'
theorem CF(hk:k<κ l):(l.take k++Aac (κ l-k) tn).set k l[k]=l.take (k+1)++Aac (κ l-(k+1)) tn:=by rw[yF _ _ ab,ev,show k-min k (κ l)=0 from ae];rw[show κ l-k=(κ l-(k+1))+1 from ae,List.replicate_succ,List.set_cons_zero];rw[en hk,Aa8];rfl
theorem It(w:af)(next:Nat)(v:ah)(l:List al)(hv:cB w v l)(hl:κ l<=1000)(hr:∀x∈l,κ x.dead*24<=140737488355328):Aae Aag 94 #[.agg (aS next v)] w λe w'=>RH next l w e w':=by
 obtain⟨la,lc,rfl⟩:=hv.slice;refine TG ?_;clear hv hr;intro HV HR U1 U2 c0 c1 B2 UU C1 C0 SZ MK;go_in;go_wp2_with(first
  | refine gS 73 0 (aS next (.slice la (κ l) lc)) ?_
  | refine bD 73 js ?_)
 refine Ud ?_;clear c0 c1 C0 C1 B2 UU U1 U2 SZ MK;intro K0 K1 KB KU OS0;go_loopw [12] (λi wr=>∃k:Nat,k<=κ l/\i=.int .i64 k/\bq wr w.heap.size (.slice (some ⟨w.heap.size+2,0,none⟩) (κ l) (κ l)) (l.take k++Aac (κ l-k) tn)/\Up w wr/\wr.cell? ⟨w.heap.size,0,none⟩=some (.int .u64 (next:Int))/\wr.cell? ⟨w.heap.size,1,none⟩=some (.slice la (κ l) lc)/\aH wr (w.heap.size+1) 73 (aS 0 (.slice none 0 0))) (λi _=>κ l-(Aat i).toNat)
 case atStart=>exact⟨0,bE _,rfl,Tn,KU,K0,K1,KB⟩
 case round=>
  obtain⟨k,hk,rfl,os,ur,k0,k1,kb⟩:=hrel;obtain⟨OS,UR,C0,C1,BR⟩:=eI os ur k0 k1 kb;clear os ur kb OS0 KU K0 K1 KB;by_cases hlt:k<κ l
  ·refine oL ?_;intro b3;clear k0;obtain⟨b,off,rfl,aB,da,dc,rg,dp⟩:=cn (HV.up UR) hlt;refine Mr ?_;intro RG GE SC TS ML;generalize l.take k++Aac (κ l-k) tn=M at *;rw[<-GE.out]at TS;generalize recAt l k=x at *;clear rg dp;go_wp2_with(first
    | refine cK 90 20 (cf x (.slice da (κ x.dead) dc)) RG ?_)
   refine SC.mono ?_;rintro e w4⟨v',rfl,ho,u4⟩;have aa:=OS.up u4;obtain⟨cur,va,vc,aj,hn,hfit,_,_,_,aQ⟩:=aa.part k (by rw[ML.out];exact hlt);obtain⟨HP,ad,HF,HO⟩:=bR aQ aj hfit (ho.mono (base':=w.heap.size) UR.size);obtain⟨na,nc,rfl⟩:=(ak.row ho pw).slice;refine Uz ?_;intro IN ON U4 D0 D1 E4;clear aQ aj hn aa ho u4 SC OS C0 C1 BR k1;go_wp2_with(first
    | ((with_reducible refine cu 90 (.tmp 23) (.tmp 22) ?_);refine cj rfl 90 (.tmp 23) (.tmp 22) rfl (w.heap.size+2) (k*11) (cf x (.slice na (κ x.dead) nc)) rfl rfl 90 _ ad IN HF ON ?_))
   refine TU ?_;clear HP ad HF HO D0 D1 E4;intro w5 O5 U5 Z0 Z1 Z2;go_wp2_with fail;go_roundw
   case rel=>exact⟨k+1,ae,aq,O5,U5,Z0,Z1,Z2⟩
   case measure=>simp only[Aat];omega
  ·exact YE
theorem qz(w:af)(next:Nat)(v:ah)(l:List al)(hv:cB w v l)(hl:κ l<=1000)(hr:∀x∈l,κ x.dead*24<=140737488355328):Aae Aag 82 #[.agg (aS next v)] w λe w'=>RH next l w e w':=by
 obtain⟨la,lc,rfl⟩:=hv.slice;refine TG ?_;clear hv hr;intro HV HR U1 U2 c0 c1 B2 UU C1 C0 SZ MK;go_in;go_wp2_with(first
  | refine gS 73 0 (aS next (.slice la (κ l) lc)) ?_
  | refine bD 73 js ?_)
 refine Ud ?_;clear c0 c1 C0 C1 B2 UU U1 U2 SZ MK;intro K0 K1 KB KU OS0;go_loopw [12] (λi wr=>∃k:Nat,k<=κ l/\i=.int .i64 k/\bq wr w.heap.size (.slice (some ⟨w.heap.size+2,0,none⟩) (κ l) (κ l)) (l.take k++Aac (κ l-k) tn)/\Up w wr/\wr.cell? ⟨w.heap.size,0,none⟩=some (.int .u64 (next:Int))/\wr.cell? ⟨w.heap.size,1,none⟩=some (.slice la (κ l) lc)/\aH wr (w.heap.size+1) 73 (aS 0 (.slice none 0 0))) (λi _=>κ l-(Aat i).toNat)
 case atStart=>exact⟨0,bE _,rfl,Tn,KU,K0,K1,KB⟩
 case round=>
  obtain⟨k,hk,rfl,os,ur,k0,k1,kb⟩:=hrel;obtain⟨OS,UR,C0,C1,BR⟩:=eI os ur k0 k1 kb;clear os ur kb OS0 KU K0 K1 KB;by_cases hlt:k<κ l
  ·refine oL ?_;intro b3;clear k0;obtain⟨b,off,rfl,aB,da,dc,rg,dp⟩:=cn (HV.up UR) hlt;refine Mr ?_;intro RG GE SC TS ML;generalize l.take k++Aac (κ l-k) tn=M at *;rw[<-GE.out]at TS;generalize recAt l k=x at *;clear rg dp;go_wp2_with(first
    | refine cK 90 20 (cf x (.slice da (κ x.dead) dc)) RG ?_)
   refine SC.mono ?_;rintro e w4⟨v',rfl,ho,u4⟩;have aa:=OS.up u4;obtain⟨cur,va,vc,aj,hn,hfit,_,_,_,aQ⟩:=aa.part k (by rw[ML.out];exact hlt);obtain⟨HP,ad,HF,HO⟩:=bR aQ aj hfit (ho.mono (base':=w.heap.size) UR.size);obtain⟨na,nc,rfl⟩:=(ak.row ho pw).slice;refine Uz ?_;intro IN ON U4 D0 D1 E4;clear aQ aj hn aa ho u4 SC OS C0 C1 BR k1;go_wp2_with(first
    | ((with_reducible refine cu 90 (.tmp 23) (.tmp 22) ?_);refine cj rfl 90 (.tmp 23) (.tmp 22) rfl (w.heap.size+2) (k*11) (cf x (.slice na (κ x.dead) nc)) rfl rfl 90 _ ad IN HF ON ?_))
   refine TU ?_;clear HP ad HF HO D0 D1 E4;intro w5 O5 U5 Z0 Z1 Z2;go_wp2_with fail;go_roundw
   case rel=>exact⟨k+1,ae,aq,O5,U5,Z0,Z1,Z2⟩
   case measure=>simp only[Aat];omega
  ·exact YE
theorem abL:zc Aag 90=b6:=av
theorem abJ:zc Aag 73=aS 0 nl:=av
def X0(n:Nat)(v v':ah):(Aby (aS n v).toList 1 (#[v']:Array ah).toList).toArray=aS n v':=rfl
def X2(n:Nat)(v:ah):(Aby (aS n v).toList 0 (#[.int .u64 ((n:Int)+1)]:Array ah).toList).toArray=aS (n+1) v:=rfl
section
variable (x:al) (vd:ah) (n:Nat) (b:List aj) (k:Bool)
def aaQ:(Aby (cf x vd).toList 0 (#[u6 (n:Int)]:Array ah).toList).toArray=cf {x with id:=n} vd:=rfl
def aaR:(Aby (cf x vd).toList 1 (#[.string (strOf b)]:Array ah).toList).toArray=cf {x with name:=b} vd:=rfl
def aaT:(Aby (cf x vd).toList 2 (#[.bool k]:Array ah).toList).toArray=cf {x with aU:=k} vd:=rfl
def aaS:(Aby (cf x vd).toList 3 (#[u6 (n:Int)]:Array ah).toList).toArray=cf {x with owner:=n} vd:=rfl
def aaU:(Aby (cf x vd).toList 5 (#[u6 (n:Int)]:Array ah).toList).toArray=cf {x with ar:=n} vd:=rfl
end
theorem Fr.aaq{F0:Nat->Prop}{x0 w w':af}{L L':List As}{vd v':ah}{l:List au}{ys:List gM}(s:Fr F0 x0 L w)(p:(os b v' ys).P w')(f:∀n,(os b v' ys).F n->w.heap.size<=n/\n<w'.heap.size\/vd.ownBlock=some n)(u:Up w w')(hU:mQ L (op b vd l) (os b v' ys) L':=by exact vH):Fr F0 x0 L' w':=s.zK hU (Touch.bW u) p λn h=>by
  rcases f n h with h|h
  ·exact⟨h.2,.inr h.1⟩
  ·exact⟨eg ((s.p _ hU.mem).aN n h).2 u.size,.inl h⟩
theorem La{next:Nat}{b:List aj}(h:lC next l=some b):next<=281474976710655/\(κ l)<=32/\(∀x∈l,cD x=true)/\b=ey (ej next l):=by grind [lC]
theorem Ic{next:Nat}(h:next<=281474976710655):bn (fM next)=next:=by
 unfold fM;show bn (aZ next 8++[])=next
 grind [ha]
theorem OU(x:al)(da:Option Addr)(dn dc:Nat):prog.built 90 [(0,u6 (x.id:Int)),(1,.string (strOf x.name)),(2,.bool x.aU),(3,u6 (x.owner:Int)),(4,u6 (x.prev:Int)),(5,u6 (x.ar:Int)),(6,i6 x.blocks),(7,.agg (be x.root)),(8,.slice da dn dc)]=some (cf x (.slice da dn dc)):=av
theorem Jn(x:al)(h:0<=x.blocks)(da:Option Addr)(dn dc:Nat):prog.built 90 [(0,u6 (x.id:Int)),(1,.string (strOf x.name)),(2,.bool ((h' x.aU:Int)==1)),(3,u6 (x.owner:Int)),(4,u6 (x.prev:Int)),(5,u6 (x.ar:Int)),(6,i6 (x.blocks.toNat:Int)),(7,.agg (be x.root)),(8,.slice da dn dc)]=some (cf x (.slice da dn dc)):=by
 have e1:((h' x.aU:Int)==1)=x.aU:=by cases x.aU<;>decide
 have e2:((x.blocks.toNat:Nat):Int)=x.blocks:=ae
 rw[e1,e2];exact OU x da dn dc
theorem aaa{ops:Array Oper}{S:af->Prop}{o:Oper}{a:Act}{t u:TypeId}{v r:ah}(hr:∀W,S W->(convert t u v).run P W=.ok r W)(ho:o.op=.convert t u (.tmp n):=by rfl)(hx:a.eval (.tmp n)=v:=by rfl)(hw:Region.wanted o (yielded ops a.tmps)=true:=by rfl):YieldsIf P ops S o r a:=.inl ⟨hw,λw h=>by
  unfold Abs;simp only[ho,hx,Aaw,hr w h,Aau,Acq]⟩
theorem Qo(w:af)(v:ah)(x:al)(hr:cD x=true)(hw:x.wf)(hv:a8 w v (e1 x)):Aae Aag 179 #[v] w λe w'=>∃da dc,e=.returned (.tuple #[.agg (cf x (.slice da (κ x.dead) dc)),.int .i64 0])/\bf w' w.heap.size (.slice da (κ x.dead) dc) x.dead/\Up w w':=by
 obtain⟨w0,rfl⟩:=bK w;have hs:=BU _ (Bk hr) [];rw[Ab5,bo rfl]at hs;obtain⟨hp,hl⟩:=aA (Dt hr) (h9 x);have HN:=an (show cW jq ((lO x).take 34)=DH x from qP jq (DH x) hp.1 hp.2.2);obtain⟨_,_,_,⟨h4,h5⟩,_,h6,h7,h8,_⟩:=(bH x).1 hr;obtain⟨RB,RL,HS,HL⟩:=bR (show mi ((lO x).drop 34)=some x.root from nu x.root hw.2.2.2.2.2.1 h6) (Iv x.dead hw.2.2.2.2.2.2 h7 h8) hs hl;clear hs hp hw hr h6 h7 h8;obtain⟨va,vc,rfl⟩:=hv.slice;have s:=Fr.start w0;go_in;go_wp2_with(refine fw s ?_;intro _ w s);refine(Aj _ _ (e1 x) (hv.up s.pure) _ HS).mono ?_;rintro e w2⟨v2,rfl,⟨vs,aP,hvo,aJ⟩,u2⟩;change Fr _ _ [bk ?q 90 _] _ at s;obtain⟨q1,s⟩:=aA ((s.f (bk ?q 90 _) gR _ rfl).1) (s.up u2);obtain⟨z2,q0,U2⟩:=db (s.e5 (t:=90) gR) ((s.f (bk ?q 90 _) gR _ rfl).2.resolve_left id) s.pure;obtain⟨x1,x2,x3,rfl⟩:∃a b c,vs=[a,b,c]:=by
  match vs,aP with
  | [a,b,c],_=>exact⟨a,b,c,rfl⟩
 obtain⟨xa,xn,xc⟩:=x1;obtain⟨na,nn,nc⟩:=x2;obtain⟨za,zn,zc⟩:=x3;have hx:a8 w2 (.slice xa xn xc) (lO x):=(aJ 0 aq aq).cC;have hy:a8 w2 (.slice na nn nc) x.name:=(aJ 1 aq aq).cC;have hz:a8 w2 (.slice za zn zc) (cT x.dead):=(aJ 2 aq aq).cC;have oy:∀b,(Acl na nn nc).ownBlock=some b->b≠?q:=λb hb=>by have:=((aJ 1 aq aq).aN b hb).1;omega
 obtain rfl:xn=50:=by obtain⟨_,_,h⟩:=hx.slice;simp[hl]at h;exact h.2.1
 obtain⟨g,cap,rfl,hg,_,hc,_,_⟩:=Own.row hvo aq;have c0:w2.cell? ⟨g,0,none⟩=some (.slice xa 50 xc):=hc 0 aq;have c1:w2.cell? ⟨g,1,none⟩=some (.slice na nn nc):=hc 1 aq;have c2:w2.cell? ⟨g,2,none⟩=some (.slice za zn zc):=hc 2 aq;have aE:50<=xc:=by
  rcases hx with⟨h,_,_,aa,_,_⟩|⟨_,_,_,aa,_,h1,_⟩
  ·rw[h]at hl;cases hl
  ·simp at aa;omega
 obtain⟨v1,aC⟩:=bK (b8 xa 0 34 xc);obtain⟨v3,aF⟩:=bK (b8 xa 34 50 xc);have PT:∀W,(Aav 30 (.slice xa 50 xc) none (some (i6 34)) none).run Aag W=.ok v1 W:=λW=>by rw[aC];exact hj (P:=Aag) 30 dr du xa 50 xc 34 ae W
 have PF:∀W,(Aav 30 (.slice xa 50 xc) (some (i6 34)) none none).run Aag W=.ok v3 W:=λW=>by rw[aF];exact di (P:=Aag) 30 dr du xa 50 xc 34 ae W
 have V1:=aD.piece hx (lo:=0) (hi:=34) ae ae;rw[<-aC,Aax]at V1;have V3:=aD.piece hx (lo:=34) (hi:=50) ae ae;rw[<-aF,dh ae]at V3;obtain⟨HY,HZ,ab,ag⟩:=bR hy hz V1 V3;have gq:¬(bk ?q 90 b6).F g:=by show g≠_;omega
 have s:=Fr.start w2;clear hx hy hz V1 V3 aC aF hl hv aP hvo aJ hc HS u2;go_wp2_with(first|(refine fw s ?_;intro _ w s)|((with_reducible refine dJ 41 6 _ ?_);refine Y' #[i6 8,i6 1,i6 8,i6 8,i6 8,i6 1] 3 (λg=>cv g 6 6) s ?_;intro _ w s));refine(tR _ _ jq (zD (s.e5 (t:=3) gR) jq 6 rfl dE ay) (by simp[jq]) v1 _ (ab.up s.pure) ⟨ax,by rw[ev,HL.out];rfl⟩).mono ?_;rintro e w4⟨v7,rfl,O7,u4⟩;rw[HN.out]at O7;obtain⟨h7,s⟩:=aA s.pure.size (s.up u4);have U4:=s.pure;obtain⟨g7,aQ,rfl,aB,_,aI,_,_⟩:=Own.row O7 sM;have n0:w4.cell? (ad g7 0)=some (u6 (x.id:Int)):=aI 0 sM;have n1:w4.cell? (ad g7 1)=some (u6 (h' x.aU:Int)):=aI 1 sM;have n2:w4.cell? (ad g7 2)=some (u6 (x.owner:Int)):=aI 2 sM;have n3:w4.cell? (ad g7 3)=some (u6 (x.prev:Int)):=aI 3 sM;have n4:w4.cell? (ad g7 4)=some (u6 (x.ar:Int)):=aI 4 sM;obtain⟨nb,aS⟩:=bK (x.blocks.toNat);have aO:=an aS;have n5:w4.cell? (ad g7 5)=some (u6 (nb:Int)):=by rw[aS];exact aI 5 sM
 obtain⟨s,j0,j1,j2⟩:=iJ (Fr.start w4) (U4.cell c0) (U4.cell c1) (U4.cell c2);have aw:?q<g7:=by have:=z2.lt;omega
 clear aI O7 HN ab PT u4 c0 c1 c2 aS;go_wp2_with(refine fw s ?_;intro _ w s);refine(qk _ v3 _ (ag.up (U4.trans s.pure)) (by rw[hP,HL.out])).mono ?_;rintro e w5(⟨root,au,rfl,u5⟩|⟨ao,_⟩);rotate_left
 ·rw[RB.out]at ao;cases ao
 rw[RB.out]at au;obtain rfl:=dB au;have s:=s.up u5;rw[show fA x.root=.agg (be x.root)from rfl];clear u5 au PF;go_wp2_with(refine fw s ?_;intro _ w s);obtain⟨h0,q2⟩:=aA ((U2.trans (U4.trans s.pure)).size) (eg z2.lt (U4.trans s.pure).size);refine(J' _ (.slice za zn zc) _ (HZ.up (U4.trans s.pure)) _ RL).mono ?_;rintro e w6⟨u,rfl,og,u6⟩;obtain⟨da,dc,rfl⟩:=(ak.row og pw).slice;have s:=s.up u6;change Fr _ _ (bk ?g8 87 _::_) _ at s;obtain⟨B8,U6⟩:=aA (s.e5 (t:=87) gR) s.pure;have z6:=z2.up (U4.trans U6);have ai:=an (HY.up (U4.trans U6));obtain⟨R8,k0,k1,k2,k3,k4⟩:=qA B8.range (U6.cell n0) (U6.cell n1) (U6.cell n2) (U6.cell n3) (U6.cell n4);obtain⟨k5,l1⟩:=aA (U6.cell n5) (U6.cell j1);have n8:¬(bk ?q 90 b6).F _:=fj B8 z6 ax;have n7:¬(bk ?q 90 b6).F g7:=by show g7≠_;omega
 have OG:=an og;have HB:=Jn x ae da (κ x.dead) dc;rw[<-aO.out]at HB;obtain⟨wb,aj⟩:=aA (aY nb (by have:=aO.out;omega)) (U2.trans (U4.trans U6));have s:=Fr.from (A:=bk ?q 90 b6) z6 (λn h=>by rw[show n=_ from h];exact z6.lt);clear n0 n1 n2 n3 n4 n5 j1 j2 B8 og RB RL HZ ag U4 U6 U2 u6;go_wp2_with fail;refine ka [] s (λ_ h=>fI) (λw s=>?_) av;repeat refine kt ?_
 refine kt ?_ (hy:=aaa (λW h=>toStr W _ _ (aD.az ai h.1 oy)));iterate 16 refine kt ?_
 refine kt (v:=i6 (nb:Int)) ?_ (hy:=ya);iterate 3 refine kt ?_
 refine ks (λw s=>?_);repeat refine kt ?_
 refine kd (λw _ s=>?_);clear HB wb;go_wp2_with fail;refine bB ?_;exact⟨da,dc,rfl,(ak.az OG s.t (λb hb e=>by have:=(ak.aN OG b hb).1;have e:b=_:=e;omega)).mono ae,s.t.up aj (λn h=>by rw[show n=_ from h];exact q0)⟩
theorem Fr.sl{F0:Nat->Prop}{x0 w:af}{L L':List As}(s:Fr F0 x0 L w)(h:L'.Sublist L:=by exact Wj):Fr F0 x0 L' w:=⟨s.t,λA m=>s.p A (h.subset m),λA m=>s.f A (h.subset m),s.d.sublist h⟩
theorem Fr.ndq{F0:Nat->Prop}{x0 w:af}{L L1 L':List As}{ys:List gM}{da:Option Addr}{dc:Nat}(s:Fr F0 x0 L w)(hr:xT L (op b (.slice da (κ x.dead) dc) x.dead) L1:=by exact RE)(hU:mQ L1 (UR b ys) (UR b (ys++[⟨x,da,κ x.dead,dc⟩])) L':=by exact vH):Fr F0 x0 L' w:=by
 have q:=s.p _ hr.mem;obtain⟨p1,p2⟩:=hr.pair (R:=λA B=>∀n,A.F n->¬B.F n) (λh n a b=>h n b a) s.d;have hA:=hr.sub _ hU.mem;have hF:∀n,(UR b (ys++[⟨x,da,κ x.dead,dc⟩])).F n->(UR b ys).F n\/(Acl da (κ x.dead) dc).ownBlock=some n:=λn ⟨y,hy,h⟩=>by
  rcases eT.1 hy with hy|hy
  ·exact .inl ⟨y,hy,h⟩
  ·rw[kl.1 hy]at h;exact .inr h
 have hP:(UR b (ys++[⟨x,da,κ x.dead,dc⟩])).P w:=λy hy=>by
  rcases eT.1 hy with hy|hy
  ·exact s.p _ hA y hy
  ·rw[kl.1 hy];exact q
 obtain⟨d1,_⟩:=hU.pair (R:=λA B=>∀n,A.F n->¬B.F n) (λh n a b=>h n b a) p1 (λD hD k n hn hd=>(hF n hn).elim (λh=>k n h hd) (λh=>p2 D hD n h hd));refine⟨s.t,λD hD=>?_,λD hD n hn=>?_,d1⟩
 ·rcases hU.sub D hD with rfl|hD
  ·exact hP
  ·exact s.p D (hr.sub D hD)
 ·rcases hU.sub D hD with rfl|hD
  ·exact(hF n hn).elim (s.f _ hA n) (s.f _ hr.mem n)
  ·exact s.f D (hr.sub D hD) n hn
theorem Qz(w:af)(v:ah)(b:List aj)(hv:a8 w v b)(next:Nat)(l:List al)(hs:lC next l=some b)(aT:∀x∈l,x.wf):Aae Aag 115 #[v] w λe w'=>∃v,e=.returned (.tuple #[.int .u64 (next:Int),v,.int .i64 0])/\bq w' w.heap.size v l/\Up w w':=by
 obtain⟨hn,a1,hr,hb⟩:=La hs;have SJ:=BU _ (xr (next:=next) a1 hr) [];rw[Ab5,bo rfl,<-hb]at SJ;obtain⟨bb,HS,HW,HR,HV⟩:=eI SJ hs aT hr hv;clear hb SJ hs aT hr;obtain⟨va,vc,rfl⟩:=hv.slice;obtain⟨w0,rfl⟩:=bK w;go_in;go_wp2_with fail;refine(Aj _ _ b HV _ bb).mono ?_;rintro e w2⟨v2,rfl,⟨vs,aP,hvo,aJ⟩,U2⟩;obtain⟨x,xs,rfl⟩:∃x xs,vs=x::xs:=by
  cases vs with
  | nil=>cases aP
  | cons x xs=>exact⟨x,xs,rfl⟩
 have hxl:κ xs=κ l:=by simpa[ej]using aP
 obtain⟨m,hm⟩:=bK (κ l);have hlen:κ (x::xs)=m+1:=by rw[Aal,hxl,hm]
 have hx:=(aJ 0 aq (by simp[ej])).cC;have bd:=an (show ∀k(h1:k<κ xs)(h2:k<κ l),a8 w2 (fZ xs[k]) (e1 l[k])from λk h1 h2=>by have:=(aJ (k+1) ab (by simp[ej];omega)).cC;simpa[ej]using this)
 obtain⟨g,cap,a6,aX,aW,aa,_,_⟩:=Own.row hvo aq;rw[hlen]at a6;obtain rfl:=a6;have c0:w2.cell? (ad g 0)=some (fZ x):=aa 0 aq;have ba:=an (show ∀k(h1:k<κ xs),w2.cell? (ad g (1+k))=some (fZ xs[k])from λk h1=>by have:=aa (k+1) ab;rw[Nat.add_comm 1 k];simpa using this)
 have ar:m+1<=cap:=by
  rcases hvo.2 with⟨h,_⟩|⟨g',av,aB,h,_,_,hn,_⟩
  ·cases h
  ·simp only[Abp]at h;simp at hn;omega
 obtain⟨xa,xn,xc⟩:=x;obtain rfl:xn=8:=by obtain⟨_,_,h⟩:=hx.slice;simp[fZ,ej,gz]at h;exact h.2.1
 have HX:=an (show a8 w2 (.slice xa 8 xc) (fM next)from hx);replace c0:w2.cell? (ad g 0)=some (.slice xa 8 xc):=c0;have PF:∀W:af,(Aav 40 (cv g (m+1) cap) (some (i6 1)) none none).run Aag W=.ok (partOf 1 (some ⟨g,0,none⟩) 1 (m+1) cap) W:=λW=>fY (P:=Aag) 40 1 Lq Lr (some ⟨g,0,none⟩) (m+1) cap 1 ae W;obtain⟨pa,aF,a7⟩:∃pa,partOf 1 (some ⟨g,0,none⟩) 1 (m+1) cap=.slice pa m (cap-1)/\(0<m->pa=some ⟨g,1,none⟩):=by refine⟨_,rfl,λh=>?_⟩;rw[aM ae];rfl
 have aK:=an a7;rw[aF]at PF;have MK:∀W:af,(Ach 71 (i6 0) (i6 (m:Int))).run Aag W=.ok (cv W.heap.size 0 m) (W.alloc (.cells (Acv b6 (m*11)) 90)):=λW=>mo (P:=Aag) 71 90 (.agg b6) 11 112 underlying71 j' m ae ae W;have b3:((33:Int)<((m+1:Nat):Int))=False:=ab
 have b4:(((m+1:Nat):Int)<1)=False:=ab
 have wm:((m+1:Nat):Int)-1=(m:Int):=ae
 have bf:IntKind.i64.wrap (m:Int)=(m:Int):=aY m ae;obtain⟨HM,bc⟩:=aw hm hxl;have m32:m<=32:=ae
 obtain⟨pc,aV⟩:=bK (cap-1);rw[<-aV]at PF;obtain⟨tn,aL⟩:=bK (m+1);rw[<-aL]at PF b3 b4 wm ⊢;have s:=Fr.start w2;clear aJ aa aP hvo hlen hxl hm aF a7 aV aL ar hx;go_wp2_with(first|(refine fw s ?_;intro _ w s)|((with_reducible refine dJ 41 1 _ ?_);refine Y' #[i6 8] 3 (λg=>cv g 1 1) s ?_;intro _ w s));refine(tR _ _ [8] (zD (s.e5 (t:=3) gR) [8] 1 rfl dE ay) aq _ (fM next) (HX.up s.pure) ⟨ax,by rw[gz];rfl⟩).mono ?_;rintro e w4⟨v7,rfl,O7,u4⟩;have s:=s.up u4;have aU:=s.pure;have U4:=U2.trans aU;rw[show cW [8] (fM next)=[next] from by show [bn ((fM next).take 8)]=_;rw[dh (by rw[gz];omega),Ic hn]]at O7
 obtain⟨g7,aQ,rfl,_,_,aI,_,_⟩:=Own.row O7 aq;have n0:w4.cell? (ad g7 0)=some (u6 (next:Int)):=aI 0 aq;have s:=Fr.start w4;clear aI O7 c0 HX u4;go_wp2_with fail;replace s:=s.new (A:=XN w4.heap.size (cv w4.heap.size 0 m) []) (.one (ai _ _) (ak.room c9 11 90 w4 (.agg b6) w4.heap.size m (aG _) ae) (ak.room c9 11 90 w4 (.agg b6) w4.heap.size m (aG _) ae).aN);replace s:=s.new (A:=UR w4.heap.size []) (.one (Up.refl _) (λy h=>fI) (λn ⟨y,h,_⟩=>fI));go_loopw [8,48] (λlv i wr=>∃(k:Nat)(ys:List gM),k<=m/\i=i6 k/\ys.map (·.d)=l.take k/\Fr no w4 [UR w4.heap.size ys,XN w4.heap.size lv ys] wr) (λ_ i _=>m-(Aat i).toNat)
 case atStart=>exact⟨0,[],bE _,rfl,rfl,s⟩
 case round=>
  clear s;obtain⟨k,ys,hk,rfl,aE,s⟩:=hrel;have aS:=an aE;have au:κ ys<=1000:=by have:=cb List.length aE;rw[Aad,ev]at this;omega
  obtain⟨la,lc,rfl⟩:=(ak.row (s.p (XN _ _ _) gR) mw).slice;clear aE MK PF b3 b4 wm bf;by_cases hlt:k<m
  ·have be:((k:Int)<(m:Int))=True:=by simp;omega
   obtain rfl:=aK ae;have aR:k<κ xs:=by rw[bc.out,<-HM.out];exact hlt
   have aC:k<κ l:=by rw[<-HM.out];exact hlt
   obtain⟨ck,hb⟩:=aA (aU.cell (ba k aR)) ((bd k aR aC).up aU);have TK:=an (show l.take (k+1)=l.take k++[l[k]] from en aC);obtain⟨h1,h2⟩:=aA (HR l[k] (cJ aC)) (HW l[k] (cJ aC));generalize l[k]=x at *;generalize xs[k]=t at *;obtain⟨ta,bh,tc⟩:=t;unfold fZ at ck hb;simp only at ck hb;clear aR aC;go_wp2_with(refine fw s ?_;intro _ w s);refine(Qo _ _ x h1 h2 (hb.up s.pure)).mono ?_;rintro e w5⟨da,dc,rfl,od,u5⟩;have s:=s.new (.q od u5 s.t.size);clear hb od u5;go_wp2_with(first|(refine fw s ?_;intro _ w s)|(refine Za s ?_;intro _ w s)|(at_builtin;refine fap s ?_ (hl:=au);intro _ _ w s));go_roundw
   case rel=>exact⟨k+1,ys++[⟨x,da,κ x.dead,dc⟩],hlt,aq,by rw[Aao,aS.out,TK.out];rfl,s.ndq.sl⟩
   case measure=>simp only[Aat];omega
  ·obtain rfl:k=m:=by omega
   have be:((k:Int)<(k:Int))=False:=aq
   have az:=an (show ys.map (·.d)=l by rw[aS.out,HM.out,fx]);go_wp2_with(refine fw s ?_;intro _ w s);refine(r1 _ next ae _ l (bq.cE ⟨ys,az,s.p (XN _ _ _) gR,s.p (UR _ _) gR⟩) HW).mono ?_;rintro e w6(⟨ao,_⟩|⟨mb,bj,ag,rfl,aO,U6⟩)
   ·rw[HS.out]at ao;cases ao
   obtain rfl:mb=b:=dB (ag.symm.trans HS);have s:=s.up U6;have BQ:=an (zA w6 _ _ mb mb aO.cC (HV.up (U4.trans s.pure)));rw[gD rfl]at BQ;obtain⟨qa,qc,rfl⟩:=aO.cC.slice;clear ag aO U6;go_wp2_with fail;refine BQ.mono ?_;rintro e w8⟨rfl,rfl⟩;go_wp2_with(refine fw s ?_;intro _ w s);refine bB ?_;exact⟨_,rfl,bq.mono ⟨ys,az,s.p (XN _ _ _) gR,s.p (UR _ _) gR⟩ U4.size,U4.trans s.pure⟩
def bJ(s:Nat->Nat)(ba:Nat):List au->(Nat->Nat)
 | []=>s
 | q::l=>bJ (gO s ba q) ba l
def pG(ba:Nat)(q:au):∀(l:List au)(s:Nat->Nat),bJ s ba (l++[q])=gO (bJ s ba l) ba q
 | [],_=>rfl
 | x::l,s=>pG ba q l (gO s ba x)
theorem SB{s:Nat->Nat}{q:au}(h:gO s ba q i≠0):s i≠0:=by
 unfold gO at h;have key:∀y,sc s q.loc 2 y i≠0->s i≠0:=λy hh=>by unfold sc at hh;grind [J7,e7]
 grind
def C3{ba:Nat}{i:Nat}:∀(l:List au){s:Nat->Nat},bJ s ba l i≠0->s i≠0
 | [],_,h=>h
 | q::l,s,h=>SB (C3 l h)
def YW(P:bu)(H:aP)(b:List aj)(old:List au)(w:af)(e:Ab1)(w':af):Prop:=∃ats,κ ats=dU (κ b) (κ P.C)/\ats.Nodup/\(∀i∈ats,i<1024/\bJ P.s P.ba old i=1)/\LM {P with s:=e' (bJ P.s P.ba old) ats} H b ats w e w'
theorem U4{v:ah}{l:List Nat}(h:aD P1 w v l):aD bz w v (l.map (λk:Nat=>(k:Int))):=by
 rcases h with⟨rfl,h⟩|⟨b,off,cap,h1,h2,h3,h4,h5⟩
 ·exact .inl ⟨rfl,h⟩
 ·refine .inr ⟨b,off,cap,ab,ab,ab,h4,λi hi=>?_⟩;rw[Aad]at hi;rw[Adp];exact h5 i hi
theorem KU{P:bu}(A:PA w H P){v:ah}(h:Own P1 3 w base v xs):∀k,v.ownBlock=some k->¬PF H k:=λk hk=>by
 obtain⟨_,h2⟩:=h;rcases h2 with⟨h3,_⟩|⟨g,cap,cur,h3,_,h5,_⟩
 ·rw[h3]at hk;cases hk
 ·rw[h3]at hk;simp only[Aan,Aai]at hk;subst hk;exact A.cc (t:=3) (C:=cur) h5 ax
theorem tv{n t:Nat}:dU n t<=2049:=by grind [dU,jj,cF,dM]
theorem P2(w:af)(H:aP)(P:bu)(A:PA w H P)(next:Nat)(aC:next<18446744073709551616)(v:ah)(l:List al)(hv:cB w v l)(aT:∀x∈l,x.wf)(b:List aj)(hb:eV next l=some b)(vo:ah)(old:List au)(ho:cX w vo old)(a7:∀k,vo.ownBlock=some k->¬PF H k)(ht:64<=κ P.C/\(κ P.C)<=1024)(aE:1<=P.st/\P.st<=281474976710655)(hm:P.m<=800000)(h1:1<=κ b)(aG:∀i,i<1024->P.s i≠0->4<=i/\i<κ P.C)(hc:dU (κ b) (κ P.C)<=bp (bJ P.s P.ba old))(aF:κ old<=100000):Aae Aag 152 #[pz H.pb,.agg (aS next v),vo] w λe w'=>YW P H b old w e w':=by
 have h2:=ve hb;obtain⟨sa,sc,rfl⟩:=hv.slice;obtain⟨oa,oc,rfl⟩:=ho.slice;have U2:=an (ai (w.alloc (.cells (aS next (.slice sa (κ l) sc)) 73)) (.cells (be hole) 87));have b2:=aH.new (w.alloc (.cells (aS next (.slice sa (κ l) sc)) 73)) 87 (be hole);rw[aL]at b2;obtain⟨B2,UU⟩:=aw b2 ((ai w (.cells (aS next (.slice sa (κ l) sc)) 73)).trans U2);have RC:=an (xy _ next aC _ l (hv.up UU) aT);rw[hb]at RC;obtain⟨HA,HO,aQ,aU,HC⟩:=eI A ho a7 aG hc;clear aT hb a7 aG hc;go_in;go_wp2_with(refine arm ?_);refine RC.mono ?_;rintro e w3(⟨ao,_⟩|⟨m,vt,aD,rfl,om,u3⟩)
 ·cases ao
 obtain rfl:b=m:=dB aD;obtain⟨OM,U3⟩:=aw om (UU.trans u3);obtain⟨ta,tc,rfl⟩:=om.cC.slice;have UUS:=an UU.size;clear aD;go_wp2;go_loopw [26] (λi wr=>∃k:Nat,k<=κ old/\i=i6 k/\PA wr H {P with s:=bJ P.s P.ba (old.take k)}/\Touch (PF H) w3 wr/\aH wr (w.heap.size+1) 87 (be hole)) (λi _=>κ old-(Aat i).toNat)
 case atStart=>exact⟨0,bE _,rfl,(HA.up U3),Touch.refl _ _,(B2.up u3)⟩
 case round=>
  obtain⟨k,hk,rfl,ar,tr,br⟩:=hrel;obtain⟨AR,TR,BR⟩:=aW ar tr br;by_cases hlt:k<κ old
  ·have b3:((k:Int)<(κ old:Int))=True:=by simp;omega
   obtain⟨bb,off,rfl,hbs,_,hc⟩:=(aI.tf (aI.up HO U3) TR aQ).range pw ae;obtain⟨RC,TK,UX,BX⟩:=bR (hc k hlt) (show bJ P.s P.ba (old.take (k+1))=gO (bJ P.s P.ba (old.take k)) P.ba old[k] from by rw[(λk hk=>en hk) k hlt,pG]) (ai wr (.cells (be old[k]) 87)) (aH.new wr 87 (be old[k]));obtain⟨DR,BB⟩:=aw (Dw _ H {P with s:=bJ P.s P.ba (old.take k)} (AR.up UX) old[k]) (BR.up UX);generalize old[k]=q at *;clear hc;go_wp2_with(first
    | refine cK 87 28 (be q) RC ?_
    | refine bD 87 e8 ?_
    | refine ed 87 12 29 wr (be q) 87 (be hole) ?_
    | refine cU 87 12 BX ?_)
   refine DR.mono ?_;rintro e w5⟨⟨r,rfl⟩,a5,t5⟩;obtain⟨A5,T5,B5⟩:=aW (show PA w5 H {P with s:=bJ P.s P.ba (old.take (k+1))} from by rw[TK.out];exact a5) ((TR.iK UX).trans t5 (λn h _=>h)) (BB.az t5 ((AR.up UX).cc BB ax));go_wp2;go_roundw
   case rel=>exact⟨k+1,ae,aq,A5,T5,B5⟩
   case measure=>simp only[Aat];omega
  ·obtain rfl:k=κ old:=by omega
   have b3:((κ old:Int)<(κ old:Int))=False:=aq
   have ar:=AR.out;rw[fx]at ar;obtain⟨s1,aR⟩:=bK (bJ P.s P.ba old);rw[<-aR]at ar HC;obtain⟨a1,aY⟩:=aw aR (show ∀i,s1 i≠0->P.s i≠0 from λi h=>C3 old (by rw[<-aR];exact h));clear aR;obtain⟨P1,bc⟩:∃x:bu,x={P with s:=s1}:=⟨_,rfl⟩;have e1:P1.C=P.C/\P1.m=P.m/\P1.st=P.st/\P1.s=s1/\P1.ba=P.ba:=by rw[bc];exact⟨rfl,rfl,rfl,rfl,rfl⟩
   rw[<-bc]at ar;obtain⟨E1,cj,a6⟩:=aW e1 bc ar;have HB:=an ((Own.az OM TR (λk hk hpf=>Tk)).cC)
   have LE:=an (kO wr H.h P1.C P1.m P1.fl ar.dev);rw[e1.1]at LE;clear e1 bc;go_wp2_with fail;refine(k7 wr H P1 ar).mono ?_;refine eO ?_;intro wx;go_wp2_with fail;refine y1 ?_;intro wx;go_wp2_with fail;refine(Dl wr (.slice ta (κ b) tc) b HB ae (κ P.C) ae).mono ?_;rintro e w6⟨rfl,u6⟩;obtain⟨A6,B6,PM⟩:=aW (a6.up u6) (BR.up u6) (λW (AW:PA W H P1)=>k2 W H P1 AW);obtain⟨CN,MN⟩:=aw (jc w6 H.mb P1.s A6.map) (QQ w6 H.mb P1.s A6.map (dU (κ b) (κ P.C)) (by have:=@tv (κ b) (κ P.C);omega));rw[E1.out.2.2.2.1]at CN MN;obtain⟨av,aJ⟩:=aA (@tv (κ b) (κ P.C)) HC.out;have b5:((bp s1:Int)<(dU (κ b) (κ P.C):Int))=False:=ab
   generalize ad:bp s1=cn at *;have bm:=an ad;clear ad;have bq:((0:Int) != 0)=false:=aq
   go_wp2_with fail;refine(PM _ A6).mono ?_;refine eO ?_;intro wx;go_wp2_with fail;refine CN.mono ?_;refine eO ?_;intro wx;go_wp2_with fail;refine(PM _ A6).mono ?_;refine eO ?_;intro wx;go_wp2_with fail;refine MN.mono ?_;rintro e w7(⟨ao,_⟩|⟨aX,ats,va,aM,hd,has,rfl,aO,bh,t7⟩)
   ·simp only[Hid]at *;omega
   have A7:=an (show PA w7 H {P with s:=e' s1 ats} from by have:=PA.Gw A6 bh t7;rw[cj.out]at this;exact this)
   have TT:Touch (PF H) w6 w7:=t7.mono (λn h=>.inr (.inl h));obtain⟨T7,B7⟩:=aw ((Touch.bW (F:=PF H) U3).trans ((TR.iK u6).trans TT (λn h _=>h)) (λn h _=>h)) (B6.az TT (A6.cc B6 ax));have aV:=an (show ∀k,(Acl ta (κ b) tc).ownBlock=some k->¬PF H k from λk hk hpf=>Tk)
   have MW:=an (Kz w7 H {P with s:=e' s1 ats} A7 (.slice ta (κ b) tc) b ((HB.up u6).az TT aV) aV h1 h2 va ats (U4 aO.cC) (KU A7 aO) ht aM hd (λi hi=>by
    have h3:=has i hi;have h4:=aU i h3.1 (aY i ae);exact⟨h4.1,h3.1,by show e' s1 ats i=2;unfold e';rw[bo hi],h4.2⟩) aE hm (λi hi=>by
    unfold gf at hi;simp only[decide_eq_true_eq]at hi;refine aU i hi.1 (aY i ?_);have h5:=hi.2;unfold e' at h5;split at h5
    ·rename_i aD;rw[(has i aD).2];omega
    ·omega))
   obtain⟨aa,ac,bf⟩:=aO.cC.slice;subst bf;have aK:=an (show κ ats=dU (κ b) (κ P.C)/\ats.Nodup/\(∀i∈ats,i<1024/\bJ P.s P.ba old i=1)from⟨aM,hd,by rw[<-a1.out];exact has⟩);clear aM has PM;go_wp2_with fail;refine MW.mono ?_;rintro e w8⟨q,v8,ps,P8,rfl,o8,d8,ma,bk,qw,qg⟩;have D8:=an (PT.then (vp:=H.h.vp) T7 (λb h=>.inl h) d8);obtain⟨bj,a8,t8,bg⟩:=d8;obtain⟨B8,IQ,aB⟩:=aW (B7.az t8 (A7.cc B7 ax)) (hU q) (show lh P8.C q b (Wi {P with s:=e' s1 ats}) ps/\LR {P with s:=e' s1 ats} P8 ats ps/\q.wf/\cw q=true from⟨ma,bk,qw,qg⟩);rw[a1.out]at aB;clear bg qg;obtain⟨bl,bn,rfl⟩:=(ak.row o8 pw).slice;go_wp2_with(first|refine arm ?_|refine pj ?_);intro wz hbz ag;obtain⟨DZ,OZ⟩:=aw (D8.grow B8 ax ag ae) ((ak.kept o8 ag (.inr (λe=>by have:=(o8.aN _ e).1;have:=B7.lt;omega))).mono (base':=w.heap.size) T7.size);go_wp2;exact kk (v:=.tuple #[.agg (be q),(.slice bl (κ ps) bn),i6 0]) (r3 rfl _ _ _ (w.heap.size+1) 87 _ _ _ rfl rfl rfl hbz _ underlying87 rfl IQ) rfl ⟨ats,aK.1,aK.2.1,aK.2.2,q,_,ps,P8,rfl,OZ,DZ,aB.1,aB.2.1,aB.2.2.1,aB.2.2.2⟩
def lnV:ah->Nat
 | .slice _ n _=>n
 | _=>0
def jX(l:List al)(id:Nat):Nat->List Nat->Nat->List Nat × Nat
 | 0,c,p=>(c,p)
 | n+1,c,p=>if p=0 then(c,p)else match aV l p with
  | none=>(c,p)
  | some i=>if(recAt l i).owner=id then jX l id n (c++[p]) (recAt l i).prev else(c,p)
def gN(l:List al)(id:Nat):List Nat × Nat:=match aV l id with
 | none=>([],0)
 | some i=>if(recAt l i).aU=true then([],0)else jX l id 32 [] (recAt l i).prev
section
variable {l:List al} {id n p i:Nat} {c:List Nat}
theorem Ca(f:Nat):jX l id f c 0=(c,0):=by cases f<;>simp[jX]
theorem LC(h0:p≠0)(h:aV l p=none):jX l id (n+1) c p=(c,p):=by grind [jX]
theorem I2(h0:p≠0)(h:aV l p=some i)(ho:(recAt l i).owner≠id):jX l id (n+1) c p=(c,p):=by grind [jX]
theorem DX(h0:p≠0)(h:aV l p=some i)(ho:(recAt l i).owner=id):jX l id (n+1) c p=jX l id n (c++[p]) (recAt l i).prev:=by grind [jX]
theorem Rh(h:aV l id=none):gN l id=([],0):=by grind [gN]
theorem Ri(h:aV l id=some i)(hs:(recAt l i).aU=true):gN l id=([],0):=by grind [gN]
theorem Cc(h:aV l id=some i)(hs:(recAt l i).aU=false):gN l id=jX l id 32 [] (recAt l i).prev:=by grind [gN]
end
theorem Ox(w:af)(v:ah)(l:List al)(hv:cB w v l)(id:Nat):Aae Aag 85 #[v,.int .u64 (id:Int)] w λe w'=>∃u,e=rt #[u,.int .u64 ((gN l id).2:Int)]/\Own cM 70 w' w.heap.size u (gN l id).1/\Up w w':=by
 obtain⟨a,cap,rfl⟩:=hv.slice;have PL:=an (λW (u:Up w W) p=>jl W _ l (hv.up u) p);have P1:=an (PL w (Up.refl w) id);cases h1:aV l id with
 | none=>have HE:=an (Rh h1);rw[h1]at P1;unfold fF at P1;clear h1;exact T4
 | some i=>
  have H1:=an h1;rw[h1]at P1;unfold fF at P1;obtain⟨hi,_⟩:=dH h1;obtain⟨b,off,rfl,_,da,dc,rg,_⟩:=cn hv hi;obtain⟨_,_,c2,_,c4,_⟩:=cd rg;refine lJ ?_;intro b1 b2;clear h1;cases hs:(recAt l i).aU with
  | true=>have HE:=an (Ri H1 hs);rw[hs]at c2;clear hs c4;exact T4
  | false=>
   have HE:=an (Cc H1 hs);rw[hs]at c2;obtain⟨p0,aa⟩:=bK ((recAt l i).prev);rw[<-aa]at c4 HE;obtain⟨res,ag⟩:=bK (gN l id);rw[<-ag]at HE ⊢;clear hs aa ag;go_in;go_wp2_with fail;refine q4 ?_;intro w2;go_wp2;clear b1 b2 c2 c4;go_loopw [6,7,8] (λii ch pv wr=>∃(c:List Nat)(p f:Nat),κ c+f=32/\pv=.int .u64 (p:Int)/\Own cM 70 wr w.heap.size ch c/\jX l id f c p=res/\Up w wr) (λ_ ch _ _=>32-lnV ch)
   case atStart=>exact⟨[],p0,32,rfl,rfl,Own.nil _ _ _ _,HE.symm,Up.refl _⟩
   case round=>
    obtain⟨c,p,f,av,rfl,oc,hw,ur⟩:=hrel;have HW:=an hw;obtain⟨ca,cc,rfl⟩:=oc.cC.slice;have ar:=an av;have bb:κ c<=32:=ae
    clear hw HE av;by_cases h0:p=0
    ·subst h0;have HR:=an (show res=(c,0)by rw[<-HW.out];exact Ca f);go_wp2;go_ret2;exact⟨_,by rw[HR.out]<;>rfl,by rw[HR.out];exact oc,ur⟩
    ·have b3:((p:Int)==(0:Int))=false:=by simp;omega
     have aA:((p:Int) != (0:Int))=true:=ab
     cases f with
     | zero=>
      have HR:=an (show res=(c,p)by rw[<-HW.out];rfl);have au:κ c=32:=by have:=ar.out;omega
      have b4:((κ c:Int)<32)=False:=ab
      clear au h0;go_wp2;go_ret2;exact⟨_,by rw[HR.out]<;>rfl,by rw[HR.out];exact oc,ur⟩
     | succ f=>
      have b4:((κ c:Int)<32)=True:=by have:=ar.out;simp;omega
      have P2:=an (PL _ ur p);cases h2:aV l p with
      | none=>have HR:=an (show res=(c,p)by rw[<-HW.out];exact LC h0 h2);rw[h2]at P2;unfold fF at P2;clear h2 h0;exact Ue
      | some j=>
       have H2:=an h2;rw[h2]at P2;unfold fF at P2;obtain⟨hj,_⟩:=dH h2;obtain⟨b',ak,aj,_,aM,aN,rg,_⟩:=cn (hv.up ur) hj;simp only[Aai,Abd,and_true]at aj;obtain⟨rfl,rfl⟩:=aj;obtain⟨_,_,_,c3,c4,_⟩:=cd rg;have b5:((j:Int)<0)=False:=aq
       have b6:((j:Int)<(κ l:Int))=True:=ab
       clear h2;by_cases ho:(recAt l j).owner=id
       ·have HR:=an (show jX l id f (c++[p]) (recAt l j).prev=res by rw[<-HW.out];exact(DX h0 H2 ho).symm);rw[ho]at c3;obtain⟨pn,ao⟩:=bK ((recAt l j).prev);rw[<-ao]at c4 HR;have ax:=an ao;have b7:((id:Int)==(id:Int))=true:=by simp
        have ay:((id:Int) != (id:Int))=false:=aq
        have UA:=an (ai wr (.cells #[.int .u64 (p:Int)] 70));have U2:=an (ur.trans UA);clear ho ao c4 h0;go_wp2_with fail;refine P2.mono ?_;refine oK ?_;intro w2;go_wp2_with(first
         | (at_builtin;refine bc cM qB rfl (.tmp 47) (.tmp 49) 156 rfl w.heap.size 70 (.int .u64 0) 8 underlying156 tT rfl _ c rfl (oc.up UA) (cv wr.heap.size 1 1) [p] rfl (aD.er (f:=cM) wr wr.heap.size rfl #[.int .u64 (p:Int)] 70 (0,0) [p] 1 rfl dE rfl) ab ab U2.size ?_))
        intro v5 w5 aB aJ az;have U5:=an (U2.aE az (aG _));obtain⟨b2,aH,ad,aR,aC,aI,aF,_⟩:=cn (hv.up U5) hj;simp only[Aai,Abd,and_true]at ad;obtain⟨rfl,rfl⟩:=ad;have d4:=(cd aF).2.2.2.2.1;obtain⟨aK,aL,aw⟩:=aB.cC.slice;rw[Aaf,List.length_singleton]at aw;subst aw;go_wp2;go_roundw
        case rel=>exact⟨c++[p],pn,f,by have:=ar.out;simp;omega,by rw[ax.out],aB,HR,U5⟩
        case measure=>exact(by have:=ar.out;show 32-(κ c+1)<32-κ c;omega)
       ·have HR:=an (show res=(c,p)by rw[<-HW.out];exact I2 h0 H2 ho);have b7:((((recAt l j).owner:Nat):Int)==(id:Int))=false:=by simp;omega
        have ay:((((recAt l j).owner:Nat):Int) != (id:Int))=true:=ab
        clear ho h0 c4;exact Ue
theorem OZ(w:af)(v:ah)(l:List al)(hv:cB w v l)(id:Nat):Aae Aag 145 #[v,u6 (id:Int)] w λe w'=>∃u,e=.returned u/\Own cM 70 w' w.heap.size u (gN l id).1/\Up w w':=by have WY:=an (Ox w v l hv id);obtain⟨a,cap,rfl⟩:=hv.slice;generalize(gN l id).1=c at *;generalize(gN l id).2=p at *;go_in;go_wp2_with fail;refine WY.mono ?_;rintro e w2⟨u,rfl,ou,uu⟩;go_wp2;go_ret;exact⟨_,rfl,ou,uu⟩
theorem Bo(w:af)(v:ah)(l:List al)(hv:cB w v l)(id:Nat):Aae Aag 32 #[v,u6 (id:Int)] w λe w'=>e=.returned (u6 ((gN l id).2:Int))/\Up w w':=by have WY:=an (Ox w v l hv id);obtain⟨a,cap,rfl⟩:=hv.slice;generalize(gN l id).1=c at *;generalize(gN l id).2=p at *;go_in;go_wp2_with fail;refine WY.mono ?_;rintro e w2⟨u,rfl,ou,uu⟩;go_wp2;go_ret;simp;omega
section
open Go.Shelf
attribute [local go_sem] kr
section
variable {F:Fence} {n:Nat} {P:bx} {ops:Array Abn} {Q:Exit->Act->af->Prop} {md:Ab0} {o o2:Abn} {a:Act} {w:af}
theorem ib(ty:Aab)(x:bO)(ho:o.op=.load ty x)(ad:Addr)(hx:a.eval x=.pointer (some ad)){v:ah}(hc:w.cell? ad=some v)(hagg:∀w:af,(isAgg ty).run P w=.ok false w):(Abs a.eval o).run P w=.ok (.value v) w:=by
 have hl:(load ad).run P w=.ok v w:=by simp[hc]
 unfold Abs;simp only[ho,hx,Instr.loadAt,Adf,loadVar,Aaw,Acq,Aau,hagg,Ab2,if_false,hl]
theorem qG{i:Nat}{v:ah}{K:Act->af->Prop}(ab:F.round=none)(hi:ops[i]?=some o)(hw:Aaa o (Aa1 ops a.tmps)=true)(hv:(Abs a.eval o).run P w=.ok (.value v) w)(aC:o.about P w a.eval=none)(h:K (a.put o.dst v) w):wpOpIn F n P ops Q i K a w:=by unfold wpOpIn;simp only[hi,hw,if_true,Oper.wpIn,ab,Oper.semAt_none,hv,Oper.uponIn];simp_all
theorem I4{fuel:Nat}{aZ:Array Bool}(i:Nat)(v:ah)(hr:Abb md ops aZ=[i])(ab:F.round=none)(hi:ops[i]?=some o)(hw:Aaa o (Aa1 ops a.tmps)=true)(hv:(Abs a.eval o).run P w=.ok (.value v) w)(aC:o.about P w a.eval=none)(h:Acy F n P md ops Q fuel (aZ.setIfInBounds i true) (a.put o.dst v) w):Acy F n P md ops Q (fuel+1) aZ a w:=wpAnyIn_all hr aq (λj hj=>by simp at hj;subst hj;exact qG ab hi hw hv aC h)
theorem I5{fuel:Nat}{aZ:Array Bool}(i:Nat)(v:ah)(j:Nat)(v2:ah)(hr:Abb md ops aZ=[i,j])(ab:F.round=none)(hi:ops[i]?=some o)(hw:Aaa o (Aa1 ops a.tmps)=true)(hv:(Abs a.eval o).run P w=.ok (.value v) w)(aC:o.about P w a.eval=none)(hj:ops[j]?=some o2)(hw2:Aaa o2 (Aa1 ops a.tmps)=true)(ao:(Abs a.eval o2).run P w=.ok (.value v2) w)(az:o2.about P w a.eval=none)(h:Acy F n P md ops Q fuel (aZ.setIfInBounds i true) (a.put o.dst v) w)(h2:Acy F n P md ops Q fuel (aZ.setIfInBounds j true) (a.put o2.dst v2) w):Acy F n P md ops Q (fuel+1) aZ a w:=wpAnyIn_all hr aq (λk hk=>by
  simp at hk;rcases hk with rfl|rfl
  ·exact qG ab hi hw hv aC h
  ·exact qG ab hj hw2 ao az h2)
theorem vv{fuel:Nat}{aZ:Array Bool}(i:Nat)(hr:Abb md ops aZ=[i])(hi:ops[i]?=some o)(hw:Aaa o (Aa1 ops a.tmps)=true)(h:∀K:Act->af->Prop,(∀a w,Acy F n P md ops Q fuel (aZ.setIfInBounds i true) a w->K a w)->o.wpIn F n P a w K Q):Acy F n P md ops Q (fuel+1) aZ a w:=wpAnyIn_all hr aq (λk hk=>by
  simp at hk;subst hk;exact wpOpIn_step hi (λK hK=>aQ))
end
section
variable {F:Fence} {n:Nat} {P:bx} {ops:Array Abn} {md:Ab0} {Q:Exit->Act->af->Prop} {fuel:Nat} {aZ:Array Bool} {a:Act} {w:af} {o o2:Abn} {ty:Aab} {x:bO} {ad:Addr} {v:ah}
theorem B3(i:Nat)(v:ah)(ab:F.round=none)(hi:ops[i]?=some o)(h:wpAnyIn F n P md ops Q fuel (aZ.setIfInBounds i true) (a.put o.dst v) w)(hy:YieldsFenced P ops o v a:=by exact⟨.inl ⟨rfl,λ_=>by go_simp⟩,λ_=>rfl⟩)(hs:Region.noSelect ops=true:=by kernel_rfl)(hf:Region.free md ops aZ i=true:=by kernel_rfl)(hr:(Region.ready md ops aZ).contains i=true:=by kernel_rfl)(hQ:∀c a w,Q (.panic c) (a.put o.dst v) w->Q (.panic c) a w:=by exact λ_ _ _ h=>h):wpAnyIn F n P md ops Q (fuel+1) aZ a w:=ku ab hi hs hf hr hQ hy h
theorem PR(hc:w.cell? ad=some v)(ho:o.op=.load ty x:=by rfl)(hx:a.eval x=.pointer (some ad):=by rfl)(hagg:∀w:af,(isAgg ty).run P w=.ok false w:=by intro _;kernel_rfl):(execOp a.eval o).run P w=.ok (.value v) w:=by grind [ib]
theorem Zk(i:Nat)(v:ah)(ab:F.round=none)(hi:ops[i]?=some o)(hv:(execOp a.eval o).run P w=.ok (.value v) w)(h:wpAnyIn F n P md ops Q fuel (aZ.setIfInBounds i true) (a.put o.dst v) w)(hr:Region.ready md ops aZ=[i]:=by kernel_rfl)(hw:Region.wanted o (yielded ops a.tmps)=true:=by rfl)(aC:o.about P w a.eval=none:=by rfl):wpAnyIn F n P md ops Q (fuel+1) aZ a w:=I4 i v hr ab hi hw hv aC h
theorem in2(i:Nat)(v:ah)(j:Nat)(v2:ah)(ab:F.round=none)(hi:ops[i]?=some o)(hj:ops[j]?=some o2)(hv:(execOp a.eval o).run P w=.ok (.value v) w)(ao:(execOp a.eval o2).run P w=.ok (.value v2) w)(h:wpAnyIn F n P md ops Q fuel (aZ.setIfInBounds i true) (a.put o.dst v) w)(h2:wpAnyIn F n P md ops Q fuel (aZ.setIfInBounds j true) (a.put o2.dst v2) w)(hr:Region.ready md ops aZ=[i,j]:=by kernel_rfl)(hw:Region.wanted o (yielded ops a.tmps)=true:=by rfl)(hw2:Region.wanted o2 (yielded ops a.tmps)=true:=by rfl)(aC:o.about P w a.eval=none:=by rfl)(az:o2.about P w a.eval=none:=by rfl):wpAnyIn F n P md ops Q (fuel+1) aZ a w:=I5 i v j v2 hr ab hi hw hv aC hj hw2 ao az h h2
end
theorem pV(w:af)(a:Option Addr)(n cap id:Nat):Aae Aag 244 #[.slice a n cap,u6 (id:Int)] w λe w'=> e=.returned (.func (.func 274) #[] #[pz w.heap.size,pz (w.heap.size+1)])/\w'=(w.alloc (.cells #[.slice a n cap] 71)).alloc (.cells #[u6 (id:Int)] 70):=by go_in;exact eW
def iV(l:List al)(id k:Nat):List Nat:=(Aaj k).filter (λi=>decide ((recAt l i).prev=id))
def fP(l:List al)(id:Nat):List Nat:=iV l id (κ l)
theorem Am{id k:Nat}(h:(recAt l k).prev=id):iV l id (k+1)=iV l id k++[k]:=by unfold iV;rw[Abz,ki,List.filter_cons_of_pos ab,List.filter_nil]
theorem Db{id k:Nat}(h:(recAt l k).prev≠id):iV l id (k+1)=iV l id k:=by unfold iV;rw[Abz,ki,List.filter_cons_of_neg ab,List.filter_nil,Ab5]
theorem rT{l:List al}{id k:Nat}:∀j,iV l id k <+:iV l id (k+j)
 | 0=>List.prefix_refl _
 | j+1=>(rT j).trans (by
  by_cases h:(recAt l (k+j)).prev=id
  ·rw[<-Nat.add_assoc,Am h];exact List.prefix_append _ _
  ·rw[<-Nat.add_assoc,Db h];exact List.prefix_refl _)
theorem Pw{id k:Nat}(h:k<=κ l):iV l id k <+:fP l id:=by have:=rT (l:=l) (id:=id) (k:=k) (κ l-k);rwa [show k+(κ l-k)=κ l from ae]at this
def pT(n₀ B1 B2:Nat)(b:Nat)(_:Aab):Prop:=b<n₀\/b=B1\/b=B2
theorem SR(n:Nat)(hn:1<=n)(lp B1 B2 n₀:Nat)(v:ah)(l:List al)(id:Nat)(J Jx:List Nat->af->Prop)(W:af)(hJ:AbidesFrom W.heap.size J)(hY:∀(pre:List Nat)(x:Nat)(W1:af),J pre W1->pre++[x] <+:fP l id->YieldAt Abw (n-1) Aag lp #[i6 (x:Int)] W1 λe W'=>
  (e=.returned (.bool true)/\J (pre++[x]) W'/\cY (pT n₀ B1 B2) W1 W')\/(e=.returned (.bool false)/\Jx (pre++[x]) W'))
 (ak:W.cell? (ad B1 0)=some v) (ai:W.cell? (ad B2 0)=some (u6 (id:Int))) (hv:cB W v l) (h0:J [] W) (aB:∀a m c,v=.slice (some a) m c->a.block<n₀):
 CallsIn Abw n Aag 274 #[.func (.yield lp) #[] #[],pz B1,pz B2] W λe W'=>(∃v,e=.returned v)/\
  ((∃ys,ys=fP l id/\J ys W')\/(∃pre,pre <+:fP l id/\Jx pre W')):=by
 have hlen:=hv.length_le;obtain⟨a,cap,rfl⟩:=hv.slice;obtain⟨HV,aP,ax,ay,HY,HAL⟩:=im hv ak ai aB hY (show ∀s A B,J s A->Up A B->J s B from λs A B hs hu=>hJ s A B none hs (l6 hu) (λr e=>by cases e));clear aB hY;refine ue func274 rfl trivial ?_ rfl;simp only[ntmps274,Abh,Aal,Aa5,Nat.reduceAdd,Nat.reduceSub,Aa6,Aa7,Abj,Aa9,Aay,Aa2];gi_wp2;clear ak ai;gi_loopw [7] (λi wr=>∃k:Nat,k<=κ l/\i=i6 k/\J (iV l id k) wr/\cY (pT n₀ B1 B2) W wr) (λi _=>κ l-(Aat i).toNat)
 case atStart=>exact⟨0,bE _,rfl,h0,cY.refl _⟩
 case round=>
  obtain⟨k,hk,rfl,aE,aj⟩:=hrel;obtain⟨x1,x2⟩:=aA (aj.cell (a:=⟨B1,0,none⟩) (λt=>.inr (.inl rfl)) aP) (aj.cell (a:=⟨B2,0,none⟩) (λt=>.inr (.inr rfl)) ax);by_cases hlt:k<κ l
  ·obtain⟨b,off,rfl,hbs,da,dc,rg,_⟩:=cn HV hlt;have aD:b<n₀:=ay _ _ _ rfl;have x4:=aj.cell (a:=⟨b,off+k*11+4,none⟩) (λt=>.inl aD) (cd rg).2.2.2.2.1;refine iP ?_;intro b2;obtain⟨au,ae⟩:=aw aE aj;by_cases hp:(recAt l k).prev=id
   ·have HP:=an (Am hp);have aM:=an (show iV l id k++[k] <+:fP l id by rw[<-HP.out];exact Pw hlt);rw[hp]at x4;clear hp;have b3:((id:Int)==(id:Int))=true:=by simp
    gi_wp2;refine yI av ?_;change Acy _ _ _ _ _ _ 13 _ _ (wr.drew);have UD:=Up.drew (Up.refl wr);replace x1:=UD.cell x1;replace x2:=UD.cell x2;replace x4:=UD.cell x4;obtain⟨fn,tmps,assign,body,hy,hR⟩:=HY _ k wr.drew (HAL _ _ _ au UD) aM;obtain⟨HR,KD⟩:=aw hR (ae.trans (jh UD));generalize wr.drew=w5 at *;have FIN:=trivial;refine B3 1 (i6 (k:Int)) rfl rfl ?_;refine br ?_;refine in2 0 (sq b off (κ l) cap) 5 (u6 (id:Int)) rfl rfl rfl (PR x1) (PR x2) ?_ ?_
    ·refine Ms ?_;refine in2 4 (u6 (id:Int)) 5 (u6 (id:Int)) rfl rfl rfl (PR x4) (PR x2) ?_ ?_
     ·refine br ?_;refine Zk 5 (u6 (id:Int)) rfl rfl (PR x2) ?_;refine br ?_;refine B3 6 (.bool true) rfl rfl ?_;refine br ?_;refine B3 7 (.bool true) rfl rfl ?_;refine br ?_;refine B3 8 (.func (.yield lp) #[] #[]) rfl rfl ?_;refine br ?_;refine B3 9 (i6 (k:Int)) rfl rfl ?_;refine br ?_;refine vv 10 av rfl rfl ?_;intro K hK;go_simp;refine HR.mono ?_;rintro e W3(⟨rfl,hJ3,ag⟩|⟨rfl,aa⟩)
      ·refine Kk ?_;clear hK K;gi_wp2;exact⟨⟨k+1,hlt,aq,Ft,KD.trans ag⟩,sF⟩
      ·exact Kh
     ·refine TN ?_;intro K hK;go_simp;refine HR.mono ?_;rintro e W3(⟨rfl,hJ3,ag⟩|⟨rfl,aa⟩)
      ·refine Kk ?_;clear hK K;gi_wp2;exact⟨⟨k+1,hlt,aq,Ft,KD.trans ag⟩,sF⟩
      ·exact Kh
    ·refine UA ?_;refine TN ?_;intro K hK;go_simp;refine HR.mono ?_;rintro e W3(⟨rfl,hJ3,ag⟩|⟨rfl,aa⟩)
     ·refine Kk ?_;clear hK K;gi_wp2;exact⟨⟨k+1,hlt,aq,Ft,KD.trans ag⟩,sF⟩
     ·exact Kh
   ·have HP:=an (Db hp);have b3:((((recAt l k).prev:Nat):Int)==(id:Int))=false:=by simp;omega
    obtain⟨pv,ar⟩:=bK ((recAt l k).prev);rw[<-ar]at x4 b3;clear hp ar;gi_wp2;refine yI av ?_;change Acy _ _ _ _ _ _ 13 _ _ (wr.drew);have UD:=Up.drew (Up.refl wr);replace x1:=UD.cell x1;replace x2:=UD.cell x2;replace x4:=UD.cell x4;obtain⟨JD,KD⟩:=aw (HAL _ _ _ au UD) (ae.trans (jh UD));generalize wr.drew=w5 at *;have FIN:=trivial;refine B3 1 (i6 (k:Int)) rfl rfl ?_;refine br ?_;refine in2 0 (sq b off (κ l) cap) 5 (u6 (id:Int)) rfl rfl rfl (PR x1) (PR x2) ?_ ?_
    ·refine Ms ?_;refine in2 4 (u6 (pv:Int)) 5 (u6 (id:Int)) rfl rfl rfl (PR x4) (PR x2) ?_ ?_
     ·refine br ?_;refine Zk 5 (u6 (id:Int)) rfl rfl (PR x2) ?_;refine br ?_;refine B3 6 (.bool false) rfl rfl ?_;refine br ?_;refine B3 7 (.bool false) rfl rfl ?_;refine br ?_;refine ku (i:=8) (v:=Aar) rfl rfl av av av (λ_ _ _ h=>h) (⟨.inr ⟨rfl,rfl⟩,λ_=>rfl⟩) ?_;refine br ?_;refine ku (i:=9) (v:=Aar) rfl rfl av av av (λ_ _ _ h=>h) (⟨.inr ⟨rfl,rfl⟩,λ_=>rfl⟩) ?_;refine br ?_;refine ku (i:=10) (v:=Aar) rfl rfl av av av (λ_ _ _ h=>h) (⟨.inr ⟨rfl,rfl⟩,λ_=>rfl⟩) ?_;refine br ?_;refine ku (i:=11) (v:=Aar) rfl rfl av av av (λ_ _ _ h=>h) (⟨.inr ⟨rfl,rfl⟩,λ_=>rfl⟩) ?_;refine FL ?_;gi_wp2;exact⟨⟨k+1,hlt,aq,Fv,KD⟩,sF⟩
     ·refine Uq ?_;refine ku (i:=8) (v:=Aar) rfl rfl av av av (λ_ _ _ h=>h) (⟨.inr ⟨rfl,rfl⟩,λ_=>rfl⟩) ?_;refine br ?_;refine ku (i:=9) (v:=Aar) rfl rfl av av av (λ_ _ _ h=>h) (⟨.inr ⟨rfl,rfl⟩,λ_=>rfl⟩) ?_;refine br ?_;refine ku (i:=10) (v:=Aar) rfl rfl av av av (λ_ _ _ h=>h) (⟨.inr ⟨rfl,rfl⟩,λ_=>rfl⟩) ?_;refine br ?_;refine ku (i:=11) (v:=Aar) rfl rfl av av av (λ_ _ _ h=>h) (⟨.inr ⟨rfl,rfl⟩,λ_=>rfl⟩) ?_;refine FL ?_;gi_wp2;exact⟨⟨k+1,hlt,aq,Fv,KD⟩,sF⟩
    ·refine UA ?_;refine Uq ?_;refine ku (i:=8) (v:=Aar) rfl rfl av av av (λ_ _ _ h=>h) (⟨.inr ⟨rfl,rfl⟩,λ_=>rfl⟩) ?_;refine br ?_;refine ku (i:=9) (v:=Aar) rfl rfl av av av (λ_ _ _ h=>h) (⟨.inr ⟨rfl,rfl⟩,λ_=>rfl⟩) ?_;refine br ?_;refine ku (i:=10) (v:=Aar) rfl rfl av av av (λ_ _ _ h=>h) (⟨.inr ⟨rfl,rfl⟩,λ_=>rfl⟩) ?_;refine br ?_;refine ku (i:=11) (v:=Aar) rfl rfl av av av (λ_ _ _ h=>h) (⟨.inr ⟨rfl,rfl⟩,λ_=>rfl⟩) ?_;refine FL ?_;gi_wp2;exact⟨⟨k+1,hlt,aq,Fv,KD⟩,sF⟩
  ·obtain rfl:k=κ l:=by omega
   have b2:((κ l:Int)<(κ l:Int))=False:=aq
   gi_wp2;go_end0;exact⟨⟨_,rfl⟩,.inl ⟨_,rfl,aE⟩⟩
end
section
open Go.Shelf
attribute [local go_sem] kr
def iH(l:List al)(id:Nat):Nat:=match aV l id with
 | none=>0
 | some i=>if(recAt l i).aU=true then(match(fP l id).find? (λj=>decide ((recAt l j).owner=(recAt l i).owner))with
  | none=>0
  | some j=>(recAt l j).id)else 0
section
variable {l:List al} {id i j:Nat}
theorem Xr(h:aV l id=none):iH l id=0:=by grind [iH]
theorem Xs(h:aV l id=some i)(hs:(recAt l i).aU=false):iH l id=0:=by grind [iH]
theorem Xt(h:aV l id=some i)(hs:(recAt l i).aU=true)(hf:(fP l id).find? (λj=>decide ((recAt l j).owner=(recAt l i).owner))=none):iH l id=0:=by grind [iH]
theorem N7(h:aV l id=some i)(hs:(recAt l i).aU=true)(hf:(fP l id).find? (λj=>decide ((recAt l j).owner=(recAt l i).owner))=some j):iH l id=(recAt l j).id:=by grind [iH]
end
abbrev Pos(l:List al):={x:Nat // x<κ l}
def SS{id x:Nat}(h:x∈fP l id):x<κ l:=uf.1 (wa.1 h).1
theorem pU(n:Nat)(hn:1<=n)(B1 B2 n₀:Nat)(v:ah)(l:List al)(id:Nat)(w:af)(hb1:B1<w.heap.size)(hb2:B2<w.heap.size)(hc:w.cell? (ad B1 0)=some v)(aj:w.cell? (ad B2 0)=some (u6 (id:Int)))(hv:cB w v l)(aB:∀a m c,v=.slice (some a) m c->a.block<n₀):SeqStopsK Abw n Aag 274 #[pz B1,pz B2] (λx:Pos l=>#[i6 (x.1:Int)]) (cY (pT n₀ B1 B2)) (λys=>ys.map (·.1)=fP l id) (λpre=>pre.map (·.1) <+:fP l id) (κ (fP l id)) w:=λl' J Jx W hW hJ _ hY h0=>by
 refine(SR n hn l' B1 B2 n₀ v l id (λpre W=>∃ps:List (Pos l),ps.map (·.1)=pre/\J ps W) (λpre W=>∃ps:List (Pos l),ps.map (·.1)=pre/\Jx ps W) W (λs A B row hs hg hr=>Fy) ?_ ((hW.cell (p:=⟨B1,0,none⟩) hb1).trans hc) ((hW.cell (p:=⟨B2,0,none⟩) hb2).trans aj) (hv.up hW) ⟨[],rfl,h0⟩ aB).mono ?_
 ·rintro pre x W1⟨ps,rfl,h⟩hp;refine(hY ps ⟨x,(SS (hp.subset aq))⟩ W1 h aQ).mono ?_;exact M9
 ·exact y2
theorem Pj{p:Nat->Bool}(h:∀y∈xs,p y=false):xs.find? p=none:=ab
theorem Pk{xs pre:List Nat}{p:Nat->Bool}{x:Nat}(h:∀y∈pre,p y=false)(hx:p x=true)(hp:pre++[x] <+:xs):xs.find? p=some x:=aQ
theorem UX(w:af)(v:ah)(l:List al)(hv:cB w v l)(id:Nat):Aae Aag 206 #[v,u6 (id:Int)] w λe w'=>e=.returned (u6 (iH l id:Int))/\Up w w':=by
 obtain⟨a,cap,rfl⟩:=hv.slice;obtain⟨HV,U1,U2⟩:=aW hv (ai w (.cells #[.slice a (κ l) cap] 71)) (ai (w.alloc (.cells #[.slice a (κ l) cap] 71)) (.cells #[u6 0] 70));have PL:=an (jl ((w.alloc (.cells #[.slice a (κ l) cap] 71)).alloc (.cells #[u6 0] 70)) _ l ((hv.up U1).up U2) id);cases h1:aV l id with
 | none=>have HE:=an (Xr h1);rw[h1]at PL;unfold fF at PL;clear h1;refine q6 ?_;intro h1;refine oD func206 rfl trivial ?_ rfl;simp only[ntmps206,Abh,Aal,Aa5,Nat.reduceAdd,Nat.reduceSub,Aa6,Aa7,Abj,Aa9,Aay,Aa2];gi_wp2_with(refine⟨trivial,?_⟩;gi_at_call 83;refine(fy.2 (PL)).mono ?_;rintro e w2 ⟨rfl,hw2⟩;rw[hw2];clear hw2);refine⟨u6 0,?_,nJ,(U1.trans U2).trans (ai _ _)⟩;have hc:=bG (.cells #[i6 (-1)] 3) (de (w.alloc (.cells #[.slice a (κ l) cap] 71)) (u6 0) 70).1;simp only[Aa3]at hc;simp[results,Tryz.f206,go_sem,hc]
 | some i=>
  have H1:=an h1;rw[h1]at PL;unfold fF at PL;obtain⟨hi,_⟩:=dH h1;obtain⟨b,off,rfl,hbs,da,dc,rg,_⟩:=cn HV hi;refine lJ ?_;intro b1 b2;obtain⟨RG,UU⟩:=aw rg ((U1.trans U2).trans (ai ((w.alloc (.cells #[sq b off (κ l) cap] 71)).alloc (.cells #[u6 0] 70)) (.cells #[i6 (i:Int)] 3)));obtain⟨c2,c3⟩:=aA (UU.cell (cd rg).2.2.1) (UU.cell (cd rg).2.2.2.1);clear h1;cases hs:(recAt l i).aU with
  | false=>have HE:=an (Xs H1 hs);rw[hs]at c2;refine Mt ?_;clear hs;intro h1;gi_wp2_with(refine⟨trivial,?_⟩;gi_at_call 83;refine(fy.2 (PL)).mono ?_;rintro e w2 ⟨rfl,hw2⟩;rw[hw2];clear hw2);refine⟨u6 0,?_,nJ,UU⟩;have hc:=bG (.cells #[i6 (i:Int)] 3) (de (w.alloc (.cells #[sq b off (κ l) cap] 71)) (u6 0) 70).1;simp only[Aa3]at hc;simp[results,Tryz.f206,go_sem,hc]
  | true=>
   rw[hs]at c2;have HS:=an hs;refine Mt ?_;clear hs;intro h1;gi_wp2_with(first
    | (refine⟨trivial,?_⟩;gi_at_call 83;refine(fy.2 (PL)).mono ?_;rintro e w2 ⟨rfl,hw2⟩;rw[hw2];clear hw2)
    | (refine⟨trivial,?_⟩;gi_at_call 244;refine(fy.2 (pV _ _ _ _ _)).mono ?_;rintro e w' ⟨rfl,rfl⟩))
   obtain⟨c1,d0,d2,d3,d4⟩:=xN (de (w.alloc (.cells #[sq b off (κ l) cap] 71)) (u6 0) 70) (de w (sq b off (κ l) cap) 71) (de ((w.alloc (.cells #[sq b off (κ l) cap] 71)).alloc (.cells #[u6 0] 70)) (i6 (i:Int)) 3) (de (((w.alloc (.cells #[sq b off (κ l) cap] 71)).alloc (.cells #[u6 0] 70)).alloc (.cells #[i6 (i:Int)] 3)) (sq b off (κ l) cap) 71) (de ((((w.alloc (.cells #[sq b off (κ l) cap] 71)).alloc (.cells #[u6 0] 70)).alloc (.cells #[i6 (i:Int)] 3)).alloc (.cells #[sq b off (κ l) cap] 71)) (u6 (id:Int)) 70);simp only[Aa3]at c1 d2 d3 d4;have ag:Below w.heap.size w (((((w.alloc (.cells #[sq b off (κ l) cap] 71)).alloc (.cells #[u6 0] 70)).alloc (.cells #[i6 (i:Int)] 3)).alloc (.cells #[sq b off (κ l) cap] 71)).alloc (.cells #[u6 (id:Int)] 70)):=(((((eZ _ w).alloc (aG _) _).alloc aq _).alloc ab _).alloc ab _).alloc ab _;obtain⟨ow,how⟩:=bK ((recAt l i).owner);refine MJ ?_;intro ar HBS CO CX;clear how c2 c3;refine wi (F:=Abw) rfl h1 (gf:=274) (lb:=#[pz (w.heap.size+1+1+1),pz (w.heap.size+1+1+1+1)]) rfl trivial (enters_of func274 av rfl) (pU 5 ae (w.heap.size+1+1+1) (w.heap.size+1+1+1+1) w.heap.size _ l id _ aq aq (bG _ d3.1) d4.1 (HV.up ag) (λa' m c h=>by cases h;exact HBS)) cY.trans jD (eZ _ _) (λ_=>rfl) (λpre W=>((∀y∈pre,(recAt l y.1).owner≠ow)/\W.cell? (ad w.heap.size 0)=some (sq b off (κ l) cap)/\W.cell? (ad (w.heap.size+1) 0)=some (u6 0)/\W.frozen? ⟨w.heap.size+1,0,none⟩=false/\W.cell? (ad (w.heap.size+1+1) 0)=some (i6 (i:Int)))/\Below w.heap.size w W) (λc pre W=>(c=.ret/\(∃(pr:List (Pos l))(x:Pos l),pre=pr++[x]/\(∀y∈pr,(recAt l y.1).owner≠ow)/\(recAt l x.1).owner=ow/\W.cell? (ad (w.heap.size+1) 0)=some (u6 ((recAt l x.1).id:Int))))/\Below w.heap.size w W) (nH (Own.from (λs A B row hs hg hr=>⟨hs.1,lo hs.2.1 hg hr,lo hs.2.2.1 hg hr,(frozen_kept hs.2.2.1 hg hr).trans hs.2.2.2.1,lo hs.2.2.2.2 hg hr⟩) _) (oE (aG _) ab)) (λc=>nH (Own.from (λs A B row hs hg hr=>⟨hs.1,Tj⟩) _) (oE (aG _) ab)) ⟨⟨aq,bG _ (bG _ (bG _ (bG _ d0.1))),bG _ (bG _ (bG _ c1.1)),(jx _ (bG _ (bG _ c1.1)) (jx _ (bG _ c1.1) (jx _ c1.1 c1.2))),bG _ (bG _ d2.1)⟩,ag⟩ (λx=>{tmps:=#[sq b off (κ l) cap,u6 (id:Int),pz w.heap.size,Aar,pz (w.heap.size+1),pz (w.heap.size+1+1),i6 (x.1:Int),sq b off (κ l) cap,u6 (id:Int),i6 (i:Int),i6 (i:Int),.bool false,.bool false,sq b off (κ l) cap,i6 (i:Int),pq b (off+i*11),pq b (off+i*11+2),.bool true,.bool false,.bool false,sq b off (κ l) cap,u6 (id:Int),.func (.func 274) #[] #[pz (w.heap.size+1+1+1),pz (w.heap.size+1+1+1+1)],i6 (x.1:Int),Aar,Aar,Aar,Aar,Aar,Aar,Aar,Aar,Aar,Aar,Aar,Aar,Aar,Aar,Aar,Aar],defers:=[]}) ?assign ?body ?done ?stop
   case assign=>exact lH
   case body=>
    rintro l' pre⟨x,hx⟩W⟨⟨hp,e0,e1,f1,e2⟩,hB⟩_;simp only;have HP:=an hp;refine Uf ?_;intro HB x3 x0 x4 b3;clear hp;gi_wp2;refine gI (S:=λW'=>W'.cell? (ad w.heap.size 0)=some (sq b off (κ l) cap)/\W'.cell? (ad (w.heap.size+1+1) 0)=some (i6 (i:Int))/\W'.cell? (ad b (off+x*11+3))=some (u6 ((recAt l x).owner:Int))/\W'.cell? (ad b (off+i*11+3))=some (u6 (ow:Int))) av av (λ⟨_,_,h⟩=>h) ?_;change Acp _ _ _ _ _ 11 _ _ (W.drew);have UD:=Up.drew (Up.refl W);have F5:=an (show W.drew.cell? (ad w.heap.size 0)=some (sq b off (κ l) cap)/\W.drew.cell? (ad (w.heap.size+1+1) 0)=some (i6 (i:Int))/\W.drew.cell? (ad b (off+x*11+3))=some (u6 ((recAt l x).owner:Int))/\W.drew.cell? (ad b (off+i*11+3))=some (u6 (ow:Int))from⟨UD.cell e0,UD.cell e2,UD.cell x3,UD.cell x4⟩);have g1:=UD.cell e1;have gf:W.drew.frozen? ⟨w.heap.size+1,0,none⟩=false:=f1;have y0:=UD.cell x0;obtain⟨KO,BD⟩:=aw (yK W) (show Below w.heap.size w W.drew from HB.trans (Below.drew (eZ _ _)));have ay:=F5.1;clear e1 f1 x0 e0 e2 x3 x4;generalize W.drew=w5 at *;refine tb 0 rfl (yc (λW hS=>hS.1)) ?_;refine ta 1 ?_;refine nf ?_;refine tb 4 rfl (yc (λW hS=>hS.2.2.1)) ?_;refine tb 5 rfl (yc (λW hS=>hS.1)) ?_;refine tb 6 rfl (yc (λW hS=>hS.2.1)) ?_;refine ta 7 ?_;refine ta 8 ?_;refine tb 9 rfl (yc (λW hS=>hS.2.2.2)) ?_;by_cases aa:(recAt l x).owner=ow
    ·have b9:((((recAt l x).owner:Nat):Int)==(ow:Int))=true:=by simp[aa]
     refine y3 ?_;have HX:=an aa;clear aa b9;gi_wp2;exact⟨KO.trans (p7 _ _ _),⟨rfl,pre,⟨x,hx⟩,rfl,HP,HX,yD _ _ _ (by rw[g1];rfl)⟩,BD.setCell (p:=⟨w.heap.size+1,0,none⟩) aq _⟩
    ·have b9:((((recAt l x).owner:Nat):Int)==(ow:Int))=false:=by simp;omega
     refine y3 ?_;have HX:=an aa;clear aa b9;gi_wp2;exact⟨KO,(jh (p:=pT w.heap.size (w.heap.size+1+1+1) (w.heap.size+1+1+1+1)) UD),⟨λy hy=>(eT.1 hy).elim (HP y) (λe=>by simp at e;subst e;exact HX),F5.1,g1,gf,F5.2.1⟩,BD⟩
   case done=>
    rintro D ys W hD aE⟨⟨hne,_,hcr,au,_⟩,hB⟩hK;have HE:=an (Xt H1 HS (Pj (λy hy=>by rw[<-aE]at hy;obtain⟨z,hz,rfl⟩:=Abf.1 hy;have:=hne z hz;rw[ar.out]at this;simp[this])))
    clear hne aE;gi_wp2;have hK':=(p7 W ⟨w.heap.size+1,0,none⟩ (u6 0)).same D _ hK rfl;refine⟨aq,.inl ⟨_,_,rfl,E0 hK',?_⟩⟩;have ao:=lo (yD W ⟨w.heap.size+1,0,none⟩ (u6 0) (by rw[hcr];rfl)) (yE _ D (.deferred none)) (λr e=>by cases e;exact⟨_,hK',rfl⟩);refine⟨u6 0,?_,nJ,(hB.setCell (p:=⟨w.heap.size+1,0,none⟩) aq _).trans (oF (w:=w) (aG _) _ D _ _ p9 hK' rfl rfl)⟩;simp[results,Tryz.f206,go_sem,ao]
   case stop=>
    rintro D c pre W hD aj⟨⟨rfl,pr,x,rfl,ax,hx,hcr⟩,hB⟩hK;have HE:=an (N7 H1 HS (Pk (pre:=pr.map (·.1)) (x:=x.1) (λy hy=>by obtain⟨z,hz,rfl⟩:=Abf.1 hy;have:=ax z hz;rw[ar.out]at this;simp[this]) (by rw[<-ar.out];simp[hx]) (by rw[Aao]at aj;exact aj)))
    clear ax;gi_wp2;refine Nx ?_;intro ao;refine⟨u6 ((recAt l x.1).id:Int),?_,by rw[HE.out],hB.trans (oF (w:=w) (aG _) W D _ _ p9 hK rfl rfl)⟩;simp[results,Tryz.f206,go_sem,ao]
end
section
open Go.Shelf
attribute [local go_sem] kr
section
variable {P:bx} {ops:Array Abn} {Q:Exit->Act->af->Prop} {md:Ab0} {o o2:Abn} {a:Act} {w:af}
theorem GX{K:Act->af->Prop}{v:ah}{w':af}(hv:(Abs a.eval o).run P w=.ok (.value v) w')(h:K (a.put o.dst v) w'):o.wp P a w K Q:=by unfold Acb;rw[hv];exact h
theorem qs(t:Aab)(x:bO)(ho:o.op=.buildSlice t 1 #[(0,x)])(X:ah)(hx:a.eval x=X){v:ah}{w':af}(hr:(Acd t 1 #[(0,X)]).run P w=.ok v w'):(Abs a.eval o).run P w=.ok (.value v) w':=by unfold Abs;simp_all
def vw{fuel:Nat}{aZ:Array Bool}(i:Nat)(v:ah)(w':af)(hr:Abb md ops aZ=[i])(hi:ops[i]?=some o)(hw:Aaa o (Aa1 ops a.tmps)=true)(hv:(Abs a.eval o).run P w=.ok (.value v) w')(h:wpAny P md ops Q fuel (aZ.setIfInBounds i true) (a.put o.dst v) w'):wpAny P md ops Q (fuel+1) aZ a w:=ih i o hr hi hw (GX hv h)
theorem GW{fuel:Nat}{aZ:Array Bool}(i:Nat)(v:ah)(w1:af)(j:Nat)(v2:ah)(w2:af)(hr:Abb md ops aZ=[i,j])(hi:ops[i]?=some o)(hw:Aaa o (Aa1 ops a.tmps)=true)(hv:(Abs a.eval o).run P w=.ok (.value v) w1)(hj:ops[j]?=some o2)(hw2:Aaa o2 (Aa1 ops a.tmps)=true)(ao:(Abs a.eval o2).run P w=.ok (.value v2) w2)(h:wpAny P md ops Q fuel (aZ.setIfInBounds i true) (a.put o.dst v) w1)(h2:wpAny P md ops Q fuel (aZ.setIfInBounds j true) (a.put o2.dst v2) w2):wpAny P md ops Q (fuel+1) aZ a w:=ud hr aq (λk hk=>by
  simp at hk;rcases hk with rfl|rfl
  ·exact oc hi hw (GX hv h)
  ·exact oc hj hw2 (GX ao h2))
end
theorem LG{Q:Exit->Act->af->Prop}{md:Ab0}{os:List Abn}{fuel:Nat}{aZ:Array Bool}{a:Act}(n:Nat)(hl:κ os=n+fuel)(hB:Region.seqB md os.toArray fuel n aZ=true)(h:Aak P os.toArray Q (os.drop n) a w):wpAny P md os.toArray Q fuel aZ a w:=by
 have hd:κ (os.drop n)=fuel:=ab
 have:=wpAny_of_seq (md:=md) (Q':=Q) (os.drop n) n aZ a w (λj=>aq) aQ h;grind
theorem qn(w:af)(n:Int):(Acd 156 1 #[(0,u6 n)]).run Aag w=.ok (cv w.heap.size 1 1) (w.alloc (.cells #[u6 n] 70)):=av
def gj(pre:List (Pos l)):List Nat:=pre.map (·.1)
theorem rq(pre:List (Pos l))(x:Nat)(hx:x<κ l):gj (pre++[⟨x,hx⟩])=gj pre++[x]:=by simp[gj]
theorem xu(pre:List (Pos l)):κ (gj pre)=κ pre:=by simp[gj]
theorem iI{v:ah}{xs:List ah}(h:w.ownsRow base e k v n xs)(hb:v.ownBlock=some b):mM w b/\base<=b:=by
 obtain⟨_,h2⟩:=h;rcases h2 with⟨h3,_⟩|⟨g,cap,cur,h3,hg,h5,_⟩
 ·rw[h3]at hb;cases hb
 ·rw[h3]at hb;simp only[Aan,Aai]at hb;subst hb;exact⟨⟨_,_,_,h5⟩,hg⟩
def eh(l:List al)(ow:Nat)(xs:List Nat):List Nat:=(xs.filter (λj=>decide ((recAt l j).owner≠ow))).map (λj=>(recAt l j).id)
theorem KR{l:List al}{ow x:Nat}{xs:List Nat}(h:(recAt l x).owner≠ow):eh l ow (xs++[x])=eh l ow xs++[(recAt l x).id]:=by grind [eh]
theorem Qj{l:List al}{ow x:Nat}{xs:List Nat}(h:(recAt l x).owner=ow):eh l ow (xs++[x])=eh l ow xs:=by grind [eh]
theorem KQ{l:List al}{ow:Nat}{xs:List Nat}:κ (eh l ow xs)<=κ xs:=by grind [eh]
theorem Da(l:List al)(id:Nat):κ (fP l id)<=κ l:=by grind [fP,iV]
def et(l:List al)(id:Nat):List Nat:=match aV l id with
 | none=>[]
 | some i=>if(recAt l i).aU=true then eh l (recAt l i).owner (fP l id)else []
section
variable {l:List al} {id i:Nat}
theorem O1(h:aV l id=none):et l id=[]:=by grind [et]
theorem O2(h:aV l id=some i)(hs:(recAt l i).aU=false):et l id=[]:=by grind [et]
theorem vN(h:aV l id=some i)(hs:(recAt l i).aU=true):et l id=eh l (recAt l i).owner (fP l id):=by grind [et]
end
theorem Jv(w:af)(v:ah)(l:List al)(hv:cB w v l)(hl:κ l<=100000)(id:Nat):Aae Aag 205 #[v,u6 (id:Int)] w λe w'=>∃u,e=.returned u/\Own cM 70 w' w.heap.size u (et l id)/\Up w w':=by
 obtain⟨a,cap,rfl⟩:=hv.slice;obtain⟨HV,U1⟩:=aw hv (ai w (.cells #[.slice a (κ l) cap] 71));have PL:=an (jl (w.alloc (.cells #[.slice a (κ l) cap] 71)) _ l (hv.up U1) id);cases h1:aV l id with
 | none=>have HE:=an (O1 h1);rw[h1]at PL;unfold fF at PL;clear h1;refine q6 ?_;intro h1;refine oD func205 rfl trivial ?_ rfl;simp only[ntmps205,Abh,Aal,Aa5,Nat.reduceAdd,Nat.reduceSub,Aa6,Aa7,Abj,Aa9,Aay,Aa2];gi_wp2_with(refine⟨trivial,?_⟩;gi_at_call 83;refine(fy.2 (PL)).mono ?_;rintro e w2 ⟨rfl,hw2⟩;rw[hw2];clear hw2);refine⟨_,sD rfl _ _ _,_,rfl,by rw[HE.out];exact Own.nil _ _ _ _,U1.trans (ai _ _)⟩
 | some i=>
  have H1:=an h1;rw[h1]at PL;unfold fF at PL;obtain⟨hi,_⟩:=dH h1;obtain⟨b,off,rfl,hbs,da,dc,rg,_⟩:=cn HV hi;refine lJ ?_;intro b1 b2;obtain⟨RG,UU⟩:=aw rg (U1.trans (ai (w.alloc (.cells #[sq b off (κ l) cap] 71)) (.cells #[i6 (i:Int)] 3)));have c2:=UU.cell (cd rg).2.2.1;clear h1;cases hs:(recAt l i).aU with
  | false=>have HE:=an (O2 H1 hs);rw[hs]at c2;refine Mu ?_;clear hs;intro h1;gi_wp2_with(refine⟨trivial,?_⟩;gi_at_call 83;refine(fy.2 (PL)).mono ?_;rintro e w2 ⟨rfl,hw2⟩;rw[hw2];clear hw2);refine⟨_,sD rfl _ _ _,_,rfl,by rw[HE.out];exact Own.nil _ _ _ _,UU⟩
  | true=>
   have HE:=an (vN H1 hs);rw[hs]at c2;refine Mu ?_;clear hs;intro h1;gi_wp2_with(first
    | (refine⟨trivial,?_⟩;gi_at_call 83;refine(fy.2 (PL)).mono ?_;rintro e w2 ⟨rfl,hw2⟩;rw[hw2];clear hw2)
    | (refine⟨trivial,?_⟩;gi_at_call 244;refine(fy.2 (pV _ _ _ _ _)).mono ?_;rintro e w' ⟨rfl,rfl⟩))
   obtain⟨bb,d0,d1,d3,d4⟩:=xN (Boxed.new ((w.alloc (.cells #[sq b off (κ l) cap] 71)).alloc (.cells #[i6 (i:Int)] 3)) 156 (nl)) (de w (sq b off (κ l) cap) 71) (de (w.alloc (.cells #[sq b off (κ l) cap] 71)) (i6 (i:Int)) 3) (de (((w.alloc (.cells #[sq b off (κ l) cap] 71)).alloc (.cells #[i6 (i:Int)] 3)).alloc (.cells #[nl] 156)) (sq b off (κ l) cap) 71) (de ((((w.alloc (.cells #[sq b off (κ l) cap] 71)).alloc (.cells #[i6 (i:Int)] 3)).alloc (.cells #[nl] 156)).alloc (.cells #[sq b off (κ l) cap] 71)) (u6 (id:Int)) 70);simp only[Aa3]at bb d1 d3 d4;have ag:Below w.heap.size w (((((w.alloc (.cells #[sq b off (κ l) cap] 71)).alloc (.cells #[i6 (i:Int)] 3)).alloc (.cells #[nl] 156)).alloc (.cells #[sq b off (κ l) cap] 71)).alloc (.cells #[u6 (id:Int)] 70)):=(((((eZ _ w).alloc (aG _) _).alloc aq _).alloc ab _).alloc ab _).alloc ab _;obtain⟨ow,how⟩:=bK ((recAt l i).owner);rw[<-how]at HE;refine MJ ?_;intro ar HBS CO CX;clear how c2;refine wi (F:=Abw) rfl h1 (gf:=274) (lb:=#[pz (w.heap.size+1+1+1),pz (w.heap.size+1+1+1+1)]) rfl trivial (enters_of func274 av rfl) (pU 5 ae (w.heap.size+1+1+1) (w.heap.size+1+1+1+1) w.heap.size _ l id _ aq aq (bG _ d3.1) d4.1 (HV.up ag) (λa' m c h=>by cases h;exact HBS)) cY.trans jD (eZ _ _) (λ_=>rfl) (λpre W=>((∃v,Boxed W (w.heap.size+1+1) 156 v/\W.ownsRow (w.heap.size+1+1+1+1+1) 70 1 v (κ (eh l ow (gj pre))) ((eh l ow (gj pre)).map cM)/\True)/\W.cell? (ad w.heap.size 0)=some (sq b off (κ l) cap)/\W.cell? (ad (w.heap.size+1) 0)=some (i6 (i:Int))/\w.heap.size+5<=W.heap.size)/\Below w.heap.size w W) (λ_ _ _=>False) (nH (Own.from (λs A B row hs hg hr=>⟨holdsRow_own (w.heap.size+1+1+1+1+1) (w.heap.size+1+1) 156 70 1 (λpre:List (Pos l)=>κ (eh l ow (gj pre))) (λpre=>(eh l ow (gj pre)).map cM) (λ_ _=>True) s A B row hs.1 hg hr,lo hs.2.1 hg hr,lo hs.2.2.1 hg hr,bN hs.2.2.2 hg.size⟩) _) (oE (aG _) ab)) (λ_ _ _ _ _ hs _ _=>hs) ⟨⟨⟨_,(bb.alloc _).alloc _,yk _ _ _ _,trivial⟩,bG _ (bG _ (bG _ (bG _ d0.1))),bG _ (bG _ (bG _ d1.1)),aq⟩,ag⟩ (λx=>{tmps:=#[sq b off (κ l) cap,u6 (id:Int),pz w.heap.size,Aar,nl,pz (w.heap.size+1),pz (w.heap.size+1+1),i6 (x.1:Int),sq b off (κ l) cap,u6 (id:Int),i6 (i:Int),i6 (i:Int),.bool false,.bool false,sq b off (κ l) cap,i6 (i:Int),pq b (off+i*11),pq b (off+i*11+2),.bool true,.bool false,.bool false,sq b off (κ l) cap,u6 (id:Int),.func (.func 274) #[] #[pz (w.heap.size+1+1+1),pz (w.heap.size+1+1+1+1)],i6 (x.1:Int),Aar,Aar,Aar,Aar,Aar,Aar,Aar,Aar,Aar,Aar,Aar,Aar,Aar,Aar,Aar,Aar,Aar,Aar,Aar,Aar],defers:=[]}) ?assign ?body ?done ?stop
   case assign=>exact lH
   case body=>
    rintro l' pre⟨x,hx⟩W⟨⟨⟨vr,az,aj,_⟩,e0,e1,aL⟩,hB⟩hlt;simp only;obtain⟨aH,ao⟩:=aw az aj;refine Uf ?_;intro HB x3 x0 x4 b3;have aF:=an (show(eh l ow (gj pre)).length<=100000 from by have h5:=@KQ l ow (gj pre);rw[xu]at h5;have:=Da l id;omega)
    gi_wp2;refine gI (S:=λW'=>W'.cell? (ad w.heap.size 0)=some (sq b off (κ l) cap)/\W'.cell? (ad (w.heap.size+1) 0)=some (i6 (i:Int))/\W'.cell? (ad b (off+x*11+3))=some (u6 ((recAt l x).owner:Int))/\W'.cell? (ad b (off+i*11+3))=some (u6 (ow:Int))) av av (λ⟨_,_,h⟩=>h) ?_;change Acp _ _ _ _ _ 11 _ _ (W.drew);have UD:=Up.drew (Up.refl W);have F5:=an (show W.drew.cell? (ad w.heap.size 0)=some (sq b off (κ l) cap)/\W.drew.cell? (ad (w.heap.size+1) 0)=some (i6 (i:Int))/\W.drew.cell? (ad b (off+x*11+3))=some (u6 ((recAt l x).owner:Int))/\W.drew.cell? (ad b (off+i*11+3))=some (u6 (ow:Int))from⟨UD.cell e0,UD.cell e1,UD.cell x3,UD.cell x4⟩);have y0:=UD.cell x0;obtain⟨TU,KO,KP,BD,au,RW5⟩:=im (show Touch (λk=>k=w.heap.size+1+1\/vr.ownBlock=some k) W W.drew from Touch.bW UD) (yK W) (jh (p:=pT w.heap.size (w.heap.size+1+1+1) (w.heap.size+1+1+1+1)) UD) (show Below w.heap.size w W.drew from HB.trans (Below.drew (eZ _ _))) (show Boxed W.drew (w.heap.size+1+1) 156 vr from aH) (show W.drew.ownsRow (w.heap.size+1+1+1+1+1) 70 1 vr (κ (eh l ow (gj pre))) ((eh l ow (gj pre)).map cM)from Own.up ao UD);clear x0 e0 e1 x3 x4;generalize W.drew=w5 at *;refine tb 0 rfl (yc (λW hS=>hS.1)) ?_;refine br ?_;refine ta 1 ?_;refine br ?_;refine ta 2 ?_;refine br ?_;refine ta 3 ?_;refine br ?_;refine tb 4 rfl (yc (λW hS=>hS.2.2.1)) ?_;refine br ?_;refine tb 5 rfl (yc (λW hS=>hS.1)) ?_;refine br ?_;refine tb 6 rfl (yc (λW hS=>hS.2.1)) ?_;refine br ?_;refine ta 7 ?_;refine br ?_;refine ta 8 ?_;refine br ?_;refine tb 9 rfl (yc (λW hS=>hS.2.2.2)) ?_;refine br ?_;by_cases aa:(recAt l x).owner=ow
    ·have b9:((((recAt l x).owner:Nat):Int)==(ow:Int))=true:=by simp[aa]
     have ay:((((recAt l x).owner:Nat):Int) != (ow:Int))=false:=by simp[aa]
     refine y3 ?_;have HX:=an (@Qj l ow x (gj pre) aa);clear aa b9 ay;gi_wp2;exact⟨KO,KP,⟨⟨vr,au,by rw[rq,HX.out];exact RW5,trivial⟩,F5.1,F5.2.1,bN aL TU.size⟩,BD⟩
    ·have b9:((((recAt l x).owner:Nat):Int)==(ow:Int))=false:=by simp;omega
     have ay:((((recAt l x).owner:Nat):Int) != (ow:Int))=true:=ab
     refine y3 ?_;have HX:=an (@KR l ow x (gj pre) aa);clear aa b9 ay;have cb:=au.cell;gi_wp2;obtain⟨va,vc,rfl⟩:=(Own.cC (f:=cM) RW5 |>.slice);have e5:=F5.1;have UD:=an (Up.drew (Up.refl w5));replace cb:=UD.cell cb;replace y0:=UD.cell y0;replace e5:=UD.cell e5;refine yI av (zz av (λ⟨_,_,h⟩=>h) _ _ _ _ ?_);change wpAny _ _ _ _ 9 _ _ (w5.drew);generalize w5.drew=w6 at *;have aK:=bG (.cells #[u6 ((recAt l x).id:Int)] 70) cb;have UA:=an (ai w6 (.cells #[u6 ((recAt l x).id:Int)] 70));refine(λ(FIN:?G)=>?main) ?tail
     case main=>
      refine x1 2 (i6 (x:Int)) rfl ?_ (hy:=(.inl ⟨rfl,λ_=>by go_simp⟩));refine br ?_;refine GW 0 (.slice va (κ (eh l ow (gj pre))) vc) w6 1 (sq b off (κ l) cap) w6 av rfl rfl (ib 156 (.tmp 6) rfl ⟨w.heap.size+1+1,0,none⟩ rfl cb (λ_=>av)) rfl rfl (ib 71 (.tmp 2) rfl ⟨w.heap.size,0,none⟩ rfl e5 (λ_=>av)) ?_ ?_
      ·refine br ?_;refine vw 1 (sq b off (κ l) cap) w6 av rfl rfl (ib 71 (.tmp 2) rfl ⟨w.heap.size,0,none⟩ rfl e5 (λ_=>av)) ?_;refine MK ?_;exact UB
      ·refine MK ?_;refine br ?_;refine GW 0 (.slice va (κ (eh l ow (gj pre))) vc) w6 5 (u6 ((recAt l x).id:Int)) w6 av rfl rfl (ib 156 (.tmp 6) rfl ⟨w.heap.size+1+1,0,none⟩ rfl cb (λ_=>av)) rfl rfl (ib 70 (.tmp 40) rfl ⟨b,off+x*11,none⟩ rfl y0 (λ_=>av)) ?_ ?_
       ·exact UB
       ·refine br ?_;refine GW 0 (.slice va (κ (eh l ow (gj pre))) vc) w6 6 (cv w6.heap.size 1 1) (w6.alloc (.cells #[u6 ((recAt l x).id:Int)] 70)) av rfl rfl (ib 156 (.tmp 6) rfl ⟨w.heap.size+1+1,0,none⟩ rfl cb (λ_=>av)) rfl rfl (qs 156 (.tmp 41) rfl (u6 ((recAt l x).id:Int)) rfl (qn w6 _)) ?_ ?_
        ·refine br ?_;refine vw 6 (cv w6.heap.size 1 1) (w6.alloc (.cells #[u6 ((recAt l x).id:Int)] 70)) av rfl rfl (qs 156 (.tmp 41) rfl (u6 ((recAt l x).id:Int)) rfl (qn w6 _)) ?_;refine br ?_;exact FIN
        ·refine br ?_;refine vw 0 (.slice va (κ (eh l ow (gj pre))) vc) (w6.alloc (.cells #[u6 ((recAt l x).id:Int)] 70)) av rfl rfl (ib 156 (.tmp 6) rfl ⟨w.heap.size+1+1,0,none⟩ rfl aK (λ_=>av)) ?_;refine br ?_;exact FIN
     case tail=>
      refine LG 7 rfl av ?_;simp only[Abv,Aax];go_wp2_with(first
       | (at_builtin;refine bc cM qB rfl (.tmp 36) (.tmp 42) 156 rfl (w.heap.size+1+1+1+1+1) 70 (u6 0) 8 underlying156 tT rfl _ (eh l ow (gj pre)) rfl (Own.up (Own.up RW5 UD) UA) (cv w6.heap.size 1 1) [(recAt l x).id] rfl (aD.er (f:=cM) w6 w6.heap.size rfl #[u6 ((recAt l x).id:Int)] 70 (0,0) [(recAt l x).id] 1 rfl dE rfl) (by have:=aF.out;simp;omega) (by have:=aF.out;simp;omega) (by have h1:=TU.size;have h2:=UD.size;have h3:=(ai w6 (.cells #[u6 ((recAt l x).id:Int)] 70)).size;omega) ?_))
      intro v7 w7 aJ aY bk;obtain⟨TA,ax⟩:=aw (show Touch (λk=>k=w.heap.size+1+1\/(Acl va (κ (eh l ow (gj pre))) vc).ownBlock=some k) w5 w7 from(Touch.bW (UD.trans UA)).trans (Touch.bg aY (λk hk=>.inr hk)) (λn h _=>h)) (show Boxed w7 (w.heap.size+1+1) 156 (.slice va (κ (eh l ow (gj pre))) vc)from Boxed.kept (Boxed.alloc (show Boxed w6 (w.heap.size+1+1) 156 (.slice va (κ (eh l ow (gj pre))) vc)from(oA UD _ au.lt).trans au) _) aY (λe=>by have:=(iI RW5 e.symm).2;omega));obtain⟨aQ,aR⟩:=aA ax.cell ax.frozen;obtain⟨aO,aP,aI⟩:=aJ.cC.slice;rw[Aaf,List.length_singleton]at aI;subst aI;clear cb;go_wp2;have G8:=grownBy_setCell' w7 (w.heap.size+1+1) (.slice aO (κ (eh l ow (gj pre))+1) aP);obtain⟨TB,TC⟩:=aw ((TU.trans TA (λn h _=>h)).trans (Touch.bg (F:=λk=>k=w.heap.size+1+1\/(Acl va (κ (eh l ow (gj pre))) vc).ownBlock=some k) G8 (λk hk=>FC)) (λn h _=>h)) (TA.trans (Touch.bg (F:=λk=>k=w.heap.size+1+1\/(Acl va (κ (eh l ow (gj pre))) vc).ownBlock=some k) G8 (λk hk=>FC)) (λn h _=>h));refine⟨TB.others (λk hk=>hk.elim (λe=>by subst e;exact⟨_,_,_,aH⟩) (λe=>(iI ao e).1)),TB.vV (λk t hp hk=>?_),⟨⟨_,ax.set _,?_,trivial⟩,?_,?_,?_⟩,?_⟩
      ·rcases hk with rfl|e
       ·rcases hp with h|h|h<;>omega
       ·have:=(iI ao e).2;rcases hp with h|h|h<;>omega
      ·rw[rq,HX.out];exact sy aJ G8 (.inr (λe=>by have:=(iI aJ e).2;omega))
      ·exact fk F5.1 TC (λh=>h.elim (λh=>ae) (λh=>Fc))
      ·exact fk F5.2.1 TC (λh=>h.elim (λh=>ae) (λh=>Fc))
      ·exact bN aL (bN TU.size TC.size)
      ·exact TC.up BD (λn h=>h.elim (λh=>ae) (λh=>Fc))
   case done=>rintro D ys W hD aE⟨⟨⟨vr,az,aj,_⟩,_,_,_⟩,hB⟩hK;have cb:=az.cell;gi_wp2;refine za ?_;refine⟨_,sD rfl _ _ _,vr,rfl,?_,hB.trans (oF (w:=w) (aG _) W D _ _ p9 hK rfl rfl)⟩;rw[HE.out,<-aE,show ys.map (·.1)=gj ys from rfl];exact Own.mono (ownsRow_putObj aj _ hK rfl) ae
   case stop=>rintro D c pre W _ _ h _;exact h.elim
end
theorem zc3:zc Aag 3=#[.int .i64 0]:=av
theorem abI:zc Aag 70=#[.int .u64 0]:=av
def ol(b:Nat)(v:ah)(l:List Nat):As:=⟨λn=>v.ownBlock=some n,λw=>Own cM 70 w b v l,λh T hf=>h.az T hf⟩
def Gg(f:α->List ah)(k:Nat)(e:Aab)(b:Nat)(v:ah)(l:List α):As:=⟨λn=>v.ownBlock=some n,λw=>ak f k e w b v l,λh T hf=>h.az T hf⟩
section
variable {P:bx} {ops:Array Abn} {Q:Exit->Act->af->Prop} {F0:Nat->Prop} {x0:af} {L L':List As} {a:Act} {w w':af} {rest:List Abn} {o:Abn} {b B:Nat} {v:ah} {l:List au} {ys:List gM} {ty:Aab} {y z:bO} {V:Array ah} {g i j n m cap off:Nat}
def Rz.sj{A:As}(z:Rz w w' [A])(h:bf w' w.heap.size v l)(hB:B<=w.heap.size):Rz w w' [jn A (op B v l)]:=.one z.u ⟨z.p _ cV,h.mono hB⟩ λn hn=>hn.elim (z.f _ cV n) (h.aN n)
theorem Vi{q:au}(h:aH w g 87 (be q)):cX w (cv g 1 1) [q]:=.inr ⟨g,0,1,rfl,aq,aq,dE,λj u hj=>by have hj:(be q).toList[j]?=some u:=(show(dG q)[j]?=some u by simpa using hj);rw[h.cell,Abr,<-oB];exact hj⟩
theorem Fr.abA(s:Fr F0 x0 L w):Fr F0 x0 (op x0.heap.size nl []::L) w:=s.new (.one (Up.refl w) (ak.nil _ _ _ _ _) λn h=>fI)
theorem abE{S:List As}(i j:Nat){y0:gM}{u:ah}(h0:ys[i]?=some y0)(ho:o.op=.load ty (.tmp n):=by rfl)(hx:a.eval (.tmp n)=.pointer (some ⟨g,off,none⟩):=by rfl)(hm:os b (cv g m cap) ys∈S:=by exact gR)(aM:off=i*11+j:=by omega)(hv:(c9 y0)[j]?=some u:=by rfl)(hagg:∀w:af,(isAgg ty).run P w=.ok false w:=by intro _;kernel_rfl)(hw:Region.wanted o (yielded ops a.tmps)=true:=by rfl):YieldsIf P ops (Sv F0 x0 S) o u a:=zq hw ty (.tmp n) ho ⟨g,off,none⟩ hx (λw h=>by
  subst aM;obtain⟨hi,rfl⟩:=lp.1 h0;have p:ak c9 11 90 w b (cv g m cap) ys:=(h.2 _ hm).1;obtain⟨bb,of,e,_,_,hc⟩:=aI.get (ak.row p mw) mw ae;obtain⟨rfl,rfl⟩:g=bb/\0=of:=by simpa using e
  have:=hc i hi j u hv;rwa [Abr]at this) hagg
theorem fq(i j:Nat){y0:gM}(y':gM)(s:Fr F0 x0 L w)(h:∀w',Fr F0 x0 L' w'->wpList P ops Q rest (a.put o.dst undef) w')(h0:ys[i]?=some y0)(hU:mQ L (os b (cv g n cap) ys) (os b (cv g n cap) (ys.set i y')) L':=by exact vH)(av:o.op=.store ty y z:=by with_reducible rfl)(hx:a.eval y=.pointer (some ⟨g,off,none⟩):=by rfl)(aM:off=i*11+j:=by omega)(hy:(a.eval z).cells=V:=by exact zcv)(aK:c9 y'=hs (c9 y0) j V.toList:=by rfl)(hd:y'.v=y0.v/\y'.d.dead=y0.d.dead\/y'.v=nl/\y'.d.dead=[]:=by first|exact .inl ⟨rfl,rfl⟩|exact .inr ⟨rfl,rfl⟩)(aL:(P.info? ty).map (·.size)=some V.size:=by exact Rx)(h1:V.all (·.oneCell')=true:=by exact zoa)(hV:j+V.size<=11:=by first|decide|(simp[be]))(hgd:o.guard=none:=by rfl):wpList P ops Q (o::rest) a w:=by subst aM;obtain⟨C,hb,hfit,hF,hP⟩:=Ob (s.p _ hU.mem) h0 hV aK hd;exact gZ hgd λK hK=>mI av hx hy hb aL hfit h1 λw' aG hg=>hK _ _ (h w' (by have T:Touch (os b (cv g n cap) ys).F w w':=Touch.bg hg (λk e=>by cases e;exact hF);exact s.zK hU T (hP w' aG hg).1 (λn h=>⟨eg (s.f _ hU.mem n ((hP w' aG hg).2 n h)).1 T.size,.inl ((hP w' aG hg).2 n h)⟩)))
theorem Oa{da:Option Addr}{dn dc:Nat}(hi:i<κ ys):∀n',(os b v (ys.set i ⟨{ys[i].d with dead:=l},da,dn,dc⟩)).F n'->(jn (os b v ys) (op b (.slice da dn dc) l)).F n':=λn' ag=>by exact M7
theorem fqd(i:Nat){y0:gM}{L1 L2:List As}{da:Option Addr}{dn dc:Nat}(s:Fr F0 x0 L w)(h:∀w',Fr F0 x0 L2 w'->wpList P ops Q rest (a.put o.dst undef) w')(h0:ys[i]?=some y0)(hr:xT L (op b (.slice da dn dc) l) L1:=by exact RE)(hU:mQ L1 (os b (cv g n cap) ys) (jn (os b (cv g n cap) ys) (op b (.slice da dn dc) l)) L':=by exact vH)(ar:mQ L' (jn (os b (cv g n cap) ys) (op b (.slice da dn dc) l)) (os b (cv g n cap) (ys.set i ⟨{y0.d with dead:=l},da,dn,dc⟩)) L2:=by exact vH)(av:o.op=.store ty y z:=by with_reducible rfl)(hx:a.eval y=.pointer (some ⟨g,off,none⟩):=by rfl)(aM:off=i*11+10:=by omega)(hy:a.eval z=.slice da dn dc:=by rfl)(aL:(P.info? ty).map (·.size)=some 1:=by kernel_rfl)(hgd:o.guard=none:=by rfl):wpList P ops Q (o::rest) a w:=by subst aM;obtain⟨hi,rfl⟩:=lp.1 h0;have s':=s.join hr hU;obtain⟨⟨h2,h3⟩,h4⟩:=s'.p _ ar.mem;obtain⟨C,hb,hn,aE,hg,hp⟩:=ak.part mw h2 i hi;refine gZ hgd λK hK=>mI (V:=#[.slice da dn dc]) av hx yV hb aL ab Fi λw' aG hgr=>hK _ _ (h w' ?_);refine NA ?_;intro key T;refine s'.zK ar T ⟨hp _ 10 [.slice da dn dc] w' aq rfl aG,λy hy=>?_⟩ (λn' h=>⟨eg (s'.f _ ar.mem n' (Oa hi n' h)).1 T.size,.inl (Oa hi n' h)⟩);exact M8
theorem faq{q:au}{L':ah->List As}(s:Fr F0 x0 L w)(h:∀a' c' w,Fr F0 x0 (L' (.slice a' (κ l+1) c')) w->wpList P ops Q rest (a.put o.dst (.slice a' (κ l+1) c')) w)(hgd:o.guard=none:=by rfl)(ho:o.op=.call {callee:=.builtin .append,args:=#[.tmp m,.tmp n],argTypes:=#[88,88]}:=by with_reducible rfl)(hs:a.eval (.tmp m)=v:=by exact zvv)(hx:a.eval (.tmp n)=cv g 1 1:=by rfl)(hm:bk g 87 (be q)∈L:=by exact gR)(hU:∀v',mQ L (op x0.heap.size v l) (op x0.heap.size v' (l++[q])) (L' v'):=by intro _;exact vH)(ht:P.underlying 88=some (.slice 87):=by exact underlying88)(hi:(P.info? 87).map (λi=>(i.zero,i.size,i.bytes))=some (some (.agg (be hole)),3,24):=by exact cy)(hl:κ l<=1000000000:=by omega):wpList P ops Q (o::rest) a w:=eN pw hgd (.tmp m) (.tmp n) 88 ho x0.heap.size 87 _ 24 ht hi rfl v l hs (s.p _ (hU v).mem) _ [q] hx (Vi (s.e5 hm)) ab ab s.t.size λv' w' h1 h2 _ h4=>by
  obtain⟨a',c',hv⟩:=(ak.row h1 pw).slice;exact Ko
theorem far{α:Type}{f:α->List ah}{j:Nat}{e t:TypeId}{xs:List α}{C:Array ah}{zv:ah}{bytes:Nat}(hw:hL f j)(x:α){L':ah->List As}(s:Fr F0 x0 L w)(h:∀a' c' w,Fr F0 x0 (L' (.slice a' (κ xs+1) c')) w->wpList P ops Q rest (a.put o.dst (.slice a' (κ xs+1) c')) w)(hgd:o.guard=none:=by rfl)(ho:o.op=.call {callee:=.builtin .append,args:=#[.tmp m,.tmp n],argTypes:=#[t,t]}:=by with_reducible rfl)(hs:a.eval (.tmp m)=v:=by exact zvv)(hx:a.eval (.tmp n)=cv g 1 1:=by rfl)(hm:bk g e C∈L:=by exact gR)(hC:C.toList=f x:=by rfl)(hU:∀v',mQ L (Gg f j e x0.heap.size v xs) (Gg f j e x0.heap.size v' (xs++[x])) (L' v'):=by intro _;exact vH)(ht:P.underlying t=some (.slice e):=by exact hM)(hi:(P.info? e).map (λi=>(i.zero,i.size,i.bytes))=some (some zv,j,bytes):=by assumption)(hz:zv.cells.size=j:=by rfl)(hb:(κ xs+1)*bytes<=140737488355328:=by omega)(hl:κ xs+1<=9223372036854775807:=by omega):wpList P ops Q (o::rest) a w:=eN hw hgd (.tmp m) (.tmp n) t ho x0.heap.size e zv bytes ht hi hz v xs hs (s.p _ (hU v).mem) _ [x] hx (.inr ⟨g,0,1,rfl,aq,aq,dE,λi u hj=>by
  have hj:C.toList[i]?=some u:=by rw[hC];simpa using hj
  rw[(s.e5 hm).cell,Abr,<-oB];exact hj⟩) (by simpa using hb) (by simpa using hl) s.t.size λv' w' h1 h2 _ h4=>by
  obtain⟨a',c',hv⟩:=(ak.row h1 hw).slice;exact Ko
theorem Fr.ZA{α:Type}{f:α->List ah}{j:Nat}{e:Aab}(s:Fr F0 x0 L w):Fr F0 x0 (Gg f j e x0.heap.size nl []::L) w:=s.new (.one (Up.refl w) (ak.nil _ _ _ _ _) λn h=>fI)
theorem Fr.row{α:Type}{f:α->List ah}{j:Nat}{e:TypeId}{xs:List α}(s:Fr F0 x0 L w)(h:Gg f j e b v xs∈L:=by exact gR):ak f j e w b v xs:=s.p _ h
end
section
open Go.Shelf
attribute [local go_sem] kr
def hF(l:List al)(ow:Nat)(xs:List Nat):List Nat:=xs.filter (λj=>decide ((recAt l j).owner=ow))
theorem QJ{l:List al}{ow x:Nat}{xs:List Nat}(h:(recAt l x).owner=ow):κ (hF l ow (xs++[x]))=κ (hF l ow xs)+1:=by grind [hF]
theorem Vo{l:List al}{ow x:Nat}{xs:List Nat}(h:(recAt l x).owner≠ow):κ (hF l ow (xs++[x]))=κ (hF l ow xs):=by grind [hF]
def QI{l:List al}{ow:Nat}{xs:List Nat}:κ (hF l ow xs)<=κ xs:=p5 _ _
def mg(l:List al)(x:al):Bool:=if x.aU=true then(match aV l x.owner with
 | none=>false
 | some i=>if(recAt l i).aU=true then false else decide (κ (hF l x.owner (fP l x.id))=1))else true
section
variable {l:List al} {x:al} {i:Nat}
theorem Ih(h:x.aU=false):mg l x=true:=by grind [mg]
theorem U8(h:x.aU=true)(h1:aV l x.owner=none):mg l x=false:=by grind [mg]
theorem U9(h:x.aU=true)(h1:aV l x.owner=some i)(h2:(recAt l i).aU=true):mg l x=false:=by grind [mg]
theorem Ii(h:x.aU=true)(h1:aV l x.owner=some i)(h2:(recAt l i).aU=false):mg l x=decide (κ (hF l x.owner (fP l x.id))=1):=by grind [mg]
end
theorem boxed_own{W W':af}{row:Option Nat}{B:Nat}{t:Aab}{v:ah}(hv:Boxed W B t v)(hg:W.grownBy W' row)(aj:∀r,row=some r->∃o:Obj,W.heap[r]?=some o/\o.isCells=false):Boxed W' B t v:=hv.kept hg (λe'=>by
  obtain⟨o,ho,hc⟩:=aj B e'.symm;rw[show W.heap[B]?=_ from hv]at ho;cases ho;cases hc)
theorem Bp(w:af)(b off n cap:Nat)(l:List al)(hv:cB w (sq b off n cap) l)(hl:κ l<=100000)(k:Nat)(hk:k<κ l):Aae Aag 185 #[sq b off n cap,pq b (off+k*11)] w λe w'=>e=.returned (.bool (mg l (recAt l k)))/\Up w w':=by
 obtain⟨_,_,aC,hbs,da,dc,rg,_⟩:=cn hv hk;simp only[Aai,Abd,and_true]at aC;obtain⟨rfl,rfl⟩:=aC;obtain rfl:n=κ l:=Tu
 obtain⟨c0,_,c2,c3,_⟩:=cd rg;obtain⟨w0,rfl⟩:=bK w;have s:=Fr.start w0;refine Y5 6 func185 ?_;simp only[ntmps185,Abh,Aal,Aa5,Nat.reduceAdd,Nat.reduceSub,Aa6,Aa7,Abj,Aa9,Aay,Aa2];cases hs:(recAt l k).aU with
 | false=>rw[hs]at c2;go_wp2_with(refine fw s ?_;intro _ w s);refine En s ?_;exact⟨by rw[@Ih l _ hs];rfl,s.pure⟩
 | true=>
  rw[hs]at c2;go_wp2_with(refine fw s ?_;intro _ w s);refine kb s (λw s=>?_);repeat refine kt ?_
  refine kc (λw _ s=>jl w _ l (hv.up s.pure) (recAt l k).owner) ?_;rintro w _ s _ _⟨rfl,rfl⟩;refine lK ?_;repeat refine kt ?_
  refine kd (λw u s=>?_);cases h1:aV l (recAt l k).owner with
  | none=>simp only[fF];go_wp2_with(refine fw s ?_;intro _ w s);refine En s ?_;exact⟨by rw[U8 hs h1];rfl,s.pure⟩
  | some i=>
   obtain⟨hi,_⟩:=dH h1;obtain⟨_,_,aC,_,aM,aN,aB,_⟩:=cn hv hi;simp only[Aai,Abd,and_true]at aC;obtain⟨rfl,rfl⟩:=aC;refine lJ ?_;intro b1 b2;have s2:=(cd aB).2.2.1;simp only[fF];cases ag:(recAt l i).aU with
   | true=>rw[ag]at s2;go_wp2_with(refine fw s ?_;intro _ w s);refine En s ?_;exact⟨by rw[U9 hs h1 ag];rfl,s.pure⟩
   | false=>
    rw[ag]at s2;go_wp2_with(refine fw s ?_;intro _ w s);refine kb s (λw s=>?_);repeat refine kt ?_
    refine Df (λw _ s=>pV w (some (ad b off)) (κ l) cap (recAt l k).id) ?_;rintro w _ s _ _⟨rfl,rfl⟩;obtain⟨ua,ub⟩:=aA (ai w (.cells #[sq b off (κ l) cap] 71)) (ai (w.alloc (.cells #[sq b off (κ l) cap] 71)) (.cells #[u6 ((recAt l k).id:Int)] 70));refine⟨_,jn (bk w.heap.size 71 #[sq b off (κ l) cap]) (bk (w.heap.size+1) 70 #[u6 ((recAt l k).id:Int)]),rfl,.one (ua.trans ub) ⟨(aH.new ..).up ub,by have:=aH.new (w.alloc (.cells #[sq b off (κ l) cap] 71)) 70 #[u6 ((recAt l k).id:Int)];rwa [aL]at this⟩ (λn hn=>?hn),?_⟩
    case hn=>rcases hn with hn|hn<;>(have hn:n=_:=hn;simp only[Aa3];omega)
    generalize w.heap.size=B1 at *;refine kd (λw u s=>?_);change Fr no _ [_,bk ?g2 3 _,bk ?g1 84 _,bk ?g0 71 _] _ at s;go_wp2_with fail;refine wpIn_wide (n:=6).1 ?_;obtain⟨d3,d4⟩:=s.p (jn (bk B1 71 _) (bk (B1+1) 70 _)) cV;have e2:aH w ?g2 3 _:=s.e5 gR;have e1:aH w ?g1 84 _:=s.e5 gR;have e0:aH w ?g0 71 _:=s.e5 gR;have CX:∀x,x<κ l->w0.cell? (ad b (off+x*11+3))=some (u6 ((recAt l x).owner:Int)):=λx hx=>by obtain⟨b',ak,aC,_,aM,aN,aB,_⟩:=cn hv hx;simp only[Aai,Abd,and_true]at aC;obtain⟨rfl,rfl⟩:=aC;exact(cd aB).2.2.2.1
    have G2:w0.heap.size<=?g2/\?g2≠B1/\?g2≠B1+1:=⟨((s.f (bk ?g2 3 _) gR ?g2 rfl).2).resolve_left id,fj e2 d3 ax,fj e2 d4 ax⟩;have HE:=@Ii l _ i hs h1 ag;change Code.wpIn _ _ _ _ _ ⟨?t,_⟩ _;refine wi (F:=Abw) rfl ae (gf:=274) (lb:=#[pz B1,pz (B1+1)]) rfl trivial (enters_of func274 av rfl) (pU 5 ae B1 (B1+1) w0.heap.size _ l (recAt l k).id w d3.lt d4.lt (d3.cell 0) (d4.cell 0) (hv.up s.pure) (λa' m c h=>by cases h;exact hbs)) cY.trans jD (eZ _ _) (λ_=>rfl) (λpre W=>(Boxed W ?g0 71 (sq b off (κ l) cap)/\Boxed W ?g1 84 (pq b (off+k*11))/\Boxed W ?g2 3 (i6 (κ (hF l (recAt l k).owner (gj pre)):Int)))/\Below w0.heap.size w0 W) (λ_ _ _=>False) (nH (Own.from (λs A B row hs hg hr=>⟨boxed_own hs.1 hg hr,boxed_own hs.2.1 hg hr,boxed_own hs.2.2 hg hr⟩) _) (oE (aG _) s.pure.size)) (λ_ _ _ _ _ hs _ _=>hs) ⟨⟨e0,e1,e2⟩,s.pure⟩ (λx=>Aas (Aas ⟨?t,[]⟩ (some 34) (i6 (x.1:Int))) (some 7) (i6 (x.1:Int))) ?assign ?body ?done ?stop
    case assign=>exact lH
    case stop=>exact λ_ _ _ _ _ _ h=>h.elim
    case done=>
     rintro D ys W hD aE⟨⟨_,_,qb⟩,hB⟩hK;have cb:=qb.cell;have ar:mg l (recAt l k)=((κ (hF l (recAt l k).owner (gj ys)):Int)==1):=by rw[HE,<-aE,show ys.map (·.1)=gj ys from rfl,AP];simp;omega
     gi_wp2;go_wp2;refine za ?_;exact⟨_,sD rfl _ _ _,by rw[ar]<;>rfl,hB.trans (oF (w:=w0) (aG _) W D _ _ (by have:=s.pure.size;omega) hK rfl rfl)⟩
    case body=>
     rintro l' pre⟨x,hx⟩W⟨⟨q0,q1,qb⟩,hB⟩hlt;simp only[Aas,gh];have x3:=hB.cell (p:=⟨b,off+x*11+3,none⟩) hbs;rw[CX x hx]at x3;have x4:=hB.cell (p:=⟨b,off+k*11+3,none⟩) hbs;rw[c3]at x4;have b3:((x:Int)<(κ l:Int))=True:=ab
     have aF:κ (hF l (recAt l k).owner (gj pre))<=100000:=by have h5:=@QI l (recAt l k).owner (gj pre);rw[xu]at h5;have:=Da l (recAt l k).id;omega
     have s:=Fr.from (A:=bk ?g2 3 #[i6 (κ (hF l (recAt l k).owner (gj pre)):Int)]) qb (λn hn=>by rw[show n=_ from hn];exact aH.lt qb);have n0:¬(bk ?g2 3 #[i6 (κ (hF l (recAt l k).owner (gj pre)):Int)]).F ?g0:=fj q0 qb ax;have n1:¬(bk ?g2 3 #[i6 (κ (hF l (recAt l k).owner (gj pre)):Int)]).F ?g1:=fj q1 qb ax;have nb:¬(bk ?g2 3 #[i6 (κ (hF l (recAt l k).owner (gj pre)):Int)]).F b:=by show b≠_;omega
     have aj:=q0;have aq:=q1;replace q0:=aH.cell q0 0;replace q1:=aH.cell q1 0;gi_wp2;refine kbR s (λw s=>?_);repeat refine kt ?_
     refine kd (λw _ s=>?_);by_cases aa:(recAt l x).owner=(recAt l k).owner
     ·have b9:((((recAt l x).owner:Nat):Int)==((recAt l k).owner:Int))=true:=by simp[aa]
      have HX:=@QJ l (recAt l k).owner x (gj pre) aa;have aI:IntKind.i64.wrap ((κ (hF l (recAt l k).owner (gj pre)):Int)+1)=((κ (hF l (recAt l k).owner (gj pre))+1:Nat):Int):=by rw[show((κ (hF l (recAt l k).owner (gj pre)):Int)+1)=((κ (hF l (recAt l k).owner (gj pre))+1:Nat):Int)from ae];exact aY _ ae
      gi_wp2_with(refine mZ (λ⟨_,_,h⟩=>h) av ?_);refine an ?_;go_wp2_with(refine fw s ?_;intro _ w s);have T:=s.t;exact⟨Touch.others T (λk hk=>Tw),T.vV (λk t hp hk=>Tq),⟨aH.az aj T n0,aH.az aq T n1,by rw[rq,HX,Int.natCast_add];exact s.p _ cV⟩,T.up hB (λk hk=>by rw[show k=_ from hk];omega)⟩
     ·have b9:((((recAt l x).owner:Nat):Int)==((recAt l k).owner:Int))=false:=by simp;omega
      have HX:=@Vo l (recAt l k).owner x (gj pre) aa;gi_wp2;have T:=s.t;exact⟨Touch.others T (λk hk=>Tw),T.vV (λk t hp hk=>Tq),⟨aH.az aj T n0,aH.az aq T n1,by rw[rq,HX];exact s.e5 gR⟩,T.up hB (λk hk=>by rw[show k=_ from hk];omega)⟩
end
def iu(fl:Nat)(ds:List au):Bool:=ds.all (λp=>decide (p.aT<=fl))
theorem w8{fl k:Nat}{ds:List au}(hk:k<κ ds)(h:iu fl (ds.take k)=true):iu fl (ds.take (k+1))=decide (ds[k].aT<=fl):=by unfold iu at *;rw[en hk,List.all_append,h];simp
theorem CZ{fl k:Nat}{ds:List au}(hk:k<κ ds)(h:¬ds[k].aT<=fl):iu fl ds=false:=by grind [iu]
def ox(l:List al)(x:al):Bool:=if x.prev=0 then iu 0 x.dead else match aV l x.prev with
 | none=>false
 | some i=>if(recAt l i).aU=false then false else if x.aU=true/\x.ar<=(recAt l i).ar then false else iu (recAt l i).ar x.dead
section
variable {l:List al} {x:al} {i:Nat}
theorem Hr(h:x.prev=0):ox l x=iu 0 x.dead:=ur
theorem SC(h:¬x.prev=0)(h1:aV l x.prev=none):ox l x=false:=ur
theorem SD(h:¬x.prev=0)(h1:aV l x.prev=some i)(h2:(recAt l i).aU=false):ox l x=false:=ur
theorem SE(h:¬x.prev=0)(h1:aV l x.prev=some i)(h2:(recAt l i).aU=true)(h3:x.aU=true/\x.ar<=(recAt l i).ar):ox l x=false:=ur
theorem Hs(h:¬x.prev=0)(h1:aV l x.prev=some i)(h2:(recAt l i).aU=true)(h3:¬(x.aU=true/\x.ar<=(recAt l i).ar)):ox l x=iu (recAt l i).ar x.dead:=ur
end
theorem z1(w:af)(b off n cap:Nat)(l:List al)(hv:cB w (sq b off n cap) l)(k:Nat)(hk:k<κ l):Aae Aag 184 #[sq b off n cap,pq b (off+k*11)] w λe w'=>e=.returned (.bool (ox l (recAt l k)))/\Up w w':=by
 obtain⟨_,_,aC,hbs,da,dc,rg,dp⟩:=cn hv hk;simp only[Aai,Abd,and_true]at aC;obtain⟨rfl,rfl⟩:=aC;obtain rfl:n=κ l:=Tu
 obtain⟨HV,DP⟩:=aw hv dp;obtain⟨_,_,c2,_,c4,c5,_,_,zI⟩:=cd rg;obtain⟨ag,aj,ak,ao,au⟩:=eI (@Hr l (recAt l k)) (@SC l (recAt l k)) (λi=>@SD l (recAt l k) i) (λi=>@SE l (recAt l k) i) (λi=>@Hs l (recAt l k) i);generalize ox l (recAt l k)=eb at *;generalize recAt l k=x at *;have aK:=aI.length_le DP;by_cases h0:x.prev=0
 ·have HE:=an (ag h0);rw[h0]at c4;clear h0 ag aj ak ao au;go_in;go_wp2;go_loopw [52] (λi wr=>∃j:Nat,j<=κ x.dead/\i=i6 j/\iu (0) (x.dead.take j)=true/\Up w wr) (λi _=>κ x.dead-(Aat i).toNat)
  case atStart=>exact⟨0,bE _,rfl,by simp[iu],Up.refl _⟩
  case round=>
   obtain⟨j,hj,rfl,hd,ur⟩:=hrel;obtain⟨HD,UR⟩:=aw hd ur;clear hd;by_cases hlt:j<κ x.dead
   ·have b8:((j:Int)<(κ x.dead:Int))=True:=by simp;omega
    obtain⟨pb,po,aF,_,_,hc⟩:=aI.range (aI.up DP UR) pw ae;subst aF;obtain⟨RC,DT,DN,BX⟩:=bR (hc j hlt) (w8 hlt HD) (@CZ (0) j x.dead hlt) (aH.new wr 87 (be x.dead[j]));have cb:(wr.alloc (.cells (be x.dead[j]) 87)).cell? (ad wr.heap.size 1)=some (u6 (x.dead[j].aT:Int)):=by rw[BX.out.cell];rfl
    have U2:=an (UR.trans (ai wr (.cells (be x.dead[j]) 87)));generalize x.dead[j]=p at *;clear hc;by_cases hb:p.aT<=0
    ·have b9:(0<p.aT)=False:=by simp;omega
     have av:=an (DT.trans (gD hb));clear hb;go_wp2_with(first
      | refine cK 87 54 (be p) RC ?_
      | refine bD 87 e8 ?_
      | refine ed 87 8 55 wr (be p) 87 (be hole) ?_)
     go_roundw
     case rel=>exact⟨j+1,ae,aq,av,U2⟩
     case measure=>simp only[Aat];omega
    ·have b9:(0<p.aT)=True:=by simp;omega
     have DF:=an (HE.trans (DN hb));clear hb;go_wp2_with(first
      | refine cK 87 54 (be p) RC ?_
      | refine bD 87 e8 ?_
      | refine ed 87 8 55 wr (be p) 87 (be hole) ?_)
     go_ret;exact⟨by rw[DF.out];rfl,U2⟩
   ·exact Ki
 ·have b0:((x.prev:Int)==(0:Int))=false:=by simp;omega
  have ax:((x.prev:Int) != (0:Int))=true:=ab
  have P1:=an ((λp=>jl w _ l hv p) x.prev);cases h1:aV l x.prev with
  | none=>have HE:=an (aj h0 h1);rw[h1]at P1;unfold fF at P1;clear h0 h1 ag aj ak ao au;exact Kj
  | some i=>
   obtain⟨H0,H1⟩:=aw h0 h1;rw[h1]at P1;unfold fF at P1;obtain⟨hi,_⟩:=dH h1;obtain⟨_,_,aC,_,aM,aN,aB,_⟩:=cn HV hi;simp only[Aai,Abd,and_true]at aC;obtain⟨rfl,rfl⟩:=aC;refine lJ ?_;intro b1 b2;obtain⟨_,_,s2,_,_,s5,_⟩:=cd aB;clear h1 h0;cases hs:(recAt l i).aU with
   | false=>have HE:=an (ak i H0 H1 hs);rw[hs]at s2;clear hs ag aj ak ao au;exact Kj
   | true=>
    by_cases h3:x.aU=true/\x.ar<=(recAt l i).ar
    ·have HE:=an (ao i H0 H1 hs h3);rw[hs]at s2;rw[h3.1]at c2;have b5:(((recAt l i).ar:Int)>=(x.ar:Int))=True:=by have:=h3.2;simp;omega
     clear hs h3 ag aj ak ao au;exact Kj
    ·have HE:=an (au i H0 H1 hs h3);rw[hs]at s2;clear hs ag aj ak ao au;obtain⟨fl,aD⟩:=bK ((recAt l i).ar);rw[<-aD]at s5 HE h3;clear aD;cases aa:x.aU with
     | false=>
      rw[aa]at c2;clear h3 aa;go_in;go_wp2_with fail;refine q4 ?_;intro w2;go_wp2;go_loopw [52] (λi wr=>∃j:Nat,j<=κ x.dead/\i=i6 j/\iu (fl) (x.dead.take j)=true/\Up w wr) (λi _=>κ x.dead-(Aat i).toNat)
      case atStart=>exact⟨0,bE _,rfl,by simp[iu],Up.refl _⟩
      case round=>
       obtain⟨j,hj,rfl,hd,ur⟩:=hrel;obtain⟨HD,UR⟩:=aw hd ur;clear hd;by_cases hlt:j<κ x.dead
       ·have b8:((j:Int)<(κ x.dead:Int))=True:=by simp;omega
        obtain⟨pb,po,aF,_,_,hc⟩:=aI.range (aI.up DP UR) pw ae;subst aF;refine Mv ?_;intro RC DT DN BX cb;have U2:=an (UR.trans (ai wr (.cells (be x.dead[j]) 87)));generalize x.dead[j]=p at *;clear hc;by_cases hb:p.aT<=fl
        ·have b9:(((p.aT:Nat):Int)>(fl:Int))=False:=by simp;omega
         have av:=an (DT.trans (gD hb));clear hb;go_wp2_with(first
          | refine cK 87 54 (be p) RC ?_
          | refine bD 87 e8 ?_
          | refine ed 87 8 55 wr (be p) 87 (be hole) ?_)
         go_roundw
         case rel=>exact⟨j+1,ae,aq,av,U2⟩
         case measure=>simp only[Aat];omega
        ·exact UC
       ·exact Ki
     | true=>
      rw[aa]at c2;have b5:((fl:Int)>=(x.ar:Int))=False:=by have:¬x.ar<=fl:=λh=>h3 ⟨aa,h⟩;simp;omega
      clear h3 aa;go_in;go_wp2_with fail;refine q4 ?_;intro w2;go_wp2;go_loopw [52] (λi wr=>∃j:Nat,j<=κ x.dead/\i=i6 j/\iu (fl) (x.dead.take j)=true/\Up w wr) (λi _=>κ x.dead-(Aat i).toNat)
      case atStart=>exact⟨0,bE _,rfl,by simp[iu],Up.refl _⟩
      case round=>
       obtain⟨j,hj,rfl,hd,ur⟩:=hrel;obtain⟨HD,UR⟩:=aw hd ur;clear hd;by_cases hlt:j<κ x.dead
       ·have b8:((j:Int)<(κ x.dead:Int))=True:=by simp;omega
        obtain⟨pb,po,aF,_,_,hc⟩:=aI.range (aI.up DP UR) pw ae;subst aF;refine Mv ?_;intro RC DT DN BX cb;have U2:=an (UR.trans (ai _ (.cells (be x.dead[j]) 87)));generalize x.dead[j]=p at *;clear hc;by_cases hb:p.aT<=fl
        ·have b9:(((p.aT:Nat):Int)>(fl:Int))=False:=by simp;omega
         have av:=an (DT.trans (gD hb));clear hb;go_wp2_with(first
          | refine cK 87 54 (be p) RC ?_
          | refine bD 87 e8 ?_
          | refine ed 87 8 55 wr (be p) 87 (be hole) ?_)
         go_roundw
         case rel=>exact⟨j+1,ae,aq,av,U2⟩
         case measure=>simp only[Aat];omega
        ·exact UC
       ·exact Ki
section
open Go.Maps
theorem W3:laidOutB Aag=true:=av
theorem S8:prog.keyTypeAt 3 246=true:=av
theorem S9:(match prog.underlying 246 with|some (.array _ _)|some (.struct _)=>true|_=>false)=true:=av
theorem yi:Keyed Aag 246:=Keyed.of_law (deep_law_laid W3 (m:=3) ae (iy ay) S8 S9)
theorem S7(c:jt)(h1:c.owner<18446744073709551616)(h2:κ c.name<=9223372036854775807):∃kl,keyOf Aag 246 (.agg (eA c))=some kl:=by
 have hw:(Lit.int .u64 (c.owner:Int)).wf=true:=by exact Nf
 have hs:(strOf c.name).size<=maxLen:=cm
 have hf:(Value.agg (eA c)).formed Aag 246=true:=av
 have hk:prog.keyType 246=true:=av
 have hc:prog.cellsOf 246=2:=av
 have h1:prog.cellsOf 70=1:=av
 have h2:prog.cellsOf 9=1:=av
 have key:∀d,prog.keyLits (d+2) 246 [.int .u64 (c.owner:Int),.string (strOf c.name)]=some [.int .u64 (c.owner:Int),.string (strOf c.name).data.toList]:=λd=>by simp[Program.keyLits,underlying246,underlying70,underlying9,hc,h1,h2,hw,hs]
 unfold keyOf;rw[underlying246];simp only[hk,hf,Bool.and_self,if_true];have h0:(decide (1<=prog.types.size))=true:=av
 have h0:=iy h0;have aL:∃d,prog.types.size+1=d+2:=⟨prog.types.size-1,ae⟩;obtain⟨d,hd⟩:=aL;rw[hd];show ∃kl,(prog.keyLits (d+2) 246 [.int .u64 (c.owner:Int),.string (strOf c.name)]).map _=some kl;simp_all
end
section
open Go.Maps
def AI(l:List al):Nat->Nat
 | 0=>0
 | k+1=>(recAt l k).id
structure YV(next:Nat)(l:List al):Prop where
 nx:next<=281474976710655
 len:κ l<=32
 rt:∀x∈l,cD x=true
 up:∀k(h:k<κ l),AI l k<(recAt l k).id/\(recAt l k).id<next
 nd:(l.map bY).Nodup
 el:∀k,k<κ l->ox l (recAt l k)=true
 ow:∀k,k<κ l->mg l (recAt l k)=true
def mO(D:DataW Unit)(cs:List jt):Prop:=IsMap D/\∀c:jt,∀kl,keyOf Aag 246 (.agg (eA c))=some kl->Maps.has D kl=decide (c∈cs)
theorem OW{c d:jt}(h:Value.agg (eA c)=.agg (eA d)):c=d:=by obtain⟨a,s⟩:=c;obtain⟨a2,s2⟩:=d;grind [eA,BZ]
theorem UM(h:cD x=true):κ x.name<=24:=by grind [bH,oO]
theorem mO.nil:mO (.map []) []:=⟨isMap_empty,λc kl _=>rfl⟩
theorem mO.put{D:DataW Unit}{cs:List jt}(h:mO D cs){c:jt}{kl:Lit}(hk:keyOf Aag 246 (.agg (eA c))=some kl)(d:DataW Unit):mO (D.put kl d) (cs++[c]):=by
 refine⟨?_,λc' ab aa=>?_⟩
 ·exact h.1.put _ _
 ·by_cases e:c'=c
  ·subst e;rw[hk]at aa;cases aa;rw[has_put_same h.1 (yi.key hk)];simp
  ·have hne:ab≠kl:=λe'=>e (OW (yi.inj aa (e' ▸ hk)));rw[has_put_other hne,h.2 c' ab aa];simp[e]
theorem JU(w:af)(next:Nat)(v:ah)(l:List al)(hv:cB w v l)(aT:∀x∈l,x.wf)(F:YV next l):Aae Aag 116 #[u6 (next:Int),v] w λe w'=>e=.returned (.bool true)/\Up w w':=by
 obtain⟨a,cap,rfl⟩:=hv.slice;obtain⟨HV,HF,aY⟩:=aW hv F aT;obtain⟨aC,aN⟩:=aA F.nx F.len;have b1:((next:Int)>(281474976710655:Int))=False:=ab
 have b2:((κ l:Int)>32)=False:=ab
 have aU:=@run_makeMap Aag;clear aT;go_in;go_wp2;clear b1 b2;clear aU;have ZE:=an (λW:af=>(lq (P:=Aag) (t:=3) (v:=.int .i64 0) (n:=1) av).1 W);go_loopw [6,23] (λls i wr=>∃k:Nat,k<=κ l/\i=.int .i64 k/\ls=u6 (AI l k:Int)/\(∃D,wr.ownsMap Aag 246 (plainElem (H:=Unit) Aag 3) w.heap.size k D/\mO D ((l.take k).map bY))/\Up w wr) (λ_ i _=>κ l-(Aat i).toNat)
 case atStart=>exact⟨0,bE _,rfl,rfl,⟨_,(E6 w Aag 246 (plainElem (H:=Unit) Aag 3)),mO.nil⟩,(ai w _)⟩
 case round=>
  obtain⟨k,hk,rfl,rfl,⟨D,hown,aj⟩,ur⟩:=hrel;obtain⟨OW,HK,UR⟩:=aW hown aj ur;by_cases hlt:k<κ l
  ·refine oL ?_;intro b3;obtain⟨b,off,rfl,hbs,da,dc,rg,dp⟩:=cn (HV.up UR) hlt;obtain⟨RG,SR⟩:=aw rg (BW _ _ _ dp);have ag:recAt l k∈l:=by rw[b' hlt];exact cJ hlt
   rw[HF.out.rt _ ag]at SR;have ar:=HF.up k hlt;have b4:((((recAt l k).id:Nat):Int)<=(AI l k:Int))=False:=ab
   have b5:((((recAt l k).id:Nat):Int)>=(next:Int))=False:=ab
   have WX:=aY _ ag;have TK:=an (show(l.take (k+1)).map bY=(l.take k).map bY++[bY (recAt l k)] from Kc);have NI:=an (show bY (recAt l k) ∉ (l.take k).map bY from by have h:=HF.nd;rw[<-fH (k+1) l,Aao,TK.out,Aa8]at h;have:=(ug.1 h).2.2;intro hm;exact this _ hm _ aq rfl)
   have KC:=an (S7 (bY (recAt l k)) (by unfold bY;split<;>simp;exact WX.2.1) (by
    have:(bY (recAt l k)).name=(recAt l k).name:=by unfold bY;split<;>rfl
    rw[this];have:=(UM (HF.rt _ ag));omega))
   have NX:=an (show AI l (k+1)=(recAt l k).id from rfl);generalize AI l k=ls at *;have c0:=(cd rg).1;clear ag ar;generalize recAt l k=x at *;go_wp2_with(refine arm ?_);refine SR.mono ?_;rintro e w4⟨rfl,u4⟩;have U4:=an (UR.trans u4);replace c0:=u4.cell c0;have CO:=an (zJ w4 b (off+k*11) x _ (λj u hj=>u4.cell (RG j u hj)));generalize bY x=c at *;obtain⟨kl,hkl⟩:=KC.out;have aI:=an hkl;have hh:Maps.has D kl=false:=by rw[HK.out.2 c kl hkl];exact iY NI
   have HH:=an hh;clear hkl hh KC;go_wp2_with fail;refine CO.mono ?_;rintro e w5⟨rfl,u5⟩;obtain⟨U5,O5,U6⟩:=aW (U4.trans u5) ((OW.kept (l6 u4) aq).kept (l6 u5) aq) (ai w5 (.cells (eA c) 246));have O6:=an (O5.kept (l6 U6) aq);have hh:=HH.out;clear c0;go_wp2_with(first
    | refine arm ?_
    | (at_lookup;refine wpList_lookup_own_ok_int _ rfl (.tmp 57) (.tmp 58) 265 rfl 246 3 .i64 yi underlying265 underlying3 (ZE _) w.heap.size k D rfl O6 _ kl rfl aI ?_;intro cz Cr aO)
    | (at_mapUpdate;refine wpList_mapUpdate_own _ rfl (.tmp 63) (.tmp 64) (.tmp 65) 265 rfl 246 3 yi underlying265 _ w.heap.size k D rfl O6 dE _ _ kl rfl rfl aI _ [] (plainElem_int underlying3 (WalkArith.wf_i64 ae)) ?_))
   intro w7 ak ad;obtain⟨U7,au⟩:=aw ((U5.trans U6).grown ad (λkk ao=>by cases ao;exact aG _)) (show mO (D.put kl (.lit (.int .i64 (k:Int)))) ((l.take (k+1)).map bY)from by rw[TK.out];exact HK.put aI _);clear hh HH;go_wp2;go_roundw
   case rel=>exact⟨k+1,ae,aq,by rw[NX.out],⟨_,ak,au⟩,U7⟩
   case measure=>simp only[Aat];omega
  ·obtain rfl:k=κ l:=by omega
   have b3:((κ l:Int)<(κ l:Int))=False:=aq
   go_wp2;obtain⟨w0,aF⟩:=bK (wr);subst aF;go_loopw [69] (λi wr=>∃k:Nat,k<=κ l/\i=.int .i64 k/\Up w wr) (λi _=>κ l-(Aat i).toNat)
   case atStart=>exact⟨0,bE _,rfl,UR⟩
   case round=>
    obtain⟨k,aa,rfl,ur⟩:=hrel;clear b3;by_cases hlt:k<κ l
    ·have b4:((k:Int)<(κ l:Int))=True:=by simp;omega
     obtain⟨b,off,rfl,hbs,_,_,_,_⟩:=cn (HV.up ur) hlt;have EL:=an (z1 _ b _ _ _ l (HV.up ur) k hlt);rw[HF.out.el k hlt]at EL;go_wp2_with fail;refine EL.mono ?_;rintro e w4⟨rfl,u4⟩;have U4:=an (ur.trans u4);have OR:=an (Bp _ b _ _ _ l (HV.up U4) ae k hlt);rw[HF.out.ow k hlt]at OR;go_wp2_with fail;refine OR.mono ?_;rintro e w5⟨rfl,u5⟩;have U5:=an (U4.trans u5);go_wp2;go_roundw
     case rel=>exact⟨k+1,ae,aq,U5⟩
     case measure=>simp only[Aat];omega
    ·obtain rfl:k=κ l:=by omega
     have b4:((κ l:Int)<(κ l:Int))=False:=aq
     go_wp2;go_ret;exact⟨rfl,ur⟩
end
theorem Gm{fn:Func}{p u v z:Tmp}{ty:Aab}(h:fn.results=#[.cell p ty,.tmp u,.tmp v,.tmp z])(tmps:Array ah)(P:bx)(w:af)(g:Nat)(t:Aab)(C:Array ah)(x y r:ah)(hp:tmps.getD p Aar=pz g)(hu:tmps.getD u Aar=x)(hv:tmps.getD v Aar=y)(hz:tmps.getD z Aar=r)(hb:aH w g t C)(d:eJ)(hd:P.underlying ty=some d)(hr:d.isRow=true)(hi:(P.info? ty).map (·.size)=some C.size):(results fn tmps).run P w=.ok (.tuple #[.agg C,x,y,r]) w:=by
 simp only[results,h];have aJ:tmps[p]?.getD Aar=pz g:=aa
 have ab:tmps[u]?.getD Aar=x:=aa
 have ao:tmps[v]?.getD Aar=y:=aa
 have az:tmps[z]?.getD Aar=r:=aa
 simp[Aaw,Aap,hp,aJ,hu,ab,hv,ao,hz,az,asAddr,ij (P:=P) ty g t C hb d hd hr hi]
theorem CA{next:Nat}{b:List aj}(h:eV next l=some b):lC next l=some b:=by grind [eV,lC]
def RQ(H:aP)(P:bu)(next:Nat)(l:List al)(set:List bM)(ps:List au)(w:af)(e:Ab1)(w':af):Prop:=∃v u z,e=.returned (.tuple #[.agg (aS next v),u,z,.int .i64 0])/\bq w' w.heap.size v l/\hV w' w.heap.size u set/\bf w' w.heap.size z ps/\PG w H P w'
theorem Dn(w:af)(H:aP)(P:bu)(A:PA w H P)(q:au)(b sp:List aj)(ps:List au)(M:lh P.C q b sp ps)(next:Nat)(l:List al)(hb:eV next l=some b)(aT:∀x∈l,x.wf)(F:YV next l)(ht:64<=κ P.C/\(κ P.C)<=1024)(f:Nat->Bool)(hf:oh f (κ P.C))(bf:sp=iB (κ P.C) (aB f 4096))(a1:κ ps<=100000):Aae Aag 58 #[pz H.pb,.agg (be q)] w λe w'=>RQ H P next l (aB f 4096) ps w e w':=by
 obtain⟨r1,r2,lv1,lv2,lvq,BQ,BB1,BB2,⟨bS,bP⟩,⟨bT,aF⟩,hps',hpq⟩:=M.ex;have bc:=iR r1 (κ b) r2 (κ sp);have U2:=an (ai (w.alloc (.cells (be q) 87)) (.cells (aS 0 (nl)) 73));have b2:=aH.new (w.alloc (.cells (be q) 87)) 73 (aS 0 (nl));rw[aL]at b2;have UU:=an ((ai w (.cells (be q) 87)).trans U2);have L0:=an (qL _ H P (A.up UU) q _ _ BQ);rw[bc]at L0;obtain⟨aY,bb,ab,a6,aM⟩:=eI aT bf hps' hpq a1;have bh:=an (show(fB r1 (κ b) r2 (κ sp)).take 20=bQ r1++aX [4] [κ b] from by unfold fB;simp only[Abg,List.flatMap_nil,Ab5];exact hY TA)
 have aa:=an (show(fB r1 (κ b) r2 (κ sp)).drop 20=bQ r2++aX [4] [κ sp] from by unfold fB;simp only[Abg,List.flatMap_nil,Ab5];exact lr TA)
 have ad:=an bc;obtain⟨tb,bs⟩:=bK (fB r1 (κ b) r2 (κ sp));rw[<-bs]at L0 bh aa ad a6;clear bf hps' hpq bc bs a1;go_in;go_wp2_with(refine arm ?_);refine L0.mono ?_;rintro e w3⟨vt,vq,rfl,aE,ao,bB,g3⟩;obtain⟨G3,A3,B3,N3⟩:=bR ((PG.of A UU).trans g3) g3.1 (b2.az g3.2 ((A.up UU).cc b2 ax)) (show ∀k,vt.ownBlock=some k->¬PF H k from λk hk hp=>by have:=(A.up UU).lt _ hp;have:=ao k hk;omega);have bg:=ad.out;obtain⟨va,vc,rfl⟩:=aE.slice;have ar:=mf aE;have D1:=aD.piece aE (lo:=0) (hi:=20) ae ae;have D2:=aD.piece aE (lo:=20) (hi:=40) ae ae;rw[Aax,bh.out]at D1;rw[dh ae,aa.out]at D2;rw[bg]at ar ⊢;rw[bg]at N3;have a7:∀W,(Aav 30 (.slice va 40 vc) none (some (i6 20)) none).run Aag W=.ok (b8 va 0 20 vc) W:=λW=>hj (P:=Aag) 30 dr du va 40 vc 20 ae W;have aQ:∀W,(Aav 30 (.slice va 40 vc) (some (i6 20)) none none).run Aag W=.ok (b8 va 20 40 vc) W:=λW=>di (P:=Aag) 30 dr du va 40 vc 20 ae W;have bo:=an (show ∀k,(b8 va 20 40 vc).ownBlock=some k->¬PF H k from λk hk hp=>N3 k (by
  cases va with
  | none=>simp[b8,Aan]at hk
  | some a=>unfold b8 at hk;(repeat' split at hk)<;>exact hk) hp)
 obtain⟨p1,aK⟩:=bK (b8 va 0 20 vc);obtain⟨p2,aJ⟩:=bK (b8 va 20 40 vc);rw[<-aK]at a7 D1;rw[<-aJ]at aQ D2 bo;clear ao bg aK aJ ar;go_wp2_with fail;refine((λW (AW:PA W H P) v (hv:a8 W v _)=>L7 W H P AW _ bS bP b _ BB1 v hv) w3 A3 _ D1).mono ?_;rintro e w4⟨vx,vl,rfl,bN,bD,bz,g4⟩;obtain⟨G4,A4,B4,Q4⟩:=bR (G3.trans g4) g4.1 (B3.az g4.2 (A3.cc B3 ax)) (ak.az bB g4.2 (ez A3 bB));clear N3;go_wp2_with fail;refine((λW (AW:PA W H P) v (hv:a8 W v _)=>L7 W H P AW _ bT aF _ _ BB2 v hv) w4 A4 _ (D2.az g4.2 bo)).mono ?_;rintro e w5⟨vy,vm,rfl,bO,bE,aG,g5⟩;obtain⟨G5,R3⟩:=aw (G4.trans g5) (Qz _ _ b (bN.az g5.2 (λk hk hp=>by have:=A3.lt _ hp;have:=bD k hk;omega)) next l (CA hb) aT);clear bE a7 aQ;go_wp2_with fail;refine R3.mono ?_;rintro e w6⟨vs,rfl,aN,u6⟩;go_wp2_with fail;refine(JU _ _ _ l aN.cE aY F).mono ?_;rintro e w7⟨rfl,u7⟩;obtain⟨G7,A7⟩:=aw ((G5.up u6).up u7) ((g5.1.up u6).up u7);go_wp2_with fail;refine(k7 _ H P A7).mono ?_;refine eO ?_;intro wx;go_wp2_with fail;refine(kO _ _ _ _ _ A7.dev).mono ?_;refine eO ?_;intro wx;go_wp2_with fail;refine(Lj _ _ ht f hf _ (by rw[<-bb.out];exact((bO.up u6).up u7))).mono ?_;rintro e w8⟨u,rfl,ou,u8⟩;obtain⟨G8,Q8,L8,M8,O8⟩:=eI (G7.up u8) (ak.up (ak.up (ak.up (ak.az Q4 g5.2 (ez A4 Q4)) u6) u7) u8) (ak.up (ak.up (ak.up (ak.az bz g5.2 (ez A4 bz)) u6) u7) u8) (ak.up (ak.up (ak.up aG u6) u7) u8) ((aN.up u7).up u8);obtain⟨sa,sc,rfl⟩:=O8.cE.slice;rw[a6.out]at Q8;obtain⟨L1,bt⟩:=bK (dT b lv1);obtain⟨L2,bw⟩:=bK (dT sp lv2);rw[<-bt]at L8 ab;rw[<-bw]at M8 ab;clear bt bw a6 bb;obtain⟨aR,aV,rfl⟩:=(ak.row Q8 pw).slice;obtain⟨ba,bk,rfl⟩:=(ak.row L8 pw).slice;obtain⟨bj,bm,rfl⟩:=(ak.row M8 pw).slice;have aC:[q].length=1:=rfl;rw[aC]at Q8 ⊢;obtain⟨wc,aO⟩:=bK (w8.alloc (.cells #[.slice aR 1 aV,.slice ba (κ L1) bk,.slice bj (κ L2) bm] 88));have U9:=an (ai w8 (.cells #[.slice aR 1 aV,.slice ba (κ L1) bk,.slice bj (κ L2) bm] 88));have IL:=an (show kM (w8.alloc (.cells #[.slice aR 1 aV,.slice ba (κ L1) bk,.slice bj (κ L2) bm] 88)) (cv w8.heap.size 3 3) [[q],L1,L2] from
  ⟨[⟨aR,1,aV⟩,⟨ba,κ L1,bk⟩,⟨bj,κ L2,bm⟩],aD.er _ _ rfl _ _ (0,0) _ 3 rfl dE rfl,rfl,λi hi _=>by
   match i,hi with
   | 0,_=>exact aI.up (ak.row Q8 pw) U9
   | 1,_=>exact aI.up (ak.row L8 pw) U9
   | 2,_=>exact aI.up (ak.row M8 pw) U9
   | (k+3),hi=>exact absurd hi aq⟩)
 have aU:1+(κ L1+κ L2)<=100000:=by have h1:=aM.out;rw[ab.out]at h1;simp at h1;omega
 have CC:=an (zL _ _ _ IL (by simp[gH];omega) (by simp[gH];omega) aq);have FL:[[q],L1,L2].flatten=q::(L1++L2):=aq
 rw[FL]at CC;rw[<-aO]at CC U9;have bC:=an aO;clear FL aO aU;go_wp2_with(first
  | ((with_reducible refine dI _ _ ?_);refine kK rfl _ 0 1 (.tmp 82) (.tmp 83) rfl _ _ _ (zE _ _ _ _) rfl rfl ?_))
 rw[<-bC.out];refine CC.mono ?_;rintro e dv⟨v17,rfl,ov,bG⟩;obtain⟨br,bA,bp⟩:=aW ((G8.up U9).up bG) ((((((B4.az g5.2 (A4.cc B4 ax)).up u6).up u7).up u8).up U9).up bG) (ak.up (ak.up ou U9) bG);go_wp2_with(first|refine arm ?_|refine pj ?_);intro wz hbz ag;obtain⟨av,bF,bH,bI,bJ,bL⟩:=qA UU.size b2.lt G3.2.size G4.2.size G5.2.size G7.2.size;obtain⟨bM,bW⟩:=aA G8.2.size U9.size;obtain⟨VZ,EZ⟩:=aw ((ak.kept ov ag (.inr (ew ax bA ov))).mono (base':=w.heap.size) ae) ((ak.kept bp ag (.inr (ew ax bA bp))).mono (base':=w.heap.size) ae);obtain⟨ys,y1,y2,y3⟩:=((O8.up U9).up bG);rw[<-ab.out]at VZ;obtain⟨bU,bV,rfl⟩:=(ak.row VZ pw).slice;obtain⟨bl,bn,rfl⟩:=(ak.row EZ BV).slice;go_wp2;exact kk (v:=.tuple #[.agg (aS next (.slice sa (κ l) sc)),.slice bl (κ (aB f 4096)) bn,.slice bU (κ ps) bV,i6 0]) (Gm rfl _ _ _ _ _ _ _ _ _ rfl rfl rfl rfl hbz _ underlying73 rfl (eY _ _)) rfl ⟨_,_,_,rfl,((show bq wz _ _ l from⟨ys,y1,ak.kept y2 ag (.inr (ew ax bA y2)),λy hy=>ak.kept (y3 y hy) ag (.inr (ew ax bA (y3 y hy)))⟩).mono (base':=w.heap.size) ae),EZ,VZ,(PG.grown br ag (br.1.cc bA ax) ae)⟩
def iL(full:List aj):Option (List aj):=match cO full with
 | some (v,s)=>if s=[] then some v else none
 | none=>none
def dX(full:List aj):Option (List aj × List aj):=match cO full with
 | some (v,s)=>if s=[] then none else some (v,s)
 | none=>none
def I1:Option (List aj)->ah
 | none=>.tuple #[.string ⟨#[]⟩,.int .i64 141]
 | some v=>.tuple #[.string (strOf v),.int .i64 0]
def a1(l:List al)(full:List aj):Option Nat:=match dF l full with
 | .error _=>none
 | .ok i=>aV l (recAt l i).id
def ec(l:List al)(full:List aj):Except Nat Nat:=match iL full with
 | none=>.error 141
 | some _=>match a1 l full with
  | none=>.error 172
  | some i=>.ok i
def B5:Except Nat Nat->ah
 | .error n=>.tuple #[.int .i64 (-1),.int .i64 (n:Int)]
 | .ok i=>.tuple #[.int .i64 (i:Int),.int .i64 0]
section
variable {l:List al} {full v s:List aj} {i:Nat}
theorem Ly(h:cO full=none):iL full=none:=by grind [iL]
theorem Lz(h:cO full=some (v,s))(h0:s=[]):iL full=some v:=by grind [iL]
theorem LA(h:cO full=some (v,s))(h0:¬s=[]):iL full=none:=by grind [iL]
theorem XR(h:cO full=none):dX full=none:=by grind [dX]
theorem XS(h:cO full=some (v,s))(h0:s=[]):dX full=none:=by grind [dX]
theorem XT(h:cO full=some (v,s))(h0:¬s=[]):dX full=some (v,s):=by grind [dX]
theorem QD{n:Nat}(h:dF l full=.error n):a1 l full=none:=by grind [a1]
theorem QE(h:dF l full=.ok i):a1 l full=aV l (recAt l i).id:=by grind [a1]
theorem Bb{n:Nat}(h:dF l full=.error n):n=141\/n=161:=q1
theorem VX(h:iL full=none):ec l full=.error 141:=uu
theorem VY(h:iL full=some v)(h2:a1 l full=none):ec l full=.error 172:=uu
theorem VZ(h:iL full=some v)(h2:a1 l full=some i):ec l full=.ok i:=uu
end
theorem xQ(w:af)(full:List aj)(hf:κ full<=9223372036854775807):Aae Aag 93 #[.string (strOf full)] w λe w'=>e=.returned (I1 (iL full))/\Up w w':=by
 have SP:=an (iZ w full hf);cases hs:cO full with
 | none=>rw[Ly hs];rw[hs]at SP;unfold gd at SP;unfold I1;clear hs;go_in;go_wp2_with fail;refine SP.mono ?_;rintro e w2⟨rfl,u2⟩;go_wp2;go_ret2;simp;omega
 | some vs=>
  obtain⟨vn,sn⟩:=vs;have aa:=fO sn;by_cases h0:sn=[]
  ·rw[Lz hs h0];rw[hs]at SP;unfold gd at SP;unfold I1;simp only at SP;rw[show decide (sn=[])=true from ab]at aa;have ae:((strOf sn).toList != [])=false:=by grind
   exact Ug
  ·rw[LA hs h0];rw[hs]at SP;unfold gd at SP;unfold I1;simp only at SP;rw[show decide (sn=[])=false from ab]at aa;have ae:((strOf sn).toList != [])=true:=by grind
   exact Ug
def xE:Option (List aj × List aj)->ah
 | none=>.tuple #[.string ⟨#[]⟩,.string ⟨#[]⟩,.int .i64 141]
 | some (v,s)=>.tuple #[.string (strOf v),.string (strOf s),.int .i64 0]
theorem vi(w:af)(full:List aj)(hf:κ full<=9223372036854775807):Aae Aag 141 #[.string (strOf full)] w λe w'=>e=.returned (xE (dX full))/\Up w w':=by
 have SP:=an (iZ w full hf);cases hs:cO full with
 | none=>rw[XR hs];rw[hs]at SP;unfold gd at SP;unfold xE;clear hs;go_in;go_wp2_with fail;refine SP.mono ?_;rintro e w2⟨rfl,u2⟩;go_wp2;go_ret3;simp;omega
 | some vs=>
  obtain⟨vn,sn⟩:=vs;have aa:=fO sn;by_cases h0:sn=[]
  ·rw[XS hs h0];rw[hs]at SP;unfold gd at SP;unfold xE;simp only at SP;rw[show decide (sn=[])=true from ab]at aa;have ae:((strOf sn).toList != [])=false:=by grind
   exact Uh
  ·rw[XT hs h0];rw[hs]at SP;unfold gd at SP;unfold xE;simp only at SP;rw[show decide (sn=[])=false from ab]at aa;have ae:((strOf sn).toList != [])=true:=by grind
   exact Uh
theorem s5(w:af)(next:Nat)(v:ah)(l:List al)(hv:cB w v l)(hr:∀x∈l,κ x.dead*24<=140737488355328)(full:List aj)(hf:κ full<=9223372036854775807):Aae Aag 95 #[.agg (aS next v),.string (strOf full)] w λe w'=>e=.returned (i6 (fF (a1 l full)))/\Up w w':=by
 obtain⟨a,cap,rfl⟩:=hv.slice;have U1:=an (ai w (.cells (aS next (.slice a (κ l) cap)) 73));have B1:=aH.new w 73 (aS next (.slice a (κ l) cap));have c1:(w.alloc (.cells (aS next (.slice a (κ l) cap)) 73)).cell? (ad w.heap.size 1)=some (.slice a (κ l) cap):=B1.cell 1;obtain⟨C1,HV⟩:=aw c1 (hv.up U1);go_in;go_wp2_with(refine arm ?_);refine(rh _ _ l HV hr _ hf).mono ?_;rintro e w2(⟨n,hn,rfl,u2⟩|⟨i,vd,hi,aI,rfl,od,u2⟩)
 ·have HE:=an (show fF (a1 l full)=-1 from by rw[QD hn];rfl);have nz:((n:Int) != 0)=true:=by have:n=141\/n=161:=Bb hn;simp;omega
  obtain⟨IZ,OZ⟩:=aw gB gL;clear hn c1;go_wp2_with(refine arm ?_);go_ret;exact⟨nJ,((U1.trans u2).trans (ai _ _))⟩
 ·have HE:=an (show a1 l full=aV l (recAt l i).id from QE hi);obtain⟨da,dc,rfl⟩:=(ak.row od pw).slice;have U3:=an (ai w2 (.cells (cf (recAt l i) (.slice da (κ (recAt l i).dead) dc)) 90));have B3:=(aH.new w2 90 (cf (recAt l i) (.slice da (κ (recAt l i).dead) dc)));have d1:(w2.alloc (.cells (cf (recAt l i) (.slice da (κ (recAt l i).dead) dc)) 90)).cell? (ad w2.heap.size 0)=some (u6 ((recAt l i).id:Int)):=B3.cell 0;have e1:(w2.alloc (.cells (cf (recAt l i) (.slice da (κ (recAt l i).dead) dc)) 90)).cell? (ad w.heap.size 1)=some (.slice a (κ l) cap):=U3.cell (u2.cell C1);obtain⟨PL,IZ,OZ⟩:=aW (s6 _ _ l ((HV.up u2).up U3) (recAt l i).id) (ke (recAt l i) (.slice da (κ (recAt l i).dead) dc)) (mq (recAt l i) da (κ (recAt l i).dead) dc);clear hi c1;generalize recAt l i=x at *;go_wp2_with(refine arm ?_);refine PL.mono ?_;rintro e w3⟨rfl,u3⟩;go_wp2;go_ret;exact⟨nJ,((U1.trans u2).trans U3).trans u3⟩
theorem bq.HR{w w':af}{v:ah}{C:Array ah}(h:bq w base v l)(hb:aH w g 73 C)(hg:w.grownBy w' (some g)):bq w' base v l:=by obtain⟨ys,h1,h2,h3⟩:=h;exact⟨ys,h1,ak.kept h2 hg (.inr (ew ax hb h2)),λy hy=>ak.kept (h3 y hy) hg (.inr (ew ax hb (h3 y hy)))⟩
def aae(base next:Nat)(l:List al)(vd:ah)(w:af)(e:Ab1)(w':af):Prop:=∃(v':ah)(ys:List gM),e=.returned (.agg (aS next v'))/\ys.map (·.d)=l/\(os base v' ys).P w'/\(∀n,(os base v' ys).F n->w.heap.size<=n/\n<w'.heap.size\/vd.ownBlock=some n)/\Up w w'
theorem DW(w:af)(next:Nat)(v:ah)(l:List al)(hv:cB w v l)(hr:∀x∈l,κ x.dead*24<=140737488355328)(full:List aj)(hf:κ full<=9223372036854775807):Aae Aag 144 #[.agg (aS next v),.string (strOf full)] w λe w'=>e=.returned (B5 (ec l full))/\Up w w':=by
 obtain⟨a,cap,rfl⟩:=hv.slice;obtain⟨U1,B1,VN,RN⟩:=bR (ai w (.cells (aS next (.slice a (κ l) cap)) 73)) (aH.new w 73 (aS next (.slice a (κ l) cap))) (xQ (w.alloc (.cells (aS next (.slice a (κ l) cap)) 73)) full hf) (λW (u:Up w W)=>s5 W next _ l (hv.up u) hr full hf);clear hv hr hf;cases hvo:iL full with
 | none=>
  have HE:=an (VX (l:=l) hvo);rw[hvo]at VN;unfold I1 at VN;clear hvo;go_in;go_wp2_with(first
   | refine gS 73 0 (aS next (.slice a (κ l) cap)) ?_)
  refine VN.mono ?_;rintro e w2⟨rfl,u2⟩;obtain⟨U2,B2⟩:=aw (U1.trans u2) (B1.up u2);clear u2;go_wp2_with fail;go_ret2;exact⟨nJ,U2⟩
 | some vn=>
  rw[hvo]at VN;unfold I1 at VN;simp only at VN;cases hn:a1 l full with
  | none=>have HE:=an (VY hvo hn);rw[hn]at RN;unfold fF at RN;exact TH
  | some i=>
   have HE:=an (VZ hvo hn);rw[hn]at RN;unfold fF at RN;simp only at RN;have b1:((i:Int)<0)=False:=aq
   exact TH
theorem BA(w:af)(next:Nat)(v:ah)(l:List al)(hv:cB w v l)(hl:κ l<=1000)(hr:∀x∈l,κ x.dead*24<=140737488355328)(hn:next<18446744073709551615)(base:Nat)(ag:base<=w.heap.size)(x:al)(vd:ah)(hd:bf w base vd x.dead):Aae Aag 96 #[.agg (aS next v),.agg (cf x vd)] w λe w'=>aae base (next+1) (l++[x]) vd w e w':=by
 obtain⟨a,cap,rfl⟩:=hv.slice;obtain⟨da,dc,rfl⟩:=(ak.row hd pw).slice;have s:=Fr.start w;have wn:IntKind.u64.wrap ((next:Int)+1)=((next+1:Nat):Int):=IntWalk.u64_in _ ae;go_in;go_wp2_with(refine fw s ?_;intro _ w s);refine dy ?_;intro w vx ox u;obtain⟨ax,cx,rfl⟩:=ox.cE.slice;obtain⟨ys,e,z⟩:=Rz.s2 ox u s.t.size;obtain⟨s,hy⟩:=aA (s.abz z) (ZF e);replace e:=an e;replace hy:=an hy;have au:=an (show κ ys<=1000 from hy ▸ hl);go_wp2_with(first|(refine fw s ?_;intro _ w s)|(refine Za s ?_;intro g w s)|(at_builtin;refine fap s ?_ (hl:=au);intro a7 c7 w s));refine bB ?_;have d:=ak.up hd s.pure;have r:ak _ _ _ _ _ _ _:=s.p (XN _ (.slice a7 (κ ys+1) c7) _) gR;have q:∀y∈ys,_:=s.p (UR _ ys) gR;refine⟨_,ys++[⟨x,da,κ x.dead,dc⟩],rfl,by rw[Aao,e.out];rfl,⟨r.mono ag,λy hy=>?_⟩,λn hn=>?_,s.pure⟩
 ·rcases eT.1 hy with h|h
  ·exact(q y h).mono ag
  ·rw[kl.1 h];exact d
 ·rcases hn with hn|⟨y,hy,hn⟩
  ·exact .inl (r.aN n hn)
  ·rcases eT.1 hy with h|h
   ·exact .inl ((q y h).aN n hn)
   ·rw[kl.1 h]at hn;exact .inr hn
def RX(r:Except Nat (Nat × List al))(w:af)(e:Ab1)(w':af):Prop:=(∃(n nx:Nat)(va:Option Addr)(vm vc:Nat),r=.error n/\e=.returned (.tuple #[.agg (aS nx (.slice va vm vc)),.int .i64 (n:Int)])/\Up w w')\/(∃(nx:Nat)(l':List al)(v':ah),r=.ok (nx,l')/\e=.returned (.tuple #[.agg (aS nx v'),.int .i64 0])/\bq w' w.heap.size v' l'/\Up w w')
section
variable {P:bx}
end
def dw(id:Nat)(name:List aj)(blocks:Int):al:=⟨id,name,false,id,0,0,blocks,hole,[]⟩
theorem D7(id:Nat)(name:List aj)(blocks:Int):prog.built 90 [(0,u6 (id:Int)),(1,.string (strOf name)),(3,u6 (id:Int)),(6,i6 blocks)]=some (cf (dw id name blocks) (nl)):=av
def cG(next:Nat)(l:List al)(full:List aj)(blocks:Int):Except Nat (Nat × List al):=match iL full with
 | none=>.error 141
 | some fD=>if blocks<1\/blocks>64 then .error 176 else if 32<=κ l then .error 175 else match a1 l full with
  | some _=>.error 171
  | none=>.ok (next+1,l++[dw next fD blocks])
section
variable {next:Nat} {l:List al} {full fD:List aj} {blocks:Int} {i:Nat}
theorem O5(h:iL full=none):cG next l full blocks=.error 141:=sN
theorem O6(h:iL full=some fD)(h1:blocks<1\/blocks>64):cG next l full blocks=.error 176:=sN
theorem O7(h:iL full=some fD)(h1:¬(blocks<1\/blocks>64))(h2:32<=κ l):cG next l full blocks=.error 175:=sN
theorem O8(h:iL full=some fD)(h1:¬(blocks<1\/blocks>64))(h2:¬32<=κ l)(h3:a1 l full=some i):cG next l full blocks=.error 171:=sN
theorem O9(h:iL full=some fD)(h1:¬(blocks<1\/blocks>64))(h2:¬32<=κ l)(h3:a1 l full=none):cG next l full blocks=.ok (next+1,l++[dw next fD blocks]):=sN
end
theorem zP(w:af)(next:Nat)(v:ah)(l:List al)(hv:cB w v l)(hl:κ l<=1000)(hr:∀x∈l,κ x.dead*24<=140737488355328)(hn:next<18446744073709551615)(full:List aj)(hf:κ full<=9223372036854775807)(blocks:Int):Aae Aag 42 #[.agg (aS next v),.string (strOf full),.int .i64 blocks] w λe w'=>RX (cG next l full blocks) w e w':=by
 obtain⟨a,cap,rfl⟩:=hv.slice;have s:=Fr.start w;go_in;go_wp2_with(refine fw s ?_;intro _ w s);refine(xQ w full hf).mono ?_;refine eE ?_;intro w u s;cases hvo:iL full with
 | none=>simp only[I1];go_wp2_with(refine fw s ?_;intro _ w s);refine dy ?_;intro w vx ox u;obtain⟨ax,cx,rfl⟩:=ox.cE.slice;refine dN ?_;intro ys e z s;go_wp2_with(refine fw s ?_;intro _ w s);refine bB ?_;exact .inl ⟨141,_,_,_,_,O5 hvo,rfl,s.pure⟩
 | some fD=>
  simp only[I1];by_cases h1:blocks<1\/blocks>64
  ·have g1:(blocks<1)=True\/(blocks<1)=False/\(blocks>64)=True:=by
    by_cases h:blocks<1
    ·exact .inl (eo h)
    ·exact .inr ⟨cz h,eo ae⟩
   rcases g1 with g1|⟨g1,g2⟩
   all_goals
    go_wp2_with(refine fw s ?_;intro _ w s);refine dy ?_;intro w vx ox u;obtain⟨ax,cx,rfl⟩:=ox.cE.slice;refine dN ?_;intro ys e z s;go_wp2_with(refine fw s ?_;intro _ w s);refine bB ?_;exact .inl ⟨176,_,_,_,_,O6 hvo h1,rfl,s.pure⟩
  have g1:(blocks<1)=False:=cz ae;have g2:(blocks>64)=False:=cz ae;by_cases h2:32<=κ l
  ·have g3:((κ l:Int)>=32)=True:=eo ae;go_wp2_with(refine fw s ?_;intro _ w s);refine dy ?_;intro w vx ox u;obtain⟨ax,cx,rfl⟩:=ox.cE.slice;refine dN ?_;intro ys e z s;go_wp2_with(refine fw s ?_;intro _ w s);refine bB ?_;exact .inl ⟨175,_,_,_,_,O7 hvo h1 h2,rfl,s.pure⟩
  have g3:((κ l:Int)>=32)=False:=cz ae;go_wp2_with(refine fw s ?_;intro _ w s);refine FQ ?_;intro w u s;cases ao:a1 l full with
  | some i=>simp only[fF];have g4:((i:Int)>=0)=True:=eo ae;go_wp2_with(refine fw s ?_;intro _ w s);refine dy ?_;intro w vx ox u;obtain⟨ax,cx,rfl⟩:=ox.cE.slice;refine dN ?_;intro ys e z s;go_wp2_with(refine fw s ?_;intro _ w s);refine bB ?_;exact .inl ⟨171,_,_,_,_,O8 hvo h1 h2 ao,rfl,s.pure⟩
  | none=>simp only[fF];have BN:=an (D7 next fD blocks);go_wp2_with(refine fw s ?_;intro _ w s);refine(BA w next _ l (hv.up s.pure) hl hr hn _ s.t.size (dw next fD blocks) nl (ak.nil _ _ _ _ _)).mono ?_;rintro e w⟨v',ys,rfl,e0,p,f,u⟩;have e:=an e0;clear e0;obtain⟨ax,cx,rfl⟩:=(ak.row p.1 mw).slice;have s:=s.new (.one u p λn h=>(f n h).resolve_right wq);go_wp2_with(refine fw s ?_;intro _ w s);refine bB ?_;exact .inr ⟨_,_,_,O9 hvo h1 h2 ao,rfl,by rw[<-e.out];exact s.cE,s.pure⟩
theorem bq.at{v:ah}(h:bq w base v l)(h0:0<κ l):∃g cap,v=cv g (κ l) cap/\base<=g:=by obtain⟨ys,h1,h2,h3⟩:=h;obtain⟨_,h4⟩:=h2;grind
theorem jb{full:List aj}(h:a1 l full=some i):i<κ l:=by
 unfold a1 at h;split at h
 ·cases h
 ·exact(dH h).1
def iA(next:Nat)(x:al)(sn:List aj)(ar:Nat):al:={x with id:=next,name:=sn,aU:=true,owner:=x.id,ar:=ar}
def lx(next:Nat)(x:al):al:={x with prev:=next,dead:=[]}
def eX(next:Nat)(l:List al)(full:List aj)(ar:Nat):Except Nat (Nat × List al):=match dX full with
 | none=>.error 141
 | some (fD,sn)=>match a1 l fD with
  | none=>.error 172
  | some i=>if 32<=κ l then .error 175 else match a1 l full with
   | some _=>.error 171
   | none=>if ar<1\/ar>281474976710655\/ar<=bZ l (recAt l i).id then .error 176 else .ok (next+1,(l++[iA next (recAt l i) sn ar]).set i (lx next (recAt l i)))
section
variable {next:Nat} {l:List al} {full fD sn:List aj} {ar i j:Nat}
theorem XU(h:dX full=none):eX next l full ar=.error 141:=qa
theorem XV(h:dX full=some (fD,sn))(h1:a1 l fD=none):eX next l full ar=.error 172:=qa
theorem XW(h:dX full=some (fD,sn))(h1:a1 l fD=some i)(h2:32<=κ l):eX next l full ar=.error 175:=qa
theorem XX(h:dX full=some (fD,sn))(h1:a1 l fD=some i)(h2:¬32<=κ l)(h3:a1 l full=some j):eX next l full ar=.error 171:=qa
theorem Gx(h:dX full=some (fD,sn))(h1:a1 l fD=some i)(h2:¬32<=κ l)(h3:a1 l full=none)(h4:ar<1\/ar>281474976710655\/ar<=bZ l (recAt l i).id):eX next l full ar=.error 176:=qa
theorem XY(h:dX full=some (fD,sn))(h1:a1 l fD=some i)(h2:¬32<=κ l)(h3:a1 l full=none)(h4:¬(ar<1\/ar>281474976710655\/ar<=bZ l (recAt l i).id)):eX next l full ar=.ok (next+1,(l++[iA next (recAt l i) sn ar]).set i (lx next (recAt l i))):=qa
theorem QR(h:dX full=some (fD,sn)):κ fD<=κ full:=by grind [dX,cO]
end
theorem IL(w:af)(next:Nat)(v:ah)(l:List al)(hv:cB w v l)(hl:κ l<=1000)(hr:∀x∈l,κ x.dead*24<=140737488355328)(hn:next<18446744073709551615)(full:List aj)(hf:κ full<=9223372036854775807)(ar:Nat)(aE:ar<18446744073709551616):Aae Aag 77 #[.agg (aS next v),.string (strOf full),.int .u64 (ar:Int)] w λe w'=>RX (eX next l full ar) w e w':=by
 obtain⟨a,cap,rfl⟩:=hv.slice;have s:=Fr.start w;go_in;go_wp2_with(refine fw s ?_;intro _ w s);refine(vi w full hf).mono ?_;refine eE ?_;intro w u s;cases hvo:dX full with
 | none=>simp only[xE];go_wp2_with(refine fw s ?_;intro _ w s);refine dy ?_;intro w vx ox u;obtain⟨ax,cx,rfl⟩:=ox.cE.slice;refine dN ?_;intro ys e z s;go_wp2_with(refine fw s ?_;intro _ w s);refine bB ?_;exact .inl ⟨141,_,_,_,_,XU hvo,rfl,s.pure⟩
 | some vs=>
  obtain⟨fD,sn⟩:=vs;replace hvo:=an hvo;simp only[xE];go_wp2_with(refine fw s ?_;intro _ w s);refine(s5 w next _ l (hv.up s.pure) hr fD (bN (QR hvo) hf)).mono ?_;refine eE ?_;intro w u s;cases aT:a1 l fD with
  | none=>simp only[fF];go_wp2_with(refine fw s ?_;intro _ w s);refine dy ?_;intro w vx ox u;obtain⟨ax,cx,rfl⟩:=ox.cE.slice;refine dN ?_;intro ys e z s;go_wp2_with(refine fw s ?_;intro _ w s);refine bB ?_;exact .inl ⟨172,_,_,_,_,XV hvo aT,rfl,s.pure⟩
  | some i=>
   have hi:=jb aT;replace aT:=an aT;simp only[fF];refine lJ ?_;intro b1 b2;have b3:((i:Int)>=0)=True:=aq
   by_cases h2:32<=κ l
   ·have g3:((κ l:Int)>=32)=True:=eo ae;go_wp2_with(refine fw s ?_;intro _ w s);refine dy ?_;intro w vx ox u;obtain⟨ax,cx,rfl⟩:=ox.cE.slice;refine dN ?_;intro ys e z s;go_wp2_with(refine fw s ?_;intro _ w s);refine bB ?_;exact .inl ⟨175,_,_,_,_,XW hvo aT h2,rfl,s.pure⟩
   have g3:((κ l:Int)>=32)=False:=cz ae;go_wp2_with(refine fw s ?_;intro _ w s);refine FQ ?_;intro w u s;cases ao:a1 l full with
   | some j=>simp only[fF];have g4:((j:Int)>=0)=True:=eo ae;go_wp2_with(refine fw s ?_;intro _ w s);refine dy ?_;intro w vx ox u;obtain⟨ax,cx,rfl⟩:=ox.cE.slice;refine dN ?_;intro ys e z s;go_wp2_with(refine fw s ?_;intro _ w s);refine bB ?_;exact .inl ⟨171,_,_,_,_,XX hvo aT h2 ao,rfl,s.pure⟩
   | none=>
    replace ao:=an ao;simp only[fF];obtain⟨b,off,aC,aB,da,dc,rg,dp⟩:=cn hv hi;subst aC;have i0:=(cd rg).1;by_cases g5:ar<1
    ·have t5:((ar:Int)<1)=True:=eo ae;go_wp2_with(refine fw s ?_;intro _ w s);refine dy ?_;intro w vx ox u;obtain⟨ax,cx,rfl⟩:=ox.cE.slice;refine dN ?_;intro ys e z s;go_wp2_with(refine fw s ?_;intro _ w s);refine bB ?_;exact .inl ⟨176,_,_,_,_,Gx hvo aT h2 ao (.inl g5),rfl,s.pure⟩
    have t5:((ar:Int)<1)=False:=cz ae;by_cases g6:ar>281474976710655
    ·have t6:((ar:Int)>281474976710655)=True:=eo ae;go_wp2_with(refine fw s ?_;intro _ w s);refine dy ?_;intro w vx ox u;obtain⟨ax,cx,rfl⟩:=ox.cE.slice;refine dN ?_;intro ys e z s;go_wp2_with(refine fw s ?_;intro _ w s);refine bB ?_;exact .inl ⟨176,_,_,_,_,Gx hvo aT h2 ao (.inr (.inl g6)),rfl,s.pure⟩
    have t6:((ar:Int)>281474976710655)=False:=cz ae;go_wp2_with(refine fw s ?_;intro _ w s);refine(qN w _ l (hv.up s.pure) (recAt l i).id).mono ?_;rintro e _⟨rfl,rfl⟩;by_cases g7:ar<=bZ l (recAt l i).id
    ·have t7:((ar:Int)<=(bZ l (recAt l i).id:Int))=True:=eo ae;go_wp2_with(refine fw s ?_;intro _ w s);refine dy ?_;intro w vx ox u;obtain⟨ax,cx,rfl⟩:=ox.cE.slice;refine dN ?_;intro ys e z s;go_wp2_with(refine fw s ?_;intro _ w s);refine bB ?_;exact .inl ⟨176,_,_,_,_,Gx hvo aT h2 ao (.inr (.inr g7)),rfl,s.pure⟩
    have t7:((ar:Int)<=(bZ l (recAt l i).id:Int))=False:=cz ae;go_wp2_with(refine fw s ?_;intro _ w s);refine(kI w (recAt l i) _ (aI.up dp s.pure) (hr _ Fe)).mono ?_;rintro e w⟨vd,rfl,od,u⟩;obtain⟨na,nc,rfl⟩:=(ak.row od pw).slice;have s:=s.new (.q od u s.t.size);obtain⟨x,hx⟩:=bK (recAt l i);have HX:=an hx;rw[<-hx]at s ⊢;clear hx;go_wp2_with(refine fw s ?_;intro _ w s);refine(BA w next _ l (hv.up s.pure) hl hr hn _ s.t.size (iA next x sn ar) _ s.Cy).mono ?_;rintro e w⟨v',ys,rfl,e0,p,f,u⟩;obtain⟨g,cx,rfl,_⟩:=(show bq w _ v' _ from⟨ys,e0,p⟩).at aq;have s:=s.aaq p f u;have ad:i<κ ys:=by rw[<-Aad (f:=gM.d),e0,Aaf];omega
    have ed:ys[i].d=recAt l i:=by rw[U6 e0 ad,b' (by rw[Aaf];omega),b' hi,yz]
    have e:=an e0;obtain⟨n9,aa⟩:=bK (κ (l++[iA next x sn ar]));rw[<-aa]at s ⊢;have b4:((i:Int)<(n9:Int))=True:=by rw[aa,Aaf];simp;omega
    clear e0 aa p f;go_wp2_with(refine fw s ?_;intro _ w s);refine kv s (λw s=>?_);repeat refine kt ?_
    refine kq i 4 ⟨{ys[i].d with prev:=next},ys[i].a,ys[i].n,ys[i].c⟩ (λw s=>?_) (jE ad);repeat refine kt ?_
    refine kq i 10 ⟨lx next ys[i].d,none,0,0⟩ (λw s=>?_) (ui ad);repeat refine kt ?_
    refine kd (λw u s=>?_);go_wp2_with(refine fw s ?_;intro _ w s);refine bB ?_;refine .inr ⟨_,_,_,XY hvo aT h2 ao ae,rfl,?_,s.pure⟩;have:=s.cE;rw[oH,oH,e.out,wk,ed]at this;rw[<-HX.out]at this ⊢;exact this
section
variable {P:bx} {ops:Array Abn} {S:af->Prop} {o:Abn} {a:Act} {v:ah}
end
def Eb(next:Nat)(fD:List aj)(x:al):al:=⟨next,fD,false,next,x.id,0,x.blocks,x.root,[]⟩
def l3(next:Nat)(l:List al)(Jc to:List aj):Except Nat (Nat × List al):=match dX Jc with
 | none=>.error 141
 | some _=>match iL to with
  | none=>.error 141
  | some fD=>match a1 l Jc with
   | none=>.error 172
   | some i=>if 32<=κ l then .error 175 else match a1 l to with
    | some _=>.error 171
    | none=>.ok (next+1,l++[Eb next fD (recAt l i)])
section
variable {next:Nat} {l:List al} {Jc to fD:List aj} {vs:List aj × List aj} {i j:Nat}
end
theorem nO(z:Array ah)(n:Nat):κ (Abe z n).toList=n*z.size:=by simp[Abe]
theorem CB(t e ty tb:Aab)(z:Array ah)(ht:P.underlying t=some (.slice e))(hv:∀w,(Ab9 e).run P w=.ok (.agg z) w)(h1:z.all (·.oneCell')=true)(hz:0<z.size)(g o n c:Nat)(hn:0<n)(C:Array ah)(hb:aH w g tb C)(hfit:o+n*z.size<=C.size):(Adq #[t] ty #[sq g o n c]).run P w=.ok (.tuple #[]) (w.setRow g (C.toList.take o++(Abe z n).toList++C.toList.drop (o+n*z.size)).toArray):=by
 have aE:=v7 (P:=P) g o tb (Abe z n).toList 0 C w hb (by grind [nO]) (λv ab=>by
  have ao:v∈Abe z n:=by simpa using ab
  unfold Abe at ao;rw[Array.mem_map]at ao;obtain⟨k,_,rfl⟩:=ao;have hk:k%z.size<z.size:=Nat.mod_lt _ hz;rw[getElem!_pos z _ hk];exact(v8.1 h1) _ (Array.getElem_mem hk))
 rw[nO]at aE;simp only[Nat.add_zero]at aE;obtain⟨m,rfl⟩:∃m,n=m+1:=⟨n-1,ae⟩;simp[Adq,run_underlying ht,hv,Value.cells,aE]
theorem ak.cut{f:α->List ah}(hw:hL f k){xs:List α}(h:ak f k e w base (cv g n cap) xs)(i:Nat)(hi:i<=κ xs):ak f k e w base (cv g i cap) (xs.take i):=by
 obtain⟨h1,h2⟩:=h;have hl:κ (xs.take i)=i:=ab
 rcases h2 with⟨h3,_⟩|⟨g',av,cur,h3,h4,h5,h6,h7,h8,h9⟩
 ·simp at h3
 ·simp at h3;obtain⟨rfl,rfl,rfl⟩:=h3;refine⟨by rw[hw.flat],.inr ⟨g,cap,cur,ab,h4,h5,ae,h7,h8,?_⟩⟩;rw[hl];have e1:xs.flatMap f=(xs.take i).flatMap f++(xs.drop i).flatMap f:=by rw[<-gC,fH]
  have e2:κ ((xs.take i).flatMap f)=i*k:=by rw[hw.flat,hl]
  have e3:(cur.toList.take (κ xs*k)).take (i*k)=(xs.flatMap f).take (i*k):=by rw[h9]
  grind
theorem ak.Sn{f:α->List ah}{xs:List α}(h:ak f k e w base (cv g n cap) xs):∃C:Array ah,aH w g e C/\C.size=cap*k/\n=κ xs/\n<=cap/\∀L:List ah,n*k+κ L<=C.size->ak f k e (w.setRow g (C.toList.take (n*k)++L++C.toList.drop (n*k+κ L)).toArray) base (cv g n cap) xs:=by
 obtain⟨h1,h2⟩:=h;rcases h2 with⟨h3,_⟩|⟨g',av,cur,h3,h4,h5,h6,h7,h8,h9⟩
 ·simp at h3
 ·simp at h3;obtain⟨rfl,rfl,rfl⟩:=h3;refine⟨cur,h5,h8,rfl,h6,λL hL=>⟨h1,.inr ⟨g,cap,_,rfl,h4,aH.set h5 _,h6,h7,?_,?_⟩⟩⟩
  ·simp;omega
  ·simp_all
theorem wL:prog.underlying 71=some (.slice (prog.elem 71)):=av
theorem wM:∀W:af,(sizeOf (prog.elem 71)).run Aag W=.ok 11 W:=λW=>by rw[show prog.elem 71=90 from ay];obtain⟨i,hi,_,hz1,_⟩:=jF j';simp[sizeOf,typeInfo,hi,hz1]
theorem zR(w:af)(base g cap n:Nat)(ys:List gM)(hn:n=κ ys)(h2:ak c9 11 90 w base (cv g n cap) ys)(h3:∀y∈ys,bf w base y.v y.d.dead)(i:Nat)(hi:i<κ ys)(hl:κ ys<=1000):Aae Aag 204 #[cv g n cap,i6 (i:Int),i6 ((i:Int)+1)] w λe w'=>e=.returned (cv g (n-1) cap)/\(ak c9 11 90 w' base (cv g (n-1) cap) (ys.eraseIdx i)/\∀y∈ys.eraseIdx i,bf w' base y.v y.d.dead)/\Touch (·=g) w w':=by
 subst hn;obtain⟨m,hm⟩:∃m,κ ys=m+1:=⟨κ ys-1,ae⟩;have au:=hm;rw[hm]at h2 hi ⊢;rw[show m+1-1=m from rfl];obtain⟨C0,aD,ag,-,ar,-⟩:=ak.Sn h2;have al:=ak.up h2 (Up.drew (Up.refl w));obtain⟨ao,ai⟩:=aw (ak.cut mw al i ae) (aI.part mw (ak.row al mw) (lo:=i+1) (hi:=m+1) ae ae);rw[dh ae]at ai;obtain⟨H3,H2,HI,BW⟩:=bR (λy hy=>ak.up (h3 y hy) (Up.drew (Up.refl w))) al hi (show base<=w.drew.heap.size from by have:=h2.aN g rfl;show base<=w.heap.size;omega);have a7:∀W,(Aav 71 (cv g (m+1) cap) none (some (i6 (i:Int))) none).run Aag W=.ok (partOf 11 (some ⟨g,0,none⟩) 0 i cap) W:=λW=>xB (P:=Aag) 71 11 wL wM _ (m+1) cap i ae W;have aQ:∀W,(Aav 71 (cv g (m+1) cap) (some (i6 ((i:Int)+1))) none none).run Aag W=.ok (partOf 11 (some ⟨g,0,none⟩) (i+1) (m+1) cap) W:=λW=>fY (P:=Aag) 71 11 wL wM _ (m+1) cap (i+1) ae W;have aq:∀W,(Aav 71 (cv g m cap) (some (i6 (m:Int))) (some (i6 ((m:Int)+1))) none).run Aag W=.ok (partOf 11 (some ⟨g,0,none⟩) m (m+1) cap) W:=λW=>Vm (P:=Aag) 71 11 wL wM _ m cap m (m+1) ae ae W;have bc:partOf 11 (some (⟨g,0,none⟩:Addr)) 0 i cap=cv g i cap:=by
  unfold partOf;have:(⟨g,0,none⟩:Addr).add (0*11)=⟨g,0,none⟩:=ay
  grind
 have bE:partOf 11 (some (⟨g,0,none⟩:Addr)) m (m+1) cap=sq g (m*11) 1 (cap-m):=by unfold partOf;rw[aM ae];simp[Addr.add];omega
 rw[bc]at a7;rw[bE]at aq;obtain⟨p2,aJ⟩:=bK (partOf 11 (some (⟨g,0,none⟩:Addr)) (i+1) (m+1) cap);rw[<-aJ]at aQ ai;have bC:=an aJ;have hne:((i:Int)==(i:Int)+1)=false:=ab
 have az:((i:Int)=(i:Int)+1)=False:=cz ae;have B1:((i:Int)+1<=(m:Int)+1)=True:=ab
 obtain⟨B2,B3,B4⟩:=aW au ar hm;have c1:((m+1:Nat):Int)=(m:Int)+1:=ae
 clear h3 ag bc bE aJ au hm;go_in;go_wp2;refine e3 (S:=λ_=>True) ay ?_;change Acp _ _ _ _ _ 8 _ _ (w.drew);have UD:=an (Touch.bW (F:=(·=g)) (Up.drew (Up.refl w)));generalize w.drew=w1 at *;refine lI ?_;refine ta 3 ?_;refine ta 4 ?_;refine br ?_;refine ta 5 ?_;refine br ?_;refine ok 6 ?_;intro K hK;refine mG mw (.tmp 22) (.tmp 25) 71 rfl _ _ _ _ underlying71 j' g _ i _ (by rw[ev,B2.out];have:=HI.out;omega) rfl ao _ _ rfl ai m (by rw[ev,hP,B2.out];have:=HI.out;omega) ae BW ?_;intro w2 hown hg aB;obtain⟨C,hb,aE,-,ad,CL⟩:=ak.Sn hown;have ah:=B3.out;have hfit:m*11+1*11<=C.size:=ae
 have hL:=nO b6 1;have bb:∀ty,(Adq #[71] ty #[sq g (m*11) 1 (cap-m)]).run Aag w2=.ok (.tuple #[]) (w2.setRow g (C.toList.take (m*11)++(Abe b6 1).toList++C.toList.drop (m*11+1*11)).toArray):=λty=>CB _ _ _ _ _ underlying71 mJ gL ax g _ 1 _ ae C hb hfit;have OW:=an (CL (Abe b6 1).toList (by rw[hL];exact hfit));rw[hL]at OW;obtain⟨w3,aa⟩:=bK (w2.setRow g (C.toList.take (m*11)++(Abe b6 1).toList++C.toList.drop (m*11+1*11)).toArray);have G3:=cQ w2 g (C.toList.take (m*11)++(Abe b6 1).toList++C.toList.drop (m*11+1*11)).toArray;have av:ak c9 11 90 w3 base (cv g m cap) (ys.take i++ys.drop (i+1)):=by rw[aa];exact OW
 rw[<-aa]at bb G3;have OS:=an (show ak c9 11 90 w3 base (cv g m cap) (ys.eraseIdx i)/\∀y∈ys.eraseIdx i,bf w3 base y.v y.d.dead from by
  rw[uj];refine⟨av,λy hy=>?_⟩
  ·have aj:y∈ys:=by
    rcases eT.1 hy with hy|hy
    ·exact sA hy
    ·exact yL hy
   have k1:=H3 y aj;have a1:y.v.ownBlock=none\/y.v.ownBlock≠some g:=by have:=ig ax k1 H2;simpa[Aan]using this
   exact ak.kept (ak.kept k1 hg a1) G3 a1)
 have TT:=an ((UD.trans (Touch.bg (F:=(·=g)) hg (λk hk=>oI)) (λ_ h _=>h)).trans (Touch.bg (F:=(·=g)) G3 (λk hk=>oI)) (λ_ h _=>h));clear aE ad CL hfit hL aa H3 ah;refine hK _ _ trivial ?_;refine gq ?_;clear hK K;refine ta 7 ?_;refine nc ?_;go_wp2;go_ret;exact⟨rfl,OS,TT⟩
section
variable {P:bx} {o:Abn} {a:Act} {w:af} {K:Act->af->Prop} {Q:Exit->Act->af->Prop}
end
def Yp(r:Except Nat (Nat × List al × al))(w:af)(e:Ab1)(w':af):Prop:=(∃(n nx:Nat)(va:Option Addr)(vm vc:Nat),r=.error n/\e=.returned (.tuple #[.agg (aS nx (.slice va vm vc)),.agg b6,.int .i64 (n:Int)])/\Up w w')\/(∃(nx:Nat)(l':List al)(x:al)(v' vd:ah),r=.ok (nx,l',x)/\e=.returned (.tuple #[.agg (aS nx v'),.agg (cf x vd),.int .i64 0])/\bq w' w.heap.size v' l'/\bf w' w.heap.size vd x.dead/\Up w w')
theorem bq.ZP(h:bq w base (cv g n cap) l)(i:Nat)(hi:i<κ l)(q:au):∃cur,aH w g 90 cur/\i*11+11<=cur.size/\∀w',aH w' g 90 (hs cur.toList (i*11+7) (be q).toList).toArray->w.grownBy w' (some g)->bq w' base (cv g n cap) (l.set i {l[i]with root:=q}):=by obtain⟨cur,va,vc,hb,hn,hc,hg,rg,op,aQ⟩:=h.part i hi;exact⟨cur,hb,hc,λw' aG aa=>aQ {l[i]with root:=q} va l[i].dead.length vc 7 (be q).toList w' (by simp[be]) rfl op aG aa⟩
def ir(x y:al):al:={x with root:=y.root,dead:=[]}
def gw(next:Nat)(l:List al)(full:List aj):Except Nat (Nat × List al × al):=match ec l full with
 | .error n=>.error n
 | .ok i=>match aV l (recAt l i).prev with
  | none=>.error 174
  | some j=>.ok (next,l.set i (ir (recAt l i) (recAt l j)),recAt l i)
section
variable {next:Nat} {l:List al} {full:List aj} {n i j:Nat}
theorem Wr(h:ec l full=.error n):gw next l full=.error n:=by grind [gw]
theorem Ws(h:ec l full=.ok i)(h1:aV l (recAt l i).prev=none):gw next l full=.error 174:=by grind [gw]
theorem Wt(h:ec l full=.ok i)(h1:aV l (recAt l i).prev=some j):gw next l full=.ok (next,l.set i (ir (recAt l i) (recAt l j)),recAt l i):=by grind [gw]
theorem tg(h:ec l full=.error n):n=141\/n=172:=uu
theorem oe(h:ec l full=.ok i):i<κ l:=by
 unfold ec at h;split at h
 ·cases h
 ·split at h
  ·cases h
  ·rename_i h2;injection h with h;subst h;exact jb h2
end
theorem G'(w:af)(next:Nat)(v:ah)(l:List al)(hv:cB w v l)(hl:κ l<=1000)(hr:∀x∈l,κ x.dead*24<=140737488355328)(full:List aj)(hf:κ full<=9223372036854775807):Aae Aag 131 #[.agg (aS next v),.string (strOf full)] w λe w'=>Yp (gw next l full) w e w':=by
 obtain⟨a,cap,rfl⟩:=hv.slice;have s:=Fr.start w;go_in;go_wp2_with(refine fw s ?_;intro _ w s);refine(DW w next _ l (hv.up s.pure) hr full hf).mono ?_;refine eE ?_;intro w u s;cases ar:ec l full with
 | error n=>
  have hn:=tg ar;have nz:((n:Int) != 0)=true:=by rcases hn with rfl|rfl<;>rfl
  simp only[B5];go_wp2_with(refine fw s ?_;intro _ w s);refine dy ?_;intro w vx ox u;obtain⟨ax,cx,rfl⟩:=ox.cE.slice;refine dN ?_;intro ys e z s;go_wp2_with(refine fw s ?_;intro _ w s);refine bB ?_;exact .inl ⟨n,_,_,_,_,Wr ar,rfl,s.pure⟩
 | ok i=>
  have hi:=oe ar;simp only[B5];refine FM ?_;intro b1 b2 b3 b off aC aB da dc rg dp;subst aC;have i4:=(cd rg).2.2.2.2.1;go_wp2_with(refine fw s ?_;intro _ w s);refine kb s (λw s=>?_);repeat refine kt ?_
  cases aU:aV l (recAt l i).prev with
  | none=>
   refine kc (λw _ s=>z' w _ l (hv.up s.pure) hr (recAt l i).prev) ?_;rintro w _ s _ w'(⟨_,rfl,u⟩|⟨j2,vd,ao,_⟩)
   case inr=>rw[aU]at ao;cases ao
   refine⟨_,rfl,u,?_⟩;repeat refine kt ?_
   refine kn (λ_ w u s=>?_);refine ks (λw s=>?_);refine kt ?_;refine kd (λw u s=>?_);go_wp2_with(refine fw s ?_;intro _ w s);refine dy ?_;intro w vx ox u;obtain⟨ax,cx,rfl⟩:=ox.cE.slice;refine dN ?_;intro ys e z s;go_wp2_with(refine fw s ?_;intro _ w s);refine bB ?_;exact .inl ⟨174,_,_,_,_,Ws ar aU,rfl,s.pure⟩
  | some j=>
   refine Df (λw _ s=>z' w _ l (hv.up s.pure) hr (recAt l i).prev) ?_;rintro w _ s _ w'(⟨ao,_⟩|⟨j2,vd,hj,rfl,od,u⟩)
   case inl=>rw[aU]at ao;cases ao
   obtain rfl:j=j2:=dB (aU.symm.trans hj);obtain⟨na,nc,rfl⟩:=(ak.row od pw).slice;refine⟨_,_,rfl,.q od u s.t.size,?_⟩;repeat refine kt ?_
   refine kn (λ_ w u s=>?_);refine ks (λw s=>?_);refine kt ?_;refine kd (λw u s=>?_);go_wp2_with(refine fw s ?_;intro _ w s);refine dy ?_;intro w vx ox u;obtain⟨gx,cx,rfl,_⟩:=ox.at ae;obtain⟨ys,e,z⟩:=Rz.s ox u s.t.size;have hy:i<κ ys:=Ty
   have s:=s.new z;go_wp2_with(refine fw s ?_;intro _ w s);refine kv s (λw s=>?_);repeat refine kt ?_
   refine kq i 7 ⟨{ys[i].d with root:=(recAt l j).root},ys[i].a,ys[i].n,ys[i].c⟩ (λw s=>?_) (jE _);repeat refine kt ?_
   refine kq i 10 ⟨ir ys[i].d (recAt l j),none,0,0⟩ (λw s=>?_) (ui hy);refine kd (λw u s=>?_);go_wp2_with(refine fw s ?_;intro _ w s);refine kw2 7 8 s (λw s=>?_);repeat refine kt ?_
   refine Df (λw _ s=>kI w (recAt l i) _ (dp.up s.pure) ?dl) ?_
   case dl=>exact hr _ Fe
   rintro w _ s _ w'⟨vd,rfl,od,u⟩;obtain⟨na,nc,rfl⟩:=(ak.row od pw).slice;refine⟨_,_,rfl,.q od u s.t.size,?_⟩;refine ks (λw s=>?_);refine ks (λw s=>?_);refine kt ?_;refine kd (λw u s=>?_);go_wp2_with fail;refine bB ?_;refine .inr ⟨next,_,_,_,_,Wt ar aU,rfl,?_,s.Cy,s.pure⟩;have:=s.cE;rw[oH,oH,e,wk,show ys[i].d=recAt l i by rw[b' hi];simp[<-e]]at this;exact this
def dQ(next:Nat)(l:List al)(full:List aj):Except Nat (Nat × List al × al):=match ec l full with
 | .error n=>.error n
 | .ok i=>if 0<κ (gN l (recAt l i).id).1 then .error 173 else .ok (next,l.eraseIdx i,recAt l i)
section
variable {next:Nat} {l:List al} {full:List aj} {n i j:Nat}
theorem JK(h:ec l full=.error n):dQ next l full=.error n:=by grind [dQ]
theorem JL(h:ec l full=.ok i)(h1:0<κ (gN l (recAt l i).id).1):dQ next l full=.error 173:=by grind [dQ]
theorem sk(h:ec l full=.ok i)(h1:¬0<κ (gN l (recAt l i).id).1):dQ next l full=.ok (next,l.eraseIdx i,recAt l i):=by grind [dQ]
end
theorem xa(w:af)(next:Nat)(v:ah)(l:List al)(hv:cB w v l)(hl:κ l<=1000)(hr:∀x∈l,κ x.dead*24<=140737488355328)(full:List aj)(hf:κ full<=9223372036854775807):Aae Aag 134 #[.agg (aS next v),.string (strOf full)] w λe w'=>Yp (dQ next l full) w e w':=by
 obtain⟨a,cap,rfl⟩:=hv.slice;have s:=Fr.start w;go_in;go_wp2_with(refine fw s ?_;intro _ w s);refine(DW w next _ l (hv.up s.pure) hr full hf).mono ?_;refine eE ?_;intro w u s;cases ar:ec l full with
 | error n=>
  have hn:=tg ar;have nz:((n:Int) != 0)=true:=by rcases hn with rfl|rfl<;>rfl
  simp only[B5];go_wp2_with(refine fw s ?_;intro _ w s);refine dy ?_;intro w vx ox u;obtain⟨ax,cx,rfl⟩:=ox.cE.slice;refine dN ?_;intro ys e z s;go_wp2_with(refine fw s ?_;intro _ w s);refine bB ?_;exact .inl ⟨n,_,_,_,_,JK ar,rfl,s.pure⟩
 | ok i=>
  have hi:=oe ar;simp only[B5];refine FM ?_;intro b1 b2 b3 b off aC aB da dc rg dp;subst aC;have i0:=(cd rg).1;go_wp2_with(refine fw s ?_;intro _ w s);refine kb s (λw s=>?_);repeat refine kt ?_
  refine kc (λw _ s=>OZ w _ l (hv.up s.pure) (recAt l i).id) ?_;rintro w _ s _ w'⟨uc,rfl,oc,u⟩;obtain⟨ca,cc,rfl⟩:=oc.cC.slice;refine⟨_,rfl,u,?_⟩;repeat refine kt ?_
  refine kd (λw u s=>?_);by_cases hc:0<κ (gN l (recAt l i).id).1
  ·have t1:((κ (gN l (recAt l i).id).1:Int)>0)=True:=eo ae;go_wp2_with(refine fw s ?_;intro _ w s);refine dy ?_;intro w vx ox u;obtain⟨ax,cx,rfl⟩:=ox.cE.slice;refine dN ?_;intro ys e z s;go_wp2_with(refine fw s ?_;intro _ w s);refine bB ?_;exact .inl ⟨173,_,_,_,_,JL ar hc,rfl,s.pure⟩
  ·have t1:((κ (gN l (recAt l i).id).1:Int)>0)=False:=cz ae;go_wp2_with(refine fw s ?_;intro _ w s);refine dy ?_;intro w vx ox u;obtain⟨gx,cx,rfl,_⟩:=ox.at ae;refine dN ?_;intro ys e z s;have hy:=an (show κ l=κ ys from Ff);replace e:=an e;go_wp2_with(refine fw s ?_;intro _ w s);refine(zR w _ gx cx _ ys hy s.rows.1 s.rows.2 i (by rw[<-hy.out];exact hi) (by rw[<-hy.out];exact hl)).mono ?_;rintro e w⟨rfl,aD,T⟩;have s:=s.osT aD T rfl (λy h=>E7 h);go_wp2_with(refine fw s ?_;intro _ w s);refine kw2 7 8 s (λw s=>?_);repeat refine kt ?_
   refine Df (λw _ s=>kI w (recAt l i) _ (dp.up s.pure) ?dl) ?_
   case dl=>exact hr _ Fe
   rintro w _ s _ w'⟨vd,rfl,od,u⟩;obtain⟨na,nc,rfl⟩:=(ak.row od pw).slice;refine⟨_,_,rfl,.q od u s.t.size,?_⟩;refine ks (λw s=>?_);refine ks (λw s=>?_);refine kt ?_;refine kd (λw u s=>?_);go_wp2_with fail;refine bB ?_;refine .inr ⟨next,_,_,_,_,sk ar hc,rfl,?_,s.Cy,s.pure⟩;have:=s.cE;rw[uj,Aao,we,p4,<-uj,e.out]at this;exact this
def Yo(r:Except Nat (Nat × List al × List au))(w:af)(e:Ab1)(w':af):Prop:=(∃(n nx:Nat)(va:Option Addr)(vm vc:Nat),r=.error n/\e=.returned (.tuple #[.agg (aS nx (.slice va vm vc)),.slice none 0 0,.int .i64 (n:Int)])/\Up w w')\/(∃(nx:Nat)(l':List al)(gone:List au)(v' vg:ah),r=.ok (nx,l',gone)/\e=.returned (.tuple #[.agg (aS nx v'),vg,.int .i64 0])/\bq w' w.heap.size v' l'/\bf w' w.heap.size vg gone/\Up w w')
def fm(y:al)(all:List au)(p:Nat):al:={y with dead:=all,prev:=p}
def cr(next:Nat)(l:List al)(full:List aj):Except Nat (Nat × List al × List au):=match dX full with
 | none=>.error 141
 | some _=>match a1 l full with
  | none=>.error 172
  | some i=>if 0<κ (et l (recAt l i).id) then .error 173 else match aV l (iH l (recAt l i).id)with
   | none=>.error 172
   | some j=>match ea (k6 (bZ l (recAt l i).id) (recAt l j).dead) (recAt l i).dead with
    | none=>.error 131
    | some all=>if 4000<κ all then .error 131 else .ok (next,(l.set j (fm (recAt l j) all (recAt l i).prev)).eraseIdx i,hJ (bZ l (recAt l i).id) (recAt l j).dead)
section
variable {next:Nat} {l:List al} {full:List aj} {vs:List aj × List aj} {i j:Nat} {all:List au}
theorem mW(h:dX full=none):cr next l full=.error 141:=sO
theorem mX(h:dX full=some vs)(h1:a1 l full=none):cr next l full=.error 172:=sO
theorem mY(h:dX full=some vs)(h1:a1 l full=some i)(h2:0<κ (et l (recAt l i).id)):cr next l full=.error 173:=sO
theorem pC(h:dX full=some vs)(h1:a1 l full=some i)(h2:¬0<κ (et l (recAt l i).id))(h3:aV l (iH l (recAt l i).id)=none):cr next l full=.error 172:=sO
theorem pD(h:dX full=some vs)(h1:a1 l full=some i)(h2:¬0<κ (et l (recAt l i).id))(h3:aV l (iH l (recAt l i).id)=some j)(h4:ea (k6 (bZ l (recAt l i).id) (recAt l j).dead) (recAt l i).dead=none):cr next l full=.error 131:=sO
theorem pE(h:dX full=some vs)(h1:a1 l full=some i)(h2:¬0<κ (et l (recAt l i).id))(h3:aV l (iH l (recAt l i).id)=some j)(h4:ea (k6 (bZ l (recAt l i).id) (recAt l j).dead) (recAt l i).dead=some all)(h5:4000<κ all):cr next l full=.error 131:=sO
theorem kX(h:dX full=some vs)(h1:a1 l full=some i)(h2:¬0<κ (et l (recAt l i).id))(h3:aV l (iH l (recAt l i).id)=some j)(h4:ea (k6 (bZ l (recAt l i).id) (recAt l j).dead) (recAt l i).dead=some all)(h5:¬4000<κ all):cr next l full=.ok (next,(l.set j (fm (recAt l j) all (recAt l i).prev)).eraseIdx i,hJ (bZ l (recAt l i).id) (recAt l j).dead):=sO
end
theorem tF(w:af)(next:Nat)(v:ah)(l:List al)(hv:cB w v l)(hl:κ l<=1000)(hr:∀x∈l,κ x.dead*24<=140737488355328)(full:List aj)(hf:κ full<=9223372036854775807):Aae Aag 135 #[.agg (aS next v),.string (strOf full)] w λe w'=>Yo (cr next l full) w e w':=by
 obtain⟨a,cap,rfl⟩:=hv.slice;have s:=Fr.start w;go_in;go_wp2_with(refine fw s ?_;intro _ w s);refine(vi w full hf).mono ?_;refine eE ?_;intro w u s;cases hvo:dX full with
 | none=>simp only[xE];go_wp2_with(refine fw s ?_;intro _ w s);refine dy ?_;intro w vx ox u;obtain⟨ax,cx,rfl⟩:=ox.cE.slice;refine dN ?_;intro ys e z s;go_wp2_with(refine fw s ?_;intro _ w s);refine bB ?_;exact .inl ⟨141,_,_,_,_,mW hvo,rfl,s.pure⟩
 | some vs=>
  simp only[xE];go_wp2_with(refine fw s ?_;intro _ w s);refine FQ ?_;intro w u s;cases hn:a1 l full with
  | none=>simp only[fF];go_wp2_with(refine fw s ?_;intro _ w s);refine dy ?_;intro w vx ox u;obtain⟨ax,cx,rfl⟩:=ox.cE.slice;refine dN ?_;intro ys e z s;go_wp2_with(refine fw s ?_;intro _ w s);refine bB ?_;exact .inl ⟨172,_,_,_,_,mX hvo hn,rfl,s.pure⟩
  | some i=>
   have hi:=jb hn;simp only[fF];refine FM ?_;intro b1 b2 b3 b off aC aB da dc rg dp;subst aC;have i0:=(cd rg).1;go_wp2_with(refine fw s ?_;intro _ w s);refine kb s (λw s=>?_);repeat refine kt ?_
   refine kc (λw _ s=>Jv w _ l (hv.up s.pure) ae (recAt l i).id) ?_;rintro w _ s _ w'⟨uc,rfl,oc,u⟩;obtain⟨ca,cc,rfl⟩:=oc.cC.slice;refine⟨_,rfl,u,?_⟩;repeat refine kt ?_
   refine kd (λw u s=>?_);by_cases hb:0<κ (et l (recAt l i).id)
   ·have t1:((κ (et l (recAt l i).id):Int)>0)=True:=eo ae;go_wp2_with(refine fw s ?_;intro _ w s);refine dy ?_;intro w vx ox u;obtain⟨ax,cx,rfl⟩:=ox.cE.slice;refine dN ?_;intro ys e z s;go_wp2_with(refine fw s ?_;intro _ w s);refine bB ?_;exact .inl ⟨173,_,_,_,_,mY hvo hn hb,rfl,s.pure⟩
   have t1:((κ (et l (recAt l i).id):Int)>0)=False:=cz ae;go_wp2_with(refine fw s ?_;intro _ w s);refine kb s (λw s=>?_);repeat refine kt ?_
   refine kc (λw _ s=>UX w _ l (hv.up s.pure) (recAt l i).id) ?_;rintro w _ s _ w'⟨rfl,u⟩;refine⟨_,rfl,u,?_⟩;refine kc (λw _ s=>s6 w _ l (hv.up s.pure) (iH l (recAt l i).id)) ?_;rintro w _ s _ w'⟨rfl,u⟩;refine⟨_,rfl,u,?_⟩;repeat refine kt ?_
   refine kd (λw u s=>?_);cases aU:aV l (iH l (recAt l i).id)with
   | none=>simp only[fF];go_wp2_with(refine fw s ?_;intro _ w s);refine dy ?_;intro w vx ox u;obtain⟨ax,cx,rfl⟩:=ox.cE.slice;refine dN ?_;intro ys e z s;go_wp2_with(refine fw s ?_;intro _ w s);refine bB ?_;exact .inl ⟨172,_,_,_,_,pC hvo hn hb aU,rfl,s.pure⟩
   | some j=>
    obtain⟨hj,_⟩:=dH aU;simp only[fF];have d1:((j:Int)<0)=False:=aq
    have d2:((j:Int)<(κ l:Int))=True:=ab
    have d3:((j:Int)>=0)=True:=aq
    obtain⟨b2,aH,az,_,ea,ec,aF,ep⟩:=cn hv hj;obtain⟨rfl,rfl⟩:b=b2/\off=aH:=by simpa using az
    obtain⟨aJ,i10,i4⟩:=db (aF 10 _ rfl) (rg 10 _ rfl) ((cd rg).2.2.2.2.1);have ai:∀k(h:k<κ l),κ (recAt l k).dead*24<=140737488355328:=λk h=>hr _ (by rw[b' h];exact cJ h);go_wp2_with(refine fw s ?_;intro _ w s);refine kb s (λw s=>?_);repeat refine kt ?_
    refine kc (λw _ s=>qN w _ l (hv.up s.pure) (recAt l i).id) ?_;rintro w _ s _ _⟨rfl,rfl⟩;refine lK ?_;refine Df (λw _ s=>QT w _ (recAt l j).dead (aI.up ep s.pure) (bZ l (recAt l i).id) (ai j hj)) ?_;rintro w _ s _ w'⟨v1,v2,rfl,o1,o2,u⟩;obtain⟨ra,rc,rfl⟩:=(ak.row o1 pw).slice;obtain⟨ga,gc,rfl⟩:=(ak.row o2 pw).slice;refine⟨_,_,rfl,.qq o1 o2 u s.t.size,?_⟩;repeat refine kt ?_
    refine kd (λw u s=>?_);go_wp2_with(refine fw s ?_;intro _ w s);refine(PV w _ _ _ _ (ak.row s.YH.1 pw) (aI.up dp s.pure) ?_).mono ?_
    ·obtain⟨h1,h2⟩:=aA (ai i hi) (ai j hj);have h3:κ (k6 (bZ l (recAt l i).id) (recAt l j).dead)<=κ (recAt l j).dead:=p5 _ _;omega
    rintro e w(⟨ao,rfl,u⟩|⟨all,va,ad,rfl,oa,u⟩)
    ·have s:=s.up u;go_wp2_with(refine fw s ?_;intro _ w s);refine dy ?_;intro w vx ox u;obtain⟨ax,cx,rfl⟩:=ox.cE.slice;refine dN ?_;intro ys e z s;go_wp2_with(refine fw s ?_;intro _ w s);refine bB ?_;exact .inl ⟨131,_,_,_,_,pD hvo hn hb aU ao,rfl,s.pure⟩
    obtain⟨aa,ac,rfl⟩:=(ak.row oa pw).slice;have s:=s.new (.q oa u s.t.size);by_cases h4:4000<κ all
    ·have t4:((κ all:Int)>4000)=True:=eo ae;go_wp2_with(refine fw s ?_;intro _ w s);refine dy ?_;intro w vx ox u;obtain⟨ax,cx,rfl⟩:=ox.cE.slice;refine dN ?_;intro ys e z s;go_wp2_with(refine fw s ?_;intro _ w s);refine bB ?_;exact .inl ⟨131,_,_,_,_,pE hvo hn hb aU ad h4,rfl,s.pure⟩
    have t4:((κ all:Int)>4000)=False:=cz ae;go_wp2_with(refine fw s ?_;intro _ w s);refine dy ?_;intro w vx ox u;obtain⟨gx,cx,rfl,_⟩:=ox.at ae;refine dN ?_;intro ys e z s;have hy:=an (show κ l=κ ys from Ff);have aw:=an (show j<κ ys by rw[<-hy.out];exact hj);replace e:=an e;go_wp2_with(refine fw s ?_;intro _ w s);refine kv2 s (λw s=>?_);repeat refine kt ?_
    refine kqd j (λw s=>?_) (jE aw);repeat refine kt ?_
    refine kq j 4 ⟨fm (ys[j]'aw).d all (recAt l i).prev,aa,κ all,ac⟩ (λw s=>?_) (ui aw);refine kd (λw u s=>?_);go_wp2_with(refine fw s ?_;intro _ w s);obtain⟨R1,R2⟩:=s.rows (v:=cv gx (κ l) cx);refine(zR w _ gx cx _ _ (by rw[Aaz,Aaz];exact hy) R1 R2 i (by rw[Aaz,Aaz,<-hy.out];exact hi) (by rw[Aaz,Aaz,<-hy.out];exact hl)).mono ?_;rintro e w⟨rfl,aD,T⟩;have s:=s.osT aD T rfl (λy h=>E7 h);go_wp2_with(refine fw s ?_;intro _ w s);refine bB ?_;refine .inr ⟨next,_,_,_,_,kX hvo hn hb aU ad h4,rfl,?_,s.YH.2,s.pure⟩;have:=s.cE;rw[uj,Aao,we,p4,<-uj,oH,oH,e.out,wk,U6 e aw]at this;exact this
section
variable {vg:ah} {w w':af} {base:Nat} {v:ah} {l:List al}
end
def iW(fl:Nat):List au->List au->List au->Option (List au × List au)
 | d,gone,[]=>some (d,gone)
 | d,gone,q::r=>if fl<q.aT then iW fl d (gone++[q]) r else match vK d q with
  | none=>none
  | some m=>if 4000<κ m then none else iW fl m gone r
def zQ(x:al)(d:List au):al:={x with dead:=d}
def pZ(next:Nat)(l:List al)(id:Nat)(ps:List au):Except Nat (Nat × List al × List au):=match aV l id with
 | none=>.error 172
 | some i=>match iW (bZ l id) (recAt l i).dead [] ps with
  | none=>.error 131
  | some (d,gone)=>.ok (next,l.set i (zQ (recAt l i) d),gone)
section
variable {next:Nat} {l:List al} {id i fl:Nat} {ps d gone r m:List au} {q:au}
theorem W2(h:aV l id=none):pZ next l id ps=.error 172:=by grind [pZ]
theorem Mb(h:aV l id=some i)(h1:iW (bZ l id) (recAt l i).dead [] ps=none):pZ next l id ps=.error 131:=by grind [pZ]
theorem Ez(h:aV l id=some i)(h1:iW (bZ l id) (recAt l i).dead [] ps=some (d,gone)):pZ next l id ps=.ok (next,l.set i (zQ (recAt l i) d),gone):=by grind [pZ]
theorem HU(h:fl<q.aT):iW fl d gone (q::r)=iW fl d (gone++[q]) r:=by show(if fl<q.aT then _ else _)=_;rw[bo h]
theorem S'(h:¬fl<q.aT)(h1:vK d q=none):iW fl d gone (q::r)=none:=by show(if fl<q.aT then _ else _)=_;rw[aM h,h1]
theorem Ta(h:¬fl<q.aT)(h1:vK d q=some m)(h2:4000<κ m):iW fl d gone (q::r)=none:=by show(if fl<q.aT then _ else _)=_;rw[aM h,h1];simp only;rw[bo h2]
theorem HT(h:¬fl<q.aT)(h1:vK d q=some m)(h2:¬4000<κ m):iW fl d gone (q::r)=iW fl m gone r:=by show(if fl<q.aT then _ else _)=_;rw[aM h,h1];simp only;rw[aM h2]
theorem Wo(hd:PW d)(h:vK d q=some m):PW m:=by grind [nD,vK,G3]
end
theorem Tb(w:af)(next:Nat)(v:ah)(l:List al)(hv:cB w v l)(hl:κ l<=1000)(hr:∀x∈l,κ x.dead*24<=140737488355328)(id:Nat)(vp:ah)(ps:List au)(hp:cX w vp ps)(a1:κ ps<=100000)(aJ:∀x∈l,PW x.dead):Aae Aag 104 #[.agg (aS next v),.int .u64 (id:Int),vp] w λe w'=>Yo (pZ next l id ps) w e w':=by
 obtain⟨pa,pc,rfl⟩:=hp.slice;obtain⟨a,cap,rfl⟩:=hv.slice;obtain⟨w0,rfl⟩:=bK w;have s:=Fr.start w0;go_in;go_wp2_with(refine fw s ?_;intro _ w s);refine(s6 w _ l (hv.up s.pure) id).mono ?_;refine eE ?_;intro w u s;cases aU:aV l id with
 | none=>simp only[fF];go_wp2_with(refine fw s ?_;intro _ w s);refine dy ?_;intro w vx ox u;obtain⟨ax,cx,rfl⟩:=ox.cE.slice;refine dN ?_;intro ys e z s;go_wp2_with(refine fw s ?_;intro _ w s);refine bB ?_;exact .inl ⟨172,_,_,_,_,W2 aU,rfl,s.pure⟩
 | some i=>
  have hi:=(dH aU).1;refine lJ ?_;intro b1 b2;have b3:((i:Int)>=0)=True:=aq
  simp only[fF];go_wp2_with(refine fw s ?_;intro _ w s);refine(qN w _ l (hv.up s.pure) id).mono ?_;rintro e _⟨rfl,rfl⟩;go_wp2_with(refine fw s ?_;intro _ w s);refine dy ?_;intro w vx ox u;obtain⟨g,cx,rfl,_⟩:=ox.at ae;refine dN ?_;intro ys e z s;have s:=s.abA;go_wp2_with(refine fw s ?_;intro _ w s);change Fr no w0 (bk ?gt 73 _::op _ _ _::os _ _ ys::?rest) _ at s;have hy:i<κ ys:=Ty
  have ed:=U6 e hy;go_loopw [12,33] (λvg ii wr=>∃(k:Nat)(y:gM)(gone:List au),k<=κ ps/\ii=.int .i64 k/\iW (bZ l id) y.d.dead gone (ps.drop k)=iW (bZ l id) (recAt l i).dead [] ps/\(κ gone)<=k/\(κ y.d.dead)*24<=140737488355328/\PW y.d.dead/\y.d=zQ (recAt l i) y.d.dead/\Fr no w0 (bk ?gt 73 (aS next (cv g (κ l) cx))::op w0.heap.size vg gone::os w0.heap.size (cv g (κ l) cx) (ys.set i y)::?rest) wr) (λ_ ii _=>κ ps-(Aat ii).toNat)
  case atStart=>exact⟨0,ys[i],[],bE _,rfl,by rw[Aax,ed],bE _,by rw[ed,b' hi];exact hr _ (cJ hi),by rw[ed,b' hi];exact aJ _ (cJ hi),by rw[ed];rfl,by rw[List.set_getElem_self];exact s⟩
  case round=>
   obtain⟨k,y,gone,hk,rfl,aa,aW,aK,aj,az,s⟩:=hrel;obtain⟨ga,gc,rfl⟩:=(ak.row (s.Cy (l:=gone)) pw).slice;by_cases hlt:k<κ ps
   ·have n1:((k:Int)<(κ ps:Int))=True:=by simp;omega
    obtain⟨bb,ai,rfl,hbs,_,hc⟩:=hp.range pw ae;have RC:w0.rangeAt bb (ai+k*3) (be ps[k]).toList:=hc k hlt;clear hc;rw[wc hlt]at aa;generalize ps[k]=q at *;by_cases hq:bZ l id<q.aT
    ·have n2:((q.aT:Int)>(bZ l id:Int))=True:=eo ae;go_wp2_with(first|(refine fw s ?_;intro _ w s)|(refine Za s ?_;intro _ w s)|(at_builtin;refine faq s ?_;intro a7 c7 w s));go_roundw
     case rel=>exact⟨k+1,y,gone++[q],ae,aq,by rw[<-aa,HU hq],ab,aK,aj,az,(s.rem .head).rem .head⟩
     case measure=>simp only[Aat];omega
    ·have n2:((q.aT:Int)>(bZ l id:Int))=False:=cz ae;go_wp2_with(refine fw s ?_;intro _ w s);have ad:(ys.set i y)[i]?=some y:=ui hy;refine kb s (λw s=>?_);repeat refine kt ?_
     refine kt ?_ (hy:=abE i 10 ad);repeat refine kt ?_
     refine Df (λw _ s=>Wp w _ y.d.dead (ak.row (s.rows.2 y (List.mem_of_getElem? ad)) pw) (rz.1 aj) q ae) ?_;rintro w _ s e w' ha;cases ag:vK y.d.dead q with
     | none=>
      rw[ag]at ha;obtain⟨rfl,u⟩:=ha;refine zb ?_;repeat refine kt ?_
      refine kd (λw u s=>?_);go_wp2_with(refine fw s ?_;intro _ w s);refine dy ?_;intro w vx ox u;obtain⟨ax,cx,rfl⟩:=ox.cE.slice;refine dN ?_;intro ys e z s;go_wp2_with(refine fw s ?_;intro _ w s);refine bB ?_;exact .inl ⟨131,_,_,_,_,Mb aU (by rw[<-aa,S' hq ag]),rfl,s.pure⟩
     | some m=>
      rw[ag]at ha;obtain⟨um,rfl,om,u⟩:=ha;obtain⟨ma,mc,rfl⟩:=(ak.row om pw).slice;refine⟨_,_,rfl,.q om u s.t.size,?_⟩;repeat refine kt ?_
      refine kd (λw u s=>?_);by_cases h4:4000<κ m
      ·have p1:((κ m:Int)>4000)=True:=eo ae;go_wp2_with(refine fw s ?_;intro _ w s);refine dy ?_;intro w vx ox u;obtain⟨ax,cx,rfl⟩:=ox.cE.slice;refine dN ?_;intro ys e z s;go_wp2_with(refine fw s ?_;intro _ w s);refine bB ?_;exact .inl ⟨131,_,_,_,_,Mb aU (by rw[<-aa,Ta hq ag h4]),rfl,s.pure⟩
      ·have p1:((κ m:Int)>4000)=False:=cz ae;go_wp2_with(first|(refine fw s ?_;intro _ w s)|(refine fqd i s ?_ ad;intro w s));go_roundw
       case rel=>exact⟨k+1,⟨{y.d with dead:=m},ma,κ m,mc⟩,gone,ae,aq,by rw[<-aa,HT hq ag h4],ae,by show κ m*24<=_;omega,Wo aj ag,by rw[az];rfl,by rw[wk]at s;exact s.rem .head⟩
       case measure=>simp only[Aat];omega
   ·obtain rfl:k=κ ps:=by omega
    have n1:((κ ps:Int)<(κ ps:Int))=False:=aq
    rw[List.drop_length]at aa;go_wp2_with(refine fw s ?_;intro _ w s);refine bB ?_;have os:=s.cE (ys:=ys.set i y);rw[oH,e,az]at os;exact .inr ⟨_,_,_,_,_,Ez aU (by rw[<-aa];rfl),rfl,os,s.Cy,s.pure⟩
def Y7(id:Nat)(nm:List aj)(x:al):Bool:=(x.aU && decide (x.owner=id)) && decide (x.name=nm)
def abi(xs:List Nat)(id:Nat):Option Nat:=xs.findIdx? (λy=>decide (id=y))
def aaK(x:al)(id:Nat):al:={x with owner:=id}
def Vh(l:List al)(id:Nat):List al->List Nat->Except Nat (List al)
 | c,[]=>.ok c
 | c,m::r=>match aV l m with
  | none=>.ok c
  | some j=>if(gV (Y7 id (recAt l j).name) l).isSome=true then .error 171 else Vh l id (c.set j (aaK (recAt c j) id)) r
def Zy(l:List al)(y:al):List Nat:=(gN l y.owner).1.drop ((abi (gN l y.owner).1 y.id).getD 0)
def Ir(next:Nat)(l:List al)(full:List aj):Except Nat (Nat × List al):=match ec l full with
 | .error n=>.error n
 | .ok i=>match aV l (gN l (recAt l i).id).2 with
  | none=>.error 174
  | some o=>match Vh l (recAt l i).id l (Zy l (recAt l o))with
   | .error n=>.error n
   | .ok c=>.ok (next,c)
section
variable {next:Nat} {l c:List al} {full:List aj} {n i j o id m:Nat} {r:List Nat}
end
def fo(pb next:Nat)(vb vm:ah)(u:hG):Array ah:=#[.pointer (some ⟨pb,0,none⟩),.int .u64 (next:Int),vb,vm,.int .u64 (u.dq:Int),.int .u64 (u.ar:Int),.int .i64 u.iD.loc,.int .u64 (u.iD.aT:Int),.int .u32 (u.iD.sum:Int),.int .i64 u.len,.int .i64 u.sec]
structure ch where
 P:bu
 next:Nat
 l:List al
 ms:List au
 u:hG
def GA(w:af)(gb:Nat)(H:aP)(G:ch):Prop:=∃vb vm,aH w gb 153 (fo H.pb G.next vb vm G.u)/\bq w 0 vb G.l/\bf w 0 vm G.ms/\PA w H G.P
section
variable {w w':af} {gb:Nat} {H:aP} {G:ch}
theorem GA.up(A:GA w gb H G)(u:Up w w'):GA w' gb H G:=by obtain⟨vb,vm,h1,h2,h3,h4⟩:=A;exact⟨vb,vm,h1.up u,h2.up u,ak.up h3 u,h4.up u⟩
theorem GA.pa(A:GA w gb H G):PA w H G.P:=by obtain⟨vb,vm,h1,h2,h3,h4⟩:=A;exact h4
theorem wN{P:bu}{base:Nat}{v:ah}{l:List al}(A:PA w H P)(h:bq w base v l)(T:Touch (PF H) w w'):bq w' base v l:=by obtain⟨ys,h1,h2,h3⟩:=h;refine⟨ys,h1,ak.az h2 T (λb hb hf=>?_),λy hy=>ak.az (h3 y hy) T (ez A (h3 y hy))⟩;exact MM
theorem GA.n4{P':bu}(A:GA w gb H G)(vp:ah)(A':PA w' (H.at vp) P')(T:Touch (PF H) w w'):GA w' gb (H.at vp) {G with P:=P'}:=by obtain⟨vb,vm,h1,h2,h3,h4⟩:=A;exact⟨vb,vm,h1.az T (h4.cc h1 ax),wN h4 h2 T,ak.az h3 T (ez h4 h3),A'⟩
end
theorem ia(w:af)(gb:Nat)(H:aP)(G:ch)(A:GA w gb H G):Aae Aag 33 #[pz gb] w λe w'=>e=.returned (pz H.pb)/\w=w':=by obtain⟨vb,vm,h1,_⟩:=A;have c0:w.cell? (ad gb 0)=some (pz H.pb):=h1.cell 0;go_in;exact eW
theorem Pu(w:af)(gb:Nat)(H:aP)(G:ch)(A:GA w gb H G):Aae Aag 155 #[pz gb] w λe w'=>e=.returned (i6 (κ G.ms:Int))/\w=w':=by obtain⟨vb,vm,h1,_,h3,_⟩:=A;obtain⟨a,c,rfl⟩:=(ak.row h3 pw).slice;have c0:w.cell? (ad gb 3)=some (.slice a (κ G.ms) c):=h1.cell 3;generalize (κ G.ms)=n at *;go_in;exact eW
theorem oj{gb pb next:Nat}{vb vm:ah}(h:aH w gb 153 (fo pb next vb vm u)):w.rangeAt gb 1 (aS next vb).toList:=λj v hj=>by
 match j,hj with
 | 0,hj=>exact(h.cell 1).trans hj
 | 1,hj=>exact(h.cell 2).trans hj
 | (k+2),hj=>simp[aS]at hj
theorem Lu{gb pb next:Nat}{vb vm:ah}(h:aH w gb 153 (fo pb next vb vm u)):w.rangeAt gb 4 (uC u).toList:=λj v hj=>by
 match j,hj with
 | 0,hj=>exact(h.cell 4).trans hj
 | 1,hj=>exact(h.cell 5).trans hj
 | 2,hj=>exact(h.cell 6).trans hj
 | 3,hj=>exact(h.cell 7).trans hj
 | 4,hj=>exact(h.cell 8).trans hj
 | 5,hj=>exact(h.cell 9).trans hj
 | 6,hj=>exact(h.cell 10).trans hj
 | (k+7),hj=>simp[uC]at hj
theorem gy(w:af)(gb:Nat)(H:aP)(G:ch)(A:GA w gb H G)(hl:κ G.l<=1000)(hr:∀x∈G.l,κ x.dead*24<=140737488355328):Aae Aag 30 #[pz gb] w λe w'=>RH G.next G.l w e w':=by
 obtain⟨vb,vm,h1,h2,_⟩:=A;obtain⟨P,next,l,ms,u⟩:=G;simp only at *;have u1:=ai w (.cells (aS 0 (nl)) 73);go_in;go_wp2_with(first
  | refine bD 73 js ?_
  | refine cK 73 5 (aS next vb) (u1.range (oj h1)) ?_)
 refine(qz _ _ _ l (h2.up u1).cE hl hr).mono ?_;rintro e w2⟨v2,rfl,os,u2⟩;have B2:=an ((aH.new w 73 (aS 0 (nl))).up u2);obtain⟨a2,c2,rfl⟩:=os.cE.slice;go_wp2_with(first|refine arm ?_|refine pj ?_);intro wz hbz ag;go_wp2;exact kk (v:=.agg (aS next (.slice a2 (κ l) c2))) (nw rfl _ _ _ _ _ _ rfl hbz _ underlying73 rfl (eY _ _)) rfl ⟨_,rfl,((os.mono (base':=w.heap.size) u1.size).HR B2 ag),((u1.trans u2).grown ag (λk hk=>aQ))⟩
theorem pS(w:af)(gb:Nat)(H:aP)(G:ch)(A:GA w gb H G)(next':Nat)(v':ah)(l':List al)(hv:cB w v' l')(hl:κ l'<=1000)(hr:∀x∈l',κ x.dead*24<=140737488355328):Aae Aag 43 #[pz gb,.agg (aS next' v')] w λe w'=>e=rt #[]/\GA w' gb H {G with next:=next',l:=l'}/\Touch (·=gb) w w':=by
 obtain⟨vb,vm,h1,h2,h3,h4⟩:=A;obtain⟨P,next,l,ms,u⟩:=G;simp only at *;have u1:=ai w (.cells (aS next' v') 73);go_in;go_wp2_with(refine arm ?_);refine(qz _ _ _ _ (hv.up u1) hl hr).mono ?_;rintro e w2⟨v2,rfl,os,u2⟩;obtain⟨G2,aa,ab⟩:=aW ((h1.up u1).up u2) (ak.up (ak.up h3 u1) u2) ((h4.up u1).up u2);obtain⟨a2,c2,rfl⟩:=os.cE.slice;go_wp2_with(first
  | ((with_reducible refine cu _ _ _ ?_);refine cj rfl _ (.tmp 8) (.tmp 6) rfl _ 1 _ rfl rfl _ _ G2 (eY _ _) (by show 1+2<=11;omega) (jf _ _ _ _) ?_))
 intro wz hbz ag;rw[show(Aby (fo H.pb next vb vm u).toList 1 (aS next' (.slice a2 (κ l') c2)).toList).toArray=fo H.pb next' (.slice a2 (κ l') c2) vm u from rfl]at hbz;obtain⟨ys,y1,y2,y3⟩:=os.mono (base':=0) (bE _);go_wp2;go_end0;exact⟨rfl,⟨_,_,hbz,⟨ys,y1,ak.kept y2 ag (.inr (ew ax G2 y2)),λy hy=>ak.kept (y3 y hy) ag (.inr (ew ax G2 (y3 y hy)))⟩,(ak.kept aa ag (.inr (ew ax G2 aa))),(ab.grown ag (ab.cc G2 ax))⟩,((Touch.bW (F:=(·=gb)) (u1.trans u2)).trans (Touch.bg (F:=(·=gb)) ag (λk hk=>aQ)) (λ_ h _=>h))⟩
theorem KV(w:af)(v:ah)(l:List au)(hv:cX w v l)(hl:κ l<=100000):Aae Aag 90 #[v] w λe w'=>∃v',e=.returned v'/\bf w' w.heap.size v' l/\Up w w':=by
 obtain⟨a,cap,rfl⟩:=hv.slice;cases a with
 | none=>
  have h0:l=[]:=by
   rcases hv with⟨h,_⟩|⟨b,off,cp,h1,_⟩
   ·exact h
   ·simp at h1
  subst h0;have EQ:∀W,(binOp .eql 88 (.slice none 0 cap) (nl)).run Aag W=.ok (.bool true) W:=λW=>yM W 88 87 none _ cap 0 0 Aaq;rw[Aa5];go_in;go_wp2;go_ret;exact⟨_,rfl,ak.nil _ _ _ _ _,Up.refl _⟩
 | some ad=>
  have U0:=an (ai w (.cells #[] 87));have EQ:∀W,(binOp .eql 88 (.slice (some ad) (κ l) cap) (nl)).run Aag W=.ok (.bool false) W:=λW=>yM W 88 87 (some ad) _ cap 0 0 Aaq;go_in;go_wp2_with(first
   | (at_builtin;refine bI pw rfl (.tmp 5) (.tmp 6) 88 rfl _ _ _ _ Aaq cy rfl _ _ rfl (ak.made _ 3 _ w _ (aG _)) _ l rfl (aI.up hv U0) ab ab U0.size ?_))
  intro v2 w2 aa ag ae;go_wp2;go_ret;exact⟨_,rfl,aa,(U0.aE ae (aG _))⟩
def fe(G:ch):Nat:=eR G.next G.l (κ G.P.C)
def eS(G:ch):Bool:=decide (0<fe G/\fe G<=bp G.P.s/\2*fe G<=bp G.P.s+κ G.ms)
theorem C'(w:af)(gb:Nat)(H:aP)(G:ch)(A:GA w gb H G)(hn:G.next<18446744073709551616)(aT:∀x∈G.l,x.wf):Aae Aag 91 #[pz gb] w λe w'=>e=.returned (i6 (fe G:Int))/\Up w w':=by
 obtain⟨vb,vm,h1,h2,_,h4⟩:=A;obtain⟨P,next,l,ms,u⟩:=G;have HC:=an (show fe ⟨P,next,l,ms,u⟩=eR next l (κ P.C) from rfl);simp only at *;have U0:=Up.drew (Up.refl w);obtain⟨FSx,UD,CO⟩:=aW (h1.up U0) U0 (PS _ next hn vb l (h2.up U0).cE aT (κ P.C) (by have:=h4.dev.len;omega));rw[HC.out];clear hn aT;generalize fe ⟨P,next,l,ms,u⟩=cg at *;generalize aa:eR next l (κ P.C)=bc at *
 clear aa;go_in;go_wp2;refine e3 (S:=(λW=>aH W gb 153 (fo H.pb next vb vm u))) av ?_;change Acp _ _ _ _ _ 12 _ _ (w.drew);generalize w.drew=w1 at *;refine lI ?_;refine tb 3 rfl (Wb (λW hS=>oj hS)) ?_;refine ta 4 ?_;refine ta 5 ?_;refine ta 6 ?_;refine tb 7 rfl (yc (λW hS=>hS.cell 0)) ?_;refine ok 8 ?_;intro K hK;go_simp;refine(k7 _ H P (h4.up U0)).mono ?_;refine F7 ?_;clear hK K;intro wx;refine ok 9 ?_;intro K hK;go_simp;refine(kO _ _ _ _ _ (h4.up U0).dev).mono ?_;refine F7 ?_;clear hK K;intro wx;refine ok 10 ?_;intro K hK;go_simp;refine CO.mono ?_;rintro e w2⟨rfl,u2⟩;have FS2:=an (FSx.up u2);refine hK _ _ FS2 ?_;clear hK K;refine ta 11 ?_;refine dn ?_;go_wp2;go_ret;exact⟨rfl,(UD.trans u2)⟩
theorem Pt(w:af)(gb:Nat)(H:aP)(G:ch)(A:GA w gb H G)(hn:G.next<18446744073709551616)(aT:∀x∈G.l,x.wf)(vF:κ G.ms<=100000):Aae Aag 97 #[pz gb] w λe w'=>e=.returned (.bool (eS G))/\Up w w':=by
 have A1:=A.up (Up.drew (Up.refl w));obtain⟨CO,HA,HF⟩:=aW (C' _ _ H G A1 hn aT) A (show eS G=decide (0<fe G/\fe G<=bp G.P.s/\2*fe G<=bp G.P.s+κ G.ms)from rfl);have aa:=an (show fe G<=2049 from by
  unfold fe eR;split
  ·split
   ·omega
   ·exact tv
  ·omega)
 have aJ:=an (show bp G.P.s<=1024 from CX _);obtain⟨vb,vm,h1,h2,_,h4⟩:=A1;obtain⟨FSx,UD,PM,CN,GH⟩:=eI h1 (Up.drew (Up.refl w)) (λW (u:Up w W)=>k2 W H _ (HA.up u).pa) (λW (u:Up w W)=>jc W _ _ (HA.up u).pa.map) (λW (u:Up w W)=>Pu W _ H G (HA.up u));obtain⟨c,hc⟩:=bK (fe G);obtain⟨n,ag⟩:∃n,n=bp G.P.s:=⟨_,rfl⟩;obtain⟨h,hh⟩:=bK (κ G.ms);rw[<-hc]at CO HF aa;rw[<-ag]at CN HF aJ;rw[<-hh]at GH HF vF;have ab:=an vF;obtain⟨r,hr⟩:=bK (eS G);rw[<-hr]at HF ⊢;clear hn aT hc ag hh vF hr;have w1:=aY (n+h) (by have:=aJ.out;have:=ab.out;omega);have w2:=aY (2*c) (by have:=aa.out;omega);have al:IntKind.i64.wrap ((n:Int)+(h:Int))=(n:Int)+(h:Int):=by have:=w1;push_cast at this;exact this
 have ao:IntKind.i64.wrap (2*(c:Int))=2*(c:Int):=by have:=w2;push_cast at this;exact this
 clear w1 w2;by_cases h0:0<c
 ·have g0:=eo ae;have ah:=eo h0;by_cases h1:c<=n
  ·have g1:=eo ae;have ai:=eo h1;obtain⟨bb,aj⟩:=bK (decide (2*c<=n+h));have HR:=an (show r=bb from by rw[HF.out,aj];simp[h0,h1]);have g2:decide (((n:Int)+(h:Int))>=2*(c:Int))=bb:=by rw[aj,EO];omega
   have ak:decide (2*(c:Int)<=(n:Int)+(h:Int))=bb:=g2;clear aj h0 h1;go_in;go_wp2;refine e3 (S:=(λW=>aH W gb 153 (fo H.pb G.next vb vm G.u))) av ?_;change Acp _ _ _ _ _ 10 _ _ (w.drew);generalize w.drew=w1 at *;refine ta 0 ?_;refine nf ?_;refine ta 4 ?_;refine tb 5 rfl (yc (λW hS=>hS.cell 0)) ?_;refine ok 1 ?_;intro K hK;go_simp;refine CO.mono ?_;rintro e w2⟨rfl,u2⟩;obtain⟨FS2,U2⟩:=aw (FSx.up u2) (UD.trans u2);refine hK _ _ FS2 ?_;clear hK K;refine ok 6 ?_;intro K hK;go_simp;refine(PM w2 U2).mono ?_;refine F8 ?_;clear hK K;intro wx;refine ok 7 ?_;intro K hK;go_simp;refine(CN w2 U2).mono ?_;refine F8 ?_;clear hK K;intro wx;refine ta 8 ?_;refine ta 9 ?_;refine dn ?_;go_wp2_with fail;refine(GH w2 U2).mono ?_;refine eO ?_;intro wx;go_wp2;go_ret;exact⟨by rw[HR.out];rfl,U2⟩
  ·have g1:=cz ae;have ai:=cz h1;have HR:=an (show r=false from by rw[HF.out];simp[h1]);clear h0 h1;exact Yx
 ·have g0:=cz ae;have ah:=cz h0;have HR:=an (show r=false from by rw[HF.out];simp[h0]);clear h0;exact Yx
theorem w7(pb next:Nat)(vb:Option Addr)(nb cb:Nat)(vm:Option Addr)(nm cm:Nat)(u:hG):prog.built 153 [(0,pz pb),(1,.agg (aS next (.slice vb nb cb))),(2,.slice vm nm cm),(3,.agg (uC u))]=some (fo pb next (.slice vb nb cb) (.slice vm nm cm) u):=av
section
variable {P:bx} {ops:Array Abn} {S:af->Prop} {o:Abn} {a:Act} {v:ah} {w:af} {K:Act->af->Prop} {Q:Exit->Act->af->Prop}
theorem D1(hw:Aaa o (Aa1 ops a.tmps)=true)(t:Aab)(i0 i1 i2 i3:Nat)(x0 x1 x2 x3:bO)(ho:o.op=.build t #[(i0,x0),(i1,x1),(i2,x2),(i3,x3)])(v0 v1 v2 v3:ah)(C:Array ah)(hb:P.built t [(i0,v0),(i1,v1),(i2,v2),(i3,v3)]=some C)(h0:a.eval x0=v0)(h1:a.eval x1=v1)(h2:a.eval x2=v2)(h3:a.eval x3=v3):Ace P ops S o (.agg C) a:=.inl ⟨hw,λw _=>by
  unfold Abs;simp only[ho,List.map_toArray,Acf,List.map_nil,h0,h1,h2,h3,Aaw,run_build w t _ C hb,Aau,Acq]⟩
theorem Ci(ty:Aab)(x:bO)(ho:o.op=.box ty x)(C:Array ah)(hx:a.eval x=.agg C)(h:K (a.put o.dst (pz w.heap.size)) (w.alloc (.cells C ty))):o.wp P a w K Q:=by unfold Acb Abs;simp[ho,hx,Instr.box,Aaw,newVar,newRow,Value.cells,Aap];exact h
end
theorem C9(w:af)(gb:Nat)(H:aP)(G:ch)(A:GA w gb H G)(hl:κ G.l<=1000)(hr:∀x∈G.l,κ x.dead*24<=140737488355328)(vF:κ G.ms<=100000):Aae Aag 37 #[pz gb] w λe w'=>∃gb' pb mb,e=.returned (pz gb')/\w.heap.size<=gb'/\w.heap.size<=pb/\w.heap.size<=mb/\GA w' gb' ⟨pb,mb,H.h⟩ G/\Up w w':=by
 have U0:=Up.drew (Up.refl w);have UD:=an U0;obtain⟨vb,vm,h1,h2,h3,h4⟩:=A.up U0;have c0:w.cell? (ad gb 0)=some (pz H.pb):=by obtain⟨_,_,k1,_⟩:=A;exact k1.cell 0
 obtain⟨HP,HB,HM,HL,HR,aK,FSx⟩:=xO h4 h2 h3 hl hr vF h1;clear hl hr vF;go_in;go_wp2;clear c0;refine e3 (S:=(λW=>aH W gb 153 (fo H.pb G.next vb vm G.u))) av ?_;change Acp _ _ _ _ _ 27 _ _ (w.drew);generalize w.drew=w1 at *;refine ta 0 ?_;refine ta 2 ?_;refine ta 5 ?_;refine ta 7 ?_;refine ta 10 ?_;refine ta 11 ?_;refine ta 12 ?_;refine tb 13 rfl (Wb (λW hS=>oj hS)) ?_;refine ta 15 ?_;refine ta 16 ?_;refine ta 17 ?_;refine tb 18 rfl (yc (λW hS=>hS.cell 3)) ?_;refine ta 20 ?_;refine ta 21 ?_;refine ta 22 ?_;refine tb 23 rfl (Wb (λW hS=>Lu hS)) ?_;refine ok 1 ?_;intro K hK;go_simp;refine(k7 _ H _ HP).mono ?_;refine F7 ?_;clear hK K;intro wx;refine ok 3 ?_;intro K hK;go_simp;refine(k2 _ H _ HP).mono ?_;refine F7 ?_;clear hK K;intro wx;refine ok 4 ?_;intro K hK;go_simp;refine(Ld _ _ _ HP.map).mono ?_;rintro e w2⟨rfl,aj,u2⟩;obtain⟨FS2,bC⟩:=aw (FSx.up u2) (HP.up u2);refine hK _ _ FS2 ?_;clear hK K;refine ok 6 ?_;intro K hK;go_simp;refine(oU _ H _ bC).mono ?_;refine F8 ?_;clear hK K;intro wx;refine ok 8 ?_;intro K hK;go_simp;refine(Qq _ H _ bC).mono ?_;refine F8 ?_;clear hK K;intro wx;refine ok 9 ?_;intro K hK;go_simp;refine(uZ _ _ _ _ _ _ _ bC.dev aj _ _).mono ?_;rintro e w3⟨rfl,ae,u3⟩;obtain⟨aa,U3⟩:=aw (FS2.up u3) (u2.trans u3);refine hK _ _ aa ?_;clear hK K;refine ok 14 ?_;intro K hK;go_simp;refine(qz _ _ _ _ (HB.up U3).cE HL HR).mono ?_;rintro e w4⟨v4,rfl,ay,u4⟩;obtain⟨ag,U4⟩:=aw (aa.up u4) (U3.trans u4);obtain⟨b4,c4,rfl⟩:=ay.cE.slice;refine hK _ _ ag ?_;clear hK K;refine ok 19 ?_;intro K hK;go_simp;refine(KV _ _ _ (aI.up (ak.row HM pw) U4) aK).mono ?_;rintro e w5⟨v5,rfl,aG,u5⟩;obtain⟨ab,U5⟩:=aw (ag.up u5) (U4.trans u5);obtain⟨m5,d5,rfl⟩:=(ak.row aG pw).slice;refine hK _ _ ab ?_;clear hK K;refine tb 24 rfl (D1 rfl _ 0 1 2 3 (.tmp 17) (.tmp 22) (.tmp 27) (.tmp 31) rfl _ _ _ _ _ (w7 _ _ _ _ _ _ _ _ _) rfl rfl rfl rfl) ?_;refine ok 25 ?_;intro K hK;refine Ci _ (.tmp 32) rfl _ rfl ?_;have u6:=ai w5 (.cells (fo w2.heap.size G.next (.slice b4 (κ G.l) c4) (.slice m5 (κ G.ms) d5) G.u) 153);have aq:=an (ab.up u6);have aB:=an (show w1.heap.size<=w5.heap.size/\w1.heap.size<=w2.heap.size/\GA (w5.alloc (.cells (fo w2.heap.size G.next (.slice b4 (κ G.l) c4) (.slice m5 (κ G.ms) d5) G.u) 153)) w5.heap.size ⟨w2.heap.size,w1.heap.size,H.h⟩ G/\Up w1 (w5.alloc (.cells (fo w2.heap.size G.next (.slice b4 (κ G.l) c4) (.slice m5 (κ G.ms) d5) G.u) 153))from⟨U5.size,u2.size,⟨_,_,aH.new _ _ _,((ay.mono (base':=0) (bE _)).up u5).up u6,ak.up (aG.mono (base':=0) (bE _)) u6,((ae.up u4).up u5).up u6⟩,U5.trans u6⟩);refine hK _ _ aq ?_;clear hK K;refine ta 26 ?_;refine dn ?_;go_wp2;go_ret;have hw:=UD.size;exact⟨_,_,_,rfl,bN hw aB.1,bN hw aB.2.1,hw,aB.2.2.1,UD.trans aB.2.2.2⟩
def nN(G:ch)(q:au):hG:=⟨G.u.dq+1,G.P.st,q,40,(κ G.P.C:Int)⟩
def WV(G:ch)(P8:bu)(q:au)(ps:List au):ch:=⟨{P8 with C:=P8.C.set ((G.u.dq+1)%4) (qD (nN G q)),m:=0,fl:=true,s:=iv P8.s 1024,ba:=P8.st,st:=P8.st+1},G.next,G.l,ps,nN G q⟩
def LO(G:ch)(b:List aj)(P8:bu)(q:au)(ps:List au):Prop:=∃ats,κ ats=dU (κ b) (κ G.P.C)/\ats.Nodup/\(∀i∈ats,i<1024/\bJ G.P.s G.P.ba G.ms i=1)/\lh P8.C q b (Wi {G.P with s:=e' (bJ G.P.s G.P.ba G.ms) ats}) ps/\LR {G.P with s:=e' (bJ G.P.s G.P.ba G.ms) ats} P8 ats ps/\q.wf/\cw q=true
def lZ(gb:Nat)(H:aP)(G:ch)(b:List aj)(w:af)(e:Ab1)(w':af):Prop:=e=.returned (.int .i64 0)/\∃q ps P8 vp,LO G b P8 q ps/\GA w' gb (H.at vp) (WV G P8 q ps)/\Touch (λk=>PF H k\/k=gb) w w'/\(∀k,vp.ownBlock=some k->H.h.vp.ownBlock=some k\/w.heap.size<=k)
theorem ID{G:ch}{b:List aj}{P8:bu}{q:au}{ps:List au}(h:LO G b P8 q ps):q≠hole:=by
 obtain⟨ats,_,_,_,M,_⟩:=h;obtain⟨r1,r2,lv1,lv2,lvq,BQ,_⟩:=M.ex;have h1:=BQ.top;have h0:0<κ (eB (κ (fB r1 (κ b) r2 (κ (Wi {G.P with s:=e' (bJ G.P.s G.P.ba G.ms) ats}))))):=by simp[iR,Wi,e',bJ,Mc]
 exact BQ.nh (κ (eB (κ (fB r1 (κ b) r2 (κ (Wi {G.P with s:=e' (bJ G.P.s G.P.ba G.ms) ats})))))-1) ae q aa
theorem BM{P:bu}(A:PA w H P){v:ah}{ys:List gM}(h2:ak c9 11 90 w base v ys):∀b,v.ownBlock=some b->¬PF H b:=λb hb hf=>by exact MM
theorem He(a s:Nat)(q:au)(l c:Int):prog.built 122 [(0,u6 (a:Int)),(1,u6 (s:Int)),(2,.agg (be q)),(3,i6 l),(4,i6 c)]=some (uC ⟨a,s,q,l,c⟩):=av
theorem HA(w:af)(gb:Nat)(H:aP)(G:ch)(A:GA w gb H G)(aC:G.next<18446744073709551616)(aT:∀x∈G.l,x.wf)(b:List aj)(hb:eV G.next G.l=some b)(h1:1<=κ b)(ht:64<=κ G.P.C/\(κ G.P.C)<=1024)(aE:1<=G.P.st/\G.P.st<=100000000)(hm:G.P.m<=80000)(aG:∀i,i<1024->G.P.s i≠0->4<=i/\i<κ G.P.C)(hc:dU (κ b) (κ G.P.C)<=bp (bJ G.P.s G.P.ba G.ms))(aF:κ G.ms<=100000)(aa:G.u.dq<=100000000):Aae Aag 92 #[.pointer (some ⟨gb,0,none⟩)] w λe w'=>lZ gb H G b w e w':=by
 obtain⟨w0,rfl⟩:=bK w;obtain⟨vb,vm,k1,k2,k3,k4⟩:=A;have ag:=k4.cc k1 ax;have g0:w0.cell? ⟨gb,0,none⟩=some (.pointer (some ⟨H.pb,0,none⟩)):=k1.cell 0;have g3:w0.cell? ⟨gb,3,none⟩=some vm:=k1.cell 3;have g4:w0.cell? ⟨gb,4,none⟩=some (.int .u64 (G.u.dq:Int)):=k1.cell 4;have g1:=oj k1;have CB:dU (κ b) (κ G.P.C)<=2049:=tv;have s:=Fr.n4 k4;go_in;go_wp2_with fail;refine kpl s (λw s=>?_);repeat refine kt ?_
 refine Yu (λw _ s=>P2 w H G.P s.pa G.next aC vb G.l (wN k4 k2 s.t).cE aT b hb vm G.ms (ak.row (ak.az k3 s.t (ez k4 k3)) pw) (ez k4 k3) ht ⟨aE.1,ae⟩ ae h1 aG hc aF) ?_;rintro w _ s _ w'⟨ats,a1,a2,a3,q,v,ps,P8,rfl,o8,⟨vp,A8,T8,O8⟩,ma,wr,qw,qg⟩;obtain⟨va,vc,rfl⟩:=(ak.row o8 pw).slice;refine⟨_,_,rfl,.pt s A8 T8 O8 o8,Wj,?_⟩;repeat(first|refine kx ?_|refine kt ?_)
 refine kn (λ_ w u s=>?_);have OQ:=an (jN q);refine ks (λw s=>?_);repeat(first|refine kx ?_|refine kt ?_)
 refine kd (λw u s=>?_);have SV:=an (show LO G b P8 q ps from⟨ats,a1,a2,a3,ma,wr,qw,qg⟩);obtain⟨W1,W2⟩:=aA wr.len wr.st;have W3:P8.m<=82049:=by rw[wr.m];show G.P.m+κ ats<=_;omega
 replace W1:κ P8.C=κ G.P.C:=W1;replace W2:P8.st=G.P.st:=W2;have ab:=an (show nN G q=⟨G.u.dq+1,P8.st,q,40,(κ P8.C:Int)⟩ by unfold nN;rw[W1,W2]);rw[<-W1]at ht;rw[<-W2]at aE;clear W1 W2 a1 a2 a3 ma wr hc aG hb aT;go_wp2_with(refine fw s ?_;intro _ w s);refine(k7 w (H.at vp) P8 s.pa).mono ?_;rintro e _⟨rfl,rfl⟩;have wn:IntKind.u64.wrap ((G.u.dq:Int)+1)=(G.u.dq:Int)+1:=IntWalk.u64_in _ ae;have BU:=an (show prog.built 122 [(0,.int .u64 ((G.u.dq:Int)+1)),(1,u6 (P8.st:Int)),(2,.agg (be q)),(3,i6 40),(4,i6 (κ P8.C:Int))]=_ from He (G.u.dq+1) P8.st q 40 (κ P8.C:Int));generalize ad:(⟨G.u.dq+1,P8.st,q,40,(κ P8.C:Int)⟩:hG)=un at *;have hu:=an ad;clear ad;have OU:=an (wT un);go_wp2_with(refine fw s ?_;intro _ w s);refine kb s (λw s=>?_);repeat refine kt ?_
 refine kj 11 ?_;refine kj 12 ?_;refine kc (λw _ s=>oU w (H.at vp) P8 s.pa) ?_;rintro w _ s _ _⟨rfl,rfl⟩;refine lK ?_;repeat(first|refine kx ?_|refine kt ?_)
 refine kc (λw _ s=>kO w (H.at vp).h P8.C P8.m P8.fl s.pa.dev) ?_;rintro w _ s _ _⟨rfl,rfl⟩;refine lK ?_;repeat(first|refine kx ?_|refine kt ?_)
 refine kn (λ_ w u s=>?_);refine ks (λw s=>?_);repeat(first|refine kx ?_|refine kt ?_)
 refine kd (λw u s=>?_);go_wp2_with(refine fw s ?_;intro _ w s);refine(JF w (H.at vp).h P8.C P8.m P8.fl s.pa.dev un (by
  rw[<-hu.out];exact⟨by show G.u.dq+1<_;omega,by show P8.st<_;omega,qw,⟨by show(-9223372036854775808:Int)<=40;omega,by show(40:Int)<=9223372036854775807;omega⟩,⟨by show(-9223372036854775808:Int)<=(κ P8.C:Int);omega,by show(κ P8.C:Int)<=9223372036854775807;omega⟩⟩) (by
  rw[<-hu.out,kG];exact⟨⟨by show 1<=G.u.dq+1;omega,by show G.u.dq+1<=_;omega⟩,⟨by show 1<=P8.st;omega,by show P8.st<=_;omega⟩,⟨qg,ID SV⟩,⟨by show(1:Int)<=40;omega,by show(40:Int)<=65535;omega⟩,⟨by show(64:Int)<=(κ P8.C:Int);omega,by show(κ P8.C:Int)<=1024;omega⟩⟩) ae ae).mono ?_
 rintro e w⟨rfl,d10⟩;obtain⟨ao,s⟩:=s.pt (s.pa.Vq d10);have s:=s.own k1 ag;go_wp2_with(refine fw s ?_;intro _ w s);have S3:(Aby (fo H.pb G.next vb vm G.u).toList 3 (#[.slice va (κ ps) vc]:Array ah).toList).toArray=fo H.pb G.next vb (.slice va (κ ps) vc) G.u:=rfl
 have S4:(Aby (fo H.pb G.next vb (.slice va (κ ps) vc) G.u).toList 4 (uC un).toList).toArray=fo H.pb G.next vb (.slice va (κ ps) vc) un:=rfl
 refine kwg gb s (λw s=>?_);repeat refine kt ?_
 refine ksp (λw s=>?_);repeat refine kt ?_
 refine ksp (λw s=>?_);refine kd (λw u s=>?_);go_wp2_with(refine fw s ?_;intro _ w s);refine(Ij w (H.at ao) _ s.pa (by show P8.st<_;omega)).mono ?_;rintro e bh⟨rfl,ai,t14⟩;obtain⟨bw,s⟩:=s.pt (vp:=ao) ⟨ao,ai,t14,λ_ h=>.inl h⟩;go_wp2_with fail;refine bB ?_;obtain⟨ys,y1,y2,y3⟩:=k2;have OZ:bq bh 0 vb G.l:=⟨ys,y1,ak.az y2 s.t (λb hb hf=>by
  rcases hf with hf|hf
  ·exact BM k4 y2 b hb hf
  ·exact ew ax k1 y2 (by rw[hb,hf])),λy hy=>ak.az (y3 y hy) s.t (λb hb hf=>by
  rcases hf with hf|hf
  ·exact ez k4 (y3 y hy) b hb hf
  ·exact ew ax k1 (y3 y hy) (by rw[hb,hf]))⟩
 refine⟨rfl,q,ps,P8,bw,SV,⟨vb,.slice va (κ ps) vc,?_,OZ,s.Cy.mono (bE _),?_⟩,s.t,(s.p (pl _ H bw _) gR).2⟩
 ·show aH _ _ _ (fo _ _ _ _ (nN G q));rw[ab.out];have:=s.e5 (g:=gb) (t:=153) gR;exact this
 ·show PA _ _ {P8 with C:=P8.C.set _ (qD (nN G q)),m:=0,fl:=true,s:=iv P8.s 1024,ba:=P8.st,st:=P8.st+1};rw[ab.out];have:=s.pa (vp:=bw);rw[<-hu.out]at this ⊢;exact this
structure Cm(G:ch)(b:List aj):Prop where
 nx:G.next<=100000000
 wf:∀x∈G.l,x.wf
 YN:eV G.next G.l=some b
 one:1<=κ b
 dev:64<=κ G.P.C/\(κ G.P.C)<=1024
 st:1<=G.P.st/\G.P.st<=100000000
 m:G.P.m<=80000
 inn:∀i,i<1024->G.P.s i≠0->4<=i/\i<κ G.P.C
 cost:dU (κ b) (κ G.P.C)<=bp (bJ G.P.s G.P.ba G.ms)
 old:κ G.ms<=100000
 tx:G.u.dq<=100000000
theorem lZ.pre{gb:Nat}{G:ch}{b:List aj}{w0 w:af}{e:Ab1}{w':af}(u:Up w0 w)(h:lZ gb H G b w e w'):lZ gb H G b w0 e w':=by obtain⟨rfl,q,ps,P8,vp,sv,ga,t,ov⟩:=h;exact⟨rfl,q,ps,P8,vp,sv,ga,(Touch.bW (F:=λk=>PF H k\/k=gb) u).trans t (λ_ h _=>h),λk hk=>(ov k hk).imp id (λh=>bN u.size h)⟩
theorem C8(w:af)(gb:Nat)(H:aP)(G:ch)(A:GA w gb H G)(b:List aj)(K:Cm G b):Aae Aag 92 #[pz gb] w λe w'=>lZ gb H G b w e w':=HA w gb H G A Fx K.wf b K.YN K.one K.dev K.st K.m K.inn K.cost K.old K.tx
theorem Pv(w:af)(gb:Nat)(H:aP)(G:ch)(A:GA w gb H G)(b:List aj)(K:Cm G b)(hc:fe G<=bp G.P.s):Aae Aag 38 #[pz gb] w λe w'=>lZ gb H G b w e w':=by obtain⟨HA,PD,DD,PS,PM,CN,CO,CM⟩:=Oo A (k7 w H G.P A.pa) (tC w H.h G.P.C G.P.m G.P.fl A.pa.dev) (oU w H _ A.pa) (k2 w H G.P A.pa) (jc w H.mb G.P.s A.pa.map) (C' w gb H G A Fx K.wf) (λW (u:Up w W)=>C8 W gb H G (A.up u) b K);obtain⟨vb,vm,k1,_⟩:=A;have c0:w.cell? (ad gb 0)=some (pz H.pb):=k1.cell 0;have c1:w.cell? (ad gb 1)=some (u6 (G.next:Int)):=k1.cell 1;have c4:w.cell? (ad gb 4)=some (u6 (G.u.dq:Int)):=k1.cell 4;have t1:((G.u.dq:Int)>281474976710652)=False:=cz (by have:=K.tx;omega);have ar:(281474976710652<G.u.dq)=False:=cz aQ;have t2:((G.P.st:Int)>281474976710652)=False:=cz (by have:=K.st;omega);have aW:(281474976710652<G.P.st)=False:=cz aQ;have t3:((G.next:Int)>281474976710652)=False:=cz Fx;have ab:(281474976710652<G.next)=False:=cz aQ;have t5:((bp G.P.s:Int)<(fe G:Int))=False:=cz ae;have ag:(bp G.P.s<fe G)=False:=cz ae;clear hc;generalize bp G.P.s=n at *;generalize fe G=c at *;obtain⟨tx,aa⟩:=bK (G.u.dq);obtain⟨st,aE⟩:=bK (G.P.st);obtain⟨nx,aC⟩:=bK (G.next);rw[<-aa]at c4 t1 ar;rw[<-aE]at PS t2 aW;rw[<-aC]at c1 t3 ab;clear aa aE aC;go_in;go_wp2_with fail;refine uD ?_;intro wx;go_wp2_with fail;refine DD.mono ?_;refine eO ?_;intro wx;go_wp2_with fail;refine PS.mono ?_;refine eO ?_;intro wx;go_wp2_with fail;refine PM.mono ?_;refine eO ?_;intro wx;go_wp2_with fail;refine CN.mono ?_;refine eO ?_;intro wx;go_wp2_with fail;refine CO.mono ?_;rintro e w2⟨rfl,u2⟩;clear c0 c1 c4;go_wp2_with fail;refine(CM w2 u2).mono ?_;intro e w3 hr;have HR:=an (hr.pre u2);obtain⟨rfl,_⟩:=hr;go_wp2;go_ret;exact HR
theorem Se(pb:Nat):prog.built 153 [(0,pz pb),(1,.agg (aS 1 (nl)))]=some (fo pb 1 (nl) (nl) tp):=av
theorem Hb:prog.built 73 [(0,u6 1)]=some (aS 1 (nl)):=av
def sT(C:List cN)(m:Nat)(fl:Bool):ch:=⟨⟨C,m,fl,j0 (κ C),1,0⟩,1,[],[],tp⟩
theorem HC(w:af)(h:iE)(C:List cN)(m:Nat)(fl:Bool)(D:DA w h C m fl)(b:List aj)(K:Cm (sT C m fl) b):Aae Aag 64 #[pz h.d] w λe w'=>∃gb pb mb w1,w.heap.size<=gb/\w.heap.size<=pb/\w.heap.size<=mb/\Up w w1/\e=rt #[pz gb,i6 0]/\lZ gb ⟨pb,mb,h⟩ (sT C m fl) b w1 (.returned (i6 0)) w':=by
 have hl:=K.dev;obtain⟨LE,SN⟩:=aw (kO w h C m _ D) (BR w (κ C) (by have:=hl.1;show 4<=κ C;have:64<=κ C:=hl.1;omega) hl.2);have t1:((κ C:Int)<64)=False:=cz (by have:64<=κ C:=hl.1;omega);have ar:(κ C<64)=False:=cz aQ;obtain⟨n,hn⟩:=bK (κ C);have HN:=an hn;rw[<-hn]at LE SN t1 ar;clear hl hn;go_in;go_wp2_with fail;refine y1 ?_;intro wx;go_wp2_with fail;refine y1 ?_;intro wx;go_wp2_with fail;refine SN.mono ?_;rintro e w1⟨rfl,s1,u1⟩;go_wp2_with fail;refine(uZ _ h _ C m _ _ (D.up u1) s1 1 0).mono ?_;rintro e w2⟨rfl,a2,u2⟩;have U2:=an (u1.trans u2);go_wp2_with(first
  | ((with_reducible refine dI _ _ ?_);refine kU rfl _ 0 (.const (u6 1)) rfl _ rfl _ Hb ?_)
  | ((with_reducible refine dI _ _ ?_);refine kK rfl _ 0 1 (.tmp 13) (.tmp 14) rfl _ _ _ (Se _) rfl rfl ?_)
  | refine gS 153 15 (fo w1.heap.size 1 (nl) (nl) tp) ?_)
 have u3:=ai w2 (.cells (fo w1.heap.size 1 (nl) (nl) tp) 153);have aa:=an (show GA (w2.alloc (.cells (fo w1.heap.size 1 (nl) (nl) tp) 153)) w2.heap.size ⟨w1.heap.size,w.heap.size,h⟩ (sT C m fl)from⟨nl,nl,aH.new w2 153 _,⟨[],rfl,ak.nil _ _ _ _ _,λy hy=>aQ⟩,ak.nil _ _ _ _ _,by have:=a2.up u3;rw[HN.out]at this;exact this⟩);have CM:=an (C8 _ _ _ _ aa b K);refine CM.mono ?_;intro e w4 hr;have HR:=an hr;obtain⟨rfl,_⟩:=hr;go_wp2;go_ret2;exact⟨_,_,_,_,U2.size,u1.size,aG _,(U2.trans u3),rfl,HR⟩
structure bT(w:af)(p gb:Nat)(H:aP)(G:ch):Prop where
 e5:aH w p 82 #[.pointer (some ⟨gb,0,none⟩)]
 ga:GA w gb H G
def bT.up{w w':af}{p gb:Nat}{G:ch}(A:bT w p gb H G)(u:Up w w'):bT w' p gb H G:=⟨A.e5.up u,A.ga.up u⟩
theorem Wz(nx:Nat)(v:ah)(W:af):(Instr.field 73 (.agg (aS nx v)) 0).run Aag W=.ok (u6 (nx:Int)) W:=av
theorem LX(nx:Nat)(a:Option Addr)(n c:Nat)(W:af):(Instr.field 73 (.agg (aS nx (.slice a n c))) 1).run Aag W=.ok (.slice a n c) W:=av
abbrev lD(gb:Nat):ah:=.agg #[.pointer (some ⟨gb,0,none⟩)]
theorem PK(gb:Nat):(prog.info? 100).map (·.size)=some (#[pz gb]:Array ah).size:=av
theorem Dz(w:af):Aae Aag 48 #[i6 71] w λe w'=>e=.returned (i6 71)/\w=w':=by go_in;exact eW
theorem wD(w:af)(p gb:Nat)(H:aP)(G:ch)(A:bT w p gb H G):Aae Aag 36 #[pz p] w λe w'=>e=.returned (.bool false)/\w=w':=by have c0:w.cell? (ad p 0)=some (pz gb):=A.e5.cell 0;go_in;go_wp2_with fail;refine(ia w _ H G A.ga).mono ?_;refine eO ?_;intro wx;go_wp2_with fail;refine(k7 w H _ A.ga.pa).mono ?_;refine eO ?_;intro wx;go_wp2_with fail;refine(tC w _ _ _ _ A.ga.pa.dev).mono ?_;refine eO ?_;intro wx;exact eW
theorem Bw(w:af)(gb:Nat)(H:aP)(G:ch)(A:GA w gb H G)(hl:κ G.l<=1000)(hr:∀x∈G.l,κ x.dead*24<=140737488355328)(hn:G.next<=100000000):Aae Aag 41 #[lD gb] w λe w'=>e=.returned (.bool false)/\Up w w':=by refine FY ?_;intro u1 c0;have BK:=an (gy _ _ H G (A.up u1) hl hr);have t1:((G.next:Int)>281474976710651)=False:=cz ae;have ar:(281474976710651<G.next)=False:=cz ae;have t2:(281474976710651<(G.next:Int))=False:=cz ae;clear hl hr hn;obtain⟨nx,aC⟩:=bK (G.next);rw[<-aC]at BK t1 ar t2;clear aC;go_in;go_wp2_with(refine arm ?_);refine BK.mono ?_;rintro e w2⟨v2,rfl,os,u2⟩;have BF:=Wz nx v2;go_wp2;go_ret;exact⟨rfl,(u1.trans u2)⟩
theorem Ik(w:af)(gb:Nat)(H:aP)(G:ch)(A:GA w gb H G)(hn:G.next<18446744073709551616)(aT:∀x∈G.l,x.wf)(vF:κ G.ms<=100000):Aae Aag 44 #[lD gb] w λe w'=>e=.returned (i6 (if eS G=true then 0 else 71))/\Up w w':=by
 refine FY ?_;intro u1 c0;obtain⟨FT,U1⟩:=aw (Pt _ _ H G (A.up u1) hn aT vF) u1;clear hn aT vF;generalize eS G=fb at *;cases fb
 ·exact Ui
 ·exact Ui
theorem sY(w:af)(gb:Nat)(H:aP)(G:ch)(A:GA w gb H G)(vo:ah)(old:List au)(ho:cX w vo old)(a7:∀k,vo.ownBlock=some k->¬PF H k)(aF:κ old<=100000):Aae Aag 105 #[lD gb,vo] w λe w'=>e=rt #[]/\GA w' gb H {G with P:={G.P with s:=bJ G.P.s G.P.ba old}}/\Touch (PF H) w w':=by
 obtain⟨oa,oc,rfl⟩:=ho.slice;refine FY ?_;intro u1 c0;obtain⟨AA,U1,SZ,HO,aQ,B1⟩:=im (A.up u1) u1 (aL w (.cells #[pz gb] 100)) (aI.up ho u1) a7 (aH.new w 100 #[pz gb]);obtain⟨vb,vm,g1,_⟩:=A;have GB:=an (g1.up u1);clear a7 c0;go_in;go_wp2_with(refine arm ?_);obtain⟨w1,al⟩:=bK ((w.alloc (.cells #[pz gb] 100)));rw[<-al]at U1 AA HO B1 GB SZ ⊢;clear al;go_loopw [8] (λi wr=>∃k:Nat,k<=κ old/\i=i6 k/\GA wr gb H {G with P:={G.P with s:=bJ G.P.s G.P.ba (old.take k)}}/\Touch (PF H) w1 wr/\aH wr w.heap.size 100 #[pz gb]) (λi _=>κ old-(Aat i).toNat)
 case atStart=>exact⟨0,bE _,rfl,AA,Touch.refl _ _,B1⟩
 case round=>
  obtain⟨k,hk,rfl,ar,tr,br⟩:=hrel;obtain⟨AR,TR,BR⟩:=aW ar tr br;by_cases hlt:k<κ old
  ·have b3:((k:Int)<(κ old:Int))=True:=by simp;omega
   obtain⟨bb,off,rfl,hbs,_,hc⟩:=(aI.tf HO TR aQ).range pw ae;obtain⟨RC,TK,UX,BX⟩:=bR (hc k hlt) (show bJ G.P.s G.P.ba (old.take (k+1))=gO (bJ G.P.s G.P.ba (old.take k)) G.P.ba old[k] from by rw[(λk hk=>en hk) k hlt,pG]) (ai wr (.cells (be old[k]) 87)) (aH.new wr 87 (be old[k]));clear hc;generalize old[k]=q at *;go_wp2_with(first
    | refine cK 87 10 (be q) RC ?_
    | refine bD 87 e8 ?_
    | refine ed 87 5 11 wr (be q) 87 (be hole) ?_)
   obtain⟨w2,hw2⟩:=bK (wr.alloc (.cells (be q) 87));rw[<-hw2]at UX BX ⊢;clear hw2;have FSx:=an (Adb (BR.up UX) BX);refine e3 (S:=(λW=>aH W w.heap.size 100 #[pz gb]/\aH W wr.heap.size 87 (be q))) av ?_;change Acp _ _ _ _ _ 5 _ _ (w2.drew);have UD:=an (Up.drew (Up.refl w2));obtain⟨FA,AA⟩:=aw (Adb (FSx.1.up UD) (FSx.2.up UD)) ((AR.up UX).up UD);generalize w2.drew=w3 at *;refine ta 0 ?_;refine tb 1 rfl (yc (λW hS=>hS.1.cell 0)) ?_;refine tb 3 rfl (Wb (λW hS=>aH.range hS.2)) ?_;refine ok 2 ?_;intro K hK;go_simp;refine(ia _ _ H _ AA).mono ?_;refine eO ?_;intro wx;refine hK _ _ FA ?_;clear hK K;refine ok 4 ?_;intro K hK;go_simp;refine(Dw _ H _ AA.pa q).mono ?_;rintro e w4⟨⟨r,rfl⟩,a4,t4⟩;have FB:=an (Adb (FA.1.az t4 (AA.pa.cc FA.1 ax)) (FA.2.az t4 (λh=>by have:=AR.pa.lt _ h;omega)));refine hK _ _ FB ?_;clear hK K;refine dn ?_;go_wp2;go_roundw
   case rel=>exact⟨k+1,ae,aq,(by rw[TK.out];exact AA.n4 H.h.vp a4 t4),((TR.trans (Touch.bW (F:=PF H) (UX.trans UD)) (λn h _=>h)).trans t4 (λn h _=>h)),FB.1⟩
   case measure=>simp only[Aat];omega
  ·obtain rfl:k=κ old:=by omega
   have b3:((κ old:Int)<(κ old:Int))=False:=aq
   have ar:=AR.out;rw[fx]at ar;go_wp2;go_end0;exact⟨rfl,ar,((Touch.bW (F:=PF H) U1).trans TR (λn h _=>h))⟩
def e4(l:List al)(full:List aj)(i:Int):Except Nat Nat:=match dF l full with
 | .error n=>.error (if n=141 then 141 else 172)
 | .ok k=>if i<0\/(recAt l k).blocks<=i then .error 176 else .ok k
section
variable {l:List al} {full:List aj} {i:Int} {k n:Nat}
theorem WM(h:dF l full=.error 141):e4 l full i=.error 141:=uv
theorem WN(h:dF l full=.error n)(hn:n≠141):e4 l full i=.error 172:=uv
theorem L1(h:dF l full=.ok k)(hi:i<0\/(recAt l k).blocks<=i):e4 l full i=.error 176:=uv
theorem Ej(h:dF l full=.ok k)(hi:¬(i<0\/(recAt l k).blocks<=i)):e4 l full i=.ok k:=uv
end
def LL(l:List al)(r:Except Nat Nat)(w:af)(e:Ab1)(w':af):Prop:=(∃n:Nat,r=.error n/\e=.returned (.tuple #[.agg b6,.int .i64 (n:Int)])/\Up w w')\/(∃i v,r=.ok i/\i<κ l/\e=.returned (.tuple #[.agg (cf (recAt l i) v),.int .i64 0])/\bf w' w.heap.size v (recAt l i).dead/\Up w w')
theorem Dx(w:af)(next:Nat)(v:ah)(l:List al)(hv:cB w v l)(hr:∀x∈l,κ x.dead*24<=140737488355328)(full:List aj)(hf:κ full<=9223372036854775807)(i:Int):Aae Aag 51 #[.agg (aS next v),.string (strOf full),i6 i] w λe w'=>LL l (e4 l full i) w e w':=by
 obtain⟨a,cap,rfl⟩:=hv.slice;obtain⟨U1,U2⟩:=aA (ai w (.cells (aS next (.slice a (κ l) cap)) 73)) (ai (w.alloc (.cells (aS next (.slice a (κ l) cap)) 73)) (.cells b6 90));obtain⟨b1,b2⟩:=aA ((aH.new w 73 (aS next (.slice a (κ l) cap))).up U2) (aH.new (w.alloc (.cells (aS next (.slice a (κ l) cap)) 73)) 90 b6);rw[aL]at b2;obtain⟨w2,hw2⟩:=bK ((w.alloc (.cells (aS next (.slice a (κ l) cap)) 73)).alloc (.cells b6 90));obtain⟨UU,aa⟩:=aw (U1.trans U2) b1;rw[<-hw2]at b1 b2 UU;obtain⟨HW2,IZ,OZ⟩:=aW hw2 gB gL;clear hw2;have c1:((w.alloc (.cells (aS next (.slice a (κ l) cap)) 73)).alloc (.cells b6 90)).cell? (ad w.heap.size 1)=some (.slice a (κ l) cap):=by rw[<-HW2.out];exact b1.cell 1
 go_in;go_wp2_with(refine arm ?_);rw[<-HW2.out];clear c1;refine(rh _ _ l (hv.up UU) hr _ hf).mono ?_;rintro e w3(⟨n,hn,rfl,u3⟩|⟨k,vd,hk,hkl,rfl,od,u3⟩)
 ·have U3:=an (UU.trans u3);exact MN
 ·have U3:=an (UU.trans u3);obtain⟨x,hx⟩:=bK (recAt l k);obtain⟨HX,E2,E3,HK⟩:=bR hx (L1 (i:=i) hk) (Ej (i:=i) hk) hkl;rw[<-hx]at od E2 E3 ⊢;obtain⟨da,dc,rfl⟩:=(ak.row od pw).slice;refine Uj ?_;clear hx hk hkl;intro OD U4 B2_4 c6 g1 bl aB HBL;rw[<-aB]at c6 g1 E2 E3;clear aB;rcases g1 with g1|⟨g1,g2,g3⟩|⟨g1,g2,g3⟩
  ·exact Ur
  ·exact Us
  ·have HE:=an (E3 (λh=>by
    rcases h with h|h
    ·rw[g1]at h;exact h
    ·rw[g3]at h;exact h))
   go_wp2_with(first|refine arm ?_|refine pj ?_);intro wz hbz ag;obtain⟨UZ,OZ⟩:=aw (U4.grown ag (λk hk=>aQ)) (ak.kept OD ag (.inr (ew ax B2_4 OD)));go_wp2_with fail;exact bS (.tuple #[.agg (cf x (.slice da (κ x.dead) dc)),i6 0]) hbz (.inr ⟨k,_,HE,HK,by rw[<-HX.out],by rw[<-HX.out];exact OZ.mono (by have:=UU.size;omega),UZ⟩)
def wQ(l:List al)(id:Nat):Nat:=match aV l id with
 | none=>0
 | some j=>(recAt l j).ar
abbrev ph(l:List al):Prop:=l.Pairwise (λx y=>x.id<y.id)
structure hK(next:Nat)(l:List al):Prop where
 nx:next<=281474976710655
 len:κ l<=32
 rt:∀x∈l,cD x=true
 gk:ph l
 PC:∀x∈l,x.id<next
 nm:∀x∈l,∀y∈l,bY x=bY y->x=y
 pz:∀x∈l,x.prev=0->x.dead=[]
 pv:∀x∈l,x.prev≠0->∃y∈l,y.id=x.prev/\y.aU=true/\(x.aU=true->y.ar<x.ar)/\∀p∈x.dead,p.aT<=y.ar
 ov:∀x∈l,x.aU=true->∃v∈l,v.id=x.owner/\v.aU=false
 nxt:∀x∈l,x.aU=true->∃n∈l,n.prev=x.id/\n.owner=x.owner/\∀m∈l,m.prev=x.id->m.owner=x.owner->m=n
theorem ph.inj(h:ph l):∀{x y:al},x∈l->y∈l->x.id=y.id->x=y:=by
 induction l with
 | nil=>simp
 | cons a l ih=>intro x y hx hy e;have h2:=List.pairwise_cons.mp h;grind
theorem aJ(h:i<κ l):recAt l i∈l:=by grind [b']
theorem ca(h:ph l)(hx:x∈l):∃i,i<κ l/\aV l x.id=some i/\recAt l i=x:=by
 cases e:aV l x.id with
 | none=>grind [aV,gV]
 | some i=>obtain⟨h1,h2⟩:=dH e;exact⟨i,h1,rfl,h.inj (aJ h1) hx h2⟩
theorem Im{id:Nat}:aV l id=none↔∀x∈l,x.id≠id:=by simp[aV,gV]
theorem Lm(h:ph l)(hy:y∈l):wQ l y.id=y.ar:=by grind [ca,wQ,recAt]
theorem right_id(h:cD x=true):1<=x.id/\x.id<=281474976710655:=by grind [bH]
theorem VG{id:Nat}(h:∀x∈l,x.id≠id):wQ l id=0:=by unfold wQ;rw[Im.mpr h]
section
variable {next:Nat} {l:List al}
theorem hK.ZX(F:hK next l):wQ l 0=0:=VG (λx hx e=>by have:=(right_id (F.rt x hx)).1;omega)
theorem hK.floor(F:hK next l){x:al}(hx:x∈l):bZ l x.id=wQ l x.prev:=by
 obtain⟨i,_,h1,h2⟩:=ca F.gk hx;by_cases h0:x.prev=0
 ·rw[Ac h1 aa,h0,F.ZX]
 ·obtain⟨y,hy,e,_⟩:=F.pv x hx h0;obtain⟨j,_,h3,h4⟩:=ca F.gk hy;rw[Ad h1 aa (by rw[h2,<-e];exact h3),h4,<-e,Lm F.gk hy]
theorem hK.prv(F:hK next l){x:al}(hx:x∈l)(h:x.prev≠0):∃y∈l,y.id=x.prev/\y.aU=true/\wQ l x.prev=y.ar/\(x.aU=true->y.ar<x.ar):=by obtain⟨y,hy,e,h1,h2,_⟩:=F.pv x hx h;exact⟨y,hy,e,h1,by rw[<-e,Lm F.gk hy],h2⟩
theorem tJ{p:al->Bool}{l:List al}:gV p l=none↔∀x∈l,p x=false:=by simp[gV]
theorem kB{l:List al}{x:al}(h:x∈l):∃i,i<κ l/\recAt l i=x:=by obtain⟨i,hi,e⟩:=ls h;exact⟨i,hi,by grind [b']⟩
theorem hK.placeOf(F:hK next l){x:al}(hx:x∈l):∃i,i<κ l/\eb l (bY x)=some i/\recAt l i=x:=by
 cases e:eb l (bY x)with
 | none=>have:=tJ.mp e x hx;simp_all
 | some i=>obtain⟨h1,h2⟩:=eP e;exact⟨i,h1,rfl,F.nm _ (aJ h1) x hx h2⟩
theorem qb{l:List al}{id j:Nat}:j∈fP l id↔j<κ l/\(recAt l j).prev=id:=by simp[fP,iV]
def J0(l:List al)(id:Nat):(fP l id).Nodup:=(E8).filter _
theorem ph.mm{l:List al}(h:ph l){i j:Nat}(hi:i<κ l)(hj:j<κ l)(e:recAt l i=recAt l j):i=j:=by
 rcases Nat.lt_trichotomy i j with hlt|rfl|hlt
 ·have:=List.pairwise_iff_getElem.mp h i j hi hj hlt;grind [b']
 ·rfl
 ·have:=List.pairwise_iff_getElem.mp h j i hj hi hlt;grind [b']
theorem hK.aay(F:hK next l):YV next l:=by
 refine⟨F.nx,F.len,F.rt,λk hk=>⟨?_,F.PC _ (aJ hk)⟩,?_,λk hk=>?_,λk hk=>?_⟩
 ·cases k with
  | zero=>exact(right_id (F.rt _ (aJ hk))).1
  | succ k=>show(recAt l k).id<_;rw[b' hk,b' ae];exact List.pairwise_iff_getElem.mp F.gk k (k+1) ae hk ae
 ·have:∀m:List al,ph m->(∀x∈m,∀y∈m,bY x=bY y->x=y)->(m.map bY).Nodup:=by
   intro m;induction m with
   | nil=>decide
   | cons a m ih=>intro h1 h2;obtain⟨h3,h4⟩:=List.pairwise_cons.mp h1;grind
  exact this l F.gk F.nm
 ·have hx:=aJ hk;generalize recAt l k=x at hx;by_cases h0:x.prev=0
  ·rw[Hr h0,F.pz x hx h0];rfl
  ·obtain⟨y,hy,e,h1,h2,h3⟩:=F.pv x hx h0;obtain⟨i,_,h4,h5⟩:=ca F.gk hy;grind [Hs,iu]
 ·have hx:=aJ hk;generalize recAt l k=x at hx;cases hs:x.aU with
  | false=>exact Ih hs
  | true=>
   obtain⟨v,hv,e,h1⟩:=F.ov x hx hs;obtain⟨i,_,h4,h5⟩:=ca F.gk hv;rw[Ii hs (by rw[<-e];exact h4) aa];obtain⟨n,hn,e1,e2,h6⟩:=F.nxt x hx hs;obtain⟨j,hj,e3⟩:=kB hn;have:hF l x.owner (fP l x.id)=[j]:=by
    have aY:(hF l x.owner (fP l x.id)).Nodup:=(J0 l x.id).filter _;have ag:∀a,a∈hF l x.owner (fP l x.id)↔a=j:=by
     intro a;unfold hF;rw[wa,qb];constructor
     ·rintro⟨⟨h7,h8⟩,h9⟩;have ab:=h6 _ (aJ h7) h8 (iy h9);exact F.gk.mm h7 hj (ab.trans e3.symm)
     ·simp_all
    generalize hF l x.owner (fP l x.id)=m at aY ag;match m,aY,ag with
    | [],_,hm=>simp_all
    | [a],_,hm=>rw[(hm a).mp cV]
    | a::b::r,aY,hm=>have ea:=(hm a).mp aq;simp_all
   simp_all
end
def cP(l:List al)(x:al)(p:au):Prop:=∀y∈l,y.id=x.prev->y.ar<p.aT
structure h6(st:Nat)(l:List al)(M:au->au->Prop):Prop where
 brt:∀x∈l,∀p,M x.root p->1<=p.aT/\p.aT<=st
 sn:∀x∈l,x.aU=true->x.ar<st/\∀p,M x.root p->p.aT<=x.ar
 el:∀x∈l,∀y∈l,y.id=x.prev->∀p,M x.root p->p.aT<=y.ar->M y.root p
 dd:∀x∈l,∀y∈l,y.id=x.prev->∀p,p∈x.dead↔M y.root p/\¬M x.root p
 lc:∀x∈l,∀z∈l,∀p q,M x.root p->M z.root q->p.loc=q.loc->p=q
 ow:∀x∈l,∀z∈l,∀p,M x.root p->M z.root p->cP l x p->cP l z p->x=z
theorem iF(h:i<κ l):l[i]=recAt l i:=(b' h).symm
theorem mem_set(h:ph l)(hi:i<κ l){x' y:al}:y∈l.set i x'↔y=x'\/(y∈l/\y≠recAt l i):=by
 constructor
 ·intro hy;obtain⟨j,hj,e⟩:=ls hy;rw[Aaz]at hj;rw[List.getElem_set]at e;split at e
  ·simp_all
  ·rename_i hne;refine .inr ⟨aQ,λe2=>hne (h.mm hi hj ?_)⟩;grind [iF]
 ·rintro(rfl|⟨hy,hne⟩)
  ·exact List.mem_iff_getElem.mpr ⟨i,ab,aq⟩
  ·obtain⟨j,hj,e⟩:=kB hy;refine List.mem_iff_getElem.mpr ⟨j,ab,?_⟩;grind [iF]
theorem mem_erase(h:ph l)(hi:i<κ l):y∈l.eraseIdx i↔y∈l/\y≠recAt l i:=by
 rw[List.mem_eraseIdx_iff_getElem];constructor
 ·rintro⟨j,hj,hne,e⟩;exact⟨aQ,λe2=>hne (h.mm hj hi (by grind [iF]))⟩
 ·grind [kB,iF]
theorem X3:ph l↔(l.map (·.id)).Pairwise (· < ·):=aQ
theorem Eo{x':al}(e:x'.id=(recAt l i).id):(l.set i x').map (·.id)=l.map (·.id):=by
 rw[oH,e];by_cases hi:i<κ l
 ·rw[b' hi];apply yo
  ·simp
  ·grind
 ·rw[List.set_eq_of_length_le ab]
theorem rF(h:ph l){x':al}(e:x'.id=(recAt l i).id):ph (l.set i x'):=by grind [X3,Eo]
theorem o1(h:ph l)(hx:∀y∈l,y.id<x.id):ph (l++[x]):=aQ
theorem DQ(h:ph l)(i:Nat):ph (l.eraseIdx i):=aQ
theorem jI:y∈l++[x]↔y∈l\/y=x:=aq
section
variable {next st:Nat} {l:List al} {M:au->au->Prop}
def hK.L9(F:hK next l):∀x∈l,1<=x.id:=λx hx=>(right_id (F.rt x hx)).1
theorem hK.e9(F:hK next l){x y:al}(hx:x∈l)(hy:y∈l)(e:y.id=x.prev):y.aU=true/\(x.aU=true->y.ar<x.ar):=by have:=F.L9 y hy;obtain⟨y',aK,e',h1,h2,_⟩:=F.pv x hx ae;have:y=y':=F.gk.inj hy aK (e.trans e'.symm);simp_all
theorem hK.own(F:hK next l){x:al}(hx:x∈l)(h:x.aU=false):x.owner=x.id:=by have:=(bH x).mp (F.rt x hx);simp_all
theorem hK.KY(F:hK next l){x:al}(hx:x∈l):x.prev<next:=by
 by_cases h:x.prev=0
 ·have:=F.PC x hx;omega
 ·obtain⟨y,hy,e,_⟩:=F.pv x hx h;rw[<-e];exact F.PC y hy
theorem hK.aaJ(F:hK next l){x:al}(hx:x∈l):x.owner<next:=by
 cases h:x.aU with
 | false=>rw[F.own hx h];exact F.PC x hx
 | true=>obtain⟨v,hv,e,_⟩:=F.ov x hx h;rw[<-e];exact F.PC v hv
theorem h6.alone(I:h6 st l M)(F:hK next l){x:al}(hx:x∈l){p:au}(hp:M x.root p)(hn:cP l x p)(hk:∀z∈l,z.prev=x.id->¬M z.root p):∀z∈l,z≠x->¬M z.root p:=by
 have UP:∀z∈l,z≠x->M z.root p->∃y∈l,y.id=z.prev/\M y.root p:=λz hz hne hm=>by have:¬cP l z p:=λh=>hne (I.ow z hz x hx p hm hp h hn);unfold cP at this;simp only[Acm]at this;obtain⟨y,hy,e,h⟩:=this;exact⟨y,hy,e,I.el z hz y hy e p hm ae⟩
 have S:∀n,∀z∈l,z.aU=true->z.ar<n->z≠x->¬M z.root p:=by
  intro n;induction n with
  | zero=>omega
  | succ n ih=>intro z hz hs hlt hne hm;obtain⟨y,hy,e,aa⟩:=UP z hz hne hm;obtain⟨h1,h2⟩:=F.e9 hz hy e;grind
 intro z hz hne hm;obtain⟨y,hy,e,aa⟩:=UP z hz hne hm;obtain⟨h1,_⟩:=F.e9 hz hy e;by_cases he:y=x
 ·simp_all
 ·exact S (y.ar+1) y hy h1 ae he aa
theorem h6.zy(I:h6 st l M)(F:hK next l){x:al}(hx:x∈l)(hs:x.aU=false){p:au}(hp:M x.root p)(hn:cP l x p):∀z∈l,z≠x->¬M z.root p:=I.alone F hx hp hn (λz hz e _=>by have:=(F.e9 hz hx e.symm).1;rw[hs]at this;cases this)
theorem h6.aaC(I:h6 st l M){l':List al}(h:∀z∈l',(∃u∈l,u.root=z.root)\/∀p,¬M z.root p):∀x∈l',∀z∈l',∀p q,M x.root p->M z.root q->p.loc=q.loc->p=q:=by
 intro x hx z hz p q hp hq e;rcases h x hx with⟨u,hu,e1⟩|h1
 ·rcases h z hz with⟨v,hv,e2⟩|h2
  ·exact I.lc u hu v hv p q aa aa e
  ·simp_all
 ·simp_all
theorem h6.create(I:h6 st l M)(F:hK next l){l':List al}{x:al}(m:∀y,y∈l'↔y=x\/y∈l)(h1:x.root=hole)(h2:x.prev=0)(h3:x.aU=false)(h4:x.id=next)(hn:1<=next)(h0:∀p,¬M hole p):h6 st l' M:=by
 have LC:=I.aaC (l':=l') (λz hz=>by
  rcases(m z).mp hz with rfl|h
  ·exact .inr aa
  ·exact .inl ⟨z,h,rfl⟩)
 obtain⟨a1,a2,a3,a4,a5,a6⟩:=I;obtain⟨b2,pl⟩:=aA F.L9 (λ(y:al) (hy:y∈l)=>F.KY hy);have N:∀z∈l,∀p,cP l' z p->cP l z p:=λz hz p h y hy=>h y ((m y).mpr (.inr hy));refine⟨?_,?_,?_,?_,LC,?_⟩
 ·grind
 ·grind
 ·grind
 ·grind
 ·grind
theorem h6.aU(I:h6 st l M)(F:hK next l){l':List al}{v s v':al}(hv:v∈l)(h0:v.aU=false)(m:∀y,y∈l'↔y=v'\/y=s\/(y∈l/\y≠v))(s1:s.root=v.root)(s2:s.prev=v.prev)(s3:s.dead=v.dead)(s4:s.aU=true)(s5:s.ar=st)(s6:s.id=next)(v1:v'.root=v.root)(v2:v'.prev=next)(v3:v'.dead=[])(v4:v'.aU=false)(v5:v'.id=v.id):h6 (st+1) l' M:=by
 obtain⟨a1,a2,a3,a4,a5,a6⟩:=I;have b1:=F.PC;refine MO ?_;intro b2 b3 J PS;have N:∀z∈l,z≠v->∀p,cP l' z p->cP l z p:=λz hz hne p h y hy e=>by
  by_cases ab:y=v
  ·grind
  ·exact h y ((m y).mpr (.inr (.inr ⟨hy,ab⟩))) e
 have NS:∀p,cP l' s p->cP l v p:=λp h y hy e=>by
  by_cases ab:y=v
  ·grind
  ·exact h y ((m y).mpr (.inr (.inr ⟨hy,ab⟩))) ae
 have NV:∀p,cP l' v' p->st<p.aT:=λp h=>by have:=h s ((m s).mpr (.inr (.inl rfl))) ae;omega
 refine⟨?_,?_,?_,?_,?_,?_⟩<;>simp only[m]<;>grind
theorem h6.back(I:h6 st l M)(F:hK next l){l':List al}{v y v':al}(hv:v∈l)(h0:v.aU=false)(hy:y∈l)(e:y.id=v.prev)(m:∀z,z∈l'↔z=v'\/(z∈l/\z≠v))(v1:v'.root=y.root)(v2:v'.prev=v.prev)(v3:v'.dead=[])(v4:v'.aU=false)(v5:v'.id=v.id):h6 st l' M/\∀p,M v.root p->cP l v p->∀z∈l',¬M z.root p:=by
 have AL:=λp (hp:M v.root p) (hn:cP l v p)=>I.zy F hv h0 hp hn;obtain⟨a1,a2,a3,a4,a5,a6⟩:=I;refine MO ?_;intro b2 b3 J PS;have yv:y≠v:=λh=>by have:=(PS v hv y hy e).1;rw[h,h0]at this;cases this
 refine NW ?_;intro N;have NV:∀p,cP l' v' p->y.ar<p.aT:=λp h=>h y ((m y).mpr (.inr ⟨hy,yv⟩)) ae;have ys:=(PS v hv y hy e).1;refine⟨⟨?_,?_,?_,?_,?_,?_⟩,?_⟩<;>simp only[m]<;>grind [cP]
theorem h6.tG(I:h6 st l M)(F:hK next l){l':List al}{v:al}(hv:v∈l)(h0:v.aU=false)(m:∀z,z∈l'↔z∈l/\z≠v):h6 st l' M/\∀p,M v.root p->cP l v p->∀z∈l',¬M z.root p:=by
 have AL:=λp (hp:M v.root p) (hn:cP l v p)=>I.zy F hv h0 hp hn;obtain⟨a1,a2,a3,a4,a5,a6⟩:=I;have PS:=λ(x:al) (hx:x∈l) (y:al) (hy:y∈l)=>F.e9 (x:=x) (y:=y) hx hy;have N:∀z∈l,∀p,cP l' z p->cP l z p:=λz hz p h x hx ex=>by
  by_cases ab:x=v
  ·grind
  ·exact h x ((m x).mpr ⟨hx,ab⟩) ex
 refine⟨⟨?_,?_,?_,?_,?_,?_⟩,?_⟩<;>simp only[m]<;>grind
theorem h6.l4(I:h6 st l M)(F:hK next l){l':List al}{y j j':al}(hy:y∈l)(h0:y.aU=true)(hj:j∈l)(e:j.prev=y.id)(only:∀z∈l,z.prev=y.id->z=j)(m:∀z,z∈l'↔z=j'\/(z∈l/\z≠j/\z≠y))(j1:j'.root=j.root)(j2:j'.prev=y.prev)(j3:∀p,p∈j'.dead↔(p∈j.dead/\¬cP l y p)\/p∈y.dead)(j4:j'.aU=j.aU)(j5:j'.id=j.id)(j6:j'.ar=j.ar):h6 st l' M/\∀p,p∈j.dead->cP l y p->∀z∈l',¬M z.root p:=by
 have LC:=I.aaC (l':=l') (λz hz=>by
  rcases(m z).mp hz with rfl|⟨h,_⟩
  ·exact .inl ⟨j,hj,j1.symm⟩
  ·exact .inl ⟨z,h,rfl⟩)
 have AL:=λp (hp:M y.root p) (hn:cP l y p)=>I.alone F hy hp hn;obtain⟨a1,a2,a3,a4,a5,a6⟩:=I;refine FZ ?_;intro J PS;have jy:j≠y:=λh=>Tl
 have dj:=a4 j hj y hy e.symm;have N:∀z∈l,z≠j->z≠y->∀p,cP l' z p->cP l z p:=λz hz hne ad p h x hx ex=>by
  by_cases ah:x=y
  ·grind
  ·by_cases ag:x=j
   ·subst ag;have:=h j' ((m j').mpr (.inl rfl)) ae;omega
   ·exact h x ((m x).mpr (.inr ⟨hx,ag,ah⟩)) ex
 have NJ:∀p,cP l' j' p->cP l y p:=λp h x hx ex=>by
  by_cases ah:x=y
  ·grind
  ·by_cases ag:x=j
   ·grind
   ·exact h x ((m x).mpr (.inr ⟨hx,ag,ah⟩)) ae
 have N2:∀p,¬cP l y p->∃x∈l,x.id=y.prev/\p.aT<=x.ar:=λp h=>by grind [cP]
 have JP:∀x∈l,x.id=y.prev->x.ar<y.ar/\x.aU=true:=λx hx ex=>⟨(PS y hy x hx ex).2 h0,(PS y hy x hx ex).1⟩;have ab:∀p,M j.root p->y.ar<p.aT\/M y.root p:=λp hp=>aQ
 have ZL:∀z∈l',z.id=y.prev->z∈l/\z≠j:=λz hz ez=>aQ
 refine⟨⟨?_,?_,?_,?_,?_,?_⟩,?_⟩
 ·grind
 ·grind
 ·intro x hx z hz ez p hp hb;rcases(m x).mp hx with rfl|⟨aa,aF,af⟩
  ·grind
  ·grind
 ·intro x hx z hz ez p;rcases(m x).mp hx with rfl|⟨aa,aF,af⟩
  ·rw[j3 p];grind [cP]
  ·grind
 ·exact LC
 ·intro x hx z hz p hp hq n1 n2;have K:∀z∈l,z≠j->z≠y->M j.root p->M z.root p->cP l y p->cP l z p->False:=λz hz ai ak h1 h2 h3 h4=>by
   rcases ab p h1 with h5|h5
   ·exact ai (a6 z hz j hj p h2 h1 h4 (λx hx ex=>aQ))
   ·grind
  rcases(m x).mp hx with rfl|⟨aa,aF,af⟩<;>rcases(m z).mp hz with rfl|⟨hz1,az,aj⟩
  ·rfl
  ·grind
  ·grind
  ·grind
 ·grind
theorem h6.GL(I:h6 st l M)(F:hK next l){M':au->au->Prop}{l':List al}{v v':al}(hv:v∈l)(h0:v.aU=false)(m:∀z,z∈l'↔z=v'\/(z∈l/\z≠v))(old news:au->Prop)(same:∀z∈l,∀p,M' z.root p↔M z.root p)(mem:∀p,M' v'.root p↔news p\/(M v.root p/\¬old p))(ho:∀p,old p->M v.root p)(hn:∀p,news p->p.aT=st/\∀z∈l,∀q,M z.root q->q.loc≠p.loc)(hd:∀p q,news p->news q->p.loc=q.loc->p=q)(aE:1<=st)(v2:v'.prev=v.prev)(v3:∀p,p∈v'.dead↔p∈v.dead\/(old p/\¬cP l v p))(v4:v'.aU=false)(v5:v'.id=v.id):h6 st l' M'/\∀p,old p->cP l v p->∀z∈l',∀q,M' z.root q->q.loc≠p.loc:=by
 have AL:=λp (hp:M v.root p) (hn:cP l v p)=>I.zy F hv h0 hp hn;obtain⟨a1,a2,a3,a4,a5,a6⟩:=I;refine FZ ?_;intro J PS;refine NW ?_;intro N;have NV:∀p,cP l' v' p->cP l v p:=λp h x hx ex=>by
  by_cases ab:x=v
  ·grind
  ·exact h x ((m x).mpr (.inr ⟨hx,ab⟩)) ae
 have N2:∀p,¬cP l v p->∃x∈l,x.id=v.prev/\p.aT<=x.ar:=λp h=>by grind [cP]
 have ad:∀z∈l,z.prev≠v.id:=λz hz e=>by have:=(PS z hz v hv e.symm).1;rw[h0]at this;cases this
 refine⟨⟨?_,?_,?_,?_,?_,?_⟩,?_⟩
 ·grind
 ·grind
 ·grind
 ·grind
 ·intro x hx z hz p q hp hq e;rcases(m x).mp hx with rfl|⟨aa,aF⟩
  ·grind
  ·grind
 ·intro x hx z hz p hp hq n1 n2;rcases(m x).mp hx with rfl|⟨aa,aF⟩
  ·grind
  ·grind
 ·grind
end
structure Shape(next:Nat)(l:List al):Prop where
 nx:next<=281474976710655
 len:κ l<=32
 rt:∀x∈l,cD x=true
section
variable {next st:Nat} {l l':List al}
theorem hK.create(F:hK next l){x:al}(S:Shape (next+1) (l++[x]))(h1:x.prev=0)(h2:x.dead=[])(h3:x.aU=false)(h4:x.id=next)(h5:∀y∈l,bY y≠bY x):hK (next+1) (l++[x]):=by have pl:=λ(y:al) (hy:y∈l)=>F.KY hy;obtain⟨a0,a1,a2,a3,a4,a5,a6,a7,a8,a9⟩:=F;have i0:∀y∈l,1<=y.id:=λy hy=>(right_id (a2 y hy)).1;refine⟨S.nx,S.len,S.rt,o1 a3 aa,?_,?_,?_,?_,?_,?_⟩<;>simp only[jI]<;>grind
theorem hK.aU(F:hK next l)(S:Shape (next+1) l')(hr:ph l'){v s v':al}(aE:∀x∈l,x.aU=true->x.ar<st)(aK:∀x∈l,∀y∈l,y.id=x.prev->∀p∈x.dead,p.aT<=y.ar)(hv:v∈l)(h0:v.aU=false)(m:∀y,y∈l'↔y=v'\/y=s\/(y∈l/\y≠v))(s2:s.prev=v.prev)(s3:s.dead=v.dead)(s4:s.aU=true)(s5:s.ar=st)(s6:s.id=next)(s7:s.owner=v.id)(v2:v'.prev=next)(v3:v'.dead=[])(v4:v'.aU=false)(v5:v'.id=v.id)(v6:v'.owner=v.owner)(v7:v'.name=v.name)(h5:∀y∈l,bY y≠bY s):hK (next+1) l':=by
 obtain⟨ol,pl,ov⟩:=db (λ(y:al) (hy:y∈l)=>F.aaJ hy) (λ(y:al) (hy:y∈l)=>F.KY hy) (F.own hv h0);refine FZ ?_;intro J PS;obtain⟨a0,a1,a2,a3,a4,a5,a6,a7,a8,a9⟩:=F;have i0:∀y∈l,1<=y.id:=λy hy=>(right_id (a2 y hy)).1;have cv:bY v'=bY v:=by grind [bY]
 refine⟨S.nx,S.len,S.rt,hr,?_,?_,?_,?_,?_,?_⟩
 ·grind
 ·intro x hx y hy e;rcases(m x).mp hx with rfl|rfl|⟨aa,aF⟩<;>rcases(m y).mp hy with rfl|rfl|⟨au,aj⟩
  ·rfl
  ·grind
  ·grind
  ·grind
  ·rfl
  ·grind
  ·grind
  ·grind
  ·grind
 ·grind
 ·intro x hx h;rcases(m x).mp hx with rfl|rfl|⟨aa,aF⟩
  ·grind
  ·rw[s2]at h;obtain⟨y,hy,e,g1,g2,g3⟩:=a7 v hv h;have:y≠v:=λe2=>by rw[e2,h0]at g1;cases g1
   grind
  ·grind
 ·intro x hx h;rcases(m x).mp hx with rfl|rfl|⟨aa,aF⟩
  ·grind
  ·grind
  ·grind
 ·intro x hx h;rcases(m x).mp hx with rfl|rfl|⟨aa,aF⟩
  ·grind
  ·grind
  ·obtain⟨n,hn,e1,e2,e3⟩:=a9 x aa h;by_cases aO:n=v
   ·subst aO;refine⟨s,(m s).mpr (.inr (.inl rfl)),ae,ae,λq hq g1 g2=>?_⟩;rcases(m q).mp hq with rfl|rfl|⟨aC,ai⟩
    ·grind
    ·rfl
    ·grind
   ·refine⟨n,(m n).mpr (.inr (.inr ⟨hn,aO⟩)),e1,e2,λq hq g1 g2=>?_⟩;rcases(m q).mp hq with rfl|rfl|⟨aC,ai⟩
    ·grind
    ·grind
    ·grind
theorem hK.back(F:hK next l)(S:Shape next l')(hr:ph l'){v v':al}(hv:v∈l)(m:∀z,z∈l'↔z=v'\/(z∈l/\z≠v))(v2:v'.prev=v.prev)(v3:v.prev=0->v'.dead=[])(v8:∀y∈l,y.id=v.prev->∀p∈v'.dead,p.aT<=y.ar)(v4:v'.aU=v.aU)(v5:v'.id=v.id)(v6:v'.owner=v.owner)(v7:v'.name=v.name)(v9:v'.ar=v.ar):hK next l':=by
 have PS:=λ(x:al) (hx:x∈l) (y:al) (hy:y∈l)=>F.e9 (x:=x) (y:=y) hx hy;obtain⟨a0,a1,a2,a3,a4,a5,a6,a7,a8,a9⟩:=F;have i0:∀y∈l,1<=y.id:=λy hy=>(right_id (a2 y hy)).1;have cv:bY v'=bY v:=by grind [bY]
 have R:∀x∈l',∃u∈l,x.prev=u.prev/\x.id=u.id/\x.aU=u.aU/\x.owner=u.owner/\x.ar=u.ar/\(x=u\/(x=v'/\u=v)):=λx hx=>aQ
 have R':∀u∈l,∃x∈l',x.prev=u.prev/\x.id=u.id/\x.aU=u.aU/\x.owner=u.owner/\x.ar=u.ar:=λu hu=>aQ
 refine⟨S.nx,S.len,S.rt,hr,?_,?_,?_,?_,?_,?_⟩
 ·grind
 ·grind
 ·grind
 ·intro x hx h;obtain⟨u,hu,e1,e2,e3,e4,e5,e6⟩:=R x hx;obtain⟨y,hy,f1,f2,f3,f4⟩:=a7 u hu ae;grind
 ·intro x hx h;obtain⟨u,hu,e1,e2,e3,e4,e5,e6⟩:=R x hx;obtain⟨y,hy,f1,f2⟩:=a8 u hu aQ;grind
 ·intro x hx h;obtain⟨u,hu,e1,e2,e3,e4,e5,e6⟩:=R x hx;obtain⟨n,hn,f1,f2,f3⟩:=a9 u hu aQ;obtain⟨n',ag,g1,g2,g3,g4,g5⟩:=R' n hn;refine⟨n',ag,ae,ae,λq hq h1 h2=>?_⟩;obtain⟨q0,aa,k1,k2,k3,k4,k5,k6⟩:=R q hq;grind
theorem hK.tG(F:hK next l)(hr:ph l')(hl:κ l'<=32){v:al}(hv:v∈l)(h0:v.aU=false)(m:∀z,z∈l'↔z∈l/\z≠v)(no:∀x∈l,x.aU=true->x.owner≠v.id):hK next l':=by
 have ov:=F.own hv h0;obtain⟨a0,a1,a2,a3,a4,a5,a6,a7,a8,a9⟩:=F;refine⟨a0,hl,λx hx=>a2 x ((m x).mp hx).1,hr,?_,?_,?_,?_,?_,?_⟩
 ·simp_all
 ·grind
 ·simp_all
 ·grind
 ·grind
 ·intro x hx h;obtain⟨aa,aF⟩:=(m x).mp hx;obtain⟨n,hn,f1,f2,f3⟩:=a9 x aa h;exact⟨n,(m n).mpr ⟨hn,λe=>no x aa h aQ⟩,f1,f2,λq hq=>f3 q ((m q).mp hq).1⟩
theorem hK.l4(F:hK next l)(S:Shape next l')(hr:ph l'){y j j':al}(hy:y∈l)(h0:y.aU=true)(hj:j∈l)(e:j.prev=y.id)(eo:j.owner=y.owner)(only:∀z∈l,z.prev=y.id->z=j)(m:∀z,z∈l'↔z=j'\/(z∈l/\z≠j/\z≠y))(j2:j'.prev=y.prev)(j3:y.prev=0->j'.dead=[])(j8:∀z∈l,z.id=y.prev->∀p∈j'.dead,p.aT<=z.ar)(j4:j'.aU=j.aU)(j5:j'.id=j.id)(j6:j'.ar=j.ar)(j7:j'.owner=j.owner)(j9:j'.name=j.name):hK next l':=by
 obtain⟨PS,i0,gk⟩:=db (λ(x:al) (hx:x∈l) (y:al) (hy:y∈l)=>F.e9 (x:=x) (y:=y) hx hy) F.L9 F.gk;obtain⟨a0,a1,a2,a3,a4,a5,a6,a7,a8,a9⟩:=F;have jy:j≠y:=λh=>Tl
 have cj:bY j'=bY j:=by grind [bY]
 have R:∀x∈l',∃u∈l,u≠y/\x.id=u.id/\x.aU=u.aU/\x.owner=u.owner/\x.ar=u.ar/\((x=u/\u≠j)\/(x=j'/\u=j)):=λx hx=>by
  rcases(m x).mp hx with rfl|⟨h1,h2,h3⟩
  ·grind
  ·grind
 have R':∀u∈l,u≠y->∃x∈l',x.id=u.id/\x.aU=u.aU/\x.owner=u.owner/\x.ar=u.ar/\((x=u/\u≠j)\/(x=j'/\u=j)):=λu hu hn=>by
  by_cases h:u=j
  ·grind
  ·grind
 refine⟨S.nx,S.len,S.rt,hr,?_,?_,?_,?_,?_,?_⟩
 ·grind
 ·intro x hx z hz h;rcases(m x).mp hx with rfl|⟨aa,aF,_⟩<;>rcases(m z).mp hz with rfl|⟨hz1,az,_⟩
  ·rfl
  ·grind
  ·grind
  ·grind
 ·grind
 ·intro x hx h;rcases(m x).mp hx with rfl|⟨aa,aF,af⟩
  ·rw[j2]at h;obtain⟨z,hz,f1,f2,f3,f4⟩:=a7 y hy h;have zy:z≠y:=λe2=>by have:=f3 h0;rw[e2]at this;omega
   obtain⟨z',ah,g1,g2,g3,g4,g5⟩:=R' z hz zy;refine⟨z',ah,ae,aQ,λhs=>?_,?_⟩
   ·grind
   ·grind
  ·obtain⟨z,hz,f1,f2,f3,f4⟩:=a7 x aa h;have zy:z≠y:=λe2=>aF (only x aa aQ);grind
 ·intro x hx h;obtain⟨u,hu,u1,u2,u3,u4,u5,u6⟩:=R x hx;obtain⟨v,hv,f1,f2⟩:=a8 u hu aQ;obtain⟨v',ab,g1,g2,g3,g4,g5⟩:=R' v hv (λe2=>aQ);grind
 ·intro x hx h;obtain⟨u,hu,u1,u2,u3,u4,u5,u6⟩:=R x hx;obtain⟨n,hn,f1,f2,f3⟩:=a9 u hu aQ;by_cases ad:n=y
  ·grind
  ·obtain⟨n',ag,g1,g2,g3,g4,g5⟩:=R' n hn ad;refine⟨n',ag,?_,ae,λq hq h1 h2=>?_⟩
   ·rcases g5 with⟨rfl,_⟩|⟨rfl,rfl⟩
    ·omega
    ·exact absurd (gk.inj hu hy ae) u1
   ·rcases(m q).mp hq with rfl|⟨aC,ai,ak⟩
    ·grind
    ·grind
theorem hK.aaH(F:hK next l){v:al}(hv:v∈l)(h0:v.aU=false)(hp:∀y∈l,y.id=v.prev->y.owner≠v.id):∀x∈l,x.aU=true->x.owner≠v.id:=by
 have B:∀x∈l,x.aU=true->x.ar<=281474976710655:=λx hx hs=>xz (F.rt x hx);have S:∀n,∀x∈l,x.aU=true->281474976710655-x.ar<n->x.owner≠v.id:=by
  intro n;induction n with
  | zero=>omega
  | succ n ih=>
   intro x hx hs hlt ho;obtain⟨m,hm,e1,e2,_⟩:=F.nxt x hx hs;cases vF:m.aU with
   | true=>have h2:=(F.e9 hm hx e1.symm).2 vF;grind
   | false=>have:m=v:=F.gk.inj hm hv (by rw[<-F.own hm vF,e2,ho]);grind
 intro x hx hs;exact S _ x hx hs (Nat.lt_succ_self _)
end
theorem ei{α:Type}[DecidableEq α]:∀(l m:List α),l.Nodup->(∀x∈l,x∈m)->κ l<=κ m
 | [],_,_,_=>bE _
 | x::l,m,h,hs=>by obtain⟨h1,h2⟩:=List.nodup_cons.mp h;have hx:=hs x cV;have:=ei l (m.erase x) h2 (λy hy=>(List.mem_erase_of_ne (λe=>h1 (by rw[<-e];exact hy))).mpr (hs y (bt _ hy)));rw[List.length_erase_of_mem hx]at this;have:=List.length_pos_of_mem hx;rw[Aal];omega
theorem PW.nodup{l:List au}(h:PW l):l.Nodup:=h.imp (λ{a b} aC e=>by grind [tZ])
theorem Iy{l:List au}(h:PW l)(hf:∀p∈l,nD p=true):hn l=true:=by
 rw[ja];intro i hi;unfold sV;rw[hf _ (cJ hi),Bool.true_and];split
 ·rfl
 ·exact rz.mp h (i-1) i hi ae
def qm{l:List au}(h:hn l=true):PW l:=rz.mpr (Gq h)
theorem wI{l:List au}(h:hn l=true){p:au}(hp:p∈l):nD p=true:=by obtain⟨i,hi,rfl⟩:=ls hp;grind [ja,sV]
theorem L2{p:au}:nD p=true↔p≠hole/\cw p=true:=by simp[nD]
theorem pY{fl:Nat}:∀(ps d gone:List au),PW d->(∀q∈ps,nD q=true)->ps.Nodup->(∀q∈ps,q ∉ d)->κ d+κ ps<=4000->∃d',iW fl d gone ps=some (d',gone++ps.filter (λq=>decide (fl<q.aT)))/\PW d'/\(∀p,p∈d'↔p∈d\/(p∈ps/\¬fl<p.aT))
 | [],d,gone,hd,_,_,_,_=>⟨d,by simp[iW],hd,aq⟩
 | q::r,d,gone,hd,hf,hn,ho,hl=>by
  obtain⟨n1,n2⟩:=List.nodup_cons.mp hn;have aa:=λx hx=>hf x (bt q hx);rw[Aal]at hl;by_cases h:fl<q.aT
  ·obtain⟨d',h1,h2,h3⟩:=pY r d (gone++[q]) hd aa n2 (λx hx=>ho x (bt q hx)) ae;refine⟨d',?_,h2,λp=>?_⟩
   ·rw[HU h,h1,List.filter_cons_of_pos jG];simp
   ·rw[h3 p,Aam];constructor
    ·rintro(h4|⟨h4,h5⟩)
     ·exact .inl h4
     ·exact .inr ⟨.inr h4,h5⟩
    ·rintro(h4|⟨rfl|h4,h5⟩)
     ·exact .inl h4
     ·exact absurd h h5
     ·exact .inr ⟨h4,h5⟩
  ·rcases G3 d q hd (hf q cV)with⟨h1,_⟩|⟨_,m,h2,h3,h4⟩
   ·exact absurd h1 (ho q cV)
   ·have hm:κ m<=κ d+1:=by have:=ei m (q::d) h3.nodup (λx hx=>List.mem_cons.mpr ((h4 x).mp hx));simpa using this
    obtain⟨d',k1,k2,k3⟩:=pY r m gone h3 aa n2 (λx hx hm=>by
     rcases(h4 x).mp hm with rfl|hm
     ·exact n1 hx
     ·exact ho x (bt q hx) hm) ae
    refine⟨d',?_,k2,λp=>?_⟩
    ·rw[HT h h2 ae,k1,List.filter_cons_of_neg jG]
    ·rw[k3 p,h4 p,Aam];constructor
     ·rintro((rfl|h6)|⟨h6,h7⟩)
      ·exact .inr ⟨.inl rfl,h⟩
      ·exact .inl h6
      ·exact .inr ⟨.inr h6,h7⟩
     ·rintro(h6|⟨rfl|h6,h7⟩)
      ·exact .inl (.inr h6)
      ·exact .inl (.inl rfl)
      ·exact .inr ⟨h6,h7⟩
def nM(x:al):Nat:=60+κ x.name+16*κ x.dead
def cA(l:List al):Nat:=12+(l.map nM).sum
theorem o9:∀ts:List (List aj),κ (c8 ts)=(ts.map (λt=>2+κ t)).sum
 | []=>rfl
 | t::ts=>by have:=o9 ts;unfold c8 at this ⊢;rw[Abg,Aaf,this,Acf,Acg];simp[tX,bA]
theorem xZ(x:al):κ (e1 x)=58+κ x.name+16*κ x.dead:=by simp[e1,nW,h9,dZ]
theorem kJ(next:Nat)(l:List al):κ (ey (ej next l))=cA l:=by
 unfold ey ej cA;rw[Aaf,o9,Acf,Acg,gz,bA,vY];have:((λt:List aj=>2+κ t) ∘ e1)=nM:=by grind [e1,nM,xZ]
 grind
theorem ql{next:Nat}{b:List aj}:eV next l=some b↔(next<=281474976710655/\(κ l)<=32/\∀x∈l,cD x=true)/\cA l<=65535/\b=ey (ej next l):=by grind [eV,lC,kJ]
theorem IX(h:a<=b):lR a k<=lR b k:=Nat.div_le_div_right ae
theorem Ka:∀(b a:Nat),a<=b->(a::l' a).sum<=(b::l' b).sum:=by
 intro b;induction b using Nat.strongRecOn with
 | ind b ih=>
  intro a h;rw[Acg,Acg];by_cases ha:a<=1
  ·grind [hi]
  ·rw[kh ae,kh (by omega:1<b)];have:=ih (lR b 8) (by grind [lR]) (lR a 8) (IX h);omega
theorem Bf(h1:1<=a)(h:a<=b)(h2:b<=65535):dM a<=dM b:=by unfold dM eB;rw[bo ae,bo ae];exact Ka _ _ (IX h)
theorem jg{next t:Nat}(h:next<=281474976710655/\(κ l)<=32/\∀x∈l,cD x=true)(h2:cA l<=65535)(ht:64<=t/\t<=1024):eR next l t=dU (cA l) t:=by unfold eR;rw[ql.mpr ⟨h,h2,rfl⟩];grind [cF,dU,ey,ej,kJ]
theorem lF{next t:Nat}(h:0<eR next l t):(next<=281474976710655/\(κ l)<=32/\∀x∈l,cD x=true)/\cA l<=65535:=by
 unfold eR at h;split at h
 ·rename_i m hm;have:=ql.mp hm;simp_all
 ·omega
theorem O3(k t:Nat):1<=dU k t:=by grind [dU]
theorem Jx(h1:1<=a)(h:a<=b)(h2:b<=65535):dU a t<=dU b t:=by unfold dU;have:=Bf h1 h h2;omega
theorem xC(l:List al):12<=cA l:=by simp[cA]
theorem Co{next next' t:Nat}{l l':List al}(h:next'<=281474976710655/\(κ l')<=32/\∀x∈l',cD x=true)(h0:0<eR next l t)(ht:64<=t/\t<=1024)(hl:cA l'<=cA l):0<eR next' l' t/\eR next' l' t<=eR next l t:=by obtain⟨k1,k2⟩:=lF h0;rw[jg k1 k2 ht,jg h ae ht];exact⟨O3 _ _,Jx (by grind [xC]) hl k2⟩
theorem GH(hi:i<κ l)(x:al)(f:al->Nat):((l.set i x).map f).sum+f (recAt l i)=(l.map f).sum+f x:=by exact Ng
theorem DR(hi:i<κ l)(f:al->Nat):((l.eraseIdx i).map f).sum+f (recAt l i)=(l.map f).sum:=by exact Ng
section
variable {s:Nat->Nat} {ba k:Nat} {q:au}
theorem Y6{i:Int}{x y:Nat}(h:i≠(k:Int)):sc s i x y k=s k:=Fh
theorem WB{i:Int}{x y:Nat}(h:s k≠x):sc s i x y k=s k:=Fh
theorem tE(h:q.loc≠(k:Int)):gO s ba q k=s k:=by unfold gO;grind [Y6]
theorem C2(h:s k≠2):gO s ba q k=s k:=by unfold gO;grind [WB]
theorem vQ(hq:q≠hole)(h:q.loc=(k:Int))(hk:k<1024)(h2:s k=2):gO s ba q k=if ba<q.aT then 1 else 3:=by
 unfold gO;rw[aM hq];have:∀y,sc s q.loc 2 y k=y:=λy=>Fh
 grind
theorem gU:∀(l:List au){s:Nat->Nat},s k≠2->bJ s ba l k=s k
 | [],_,_=>rfl
 | q::l,s,h=>by have e:=C2 (ba:=ba) (q:=q) h;exact(gU l (by rw[e];exact h)).trans e
theorem lU:∀(l:List au){s:Nat->Nat},(∀q∈l,q.loc≠(k:Int))->bJ s ba l k=s k
 | [],_,_=>rfl
 | q::l,s,h=>(lU l (λx hx=>h x (bt _ hx))).trans (tE (h q cV))
theorem ou:∀(l:List au){s:Nat->Nat},(∀q∈l,q≠hole)->(∃q∈l,q.loc=(k:Int))->k<1024->s k=2->bJ s ba l k=1\/bJ s ba l k=3
 | [],_,_,h,_,_=>by obtain⟨q,hq,_⟩:=h;cases hq
 | q::l,s,hn,h,hk,h2=>by
  by_cases hq:q.loc=(k:Int)
  ·have e:=vQ (s:=s) (ba:=ba) (hn q cV) hq hk h2;have:bJ s ba (q::l) k=gO s ba q k:=gU l (by rw[e];split<;>omega);rw[this,e];split
   ·exact .inl rfl
   ·exact .inr rfl
  ·obtain⟨x,hx,e⟩:=h;rcases List.mem_cons.mp hx with rfl|hx
   ·exact absurd e hq
   ·exact ou l (λx hx=>hn x (bt _ hx)) ⟨x,hx,e⟩ hk (by rw[tE hq];exact h2)
theorem zX:∀(l:List au){s:Nat->Nat},(∀q∈l,q≠hole/\q.aT<=ba)->(∃q∈l,q.loc=(k:Int))->k<1024->s k=2->bJ s ba l k=3
 | [],_,_,h,_,_=>by obtain⟨q,hq,_⟩:=h;cases hq
 | q::l,s,hn,h,hk,h2=>by
  by_cases hq:q.loc=(k:Int)
  ·have e:=vQ (s:=s) (ba:=ba) (hn q cV).1 hq hk h2;rw[aM (by have:=(hn q cV).2;omega)]at e;have:bJ s ba (q::l) k=gO s ba q k:=gU l (by rw[e];omega);rw[this,e]
  ·obtain⟨x,hx,e⟩:=h;rcases List.mem_cons.mp hx with rfl|hx
   ·exact absurd e hq
   ·exact zX l (λx hx=>hn x (bt _ hx)) ⟨x,hx,e⟩ hk (by rw[tE hq];exact h2)
theorem hQ(l:List au):bJ s ba l k=0↔s k=0:=by
 constructor
 ·intro h;exact E9 λh2=>by
   by_cases h3:s k=2
   ·exact absurd h (by
     have:∀(l:List au)(s:Nat->Nat),s k≠0->bJ s ba l k≠0:=by
      intro l;induction l with
      | nil=>intro s h;exact h
      | cons q l ih=>
       intro s h;refine ih _ ?_;by_cases e:s k=2
       ·by_cases hq:q=hole
        ·unfold gO;rw[bo hq];exact h
        ·by_cases hl:q.loc=(k:Int)
         ·by_cases hk:k<1024
          ·rw[vQ hq hl hk e];split<;>omega
          ·have:∀y,sc s q.loc 2 y k=s k:=λy=>by unfold sc;rw[aM];unfold J7;simp only[decide_eq_true_eq];omega
           unfold gO;rw[aM hq];split
           ·rw[this];exact h
           ·rw[this];exact h
         ·rw[tE hl];exact h
       ·rw[C2 e];exact h
     exact this l s h2)
   ·grind [gU]
 ·grind [gU]
theorem vR(l:List au)(h:s k<=3)(hn:∀q∈l,q≠hole)(hk:k<1024):bJ s ba l k<=3:=by
 by_cases h2:s k=2
 ·by_cases hx:∃q∈l,q.loc=(k:Int)
  ·grind [ou]
  ·grind [lU]
 ·grind [gU]
end
theorem BQ{s:Nat->Nat}{gone:List au}{R R' Q:Nat->Prop}(h2:∀i,i<1024->(s i=2↔R i\/Q i))(hn:∀q∈gone,q≠hole)(a:∀i,i<1024->R' i->R i/\∀p∈gone,p.loc≠(i:Int))(b:∀i,i<1024->R i->R' i\/∃p∈gone,p.loc=(i:Int))(c:∀i,i<1024->Q i->∀p∈gone,p.loc≠(i:Int)):∀i,i<1024->(bJ s ba gone i=2↔R' i\/Q i):=by grind [gU,ou,lU]
structure bm(G:ch):Prop where
 hE:hK G.next G.l
 si:h6 G.P.st G.l (gb G.P.C)
 tr:∀x∈G.l,eC G.P.C x.root
 md:(G.ms.map (·.loc)).Nodup
 ml:∀q∈G.ms,4<=q.loc/\q.loc<1024/\q.aT<=G.P.ba
 mx:∀q∈G.ms,∀x∈G.l,∀p,gb G.P.C x.root p->p.loc≠q.loc
 s0:∀i,G.P.s i=0↔(i<4\/κ G.P.C<=i)
 s2:∀i,i<1024->(G.P.s i=2↔(∃x∈G.l,∃p,gb G.P.C x.root p/\p.loc=(i:Int))\/∃q∈G.ms,q.loc=(i:Int))
 s3:∀i,G.P.s i<=3
 sb:G.P.ba<G.P.st
 st:G.P.st<=281474976710655
 ln:64<=κ G.P.C/\(κ G.P.C)<=1024
 ft:eS G=true
def vG(C:List cN)(x:al)(j:Nat):Option cN:=fE C (eD C x.root (9+j))
theorem hK.UU{next:Nat}(F:hK next l)(hx:x∈l){p:au}(hp:1<=p.aT):cP l x p↔wQ l x.prev<p.aT:=by
 by_cases h0:x.prev=0
 ·rw[h0,F.ZX];exact⟨λ_=>ae,λ_ y hy e=>Fo⟩
 ·obtain⟨y,hy,e,h1,h2,_⟩:=F.prv hx h0;rw[h2];exact⟨λh=>h y hy e,λh z hz ez=>by rw[F.gk.inj hz hy (ez.trans e.symm)];exact h⟩
section
variable {G:ch}
theorem bm.qg(I:bm G):oi G.P:=by
 refine⟨λj hj=>?_,I.ln.2,⟨by have:=I.sb;omega,I.st⟩⟩;have:¬(j<4\/κ G.P.C<=j):=λh=>by have:=(I.s0 j).mpr h;omega
 omega
theorem bm.taken(I:bm G){x:al}(hx:x∈G.l){p:au}(hp:gb G.P.C x.root p):G.P.s p.loc.toNat=2:=by have:=hp.loc (I.tr x hx);exact(I.s2 p.loc.toNat ae).mpr (.inl ⟨x,hx,p,hp,ae⟩)
def bm.ZZ(I:bm G){x:al}(hx:x∈G.l):jw G.P x.root:=⟨I.tr x hx,λp hp=>I.taken hx hp⟩
theorem bm.re(I:bm G){q:au}(hq:q∈G.ms):G.P.s q.loc.toNat=2:=by have:=I.ml q hq;exact(I.s2 q.loc.toNat ae).mpr (.inr ⟨q,hq,ae⟩)
theorem bm.shape(I:bm G):(G.next<=281474976710655/\(κ G.l)<=32/\∀x∈G.l,cD x=true)/\cA G.l<=65535:=by have h:=I.ft;unfold eS at h;rw[decide_eq_true_eq]at h;exact lF h.1
theorem bm.wf(I:bm G):∀x∈G.l,x.wf:=λx hx=>by
 obtain⟨h1,h2,h3,h4,h5,h6,h7,h8,h9⟩:=(bH x).mp (I.hE.rt x hx);refine⟨ae,ae,ae,?_,ae,(I.tr x hx).pR.1,λp hp=>?_⟩
 ·split at h9<;>omega
 ·by_cases h0:x.prev=0
  ·rw[I.hE.pz x hx h0]at hp;cases hp
  ·obtain⟨y,hy,e,_⟩:=I.hE.pv x hx h0;have:=((I.si.dd x hx y hy e p).mp hp).1;exact(this.pR (I.tr y hy).pR).1
theorem bm.mV(I:bm G){x:al}(hx:x∈G.l):κ x.dead<=73:=by
 by_cases h0:x.prev=0
 ·rw[I.hE.pz x hx h0];exact bE _
 ·obtain⟨y,hy,e,_⟩:=I.hE.pv x hx h0;have:=ei x.dead ((Aaj 73).map (eD G.P.C y.root)) ((qm ((bH x).mp (I.hE.rt x hx)).2.2.2.2.2.2.2.1).nodup) (λp hp=>by obtain⟨_,a,ha,ea⟩:=((I.si.dd x hx y hy e p).mp hp).1;exact List.mem_map.mpr ⟨a,List.mem_range.mpr ha,ea⟩)
  assumption
theorem bm.L'(I:bm G){C':List cN}(hc:∀j,G.P.s j≠1->C'[j]?=G.P.C[j]?){x:al}(hx:x∈G.l):eC C' x.root/\(∀a,a<73->eD C' x.root a=eD G.P.C x.root a)/\(∀a,a<73->fE C' (eD G.P.C x.root a)=fE G.P.C (eD G.P.C x.root a)):=(I.tr x hx).congr (λp hp=>hc _ (by rw[I.taken hx hp];omega))
def bm.YJ(I:bm G){C':List cN}(hc:∀j,G.P.s j≠1->C'[j]?=G.P.C[j]?){x:al}(hx:x∈G.l)(p:au):gb C' x.root p↔gb G.P.C x.root p:=gb.congr (I.L' hc hx).2.1
theorem bm.YK(I:bm G){C':List cN}(hc:∀j,G.P.s j≠1->C'[j]?=G.P.C[j]?){x:al}(hx:x∈G.l){j:Nat}(hj:j<64):vG C' x j=vG G.P.C x j:=by obtain⟨_,h1,h2⟩:=I.L' hc hx;grind [vG]
theorem h6.congr{st:Nat}{l:List al}{M M':au->au->Prop}(I:h6 st l M)(h:∀x∈l,∀p,M' x.root p↔M x.root p):h6 st l M':=by obtain⟨a1,a2,a3,a4,a5,a6⟩:=I;refine⟨λx hx p hp=>a1 x hx p ((h x hx p).mp hp),λx hx hs=>⟨(a2 x hx hs).1,λp hp=>(a2 x hx hs).2 p ((h x hx p).mp hp)⟩,λx hx y hy e p hp hb=>(h y hy p).mpr (a3 x hx y hy e p ((h x hx p).mp hp) hb),λx hx y hy e p=>aQ,λx hx z hz p q hp hq=>a5 x hx z hz p q ((h x hx p).mp hp) ((h z hz q).mp hq),λx hx z hz p hp hq=>a6 x hx z hz p ((h x hx p).mp hp) ((h z hz p).mp hq)⟩
theorem bm.dev(I:bm G){C':List cN}(m:Nat)(fl:Bool)(hl:κ C'=κ G.P.C)(hc:∀j,G.P.s j≠1->C'[j]?=G.P.C[j]?):bm {G with P:={G.P with C:=C',m:=m,fl:=fl}}:=by
 have S:∀x∈G.l,∀p,gb C' x.root p↔gb G.P.C x.root p:=λx hx p=>I.YJ hc hx p;refine⟨I.hE,I.si.congr S,λx hx=>(I.L' hc hx).1,I.md,I.ml,λq hq x hx p hp=>I.mx q hq x hx p ((S x hx p).mp hp),?_,λi hi=>?_,I.s3,I.sb,I.st,?_,?_⟩
 ·show ∀i,G.P.s i=0↔(i<4\/κ C'<=i);rw[hl];exact I.s0
 ·rw[show({G with P:={G.P with C:=C',m:=m,fl:=fl}}:ch).P.s=G.P.s from rfl,I.s2 i hi];grind
 ·show 64<=κ C'/\(κ C')<=1024;rw[hl];exact I.ln
 ·have:=I.ft;grind [eS,fe,eR]
end
theorem bm.hr{G:ch}(I:bm G):∀x∈G.l,κ x.dead*24<=140737488355328:=λx hx=>by have:=I.mV hx;omega
theorem bm.hl{G:ch}(I:bm G):κ G.l<=1000:=by have:=I.hE.len;omega
theorem bm.vF{G:ch}(I:bm G):κ G.ms<=1024:=by
 have:=ei (G.ms.map (·.loc)) ((Aaj 1024).map (λk:Nat=>(k:Int))) I.md (λx hx=>by obtain⟨q,hq,rfl⟩:=List.mem_map.mp hx;have:=I.ml q hq;exact List.mem_map.mpr ⟨q.loc.toNat,List.mem_range.mpr ae,ae⟩)
 simp_all
def iC(l:List al)(full:List aj)(i:Int):Except Nat Nat:=match iL full with
 | none=>.error 141
 | some _=>e4 l full i
section
variable {l:List al} {full vn:List aj} {i:Int}
theorem GU(h:iL full=none):iC l full i=.error 141:=by grind [iC]
theorem V0(h:iL full=some vn):iC l full i=e4 l full i:=by grind [iC]
end
theorem xv(w:af)(gb:Nat)(H:aP)(G:ch)(A:GA w gb H G)(hl:κ G.l<=1000)(hr:∀x∈G.l,κ x.dead*24<=140737488355328)(full:List aj)(hf:κ full<=9223372036854775807)(i:Int):Aae Aag 46 #[lD gb,.string (strOf full),i6 i] w λe w'=>LL G.l (iC G.l full i) w e w':=by
 obtain⟨w2,hw2⟩:=bK ((w.alloc (.cells #[pz gb] 100)).alloc (.cells b6 90));obtain⟨U1,U2⟩:=aA (ai w (.cells #[pz gb] 100)) (ai (w.alloc (.cells #[pz gb] 100)) (.cells b6 90));obtain⟨b1,b2⟩:=aA ((aH.new w 100 #[pz gb]).up U2) (aH.new (w.alloc (.cells #[pz gb] 100)) 90 b6);rw[aL]at b2;have UU:=an (U1.trans U2);rw[<-hw2]at b1 b2 UU;obtain⟨HW2,IZ,OZ,SP⟩:=bR hw2 gB gL (iZ w2 full hf);clear hw2;cases hs:cO full with
 | none=>have HE:=an (GU (l:=G.l) (i:=i) (Ly hs));rw[hs]at SP;unfold gd at SP;clear hs;exact TO
 | some vs=>
  obtain⟨vn,sn⟩:=vs;have aa:=fO sn;by_cases h0:sn=[]
  ·have HE:=an (V0 (l:=G.l) (i:=i) (Lz hs h0));rw[hs]at SP;unfold gd at SP;simp only at SP;rw[show decide (sn=[])=true from ab]at aa;have ae:((strOf sn).toList != [])=false:=by grind
   clear hs h0;go_in;go_wp2_with(refine arm ?_);rw[<-HW2.out];refine SP.mono ?_;rintro e w3⟨rfl,u3⟩;obtain⟨U3,ad⟩:=aw (UU.trans u3) (b2.up u3);have c0:=(b1.up u3).cell 0;go_wp2_with fail;refine((λW (u:Up w2 W)=>gy W _ H G ((A.up UU).up u) hl hr) _ u3).mono ?_;rintro e w4⟨v4,rfl,os,u4⟩;obtain⟨U4,B2_4⟩:=aw (U3.trans u4) (ad.up u4);clear c0;go_wp2_with fail;refine((λ(W:af) (v:ah) (hv:cB W v G.l)=>Dx W _ v _ hv hr _ hf i) w4 v4 os.cE).mono ?_;exact Nh
  ·have HE:=an (GU (l:=G.l) (i:=i) (LA hs h0));rw[hs]at SP;unfold gd at SP;simp only at SP;rw[show decide (sn=[])=false from ab]at aa;have ae:((strOf sn).toList != [])=true:=by grind
   clear hs h0;exact TO
end Go.Proofs.YtkpjfnbbkohciaaGreat
