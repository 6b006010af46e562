import Derived.Test.YtkpjfnbbkohciaaGreatBc
import Derived.Lib.Walk
set_option maxRecDepth 100000
set_option maxHeartbeats 16000000
set_option linter.all false
open Go renaming TypeId->Aab,Calls->Aaf,zeroValue->Ab9,wpStill->Adq,wpList->Aam,wpAnyH->Acp,Ending->Ab3,splice->Abz,Oper->Abi,madeCells->Acu,execOp->Abt,yielded->Aaz,wpAnyIn->Acx,undef->Aat,YieldsIf->Ach
open Go.ByteArray renaming extract_mk->Ad1,toList_eq->Ado
open Go.Lib renaming indexByte->Aa6
open Go.Proofs.Tryz renaming prog->Aag,underlying88->Aas
open Go.Result renaming andThen->Aar,andThen_ok->Aay
open List renaming findIdx?_eq_none_iff->Ad2,flatMap_cons->Abd,mem_cons->Aak,replicate->Aad,append_assoc->Abe,append_nil->Ab4,drop_zero->Aaw,mem_append->Aa3,length_cons->Aaj,length_map->Aac,map_append->Aao,getElem_map->Adl,length_append->Aae,range->Aal,range_succ->Ab0,size_toArray->Abj,length_nil->Aa5,push_toArray->Abk,append_toArray->Abc,nil_append->Aa0,cons_append->Aa2,mem_map->Abb,drop_succ_cons->Abv,length_set->Aax,map_cons->Ab8,length->κ
open Go.RowKit renaming intOf->Aaq
open Go.Value renaming oneCell'->Ac9,ownBlock->Aan,slice->Acg
open Go.Op renaming equalIn->Ac3
open Go.Act renaming put->Aap
open Option.some renaming injEq->Aai
open Go.Addr.mk renaming injEq->Abm
open Nat renaming zero_add->Abn
open Go.Sem renaming run_bind->Aa1,run_pure->Ac7
open Go.Instr renaming slice->Aav,makeSlice->Aci,sureAddr->Adg,buildSlice->Acf
open Go.Value.slice renaming injEq->Abh
open Go.Region renaming Mode->Ab1,wanted->Aaa,ready->Abf
open Bool renaming false_eq_true->Ab2
open Go.Fence renaming wide->Abw
open Array renaming replicate_succ->Aa9,replicate_zero->Aba
open Go.World renaming size_alloc->Aa4
open Go.Oper renaming wp->Ace
open Go.Builtin renaming zeroCells->Abg,clear_->Adv
open And renaming intro->Adc
open Classical renaming not_forall->Ack
namespace Go.Proofs.YtkpjfnbbkohciaaGreat
open Go.Proofs.Tryz Go.RowKit Go.Sort
variable{a:Act}{x y:ab}{u:hL}{W w:af}{b base cap g gb i k n o:Nat}{l:List ab}{xs:List Nat}{e t:Aab}{α:Type}{P:bu}{p:ab->Bool}{H:aS}
theorem Wk(l:List aj)(k:Nat):(strOf l).extract 0 k=strOf (l.take k):=by unfold strOf;rw[Ad1];simp
theorem Mc(l:List aj)(k:Nat):(strOf l).extract k (strOf l).size=strOf (l.drop k):=by rw[tA];unfold strOf;rw[Ad1];rw[dk aq]
theorem iU(l:List aj)(c:aj):Aa6 l c=-1\/∃k:Nat,Aa6 l c=k/\k<κ l/\l[k]?=some c/\∀j,j<k->l[j]?≠some c:=by
 by_cases h:Aa6 l c=-1
 ·omega
 ·have aX:=Lib.indexByte_ge l c;obtain⟨k,hk⟩:∃k:Nat,Aa6 l c=k:=⟨(Aa6 l c).toNat,ae⟩;obtain⟨h1,h2⟩:=Lib.indexByte_some hk;grind
def gx:Option (List aj × List aj)->ah
 | none=>.tuple #[.string ⟨#[]⟩,.string ⟨#[]⟩,.int .i64 141]
 | some (a,b)=>.tuple #[.string (strOf a),.string (strOf b),.int .i64 0]
def cY(l:List aj):Option (List aj × List aj):=if Aa6 l 64=-1 then(if ef l=true then some (l,[])else none) else if ef (l.take (Aa6 l 64).toNat)=true/\ef (l.drop ((Aa6 l 64).toNat+1))=true then some (l.take (Aa6 l 64).toNat,l.drop ((Aa6 l 64).toNat+1))else none
def p0(a b:List aj):List aj:=if ef a=true then(if b=[] then a else if ef b=true then a++64::b else [])else []
theorem KL(w:af)(l:List aj):Aaf Aag 282 #[.string (strOf l),.int .u8 64] w λe w'=>e=.returned (i6 (Aa6 l 64))/\w=w':=by go_in;go_wp2;rw[run_callFunc_extern func292 aA aA al (e:=Extern.BytealgIndexByte.indexByte) al,Lib.run_indexByteString];simp only[Aar];rw[Fg];go_wp2;go_ret;exact⟨rfl,rfl⟩
theorem H'(w:af)(l:List aj):Aaf Aag 263 #[.string (strOf l),.string ⟨#[64]⟩] w λe w'=>e=.returned (i6 (Aa6 l 64))/\w=w':=by
 have hc:=an (λW=>KL W l);have hd:(strOf l).toList=l:=by rw[Ado,mA]
 generalize strOf l=s at *;by_cases h:l=[64]
 ·subst h;have ht:([64]==s.toList)=true:=by grind
  clear hd hc;go_in;go_wp2;go_ret;exact⟨rfl,rfl⟩
 ·have ht:([64]==s.toList)=false:=by grind
  clear hd;go_in;go_wp2_with fail;refine(hc _).mono ?_;rintro e w'⟨rfl,rfl⟩;exact e4
theorem CM(n:Nat)(h:n<=9223372036854775807):IntKind.i64.wrap (n:Int)=(n:Int):=by exact zp
theorem PR(w:af)(l:List aj)(h:Aa6 l 64=-1):Aaf Aag 219 #[.string (strOf l),.string ⟨#[64]⟩] w λe w'=>e=.returned (.tuple #[.string (strOf l),.string ⟨#[]⟩,.bool false])/\Up w w':=by have hc:=an (λW=>H' W l);rw[h]at hc;clear h;generalize strOf l=s at *;go_in;go_wp2_with fail;refine(hc _).mono ?_;rintro e w'⟨rfl,rfl⟩;go_wp2;go_ret3;exact⟨rfl,Up.refl _⟩
theorem PS(w:af)(l:List aj)(k:Nat)(h:Aa6 l 64=k)(hk:k<κ l)(hl:κ l<=9223372036854775807):Aaf Aag 219 #[.string (strOf l),.string ⟨#[64]⟩] w λe w'=>e=rt #[.string (strOf (l.take k)),.string (strOf (l.drop (k+1))),.bool true]/\Up w w':=by
 have hc:=an (λW=>H' W l);rw[h]at hc;clear h;have aN:(strOf l).size=κ l:=rfl;obtain⟨e1,e2⟩:=az (Wk l k) (Mc l (k+1));rw[aN]at e2;generalize strOf l=s at *;have h1:((k:Int)<=(κ l:Int))=True:=ao
 have h2:IntKind.i64.wrap ((k:Int)+1)=(k:Int)+1:=CM (k+1) ae;have h3:((k:Int)+1<=(κ l:Int))=True:=ao
 have aX:(0<=(k:Int)+1)=True:=ao
 have h4:((k:Int)+1).toNat=k+1:=ae
 go_in;go_wp2_with fail;refine(hc _).mono ?_;rintro e w'⟨rfl,rfl⟩;go_wp2;go_quiet (fail);go_wp2;go_ret3;exact⟨rfl,(Up.refl _).drewN _⟩
theorem S5(w:af)(l:List aj)(h:Aa6 l 64=-1):Aaf Aag 156 #[.string (strOf l),.string ⟨#[64]⟩] w λe w'=>e=.returned (.tuple #[.string (strOf l),.string ⟨#[]⟩,.bool false])/\Up w w':=by have hc:=an (λW=>PR W l h);clear h;generalize strOf l=s at *;exact UU
theorem S6(w:af)(l:List aj)(k:Nat)(h:Aa6 l 64=k)(hk:k<κ l)(hl:κ l<=9223372036854775807):Aaf Aag 156 #[.string (strOf l),.string ⟨#[64]⟩] w λe w'=>e=rt #[.string (strOf (l.take k)),.string (strOf (l.drop (k+1))),.bool true]/\Up w w':=by have hc:=an (λW=>PS W l k h hk hl);clear h;generalize strOf l=s at *;generalize strOf (l.take k)=s1 at *;generalize strOf (l.drop (k+1))=s2 at *;exact UU
theorem qN{l:List aj}(h:Aa6 l 64=-1):cY l=if ef l=true then some (l,[])else none:=by grind [cY]
theorem qO{l:List aj}(h:Aa6 l 64=k):cY l=if ef (l.take k)=true/\ef (l.drop (k+1))=true then some (l.take k,l.drop (k+1))else none:=by grind [cY]
theorem Pn:okB 64=false:=av
theorem Bh{l:List aj}(h:ef l=true)(j:Nat):l[j]?≠some 64:=by grind [jm,Pn]
theorem Lf{l:List aj}(h:ef l=true):Aa6 l 64=-1:=by grind [iU,Bh]
theorem yj{l:List aj}(hk:l[k]?=some 64)(h:ef (l.take k)=true):Aa6 l 64=k:=by
 rcases iU l 64 with h1|⟨j,h1,_,h2,h3⟩
 ·exact absurd hk (Lib.indexByte_none h1 k)
 ·have:¬j<k:=λhlt=>by have:=Bh h j;simp_all
  grind
theorem Qh{l:List aj}(h1:l[k]?=some 64)(h2:ef (l.take k)=true)(h3:ef (l.drop (k+1))=true):cY l=some (l.take k,l.drop (k+1)):=by grind [qO,yj]
theorem Bi{l:List aj}(h:ef l=true):cY l=some (l,[]):=by grind [qN,Lf]
theorem jc(w:af)(l:List aj)(hl:κ l<=9223372036854775807):Aaf Aag 98 #[.string (strOf l)] w λe w'=>e=.returned (gx (cY l))/\Up w w':=by
 rcases iU l 64 with h|⟨k,h,hk,_⟩
 ·obtain⟨C,R⟩:=aw (λW=>S5 W l h) (λW=>kB W l);rw[qN h];clear h;generalize hb:ef l=b at *;clear hb;have V:∀s,strOf l=s->gx (if b=true then some (l,[])else none)=if b=true then .tuple #[.string s,.string ⟨#[]⟩,i6 0] else .tuple #[.string ⟨#[]⟩,.string ⟨#[]⟩,i6 141]:=by rintro s rfl;cases b<;>rfl
  rw[V _ rfl];clear V;generalize strOf l=s at *;cases b;all_goals
   refine Gh ?_;go_wp2_with fail;refine(C _).mono ?_;rintro e w1⟨rfl,up1⟩;go_wp2_with fail;refine(R _).mono ?_;rintro e w2⟨rfl,ab⟩;go_wp2;go_ret3;exact⟨rfl,up1.trans ab⟩
 ·obtain⟨C,R1,R2⟩:=aW (λW=>S6 W l k h hk hl) (λW=>kB W (l.take k)) (λW=>kB W (l.drop (k+1)));rw[qO h];clear h hk hl;generalize l.take k=x at *;generalize l.drop (k+1)=y at *;generalize hb:ef x=b at *;generalize hb2:ef y=b2 at *;clear hb hb2;have V:∀s t,strOf x=s->strOf y=t->gx (if b=true/\b2=true then some (x,y)else none)=if b=true/\b2=true then .tuple #[.string s,.string t,i6 0] else .tuple #[.string ⟨#[]⟩,.string ⟨#[]⟩,i6 141]:=by rintro s t rfl rfl;cases b<;>cases b2<;>rfl
  rw[V _ _ rfl rfl];clear V;generalize strOf x=s at *;generalize strOf y=t at *;cases b
  ·refine Gh ?_;go_wp2_with fail;refine(C _).mono ?_;rintro e w1⟨rfl,up1⟩;go_wp2_with fail;refine(R1 _).mono ?_;rintro e w2⟨rfl,ab⟩;go_wp2;go_ret3;exact⟨rfl,up1.trans ab⟩
  cases b2;all_goals
   refine Gh ?_;go_wp2_with fail;refine(C _).mono ?_;rintro e w1⟨rfl,up1⟩;go_wp2_with fail;refine(R1 _).mono ?_;rintro e w2⟨rfl,ab⟩;go_wp2_with fail;refine(R2 _).mono ?_;rintro e w3⟨rfl,ax⟩;go_wp2;go_ret3;exact⟨rfl,up1.trans (ab.trans ax)⟩
theorem Md(a b:List aj):(strOf a++(⟨#[64]⟩:ByteArray))++strOf b=strOf (a++64::b):=by apply ByteArray.ext;simp[strOf]
theorem fX(b:List aj):((strOf b).toList==[])=decide (b=[]):=by rw[Ado,mA];cases b<;>simp
theorem QO(w:af)(a b:List aj):Aaf Aag 84 #[.string (strOf a),.string (strOf b)] w λe w'=>e=.returned (.string (strOf (p0 a b)))/\Up w w':=by
 obtain⟨R1,R2⟩:=aw (λW=>kB W a) (λW=>kB W b);have ht:=fX b;have hf:strOf (p0 a b)=if ef a=true then(if b=[] then strOf a else if ef b=true then strOf (a++64::b)else⟨#[]⟩)else⟨#[]⟩:=by
  unfold p0;split
  ·split
   ·rfl
   ·split<;>rfl
  ·rfl
 rw[hf,<-Md];clear hf;have aR:ef a=true->(strOf a).size<=24:=λh=>((jm a).1 h).2.1;have aJ:ef b=true->(strOf b).size<=24:=λh=>((jm b).1 h).2.1;generalize strOf a=s at *;generalize strOf b=t at *;generalize ef a=x at *;generalize ef b=y at *;cases x
 ·refine Gm ?_;exact UY
 by_cases hb:b=[]
 ·have aa:(t.toList==[])=true:=by grind
  rw[bp rfl,bp hb];clear ht hb;exact UY
 have aa:(t.toList==[])=false:=aP
 rw[bp rfl,aO hb];clear ht hb;cases y
 ·refine Gm ?_;exact UD
 ·refine Gm ?_;obtain⟨z1,z2⟩:=az (aR rfl) (aJ rfl);have z3:∀W,(Op.stringOp .add s ⟨#[64]⟩).run Aag W=.ok (.string (s++⟨#[64]⟩)) W:=λW=>run_string_add_sum W s ⟨#[64]⟩ (by show s.size+1<=_;omega);have z4:∀W,(Op.stringOp .add (s++⟨#[64]⟩) t).run Aag W=.ok (.string ((s++⟨#[64]⟩)++t)) W:=λW=>run_string_add_sum W _ t (by rw[ByteArray.size_append'];show s.size+1+t.size<=_;omega);clear aR aJ z1 z2;generalize(s++⟨#[64]⟩:ByteArray)=st at *;generalize(st++t:ByteArray)=ad at *;exact UD
def eJ:Option Nat->Int
 | some i=>(i:Int)
 | none=>-1
def eb(p:ab->Bool)(l:List ab):Option Nat:=l.findIdx? p
def aK(l:List ab)(id:Nat):Option Nat:=eb (λx=>decide (x.id=id)) l
theorem mX(h:∀j(hj:j<κ l),p l[j]=false):eb p l=none:=by unfold eb;rw[Ad2];intro x hx;obtain⟨j,hj,rfl⟩:=List.mem_iff_getElem.1 hx;simp_all
theorem mY(hk:k<κ l)(hp:p l[k]=true)(h:∀j(hj:j<κ l),j<k->p l[j]=false):eb p l=some k:=by unfold eb;rw[yQ];simp_all
theorem Kt(h:eb p l=some k):∃hk:k<κ l,p l[k]=true/\∀j(hj:j<k),p (l[j]' ae)=false:=by unfold eb at h;rw[yQ]at h;simp_all
theorem cd{vd:ah}(h:w.rangeAt b o (b7 x vd).toList):w.cell? (ad b o)=some (u6 (x.id:Int))/\w.cell? (ad b (o+1))=some (.string (strOf x.name))/\w.cell? (ad b (o+2))=some (.bool x.aT)/\w.cell? (ad b (o+3))=some (u6 (x.owner:Int))/\w.cell? (ad b (o+4))=some (u6 (x.prev:Int))/\w.cell? (ad b (o+5))=some (u6 (x.ay:Int))/\w.cell? (ad b (o+6))=some (i6 x.blocks)/\w.rangeAt b (o+7) (a6 x.root).toList/\w.cell? (ad b (o+10))=some vd:=⟨h 0 _ rfl,h 1 _ rfl,h 2 _ rfl,h 3 _ rfl,h 4 _ rfl,h 5 _ rfl,h 6 _ rfl,λj u hj=>by
  match j,hj with
  | 0,hj=>exact h 7 _ hj
  | 1,hj=>exact h 8 _ hj
  | 2,hj=>exact h 9 _ hj
  | (n+3),hj=>simp[a6]at hj,h 10 _ rfl⟩
theorem jo(w:af)(v:ah)(l:List ab)(hv:cy w v l)(id:Nat):Aaf Aag 83 #[v,u6 (id:Int)] w λe w'=>e=.returned (i6 (eJ (aK l id)))/\w'=w:=by
 have hlen:=hv.length_le;obtain⟨a,cap,rfl⟩:=hv.slice;have HV:=an hv;go_in;go_wp2;go_loopw [8] (λi wr=>∃k:Nat,k<=κ l/\i=i6 k/\(∀j(hj:j<κ l),j<k->decide (l[j].id=id)=false)/\wr=w) (λi _=>κ l-(Aaq i).toNat)
 case atStart=>grind
 case round=>
  obtain⟨k,hk,rfl,ay,rfl⟩:=hrel;have HN:=an ay;clear ay;by_cases hlt:k<κ l
  ·refine ir ?_;intro b2;obtain⟨b,off,rfl,_,hc⟩:=rS HV ae;obtain⟨da,dn,dc,rg,dp⟩:=hc k hlt;have c0:=(cd rg).1;have HS:=an (show decide (l[k].id=id)=false->∀j(hj:j<κ l),j<k+1->decide (l[j].id=id)=false from λh j hj az=>by
    rcases jE j k with h'|h'
    ·exact HN j hj h'
    ·obtain rfl:j=k:=by omega
     exact h)
   clear hc;by_cases he:l[k].id=id
   ·have HP:=an (show aK l id=some k from(λh=>mY (p:=λx=>decide (x.id=id)) hlt h HN) ao);rw[he]at c0;clear he;have b3:((id:Int)==(id:Int))=true:=by simp
    go_wp2;go_ret;exact⟨y8,rfl⟩
   ·have b3:(((l[k].id:Nat):Int)==(id:Int))=false:=by simp;omega
    generalize l[k].id=x at *;go_wp2;go_roundw
    case rel=>exact⟨k+1,ae,aq,(HS ao),trivial⟩
    case measure=>simp only[Aaq];omega
  ·obtain rfl:k=κ l:=by omega
   refine va ?_;intro b2;have HP:=an (show aK l id=none from mX (λj hj=>HN j hj hj));go_wp2;go_ret;exact⟨y8,rfl⟩
structure jv where
 owner:Nat
 name:List aj
deriving DecidableEq
def b9(x:ab):jv:=if x.aT=true then⟨x.owner,x.name⟩ else⟨0,x.name⟩
def eE(c:jv):Array ah:=#[.int .u64 (c.owner:Int),.string (strOf c.name)]
theorem Pz(c:jv):(eE c).all (·.oneCell')=true:=by simp[eE,Ac9]
theorem Qo(c:jv):(prog.info? 246).map (·.size)=some (eE c).size:=al
theorem Ek:∀W:af,(Ab9 246).run Aag W=.ok (.agg (eE ⟨0,[]⟩)) W:=(lb (P:=Aag) (t:=246) (v:=.agg (eE ⟨0,[]⟩)) (n:=2) aA).1
theorem zO(n:Nat)(s:List aj):prog.built 246 [(0,u6 (n:Int)),(1,.string (strOf s))]=some (eE ⟨n,s⟩):=al
theorem xh(s:List aj):prog.built 246 [(0,u6 0),(1,.string (strOf s))]=some (eE ⟨0,s⟩):=al
theorem Xf(c d:jv)(W:af):(Ac3 10000 246 (.agg (eE c)) (.agg (eE d))).run Aag W=.ok (decide (c=d)) W:=by
 obtain⟨a,s⟩:=c;obtain⟨a2,s2⟩:=d;have e:decide ((⟨a,s⟩:jv)=⟨a2,s2⟩)=(((a:Int)==(a2:Int)) && ((strOf s).toList==(strOf s2).toList)):=by rw[vH,yI];simp;omega
 rw[e];clear e;unfold eE;rw[yH W 9999 246 _ _ aA aq];cases h:((a:Int)==(a2:Int))<;>cases h2:((strOf s).toList==(strOf s2).toList);all_goals go_simp
def ed(l:List ab)(c:jv):Option Nat:=eb (λx=>decide (b9 x=c)) l
theorem zS(w:af)(g o:Nat)(x:ab)(vd:ah)(R:w.rangeAt g o (b7 x vd).toList):Aaf Aag 183 #[pq g o] w λe w'=>e=.returned (.agg (eE (b9 x)))/\Up w w':=by
 obtain⟨U1,B1⟩:=aw (ai w (.cells (eE ⟨0,[]⟩) 246)) (aI.new w 246 (eE ⟨0,[]⟩));obtain⟨_,c1,c2,c3,_⟩:=cd R;have IC:=an (Qo (b9 x));obtain⟨x1,x2,x3⟩:=cX (U1.cell c1) (U1.cell c2) (U1.cell c3);clear c1 c2 c3;have HC:=an (show b9 x=if x.aT=true then⟨x.owner,x.name⟩ else⟨0,x.name⟩ from rfl);obtain⟨BX,BZ⟩:=az (zO x.owner x.name) (xh x.name);generalize b9 x=c at *;obtain⟨id,nm,sn,ow,pv,sp,bl,rt,dd⟩:=x;cases sn
 ·obtain rfl:c=⟨0,nm⟩:=HC.out;go_in;go_wp2_with(first
   | refine bH 246 Ek ?_
   | refine dL 246 2 20 (eE ⟨0,nm⟩) B1 ?_)
  intro wz hbz ag;go_wp2;exact kk (v:=.agg (eE ⟨0,nm⟩)) (ny rfl _ _ _ w.heap.size 246 _ rfl hbz _ underlying246 rfl IC) rfl ⟨rfl,U1.grown ag (λk hk=>aP)⟩
 ·obtain rfl:c=⟨ow,nm⟩:=HC.out;go_in;go_wp2_with(refine arm ?_);refine uy 9 aA al ?_;refine ve ?_;change Adq _ _ (w.alloc (.cells (eE ⟨0,[]⟩) 246)).drew (λa'=>Aam _ _ _ _ a' (w.alloc (.cells (eE ⟨0,[]⟩) 246)).drew) _ _;have UD:=an (Up.drew (Up.refl (w.alloc (.cells (eE ⟨0,[]⟩) 246))));replace x1:=UD.cell x1;replace x3:=UD.cell x3;generalize(w.alloc (.cells (eE ⟨0,[]⟩) 246)).drew=w5 at *;try simp only[Aap,fL]
  repeat(first
   | still_step)
  refine hT ?_;go_wp2_with(first
   | refine dL 246 2 15 (eE ⟨ow,nm⟩) (B1.up UD) ?_)
  intro wz hbz ag;go_wp2;exact kk (v:=.agg (eE ⟨ow,nm⟩)) (ny rfl _ _ _ w.heap.size 246 _ rfl hbz _ underlying246 rfl IC) rfl ⟨rfl,(U1.trans UD).grown ag (λk hk=>aP)⟩
theorem IS(w:af)(v:ah)(l:List ab)(hv:cy w v l)(c:jv):Aaf Aag 165 #[v,.agg (eE c)] w λe w'=>e=.returned (i6 (eJ (ed l c)))/\Up w w':=by
 have hlen:=hv.length_le;obtain⟨a,cap,rfl⟩:=hv.slice;have HV:=an hv;go_in;go_wp2_with(refine arm ?_);go_loopw [8] (λi wr=>∃k:Nat,k<=κ l/\i=i6 k/\(∀j(hj:j<κ l),j<k->decide (b9 l[j]=c)=false)/\Up w wr/\aI wr w.heap.size 246 (eE c)) (λi _=>κ l-(Aaq i).toNat)
 case atStart=>exact⟨0,bG _,rfl,λj _ h=>ae,(ai w (.cells (eE c) 246)),(aI.new w 246 (eE c))⟩
 case round=>
  obtain⟨k,hk,rfl,ay,ur,br⟩:=hrel;obtain⟨HN,UR,BR⟩:=aW ay ur br;clear ay;by_cases hlt:k<κ l
  ·refine ir ?_;intro b2;obtain⟨b,off,rfl,_,hc⟩:=rS (HV.up UR) ae;obtain⟨da,dn,dc,rg,dp⟩:=hc k hlt;have HK:=an (λh=>mY (p:=λx=>decide (b9 x=c)) hlt h HN);have HS:=an (show decide (b9 l[k]=c)=false->∀j(hj:j<κ l),j<k+1->decide (b9 l[j]=c)=false from λh j hj az=>by
    rcases jE j k with h'|h'
    ·exact HN j hj h'
    ·obtain rfl:j=k:=by omega
     exact h)
   have RG:=an rg;clear hc;generalize l[k]=x at *;have CO:=an (λW (u:Up wr W)=>zS W b (off+k*11) x _ (λj u' h=>u.cell (RG j u' h)));generalize b9 x=cx at *;obtain⟨bb,aj⟩:=bE (decide (cx=c));rw[<-aj]at HK HS;have EQ:∀W,(Ac3 10000 246 (.agg (eE cx)) (.agg (eE c))).run Aag W=.ok bb W:=λW=>by rw[aj];exact Xf cx c W
   clear aj;go_wp2;refine e8 (S:=λW=>Up wr W/\aI W w.heap.size 246 (eE c)) al ?_;change Acp _ _ _ _ _ 6 _ _ (wr.drew);have UD:=an (Up.drew (Up.refl wr));have F5:=an (show Up wr wr.drew/\aI wr.drew w.heap.size 246 (eE c)from⟨UD,BR.up UD⟩);generalize wr.drew=w5 at *;refine oP ?_;refine tb 4 rfl (WU (λW hS=>hS.2.range)) ?_;refine ok 3 ?_;intro K hK;go_simp;refine(CO _ UD).mono ?_;rintro e w6⟨rfl,u6⟩;obtain⟨S6,U6⟩:=aw (show Up wr w6/\aI w6 w.heap.size 246 (eE c)from⟨F5.1.trans u6,F5.2.up u6⟩) ((UR.trans UD).trans u6);refine hK _ _ S6 ?_;clear hK K;refine ta 5 ?_;refine yC al ?_ _;cases bb
   case true=>have HP:=an (show ed l c=some k from HK rfl);clear EQ HK HS;go_wp2;go_ret;exact⟨y8,U6⟩
   case false=>clear EQ HK;go_wp2;exact⟨⟨k+1,hlt,aq,(HS rfl),U6,S6.2⟩,sV⟩
  ·obtain rfl:k=κ l:=by omega
   refine va ?_;intro b2;have HP:=an (show ed l c=none from mX (λj hj=>HN j hj hj));exact Gb
def recAt(l:List ab)(i:Nat):ab:=l.getD i tI
theorem b0(h:i<κ l):recAt l i=l[i]:=by simp[recAt,h]
theorem cP{id i:Nat}(h:aK l id=some i):i<κ l/\(recAt l i).id=id:=Uf
theorem fo{c:jv}(h:ed l c=some i):i<κ l/\b9 (recAt l i)=c:=Uf
theorem bZ{a:Option Addr}(h:cy w (.slice a n cap) l)(hi:i<κ l):∃b off,a=some ⟨b,off,none⟩/\b<w.heap.size/\∃da dc,w.rangeAt b (off+i*11) (b7 (recAt l i) (.slice da (κ (recAt l i).dead) dc)).toList/\c9 w (.slice da (κ (recAt l i).dead) dc) (recAt l i).dead:=by
 obtain⟨b,off,h1,h2,hc⟩:=rS h ae;obtain⟨da,dn,dc,rg,dp⟩:=hc i hi;rw[b0 hi];have ad:dn=l[i].dead.length:=by obtain⟨_,_,h⟩:=dp.slice;simp at h;exact h.2.1
 grind
def aaJ(l:List ab)(r:Option Nat)(w:af)(e:Ab3)(w':af):Prop:=(r=none/\e=.returned (.tuple #[.agg b8,.bool false])/\Up w w')\/(∃i v,r=some i/\e=.returned (.tuple #[.agg (b7 (recAt l i) v),.bool true])/\a8 w' w.heap.size v (recAt l i).dead/\Up w w')
theorem sy:prog.built 90 []=some b8:=al
theorem Am(w:af)(v:ah)(l:List ab)(hv:cy w v l)(hr:∀x∈l,κ x.dead*24<=140737488355328)(id:Nat):Aaf Aag 137 #[v,u6 (id:Int)] w λe w'=>aaJ l (aK l id) w e w':=by
 obtain⟨a,cap,rfl⟩:=hv.slice;obtain⟨HV,HR,U1,B1,IZ,OZ⟩:=iC hv hr (ai w (.cells b8 90)) (aI.new w 90 b8) il ie;have PL:=an (jo (w.alloc (.cells b8 90)) _ l (hv.up U1) id);have HG:Hid (∀i,aK l id=some i->i<κ l/\(recAt l i).id=id):=an (λi h=>cP h);clear hr;generalize aK l id=r at *;go_in;go_wp2_with(refine arm ?_);refine PL.mono ?_;refine oQ ?_;intro w2;cases r with
 | none=>
  unfold eJ;go_wp2_with(first
   | refine lX 90 sy ?_
   | refine dL 90 4 12 b8 B1 (hi:=IZ) (h1:=OZ) ?_)
  intro wz hbz ag;have UZ:=an (U1.grown ag (λk hk=>aP));go_wp2;exact bN (hi:=IZ) (.tuple #[.agg b8,.bool false]) hbz (.inl ⟨rfl,rfl,UZ⟩)
 | some i=>
  unfold eJ;obtain⟨hi,hid⟩:=HG i rfl;obtain⟨b,off,rfl,_,da,dc,rg,dp⟩:=bZ (HV.up U1) hi;have b1:((i:Int)<0)=False:=aq
  obtain⟨SC,IX⟩:=aw (lT _ _ _ dp (by rw[b0 hi];exact HR _ (cm hi))) (ke (recAt l i) (.slice da (κ (recAt l i).dead) dc));clear hid;obtain⟨x,hx⟩:=bE (recAt l i);rw[<-hx]at rg SC IX;have HX:=an hx;clear hx;go_wp2_with(refine arm ?_);refine SC.mono ?_;rintro e w3⟨v',rfl,ho,u3⟩;obtain⟨na,nc,rfl⟩:=(ak.row ho pw).slice;go_wp2_with(first
   | refine dL 90 4 17 (b7 x (.slice na (κ x.dead) nc)) (B1.up u3) ?_)
  intro wz hbz ag;have UZ:=an ((U1.trans u3).grown ag (λk hk=>aP));go_wp2;exact bN (.tuple #[.agg (b7 x (.slice na (κ x.dead) nc)),.bool true]) hbz (.inr ⟨i,_,rfl,by rw[HX.out],by rw[<-HX.out];exact(ak.kept (ho.mono (base':=w.heap.size) U1.size) ag (.inr (λe=>by have:=(ho.aJ _ e).1;have:=aN w (.cells b8 90);omega))),UZ⟩)
def bY(l:List ab)(id:Nat):Nat:=match aK l id with
 | none=>0
 | some i=>if(recAt l i).prev=0 then 0 else match aK l (recAt l i).prev with
  | none=>0
  | some j=>(recAt l j).ay
section
variable {l:List ab} {id i j:Nat}
theorem Tk(h:aK l id=none):bY l id=0:=by grind [bY]
theorem An(h:aK l id=some i)(h0:(recAt l i).prev=0):bY l id=0:=by grind [bY]
theorem Tl(h:aK l id=some i)(h0:¬(recAt l i).prev=0)(h2:aK l (recAt l i).prev=none):bY l id=0:=by grind [bY]
theorem Ao(h:aK l id=some i)(h0:¬(recAt l i).prev=0)(h2:aK l (recAt l i).prev=some j):bY l id=(recAt l j).ay:=by grind [bY]
end
theorem q4(w:af)(v:ah)(l:List ab)(hv:cy w v l)(id:Nat):Aaf Aag 142 #[v,u6 (id:Int)] w λe w'=>e=.returned (u6 (bY l id:Int))/\w'=w:=by
 obtain⟨a,cap,rfl⟩:=hv.slice;have PL:=an (λid=>jo w _ l hv id);have P1:=an (PL id);cases h1:aK l id with
 | none=>have HE:=an (Tk h1);rw[h1]at P1;unfold eJ at P1;clear h1;exact UG
 | some i=>
  have H1:=an h1;rw[h1]at P1;unfold eJ at P1;obtain⟨hi,_⟩:=cP h1;obtain⟨b,off,rfl,_,da,dc,rg,_⟩:=bZ hv hi;obtain⟨_,_,_,_,c4,_⟩:=cd rg;refine oR ?_;intro b1 b2;clear h1;by_cases h0:(recAt l i).prev=0
  ·have HE:=an (An H1 h0);rw[h0]at c4;clear h0;exact UG
  ·have b3:((((recAt l i).prev:Nat):Int)==(0:Int))=false:=by simp;omega
   obtain⟨HF2,HF3,P2⟩:=aW (@Tl l id i H1 h0) (λj=>@Ao l id i j H1 h0) (PL (recAt l i).prev);obtain⟨pv,ag⟩:=bE ((recAt l i).prev);rw[<-ag]at c4 b3 HF2 HF3 P2;clear h0 ag;cases h2:aK l pv with
   | none=>have HE:=an (HF2 h2);rw[h2]at P2;unfold eJ at P2;exact Ul
   | some j=>have HE:=an (HF3 j h2);rw[h2]at P2;unfold eJ at P2;obtain⟨hj,_⟩:=cP h2;obtain⟨b',aD,aj,_,aH,aJ,rg,_⟩:=bZ hv hj;simp only[Aai,Abm,and_true]at aj;obtain⟨rfl,rfl⟩:=aj;obtain⟨_,_,_,_,_,c5,_⟩:=cd rg;refine Gi ?_;intro b4 b5;exact Ul
def hs(l:List ah)(o:Nat)(m:List ah):List ah:=l.take o++(m++l.drop (o+κ m))
theorem lM(l:List ah)(o:Nat)(m:List ah):Abz l o m=hs l o m:=aA
theorem tU{l m:List ah}(h:o+κ m<=κ l):κ (hs l o m)=κ l:=by grind [hs]
theorem mS{l r m:List ah}(h:o+κ m<=κ l):hs (l++r) o m=hs l o m++r:=by grind [hs]
theorem sD{l r m:List ah}:hs (l++r) (κ l+o) m=l++hs r o m:=by unfold hs;rw[show κ l+o+κ m=κ l+(o+κ m)from ae,List.take_length_add_append,List.drop_length_add_append];simp
theorem Kg{l m:List ah}(h:o+κ m<=n)(hn:n<=κ l):(hs l o m).take n=hs (l.take n) o m:=by
 conv=>lhs;rw[<-fO n l,mS ao]
 grind [tU]
section
variable {α:Type} {f:α->List ah} {k:Nat}
theorem pY(hw:gi f k):∀(l:List α)(i:Nat)(hi:i<κ l)(off:Nat)(V:List ah)(x:α),off+κ V<=k->f x=hs (f l[i]) off V->(l.set i x).flatMap f=hs (l.flatMap f) (i*k+off) V
 | y::l,0,_,off,V,x,hj,hx=>by simp only[List.set_cons_zero,Abd,Nat.zero_mul,Abn];rw[mS (by rw[hw.len];exact hj),hx];rfl
 | y::l,i+1,hi,off,V,x,hj,hx=>by simp only[List.set_cons_succ,Abd];rw[show(i+1)*k+off=κ (f y)+(i*k+off)from by rw[hw.len,wo];omega,sD];rw[pY hw l i A8 off V x hj hx]
theorem ak.part(hw:gi f k){e:Aab}{w:af}{base g n cap:Nat}{xs:List α}(h:ak f k e w base (cC g n cap) xs)(i:Nat)(hi:i<κ xs):∃cur:Array ah,aI w g e cur/\n=κ xs/\i*k+k<=cur.size/\base<=g/\∀(x:α)(off:Nat)(V:List ah)(w':af),off+κ V<=k->f x=hs (f xs[i]) off V->aI w' g e (hs cur.toList (i*k+off) V).toArray->
  ak f k e w' base (cC g n cap) (xs.set i x):=by
 obtain⟨h1,h2⟩:=h;rcases h2 with⟨h3,_⟩|⟨g',al,cur,h3,h4,h5,h6,h7,h8,h9⟩
 ·simp at h3
 ·simp at h3;obtain⟨rfl,rfl,rfl⟩:=h3;have hk:i*k+k<=κ xs*k:=by have:=Nat.mul_le_mul_right k (show i+1<=κ xs from hi);grind
  have aD:κ xs*k<=cur.size:=aP
  refine⟨cur,h5,rfl,ae,h4,λx off V w' hv hx hb=>⟨by rw[hw.flat],.inr ⟨g,cap,_,aq,h4,hb,ao,h7,?_,?_⟩⟩⟩
  ·grind [tU]
  ·grind [Kg,pY]
end
theorem bt.part(h:bt w base (cC g n cap) l)(i:Nat)(hi:i<κ l):∃(cur:Array ah)(va:Option Addr)(vc:Nat),aI w g 90 cur/\n=κ l/\i*11+11<=cur.size/\base<=g/\w.rangeAt g (i*11) (b7 l[i] (.slice va l[i].dead.length vc)).toList/\a8 w base (.slice va l[i].dead.length vc) l[i].dead/\
  ∀(x:ab)(xa:Option Addr)(xn xc off:Nat)(V:List ah)(w':af),off+κ V<=11->(b7 x (.slice xa xn xc)).toList=hs (b7 l[i] (.slice va l[i].dead.length vc)).toList off V->a8 w base (.slice xa xn xc) x.dead->
   aI w' g 90 (hs cur.toList (i*11+off) V).toArray->w.grownBy w' (some g)->bt w' base (cC g n cap) (l.set i x):=by
 obtain⟨ys,h1,h2,h3⟩:=h;subst h1;have aD:i<κ ys:=aa
 obtain⟨cur,hb,hn,hc,hg,hp⟩:=ak.part lK h2 i aD;obtain⟨b,aj,ar,_,_,ai⟩:=aG.get (ak.row h2 lK) lK ae;simp only[Aai,Abm,and_true]at ar;obtain⟨rfl,rfl⟩:=ar;have ad:(ys[i]).n=κ (ys[i]).d.dead:=by obtain⟨_,_,hh⟩:=(ak.row (h3 _ (cm aD)) pw).slice;grind [gJ.v]
 refine⟨cur,ys[i].a,ys[i].c,hb,ao,hc,hg,λj v hj=>?_,?_,λx xa xn xc off V w' hv hx ho ag hgr=>?_⟩
 ·grind [dg,gJ.v]
 ·grind [gJ.v]
 ·refine⟨ys.set i ⟨x,xa,xn,xc⟩,aq,hp _ off V w' hv (by unfold dg gJ.v;rw[ad];simpa using hx) ag,λy hy=>?_⟩
  have key:∀{v:ah}{ps:List au},a8 w base v ps->a8 w' base v ps:=λhop=>ak.kept hop hgr (by have:=iu av hop h2;simpa[Aan]using this)
  rcases uD hy with hy|rfl
  ·simp_all
  ·exact key ho
def os(b:Nat)(v:ah)(ys:List gJ):As:=⟨λn=>v.ownBlock=some n\/∃y∈ys,y.v.ownBlock=some n,λw=>ak dg 11 90 w b v ys/\∀y∈ys,a8 w b y.v y.d.dead,λh T hf=>⟨h.1.ax T λn hn=>hf n (.inl hn),λy hy=>(h.2 y hy).ax T λn hn=>hf n (.inr ⟨y,hy,hn⟩)⟩⟩
theorem OP{ys:List gJ}(e:ys.map (·.d)=l){j:Nat}(h:j<κ ys):ys[j].d=recAt l j:=by subst e;rw[b0 jG];simp
theorem Z'{ys:List gJ}(e:ys.map (·.d)=l):κ l=κ ys:=FY
theorem BV{vd:ah}(h:aI W g t (b7 x vd)):W.rangeAt g 7 (a6 x.root).toList:=λj v hj=>by
 rw[h.cell];match j with
 | 0=>exact hj
 | 1=>exact hj
 | 2=>exact hj
 | n+3=>cases hj
def Yq(b:Nat)(v:ah)(ys:List gJ):As:=⟨λn=>v.ownBlock=some n,λw=>ak dg 11 90 w b v ys,λh T hf=>h.ax T hf⟩
def Vu(b:Nat)(ys:List gJ):As:=⟨λn=>∃y∈ys,y.v.ownBlock=some n,λw=>∀y∈ys,a8 w b y.v y.d.dead,λh T hf y hy=>(h y hy).ax T λn hn=>hf n ⟨y,hy,hn⟩⟩
section
variable {F0:Nat->Prop} {x0:af} {L L':List As} {w w':af} {b B:Nat} {v:ah} {l:List au} {ys:List gJ}
theorem Rz.s{s:List ab}(h:bt w' w.heap.size v s)(u:Up w w')(hB:B<=w.heap.size):∃ys,ys.map (·.d)=s/\Rz w w' [os B v ys]:=by
 obtain⟨ys,h1,h2,h3⟩:=h;refine⟨ys,h1,.one u ⟨h2.mono hB,λy hy=>(h3 y hy).mono hB⟩ (λn hn=>?_)⟩;rcases hn with hn|⟨y,hy,hn⟩
 ·exact h2.aJ n hn
 ·exact(h3 y hy).aJ n hn
theorem Rz.s2{s:List ab}(h:bt w' w.heap.size v s)(u:Up w w')(hB:B<=w.heap.size):∃ys,ys.map (·.d)=s/\Rz w w' [Yq B v ys,Vu B ys]:=by
 obtain⟨ys,h1,h2,h3⟩:=h;refine⟨ys,h1,u,λA hA=>?_,λA hA n hn=>?_,List.pairwise_pair.2 λn hn al=>?_⟩
 ·rcases Aak.1 hA with rfl|hA
  ·exact h2.mono hB
  ·rw[jF.1 hA];exact λy hy=>(h3 y hy).mono hB
 ·rcases Aak.1 hA with rfl|hA
  ·exact h2.aJ n hn
  ·rw[jF.1 hA]at hn;obtain⟨y,hy,hn⟩:=hn;exact(h3 y hy).aJ n hn
 ·obtain⟨y,hy,al⟩:=al;rcases iu av (h3 y hy) h2 with h|h
  ·rw[h]at al;cases al
  ·exact h (al.trans (show v.ownBlock=some n from hn).symm)
def Fr.ab7{A D:As}(s:Fr F0 x0 L w)(r:Rz w w' [A,D]):Fr F0 x0 (A::D::L) w':=s.res r
theorem row_one{g:Nat}{x:ab}{a:Option Addr}{n c:Nat}(h:aI w g 90 (b7 x (.slice a n c))):aG dg w (cC g 1 1) [⟨x,a,n,c⟩]:=.inr ⟨g,0,1,rfl,aq,aq,dy,λj u hj=>by
  have hj:(b7 x (.slice a n c)).toList[j]?=some u:=by simpa[dg,gJ.v]using hj
  rw[h.cell,Abn,<-l7];exact hj⟩
theorem Fr.rows(s:Fr F0 x0 L w)(h:os b v ys∈L:=by exact gB):ak dg 11 90 w b v ys/\∀y∈ys,a8 w b y.v y.d.dead:=s.p _ h
theorem Fr.cA(s:Fr F0 x0 L w)(h:os b v ys∈L:=by exact gB):bt w b v (ys.map (·.d)):=⟨ys,rfl,s.p _ h⟩
theorem Lu{v v':ah}{aa:List gJ}(hv:v'.ownBlock=v.ownBlock)(hy:∀y∈aa,y∈ys):∀n,(os b v' aa).F n->(os b v ys).F n:=λn h=>by
 rcases h with h|⟨y,hm,h⟩
 ·exact .inl (by rw[<-hv];exact h)
 ·exact .inr ⟨y,hy y hm,h⟩
theorem Fr.osT{v':ah}{aa:List gJ}{g n cap:Nat}(s:Fr F0 x0 L w)(h:(os b v' aa).P w')(T:Touch (·=g) w w')(hv:v'.ownBlock=some g)(hy:∀y∈aa,y∈ys)(hU:mK L (os b (cC g n cap) ys) (os b v' aa) L':=by exact tK):Fr F0 x0 L' w':=s.yb hU (T.mono λn e=>by rw[e];exact .inl rfl) h (λn hn=>by
  have:=Lu (b:=b) (v:=cC g n cap) (ys:=ys) hv hy n hn;exact⟨eh (s.f _ hU.mem n (Lu hv hy n hn)).1 T.size,.inl (Lu hv hy n hn)⟩)
variable {P:bu} {ops:Array Abi} {Q:Exit->Act->af->Prop} {L0:List As} {a a':Act} {x:af} {o:Abi} {J:List Nat} {k i j:Nat} {ty:Aab} {y z:bR} {V:Array ah} {g n m cap off:Nat}
theorem kv{id:Nat}{v:ah}(s:Fr F0 x0 L w)(h:∀w,Fr F0 x0 L w->RK P ops Q F0 x0 L0 L [] 0 a w)(hr:x4 L (os b v ys) L0:=by exact Se)(hm:P.follows .mixedOrders=true:=by kernel_rfl):(Code.region id ops true).wp P Q a w:=ka L0 s hr.sub h hm
theorem kv2{id:Nat}{v v2:ah}{b2:Nat}{l2:List au}(s:Fr F0 x0 L w)(h:∀w,Fr F0 x0 L w->RK P ops Q F0 x0 L0 L [] 0 a w)(hr:x4 L (os b v ys) L':=by exact Se)(aU:x4 L' (op b2 v2 l2) L0:=by exact Se)(hm:P.follows .mixedOrders=true:=by kernel_rfl):(Code.region id ops true).wp P Q a w:=ka L0 s (λA h=>hr.sub A (aU.sub A h)) h hm
theorem VN{y0 y':gJ}{v:ah}(h0:ys[i]?=some y0)(hd:y'.v=y0.v/\y'.d.dead=y0.d.dead\/y'.v=nl/\y'.d.dead=[]):∀n',(os b v (ys.set i y')).F n'->(os b v ys).F n':=λn' ag=>by
 obtain⟨hi,rfl⟩:=ki.1 h0;rcases ag with ag|⟨y,hy,ag⟩
 ·exact .inl ag
 ·rcases uD hy with hy|rfl
  ·exact .inr ⟨y,hy,ag⟩
  ·rcases hd with⟨e1,e2⟩|⟨e1,e2⟩
   ·rw[e1]at ag;exact .inr ⟨_,cm hi,ag⟩
   ·rw[e1]at ag;cases ag
theorem OR{y0 y':gJ}(h:(os b (cC g n cap) ys).P w)(h0:ys[i]?=some y0)(hV:j+V.size<=11)(aw:dg y'=hs (dg y0) j V.toList)(hd:y'.v=y0.v/\y'.d.dead=y0.d.dead\/y'.v=nl/\y'.d.dead=[]):∃C,aI w g 90 C/\(i*11+j)+V.size<=C.size/\(os b (cC g n cap) ys).F g/\∀w',aI w' g 90 (Abz C.toList (i*11+j) V.toList).toArray->w.grownBy w' (some g)->(os b (cC g n cap) (ys.set i y')).P w'/\∀n',(os b (cC g n cap) (ys.set i y')).F n'->(os b (cC g n cap) ys).F n':=by
 obtain⟨hi,rfl⟩:=ki.1 h0;obtain⟨h2,h3⟩:=h;obtain⟨C,hb,hn,hc,hg,hp⟩:=ak.part lK h2 i hi;refine⟨C,hb,ae,.inl rfl,λw' aB hgr=>⟨⟨hp _ j V.toList w' (by simpa using hV) aw aB,λy hy=>?_⟩,VN h0 hd⟩⟩;have key:∀{v:ah}{ps:List au},a8 w b v ps->a8 w' b v ps:=λhop=>ak.kept hop hgr (by have:=iu av hop h2;simpa[Aan]using this)
 rcases uD hy with hy|rfl
 ·exact key (h3 y hy)
 ·rcases hd with⟨e1,e2⟩|⟨e1,e2⟩
  ·rw[e1,e2];exact key (h3 _ (cm hi))
  ·rw[e1,e2];exact ak.nil _ _ _ _ _
theorem kqd(i:Nat){y0:gJ}{L1 L2:List As}{da:Option Addr}{dn dc:Nat}(h:∀w',Fr F0 x0 L2 w'->RK P ops Q F0 x0 L0 L2 J (k+1) a' w')(h0:ys[i]?=some y0)(hr:x4 L (op b (.slice da dn dc) l) L1:=by exact Se)(hU:mK L1 (os b (cC g n cap) ys) (jn (os b (cC g n cap) ys) (op b (.slice da dn dc) l)) L':=by exact tK)(al:mK L' (jn (os b (cC g n cap) ys) (op b (.slice da dn dc) l)) (os b (cC g n cap) (ys.set i ⟨{y0.d with dead:=l},da,dn,dc⟩)) L2:=by exact tK)(hJ:J.contains k=false:=by rfl)(ho:ops[k]?=some o:=by rfl)(av:o.op=.store ty y z:=by rfl)(hx:a.eval y=.pointer (some ⟨g,off,none⟩):=by rfl)(aR:off=i*11+10:=by omega)(hy:a.eval z=.slice da dn dc:=by rfl)(aN:(P.info? ty).map (·.size)=some 1:=by kernel_rfl)(hl:L0.Sublist L2:=by repeat(first|exact List.Sublist.slnil|(with_reducible refine List.Sublist.cons₂ _ ?_)|refine List.Sublist.cons _ ?_))(hw:Region.wanted o (yielded ops a.tmps)=true:=by rfl)(ha:a.put o.dst undef=a':=by first|(simp only[Act.put,fL];rfl)|rfl)(hc:(JP P ops (ml ops.size J k) k && Region.noSelect ops)=true:=by kernel_rfl)(hQ:∀c a w b,a.defers=b.defers->Q (.panic c) a w->Q (.panic c) b w:=by intro _ ⟨_,_⟩ _ ⟨_,_⟩ e h;cases e;exact h):RK P ops Q F0 x0 L0 L J k a x:=by
 subst aR;obtain⟨hi,rfl⟩:=ki.1 h0;have hF:∀n',(os b (cC g n cap) (ys.set i ⟨{ys[i].d with dead:=l},da,dn,dc⟩)).F n'->(jn (os b (cC g n cap) ys) (op b (.slice da dn dc) l)).F n':=λn' ag=>by exact NP
 refine kpp (V:=#[.slice da dn dc]) (λw s=>?_) (λD hD n' ag=>?_) h hJ ho av hx zb aN FD hl hw ha hc hQ
 ·have s':=s.join hr hU;obtain⟨⟨h2,h3⟩,h4⟩:=s'.p _ al.mem;obtain⟨C,hb,hn,aD,hg,hp⟩:=ak.part lK h2 i hi;refine⟨90,C,hb,ao,⟨_,hr.sub _ hU.mem,.inl rfl⟩,λw' aB hgr=>?_⟩;refine Of ?_;intro key T;refine s'.yb al T ⟨hp _ 10 [.slice da dn dc] w' aq rfl aB,λy hy=>?_⟩ (λn' h=>⟨eh (s'.f _ al.mem n' (hF n' h)).1 T.size,.inl (hF n' h)⟩);exact NQ
 ·rcases al.sub D hD with rfl|hD
  ·rcases hF n' ag with h|h
   ·exact⟨_,hr.sub _ hU.mem,h⟩
   ·exact⟨_,hr.mem,h⟩
  ·rcases hU.sub D hD with rfl|hD
   ·rcases ag with h|h
    ·exact⟨_,hr.sub _ hU.mem,h⟩
    ·exact⟨_,hr.mem,h⟩
   ·exact⟨D,hr.sub D hD,ag⟩
theorem kq(i j:Nat){y0:gJ}(y':gJ)(h:∀w',Fr F0 x0 L' w'->RK P ops Q F0 x0 L0 L' J (k+1) a' w')(h0:ys[i]?=some y0)(hU:mK L (os b (cC g n cap) ys) (os b (cC g n cap) (ys.set i y')) L':=by exact tK)(hJ:J.contains k=false:=by rfl)(ho:ops[k]?=some o:=by rfl)(av:o.op=.store ty y z:=by rfl)(hx:a.eval y=.pointer (some ⟨g,off,none⟩):=by rfl)(aR:off=i*11+j:=by omega)(hy:(a.eval z).cells=V:=by exact zcv)(aw:dg y'=hs (dg y0) j V.toList:=by rfl)(hd:y'.v=y0.v/\y'.d.dead=y0.d.dead\/y'.v=nl/\y'.d.dead=[]:=by first|exact .inl ⟨rfl,rfl⟩|exact .inr ⟨rfl,rfl⟩)(aN:(P.info? ty).map (·.size)=some V.size:=by exact Sa)(h1:V.all (·.oneCell')=true:=by exact zoa)(hV:j+V.size<=11:=by first|decide|(simp[a6]))(hl:L0.Sublist L':=by repeat(first|exact List.Sublist.slnil|(with_reducible refine List.Sublist.cons₂ _ ?_)|refine List.Sublist.cons _ ?_))(hw:Region.wanted o (yielded ops a.tmps)=true:=by rfl)(ha:a.put o.dst undef=a':=by first|(simp only[Act.put,fL];rfl)|rfl)(hc:(JP P ops (ml ops.size J k) k && Region.noSelect ops)=true:=by kernel_rfl)(hQ:∀c a w b,a.defers=b.defers->Q (.panic c) a w->Q (.panic c) b w:=by intro _ ⟨_,_⟩ _ ⟨_,_⟩ e h;cases e;exact h):RK P ops Q F0 x0 L0 L J k a x:=by subst aR;exact kp (λw s=>⟨90,OR (s.p _ hU.mem) h0 hV aw hd⟩) (VN h0 hd) h hU hJ ho av hx hy aN h1 hl hw ha hc hQ
theorem Xp{rest:List Oper}{op:Oper}{ty:TypeId}{n:Nat}{C:Array ah}{e:TypeId}{z:ah}{k bytes:Nat}(s:Fr F0 x0 L w)(h:∀g w,Fr F0 x0 (bk g e C::L) w->wpList P ops Q rest (a.put op.dst (cC g 1 1)) w)(ho:op.op=.buildSlice ty 1 #[(0,.tmp n)]:=by with_reducible rfl)(hx:a.eval (.tmp n)=.agg C:=by rfl)(ht:P.underlying ty=some (.slice e):=by exact gh)(hi:(P.info? e).map (λi=>(i.zero,i.size,i.bytes))=some (some z,k,bytes):=by first|assumption|exact j'|exact cF)(h0:0<k:=by decide)(hk:k<=16777216:=by decide)(hC:C.size=k:=by rfl)(hgd:op.guard=none:=by rfl):wpList P ops Q (op::rest) a w:=bP hgd ty e (.tmp n) ho z k bytes C hx ht hi h0 hk hC (h _ _ (s.alloc e C))
theorem fap{rest:List Oper}{op:Oper}{x:ab}{da:Option Addr}{dn dc m n:Nat}{L':ah->List As}(s:Fr F0 x0 L w)(h:∀a' c' w,Fr F0 x0 (L' (.slice a' (κ ys+1) c')) w->wpList P ops Q rest (a.put op.dst (.slice a' (κ ys+1) c')) w)(hgd:op.guard=none:=by rfl)(ho:op.op=.call {callee:=.builtin .append,args:=#[.tmp m,.tmp n],argTypes:=#[71,71]}:=by with_reducible rfl)(hs:a.eval (.tmp m)=v:=by exact zvv)(hx:a.eval (.tmp n)=cC g 1 1:=by rfl)(hm:bk g 90 (b7 x (.slice da dn dc))∈L:=by exact gB)(hU:∀v',mK L (Yq x0.heap.size v ys) (Yq x0.heap.size v' (ys++[⟨x,da,dn,dc⟩])) (L' v'):=by intro _;exact tK)(ht:P.underlying 71=some (.slice 90):=by exact underlying71)(hi:(P.info? 90).map (λi=>(i.zero,i.size,i.bytes))=some (some (.agg b8),11,112):=by exact j')(hl:κ ys<=1000:=by omega):wpList P ops Q (op::rest) a w:=ej lK hgd (.tmp m) (.tmp n) 71 ho x0.heap.size 90 _ 112 ht hi rfl v ys hs (s.p _ (hU v).mem) _ [⟨x,da,dn,dc⟩] hx (row_one (s.e6 hm)) ao ao s.t.size λv' w' h1 h2 _ h4=>by
  obtain⟨a',c',hv⟩:=(ak.row h1 lK).slice;exact K6
end
def ea(l:List ab)(id:Nat):List aj:=match aK l id with
 | none=>[]
 | some i=>if(recAt l i).aT=true then(match aK l (recAt l i).owner with
  | none=>[]
  | some j=>p0 (recAt l j).name (recAt l i).name)else p0 (recAt l i).name []
section
variable {l:List ab} {id i j:Nat}
theorem Xv(h:aK l id=none):ea l id=[]:=by grind [ea]
theorem MQ(h:aK l id=some i)(h0:(recAt l i).aT=false):ea l id=p0 (recAt l i).name []:=by grind [ea]
theorem Xw(h:aK l id=some i)(h0:(recAt l i).aT=true)(h2:aK l (recAt l i).owner=none):ea l id=[]:=by grind [ea]
theorem MR(h:aK l id=some i)(h0:(recAt l i).aT=true)(h2:aK l (recAt l i).owner=some j):ea l id=p0 (recAt l j).name (recAt l i).name:=by grind [ea]
end
theorem uf(w:af)(v:ah)(l:List ab)(hv:cy w v l)(id:Nat):Aaf Aag 31 #[v,u6 (id:Int)] w λe w'=>e=.returned (.string (strOf (ea l id)))/\Up w w':=by
 obtain⟨a,cap,rfl⟩:=hv.slice;obtain⟨HV,PL⟩:=aw hv (λid=>jo w _ l hv id);obtain⟨P1,NF⟩:=aw (PL id) (λW a b=>QO W a b);have cC:(⟨#[]⟩:ByteArray)=strOf []:=rfl;cases h1:aK l id with
 | none=>have HE:=an (Xv h1);rw[h1]at P1;unfold eJ at P1;clear h1 cC;go_in;go_wp2_with fail;refine P1.mono ?_;exact U7
 | some i=>
  have H1:=an h1;rw[h1]at P1;unfold eJ at P1;obtain⟨hi,_⟩:=cP h1;obtain⟨b,off,rfl,_,da,dc,rg,_⟩:=bZ HV hi;obtain⟨_,c1,c2,c3,_⟩:=cd rg;refine oR ?_;intro b1 b2;clear h1;cases hs:(recAt l i).aT with
  | false=>have HE:=an (MQ H1 hs);rw[hs]at c2;obtain⟨nm,hnm⟩:=bE ((recAt l i).name);rw[<-hnm]at c1 HE;have ag:=an (NF w nm []);rw[show(strOf []:ByteArray)=⟨#[]⟩ from rfl]at ag;clear hs hnm cC;go_in;go_wp2_with fail;refine rm ?_;intro w2;go_wp2_with fail;refine ag.mono ?_;rintro e w3⟨rfl,u3⟩;go_wp2;go_ret;exact⟨ll,u3⟩
  | true=>
   obtain⟨HF2,HF3⟩:=aw (@Xw l id i H1 hs) (λj=>@MR l id i j H1 hs);rw[hs]at c2;have P2:=an (PL (recAt l i).owner);obtain⟨nm,hnm⟩:=bE ((recAt l i).name);obtain⟨ow,how⟩:=bE ((recAt l i).owner);rw[<-hnm]at c1 HF3;rw[<-how]at c3 HF2 HF3 P2;clear hs hnm how;cases h2:aK l ow with
   | none=>have HE:=an (HF2 h2);rw[h2]at P2;unfold eJ at P2;clear h2 HF2 HF3 cC;go_in;go_wp2_with fail;refine rm ?_;intro w2;go_wp2_with fail;refine P2.mono ?_;exact U7
   | some j=>have HE:=an (HF3 j h2);rw[h2]at P2;unfold eJ at P2;obtain⟨hj,_⟩:=cP h2;obtain⟨b',aD,aj,_,aH,aJ,rg,_⟩:=bZ HV hj;simp only[Aai,Abm,and_true]at aj;obtain⟨rfl,rfl⟩:=aj;obtain⟨_,d1,_⟩:=cd rg;refine Gi ?_;intro b4 b5;obtain⟨om,aa⟩:=bE ((recAt l j).name);rw[<-aa]at d1 HE;have ak:=an (NF w.drew om nm);clear h2 HF2 HF3 cC aa NF;go_in;go_wp2_with fail;refine rm ?_;intro w2;go_wp2_with fail;refine P2.mono ?_;refine oQ ?_;intro w2;go_wp2;refine e8 (S:=λW=>Up w W) al ?_;change Acp _ _ _ _ _ 12 _ _ (w.drew);have F5:=an (Up.drew (Up.refl w));generalize w.drew=w5 at *;refine oP ?_;refine ta 3 ?_;refine tb 4 rfl (yc ((λW (h:Up w W)=>h.cell d1))) ?_;refine uU ?_;refine ta 8 ?_;refine tb 9 rfl (yc ((λW (h:Up w W)=>h.cell c1))) ?_;refine ok 10 ?_;intro K hK;go_simp;refine ak.mono ?_;rintro e w6⟨rfl,u6⟩;have S6:=an (show Up w w6 from F5.trans u6);refine hK _ _ S6 ?_;clear hK K;refine ta 11 ?_;refine dn ?_;go_wp2;go_ret;exact⟨ll,S6⟩
def dM(l:List ab)(full:List aj):Except Nat Nat:=match cY full with
 | none=>.error 141
 | some (v,s)=>match ed l ⟨0,v⟩ with
  | none=>.error 161
  | some i=>if s=[] then .ok i else match ed l ⟨(recAt l i).id,s⟩ with
   | none=>.error 161
   | some j=>.ok j
def Sn(l:List ab)(r:Except Nat Nat)(w:af)(e:Ab3)(w':af):Prop:=(∃n:Nat,r=.error n/\e=.returned (.tuple #[.agg b8,.int .i64 (n:Int)])/\Up w w')\/(∃i v,r=.ok i/\i<κ l/\e=.returned (.tuple #[.agg (b7 (recAt l i) v),.int .i64 0])/\a8 w' w.heap.size v (recAt l i).dead/\Up w w')
section
variable {l:List ab} {full vn sn:List aj} {i j:Nat}
theorem Vq(h:cY full=none):dM l full=.error 141:=ri
theorem Vr(h:cY full=some (vn,sn))(h1:ed l ⟨0,vn⟩=none):dM l full=.error 161:=ri
theorem Iz(h:cY full=some (vn,sn))(h1:ed l ⟨0,vn⟩=some i)(h0:sn=[]):dM l full=.ok i:=ri
theorem Vs(h:cY full=some (vn,sn))(h1:ed l ⟨0,vn⟩=some i)(h0:¬sn=[])(h2:ed l ⟨(recAt l i).id,sn⟩=none):dM l full=.error 161:=ri
theorem IA(h:cY full=some (vn,sn))(h1:ed l ⟨0,vn⟩=some i)(h0:¬sn=[])(h2:ed l ⟨(recAt l i).id,sn⟩=some j):dM l full=.ok j:=ri
end
theorem rC(w:af)(v:ah)(l:List ab)(hv:cy w v l)(hr:∀x∈l,κ x.dead*24<=140737488355328)(full:List aj)(hf:κ full<=9223372036854775807):Aaf Aag 108 #[v,.string (strOf full)] w λe w'=>Sn l (dM l full) w e w':=by
 obtain⟨a,cap,rfl⟩:=hv.slice;obtain⟨HR,U1,B1,IZ,OZ,SP,PL⟩:=vL hr (ai w (.cells b8 90)) (aI.new w 90 b8) il ie (jc (w.alloc (.cells b8 90)) full hf) (λW (u:Up w W) c=>IS W _ l (hv.up u) c);clear hr hf;cases hs:cY full with
 | none=>have HE:=an (@Vq l full hs);rw[hs]at SP;unfold gx at SP;clear hs;go_in;go_wp2_with(refine arm ?_);refine uS ?_;intro w2 u2 U2 B2;go_wp2_with(first|refine arm ?_|refine pH ?_);intro wz hbz ag;have UZ:=an (U2.grown ag (λk hk=>wH));go_wp2;exact bN (hi:=IZ) (.tuple #[.agg b8,i6 141]) hbz (.inl ⟨141,HE,rfl,UZ⟩)
 | some vs=>
  obtain⟨vn,sn⟩:=vs;have aT:=an hs;rw[hs]at SP;unfold gx at SP;simp only at SP;have PL1:=an (λW (u:Up w W)=>PL W u ⟨0,vn⟩);have aa:=fX sn;clear hs;have BC:=xh vn;cases h1:ed l ⟨0,vn⟩ with
  | none=>have HE:=an (Vr aT h1);rw[h1]at PL1;unfold eJ at PL1;clear h1 aa;go_in;go_wp2_with(refine arm ?_);refine uS ?_;intro w2 u2 U2 B2;go_wp2_with fail;refine zf ?_;intro w3 u3 U3 B3;go_wp2_with(first|refine arm ?_|refine pH ?_);intro wz hbz ag;have UZ:=an (U3.grown ag (λk hk=>wH));exact Og
  | some i=>
   have H1:=an h1;rw[h1]at PL1;unfold eJ at PL1;obtain⟨hi,_⟩:=fo h1;have b1:((i:Int)<0)=False:=aq
   have av:((i:Int)>=0)=True:=aq
   have b2:((i:Int)<(κ l:Int))=True:=ao
   clear h1;by_cases h0:sn=[]
   ·have HE:=an (Iz aT H1 h0);rw[show decide (sn=[])=true by simp[h0]]at aa;clear h0;have Hi:=an hi;go_in;go_wp2_with(refine arm ?_);refine uS ?_;intro w2 u2 U2 B2;go_wp2_with fail;refine zf ?_;intro w3 u3 U3 B3;obtain⟨b,off,ar,_,da,dc,rg,dp⟩:=bZ (hv.up U3) Hi;subst ar;obtain⟨RG,SC,IX⟩:=aW rg (lT _ _ _ dp (by rw[b0 Hi.out];exact HR _ (cm Hi))) (ke (recAt l i) (.slice da (κ (recAt l i).dead) dc));obtain⟨x,hx⟩:=bE (recAt l i);rw[<-hx]at RG SC IX;have HX:=an hx;clear hx;go_wp2_with(refine arm ?_);refine SC.mono ?_;rintro e w9⟨v',rfl,ho,u9⟩;obtain⟨HO,aK,U9,B9,al⟩:=eQ (ho.mono (base':=w.heap.size) U3.size) ho (U3.trans u9) (B3.up u9) B3.lt;obtain⟨na,nc,rfl⟩:=(ak.row ho pw).slice;go_wp2_with(first|refine arm ?_|refine pH ?_);intro wz hbz ag;obtain⟨BZ,UZ,OK⟩:=aW hbz (U9.grown ag (λk hk=>wH)) (ak.kept HO ag (.inr (λe=>by have:=(aK.aJ _ e).1;have:=al.out;omega)));go_wp2;exact bN (.tuple #[.agg (b7 x (.slice na (κ x.dead) nc)),i6 0]) BZ (.inr ⟨i,_,HE,Hi,by rw[HX.out],by rw[<-HX.out];exact OK,UZ⟩)
   ·obtain⟨HF2,HF3⟩:=aw (@Vs l full vn sn i aT H1 h0) (λj=>@IA l full vn sn i j aT H1 h0);have ae:((strOf sn).toList != [])=true:=by unfold bne;rw[fX];simp[h0]
    have Hi:=an hi;rw[show decide (sn=[])=false by simp[h0]]at aa;have ad:=an (λW (u:Up w W)=>PL W u ⟨(recAt l i).id,sn⟩);clear h0;obtain⟨b,off,rfl,_,da,dc,rg,dp⟩:=bZ hv hi;have C0:=an (cd rg).1;have BI:=zO (recAt l i).id sn;obtain⟨KH,au⟩:=bE ((recAt l i).id);rw[<-au]at ad C0 BI HF2 HF3;clear au;cases h2:ed l ⟨KH,sn⟩ with
    | none=>have HE:=an (HF2 h2);rw[h2]at ad;unfold eJ at ad;clear h2 HF2 HF3;go_in;go_wp2_with(refine arm ?_);refine uS ?_;intro w2 u2 U2 B2;go_wp2_with fail;refine zf ?_;intro w3 u3 U3 B3;have c0:=U3.cell C0;go_wp2_with fail;refine(ad _ U3).mono ?_;rintro e w4⟨rfl,u4⟩;obtain⟨U4,B4⟩:=aw (U3.trans u4) (B3.up u4);clear c0;go_wp2_with(first|refine arm ?_|refine pH ?_);intro wz hbz ag;have UZ:=an (U4.grown ag (λk hk=>wH));exact Og
    | some j=>have HE:=an (HF3 j h2);rw[h2]at ad;unfold eJ at ad;obtain⟨hj,_⟩:=fo h2;have Hj:=an hj;refine Gi ?_;intro b4 b5;clear h2 HF2 HF3;go_in;go_wp2_with(refine arm ?_);refine uS ?_;intro w2 u2 U2 B2;go_wp2_with fail;refine zf ?_;intro w3 u3 U3 B3;have c0:=U3.cell C0;go_wp2_with fail;refine(ad _ U3).mono ?_;rintro e w4⟨rfl,u4⟩;obtain⟨U4,B4⟩:=aw (U3.trans u4) (B3.up u4);clear c0;obtain⟨b,off,ar,_,da,dc,rg,dp⟩:=bZ (hv.up U4) Hj;simp only[Aai,Abm,and_true]at ar;obtain⟨rfl,rfl⟩:=ar;obtain⟨SC,IX⟩:=aw (lT _ _ _ dp (by rw[b0 Hj.out];exact HR _ (cm Hj))) (ke (recAt l j) (.slice da (κ (recAt l j).dead) dc));obtain⟨x,hx⟩:=bE (recAt l j);rw[<-hx]at rg SC IX;have HX:=an hx;clear hx;go_wp2_with(refine arm ?_);refine SC.mono ?_;rintro e w9⟨v',rfl,ho,u9⟩;obtain⟨HO,U9,B9,al⟩:=bS (ho.mono (base':=w.heap.size) U4.size) (U4.trans u9) (B4.up u9) B4.lt;obtain⟨na,nc,rfl⟩:=(ak.row ho pw).slice;go_wp2_with(first|refine arm ?_|refine pH ?_);intro wz hbz ag;obtain⟨UZ,OK⟩:=aw (U9.grown ag (λk hk=>wH)) (ak.kept HO ag (.inr (λe=>by have:=(ho.aJ _ e).1;have:=al.out;omega)));go_wp2;exact bN (.tuple #[.agg (b7 x (.slice na (κ x.dead) nc)),i6 0]) hbz (.inr ⟨j,_,HE,Hj,by rw[HX.out],by rw[<-HX.out];exact OK,UZ⟩)
theorem LD(w:af)(x:ab)(vd:ah)(g:Nat)(id:Nat)(hc:w.cell? (ad g 0)=some (u6 (id:Int))):Aaf Aag 210 #[.agg (b7 x vd),pz g] w λe w'=>e=.returned (.bool (decide (x.id=id)))/\Up w w':=by
 have U1:=an (ai w (.cells (b7 x vd) 90));have c0:(w.alloc (.cells (b7 x vd) 90)).cell? (ad w.heap.size 0)=some (u6 (x.id:Int)):=(aI.new w 90 (b7 x vd)).setAt.c0;have c1:=U1.cell hc;have HE:(((x.id:Nat):Int)==(id:Int))=decide (x.id=id):=aP
 have HI:=an HE;clear hc HE;generalize decide (x.id=id)=bb at *;obtain⟨n,hn⟩:=bE (x.id);rw[<-hn]at c0 HI;clear hn;go_in;go_wp2_with(refine arm ?_);go_ret;exact⟨by rw[<-HI.out];rfl,U1⟩
theorem Ii(w:af)(v:ah)(l:List ab)(hv:cy w v l)(g id:Nat)(hc:w.cell? (ad g 0)=some (u6 (id:Int))):Aaf Aag 209 #[v,.func (.func 210) #[] #[pz g]] w λe w'=>e=.returned (i6 (eJ (eb (λx=>decide (x.id=id)) l)))/\Up w w':=by
 have hlen:=hv.length_le;obtain⟨a,cap,rfl⟩:=hv.slice;obtain⟨HV,CL⟩:=aw hv (λW (u:Up w W) x vd=>LD W x vd g id (u.cell hc));go_in;go_wp2;go_loopw [8] (λi wr=>∃k:Nat,k<=κ l/\i=i6 k/\(∀j(hj:j<κ l),j<k->(λx:ab=>decide (x.id=id)) l[j]=false)/\Up w wr) (λi _=>κ l-(Aaq i).toNat)
 case atStart=>exact⟨0,bG _,rfl,λj _ h=>ae,Up.refl _⟩
 case round=>
  obtain⟨k,hk,rfl,ay,ur⟩:=hrel;obtain⟨HN,UR⟩:=aw ay ur;clear ay;by_cases hlt:k<κ l
  ·refine ir ?_;intro b2;obtain⟨b,off,rfl,_,hc⟩:=rS (HV.up UR) ae;obtain⟨da,dn,dc,rg,dp⟩:=hc k hlt;obtain⟨RG,HK⟩:=aw rg (λh=>mY (p:=λx=>decide (x.id=id)) hlt h HN);have HS:=an (show(λx:ab=>decide (x.id=id)) l[k]=false->∀j(hj:j<κ l),j<k+1->(λx:ab=>decide (x.id=id)) l[j]=false from λh j hj az=>by
    rcases jE j k with h'|h'
    ·exact HN j hj h'
    ·obtain rfl:j=k:=by omega
     exact h)
   have CK:=an (CL wr UR l[k] (.slice da dn dc));clear hc;generalize l[k]=x at *;go_wp2_with(refine arm ?_);refine CK.mono ?_;rintro e w3⟨rfl,u3⟩;have U3:=an (UR.trans u3);clear CL;by_cases he:(decide (x.id=id))=true
   ·exact U0
   ·rw[wv]at he;have HF:=an (HS he);have b3:=he;clear he HS HK;go_wp2;go_roundw
    case rel=>exact⟨k+1,ae,aq,HF,U3⟩
    case measure=>simp only[Aaq];omega
  ·obtain rfl:k=κ l:=by omega
   refine va ?_;intro b2;have HP:=an (show eb (λx=>decide (x.id=id)) l=none from mX (λj hj=>HN j hj hj));exact Gb
theorem o6(w:af)(v:ah)(l:List ab)(hv:cy w v l)(id:Nat):Aaf Aag 147 #[v,u6 (id:Int)] w λe w'=>e=.returned (i6 (eJ (aK l id)))/\Up w w':=by have U1:=an (ai w (.cells #[u6 (id:Int)] 70));have IX:=an (Ii (w.alloc (.cells #[u6 (id:Int)] 70)) v l (hv.up U1) w.heap.size id (dp w _ _ _ 0 _ rfl));obtain⟨a,cap,rfl⟩:=hv.slice;go_in;go_wp2_with fail;refine IX.mono ?_;rintro e w2⟨rfl,u2⟩;go_wp2;go_ret;exact⟨rfl,U1.trans u2⟩
def Pd:gJ:=⟨tI,none,0,0⟩
theorem Qz(n:Nat):(Acu b8 (n*11)).toList=(Aad n Pd).flatMap dg:=by
 apply wC;intro i;by_cases hi:i<n*11
 ·have hd:i=(i/11)*11+i%11:=by omega
  have h3:=lK.at (Aad n Pd) (i/11) ao (i%11) ae;rw[<-hd]at h3;rw[h3,List.getElem_replicate];show _=b8.toList[i%11]?;have hz:b8.size=11:=rfl;rw[l7,l7];unfold Acu;grind
 ·rw[sQ (by rw[Fk,wm];omega),sQ (by rw[lK.flat,wz];omega)]
theorem bt.aa9(w:af)(n:Nat)(hn:n<=maxLen):bt (w.alloc (.cells (Acu b8 (n*11)) 90)) w.heap.size (cC w.heap.size n n) (Aad n tI):=by
 refine⟨Aad n Pd,by simp[Pd],⟨by rw[lK.flat],.inr ⟨w.heap.size,n,_,aq,aE _,(aI.new w 90 (Acu b8 (n*11))),aq,hn,wm _ _,?_⟩⟩,λy hy=>?_⟩
 ·rw[wz,<-Qz];exact dk (by rw[Fk,wm];exact aE _)
 ·obtain⟨_,rfl⟩:=List.mem_replicate.1 hy;exact ak.nil _ _ _ _ _
theorem Rq(x:ab)(v u:ah)(y:ab):(b7 x v).toList=hs (b7 y u).toList 0 (b7 x v).toList:=aA
theorem eu(next:Nat)(v:ah):(prog.info? 73).map (·.size)=some (aQ next v).size:=al
theorem ju:∀W:af,(Ab9 73).run Aag W=.ok (.agg (aQ 0 (nl))) W:=by simp[aQ]
theorem jh(next:Nat)(a:Option Addr)(n c:Nat):(aQ next (.slice a n c)).all (·.oneCell')=true:=by simp[aQ,Ac9]
theorem zN(next:Nat)(a:Option Addr)(n c:Nat):prog.built 73 [(0,u6 (next:Int)),(1,.slice a n c)]=some (aQ next (.slice a n c)):=al
def Sg(next:Nat)(l:List ab)(w:af)(e:Ab3)(w':af):Prop:=∃v',e=.returned (.agg (aQ next v'))/\bt w' w.heap.size v' l/\Up w w'
theorem CS(hk:k<κ l):(l.take k++Aad (κ l-k) tI).set k l[k]=l.take (k+1)++Aad (κ l-(k+1)) tI:=by rw[yU _ _ ao,ey,show k-min k (κ l)=0 from ae];rw[show κ l-k=(κ l-(k+1))+1 from ae,List.replicate_succ,List.set_cons_zero];rw[eo hk,Abe];rfl
theorem I3(w:af)(next:Nat)(v:ah)(l:List ab)(hv:cy w v l)(hl:κ l<=1000)(hr:∀x∈l,κ x.dead*24<=140737488355328):Aaf Aag 94 #[.agg (aQ next v)] w λe w'=>Sg next l w e w':=by
 obtain⟨la,lc,rfl⟩:=hv.slice;refine Uj ?_;clear hv hr;intro HV HR U1 U2 c0 c1 B2 UU C1 C0 SZ MK;go_in;go_wp2_with(first
  | refine gY 73 0 (aQ next (.slice la (κ l) lc)) ?_
  | refine bH 73 ju ?_)
 refine UO ?_;clear c0 c1 C0 C1 B2 UU U1 U2 SZ MK;intro K0 K1 KB KU OS0;go_loopw [12] (λi wr=>∃k:Nat,k<=κ l/\i=.int .i64 k/\bt wr w.heap.size (.slice (some ⟨w.heap.size+2,0,none⟩) (κ l) (κ l)) (l.take k++Aad (κ l-k) tI)/\Up w wr/\wr.cell? ⟨w.heap.size,0,none⟩=some (.int .u64 (next:Int))/\wr.cell? ⟨w.heap.size,1,none⟩=some (.slice la (κ l) lc)/\aI wr (w.heap.size+1) 73 (aQ 0 (.slice none 0 0))) (λi _=>κ l-(Aaq i).toNat)
 case atStart=>exact⟨0,bG _,rfl,T1,KU,K0,K1,KB⟩
 case round=>
  obtain⟨k,hk,rfl,os,ur,k0,k1,kb⟩:=hrel;obtain⟨OS,UR,C0,C1,BR⟩:=eQ os ur k0 k1 kb;clear os ur kb OS0 KU K0 K1 KB;by_cases hlt:k<κ l
  ·refine oS ?_;intro b3;clear k0;obtain⟨b,off,rfl,aT,da,dc,rg,dp⟩:=bZ (HV.up UR) hlt;refine M4 ?_;intro RG GE SC TS ML;generalize l.take k++Aad (κ l-k) tI=M at *;rw[<-GE.out]at TS;generalize recAt l k=x at *;clear rg dp;go_wp2_with(first
    | refine cM 90 20 (b7 x (.slice da (κ x.dead) dc)) RG ?_)
   refine SC.mono ?_;rintro e w4⟨v',rfl,ho,u4⟩;have aa:=OS.up u4;obtain⟨cur,va,vc,aj,hn,hfit,_,_,_,aP⟩:=aa.part k (by rw[ML.out];exact hlt);obtain⟨HP,al,HF,HO⟩:=bS aP aj hfit (ho.mono (base':=w.heap.size) UR.size);obtain⟨na,nc,rfl⟩:=(ak.row ho pw).slice;refine U8 ?_;intro IN ON U4 D0 D1 E4;clear aP aj hn aa ho u4 SC OS C0 C1 BR k1;go_wp2_with(first
    | ((with_reducible refine cB 90 (.tmp 23) (.tmp 22) ?_);refine cc rfl 90 (.tmp 23) (.tmp 22) rfl (w.heap.size+2) (k*11) (b7 x (.slice na (κ x.dead) nc)) rfl rfl 90 _ al IN HF ON ?_))
   refine UA ?_;clear HP al HF HO D0 D1 E4;intro w5 O5 U5 Z0 Z1 Z2;go_wp2_with fail;go_roundw
   case rel=>exact⟨k+1,ae,aq,O5,U5,Z0,Z1,Z2⟩
   case measure=>simp only[Aaq];omega
  ·exact Ug
theorem qQ(w:af)(next:Nat)(v:ah)(l:List ab)(hv:cy w v l)(hl:κ l<=1000)(hr:∀x∈l,κ x.dead*24<=140737488355328):Aaf Aag 82 #[.agg (aQ next v)] w λe w'=>Sg next l w e w':=by
 obtain⟨la,lc,rfl⟩:=hv.slice;refine Uj ?_;clear hv hr;intro HV HR U1 U2 c0 c1 B2 UU C1 C0 SZ MK;go_in;go_wp2_with(first
  | refine gY 73 0 (aQ next (.slice la (κ l) lc)) ?_
  | refine bH 73 ju ?_)
 refine UO ?_;clear c0 c1 C0 C1 B2 UU U1 U2 SZ MK;intro K0 K1 KB KU OS0;go_loopw [12] (λi wr=>∃k:Nat,k<=κ l/\i=.int .i64 k/\bt wr w.heap.size (.slice (some ⟨w.heap.size+2,0,none⟩) (κ l) (κ l)) (l.take k++Aad (κ l-k) tI)/\Up w wr/\wr.cell? ⟨w.heap.size,0,none⟩=some (.int .u64 (next:Int))/\wr.cell? ⟨w.heap.size,1,none⟩=some (.slice la (κ l) lc)/\aI wr (w.heap.size+1) 73 (aQ 0 (.slice none 0 0))) (λi _=>κ l-(Aaq i).toNat)
 case atStart=>exact⟨0,bG _,rfl,T1,KU,K0,K1,KB⟩
 case round=>
  obtain⟨k,hk,rfl,os,ur,k0,k1,kb⟩:=hrel;obtain⟨OS,UR,C0,C1,BR⟩:=eQ os ur k0 k1 kb;clear os ur kb OS0 KU K0 K1 KB;by_cases hlt:k<κ l
  ·refine oS ?_;intro b3;clear k0;obtain⟨b,off,rfl,aT,da,dc,rg,dp⟩:=bZ (HV.up UR) hlt;refine M4 ?_;intro RG GE SC TS ML;generalize l.take k++Aad (κ l-k) tI=M at *;rw[<-GE.out]at TS;generalize recAt l k=x at *;clear rg dp;go_wp2_with(first
    | refine cM 90 20 (b7 x (.slice da (κ x.dead) dc)) RG ?_)
   refine SC.mono ?_;rintro e w4⟨v',rfl,ho,u4⟩;have aa:=OS.up u4;obtain⟨cur,va,vc,aj,hn,hfit,_,_,_,aP⟩:=aa.part k (by rw[ML.out];exact hlt);obtain⟨HP,al,HF,HO⟩:=bS aP aj hfit (ho.mono (base':=w.heap.size) UR.size);obtain⟨na,nc,rfl⟩:=(ak.row ho pw).slice;refine U8 ?_;intro IN ON U4 D0 D1 E4;clear aP aj hn aa ho u4 SC OS C0 C1 BR k1;go_wp2_with(first
    | ((with_reducible refine cB 90 (.tmp 23) (.tmp 22) ?_);refine cc rfl 90 (.tmp 23) (.tmp 22) rfl (w.heap.size+2) (k*11) (b7 x (.slice na (κ x.dead) nc)) rfl rfl 90 _ al IN HF ON ?_))
   refine UA ?_;clear HP al HF HO D0 D1 E4;intro w5 O5 U5 Z0 Z1 Z2;go_wp2_with fail;go_roundw
   case rel=>exact⟨k+1,ae,aq,O5,U5,Z0,Z1,Z2⟩
   case measure=>simp only[Aaq];omega
  ·exact Ug
theorem acm:zc Aag 90=b8:=al
theorem acj:zc Aag 73=aQ 0 nl:=al
def YD(n:Nat)(v v':ah):(Abz (aQ n v).toList 1 (#[v']:Array ah).toList).toArray=aQ n v':=rfl
def YF(n:Nat)(v:ah):(Abz (aQ n v).toList 0 (#[.int .u64 ((n:Int)+1)]:Array ah).toList).toArray=aQ (n+1) v:=rfl
section
variable (x:ab) (vd:ah) (n:Nat) (b:List aj) (k:Bool)
def abn:(Abz (b7 x vd).toList 0 (#[u6 (n:Int)]:Array ah).toList).toArray=b7 {x with id:=n} vd:=rfl
def abo:(Abz (b7 x vd).toList 1 (#[.string (strOf b)]:Array ah).toList).toArray=b7 {x with name:=b} vd:=rfl
def abq:(Abz (b7 x vd).toList 2 (#[.bool k]:Array ah).toList).toArray=b7 {x with aT:=k} vd:=rfl
def abp:(Abz (b7 x vd).toList 3 (#[u6 (n:Int)]:Array ah).toList).toArray=b7 {x with owner:=n} vd:=rfl
def abr:(Abz (b7 x vd).toList 5 (#[u6 (n:Int)]:Array ah).toList).toArray=b7 {x with ay:=n} vd:=rfl
end
theorem VI{vd:ah}(h:w.rangeAt b o (b7 x vd).toList):w.rangeAt b (o+7) (a6 x.root).toList:=λj v hj=>by
 rw[yE];refine h (7+j) v ?_;match j with
 | 0=>exact hj
 | 1=>exact hj
 | 2=>exact hj
 | n+3=>cases hj
theorem Fr.aaT{F0:Nat->Prop}{x0 w w':af}{L L':List As}{vd v':ah}{l:List au}{ys:List gJ}(s:Fr F0 x0 L w)(p:(os b v' ys).P w')(f:∀n,(os b v' ys).F n->w.heap.size<=n/\n<w'.heap.size\/vd.ownBlock=some n)(u:Up w w')(hU:mK L (op b vd l) (os b v' ys) L':=by exact tK):Fr F0 x0 L' w':=s.yb hU (Touch.bV u) p λn h=>by
  rcases f n h with h|h
  ·exact⟨h.2,.inr h.1⟩
  ·exact⟨eh ((s.p _ hU.mem).aJ n h).2 u.size,.inl h⟩
theorem L2{next:Nat}{b:List aj}(h:lx next l=some b):next<=281474976710655/\(κ l)<=32/\(∀x∈l,cz x=true)/\b=eB (ek next l):=by grind [lx]
theorem IJ{next:Nat}(h:next<=281474976710655):bo (fU next)=next:=by
 unfold fU;show bo (aZ next 8++[])=next
 grind [hc]
theorem Pw(x:ab)(da:Option Addr)(dn dc:Nat):prog.built 90 [(0,u6 (x.id:Int)),(1,.string (strOf x.name)),(2,.bool x.aT),(3,u6 (x.owner:Int)),(4,u6 (x.prev:Int)),(5,u6 (x.ay:Int)),(6,i6 x.blocks),(7,.agg (a6 x.root)),(8,.slice da dn dc)]=some (b7 x (.slice da dn dc)):=al
theorem J2(x:ab)(h:0<=x.blocks)(da:Option Addr)(dn dc:Nat):prog.built 90 [(0,u6 (x.id:Int)),(1,.string (strOf x.name)),(2,.bool ((ib x.aT:Int)==1)),(3,u6 (x.owner:Int)),(4,u6 (x.prev:Int)),(5,u6 (x.ay:Int)),(6,i6 (x.blocks.toNat:Int)),(7,.agg (a6 x.root)),(8,.slice da dn dc)]=some (b7 x (.slice da dn dc)):=by
 have e1:((ib x.aT:Int)==1)=x.aT:=by cases x.aT<;>decide
 have e2:((x.blocks.toNat:Nat):Int)=x.blocks:=ae
 rw[e1,e2];exact Pw x da dn dc
theorem aaD{ops:Array Oper}{S:af->Prop}{o:Oper}{t u:TypeId}{v r:ah}(hr:∀W,S W->(convert t u v).run P W=.ok r W)(ho:o.op=.convert t u (.tmp n):=by rfl)(hx:a.eval (.tmp n)=v:=by rfl)(hw:Region.wanted o (yielded ops a.tmps)=true:=by rfl):YieldsIf P ops S o r a:=.inl ⟨hw,λw h=>by
  unfold Abt;simp only[ho,hx,Aa1,hr w h,Aay,Ac7]⟩
theorem Q0(w:af)(v:ah)(x:ab)(hr:cz x=true)(hw:x.wf)(hv:aY w v (fg x)):Aaf Aag 179 #[v] w λe w'=>∃da dc,e=.returned (.tuple #[.agg (b7 x (.slice da (κ x.dead) dc)),.int .i64 0])/\a8 w' w.heap.size (.slice da (κ x.dead) dc) x.dead/\Up w w':=by
 obtain⟨w0,rfl⟩:=bE w;have hs:=B3 _ (Bt hr) [];rw[Ab4,bp rfl]at hs;obtain⟨hp,hl⟩:=az (DK hr) (h9 x);have HN:=an (show c8 js ((lJ x).take 34)=D0 x from q5 js (D0 x) hp.1 hp.2.2);obtain⟨_,_,_,⟨h4,h5⟩,_,h6,h7,h8,_⟩:=(bm x).1 hr;obtain⟨RB,RL,HS,HL⟩:=bS (show mi ((lJ x).drop 34)=some x.root from nv x.root hw.2.2.2.2.2.1 h6) (I5 x.dead hw.2.2.2.2.2.2 h7 h8) hs hl;clear hs hp hw hr h6 h7 h8;obtain⟨va,vc,rfl⟩:=hv.slice;have s:=Fr.start w0;go_in;go_wp2_with(refine fw s ?_;intro _ w s);refine(Av _ _ (fg x) (hv.up s.pure) _ HS).mono ?_;rintro e w2⟨v2,rfl,⟨vs,aL,hvo,ar⟩,u2⟩;change Fr _ _ [bk ?q 90 _] _ at s;obtain⟨q1,s⟩:=az ((s.f (bk ?q 90 _) gB _ rfl).1) (s.up u2);obtain⟨z2,q0,U2⟩:=cX (s.e6 (t:=90) gB) ((s.f (bk ?q 90 _) gB _ rfl).2.resolve_left id) s.pure;obtain⟨x1,x2,x3,rfl⟩:∃a b c,vs=[a,b,c]:=by
  match vs,aL with
  | [a,b,c],_=>exact⟨a,b,c,rfl⟩
 obtain⟨xa,xn,xc⟩:=x1;obtain⟨na,nn,nc⟩:=x2;obtain⟨za,zn,zc⟩:=x3;have hx:aY w2 (.slice xa xn xc) (lJ x):=(ar 0 aq aq).cv;have hy:aY w2 (.slice na nn nc) x.name:=(ar 1 aq aq).cv;have hz:aY w2 (.slice za zn zc) (cV x.dead):=(ar 2 aq aq).cv;have oy:∀b,(Acg na nn nc).ownBlock=some b->b≠?q:=λb hb=>by have:=((ar 1 aq aq).aJ b hb).1;omega
 obtain rfl:xn=50:=by obtain⟨_,_,h⟩:=hx.slice;simp[hl]at h;exact h.2.1
 obtain⟨g,cap,rfl,hg,_,hc,_,_⟩:=Own.row hvo aq;have c0:w2.cell? ⟨g,0,none⟩=some (.slice xa 50 xc):=hc 0 aq;have c1:w2.cell? ⟨g,1,none⟩=some (.slice na nn nc):=hc 1 aq;have c2:w2.cell? ⟨g,2,none⟩=some (.slice za zn zc):=hc 2 aq;have aE:50<=xc:=by
  rcases hx with⟨h,_,_,aa,_,_⟩|⟨_,_,_,aa,_,h1,_⟩
  ·rw[h]at hl;cases hl
  ·simp at aa;omega
 obtain⟨v1,aK⟩:=bE (bW xa 0 34 xc);obtain⟨v3,aD⟩:=bE (bW xa 34 50 xc);have PT:∀W,(Aav 30 (.slice xa 50 xc) none (some (i6 34)) none).run Aag W=.ok v1 W:=λW=>by rw[aK];exact hj (P:=Aag) 30 dA dB xa 50 xc 34 ae W
 have PF:∀W,(Aav 30 (.slice xa 50 xc) (some (i6 34)) none none).run Aag W=.ok v3 W:=λW=>by rw[aD];exact df (P:=Aag) 30 dA dB xa 50 xc 34 ae W
 have V1:=aC.piece hx (lo:=0) (hi:=34) ae ae;rw[<-aK,Aaw]at V1;have V3:=aC.piece hx (lo:=34) (hi:=50) ae ae;rw[<-aD,dk ae]at V3;obtain⟨HY,HZ,ag,ai⟩:=bS hy hz V1 V3;have gq:¬(bk ?q 90 b8).F g:=by show g≠_;omega
 have s:=Fr.start w2;clear hx hy hz V1 V3 aK aD hl hv aL hvo ar hc HS u2;go_wp2_with(first|(refine fw s ?_;intro _ w s)|((with_reducible refine dS 41 6 _ ?_);refine fal #[i6 8,i6 1,i6 8,i6 8,i6 8,i6 1] 3 (λg=>cC g 6 6) s ?_;intro _ w s));refine(uh _ _ js (zM (s.e6 (t:=3) gB) js 6 rfl dy aA) (by simp[js]) v1 _ (ag.up s.pure) ⟨av,by rw[ey,HL.out];rfl⟩).mono ?_;rintro e w4⟨v7,rfl,O7,u4⟩;rw[HN.out]at O7;obtain⟨h7,s⟩:=az s.pure.size (s.up u4);have U4:=s.pure;obtain⟨g7,aU,rfl,aF,_,aG,_,_⟩:=Own.row O7 sZ;have n0:w4.cell? (ad g7 0)=some (u6 (x.id:Int)):=aG 0 sZ;have n1:w4.cell? (ad g7 1)=some (u6 (ib x.aT:Int)):=aG 1 sZ;have n2:w4.cell? (ad g7 2)=some (u6 (x.owner:Int)):=aG 2 sZ;have n3:w4.cell? (ad g7 3)=some (u6 (x.prev:Int)):=aG 3 sZ;have n4:w4.cell? (ad g7 4)=some (u6 (x.ay:Int)):=aG 4 sZ;obtain⟨nb,aQ⟩:=bE (x.blocks.toNat);have aM:=an aQ;have n5:w4.cell? (ad g7 5)=some (u6 (nb:Int)):=by rw[aQ];exact aG 5 sZ
 obtain⟨s,j0,j1,j2⟩:=iQ (Fr.start w4) (U4.cell c0) (U4.cell c1) (U4.cell c2);have aw:?q<g7:=by have:=z2.lt;omega
 clear aG O7 HN ag PT u4 c0 c1 c2 aQ;go_wp2_with(refine fw s ?_;intro _ w s);refine(qB _ v3 _ (ai.up (U4.trans s.pure)) (by rw[hA,HL.out])).mono ?_;rintro e w5(⟨root,au,rfl,u5⟩|⟨aB,_⟩);rotate_left
 ·rw[RB.out]at aB;cases aB
 rw[RB.out]at au;obtain rfl:=dC au;have s:=s.up u5;rw[show fQ x.root=.agg (a6 x.root)from rfl];clear u5 au PF;go_wp2_with(refine fw s ?_;intro _ w s);obtain⟨h0,q2⟩:=az ((U2.trans (U4.trans s.pure)).size) (eh z2.lt (U4.trans s.pure).size);refine(KP _ (.slice za zn zc) _ (HZ.up (U4.trans s.pure)) _ RL).mono ?_;rintro e w6⟨u,rfl,og,u6⟩;obtain⟨da,dc,rfl⟩:=(ak.row og pw).slice;have s:=s.up u6;change Fr _ _ (bk ?g8 87 _::_) _ at s;obtain⟨B8,U6⟩:=az (s.e6 (t:=87) gB) s.pure;have z6:=z2.up (U4.trans U6);have aj:=an (HY.up (U4.trans U6));obtain⟨R8,k0,k1,k2,k3,k4⟩:=sk B8.range (U6.cell n0) (U6.cell n1) (U6.cell n2) (U6.cell n3) (U6.cell n4);obtain⟨k5,l1⟩:=az (U6.cell n5) (U6.cell j1);have n8:¬(bk ?q 90 b8).F _:=eS B8 z6 av;have n7:¬(bk ?q 90 b8).F g7:=by show g7≠_;omega
 have OG:=an og;have HB:=J2 x ae da (κ x.dead) dc;rw[<-aM.out]at HB;obtain⟨wb,ao⟩:=az (bc nb (by have:=aM.out;omega)) (U2.trans (U4.trans U6));have s:=Fr.from (A:=bk ?q 90 b8) z6 (λn h=>by rw[show n=_ from h];exact z6.lt);clear n0 n1 n2 n3 n4 n5 j1 j2 B8 og RB RL HZ ai U4 U6 U2 u6;go_wp2_with fail;refine ka [] s (λ_ h=>gn) (λw s=>?_) al;repeat refine kt ?_
 refine kt ?_ (hy:=aaD (λW h=>toStr W _ _ (aC.ax aj h.1 oy)));iterate 16 refine kt ?_
 refine kt (v:=i6 (nb:Int)) ?_ (hy:=ya);iterate 3 refine kt ?_
 refine ks (λw s=>?_);repeat refine kt ?_
 refine kd (λw _ s=>?_);clear HB wb;go_wp2_with fail;refine br ?_;exact⟨da,dc,rfl,(ak.ax OG s.t (λb hb e=>by have:=(ak.aJ OG b hb).1;have e:b=_:=e;omega)).mono ae,s.t.up ao (λn h=>by rw[show n=_ from h];exact q0)⟩
theorem Fr.sl{F0:Nat->Prop}{x0 w:af}{L L':List As}(s:Fr F0 x0 L w)(h:L'.Sublist L:=by exact YY):Fr F0 x0 L' w:=⟨s.t,λA m=>s.p A (h.subset m),λA m=>s.f A (h.subset m),s.d.sublist h⟩
theorem Fr.ndq{F0:Nat->Prop}{x0 w:af}{L L1 L':List As}{ys:List gJ}{da:Option Addr}{dc:Nat}(s:Fr F0 x0 L w)(hr:x4 L (op b (.slice da (κ x.dead) dc) x.dead) L1:=by exact Se)(hU:mK L1 (Vu b ys) (Vu b (ys++[⟨x,da,κ x.dead,dc⟩])) L':=by exact tK):Fr F0 x0 L' w:=by
 have q:=s.p _ hr.mem;obtain⟨p1,p2⟩:=hr.pair (R:=λA B=>∀n,A.F n->¬B.F n) (λh n a b=>h n b a) s.d;have hA:=hr.sub _ hU.mem;have hF:∀n,(Vu b (ys++[⟨x,da,κ x.dead,dc⟩])).F n->(Vu b ys).F n\/(Acg da (κ x.dead) dc).ownBlock=some n:=λn ⟨y,hy,h⟩=>by
  rcases Aa3.1 hy with hy|hy
  ·exact .inl ⟨y,hy,h⟩
  ·rw[jF.1 hy]at h;exact .inr h
 have hP:(Vu b (ys++[⟨x,da,κ x.dead,dc⟩])).P w:=λy hy=>by
  rcases Aa3.1 hy with hy|hy
  ·exact s.p _ hA y hy
  ·rw[jF.1 hy];exact q
 obtain⟨d1,_⟩:=hU.pair (R:=λA B=>∀n,A.F n->¬B.F n) (λh n a b=>h n b a) p1 (λD hD k n hn hd=>(hF n hn).elim (λh=>k n h hd) (λh=>p2 D hD n h hd));refine⟨s.t,λD hD=>?_,λD hD n hn=>?_,d1⟩
 ·rcases hU.sub D hD with rfl|hD
  ·exact hP
  ·exact s.p D (hr.sub D hD)
 ·rcases hU.sub D hD with rfl|hD
  ·exact(hF n hn).elim (s.f _ hA n) (s.f _ hr.mem n)
  ·exact s.f D (hr.sub D hD) n hn
theorem Rc(w:af)(v:ah)(b:List aj)(hv:aY w v b)(next:Nat)(l:List ab)(hs:lx next l=some b)(aK:∀x∈l,x.wf):Aaf Aag 115 #[v] w λe w'=>∃v,e=.returned (.tuple #[.int .u64 (next:Int),v,.int .i64 0])/\bt w' w.heap.size v l/\Up w w':=by
 obtain⟨hn,a1,hr,hb⟩:=L2 hs;have SJ:=B3 _ (xH (next:=next) a1 hr) [];rw[Ab4,bp rfl,<-hb]at SJ;obtain⟨ba,HS,HW,HR,HV⟩:=eQ SJ hs aK hr hv;clear hb SJ hs aK hr;obtain⟨va,vc,rfl⟩:=hv.slice;obtain⟨w0,rfl⟩:=bE w;go_in;go_wp2_with fail;refine(Av _ _ b HV _ ba).mono ?_;rintro e w2⟨v2,rfl,⟨vs,aL,hvo,ar⟩,U2⟩;obtain⟨x,xs,rfl⟩:∃x xs,vs=x::xs:=by
  cases vs with
  | nil=>cases aL
  | cons x xs=>exact⟨x,xs,rfl⟩
 have hxl:κ xs=κ l:=by simpa[ek]using aL
 obtain⟨m,hm⟩:=bE (κ l);have hlen:κ (x::xs)=m+1:=by rw[Aaj,hxl,hm]
 have hx:=(ar 0 aq (by simp[ek])).cv;have bd:=an (show ∀k(h1:k<κ xs)(h2:k<κ l),aY w2 (gv xs[k]) (fg l[k])from λk h1 h2=>by have:=(ar (k+1) ao (by simp[ek];omega)).cv;simpa[ek]using this)
 obtain⟨g,cap,a6,aX,aW,aa,_,_⟩:=Own.row hvo aq;rw[hlen]at a6;obtain rfl:=a6;have c0:w2.cell? (ad g 0)=some (gv x):=aa 0 aq;have a8:=an (show ∀k(h1:k<κ xs),w2.cell? (ad g (1+k))=some (gv xs[k])from λk h1=>by have:=aa (k+1) ao;rw[Nat.add_comm 1 k];simpa using this)
 have aR:m+1<=cap:=by
  rcases hvo.2 with⟨h,_⟩|⟨g',al,aP,h,_,_,hn,_⟩
  ·cases h
  ·simp only[Abh]at h;simp at hn;omega
 obtain⟨xa,xn,xc⟩:=x;obtain rfl:xn=8:=by obtain⟨_,_,h⟩:=hx.slice;simp[gv,ek,gL]at h;exact h.2.1
 have HX:=an (show aY w2 (.slice xa 8 xc) (fU next)from hx);replace c0:w2.cell? (ad g 0)=some (.slice xa 8 xc):=c0;have PF:∀W:af,(Aav 40 (cC g (m+1) cap) (some (i6 1)) none none).run Aag W=.ok (partOf 1 (some ⟨g,0,none⟩) 1 (m+1) cap) W:=λW=>gu (P:=Aag) 40 1 Me Mf (some ⟨g,0,none⟩) (m+1) cap 1 ae W;obtain⟨pa,aD,a7⟩:∃pa,partOf 1 (some ⟨g,0,none⟩) 1 (m+1) cap=.slice pa m (cap-1)/\(0<m->pa=some ⟨g,1,none⟩):=by refine⟨_,rfl,λh=>?_⟩;rw[aO ae];rfl
 have aN:=an a7;rw[aD]at PF;have MK:∀W:af,(Aci 71 (i6 0) (i6 (m:Int))).run Aag W=.ok (cC W.heap.size 0 m) (W.alloc (.cells (Acu b8 (m*11)) 90)):=λW=>mo (P:=Aag) 71 90 (.agg b8) 11 112 underlying71 j' m ae ae W;have b3:((33:Int)<((m+1:Nat):Int))=False:=ao
 have b4:(((m+1:Nat):Int)<1)=False:=ao
 have wm:((m+1:Nat):Int)-1=(m:Int):=ae
 have bg:IntKind.i64.wrap (m:Int)=(m:Int):=bc m ae;obtain⟨HM,bb⟩:=aw hm hxl;have m32:m<=32:=ae
 obtain⟨pc,aV⟩:=bE (cap-1);rw[<-aV]at PF;obtain⟨tn,aM⟩:=bE (m+1);rw[<-aM]at PF b3 b4 wm ⊢;have s:=Fr.start w2;clear ar aa aL hvo hlen hxl hm aD a7 aV aM aR hx;go_wp2_with(first|(refine fw s ?_;intro _ w s)|((with_reducible refine dS 41 1 _ ?_);refine fal #[i6 8] 3 (λg=>cC g 1 1) s ?_;intro _ w s));refine(uh _ _ [8] (zM (s.e6 (t:=3) gB) [8] 1 rfl dy aA) aq _ (fU next) (HX.up s.pure) ⟨av,by rw[gL];rfl⟩).mono ?_;rintro e w4⟨v7,rfl,O7,u4⟩;have s:=s.up u4;have aH:=s.pure;have U4:=U2.trans aH;rw[show c8 [8] (fU next)=[next] from by show [bo ((fU next).take 8)]=_;rw[dk (by rw[gL];omega),IJ hn]]at O7
 obtain⟨g7,aU,rfl,_,_,aG,_,_⟩:=Own.row O7 aq;have n0:w4.cell? (ad g7 0)=some (u6 (next:Int)):=aG 0 aq;have s:=Fr.start w4;clear aG O7 c0 HX u4;go_wp2_with fail;replace s:=s.new (A:=Yq w4.heap.size (cC w4.heap.size 0 m) []) (.one (ai _ _) (ak.room dg 11 90 w4 (.agg b8) w4.heap.size m (aE _) ae) (ak.room dg 11 90 w4 (.agg b8) w4.heap.size m (aE _) ae).aJ);replace s:=s.new (A:=Vu w4.heap.size []) (.one (Up.refl _) (λy h=>gn) (λn ⟨y,h,_⟩=>gn));go_loopw [8,48] (λlv i wr=>∃(k:Nat)(ys:List gJ),k<=m/\i=i6 k/\ys.map (·.d)=l.take k/\Fr no w4 [Vu w4.heap.size ys,Yq w4.heap.size lv ys] wr) (λ_ i _=>m-(Aaq i).toNat)
 case atStart=>exact⟨0,[],bG _,rfl,rfl,s⟩
 case round=>
  clear s;obtain⟨k,ys,hk,rfl,aF,s⟩:=hrel;have aT:=an aF;have au:κ ys<=1000:=by have:=ct List.length aF;rw[Aac,ey]at this;omega
  obtain⟨la,lc,rfl⟩:=(ak.row (s.p (Yq _ _ _) gB) lK).slice;clear aF MK PF b3 b4 wm bg;by_cases hlt:k<m
  ·have bf:((k:Int)<(m:Int))=True:=by simp;omega
   obtain rfl:=aN ae;have aQ:k<κ xs:=by rw[bb.out,<-HM.out];exact hlt
   have ax:k<κ l:=by rw[<-HM.out];exact hlt
   obtain⟨ck,hb⟩:=az (aH.cell (a8 k aQ)) ((bd k aQ ax).up aH);have TK:=an (show l.take (k+1)=l.take k++[l[k]] from eo ax);obtain⟨h1,h2⟩:=az (HR l[k] (cm ax)) (HW l[k] (cm ax));generalize l[k]=x at *;generalize xs[k]=t at *;obtain⟨ta,bh,tc⟩:=t;unfold gv at ck hb;simp only at ck hb;clear aQ ax;go_wp2_with(refine fw s ?_;intro _ w s);refine(Q0 _ _ x h1 h2 (hb.up s.pure)).mono ?_;rintro e w5⟨da,dc,rfl,od,u5⟩;have s:=s.new (.q od u5 s.t.size);clear hb od u5;go_wp2_with(first|(refine fw s ?_;intro _ w s)|(refine Xp s ?_;intro _ w s)|(at_builtin;refine fap s ?_ (hl:=au);intro _ _ w s));go_roundw
   case rel=>exact⟨k+1,ys++[⟨x,da,κ x.dead,dc⟩],hlt,aq,by rw[Aao,aT.out,TK.out];rfl,s.ndq.sl⟩
   case measure=>simp only[Aaq];omega
  ·obtain rfl:k=m:=by omega
   have bf:((k:Int)<(k:Int))=False:=aq
   have aS:=an (show ys.map (·.d)=l by rw[aT.out,HM.out,fj]);go_wp2_with(refine fw s ?_;intro _ w s);refine(sf _ next ae _ l (bt.cA ⟨ys,aS,s.p (Yq _ _ _) gB,s.p (Vu _ _) gB⟩) HW).mono ?_;rintro e w6(⟨ay,_⟩|⟨mb,bj,ag,rfl,aB,U6⟩)
   ·rw[HS.out]at ay;cases ay
   obtain rfl:mb=b:=dC (ag.symm.trans HS);have s:=s.up U6;have BQ:=an (zJ w6 _ _ mb mb aB.cv (HV.up (U4.trans s.pure)));rw[fm rfl]at BQ;obtain⟨qa,qc,rfl⟩:=aB.cv.slice;clear ag aB U6;go_wp2_with fail;refine BQ.mono ?_;rintro e w8⟨rfl,rfl⟩;go_wp2_with(refine fw s ?_;intro _ w s);refine br ?_;exact⟨_,rfl,bt.mono ⟨ys,aS,s.p (Yq _ _ _) gB,s.p (Vu _ _) gB⟩ U4.size,U4.trans s.pure⟩
def bK(s:Nat->Nat)(ba:Nat):List au->(Nat->Nat)
 | []=>s
 | q::l=>bK (gU s ba q) ba l
def pV(ba:Nat)(q:au):∀(l:List au)(s:Nat->Nat),bK s ba (l++[q])=gU (bK s ba l) ba q
 | [],_=>rfl
 | x::l,s=>pV ba q l (gU s ba x)
theorem Tc{s:Nat->Nat}{ba:Nat}{q:au}(h:gU s ba q i≠0):s i≠0:=by
 unfold gU at h;have key:∀y,sB s q.loc 2 y i≠0->s i≠0:=λy hh=>by unfold sB at hh;grind [KM,fW]
 grind
def Di{ba:Nat}{i:Nat}:∀(l:List au){s:Nat->Nat},bK s ba l i≠0->s i≠0
 | [],_,h=>h
 | q::l,s,h=>Tc (Di l h)
def Zz(P:bz)(H:aS)(b:List aj)(old:List au)(w:af)(e:Ab3)(w':af):Prop:=∃ats,κ ats=e2 (κ b) (κ P.C)/\ats.Nodup/\(∀i∈ats,i<1024/\bK P.s P.ba old i=1)/\MB {P with s:=fv (bK P.s P.ba old) ats} H b ats w e w'
theorem VK{v:ah}{l:List Nat}(h:aC QG w v l):aC bA w v (l.map (λk:Nat=>(k:Int))):=by
 rcases h with⟨rfl,h⟩|⟨b,off,cap,h1,h2,h3,h4,h5⟩
 ·exact .inl ⟨rfl,h⟩
 ·refine .inr ⟨b,off,cap,ao,ao,ao,h4,λi hi=>?_⟩;rw[Aac]at hi;rw[Adl];exact h5 i hi
theorem LA{P:bz}(A:PA w H P){v:ah}(h:Own QG 3 w base v xs):∀k,v.ownBlock=some k->¬PF H k:=λk hk=>by
 obtain⟨_,h2⟩:=h;rcases h2 with⟨h3,_⟩|⟨g,cap,cur,h3,_,h5,_⟩
 ·rw[h3]at hk;cases hk
 ·rw[h3]at hk;simp only[Aan,Aai]at hk;subst hk;exact A.b' (t:=3) (C:=cur) h5 av
theorem tQ{n t:Nat}:e2 n t<=2049:=by grind [e2,jk,cJ,dF]
theorem QF(w:af)(H:aS)(P:bz)(A:PA w H P)(next:Nat)(aD:next<18446744073709551616)(v:ah)(l:List ab)(hv:cy w v l)(aK:∀x∈l,x.wf)(b:List aj)(hb:e3 next l=some b)(vo:ah)(old:List au)(ho:c9 w vo old)(bd:∀k,vo.ownBlock=some k->¬PF H k)(ht:64<=κ P.C/\(κ P.C)<=1024)(aF:1<=P.st/\P.st<=281474976710655)(hm:P.m<=800000)(h1:1<=κ b)(aE:∀i,i<1024->P.s i≠0->4<=i/\i<κ P.C)(hc:e2 (κ b) (κ P.C)<=bj (bK P.s P.ba old))(aY:κ old<=100000):Aaf Aag 152 #[pz H.pb,.agg (aQ next v),vo] w λe w'=>Zz P H b old w e w':=by
 have h2:=vz hb;obtain⟨sa,sc,rfl⟩:=hv.slice;obtain⟨oa,oc,rfl⟩:=ho.slice;have U2:=an (ai (w.alloc (.cells (aQ next (.slice sa (κ l) sc)) 73)) (.cells (a6 hole) 87));have b2:=aI.new (w.alloc (.cells (aQ next (.slice sa (κ l) sc)) 73)) 87 (a6 hole);rw[aN]at b2;obtain⟨B2,UU⟩:=aw b2 ((ai w (.cells (aQ next (.slice sa (κ l) sc)) 73)).trans U2);have RC:=an (xP _ next aD _ l (hv.up UU) aK);rw[hb]at RC;obtain⟨HA,HO,aP,aU,HC⟩:=eQ A ho bd aE hc;clear aK hb bd aE hc;go_in;go_wp2_with(refine arm ?_);refine RC.mono ?_;rintro e w3(⟨ay,_⟩|⟨m,vt,aB,rfl,om,u3⟩)
 ·cases ay
 obtain rfl:b=m:=dC aB;obtain⟨OM,U3⟩:=aw om (UU.trans u3);obtain⟨ta,tc,rfl⟩:=om.cv.slice;have UUS:=an UU.size;clear aB;go_wp2;go_loopw [26] (λi wr=>∃k:Nat,k<=κ old/\i=i6 k/\PA wr H {P with s:=bK P.s P.ba (old.take k)}/\Touch (PF H) w3 wr/\aI wr (w.heap.size+1) 87 (a6 hole)) (λi _=>κ old-(Aaq i).toNat)
 case atStart=>exact⟨0,bG _,rfl,(HA.up U3),Touch.refl _ _,(B2.up u3)⟩
 case round=>
  obtain⟨k,hk,rfl,ar,tr,br⟩:=hrel;obtain⟨AR,TR,BR⟩:=aW ar tr br;by_cases hlt:k<κ old
  ·have b3:((k:Int)<(κ old:Int))=True:=by simp;omega
   obtain⟨bb,off,rfl,hbs,_,hc⟩:=(aG.nP (aG.up HO U3) TR aP).range pw ae;obtain⟨RC,TK,UX,BX⟩:=bS (hc k hlt) (show bK P.s P.ba (old.take (k+1))=gU (bK P.s P.ba (old.take k)) P.ba old[k] from by rw[(λk hk=>eo hk) k hlt,pV]) (ai wr (.cells (a6 old[k]) 87)) (aI.new wr 87 (a6 old[k]));obtain⟨DR,BB⟩:=aw (DP _ H {P with s:=bK P.s P.ba (old.take k)} (AR.up UX) old[k]) (BR.up UX);generalize old[k]=q at *;clear hc;go_wp2_with(first
    | refine cM 87 28 (a6 q) RC ?_
    | refine bH 87 fh ?_
    | refine dX 87 12 29 wr (a6 q) 87 (a6 hole) ?_
    | refine db 87 12 BX ?_)
   refine DR.mono ?_;rintro e w5⟨⟨r,rfl⟩,a5,t5⟩;obtain⟨A5,T5,B5⟩:=aW (show PA w5 H {P with s:=bK P.s P.ba (old.take (k+1))} from by rw[TK.out];exact a5) ((TR.iD UX).trans t5 (λn h _=>h)) (BB.ax t5 ((AR.up UX).b' BB av));go_wp2;go_roundw
   case rel=>exact⟨k+1,ae,aq,A5,T5,B5⟩
   case measure=>simp only[Aaq];omega
  ·obtain rfl:k=κ old:=by omega
   have b3:((κ old:Int)<(κ old:Int))=False:=aq
   have ar:=AR.out;rw[fj]at ar;obtain⟨s1,aR⟩:=bE (bK P.s P.ba old);rw[<-aR]at ar HC;obtain⟨bc,a1⟩:=aw aR (show ∀i,s1 i≠0->P.s i≠0 from λi h=>Di old (by rw[<-aR];exact h));clear aR;obtain⟨P1,a7⟩:∃x:bz,x={P with s:=s1}:=⟨_,rfl⟩;have e1:P1.C=P.C/\P1.m=P.m/\P1.st=P.st/\P1.s=s1/\P1.ba=P.ba:=by rw[a7];exact⟨rfl,rfl,rfl,rfl,rfl⟩
   rw[<-a7]at ar;obtain⟨E1,ch,be⟩:=aW e1 a7 ar;have HB:=an ((Own.ax OM TR (λk hk hpf=>TX)).cv)
   have LE:=an (kK wr H.h P1.C P1.m P1.fl ar.dev);rw[e1.1]at LE;clear e1 a7;go_wp2_with fail;refine(kV wr H P1 ar).mono ?_;refine f' ?_;intro wx;go_wp2_with fail;refine zh ?_;intro wx;go_wp2_with fail;refine(DC wr (.slice ta (κ b) tc) b HB ae (κ P.C) ae).mono ?_;rintro e w6⟨rfl,u6⟩;obtain⟨A6,B6,PM⟩:=aW (be.up u6) (BR.up u6) (λW (AW:PA W H P1)=>ob W H P1 AW);obtain⟨CN,MN⟩:=aw (mq w6 H.mb P1.s A6.map) (Rv w6 H.mb P1.s A6.map (e2 (κ b) (κ P.C)) (by have:=@tQ (κ b) (κ P.C);omega));rw[E1.out.2.2.2.1]at CN MN;obtain⟨al,aL⟩:=az (@tQ (κ b) (κ P.C)) HC.out;have b5:((bj s1:Int)<(e2 (κ b) (κ P.C):Int))=False:=ao
   generalize ad:bj s1=cn at *;have bm:=an ad;clear ad;have bq:((0:Int) != 0)=false:=aq
   go_wp2_with fail;refine(PM _ A6).mono ?_;refine f' ?_;intro wx;go_wp2_with fail;refine CN.mono ?_;refine f' ?_;intro wx;go_wp2_with fail;refine(PM _ A6).mono ?_;refine f' ?_;intro wx;go_wp2_with fail;refine MN.mono ?_;rintro e w7(⟨ay,_⟩|⟨aX,ats,va,aO,hd,has,rfl,aT,bh,t7⟩)
   ·simp only[Hid]at *;omega
   have A7:=an (show PA w7 H {P with s:=fv s1 ats} from by have:=PA.G2 A6 bh t7;rw[ch.out]at this;exact this)
   have TT:Touch (PF H) w6 w7:=t7.mono (λn h=>.inr (.inl h));obtain⟨T7,B7⟩:=aw ((Touch.bV (F:=PF H) U3).trans ((TR.iD u6).trans TT (λn h _=>h)) (λn h _=>h)) (B6.ax TT (A6.b' B6 av));have aV:=an (show ∀k,(Acg ta (κ b) tc).ownBlock=some k->¬PF H k from λk hk hpf=>TX)
   have MW:=an (Le w7 H {P with s:=fv s1 ats} A7 (.slice ta (κ b) tc) b ((HB.up u6).ax TT aV) aV h1 h2 va ats (VK aT.cv) (LA A7 aT) ht aO hd (λi hi=>by
    have h3:=has i hi;have h4:=aU i h3.1 (a1 i ae);exact⟨h4.1,h3.1,by show fv s1 ats i=2;unfold fv;rw[bp hi],h4.2⟩) aF hm (λi hi=>by
    unfold gy at hi;simp only[decide_eq_true_eq]at hi;refine aU i hi.1 (a1 i ?_);have h5:=hi.2;unfold fv at h5;split at h5
    ·rename_i aB;rw[(has i aB).2];omega
    ·omega))
   obtain⟨aa,ac,bf⟩:=aT.cv.slice;subst bf;have aH:=an (show κ ats=e2 (κ b) (κ P.C)/\ats.Nodup/\(∀i∈ats,i<1024/\bK P.s P.ba old i=1)from⟨aO,hd,by rw[<-bc.out];exact has⟩);clear aO has PM;go_wp2_with fail;refine MW.mono ?_;rintro e w8⟨q,v8,ps,P8,rfl,o8,d8,ma,bl,qw,qg⟩;have D8:=an (PT.then (vp:=H.h.vp) T7 (λb h=>.inl h) d8);obtain⟨bk,a8,t8,bg⟩:=d8;obtain⟨B8,IQ,aC⟩:=aW (B7.ax t8 (A7.b' B7 av)) (hU q) (show k9 P8.C q b (W0 {P with s:=fv s1 ats}) ps/\ME {P with s:=fv s1 ats} P8 ats ps/\q.wf/\cw q=true from⟨ma,bl,qw,qg⟩);rw[bc.out]at aC;clear bg qg;obtain⟨bo,bs,rfl⟩:=(ak.row o8 pw).slice;go_wp2_with(first|refine arm ?_|refine pH ?_);intro wz hbz ag;obtain⟨DZ,OZ⟩:=aw (D8.grow B8 av ag ae) ((ak.kept o8 ag (.inr (λe=>by have:=(o8.aJ _ e).1;have:=B7.lt;omega))).mono (base':=w.heap.size) T7.size);go_wp2;exact kk (v:=.tuple #[.agg (a6 q),(.slice bo (κ ps) bs),i6 0]) (se rfl _ _ _ (w.heap.size+1) 87 _ _ _ rfl rfl rfl hbz _ underlying87 rfl IQ) rfl ⟨ats,aH.1,aH.2.1,aH.2.2,q,_,ps,P8,rfl,OZ,DZ,aC.1,aC.2.1,aC.2.2.1,aC.2.2.2⟩
def lnV:ah->Nat
 | .slice _ n _=>n
 | _=>0
def gW(l:List ab)(id:Nat):Nat->List Nat->Nat->List Nat × Nat
 | 0,c,p=>(c,p)
 | n+1,c,p=>if p=0 then(c,p)else match aK l p with
  | none=>(c,p)
  | some i=>if(recAt l i).owner=id then gW l id n (c++[p]) (recAt l i).prev else(c,p)
def dO(l:List ab)(id:Nat):List Nat × Nat:=match aK l id with
 | none=>([],0)
 | some i=>if(recAt l i).aT=true then([],0)else gW l id 32 [] (recAt l i).prev
section
variable {l:List ab} {id n p i:Nat} {c:List Nat}
theorem pe(f:Nat):gW l id f c 0=(c,0):=by cases f<;>simp[gW]
theorem pc(h0:p≠0)(h:aK l p=none):gW l id (n+1) c p=(c,p):=by grind [gW]
theorem nB(h0:p≠0)(h:aK l p=some i)(ho:(recAt l i).owner≠id):gW l id (n+1) c p=(c,p):=by grind [gW]
theorem oi(h0:p≠0)(h:aK l p=some i)(ho:(recAt l i).owner=id):gW l id (n+1) c p=gW l id n (c++[p]) (recAt l i).prev:=by grind [gW]
theorem w1(h:aK l id=none):dO l id=([],0):=by grind [dO]
theorem w3(h:aK l id=some i)(hs:(recAt l i).aT=true):dO l id=([],0):=by grind [dO]
theorem qV(h:aK l id=some i)(hs:(recAt l i).aT=false):dO l id=gW l id 32 [] (recAt l i).prev:=by grind [dO]
end
theorem O8(w:af)(v:ah)(l:List ab)(hv:cy w v l)(id:Nat):Aaf Aag 85 #[v,.int .u64 (id:Int)] w λe w'=>∃u,e=rt #[u,.int .u64 ((dO l id).2:Int)]/\Own cu 70 w' w.heap.size u (dO l id).1/\Up w w':=by
 obtain⟨a,cap,rfl⟩:=hv.slice;have PL:=an (λW (u:Up w W) p=>jo W _ l (hv.up u) p);have P1:=an (PL w (Up.refl w) id);cases h1:aK l id with
 | none=>have HE:=an (w1 h1);rw[h1]at P1;unfold eJ at P1;clear h1;exact UI
 | some i=>
  have H1:=an h1;rw[h1]at P1;unfold eJ at P1;obtain⟨hi,_⟩:=cP h1;obtain⟨b,off,rfl,_,da,dc,rg,_⟩:=bZ hv hi;obtain⟨_,_,c2,_,c4,_⟩:=cd rg;refine oR ?_;intro b1 b2;clear h1;cases hs:(recAt l i).aT with
  | true=>have HE:=an (w3 H1 hs);rw[hs]at c2;clear hs c4;exact UI
  | false=>
   have HE:=an (qV H1 hs);rw[hs]at c2;obtain⟨p0,aa⟩:=bE ((recAt l i).prev);rw[<-aa]at c4 HE;obtain⟨res,ag⟩:=bE (dO l id);rw[<-ag]at HE ⊢;clear hs aa ag;go_in;go_wp2_with fail;refine rm ?_;intro w2;go_wp2;clear b1 b2 c2 c4;go_loopw [6,7,8] (λii ch pv wr=>∃(c:List Nat)(p f:Nat),κ c+f=32/\pv=.int .u64 (p:Int)/\Own cu 70 wr w.heap.size ch c/\gW l id f c p=res/\Up w wr) (λ_ ch _ _=>32-lnV ch)
   case atStart=>exact⟨[],p0,32,rfl,rfl,Own.nil _ _ _ _,HE.symm,Up.refl _⟩
   case round=>
    obtain⟨c,p,f,au,rfl,oc,hw,ur⟩:=hrel;have HW:=an hw;obtain⟨ca,cc,rfl⟩:=oc.cv.slice;have al:=an au;have bg:κ c<=32:=ae
    clear hw HE au;by_cases h0:p=0
    ·subst h0;have HR:=an (show res=(c,0)by rw[<-HW.out];exact pe f);go_wp2;go_ret2;exact⟨_,by rw[HR.out]<;>rfl,by rw[HR.out];exact oc,ur⟩
    ·have b3:((p:Int)==(0:Int))=false:=by simp;omega
     have aA:((p:Int) != (0:Int))=true:=ao
     cases f with
     | zero=>
      have HR:=an (show res=(c,p)by rw[<-HW.out];rfl);have av:κ c=32:=by have:=al.out;omega
      have b4:((κ c:Int)<32)=False:=ao
      clear av h0;go_wp2;go_ret2;exact⟨_,by rw[HR.out]<;>rfl,by rw[HR.out];exact oc,ur⟩
     | succ f=>
      have b4:((κ c:Int)<32)=True:=by have:=al.out;simp;omega
      have P2:=an (PL _ ur p);cases h2:aK l p with
      | none=>have HR:=an (show res=(c,p)by rw[<-HW.out];exact pc h0 h2);rw[h2]at P2;unfold eJ at P2;clear h2 h0;exact UP
      | some j=>
       have H2:=an h2;rw[h2]at P2;unfold eJ at P2;obtain⟨hj,_⟩:=cP h2;obtain⟨b',aD,aj,_,aH,aJ,rg,_⟩:=bZ (hv.up ur) hj;simp only[Aai,Abm,and_true]at aj;obtain⟨rfl,rfl⟩:=aj;obtain⟨_,_,_,c3,c4,_⟩:=cd rg;have b5:((j:Int)<0)=False:=aq
       have b6:((j:Int)<(κ l:Int))=True:=ao
       clear h2;by_cases ho:(recAt l j).owner=id
       ·have HR:=an (show gW l id f (c++[p]) (recAt l j).prev=res by rw[<-HW.out];exact(oi h0 H2 ho).symm);rw[ho]at c3;obtain⟨pn,ak⟩:=bE ((recAt l j).prev);rw[<-ak]at c4 HR;have ax:=an ak;have b7:((id:Int)==(id:Int))=true:=by simp
        have ay:((id:Int) != (id:Int))=false:=aq
        have UA:=an (ai wr (.cells #[.int .u64 (p:Int)] 70));have U2:=an (ur.trans UA);clear ho ak c4 h0;go_wp2_with fail;refine P2.mono ?_;refine oQ ?_;intro w2;go_wp2_with(first
         | (at_builtin;refine bf cu qR rfl (.tmp 47) (.tmp 49) 156 rfl w.heap.size 70 (.int .u64 0) 8 underlying156 ui rfl _ c rfl (oc.up UA) (cC wr.heap.size 1 1) [p] rfl (aC.er (f:=cu) wr wr.heap.size rfl #[.int .u64 (p:Int)] 70 (0,0) [p] 1 rfl dy rfl) ao ao U2.size ?_))
        intro v5 w5 ar aL az;have U5:=an (U2.aF az (aE _));obtain⟨b2,aI,ad,aM,aB,aG,aV,_⟩:=bZ (hv.up U5) hj;simp only[Aai,Abm,and_true]at ad;obtain⟨rfl,rfl⟩:=ad;have d4:=(cd aV).2.2.2.2.1;obtain⟨aN,aO,aw⟩:=ar.cv.slice;rw[Aae,List.length_singleton]at aw;subst aw;go_wp2;go_roundw
        case rel=>exact⟨c++[p],pn,f,by have:=al.out;simp;omega,by rw[ax.out],ar,HR,U5⟩
        case measure=>exact(by have:=al.out;show 32-(κ c+1)<32-κ c;omega)
       ·have HR:=an (show res=(c,p)by rw[<-HW.out];exact nB h0 H2 ho);have b7:((((recAt l j).owner:Nat):Int)==(id:Int))=false:=by simp;omega
        have ay:((((recAt l j).owner:Nat):Int) != (id:Int))=true:=ao
        clear ho h0 c4;exact UP
theorem C9(w:af)(v:ah)(l:List ab)(hv:cy w v l)(id:Nat):Aaf Aag 145 #[v,u6 (id:Int)] w λe w'=>∃u,e=.returned u/\Own cu 70 w' w.heap.size u (dO l id).1/\Up w w':=by have WY:=an (O8 w v l hv id);obtain⟨a,cap,rfl⟩:=hv.slice;generalize(dO l id).1=c at *;generalize(dO l id).2=p at *;go_in;go_wp2_with fail;refine WY.mono ?_;rintro e w2⟨u,rfl,ou,uu⟩;go_wp2;go_ret;exact⟨_,rfl,ou,uu⟩
theorem ti(w:af)(v:ah)(l:List ab)(hv:cy w v l)(id:Nat):Aaf Aag 32 #[v,u6 (id:Int)] w λe w'=>e=.returned (u6 ((dO l id).2:Int))/\Up w w':=by have WY:=an (O8 w v l hv id);obtain⟨a,cap,rfl⟩:=hv.slice;generalize(dO l id).1=c at *;generalize(dO l id).2=p at *;go_in;go_wp2_with fail;refine WY.mono ?_;rintro e w2⟨u,rfl,ou,uu⟩;go_wp2;go_ret;simp;omega
section
open Go.Shelf
attribute [local go_sem] km
section
variable {F:Fence} {n:Nat} {P:bu} {ops:Array Abi} {Q:Exit->Act->af->Prop} {md:Ab1} {o o2:Abi} {a:Act} {w:af}
theorem im(ty:Aab)(x:bR)(ho:o.op=.load ty x)(ad:Addr)(hx:a.eval x=.pointer (some ad)){v:ah}(hc:w.cell? ad=some v)(hagg:∀w:af,(isAgg ty).run P w=.ok false w):(Abt a.eval o).run P w=.ok (.value v) w:=by
 have hl:(load ad).run P w=.ok v w:=by simp[hc]
 unfold Abt;simp only[ho,hx,Instr.loadAt,Adg,loadVar,Aa1,Ac7,Aay,hagg,Ab2,if_false,hl]
theorem qY{i:Nat}{v:ah}{K:Act->af->Prop}(ai:F.round=none)(hi:ops[i]?=some o)(hw:Aaa o (Aaz ops a.tmps)=true)(hv:(Abt a.eval o).run P w=.ok (.value v) w)(ar:o.about P w a.eval=none)(h:K (a.put o.dst v) w):wpOpIn F n P ops Q i K a w:=by unfold wpOpIn;simp only[hi,hw,if_true,Oper.wpIn,ai,Oper.semAt_none,hv,Oper.uponIn];simp_all
theorem JE{fuel:Nat}{aZ:Array Bool}(i:Nat)(v:ah)(hr:Abf md ops aZ=[i])(ai:F.round=none)(hi:ops[i]?=some o)(hw:Aaa o (Aaz ops a.tmps)=true)(hv:(Abt a.eval o).run P w=.ok (.value v) w)(ar:o.about P w a.eval=none)(h:Acx F n P md ops Q fuel (aZ.setIfInBounds i true) (a.put o.dst v) w):Acx F n P md ops Q (fuel+1) aZ a w:=wpAnyIn_all hr aq (λj hj=>by simp at hj;subst hj;exact qY ai hi hw hv ar h)
theorem JF{fuel:Nat}{aZ:Array Bool}(i:Nat)(v:ah)(j:Nat)(v2:ah)(hr:Abf md ops aZ=[i,j])(ai:F.round=none)(hi:ops[i]?=some o)(hw:Aaa o (Aaz ops a.tmps)=true)(hv:(Abt a.eval o).run P w=.ok (.value v) w)(ar:o.about P w a.eval=none)(hj:ops[j]?=some o2)(hw2:Aaa o2 (Aaz ops a.tmps)=true)(ax:(Abt a.eval o2).run P w=.ok (.value v2) w)(aC:o2.about P w a.eval=none)(h:Acx F n P md ops Q fuel (aZ.setIfInBounds i true) (a.put o.dst v) w)(h2:Acx F n P md ops Q fuel (aZ.setIfInBounds j true) (a.put o2.dst v2) w):Acx F n P md ops Q (fuel+1) aZ a w:=wpAnyIn_all hr aq (λk hk=>by
  simp at hk;rcases hk with rfl|rfl
  ·exact qY ai hi hw hv ar h
  ·exact qY ai hj hw2 ax aC h2)
theorem vO{fuel:Nat}{aZ:Array Bool}(i:Nat)(hr:Abf md ops aZ=[i])(hi:ops[i]?=some o)(hw:Aaa o (Aaz ops a.tmps)=true)(h:∀K:Act->af->Prop,(∀a w,Acx F n P md ops Q fuel (aZ.setIfInBounds i true) a w->K a w)->o.wpIn F n P a w K Q):Acx F n P md ops Q (fuel+1) aZ a w:=wpAnyIn_all hr aq (λk hk=>by
  simp at hk;subst hk;exact wpOpIn_step hi (λK hK=>aP))
end
section
variable {F:Fence} {n:Nat} {P:bu} {ops:Array Abi} {md:Ab1} {Q:Exit->Act->af->Prop} {fuel:Nat} {aZ:Array Bool} {a:Act} {w:af} {o o2:Abi} {ty:Aab} {x:bR} {ad:Addr} {v:ah}
theorem B9(i:Nat)(v:ah)(ai:F.round=none)(hi:ops[i]?=some o)(h:wpAnyIn F n P md ops Q fuel (aZ.setIfInBounds i true) (a.put o.dst v) w)(hy:YieldsFenced P ops o v a:=by exact⟨.inl ⟨rfl,λ_=>by go_simp⟩,λ_=>rfl⟩)(hs:Region.noSelect ops=true:=by kernel_rfl)(hf:Region.free md ops aZ i=true:=by kernel_rfl)(hr:(Region.ready md ops aZ).contains i=true:=by kernel_rfl)(hQ:∀c a w,Q (.panic c) (a.put o.dst v) w->Q (.panic c) a w:=by exact λ_ _ _ h=>h):wpAnyIn F n P md ops Q (fuel+1) aZ a w:=kr ai hi hs hf hr hQ hy h
theorem Qx(hc:w.cell? ad=some v)(ho:o.op=.load ty x:=by rfl)(hx:a.eval x=.pointer (some ad):=by rfl)(hagg:∀w:af,(isAgg ty).run P w=.ok false w:=by intro _;kernel_rfl):(execOp a.eval o).run P w=.ok (.value v) w:=by grind [im]
theorem ZS(i:Nat)(v:ah)(ai:F.round=none)(hi:ops[i]?=some o)(hv:(execOp a.eval o).run P w=.ok (.value v) w)(h:wpAnyIn F n P md ops Q fuel (aZ.setIfInBounds i true) (a.put o.dst v) w)(hr:Region.ready md ops aZ=[i]:=by kernel_rfl)(hw:Region.wanted o (yielded ops a.tmps)=true:=by rfl)(ar:o.about P w a.eval=none:=by rfl):wpAnyIn F n P md ops Q (fuel+1) aZ a w:=JE i v hr ai hi hw hv ar h
theorem in2(i:Nat)(v:ah)(j:Nat)(v2:ah)(ai:F.round=none)(hi:ops[i]?=some o)(hj:ops[j]?=some o2)(hv:(execOp a.eval o).run P w=.ok (.value v) w)(ax:(execOp a.eval o2).run P w=.ok (.value v2) w)(h:wpAnyIn F n P md ops Q fuel (aZ.setIfInBounds i true) (a.put o.dst v) w)(h2:wpAnyIn F n P md ops Q fuel (aZ.setIfInBounds j true) (a.put o2.dst v2) w)(hr:Region.ready md ops aZ=[i,j]:=by kernel_rfl)(hw:Region.wanted o (yielded ops a.tmps)=true:=by rfl)(hw2:Region.wanted o2 (yielded ops a.tmps)=true:=by rfl)(ar:o.about P w a.eval=none:=by rfl)(aC:o2.about P w a.eval=none:=by rfl):wpAnyIn F n P md ops Q (fuel+1) aZ a w:=JF i v j v2 hr ai hi hw hv ar hj hw2 ax aC h h2
end
theorem p8(w:af)(a:Option Addr)(n cap id:Nat):Aaf Aag 244 #[.slice a n cap,u6 (id:Int)] w λe w'=> e=.returned (.func (.func 274) #[] #[pz w.heap.size,pz (w.heap.size+1)])/\w'=(w.alloc (.cells #[.slice a n cap] 71)).alloc (.cells #[u6 (id:Int)] 70):=by go_in;exact e4
def iZ(l:List ab)(id k:Nat):List Nat:=(Aal k).filter (λi=>decide ((recAt l i).prev=id))
def fY(l:List ab)(id:Nat):List Nat:=iZ l id (κ l)
theorem Ax{id k:Nat}(h:(recAt l k).prev=id):iZ l id (k+1)=iZ l id k++[k]:=by unfold iZ;rw[Ab0,kh,List.filter_cons_of_pos ao,List.filter_nil]
theorem Dr{id k:Nat}(h:(recAt l k).prev≠id):iZ l id (k+1)=iZ l id k:=by unfold iZ;rw[Ab0,kh,List.filter_cons_of_neg ao,List.filter_nil,Ab4]
theorem r6{l:List ab}{id k:Nat}:∀j,iZ l id k <+:iZ l id (k+j)
 | 0=>List.prefix_refl _
 | j+1=>(r6 j).trans (by
  by_cases h:(recAt l (k+j)).prev=id
  ·rw[<-yE,Ax h];exact List.prefix_append _ _
  ·rw[<-yE,Dr h];exact List.prefix_refl _)
theorem Qe{id k:Nat}(h:k<=κ l):iZ l id k <+:fY l id:=by have:=r6 (l:=l) (id:=id) (k:=k) (κ l-k);rwa [show k+(κ l-k)=κ l from ae]at this
def p6(n₀ B1 B2:Nat)(b:Nat)(_:Aab):Prop:=b<n₀\/b=B1\/b=B2
theorem Tt(n:Nat)(hn:1<=n)(lp B1 B2 n₀:Nat)(v:ah)(l:List ab)(id:Nat)(J Jx:List Nat->af->Prop)(W:af)(hJ:AbidesFrom W.heap.size J)(hY:∀(pre:List Nat)(x:Nat)(W1:af),J pre W1->pre++[x] <+:fY l id->YieldAt Abw (n-1) Aag lp #[i6 (x:Int)] W1 λe W'=>
  (e=.returned (.bool true)/\J (pre++[x]) W'/\c' (p6 n₀ B1 B2) W1 W')\/(e=.returned (.bool false)/\Jx (pre++[x]) W'))
 (av:W.cell? (ad B1 0)=some v) (au:W.cell? (ad B2 0)=some (u6 (id:Int))) (hv:cy W v l) (h0:J [] W) (ay:∀a m c,v=.slice (some a) m c->a.block<n₀):
 CallsIn Abw n Aag 274 #[.func (.yield lp) #[] #[],pz B1,pz B2] W λe W'=>(∃v,e=.returned v)/\
  ((∃ys,ys=fY l id/\J ys W')\/(∃pre,pre <+:fY l id/\Jx pre W')):=by
 have hlen:=hv.length_le;obtain⟨a,cap,rfl⟩:=hv.slice;obtain⟨HV,aO,aB,aE,HY,HAL⟩:=iC hv av au ay hY (show ∀s A B,J s A->Up A B->J s B from λs A B hs hu=>hJ s A B none hs (l2 hu) (λr e=>by cases e));clear ay hY;refine uA func274 rfl trivial ?_ rfl;simp only[ntmps274,Abj,Aaj,Aa5,Nat.reduceAdd,Nat.reduceSub,Aa9,Aba,Abk,Abc,Aa0,Aa2];gi_wp2;clear av au;gi_loopw [7] (λi wr=>∃k:Nat,k<=κ l/\i=i6 k/\J (iZ l id k) wr/\c' (p6 n₀ B1 B2) W wr) (λi _=>κ l-(Aaq i).toNat)
 case atStart=>exact⟨0,bG _,rfl,h0,c'.refl _⟩
 case round=>
  obtain⟨k,hk,rfl,aA,aj⟩:=hrel;obtain⟨x1,x2⟩:=az (aj.cell (a:=⟨B1,0,none⟩) (λt=>.inr (.inl rfl)) aO) (aj.cell (a:=⟨B2,0,none⟩) (λt=>.inr (.inr rfl)) aB);by_cases hlt:k<κ l
  ·obtain⟨b,off,rfl,hbs,da,dc,rg,_⟩:=bZ HV hlt;have aK:b<n₀:=aE _ _ _ rfl;have x4:=aj.cell (a:=⟨b,off+k*11+4,none⟩) (λt=>.inl aK) (cd rg).2.2.2.2.1;refine ir ?_;intro b2;obtain⟨aD,ae⟩:=aw aA aj;by_cases hp:(recAt l k).prev=id
   ·have HP:=an (Ax hp);have ao:=an (show iZ l id k++[k] <+:fY l id by rw[<-HP.out];exact Qe hlt);rw[hp]at x4;clear hp;have b3:((id:Int)==(id:Int))=true:=by simp
    gi_wp2;refine yX al ?_;change Acx _ _ _ _ _ _ 13 _ _ (wr.drew);have UD:=Up.drew (Up.refl wr);replace x1:=UD.cell x1;replace x2:=UD.cell x2;replace x4:=UD.cell x4;obtain⟨fn,tmps,assign,body,hy,hR⟩:=HY _ k wr.drew (HAL _ _ _ aD UD) ao;obtain⟨HR,KD⟩:=aw hR (ae.trans (ji UD));generalize wr.drew=w5 at *;have FIN:=trivial;refine B9 1 (i6 (k:Int)) rfl rfl ?_;refine bx ?_;refine in2 0 (sq b off (κ l) cap) 5 (u6 (id:Int)) rfl rfl rfl (Qx x1) (Qx x2) ?_ ?_
    ·refine M5 ?_;refine in2 4 (u6 (id:Int)) 5 (u6 (id:Int)) rfl rfl rfl (Qx x4) (Qx x2) ?_ ?_
     ·refine bx ?_;refine ZS 5 (u6 (id:Int)) rfl rfl (Qx x2) ?_;refine bx ?_;refine B9 6 (.bool true) rfl rfl ?_;refine bx ?_;refine B9 7 (.bool true) rfl rfl ?_;refine bx ?_;refine B9 8 (.func (.yield lp) #[] #[]) rfl rfl ?_;refine bx ?_;refine B9 9 (i6 (k:Int)) rfl rfl ?_;refine bx ?_;refine vO 10 al rfl rfl ?_;intro K hK;go_simp;refine HR.mono ?_;rintro e W3(⟨rfl,hJ3,ak⟩|⟨rfl,aa⟩)
      ·refine K2 ?_;clear hK K;gi_wp2;exact⟨⟨k+1,hlt,aq,FK,KD.trans ak⟩,sV⟩
      ·exact KY
     ·refine Us ?_;intro K hK;go_simp;refine HR.mono ?_;rintro e W3(⟨rfl,hJ3,ak⟩|⟨rfl,aa⟩)
      ·refine K2 ?_;clear hK K;gi_wp2;exact⟨⟨k+1,hlt,aq,FK,KD.trans ak⟩,sV⟩
      ·exact KY
    ·refine U9 ?_;refine Us ?_;intro K hK;go_simp;refine HR.mono ?_;rintro e W3(⟨rfl,hJ3,ak⟩|⟨rfl,aa⟩)
     ·refine K2 ?_;clear hK K;gi_wp2;exact⟨⟨k+1,hlt,aq,FK,KD.trans ak⟩,sV⟩
     ·exact KY
   ·have HP:=an (Dr hp);have b3:((((recAt l k).prev:Nat):Int)==(id:Int))=false:=by simp;omega
    obtain⟨pv,ag⟩:=bE ((recAt l k).prev);rw[<-ag]at x4 b3;clear hp ag;gi_wp2;refine yX al ?_;change Acx _ _ _ _ _ _ 13 _ _ (wr.drew);have UD:=Up.drew (Up.refl wr);replace x1:=UD.cell x1;replace x2:=UD.cell x2;replace x4:=UD.cell x4;obtain⟨JD,KD⟩:=aw (HAL _ _ _ aD UD) (ae.trans (ji UD));generalize wr.drew=w5 at *;have FIN:=trivial;refine B9 1 (i6 (k:Int)) rfl rfl ?_;refine bx ?_;refine in2 0 (sq b off (κ l) cap) 5 (u6 (id:Int)) rfl rfl rfl (Qx x1) (Qx x2) ?_ ?_
    ·refine M5 ?_;refine in2 4 (u6 (pv:Int)) 5 (u6 (id:Int)) rfl rfl rfl (Qx x4) (Qx x2) ?_ ?_
     ·refine bx ?_;refine ZS 5 (u6 (id:Int)) rfl rfl (Qx x2) ?_;refine bx ?_;refine B9 6 (.bool false) rfl rfl ?_;refine bx ?_;refine B9 7 (.bool false) rfl rfl ?_;refine bx ?_;refine kr (i:=8) (v:=Aat) rfl rfl al al al (λ_ _ _ h=>h) (⟨.inr ⟨rfl,rfl⟩,λ_=>rfl⟩) ?_;refine bx ?_;refine kr (i:=9) (v:=Aat) rfl rfl al al al (λ_ _ _ h=>h) (⟨.inr ⟨rfl,rfl⟩,λ_=>rfl⟩) ?_;refine bx ?_;refine kr (i:=10) (v:=Aat) rfl rfl al al al (λ_ _ _ h=>h) (⟨.inr ⟨rfl,rfl⟩,λ_=>rfl⟩) ?_;refine bx ?_;refine kr (i:=11) (v:=Aat) rfl rfl al al al (λ_ _ _ h=>h) (⟨.inr ⟨rfl,rfl⟩,λ_=>rfl⟩) ?_;refine F7 ?_;gi_wp2;exact⟨⟨k+1,hlt,aq,FO,KD⟩,sV⟩
     ·refine U1 ?_;refine kr (i:=8) (v:=Aat) rfl rfl al al al (λ_ _ _ h=>h) (⟨.inr ⟨rfl,rfl⟩,λ_=>rfl⟩) ?_;refine bx ?_;refine kr (i:=9) (v:=Aat) rfl rfl al al al (λ_ _ _ h=>h) (⟨.inr ⟨rfl,rfl⟩,λ_=>rfl⟩) ?_;refine bx ?_;refine kr (i:=10) (v:=Aat) rfl rfl al al al (λ_ _ _ h=>h) (⟨.inr ⟨rfl,rfl⟩,λ_=>rfl⟩) ?_;refine bx ?_;refine kr (i:=11) (v:=Aat) rfl rfl al al al (λ_ _ _ h=>h) (⟨.inr ⟨rfl,rfl⟩,λ_=>rfl⟩) ?_;refine F7 ?_;gi_wp2;exact⟨⟨k+1,hlt,aq,FO,KD⟩,sV⟩
    ·refine U9 ?_;refine U1 ?_;refine kr (i:=8) (v:=Aat) rfl rfl al al al (λ_ _ _ h=>h) (⟨.inr ⟨rfl,rfl⟩,λ_=>rfl⟩) ?_;refine bx ?_;refine kr (i:=9) (v:=Aat) rfl rfl al al al (λ_ _ _ h=>h) (⟨.inr ⟨rfl,rfl⟩,λ_=>rfl⟩) ?_;refine bx ?_;refine kr (i:=10) (v:=Aat) rfl rfl al al al (λ_ _ _ h=>h) (⟨.inr ⟨rfl,rfl⟩,λ_=>rfl⟩) ?_;refine bx ?_;refine kr (i:=11) (v:=Aat) rfl rfl al al al (λ_ _ _ h=>h) (⟨.inr ⟨rfl,rfl⟩,λ_=>rfl⟩) ?_;refine F7 ?_;gi_wp2;exact⟨⟨k+1,hlt,aq,FO,KD⟩,sV⟩
  ·obtain rfl:k=κ l:=by omega
   refine va ?_;intro b2;gi_wp2;go_end0;exact⟨⟨_,rfl⟩,.inl ⟨_,rfl,aA⟩⟩
end
section
open Go.Shelf
attribute [local go_sem] km
def iO(l:List ab)(id:Nat):Nat:=match aK l id with
 | none=>0
 | some i=>if(recAt l i).aT=true then(match(fY l id).find? (λj=>decide ((recAt l j).owner=(recAt l i).owner))with
  | none=>0
  | some j=>(recAt l j).id)else 0
section
variable {l:List ab} {id i j:Nat}
theorem X4(h:aK l id=none):iO l id=0:=by grind [iO]
theorem X5(h:aK l id=some i)(hs:(recAt l i).aT=false):iO l id=0:=by grind [iO]
theorem X6(h:aK l id=some i)(hs:(recAt l i).aT=true)(hf:(fY l id).find? (λj=>decide ((recAt l j).owner=(recAt l i).owner))=none):iO l id=0:=by grind [iO]
theorem OL(h:aK l id=some i)(hs:(recAt l i).aT=true)(hf:(fY l id).find? (λj=>decide ((recAt l j).owner=(recAt l i).owner))=some j):iO l id=(recAt l j).id:=by grind [iO]
end
abbrev Pos(l:List ab):={x:Nat // x<κ l}
def Tu{id x:Nat}(h:x∈fY l id):x<κ l:=yV.1 (wy.1 h).1
theorem p7(n:Nat)(hn:1<=n)(B1 B2 n₀:Nat)(v:ah)(l:List ab)(id:Nat)(w:af)(hb1:B1<w.heap.size)(hb2:B2<w.heap.size)(hc:w.cell? (ad B1 0)=some v)(al:w.cell? (ad B2 0)=some (u6 (id:Int)))(hv:cy w v l)(ay:∀a m c,v=.slice (some a) m c->a.block<n₀):SeqStopsK Abw n Aag 274 #[pz B1,pz B2] (λx:Pos l=>#[i6 (x.1:Int)]) (c' (p6 n₀ B1 B2)) (λys=>ys.map (·.1)=fY l id) (λpre=>pre.map (·.1) <+:fY l id) (κ (fY l id)) w:=λl' J Jx W hW hJ _ hY h0=>by
 refine(Tt n hn l' B1 B2 n₀ v l id (λpre W=>∃ps:List (Pos l),ps.map (·.1)=pre/\J ps W) (λpre W=>∃ps:List (Pos l),ps.map (·.1)=pre/\Jx ps W) W (λs A B row hs hg hr=>FU) ?_ ((hW.cell (p:=⟨B1,0,none⟩) hb1).trans hc) ((hW.cell (p:=⟨B2,0,none⟩) hb2).trans al) (hv.up hW) ⟨[],rfl,h0⟩ ay).mono ?_
 ·rintro pre x W1⟨ps,rfl,h⟩hp;refine(hY ps ⟨x,(Tu (hp.subset aq))⟩ W1 h aP).mono ?_;exact NR
 ·exact zm
theorem P2{p:Nat->Bool}(h:∀y∈xs,p y=false):xs.find? p=none:=ao
theorem P3{xs pre:List Nat}{p:Nat->Bool}{x:Nat}(h:∀y∈pre,p y=false)(hx:p x=true)(hp:pre++[x] <+:xs):xs.find? p=some x:=aP
theorem Vz(w:af)(v:ah)(l:List ab)(hv:cy w v l)(id:Nat):Aaf Aag 206 #[v,u6 (id:Int)] w λe w'=>e=.returned (u6 (iO l id:Int))/\Up w w':=by
 obtain⟨a,cap,rfl⟩:=hv.slice;obtain⟨HV,U1,U2⟩:=aW hv (ai w (.cells #[.slice a (κ l) cap] 71)) (ai (w.alloc (.cells #[.slice a (κ l) cap] 71)) (.cells #[u6 0] 70));have PL:=an (jo ((w.alloc (.cells #[.slice a (κ l) cap] 71)).alloc (.cells #[u6 0] 70)) _ l ((hv.up U1).up U2) id);cases h1:aK l id with
 | none=>have HE:=an (X4 h1);rw[h1]at PL;unfold eJ at PL;clear h1;refine rq ?_;intro h1;refine oK func206 rfl trivial ?_ rfl;simp only[ntmps206,Abj,Aaj,Aa5,Nat.reduceAdd,Nat.reduceSub,Aa9,Aba,Abk,Abc,Aa0,Aa2];gi_wp2_with(refine⟨trivial,?_⟩;gi_at_call 83;refine(fG.2 (PL)).mono ?_;rintro e w2 ⟨rfl,hw2⟩;rw[hw2];clear hw2);refine⟨u6 0,?_,ll,(U1.trans U2).trans (ai _ _)⟩;have hc:=bF (.cells #[i6 (-1)] 3) (dj (w.alloc (.cells #[.slice a (κ l) cap] 71)) (u6 0) 70).1;simp only[Aa4]at hc;simp[results,Tryz.f206,go_sem,hc]
 | some i=>
  have H1:=an h1;rw[h1]at PL;unfold eJ at PL;obtain⟨hi,_⟩:=cP h1;obtain⟨b,off,rfl,hbs,da,dc,rg,_⟩:=bZ HV hi;refine oR ?_;intro b1 b2;obtain⟨RG,UU⟩:=aw rg ((U1.trans U2).trans (ai ((w.alloc (.cells #[sq b off (κ l) cap] 71)).alloc (.cells #[u6 0] 70)) (.cells #[i6 (i:Int)] 3)));obtain⟨c2,c3⟩:=az (UU.cell (cd rg).2.2.1) (UU.cell (cd rg).2.2.2.1);clear h1;cases hs:(recAt l i).aT with
  | false=>have HE:=an (X5 H1 hs);rw[hs]at c2;refine M6 ?_;clear hs;intro h1;gi_wp2_with(refine⟨trivial,?_⟩;gi_at_call 83;refine(fG.2 (PL)).mono ?_;rintro e w2 ⟨rfl,hw2⟩;rw[hw2];clear hw2);refine⟨u6 0,?_,ll,UU⟩;have hc:=bF (.cells #[i6 (i:Int)] 3) (dj (w.alloc (.cells #[sq b off (κ l) cap] 71)) (u6 0) 70).1;simp only[Aa4]at hc;simp[results,Tryz.f206,go_sem,hc]
  | true=>
   rw[hs]at c2;have HS:=an hs;refine M6 ?_;clear hs;intro h1;gi_wp2_with(first
    | (refine⟨trivial,?_⟩;gi_at_call 83;refine(fG.2 (PL)).mono ?_;rintro e w2 ⟨rfl,hw2⟩;rw[hw2];clear hw2)
    | (refine⟨trivial,?_⟩;gi_at_call 244;refine(fG.2 (p8 _ _ _ _ _)).mono ?_;rintro e w' ⟨rfl,rfl⟩))
   obtain⟨c1,d0,d2,d3,d4⟩:=Cd (dj (w.alloc (.cells #[sq b off (κ l) cap] 71)) (u6 0) 70) (dj w (sq b off (κ l) cap) 71) (dj ((w.alloc (.cells #[sq b off (κ l) cap] 71)).alloc (.cells #[u6 0] 70)) (i6 (i:Int)) 3) (dj (((w.alloc (.cells #[sq b off (κ l) cap] 71)).alloc (.cells #[u6 0] 70)).alloc (.cells #[i6 (i:Int)] 3)) (sq b off (κ l) cap) 71) (dj ((((w.alloc (.cells #[sq b off (κ l) cap] 71)).alloc (.cells #[u6 0] 70)).alloc (.cells #[i6 (i:Int)] 3)).alloc (.cells #[sq b off (κ l) cap] 71)) (u6 (id:Int)) 70);simp only[Aa4]at c1 d2 d3 d4;have ay:Below w.heap.size w (((((w.alloc (.cells #[sq b off (κ l) cap] 71)).alloc (.cells #[u6 0] 70)).alloc (.cells #[i6 (i:Int)] 3)).alloc (.cells #[sq b off (κ l) cap] 71)).alloc (.cells #[u6 (id:Int)] 70)):=(((((e7 _ w).alloc (aE _) _).alloc aq _).alloc ao _).alloc ao _).alloc ao _;obtain⟨ow,how⟩:=bE ((recAt l i).owner);refine Np ?_;intro ak HBS CO CX;clear how c2 c3;refine wB (F:=Abw) rfl h1 (gf:=274) (lb:=#[pz (w.heap.size+1+1+1),pz (w.heap.size+1+1+1+1)]) rfl trivial (enters_of func274 al rfl) (p7 5 ae (w.heap.size+1+1+1) (w.heap.size+1+1+1+1) w.heap.size _ l id _ aq aq (bF _ d3.1) d4.1 (HV.up ay) (λa' m c h=>by cases h;exact HBS)) c'.trans jB (e7 _ _) (λ_=>rfl) (λpre W=>((∀y∈pre,(recAt l y.1).owner≠ow)/\W.cell? (ad w.heap.size 0)=some (sq b off (κ l) cap)/\W.cell? (ad (w.heap.size+1) 0)=some (u6 0)/\W.frozen? ⟨w.heap.size+1,0,none⟩=false/\W.cell? (ad (w.heap.size+1+1) 0)=some (i6 (i:Int)))/\Below w.heap.size w W) (λc pre W=>(c=.ret/\(∃(pr:List (Pos l))(x:Pos l),pre=pr++[x]/\(∀y∈pr,(recAt l y.1).owner≠ow)/\(recAt l x.1).owner=ow/\W.cell? (ad (w.heap.size+1) 0)=some (u6 ((recAt l x.1).id:Int))))/\Below w.heap.size w W) (nL (Own.from (λs A B row hs hg hr=>⟨hs.1,lg hs.2.1 hg hr,lg hs.2.2.1 hg hr,(frozen_kept hs.2.2.1 hg hr).trans hs.2.2.2.1,lg hs.2.2.2.2 hg hr⟩) _) (oL (aE _) ao)) (λc=>nL (Own.from (λs A B row hs hg hr=>⟨hs.1,TW⟩) _) (oL (aE _) ao)) ⟨⟨aq,bF _ (bF _ (bF _ (bF _ d0.1))),bF _ (bF _ (bF _ c1.1)),(jx _ (bF _ (bF _ c1.1)) (jx _ (bF _ c1.1) (jx _ c1.1 c1.2))),bF _ (bF _ d2.1)⟩,ay⟩ (λx=>{tmps:=#[sq b off (κ l) cap,u6 (id:Int),pz w.heap.size,Aat,pz (w.heap.size+1),pz (w.heap.size+1+1),i6 (x.1:Int),sq b off (κ l) cap,u6 (id:Int),i6 (i:Int),i6 (i:Int),.bool false,.bool false,sq b off (κ l) cap,i6 (i:Int),pq b (off+i*11),pq b (off+i*11+2),.bool true,.bool false,.bool false,sq b off (κ l) cap,u6 (id:Int),.func (.func 274) #[] #[pz (w.heap.size+1+1+1),pz (w.heap.size+1+1+1+1)],i6 (x.1:Int),Aat,Aat,Aat,Aat,Aat,Aat,Aat,Aat,Aat,Aat,Aat,Aat,Aat,Aat,Aat,Aat],defers:=[]}) ?assign ?body ?done ?stop
   case assign=>exact lE
   case body=>
    rintro l' pre⟨x,hx⟩W⟨⟨hp,e0,e1,f1,e2⟩,hB⟩_;simp only;have HP:=an hp;refine UQ ?_;intro HB x3 x0 x4 b3;clear hp;gi_wp2;refine gR (S:=λW'=>W'.cell? (ad w.heap.size 0)=some (sq b off (κ l) cap)/\W'.cell? (ad (w.heap.size+1+1) 0)=some (i6 (i:Int))/\W'.cell? (ad b (off+x*11+3))=some (u6 ((recAt l x).owner:Int))/\W'.cell? (ad b (off+i*11+3))=some (u6 (ow:Int))) al al (λ⟨_,_,h⟩=>h) ?_;change Acp _ _ _ _ _ 11 _ _ (W.drew);have UD:=Up.drew (Up.refl W);have F5:=an (show W.drew.cell? (ad w.heap.size 0)=some (sq b off (κ l) cap)/\W.drew.cell? (ad (w.heap.size+1+1) 0)=some (i6 (i:Int))/\W.drew.cell? (ad b (off+x*11+3))=some (u6 ((recAt l x).owner:Int))/\W.drew.cell? (ad b (off+i*11+3))=some (u6 (ow:Int))from⟨UD.cell e0,UD.cell e2,UD.cell x3,UD.cell x4⟩);have g1:=UD.cell e1;have gf:W.drew.frozen? ⟨w.heap.size+1,0,none⟩=false:=f1;have y0:=UD.cell x0;obtain⟨KO,BD⟩:=aw (yZ W) (show Below w.heap.size w W.drew from HB.trans (Below.drew (e7 _ _)));have au:=F5.1;clear e1 f1 x0 e0 e2 x3 x4;generalize W.drew=w5 at *;refine tb 0 rfl (yc (λW hS=>hS.1)) ?_;refine ta 1 ?_;refine ni ?_;refine tb 4 rfl (yc (λW hS=>hS.2.2.1)) ?_;refine tb 5 rfl (yc (λW hS=>hS.1)) ?_;refine tb 6 rfl (yc (λW hS=>hS.2.1)) ?_;refine ta 7 ?_;refine ta 8 ?_;refine tb 9 rfl (yc (λW hS=>hS.2.2.2)) ?_;by_cases ag:(recAt l x).owner=ow
    ·have b9:((((recAt l x).owner:Nat):Int)==(ow:Int))=true:=by simp[ag]
     refine zn ?_;have HX:=an ag;clear ag b9;gi_wp2;exact⟨KO.trans (qk _ _ _),⟨rfl,pre,⟨x,hx⟩,rfl,HP,HX,yS _ _ _ (by rw[g1];rfl)⟩,BD.setCell (p:=⟨w.heap.size+1,0,none⟩) aq _⟩
    ·have b9:((((recAt l x).owner:Nat):Int)==(ow:Int))=false:=by simp;omega
     refine zn ?_;have HX:=an ag;clear ag b9;gi_wp2;exact⟨KO,(ji (p:=p6 w.heap.size (w.heap.size+1+1+1) (w.heap.size+1+1+1+1)) UD),⟨λy hy=>(Aa3.1 hy).elim (HP y) (λe=>by simp at e;subst e;exact HX),F5.1,g1,gf,F5.2.1⟩,BD⟩
   case done=>
    rintro D ys W hD aF⟨⟨hne,_,hcr,aS,_⟩,hB⟩hK;have HE:=an (X6 H1 HS (P2 (λy hy=>by rw[<-aF]at hy;obtain⟨z,hz,rfl⟩:=Abb.1 hy;have:=hne z hz;rw[ak.out]at this;simp[this])))
    clear hne aF;gi_wp2;have hK':=(qk W ⟨w.heap.size+1,0,none⟩ (u6 0)).same D _ hK rfl;refine⟨aq,.inl ⟨_,_,rfl,Fl hK',?_⟩⟩;have aa:=lg (yS W ⟨w.heap.size+1,0,none⟩ (u6 0) (by rw[hcr];rfl)) (yT _ D (.deferred none)) (λr e=>by cases e;exact⟨_,hK',rfl⟩);refine⟨u6 0,?_,ll,(hB.setCell (p:=⟨w.heap.size+1,0,none⟩) aq _).trans (oM (w:=w) (aE _) _ D _ _ qn hK' rfl rfl)⟩;simp[results,Tryz.f206,go_sem,aa]
   case stop=>
    rintro D c pre W hD aj⟨⟨rfl,pr,x,rfl,av,hx,hcr⟩,hB⟩hK;have HE:=an (OL H1 HS (P3 (pre:=pr.map (·.1)) (x:=x.1) (λy hy=>by obtain⟨z,hz,rfl⟩:=Abb.1 hy;have:=av z hz;rw[ak.out]at this;simp[this]) (by rw[<-ak.out];simp[hx]) (by rw[Aao]at aj;exact aj)))
    clear av;gi_wp2;refine Oc ?_;intro aa;refine⟨u6 ((recAt l x.1).id:Int),?_,by rw[HE.out],hB.trans (oM (w:=w) (aE _) W D _ _ qn hK rfl rfl)⟩;simp[results,Tryz.f206,go_sem,aa]
end
section
open Go.Shelf
attribute [local go_sem] km
section
variable {P:bu} {ops:Array Abi} {Q:Exit->Act->af->Prop} {md:Ab1} {o o2:Abi} {a:Act} {w:af}
theorem Ho{K:Act->af->Prop}{v:ah}{w':af}(hv:(Abt a.eval o).run P w=.ok (.value v) w')(h:K (a.put o.dst v) w'):o.wp P a w K Q:=by unfold Ace;rw[hv];exact h
theorem qH(t:Aab)(x:bR)(ho:o.op=.buildSlice t 1 #[(0,x)])(X:ah)(hx:a.eval x=X){v:ah}{w':af}(hr:(Acf t 1 #[(0,X)]).run P w=.ok v w'):(Abt a.eval o).run P w=.ok (.value v) w':=by unfold Abt;simp_all
def vP{fuel:Nat}{aZ:Array Bool}(i:Nat)(v:ah)(w':af)(hr:Abf md ops aZ=[i])(hi:ops[i]?=some o)(hw:Aaa o (Aaz ops a.tmps)=true)(hv:(Abt a.eval o).run P w=.ok (.value v) w')(h:wpAny P md ops Q fuel (aZ.setIfInBounds i true) (a.put o.dst v) w'):wpAny P md ops Q (fuel+1) aZ a w:=iy i o hr hi hw (Ho hv h)
theorem Hn{fuel:Nat}{aZ:Array Bool}(i:Nat)(v:ah)(w1:af)(j:Nat)(v2:ah)(w2:af)(hr:Abf md ops aZ=[i,j])(hi:ops[i]?=some o)(hw:Aaa o (Aaz ops a.tmps)=true)(hv:(Abt a.eval o).run P w=.ok (.value v) w1)(hj:ops[j]?=some o2)(hw2:Aaa o2 (Aaz ops a.tmps)=true)(ax:(Abt a.eval o2).run P w=.ok (.value v2) w2)(h:wpAny P md ops Q fuel (aZ.setIfInBounds i true) (a.put o.dst v) w1)(h2:wpAny P md ops Q fuel (aZ.setIfInBounds j true) (a.put o2.dst v2) w2):wpAny P md ops Q (fuel+1) aZ a w:=A2 hr aq (λk hk=>by
  simp at hk;rcases hk with rfl|rfl
  ·exact om hi hw (Ho hv h)
  ·exact om hj hw2 (Ho ax h2))
end
theorem Ms{Q:Exit->Act->af->Prop}{md:Ab1}{os:List Abi}{fuel:Nat}{aZ:Array Bool}(n:Nat)(hl:κ os=n+fuel)(hB:Region.seqB md os.toArray fuel n aZ=true)(h:Aam P os.toArray Q (os.drop n) a w):wpAny P md os.toArray Q fuel aZ a w:=by
 have hd:κ (os.drop n)=fuel:=ao
 have:=wpAny_of_seq (md:=md) (Q':=Q) (os.drop n) n aZ a w (λj=>aq) aP h;grind
theorem qE(w:af)(n:Int):(Acf 156 1 #[(0,u6 n)]).run Aag w=.ok (cC w.heap.size 1 1) (w.alloc (.cells #[u6 n] 70)):=al
def gA(pre:List (Pos l)):List Nat:=pre.map (·.1)
theorem rK(pre:List (Pos l))(x:Nat)(hx:x<κ l):gA (pre++[⟨x,hx⟩])=gA pre++[x]:=by simp[gA]
theorem xK(pre:List (Pos l)):κ (gA pre)=κ pre:=by simp[gA]
theorem iP{v:ah}{xs:List ah}(h:w.ownsRow base e k v n xs)(hb:v.ownBlock=some b):mN w b/\base<=b:=by
 obtain⟨_,h2⟩:=h;rcases h2 with⟨h3,_⟩|⟨g,cap,cur,h3,hg,h5,_⟩
 ·rw[h3]at hb;cases hb
 ·rw[h3]at hb;simp only[Aan,Aai]at hb;subst hb;exact⟨⟨_,_,_,h5⟩,hg⟩
def ep(l:List ab)(ow:Nat)(xs:List Nat):List Nat:=(xs.filter (λj=>decide ((recAt l j).owner≠ow))).map (λj=>(recAt l j).id)
theorem Lw{l:List ab}{ow x:Nat}{xs:List Nat}(h:(recAt l x).owner≠ow):ep l ow (xs++[x])=ep l ow xs++[(recAt l x).id]:=by grind [ep]
theorem QU{l:List ab}{ow x:Nat}{xs:List Nat}(h:(recAt l x).owner=ow):ep l ow (xs++[x])=ep l ow xs:=by grind [ep]
theorem Lv{l:List ab}{ow:Nat}{xs:List Nat}:κ (ep l ow xs)<=κ xs:=by grind [ep]
theorem Dq(l:List ab)(id:Nat):κ (fY l id)<=κ l:=by grind [fY,iZ]
def eK(l:List ab)(id:Nat):List Nat:=match aK l id with
 | none=>[]
 | some i=>if(recAt l i).aT=true then ep l (recAt l i).owner (fY l id)else []
section
variable {l:List ab} {id i:Nat}
theorem PE(h:aK l id=none):eK l id=[]:=by grind [eK]
theorem PH(h:aK l id=some i)(hs:(recAt l i).aT=false):eK l id=[]:=by grind [eK]
theorem Dc(h:aK l id=some i)(hs:(recAt l i).aT=true):eK l id=ep l (recAt l i).owner (fY l id):=by grind [eK]
end
theorem J6(w:af)(v:ah)(l:List ab)(hv:cy w v l)(hl:κ l<=100000)(id:Nat):Aaf Aag 205 #[v,u6 (id:Int)] w λe w'=>∃u,e=.returned u/\Own cu 70 w' w.heap.size u (eK l id)/\Up w w':=by
 obtain⟨a,cap,rfl⟩:=hv.slice;obtain⟨HV,U1⟩:=aw hv (ai w (.cells #[.slice a (κ l) cap] 71));have PL:=an (jo (w.alloc (.cells #[.slice a (κ l) cap] 71)) _ l (hv.up U1) id);cases h1:aK l id with
 | none=>have HE:=an (PE h1);rw[h1]at PL;unfold eJ at PL;clear h1;refine rq ?_;intro h1;refine oK func205 rfl trivial ?_ rfl;simp only[ntmps205,Abj,Aaj,Aa5,Nat.reduceAdd,Nat.reduceSub,Aa9,Aba,Abk,Abc,Aa0,Aa2];gi_wp2_with(refine⟨trivial,?_⟩;gi_at_call 83;refine(fG.2 (PL)).mono ?_;rintro e w2 ⟨rfl,hw2⟩;rw[hw2];clear hw2);refine⟨_,sR rfl _ _ _,_,rfl,by rw[HE.out];exact Own.nil _ _ _ _,U1.trans (ai _ _)⟩
 | some i=>
  have H1:=an h1;rw[h1]at PL;unfold eJ at PL;obtain⟨hi,_⟩:=cP h1;obtain⟨b,off,rfl,hbs,da,dc,rg,_⟩:=bZ HV hi;refine oR ?_;intro b1 b2;obtain⟨RG,UU⟩:=aw rg (U1.trans (ai (w.alloc (.cells #[sq b off (κ l) cap] 71)) (.cells #[i6 (i:Int)] 3)));have c2:=UU.cell (cd rg).2.2.1;clear h1;cases hs:(recAt l i).aT with
  | false=>have HE:=an (PH H1 hs);rw[hs]at c2;refine M7 ?_;clear hs;intro h1;gi_wp2_with(refine⟨trivial,?_⟩;gi_at_call 83;refine(fG.2 (PL)).mono ?_;rintro e w2 ⟨rfl,hw2⟩;rw[hw2];clear hw2);refine⟨_,sR rfl _ _ _,_,rfl,by rw[HE.out];exact Own.nil _ _ _ _,UU⟩
  | true=>
   have HE:=an (Dc H1 hs);rw[hs]at c2;refine M7 ?_;clear hs;intro h1;gi_wp2_with(first
    | (refine⟨trivial,?_⟩;gi_at_call 83;refine(fG.2 (PL)).mono ?_;rintro e w2 ⟨rfl,hw2⟩;rw[hw2];clear hw2)
    | (refine⟨trivial,?_⟩;gi_at_call 244;refine(fG.2 (p8 _ _ _ _ _)).mono ?_;rintro e w' ⟨rfl,rfl⟩))
   obtain⟨bb,d0,d1,d3,d4⟩:=Cd (Boxed.new ((w.alloc (.cells #[sq b off (κ l) cap] 71)).alloc (.cells #[i6 (i:Int)] 3)) 156 (nl)) (dj w (sq b off (κ l) cap) 71) (dj (w.alloc (.cells #[sq b off (κ l) cap] 71)) (i6 (i:Int)) 3) (dj (((w.alloc (.cells #[sq b off (κ l) cap] 71)).alloc (.cells #[i6 (i:Int)] 3)).alloc (.cells #[nl] 156)) (sq b off (κ l) cap) 71) (dj ((((w.alloc (.cells #[sq b off (κ l) cap] 71)).alloc (.cells #[i6 (i:Int)] 3)).alloc (.cells #[nl] 156)).alloc (.cells #[sq b off (κ l) cap] 71)) (u6 (id:Int)) 70);simp only[Aa4]at bb d1 d3 d4;have ay:Below w.heap.size w (((((w.alloc (.cells #[sq b off (κ l) cap] 71)).alloc (.cells #[i6 (i:Int)] 3)).alloc (.cells #[nl] 156)).alloc (.cells #[sq b off (κ l) cap] 71)).alloc (.cells #[u6 (id:Int)] 70)):=(((((e7 _ w).alloc (aE _) _).alloc aq _).alloc ao _).alloc ao _).alloc ao _;obtain⟨ow,how⟩:=bE ((recAt l i).owner);rw[<-how]at HE;refine Np ?_;intro ak HBS CO CX;clear how c2;refine wB (F:=Abw) rfl h1 (gf:=274) (lb:=#[pz (w.heap.size+1+1+1),pz (w.heap.size+1+1+1+1)]) rfl trivial (enters_of func274 al rfl) (p7 5 ae (w.heap.size+1+1+1) (w.heap.size+1+1+1+1) w.heap.size _ l id _ aq aq (bF _ d3.1) d4.1 (HV.up ay) (λa' m c h=>by cases h;exact HBS)) c'.trans jB (e7 _ _) (λ_=>rfl) (λpre W=>((∃v,Boxed W (w.heap.size+1+1) 156 v/\W.ownsRow (w.heap.size+1+1+1+1+1) 70 1 v (κ (ep l ow (gA pre))) ((ep l ow (gA pre)).map cu)/\True)/\W.cell? (ad w.heap.size 0)=some (sq b off (κ l) cap)/\W.cell? (ad (w.heap.size+1) 0)=some (i6 (i:Int))/\w.heap.size+5<=W.heap.size)/\Below w.heap.size w W) (λ_ _ _=>False) (nL (Own.from (λs A B row hs hg hr=>⟨holdsRow_own (w.heap.size+1+1+1+1+1) (w.heap.size+1+1) 156 70 1 (λpre:List (Pos l)=>κ (ep l ow (gA pre))) (λpre=>(ep l ow (gA pre)).map cu) (λ_ _=>True) s A B row hs.1 hg hr,lg hs.2.1 hg hr,lg hs.2.2.1 hg hr,bO hs.2.2.2 hg.size⟩) _) (oL (aE _) ao)) (λ_ _ _ _ _ hs _ _=>hs) ⟨⟨⟨_,(bb.alloc _).alloc _,yy _ _ _ _,trivial⟩,bF _ (bF _ (bF _ (bF _ d0.1))),bF _ (bF _ (bF _ d1.1)),aq⟩,ay⟩ (λx=>{tmps:=#[sq b off (κ l) cap,u6 (id:Int),pz w.heap.size,Aat,nl,pz (w.heap.size+1),pz (w.heap.size+1+1),i6 (x.1:Int),sq b off (κ l) cap,u6 (id:Int),i6 (i:Int),i6 (i:Int),.bool false,.bool false,sq b off (κ l) cap,i6 (i:Int),pq b (off+i*11),pq b (off+i*11+2),.bool true,.bool false,.bool false,sq b off (κ l) cap,u6 (id:Int),.func (.func 274) #[] #[pz (w.heap.size+1+1+1),pz (w.heap.size+1+1+1+1)],i6 (x.1:Int),Aat,Aat,Aat,Aat,Aat,Aat,Aat,Aat,Aat,Aat,Aat,Aat,Aat,Aat,Aat,Aat,Aat,Aat,Aat,Aat],defers:=[]}) ?assign ?body ?done ?stop
   case assign=>exact lE
   case body=>
    rintro l' pre⟨x,hx⟩W⟨⟨⟨vr,aA,aj,_⟩,e0,e1,aN⟩,hB⟩hlt;simp only;obtain⟨aG,au⟩:=aw aA aj;refine UQ ?_;intro HB x3 x0 x4 b3;have aM:=an (show(ep l ow (gA pre)).length<=100000 from by have h5:=@Lv l ow (gA pre);rw[xK]at h5;have:=Dq l id;omega)
    gi_wp2;refine gR (S:=λW'=>W'.cell? (ad w.heap.size 0)=some (sq b off (κ l) cap)/\W'.cell? (ad (w.heap.size+1) 0)=some (i6 (i:Int))/\W'.cell? (ad b (off+x*11+3))=some (u6 ((recAt l x).owner:Int))/\W'.cell? (ad b (off+i*11+3))=some (u6 (ow:Int))) al al (λ⟨_,_,h⟩=>h) ?_;change Acp _ _ _ _ _ 11 _ _ (W.drew);have UD:=Up.drew (Up.refl W);have F5:=an (show W.drew.cell? (ad w.heap.size 0)=some (sq b off (κ l) cap)/\W.drew.cell? (ad (w.heap.size+1) 0)=some (i6 (i:Int))/\W.drew.cell? (ad b (off+x*11+3))=some (u6 ((recAt l x).owner:Int))/\W.drew.cell? (ad b (off+i*11+3))=some (u6 (ow:Int))from⟨UD.cell e0,UD.cell e1,UD.cell x3,UD.cell x4⟩);have y0:=UD.cell x0;obtain⟨TU,KO,KP,BD,aa,RW5⟩:=iC (show Touch (λk=>k=w.heap.size+1+1\/vr.ownBlock=some k) W W.drew from Touch.bV UD) (yZ W) (ji (p:=p6 w.heap.size (w.heap.size+1+1+1) (w.heap.size+1+1+1+1)) UD) (show Below w.heap.size w W.drew from HB.trans (Below.drew (e7 _ _))) (show Boxed W.drew (w.heap.size+1+1) 156 vr from aG) (show W.drew.ownsRow (w.heap.size+1+1+1+1+1) 70 1 vr (κ (ep l ow (gA pre))) ((ep l ow (gA pre)).map cu)from Own.up au UD);clear x0 e0 e1 x3 x4;generalize W.drew=w5 at *;refine tb 0 rfl (yc (λW hS=>hS.1)) ?_;refine bx ?_;refine ta 1 ?_;refine bx ?_;refine ta 2 ?_;refine bx ?_;refine ta 3 ?_;refine bx ?_;refine tb 4 rfl (yc (λW hS=>hS.2.2.1)) ?_;refine bx ?_;refine tb 5 rfl (yc (λW hS=>hS.1)) ?_;refine bx ?_;refine tb 6 rfl (yc (λW hS=>hS.2.1)) ?_;refine bx ?_;refine ta 7 ?_;refine bx ?_;refine ta 8 ?_;refine bx ?_;refine tb 9 rfl (yc (λW hS=>hS.2.2.2)) ?_;refine bx ?_;by_cases ag:(recAt l x).owner=ow
    ·have b9:((((recAt l x).owner:Nat):Int)==(ow:Int))=true:=by simp[ag]
     have ax:((((recAt l x).owner:Nat):Int) != (ow:Int))=false:=by simp[ag]
     refine zn ?_;have HX:=an (@QU l ow x (gA pre) ag);clear ag b9 ax;gi_wp2;exact⟨KO,KP,⟨⟨vr,aa,by rw[rK,HX.out];exact RW5,trivial⟩,F5.1,F5.2.1,bO aN TU.size⟩,BD⟩
    ·have b9:((((recAt l x).owner:Nat):Int)==(ow:Int))=false:=by simp;omega
     have ax:((((recAt l x).owner:Nat):Int) != (ow:Int))=true:=ao
     refine zn ?_;have HX:=an (@Lw l ow x (gA pre) ag);clear ag b9 ax;have cb:=aa.cell;gi_wp2;obtain⟨va,vc,rfl⟩:=(Own.cv (f:=cu) RW5 |>.slice);have e5:=F5.1;have UD:=an (Up.drew (Up.refl w5));replace cb:=UD.cell cb;replace y0:=UD.cell y0;replace e5:=UD.cell e5;refine yX al (zI al (λ⟨_,_,h⟩=>h) _ _ _ _ ?_);change wpAny _ _ _ _ 9 _ _ (w5.drew);generalize w5.drew=w6 at *;have aO:=bF (.cells #[u6 ((recAt l x).id:Int)] 70) cb;have UA:=an (ai w6 (.cells #[u6 ((recAt l x).id:Int)] 70));refine(λ(FIN:?G)=>?main) ?tail
     case main=>
      refine yk 2 (i6 (x:Int)) rfl ?_ (hy:=(.inl ⟨rfl,λ_=>by go_simp⟩));refine bx ?_;refine Hn 0 (.slice va (κ (ep l ow (gA pre))) vc) w6 1 (sq b off (κ l) cap) w6 al rfl rfl (im 156 (.tmp 6) rfl ⟨w.heap.size+1+1,0,none⟩ rfl cb (λ_=>al)) rfl rfl (im 71 (.tmp 2) rfl ⟨w.heap.size,0,none⟩ rfl e5 (λ_=>al)) ?_ ?_
      ·refine bx ?_;refine vP 1 (sq b off (κ l) cap) w6 al rfl rfl (im 71 (.tmp 2) rfl ⟨w.heap.size,0,none⟩ rfl e5 (λ_=>al)) ?_;refine Nq ?_;exact U'
      ·refine Nq ?_;refine bx ?_;refine Hn 0 (.slice va (κ (ep l ow (gA pre))) vc) w6 5 (u6 ((recAt l x).id:Int)) w6 al rfl rfl (im 156 (.tmp 6) rfl ⟨w.heap.size+1+1,0,none⟩ rfl cb (λ_=>al)) rfl rfl (im 70 (.tmp 40) rfl ⟨b,off+x*11,none⟩ rfl y0 (λ_=>al)) ?_ ?_
       ·exact U'
       ·refine bx ?_;refine Hn 0 (.slice va (κ (ep l ow (gA pre))) vc) w6 6 (cC w6.heap.size 1 1) (w6.alloc (.cells #[u6 ((recAt l x).id:Int)] 70)) al rfl rfl (im 156 (.tmp 6) rfl ⟨w.heap.size+1+1,0,none⟩ rfl cb (λ_=>al)) rfl rfl (qH 156 (.tmp 41) rfl (u6 ((recAt l x).id:Int)) rfl (qE w6 _)) ?_ ?_
        ·refine bx ?_;refine vP 6 (cC w6.heap.size 1 1) (w6.alloc (.cells #[u6 ((recAt l x).id:Int)] 70)) al rfl rfl (qH 156 (.tmp 41) rfl (u6 ((recAt l x).id:Int)) rfl (qE w6 _)) ?_;refine bx ?_;exact FIN
        ·refine bx ?_;refine vP 0 (.slice va (κ (ep l ow (gA pre))) vc) (w6.alloc (.cells #[u6 ((recAt l x).id:Int)] 70)) al rfl rfl (im 156 (.tmp 6) rfl ⟨w.heap.size+1+1,0,none⟩ rfl aO (λ_=>al)) ?_;refine bx ?_;exact FIN
     case tail=>
      refine Ms 7 rfl al ?_;simp only[Abv,Aaw];go_wp2_with(first
       | (at_builtin;refine bf cu qR rfl (.tmp 36) (.tmp 42) 156 rfl (w.heap.size+1+1+1+1+1) 70 (u6 0) 8 underlying156 ui rfl _ (ep l ow (gA pre)) rfl (Own.up (Own.up RW5 UD) UA) (cC w6.heap.size 1 1) [(recAt l x).id] rfl (aC.er (f:=cu) w6 w6.heap.size rfl #[u6 ((recAt l x).id:Int)] 70 (0,0) [(recAt l x).id] 1 rfl dy rfl) (by have:=aM.out;simp;omega) (by have:=aM.out;simp;omega) (by have h1:=TU.size;have h2:=UD.size;have h3:=(ai w6 (.cells #[u6 ((recAt l x).id:Int)] 70)).size;omega) ?_))
      intro v7 w7 aL a1 bj;obtain⟨TA,av⟩:=aw (show Touch (λk=>k=w.heap.size+1+1\/(Acg va (κ (ep l ow (gA pre))) vc).ownBlock=some k) w5 w7 from(Touch.bV (UD.trans UA)).trans (Touch.be a1 (λk hk=>.inr hk)) (λn h _=>h)) (show Boxed w7 (w.heap.size+1+1) 156 (.slice va (κ (ep l ow (gA pre))) vc)from Boxed.kept (Boxed.alloc (show Boxed w6 (w.heap.size+1+1) 156 (.slice va (κ (ep l ow (gA pre))) vc)from(oH UD _ aa.lt).trans aa) _) a1 (λe=>by have:=(iP RW5 e.symm).2;omega));obtain⟨aR,aS⟩:=az av.cell av.frozen;obtain⟨aP,aQ,aI⟩:=aL.cv.slice;rw[Aae,List.length_singleton]at aI;subst aI;clear cb;go_wp2;have G8:=grownBy_setCell' w7 (w.heap.size+1+1) (.slice aP (κ (ep l ow (gA pre))+1) aQ);obtain⟨TB,TC⟩:=aw ((TU.trans TA (λn h _=>h)).trans (Touch.be (F:=λk=>k=w.heap.size+1+1\/(Acg va (κ (ep l ow (gA pre))) vc).ownBlock=some k) G8 (λk hk=>FX)) (λn h _=>h)) (TA.trans (Touch.be (F:=λk=>k=w.heap.size+1+1\/(Acg va (κ (ep l ow (gA pre))) vc).ownBlock=some k) G8 (λk hk=>FX)) (λn h _=>h));refine⟨TB.others (λk hk=>hk.elim (λe=>by subst e;exact⟨_,_,_,aG⟩) (λe=>(iP au e).1)),TB.wj (λk t hp hk=>?_),⟨⟨_,av.set _,?_,trivial⟩,?_,?_,?_⟩,?_⟩
      ·rcases hk with rfl|e
       ·rcases hp with h|h|h<;>omega
       ·have:=(iP au e).2;rcases hp with h|h|h<;>omega
      ·rw[rK,HX.out];exact sM aL G8 (.inr (λe=>by have:=(iP aL e).2;omega))
      ·exact fC F5.1 TC (λh=>h.elim (λh=>ae) (λh=>KW))
      ·exact fC F5.2.1 TC (λh=>h.elim (λh=>ae) (λh=>KW))
      ·exact bO aN (bO TU.size TC.size)
      ·exact TC.up BD (λn h=>h.elim (λh=>ae) (λh=>KW))
   case done=>rintro D ys W hD aF⟨⟨⟨vr,aA,aj,_⟩,_,_,_⟩,hB⟩hK;have cb:=aA.cell;gi_wp2;refine zt ?_;refine⟨_,sR rfl _ _ _,vr,rfl,?_,hB.trans (oM (w:=w) (aE _) W D _ _ qn hK rfl rfl)⟩;rw[HE.out,<-aF,show ys.map (·.1)=gA ys from rfl];exact Own.mono (ownsRow_putObj aj _ hK rfl) ae
   case stop=>rintro D c pre W _ _ h _;exact h.elim
end
theorem zc3:zc Aag 3=#[.int .i64 0]:=al
theorem aci:zc Aag 70=#[.int .u64 0]:=al
def ol(b:Nat)(v:ah)(l:List Nat):As:=⟨λn=>v.ownBlock=some n,λw=>Own cu 70 w b v l,λh T hf=>h.ax T hf⟩
def qy(f:α->List ah)(k:Nat)(e:Aab)(b:Nat)(v:ah)(l:List α):As:=⟨λn=>v.ownBlock=some n,λw=>ak f k e w b v l,λh T hf=>h.ax T hf⟩
section
variable {P:bu} {ops:Array Abi} {Q:Exit->Act->af->Prop} {F0:Nat->Prop} {x0:af} {L L':List As} {a:Act} {w w':af} {rest:List Abi} {o:Abi} {b B:Nat} {v:ah} {l:List au} {ys:List gJ} {ty:Aab} {y z:bR} {V:Array ah} {g i j n m cap off:Nat}
def Rz.n1{l:List Nat}(h:Own cu 70 w' w.heap.size v l)(u:Up w w')(hB:B<=w.heap.size):Rz w w' [ol B v l]:=.one u (h.mono hB) (h.aJ)
def Rz.sj{A:As}(z:Rz w w' [A])(h:a8 w' w.heap.size v l)(hB:B<=w.heap.size):Rz w w' [jn A (op B v l)]:=.one z.u ⟨z.p _ cS,h.mono hB⟩ λn hn=>hn.elim (z.f _ cS n) (h.aJ n)
theorem Fr.cv{l:List Nat}(s:Fr F0 x0 L w)(h:ol b v l∈L:=by exact gB):Own cu 70 w b v l:=s.p _ h
theorem VX{q:au}(h:aI w g 87 (a6 q)):c9 w (cC g 1 1) [q]:=.inr ⟨g,0,1,rfl,aq,aq,dy,λj u hj=>by have hj:(a6 q).toList[j]?=some u:=(show(dK q)[j]?=some u by simpa using hj);rw[h.cell,Abn,<-l7];exact hj⟩
theorem Fr.ab8(s:Fr F0 x0 L w):Fr F0 x0 (op x0.heap.size nl []::L) w:=s.new (.one (Up.refl w) (ak.nil _ _ _ _ _) λn h=>gn)
theorem ace{S:List As}(i j:Nat){y0:gJ}{u:ah}(h0:ys[i]?=some y0)(ho:o.op=.load ty (.tmp n):=by rfl)(hx:a.eval (.tmp n)=.pointer (some ⟨g,off,none⟩):=by rfl)(hm:os b (cC g m cap) ys∈S:=by exact gB)(aR:off=i*11+j:=by omega)(hv:(dg y0)[j]?=some u:=by rfl)(hagg:∀w:af,(isAgg ty).run P w=.ok false w:=by intro _;kernel_rfl)(hw:Region.wanted o (yielded ops a.tmps)=true:=by rfl):YieldsIf P ops (Sv F0 x0 S) o u a:=zC hw ty (.tmp n) ho ⟨g,off,none⟩ hx (λw h=>by
  subst aR;obtain⟨hi,rfl⟩:=ki.1 h0;have p:ak dg 11 90 w b (cC g m cap) ys:=(h.2 _ hm).1;obtain⟨bb,of,e,_,_,hc⟩:=aG.get (ak.row p lK) lK ae;obtain⟨rfl,rfl⟩:g=bb/\0=of:=by simpa using e
  have:=hc i hi j u hv;rwa [Abn]at this) hagg
theorem fq(i j:Nat){y0:gJ}(y':gJ)(s:Fr F0 x0 L w)(h:∀w',Fr F0 x0 L' w'->wpList P ops Q rest (a.put o.dst undef) w')(h0:ys[i]?=some y0)(hU:mK L (os b (cC g n cap) ys) (os b (cC g n cap) (ys.set i y')) L':=by exact tK)(av:o.op=.store ty y z:=by with_reducible rfl)(hx:a.eval y=.pointer (some ⟨g,off,none⟩):=by rfl)(aR:off=i*11+j:=by omega)(hy:(a.eval z).cells=V:=by exact zcv)(aw:dg y'=hs (dg y0) j V.toList:=by rfl)(hd:y'.v=y0.v/\y'.d.dead=y0.d.dead\/y'.v=nl/\y'.d.dead=[]:=by first|exact .inl ⟨rfl,rfl⟩|exact .inr ⟨rfl,rfl⟩)(aN:(P.info? ty).map (·.size)=some V.size:=by exact Sa)(h1:V.all (·.oneCell')=true:=by exact zoa)(hV:j+V.size<=11:=by first|decide|(simp[a6]))(hgd:o.guard=none:=by rfl):wpList P ops Q (o::rest) a w:=by subst aR;obtain⟨C,hb,hfit,hF,hP⟩:=OR (s.p _ hU.mem) h0 hV aw hd;exact h' hgd λK hK=>mJ av hx hy hb aN hfit h1 λw' aB hg=>hK _ _ (h w' (by have T:Touch (os b (cC g n cap) ys).F w w':=Touch.be hg (λk e=>by cases e;exact hF);exact s.yb hU T (hP w' aB hg).1 (λn h=>⟨eh (s.f _ hU.mem n ((hP w' aB hg).2 n h)).1 T.size,.inl ((hP w' aB hg).2 n h)⟩)))
theorem OQ{da:Option Addr}{dn dc:Nat}(hi:i<κ ys):∀n',(os b v (ys.set i ⟨{ys[i].d with dead:=l},da,dn,dc⟩)).F n'->(jn (os b v ys) (op b (.slice da dn dc) l)).F n':=λn' ag=>by exact NP
theorem fqd(i:Nat){y0:gJ}{L1 L2:List As}{da:Option Addr}{dn dc:Nat}(s:Fr F0 x0 L w)(h:∀w',Fr F0 x0 L2 w'->wpList P ops Q rest (a.put o.dst undef) w')(h0:ys[i]?=some y0)(hr:x4 L (op b (.slice da dn dc) l) L1:=by exact Se)(hU:mK L1 (os b (cC g n cap) ys) (jn (os b (cC g n cap) ys) (op b (.slice da dn dc) l)) L':=by exact tK)(al:mK L' (jn (os b (cC g n cap) ys) (op b (.slice da dn dc) l)) (os b (cC g n cap) (ys.set i ⟨{y0.d with dead:=l},da,dn,dc⟩)) L2:=by exact tK)(av:o.op=.store ty y z:=by with_reducible rfl)(hx:a.eval y=.pointer (some ⟨g,off,none⟩):=by rfl)(aR:off=i*11+10:=by omega)(hy:a.eval z=.slice da dn dc:=by rfl)(aN:(P.info? ty).map (·.size)=some 1:=by kernel_rfl)(hgd:o.guard=none:=by rfl):wpList P ops Q (o::rest) a w:=by subst aR;obtain⟨hi,rfl⟩:=ki.1 h0;have s':=s.join hr hU;obtain⟨⟨h2,h3⟩,h4⟩:=s'.p _ al.mem;obtain⟨C,hb,hn,aD,hg,hp⟩:=ak.part lK h2 i hi;refine h' hgd λK hK=>mJ (V:=#[.slice da dn dc]) av hx zb hb aN ao FD λw' aB hgr=>hK _ _ (h w' ?_);refine Of ?_;intro key T;refine s'.yb al T ⟨hp _ 10 [.slice da dn dc] w' aq rfl aB,λy hy=>?_⟩ (λn' h=>⟨eh (s'.f _ al.mem n' (OQ hi n' h)).1 T.size,.inl (OQ hi n' h)⟩);exact NQ
theorem faq{q:au}{L':ah->List As}(s:Fr F0 x0 L w)(h:∀a' c' w,Fr F0 x0 (L' (.slice a' (κ l+1) c')) w->wpList P ops Q rest (a.put o.dst (.slice a' (κ l+1) c')) w)(hgd:o.guard=none:=by rfl)(ho:o.op=.call {callee:=.builtin .append,args:=#[.tmp m,.tmp n],argTypes:=#[88,88]}:=by with_reducible rfl)(hs:a.eval (.tmp m)=v:=by exact zvv)(hx:a.eval (.tmp n)=cC g 1 1:=by rfl)(hm:bk g 87 (a6 q)∈L:=by exact gB)(hU:∀v',mK L (op x0.heap.size v l) (op x0.heap.size v' (l++[q])) (L' v'):=by intro _;exact tK)(ht:P.underlying 88=some (.slice 87):=by exact underlying88)(hi:(P.info? 87).map (λi=>(i.zero,i.size,i.bytes))=some (some (.agg (a6 hole)),3,24):=by exact cF)(hl:κ l<=1000000000:=by omega):wpList P ops Q (o::rest) a w:=ej pw hgd (.tmp m) (.tmp n) 88 ho x0.heap.size 87 _ 24 ht hi rfl v l hs (s.p _ (hU v).mem) _ [q] hx (VX (s.e6 hm)) ao ao s.t.size λv' w' h1 h2 _ h4=>by
  obtain⟨a',c',hv⟩:=(ak.row h1 pw).slice;exact K6
theorem ZK{α:Type}{f:α->List ah}{j:Nat}{e t:TypeId}{xs:List α}{C:Array ah}{zv:ah}{bytes:Nat}(hw:gi f j)(x:α){L':ah->List As}(s:Fr F0 x0 L w)(h:∀a' c' w,Fr F0 x0 (L' (.slice a' (κ xs+1) c')) w->wpList P ops Q rest (a.put o.dst (.slice a' (κ xs+1) c')) w)(hgd:o.guard=none:=by rfl)(ho:o.op=.call {callee:=.builtin .append,args:=#[.tmp m,.tmp n],argTypes:=#[t,t]}:=by with_reducible rfl)(hs:a.eval (.tmp m)=v:=by exact zvv)(hx:a.eval (.tmp n)=cC g 1 1:=by rfl)(hm:bk g e C∈L:=by exact gB)(hC:C.toList=f x:=by rfl)(hU:∀v',mK L (qy f j e x0.heap.size v xs) (qy f j e x0.heap.size v' (xs++[x])) (L' v'):=by intro _;exact tK)(ht:P.underlying t=some (.slice e):=by exact gh)(hi:(P.info? e).map (λi=>(i.zero,i.size,i.bytes))=some (some zv,j,bytes):=by assumption)(hz:zv.cells.size=j:=by rfl)(hb:(κ xs+1)*bytes<=140737488355328:=by omega)(hl:κ xs+1<=9223372036854775807:=by omega):wpList P ops Q (o::rest) a w:=ej hw hgd (.tmp m) (.tmp n) t ho x0.heap.size e zv bytes ht hi hz v xs hs (s.p _ (hU v).mem) _ [x] hx (.inr ⟨g,0,1,rfl,aq,aq,dy,λi u hj=>by
  have hj:C.toList[i]?=some u:=by rw[hC];simpa using hj
  rw[(s.e6 hm).cell,Abn,<-l7];exact hj⟩) (by simpa using hb) (by simpa using hl) s.t.size λv' w' h1 h2 _ h4=>by
  obtain⟨a',c',hv⟩:=(ak.row h1 hw).slice;exact K6
theorem Fr.Z7{α:Type}{f:α->List ah}{j:Nat}{e:Aab}(s:Fr F0 x0 L w):Fr F0 x0 (qy f j e x0.heap.size nl []::L) w:=s.new (.one (Up.refl w) (ak.nil _ _ _ _ _) λn h=>gn)
theorem Fr.row{α:Type}{f:α->List ah}{j:Nat}{e:TypeId}{xs:List α}(s:Fr F0 x0 L w)(h:qy f j e b v xs∈L:=by exact gB):ak f j e w b v xs:=s.p _ h
end
section
open Go.Shelf
attribute [local go_sem] km
def hF(l:List ab)(ow:Nat)(xs:List Nat):List Nat:=xs.filter (λj=>decide ((recAt l j).owner=ow))
theorem Rn{l:List ab}{ow x:Nat}{xs:List Nat}(h:(recAt l x).owner=ow):κ (hF l ow (xs++[x]))=κ (hF l ow xs)+1:=by grind [hF]
theorem V3{l:List ab}{ow x:Nat}{xs:List Nat}(h:(recAt l x).owner≠ow):κ (hF l ow (xs++[x]))=κ (hF l ow xs):=by grind [hF]
def Rm{l:List ab}{ow:Nat}{xs:List Nat}:κ (hF l ow xs)<=κ xs:=qh _ _
def mf(l:List ab)(x:ab):Bool:=if x.aT=true then(match aK l x.owner with
 | none=>false
 | some i=>if(recAt l i).aT=true then false else decide (κ (hF l x.owner (fY l x.id))=1))else true
section
variable {l:List ab} {x:ab} {i:Nat}
theorem IM(h:x.aT=false):mf l x=true:=by grind [mf]
theorem VO(h:x.aT=true)(h1:aK l x.owner=none):mf l x=false:=by grind [mf]
theorem VP(h:x.aT=true)(h1:aK l x.owner=some i)(h2:(recAt l i).aT=true):mf l x=false:=by grind [mf]
theorem IN(h:x.aT=true)(h1:aK l x.owner=some i)(h2:(recAt l i).aT=false):mf l x=decide (κ (hF l x.owner (fY l x.id))=1):=by grind [mf]
end
theorem boxed_own{W W':af}{row:Option Nat}{B:Nat}{v:ah}(hv:Boxed W B t v)(hg:W.grownBy W' row)(aj:∀r,row=some r->∃o:Obj,W.heap[r]?=some o/\o.isCells=false):Boxed W' B t v:=hv.kept hg (λe'=>by
  obtain⟨o,ho,hc⟩:=aj B e'.symm;rw[show W.heap[B]?=_ from hv]at ho;cases ho;cases hc)
theorem Bw(w:af)(b off n cap:Nat)(l:List ab)(hv:cy w (sq b off n cap) l)(hl:κ l<=100000)(k:Nat)(hk:k<κ l):Aaf Aag 185 #[sq b off n cap,pq b (off+k*11)] w λe w'=>e=.returned (.bool (mf l (recAt l k)))/\Up w w':=by
 obtain⟨_,_,ar,hbs,da,dc,rg,_⟩:=bZ hv hk;simp only[Aai,Abm,and_true]at ar;obtain⟨rfl,rfl⟩:=ar;obtain rfl:n=κ l:=T9
 obtain⟨c0,_,c2,c3,_⟩:=cd rg;obtain⟨w0,rfl⟩:=bE w;have s:=Fr.start w0;refine ZG 6 func185 ?_;simp only[ntmps185,Abj,Aaj,Aa5,Nat.reduceAdd,Nat.reduceSub,Aa9,Aba,Abk,Abc,Aa0,Aa2];cases hs:(recAt l k).aT with
 | false=>rw[hs]at c2;go_wp2_with(refine fw s ?_;intro _ w s);refine EH s ?_;exact⟨by rw[@IM l _ hs];rfl,s.pure⟩
 | true=>
  rw[hs]at c2;go_wp2_with(refine fw s ?_;intro _ w s);refine kb s (λw s=>?_);repeat refine kt ?_
  refine kc (λw _ s=>jo w _ l (hv.up s.pure) (recAt l k).owner) ?_;rintro w _ s _ _⟨rfl,rfl⟩;refine nj ?_;repeat refine kt ?_
  refine kd (λw u s=>?_);cases h1:aK l (recAt l k).owner with
  | none=>simp only[eJ];go_wp2_with(refine fw s ?_;intro _ w s);refine EH s ?_;exact⟨by rw[VO hs h1];rfl,s.pure⟩
  | some i=>
   obtain⟨hi,_⟩:=cP h1;obtain⟨_,_,ar,_,aH,aJ,aB,_⟩:=bZ hv hi;simp only[Aai,Abm,and_true]at ar;obtain⟨rfl,rfl⟩:=ar;refine oR ?_;intro b1 b2;have s2:=(cd aB).2.2.1;simp only[eJ];cases aa:(recAt l i).aT with
   | true=>rw[aa]at s2;go_wp2_with(refine fw s ?_;intro _ w s);refine EH s ?_;exact⟨by rw[VP hs h1 aa];rfl,s.pure⟩
   | false=>
    rw[aa]at s2;go_wp2_with(refine fw s ?_;intro _ w s);refine kb s (λw s=>?_);repeat refine kt ?_
    refine CI (λw _ s=>p8 w (some (ad b off)) (κ l) cap (recAt l k).id) ?_;rintro w _ s _ _⟨rfl,rfl⟩;obtain⟨ua,ub⟩:=az (ai w (.cells #[sq b off (κ l) cap] 71)) (ai (w.alloc (.cells #[sq b off (κ l) cap] 71)) (.cells #[u6 ((recAt l k).id:Int)] 70));refine⟨_,jn (bk w.heap.size 71 #[sq b off (κ l) cap]) (bk (w.heap.size+1) 70 #[u6 ((recAt l k).id:Int)]),rfl,.one (ua.trans ub) ⟨(aI.new ..).up ub,by have:=aI.new (w.alloc (.cells #[sq b off (κ l) cap] 71)) 70 #[u6 ((recAt l k).id:Int)];rwa [aN]at this⟩ (λn hn=>?hn),?_⟩
    case hn=>rcases hn with hn|hn<;>(have hn:n=_:=hn;simp only[Aa4];omega)
    generalize w.heap.size=B1 at *;refine kd (λw u s=>?_);change Fr no _ [_,bk ?g2 3 _,bk ?g1 84 _,bk ?g0 71 _] _ at s;go_wp2_with fail;refine wpIn_wide (n:=6).1 ?_;obtain⟨d3,d4⟩:=s.p (jn (bk B1 71 _) (bk (B1+1) 70 _)) cS;have e2:aI w ?g2 3 _:=s.e6 gB;have e1:aI w ?g1 84 _:=s.e6 gB;have e0:aI w ?g0 71 _:=s.e6 gB;have CX:∀x,x<κ l->w0.cell? (ad b (off+x*11+3))=some (u6 ((recAt l x).owner:Int)):=λx hx=>by obtain⟨b',aD,ar,_,aH,aJ,aB,_⟩:=bZ hv hx;simp only[Aai,Abm,and_true]at ar;obtain⟨rfl,rfl⟩:=ar;exact(cd aB).2.2.2.1
    have G2:w0.heap.size<=?g2/\?g2≠B1/\?g2≠B1+1:=⟨((s.f (bk ?g2 3 _) gB ?g2 rfl).2).resolve_left id,eS e2 d3 av,eS e2 d4 av⟩;have HE:=@IN l _ i hs h1 aa;change Code.wpIn _ _ _ _ _ ⟨?t,_⟩ _;refine wB (F:=Abw) rfl ae (gf:=274) (lb:=#[pz B1,pz (B1+1)]) rfl trivial (enters_of func274 al rfl) (p7 5 ae B1 (B1+1) w0.heap.size _ l (recAt l k).id w d3.lt d4.lt (d3.cell 0) (d4.cell 0) (hv.up s.pure) (λa' m c h=>by cases h;exact hbs)) c'.trans jB (e7 _ _) (λ_=>rfl) (λpre W=>(Boxed W ?g0 71 (sq b off (κ l) cap)/\Boxed W ?g1 84 (pq b (off+k*11))/\Boxed W ?g2 3 (i6 (κ (hF l (recAt l k).owner (gA pre)):Int)))/\Below w0.heap.size w0 W) (λ_ _ _=>False) (nL (Own.from (λs A B row hs hg hr=>⟨boxed_own hs.1 hg hr,boxed_own hs.2.1 hg hr,boxed_own hs.2.2 hg hr⟩) _) (oL (aE _) s.pure.size)) (λ_ _ _ _ _ hs _ _=>hs) ⟨⟨e0,e1,e2⟩,s.pure⟩ (λx=>Aap (Aap ⟨?t,[]⟩ (some 34) (i6 (x.1:Int))) (some 7) (i6 (x.1:Int))) ?assign ?body ?done ?stop
    case assign=>exact lE
    case stop=>exact λ_ _ _ _ _ _ h=>h.elim
    case done=>
     rintro D ys W hD aF⟨⟨_,_,qb⟩,hB⟩hK;have cb:=qb.cell;have aq:mf l (recAt l k)=((κ (hF l (recAt l k).owner (gA ys)):Int)==1):=by rw[HE,<-aF,show ys.map (·.1)=gA ys from rfl,yI];simp;omega
     gi_wp2;go_wp2;refine zt ?_;exact⟨_,sR rfl _ _ _,by rw[aq]<;>rfl,hB.trans (oM (w:=w0) (aE _) W D _ _ (by have:=s.pure.size;omega) hK rfl rfl)⟩
    case body=>
     rintro l' pre⟨x,hx⟩W⟨⟨q0,q1,qb⟩,hB⟩hlt;simp only[Aap,fL];have x3:=hB.cell (p:=⟨b,off+x*11+3,none⟩) hbs;rw[CX x hx]at x3;have x4:=hB.cell (p:=⟨b,off+k*11+3,none⟩) hbs;rw[c3]at x4;have b3:((x:Int)<(κ l:Int))=True:=ao
     have aM:κ (hF l (recAt l k).owner (gA pre))<=100000:=by have h5:=@Rm l (recAt l k).owner (gA pre);rw[xK]at h5;have:=Dq l (recAt l k).id;omega
     have s:=Fr.from (A:=bk ?g2 3 #[i6 (κ (hF l (recAt l k).owner (gA pre)):Int)]) qb (λn hn=>by rw[show n=_ from hn];exact aI.lt qb);have n0:¬(bk ?g2 3 #[i6 (κ (hF l (recAt l k).owner (gA pre)):Int)]).F ?g0:=eS q0 qb av;have n1:¬(bk ?g2 3 #[i6 (κ (hF l (recAt l k).owner (gA pre)):Int)]).F ?g1:=eS q1 qb av;have nb:¬(bk ?g2 3 #[i6 (κ (hF l (recAt l k).owner (gA pre)):Int)]).F b:=by show b≠_;omega
     have aj:=q0;have ak:=q1;replace q0:=aI.cell q0 0;replace q1:=aI.cell q1 0;gi_wp2;refine kbR s (λw s=>?_);repeat refine kt ?_
     refine kd (λw _ s=>?_);by_cases ag:(recAt l x).owner=(recAt l k).owner
     ·have b9:((((recAt l x).owner:Nat):Int)==((recAt l k).owner:Int))=true:=by simp[ag]
      have HX:=@Rn l (recAt l k).owner x (gA pre) ag;have aG:IntKind.i64.wrap ((κ (hF l (recAt l k).owner (gA pre)):Int)+1)=((κ (hF l (recAt l k).owner (gA pre))+1:Nat):Int):=by rw[show((κ (hF l (recAt l k).owner (gA pre)):Int)+1)=((κ (hF l (recAt l k).owner (gA pre))+1:Nat):Int)from ae];exact bc _ ae
      gi_wp2_with(refine m' (λ⟨_,_,h⟩=>h) al ?_);refine an ?_;go_wp2_with(refine fw s ?_;intro _ w s);have T:=s.t;exact⟨Touch.others T (λk hk=>T'),T.wj (λk t hp hk=>T4),⟨aI.ax aj T n0,aI.ax ak T n1,by rw[rK,HX,Int.natCast_add];exact s.p _ cS⟩,T.up hB (λk hk=>by rw[show k=_ from hk];omega)⟩
     ·have b9:((((recAt l x).owner:Nat):Int)==((recAt l k).owner:Int))=false:=by simp;omega
      have HX:=@V3 l (recAt l k).owner x (gA pre) ag;gi_wp2;have T:=s.t;exact⟨Touch.others T (λk hk=>T'),T.wj (λk t hp hk=>T4),⟨aI.ax aj T n0,aI.ax ak T n1,by rw[rK,HX];exact s.e6 gB⟩,T.up hB (λk hk=>by rw[show k=_ from hk];omega)⟩
end
def iF(fl:Nat)(ds:List au):Bool:=ds.all (λp=>decide (p.aV<=fl))
theorem xn{fl k:Nat}{ds:List au}(hk:k<κ ds)(h:iF fl (ds.take k)=true):iF fl (ds.take (k+1))=decide (ds[k].aV<=fl):=by unfold iF at *;rw[eo hk,List.all_append,h];simp
theorem Df{fl k:Nat}{ds:List au}(hk:k<κ ds)(h:¬ds[k].aV<=fl):iF fl ds=false:=by grind [iF]
def oD(l:List ab)(x:ab):Bool:=if x.prev=0 then iF 0 x.dead else match aK l x.prev with
 | none=>false
 | some i=>if(recAt l i).aT=false then false else if x.aT=true/\x.ay<=(recAt l i).ay then false else iF (recAt l i).ay x.dead
section
variable {l:List ab} {x:ab} {i:Nat}
theorem HW(h:x.prev=0):oD l x=iF 0 x.dead:=uL
theorem Td(h:¬x.prev=0)(h1:aK l x.prev=none):oD l x=false:=uL
theorem Te(h:¬x.prev=0)(h1:aK l x.prev=some i)(h2:(recAt l i).aT=false):oD l x=false:=uL
theorem Tf(h:¬x.prev=0)(h1:aK l x.prev=some i)(h2:(recAt l i).aT=true)(h3:x.aT=true/\x.ay<=(recAt l i).ay):oD l x=false:=uL
theorem HX(h:¬x.prev=0)(h1:aK l x.prev=some i)(h2:(recAt l i).aT=true)(h3:¬(x.aT=true/\x.ay<=(recAt l i).ay)):oD l x=iF (recAt l i).ay x.dead:=uL
end
theorem Ai(w:af)(b off n cap:Nat)(l:List ab)(hv:cy w (sq b off n cap) l)(k:Nat)(hk:k<κ l):Aaf Aag 184 #[sq b off n cap,pq b (off+k*11)] w λe w'=>e=.returned (.bool (oD l (recAt l k)))/\Up w w':=by
 obtain⟨_,_,ar,hbs,da,dc,rg,dp⟩:=bZ hv hk;simp only[Aai,Abm,and_true]at ar;obtain⟨rfl,rfl⟩:=ar;obtain rfl:n=κ l:=T9
 obtain⟨HV,DP⟩:=aw hv dp;obtain⟨_,_,c2,_,c4,c5,_,_,zR⟩:=cd rg;obtain⟨aa,ag,ak,al,av⟩:=eQ (@HW l (recAt l k)) (@Td l (recAt l k)) (λi=>@Te l (recAt l k) i) (λi=>@Tf l (recAt l k) i) (λi=>@HX l (recAt l k) i);generalize oD l (recAt l k)=eb at *;generalize recAt l k=x at *;have aM:=aG.length_le DP;by_cases h0:x.prev=0
 ·have HE:=an (aa h0);rw[h0]at c4;clear h0 aa ag ak al av;go_in;go_wp2;go_loopw [52] (λi wr=>∃j:Nat,j<=κ x.dead/\i=i6 j/\iF (0) (x.dead.take j)=true/\Up w wr) (λi _=>κ x.dead-(Aaq i).toNat)
  case atStart=>exact⟨0,bG _,rfl,by simp[iF],Up.refl _⟩
  case round=>
   obtain⟨j,hj,rfl,hd,ur⟩:=hrel;obtain⟨HD,UR⟩:=aw hd ur;clear hd;by_cases hlt:j<κ x.dead
   ·have b8:((j:Int)<(κ x.dead:Int))=True:=by simp;omega
    obtain⟨pb,po,aD,_,_,hc⟩:=aG.range (aG.up DP UR) pw ae;subst aD;obtain⟨RC,DT,DN,BX⟩:=bS (hc j hlt) (xn hlt HD) (@Df (0) j x.dead hlt) (aI.new wr 87 (a6 x.dead[j]));have cb:(wr.alloc (.cells (a6 x.dead[j]) 87)).cell? (ad wr.heap.size 1)=some (u6 (x.dead[j].aV:Int)):=by rw[BX.out.cell];rfl
    have U2:=an (UR.trans (ai wr (.cells (a6 x.dead[j]) 87)));generalize x.dead[j]=p at *;clear hc;by_cases hb:p.aV<=0
    ·have b9:(0<p.aV)=False:=by simp;omega
     have ax:=an (DT.trans (fm hb));clear hb;go_wp2_with(first
      | refine cM 87 54 (a6 p) RC ?_
      | refine bH 87 fh ?_
      | refine dX 87 8 55 wr (a6 p) 87 (a6 hole) ?_)
     go_roundw
     case rel=>exact⟨j+1,ae,aq,ax,U2⟩
     case measure=>simp only[Aaq];omega
    ·have b9:(0<p.aV)=True:=by simp;omega
     have DF:=an (HE.trans (DN hb));clear hb;go_wp2_with(first
      | refine cM 87 54 (a6 p) RC ?_
      | refine bH 87 fh ?_
      | refine dX 87 8 55 wr (a6 p) 87 (a6 hole) ?_)
     go_ret;exact⟨by rw[DF.out];rfl,U2⟩
   ·exact K0
 ·have b0:((x.prev:Int)==(0:Int))=false:=by simp;omega
  have az:((x.prev:Int) != (0:Int))=true:=ao
  have P1:=an ((λp=>jo w _ l hv p) x.prev);cases h1:aK l x.prev with
  | none=>have HE:=an (ag h0 h1);rw[h1]at P1;unfold eJ at P1;clear h0 h1 aa ag ak al av;exact K1
  | some i=>
   obtain⟨H0,H1⟩:=aw h0 h1;rw[h1]at P1;unfold eJ at P1;obtain⟨hi,_⟩:=cP h1;obtain⟨_,_,ar,_,aH,aJ,aB,_⟩:=bZ HV hi;simp only[Aai,Abm,and_true]at ar;obtain⟨rfl,rfl⟩:=ar;refine oR ?_;intro b1 b2;obtain⟨_,_,s2,_,_,s5,_⟩:=cd aB;clear h1 h0;cases hs:(recAt l i).aT with
   | false=>have HE:=an (ak i H0 H1 hs);rw[hs]at s2;clear hs aa ag ak al av;exact K1
   | true=>
    by_cases h3:x.aT=true/\x.ay<=(recAt l i).ay
    ·have HE:=an (al i H0 H1 hs h3);rw[hs]at s2;rw[h3.1]at c2;have b5:(((recAt l i).ay:Int)>=(x.ay:Int))=True:=by have:=h3.2;simp;omega
     clear hs h3 aa ag ak al av;exact K1
    ·have HE:=an (av i H0 H1 hs h3);rw[hs]at s2;clear hs aa ag ak al av;obtain⟨fl,aj⟩:=bE ((recAt l i).ay);rw[<-aj]at s5 HE h3;clear aj;cases au:x.aT with
     | false=>
      rw[au]at c2;clear h3 au;go_in;go_wp2_with fail;refine rm ?_;intro w2;go_wp2;go_loopw [52] (λi wr=>∃j:Nat,j<=κ x.dead/\i=i6 j/\iF (fl) (x.dead.take j)=true/\Up w wr) (λi _=>κ x.dead-(Aaq i).toNat)
      case atStart=>exact⟨0,bG _,rfl,by simp[iF],Up.refl _⟩
      case round=>
       obtain⟨j,hj,rfl,hd,ur⟩:=hrel;obtain⟨HD,UR⟩:=aw hd ur;clear hd;by_cases hlt:j<κ x.dead
       ·have b8:((j:Int)<(κ x.dead:Int))=True:=by simp;omega
        obtain⟨pb,po,aD,_,_,hc⟩:=aG.range (aG.up DP UR) pw ae;subst aD;refine M8 ?_;intro RC DT DN BX cb;have U2:=an (UR.trans (ai wr (.cells (a6 x.dead[j]) 87)));generalize x.dead[j]=p at *;clear hc;by_cases hb:p.aV<=fl
        ·have b9:(((p.aV:Nat):Int)>(fl:Int))=False:=by simp;omega
         have ax:=an (DT.trans (fm hb));clear hb;go_wp2_with(first
          | refine cM 87 54 (a6 p) RC ?_
          | refine bH 87 fh ?_
          | refine dX 87 8 55 wr (a6 p) 87 (a6 hole) ?_)
         go_roundw
         case rel=>exact⟨j+1,ae,aq,ax,U2⟩
         case measure=>simp only[Aaq];omega
        ·exact Va
       ·exact K0
     | true=>
      rw[au]at c2;have b5:((fl:Int)>=(x.ay:Int))=False:=by have:¬x.ay<=fl:=λh=>h3 ⟨au,h⟩;simp;omega
      clear h3 au;go_in;go_wp2_with fail;refine rm ?_;intro w2;go_wp2;go_loopw [52] (λi wr=>∃j:Nat,j<=κ x.dead/\i=i6 j/\iF (fl) (x.dead.take j)=true/\Up w wr) (λi _=>κ x.dead-(Aaq i).toNat)
      case atStart=>exact⟨0,bG _,rfl,by simp[iF],Up.refl _⟩
      case round=>
       obtain⟨j,hj,rfl,hd,ur⟩:=hrel;obtain⟨HD,UR⟩:=aw hd ur;clear hd;by_cases hlt:j<κ x.dead
       ·have b8:((j:Int)<(κ x.dead:Int))=True:=by simp;omega
        obtain⟨pb,po,aD,_,_,hc⟩:=aG.range (aG.up DP UR) pw ae;subst aD;refine M8 ?_;intro RC DT DN BX cb;have U2:=an (UR.trans (ai _ (.cells (a6 x.dead[j]) 87)));generalize x.dead[j]=p at *;clear hc;by_cases hb:p.aV<=fl
        ·have b9:(((p.aV:Nat):Int)>(fl:Int))=False:=by simp;omega
         have ax:=an (DT.trans (fm hb));clear hb;go_wp2_with(first
          | refine cM 87 54 (a6 p) RC ?_
          | refine bH 87 fh ?_
          | refine dX 87 8 55 wr (a6 p) 87 (a6 hole) ?_)
         go_roundw
         case rel=>exact⟨j+1,ae,aq,ax,U2⟩
         case measure=>simp only[Aaq];omega
        ·exact Va
       ·exact K0
section
open Go.Maps
theorem XK:laidOutB Aag=true:=al
theorem TJ:prog.keyTypeAt 3 246=true:=al
theorem TK:(match prog.underlying 246 with|some (.array _ _)|some (.struct _)=>true|_=>false)=true:=al
theorem yw:Keyed Aag 246:=Keyed.of_law (deep_law_laid XK (m:=3) ae (ia aA) TJ TK)
theorem TI(c:jv)(h1:c.owner<18446744073709551616)(h2:κ c.name<=9223372036854775807):∃kl,keyOf Aag 246 (.agg (eE c))=some kl:=by
 have hw:(Lit.int .u64 (c.owner:Int)).wf=true:=by exact NX
 have hs:(strOf c.name).size<=maxLen:=cq
 have hf:(Value.agg (eE c)).formed Aag 246=true:=al
 have hk:prog.keyType 246=true:=al
 have hc:prog.cellsOf 246=2:=al
 have h1:prog.cellsOf 70=1:=al
 have h2:prog.cellsOf 9=1:=al
 have key:∀d,prog.keyLits (d+2) 246 [.int .u64 (c.owner:Int),.string (strOf c.name)]=some [.int .u64 (c.owner:Int),.string (strOf c.name).data.toList]:=λd=>by simp[Program.keyLits,underlying246,underlying70,underlying9,hc,h1,h2,hw,hs]
 unfold keyOf;rw[underlying246];simp only[hk,hf,Bool.and_self,if_true];have h0:(decide (1<=prog.types.size))=true:=al
 have h0:=ia h0;have aN:∃d,prog.types.size+1=d+2:=⟨prog.types.size-1,ae⟩;obtain⟨d,hd⟩:=aN;rw[hd];show ∃kl,(prog.keyLits (d+2) 246 [.int .u64 (c.owner:Int),.string (strOf c.name)]).map _=some kl;simp_all
end
section
open Go.Maps
def AS(l:List ab):Nat->Nat
 | 0=>0
 | k+1=>(recAt l k).id
structure Zy(next:Nat)(l:List ab):Prop where
 nx:next<=281474976710655
 len:κ l<=32
 rt:∀x∈l,cz x=true
 up:∀k(h:k<κ l),AS l k<(recAt l k).id/\(recAt l k).id<next
 nd:(l.map b9).Nodup
 el:∀k,k<κ l->oD l (recAt l k)=true
 ow:∀k,k<κ l->mf l (recAt l k)=true
def mP(D:DataW Unit)(cs:List jv):Prop:=IsMap D/\∀c:jv,∀kl,keyOf Aag 246 (.agg (eE c))=some kl->Maps.has D kl=decide (c∈cs)
theorem Py{c d:jv}(h:Value.agg (eE c)=.agg (eE d)):c=d:=by obtain⟨a,s⟩:=c;obtain⟨a2,s2⟩:=d;grind [eE,vH]
theorem Vp(h:cz x=true):κ x.name<=24:=by grind [bm,oV]
theorem mP.nil:mP (.map []) []:=⟨isMap_empty,λc kl _=>rfl⟩
theorem mP.put{D:DataW Unit}{cs:List jv}(h:mP D cs){c:jv}{kl:Lit}(hk:keyOf Aag 246 (.agg (eE c))=some kl)(d:DataW Unit):mP (D.put kl d) (cs++[c]):=by
 refine⟨?_,λc' ab aa=>?_⟩
 ·exact h.1.put _ _
 ·by_cases e:c'=c
  ·subst e;rw[hk]at aa;cases aa;rw[has_put_same h.1 (yw.key hk)];simp
  ·have hne:ab≠kl:=λe'=>e (Py (yw.inj aa (e' ▸ hk)));rw[has_put_other hne,h.2 c' ab aa];simp[e]
theorem Kw(w:af)(next:Nat)(v:ah)(l:List ab)(hv:cy w v l)(aK:∀x∈l,x.wf)(F:Zy next l):Aaf Aag 116 #[u6 (next:Int),v] w λe w'=>e=.returned (.bool true)/\Up w w':=by
 obtain⟨a,cap,rfl⟩:=hv.slice;obtain⟨HV,HF,a1⟩:=aW hv F aK;obtain⟨aD,aQ⟩:=az F.nx F.len;have b1:((next:Int)>(281474976710655:Int))=False:=ao
 have b2:((κ l:Int)>32)=False:=ao
 have aP:=@run_makeMap Aag;clear aK;go_in;go_wp2;clear b1 b2;clear aP;have ZE:=an (λW:af=>(lb (P:=Aag) (t:=3) (v:=.int .i64 0) (n:=1) al).1 W);go_loopw [6,23] (λls i wr=>∃k:Nat,k<=κ l/\i=.int .i64 k/\ls=u6 (AS l k:Int)/\(∃D,wr.ownsMap Aag 246 (plainElem (H:=Unit) Aag 3) w.heap.size k D/\mP D ((l.take k).map b9))/\Up w wr) (λ_ i _=>κ l-(Aaq i).toNat)
 case atStart=>exact⟨0,bG _,rfl,rfl,⟨_,(Fu w Aag 246 (plainElem (H:=Unit) Aag 3)),mP.nil⟩,(ai w _)⟩
 case round=>
  obtain⟨k,hk,rfl,rfl,⟨D,hown,aj⟩,ur⟩:=hrel;obtain⟨OW,HK,UR⟩:=aW hown aj ur;by_cases hlt:k<κ l
  ·refine oS ?_;intro b3;obtain⟨b,off,rfl,hbs,da,dc,rg,dp⟩:=bZ (HV.up UR) hlt;obtain⟨RG,SR⟩:=aw rg (B7 _ _ _ dp);have ag:recAt l k∈l:=by rw[b0 hlt];exact cm hlt
   rw[HF.out.rt _ ag]at SR;have ar:=HF.up k hlt;have b4:((((recAt l k).id:Nat):Int)<=(AS l k:Int))=False:=ao
   have b5:((((recAt l k).id:Nat):Int)>=(next:Int))=False:=ao
   have WX:=a1 _ ag;have TK:=an (show(l.take (k+1)).map b9=(l.take k).map b9++[b9 (recAt l k)] from KS);have NI:=an (show b9 (recAt l k) ∉ (l.take k).map b9 from by have h:=HF.nd;rw[<-fO (k+1) l,Aao,TK.out,Abe]at h;have:=(uB.1 h).2.2;intro hm;exact this _ hm _ aq rfl)
   have KC:=an (TI (b9 (recAt l k)) (by unfold b9;split<;>simp;exact WX.2.1) (by
    have:(b9 (recAt l k)).name=(recAt l k).name:=by unfold b9;split<;>rfl
    rw[this];have:=(Vp (HF.rt _ ag));omega))
   have NX:=an (show AS l (k+1)=(recAt l k).id from rfl);generalize AS l k=ls at *;have c0:=(cd rg).1;clear ag ar;generalize recAt l k=x at *;go_wp2_with(refine arm ?_);refine SR.mono ?_;rintro e w4⟨rfl,u4⟩;have U4:=an (UR.trans u4);replace c0:=u4.cell c0;have CO:=an (zS w4 b (off+k*11) x _ (λj u hj=>u4.cell (RG j u hj)));generalize b9 x=c at *;obtain⟨kl,hkl⟩:=KC.out;have aM:=an hkl;have hh:Maps.has D kl=false:=by rw[HK.out.2 c kl hkl];exact jb NI
   have HH:=an hh;clear hkl hh KC;go_wp2_with fail;refine CO.mono ?_;rintro e w5⟨rfl,u5⟩;obtain⟨U5,O5,U6⟩:=aW (U4.trans u5) ((OW.kept (l2 u4) aq).kept (l2 u5) aq) (ai w5 (.cells (eE c) 246));have O6:=an (O5.kept (l2 U6) aq);have hh:=HH.out;clear c0;go_wp2_with(first
    | refine arm ?_
    | (at_lookup;refine wpList_lookup_own_ok_int _ rfl (.tmp 57) (.tmp 58) 265 rfl 246 3 .i64 yw underlying265 underlying3 (ZE _) w.heap.size k D rfl O6 _ kl rfl aM ?_;intro cz CF aF)
    | (at_mapUpdate;refine wpList_mapUpdate_own _ rfl (.tmp 63) (.tmp 64) (.tmp 65) 265 rfl 246 3 yw underlying265 _ w.heap.size k D rfl O6 dy _ _ kl rfl rfl aM _ [] (plainElem_int underlying3 (WalkArith.wf_i64 ae)) ?_))
   intro w7 ak ad;obtain⟨U7,au⟩:=aw ((U5.trans U6).grown ad (λkk aB=>by cases aB;exact aE _)) (show mP (D.put kl (.lit (.int .i64 (k:Int)))) ((l.take (k+1)).map b9)from by rw[TK.out];exact HK.put aM _);clear hh HH;go_wp2;go_roundw
   case rel=>exact⟨k+1,ae,aq,by rw[NX.out],⟨_,ak,au⟩,U7⟩
   case measure=>simp only[Aaq];omega
  ·obtain rfl:k=κ l:=by omega
   have b3:((κ l:Int)<(κ l:Int))=False:=aq
   go_wp2;obtain⟨w0,ay⟩:=bE (wr);subst ay;go_loopw [69] (λi wr=>∃k:Nat,k<=κ l/\i=.int .i64 k/\Up w wr) (λi _=>κ l-(Aaq i).toNat)
   case atStart=>exact⟨0,bG _,rfl,UR⟩
   case round=>
    obtain⟨k,aa,rfl,ur⟩:=hrel;clear b3;by_cases hlt:k<κ l
    ·have b4:((k:Int)<(κ l:Int))=True:=by simp;omega
     obtain⟨b,off,rfl,hbs,_,_,_,_⟩:=bZ (HV.up ur) hlt;have EL:=an (Ai _ b _ _ _ l (HV.up ur) k hlt);rw[HF.out.el k hlt]at EL;go_wp2_with fail;refine EL.mono ?_;rintro e w4⟨rfl,u4⟩;have U4:=an (ur.trans u4);have OR:=an (Bw _ b _ _ _ l (HV.up U4) ae k hlt);rw[HF.out.ow k hlt]at OR;go_wp2_with fail;refine OR.mono ?_;rintro e w5⟨rfl,u5⟩;have U5:=an (U4.trans u5);go_wp2;go_roundw
     case rel=>exact⟨k+1,ae,aq,U5⟩
     case measure=>simp only[Aaq];omega
    ·obtain rfl:k=κ l:=by omega
     have b4:((κ l:Int)<(κ l:Int))=False:=aq
     go_wp2;go_ret;exact⟨rfl,ur⟩
end
theorem GU{fn:Func}{p u v z:Tmp}{ty:Aab}(h:fn.results=#[.cell p ty,.tmp u,.tmp v,.tmp z])(tmps:Array ah)(P:bu)(w:af)(g:Nat)(t:Aab)(C:Array ah)(x y r:ah)(hp:tmps.getD p Aat=pz g)(hu:tmps.getD u Aat=x)(hv:tmps.getD v Aat=y)(hz:tmps.getD z Aat=r)(hb:aI w g t C)(d:eT)(hd:P.underlying ty=some d)(hr:d.isRow=true)(hi:(P.info? ty).map (·.size)=some C.size):(results fn tmps).run P w=.ok (.tuple #[.agg C,x,y,r]) w:=by
 simp only[results,h];have aL:tmps[p]?.getD Aat=pz g:=aa
 have ab:tmps[u]?.getD Aat=x:=aa
 have ax:tmps[v]?.getD Aat=y:=aa
 have ar:tmps[z]?.getD Aat=r:=aa
 simp[Aa1,Aar,hp,aL,hu,ab,hv,ax,hz,ar,asAddr,iv (P:=P) ty g t C hb d hd hr hi]
theorem CN{next:Nat}{b:List aj}(h:e3 next l=some b):lx next l=some b:=by grind [e3,lx]
def Sm(H:aS)(P:bz)(next:Nat)(l:List ab)(set:List bJ)(ps:List au)(w:af)(e:Ab3)(w':af):Prop:=∃v u z,e=.returned (.tuple #[.agg (aQ next v),u,z,.int .i64 0])/\bt w' w.heap.size v l/\hV w' w.heap.size u set/\a8 w' w.heap.size z ps/\PG w H P w'
theorem DE(w:af)(H:aS)(P:bz)(A:PA w H P)(q:au)(b sp:List aj)(ps:List au)(M:k9 P.C q b sp ps)(next:Nat)(l:List ab)(hb:e3 next l=some b)(aK:∀x∈l,x.wf)(F:Zy next l)(ht:64<=κ P.C/\(κ P.C)<=1024)(f:Nat->Bool)(hf:ox f (κ P.C))(a8:sp=iK (κ P.C) (aB f 4096))(bc:κ ps<=100000):Aaf Aag 58 #[pz H.pb,.agg (a6 q)] w λe w'=>Sm H P next l (aB f 4096) ps w e w':=by
 obtain⟨r1,r2,lv1,lv2,lvq,BQ,BB1,BB2,⟨bR,bQ⟩,⟨bT,aV⟩,hps',hpq⟩:=M.ex;have bf:=iW r1 (κ b) r2 (κ sp);have U2:=an (ai (w.alloc (.cells (a6 q) 87)) (.cells (aQ 0 (nl)) 73));have b2:=aI.new (w.alloc (.cells (a6 q) 87)) 73 (aQ 0 (nl));rw[aN]at b2;have UU:=an ((ai w (.cells (a6 q) 87)).trans U2);have L0:=an (q6 _ H P (A.up UU) q _ _ BQ);rw[bf]at L0;obtain⟨a1,aT,al,be,ao⟩:=eQ aK a8 hps' hpq bc;have bl:=an (show(fI r1 (κ b) r2 (κ sp)).take 20=bM r1++aX [4] [κ b] from by unfold fI;simp only[Abd,List.flatMap_nil,Ab4];exact h0 Ub)
 have aa:=an (show(fI r1 (κ b) r2 (κ sp)).drop 20=bM r2++aX [4] [κ sp] from by unfold fI;simp only[Abd,List.flatMap_nil,Ab4];exact lh Ub)
 have ar:=an bf;obtain⟨tb,bq⟩:=bE (fI r1 (κ b) r2 (κ sp));rw[<-bq]at L0 bl aa ar be;clear a8 hps' hpq bf bq bc;go_in;go_wp2_with(refine arm ?_);refine L0.mono ?_;rintro e w3⟨vt,vq,rfl,ay,aO,bC,g3⟩;obtain⟨G3,A3,B3,N3⟩:=bS ((PG.of A UU).trans g3) g3.1 (b2.ax g3.2 ((A.up UU).b' b2 av)) (show ∀k,vt.ownBlock=some k->¬PF H k from λk hk hp=>by have:=(A.up UU).lt _ hp;have:=aO k hk;omega);have bm:=ar.out;obtain⟨va,vc,rfl⟩:=ay.slice;have aR:=me ay;have D1:=aC.piece ay (lo:=0) (hi:=20) ae ae;have D2:=aC.piece ay (lo:=20) (hi:=40) ae ae;rw[Aaw,bl.out]at D1;rw[dk ae,aa.out]at D2;rw[bm]at aR ⊢;rw[bm]at N3;have bb:∀W,(Aav 30 (.slice va 40 vc) none (some (i6 20)) none).run Aag W=.ok (bW va 0 20 vc) W:=λW=>hj (P:=Aag) 30 dA dB va 40 vc 20 ae W;have bd:∀W,(Aav 30 (.slice va 40 vc) (some (i6 20)) none none).run Aag W=.ok (bW va 20 40 vc) W:=λW=>df (P:=Aag) 30 dA dB va 40 vc 20 ae W;have bn:=an (show ∀k,(bW va 20 40 vc).ownBlock=some k->¬PF H k from λk hk hp=>N3 k (by
  cases va with
  | none=>simp[bW,Aan]at hk
  | some a=>unfold bW at hk;(repeat' split at hk)<;>exact hk) hp)
 obtain⟨p1,aD⟩:=bE (bW va 0 20 vc);obtain⟨p2,aL⟩:=bE (bW va 20 40 vc);rw[<-aD]at bb D1;rw[<-aL]at bd D2 bn;clear aO bm aD aL aR;go_wp2_with fail;refine((λW (AW:PA W H P) v (hv:aY W v _)=>MS W H P AW _ bR bQ b _ BB1 v hv) w3 A3 _ D1).mono ?_;rintro e w4⟨vx,vl,rfl,bO,ad,bB,g4⟩;obtain⟨G4,A4,B4,Q4⟩:=bS (G3.trans g4) g4.1 (B3.ax g4.2 (A3.b' B3 av)) (ak.ax bC g4.2 (eC A3 bC));clear N3;go_wp2_with fail;refine((λW (AW:PA W H P) v (hv:aY W v _)=>MS W H P AW _ bT aV _ _ BB2 v hv) w4 A4 _ (D2.ax g4.2 bn)).mono ?_;rintro e w5⟨vy,vm,rfl,bP,bF,aU,g5⟩;obtain⟨G5,R3⟩:=aw (G4.trans g5) (Rc _ _ b (bO.ax g5.2 (λk hk hp=>by have:=A3.lt _ hp;have:=ad k hk;omega)) next l (CN hb) aK);clear bF bb bd;go_wp2_with fail;refine R3.mono ?_;rintro e w6⟨vs,rfl,aP,u6⟩;go_wp2_with fail;refine(Kw _ _ _ l aP.cA a1 F).mono ?_;rintro e w7⟨rfl,u7⟩;obtain⟨G7,A7⟩:=aw ((G5.up u6).up u7) ((g5.1.up u6).up u7);go_wp2_with fail;refine(kV _ H P A7).mono ?_;refine f' ?_;intro wx;go_wp2_with fail;refine(kK _ _ _ _ _ A7.dev).mono ?_;refine f' ?_;intro wx;go_wp2_with fail;refine(L' _ _ ht f hf _ (by rw[<-aT.out];exact((bP.up u6).up u7))).mono ?_;rintro e w8⟨u,rfl,ou,u8⟩;obtain⟨G8,Q8,L8,M8,O8⟩:=eQ (G7.up u8) (ak.up (ak.up (ak.up (ak.ax Q4 g5.2 (eC A4 Q4)) u6) u7) u8) (ak.up (ak.up (ak.up (ak.ax bB g5.2 (eC A4 bB)) u6) u7) u8) (ak.up (ak.up (ak.up aU u6) u7) u8) ((aP.up u7).up u8);obtain⟨sa,sc,rfl⟩:=O8.cA.slice;rw[be.out]at Q8;obtain⟨L1,bx⟩:=bE (dW b lv1);obtain⟨L2,bA⟩:=bE (dW sp lv2);rw[<-bx]at L8 al;rw[<-bA]at M8 al;clear bx bA be aT;obtain⟨a7,ba,rfl⟩:=(ak.row Q8 pw).slice;obtain⟨bg,bj,rfl⟩:=(ak.row L8 pw).slice;obtain⟨bh,bk,rfl⟩:=(ak.row M8 pw).slice;have aE:[q].length=1:=rfl;rw[aE]at Q8 ⊢;obtain⟨wc,aF⟩:=bE (w8.alloc (.cells #[.slice a7 1 ba,.slice bg (κ L1) bj,.slice bh (κ L2) bk] 88));have U9:=an (ai w8 (.cells #[.slice a7 1 ba,.slice bg (κ L1) bj,.slice bh (κ L2) bk] 88));have IL:=an (show kI (w8.alloc (.cells #[.slice a7 1 ba,.slice bg (κ L1) bj,.slice bh (κ L2) bk] 88)) (cC w8.heap.size 3 3) [[q],L1,L2] from
  ⟨[⟨a7,1,ba⟩,⟨bg,κ L1,bj⟩,⟨bh,κ L2,bk⟩],aC.er _ _ rfl _ _ (0,0) _ 3 rfl dy rfl,rfl,λi hi _=>by
   match i,hi with
   | 0,_=>exact aG.up (ak.row Q8 pw) U9
   | 1,_=>exact aG.up (ak.row L8 pw) U9
   | 2,_=>exact aG.up (ak.row M8 pw) U9
   | (k+3),hi=>exact absurd hi aq⟩)
 have aH:1+(κ L1+κ L2)<=100000:=by have h1:=ao.out;rw[al.out]at h1;simp at h1;omega
 have CC:=an (zU _ _ _ IL (by simp[gQ];omega) (by simp[gQ];omega) aq);have FL:[[q],L1,L2].flatten=q::(L1++L2):=aq
 rw[FL]at CC;rw[<-aF]at CC U9;have bD:=an aF;clear FL aF aH;go_wp2_with(first
  | ((with_reducible refine eR _ _ ?_);refine kG rfl _ 0 1 (.tmp 82) (.tmp 83) rfl _ _ _ (zN _ _ _ _) rfl rfl ?_))
 rw[<-bD.out];refine CC.mono ?_;rintro e dv⟨v17,rfl,ov,bG⟩;obtain⟨bw,br,bp⟩:=aW ((G8.up U9).up bG) ((((((B4.ax g5.2 (A4.b' B4 av)).up u6).up u7).up u8).up U9).up bG) (ak.up (ak.up ou U9) bG);go_wp2_with(first|refine arm ?_|refine pH ?_);intro wz hbz ag;obtain⟨aJ,bH,bI,bJ,bK,bL⟩:=sk UU.size b2.lt G3.2.size G4.2.size G5.2.size G7.2.size;obtain⟨bN,bX⟩:=az G8.2.size U9.size;obtain⟨VZ,EZ⟩:=aw ((ak.kept ov ag (.inr (eA av br ov))).mono (base':=w.heap.size) ae) ((ak.kept bp ag (.inr (eA av br bp))).mono (base':=w.heap.size) ae);obtain⟨ys,y1,y2,y3⟩:=((O8.up U9).up bG);rw[<-al.out]at VZ;obtain⟨bU,bV,rfl⟩:=(ak.row VZ pw).slice;obtain⟨bo,bs,rfl⟩:=(ak.row EZ Ca).slice;go_wp2;exact kk (v:=.tuple #[.agg (aQ next (.slice sa (κ l) sc)),.slice bo (κ (aB f 4096)) bs,.slice bU (κ ps) bV,i6 0]) (GU rfl _ _ _ _ _ _ _ _ _ rfl rfl rfl rfl hbz _ underlying73 rfl (eu _ _)) rfl ⟨_,_,_,rfl,((show bt wz _ _ l from⟨ys,y1,ak.kept y2 ag (.inr (eA av br y2)),λy hy=>ak.kept (y3 y hy) ag (.inr (eA av br (y3 y hy)))⟩).mono (base':=w.heap.size) ae),EZ,VZ,(PG.grown bw ag (bw.1.b' br av) ae)⟩
def hN(full:List aj):Option (List aj):=match cY full with
 | some (v,s)=>if s=[] then some v else none
 | none=>none
def dR(full:List aj):Option (List aj × List aj):=match cY full with
 | some (v,s)=>if s=[] then none else some (v,s)
 | none=>none
def CV:Option (List aj)->ah
 | none=>.tuple #[.string ⟨#[]⟩,.int .i64 141]
 | some v=>.tuple #[.string (strOf v),.int .i64 0]
def a1(l:List ab)(full:List aj):Option Nat:=match dM l full with
 | .error _=>none
 | .ok i=>aK l (recAt l i).id
def ee(l:List ab)(full:List aj):Except Nat Nat:=match hN full with
 | none=>.error 141
 | some _=>match a1 l full with
  | none=>.error 172
  | some i=>.ok i
def Cl:Except Nat Nat->ah
 | .error n=>.tuple #[.int .i64 (-1),.int .i64 (n:Int)]
 | .ok i=>.tuple #[.int .i64 (i:Int),.int .i64 0]
section
variable {l:List ab} {full v s:List aj} {i:Nat}
theorem Mm(h:cY full=none):hN full=none:=by grind [hN]
theorem Mn(h:cY full=some (v,s))(h0:s=[]):hN full=some v:=by grind [hN]
theorem Mo(h:cY full=some (v,s))(h0:¬s=[]):hN full=none:=by grind [hN]
theorem Yu(h:cY full=none):dR full=none:=by grind [dR]
theorem Yv(h:cY full=some (v,s))(h0:s=[]):dR full=none:=by grind [dR]
theorem Yw(h:cY full=some (v,s))(h0:¬s=[]):dR full=some (v,s):=by grind [dR]
theorem Rh{n:Nat}(h:dM l full=.error n):a1 l full=none:=by grind [a1]
theorem Ri(h:dM l full=.ok i):a1 l full=aK l (recAt l i).id:=by grind [a1]
theorem Bj{n:Nat}(h:dM l full=.error n):n=141\/n=161:=ri
theorem Wz(h:hN full=none):ee l full=.error 141:=uM
theorem WA(h:hN full=some v)(h2:a1 l full=none):ee l full=.error 172:=uM
theorem WB(h:hN full=some v)(h2:a1 l full=some i):ee l full=.ok i:=uM
end
theorem qU(w:af)(full:List aj)(hf:κ full<=9223372036854775807):Aaf Aag 93 #[.string (strOf full)] w λe w'=>e=.returned (CV (hN full))/\Up w w':=by
 have SP:=an (jc w full hf);cases hs:cY full with
 | none=>rw[Mm hs];rw[hs]at SP;unfold gx at SP;unfold CV;clear hs;go_in;go_wp2_with fail;refine SP.mono ?_;rintro e w2⟨rfl,u2⟩;go_wp2;go_ret2;simp;omega
 | some vs=>
  obtain⟨vn,sn⟩:=vs;have aa:=fX sn;by_cases h0:sn=[]
  ·rw[Mn hs h0];rw[hs]at SP;unfold gx at SP;unfold CV;simp only at SP;rw[show decide (sn=[])=true from ao]at aa;have ae:((strOf sn).toList != [])=false:=by grind
   exact UR
  ·rw[Mo hs h0];rw[hs]at SP;unfold gx at SP;unfold CV;simp only at SP;rw[show decide (sn=[])=false from ao]at aa;have ae:((strOf sn).toList != [])=true:=by grind
   exact UR
def sg:Option (List aj × List aj)->ah
 | none=>.tuple #[.string ⟨#[]⟩,.string ⟨#[]⟩,.int .i64 141]
 | some (v,s)=>.tuple #[.string (strOf v),.string (strOf s),.int .i64 0]
theorem o9(w:af)(full:List aj)(hf:κ full<=9223372036854775807):Aaf Aag 141 #[.string (strOf full)] w λe w'=>e=.returned (sg (dR full))/\Up w w':=by
 have SP:=an (jc w full hf);cases hs:cY full with
 | none=>rw[Yu hs];rw[hs]at SP;unfold gx at SP;unfold sg;clear hs;go_in;go_wp2_with fail;refine SP.mono ?_;rintro e w2⟨rfl,u2⟩;go_wp2;go_ret3;simp;omega
 | some vs=>
  obtain⟨vn,sn⟩:=vs;have aa:=fX sn;by_cases h0:sn=[]
  ·rw[Yv hs h0];rw[hs]at SP;unfold gx at SP;unfold sg;simp only at SP;rw[show decide (sn=[])=true from ao]at aa;have ae:((strOf sn).toList != [])=false:=by grind
   exact US
  ·rw[Yw hs h0];rw[hs]at SP;unfold gx at SP;unfold sg;simp only at SP;rw[show decide (sn=[])=false from ao]at aa;have ae:((strOf sn).toList != [])=true:=by grind
   exact US
theorem mm(w:af)(next:Nat)(v:ah)(l:List ab)(hv:cy w v l)(hr:∀x∈l,κ x.dead*24<=140737488355328)(full:List aj)(hf:κ full<=9223372036854775807):Aaf Aag 95 #[.agg (aQ next v),.string (strOf full)] w λe w'=>e=.returned (i6 (eJ (a1 l full)))/\Up w w':=by
 obtain⟨a,cap,rfl⟩:=hv.slice;have U1:=an (ai w (.cells (aQ next (.slice a (κ l) cap)) 73));have B1:=aI.new w 73 (aQ next (.slice a (κ l) cap));have c1:(w.alloc (.cells (aQ next (.slice a (κ l) cap)) 73)).cell? (ad w.heap.size 1)=some (.slice a (κ l) cap):=B1.cell 1;obtain⟨C1,HV⟩:=aw c1 (hv.up U1);go_in;go_wp2_with(refine arm ?_);refine(rC _ _ l HV hr _ hf).mono ?_;rintro e w2(⟨n,hn,rfl,u2⟩|⟨i,vd,hi,aH,rfl,od,u2⟩)
 ·have HE:=an (show eJ (a1 l full)=-1 from by rw[Rh hn];rfl);have nz:((n:Int) != 0)=true:=by have:n=141\/n=161:=Bj hn;simp;omega
  obtain⟨IZ,OZ⟩:=aw il ie;clear hn c1;go_wp2_with(refine arm ?_);go_ret;exact⟨ll,((U1.trans u2).trans (ai _ _))⟩
 ·have HE:=an (show a1 l full=aK l (recAt l i).id from Ri hi);obtain⟨da,dc,rfl⟩:=(ak.row od pw).slice;have U3:=an (ai w2 (.cells (b7 (recAt l i) (.slice da (κ (recAt l i).dead) dc)) 90));have B3:=(aI.new w2 90 (b7 (recAt l i) (.slice da (κ (recAt l i).dead) dc)));have d1:(w2.alloc (.cells (b7 (recAt l i) (.slice da (κ (recAt l i).dead) dc)) 90)).cell? (ad w2.heap.size 0)=some (u6 ((recAt l i).id:Int)):=B3.cell 0;have e1:(w2.alloc (.cells (b7 (recAt l i) (.slice da (κ (recAt l i).dead) dc)) 90)).cell? (ad w.heap.size 1)=some (.slice a (κ l) cap):=U3.cell (u2.cell C1);obtain⟨PL,IZ,OZ⟩:=aW (o6 _ _ l ((HV.up u2).up U3) (recAt l i).id) (ke (recAt l i) (.slice da (κ (recAt l i).dead) dc)) (mu (recAt l i) da (κ (recAt l i).dead) dc);clear hi c1;generalize recAt l i=x at *;go_wp2_with(refine arm ?_);refine PL.mono ?_;rintro e w3⟨rfl,u3⟩;go_wp2;go_ret;exact⟨ll,((U1.trans u2).trans U3).trans u3⟩
theorem bt.Ik{w w':af}{v:ah}{C:Array ah}(h:bt w base v l)(hb:aI w g 73 C)(hg:w.grownBy w' (some g)):bt w' base v l:=by obtain⟨ys,h1,h2,h3⟩:=h;exact⟨ys,h1,ak.kept h2 hg (.inr (eA av hb h2)),λy hy=>ak.kept (h3 y hy) hg (.inr (eA av hb (h3 y hy)))⟩
def aaG(base next:Nat)(l:List ab)(vd:ah)(w:af)(e:Ab3)(w':af):Prop:=∃(v':ah)(ys:List gJ),e=.returned (.agg (aQ next v'))/\ys.map (·.d)=l/\(os base v' ys).P w'/\(∀n,(os base v' ys).F n->w.heap.size<=n/\n<w'.heap.size\/vd.ownBlock=some n)/\Up w w'
theorem Ed(w:af)(next:Nat)(v:ah)(l:List ab)(hv:cy w v l)(hr:∀x∈l,κ x.dead*24<=140737488355328)(full:List aj)(hf:κ full<=9223372036854775807):Aaf Aag 144 #[.agg (aQ next v),.string (strOf full)] w λe w'=>e=.returned (Cl (ee l full))/\Up w w':=by
 obtain⟨a,cap,rfl⟩:=hv.slice;obtain⟨U1,B1,VN,RN⟩:=bS (ai w (.cells (aQ next (.slice a (κ l) cap)) 73)) (aI.new w 73 (aQ next (.slice a (κ l) cap))) (qU (w.alloc (.cells (aQ next (.slice a (κ l) cap)) 73)) full hf) (λW (u:Up w W)=>mm W next _ l (hv.up u) hr full hf);clear hv hr hf;cases hvo:hN full with
 | none=>
  have HE:=an (Wz (l:=l) hvo);rw[hvo]at VN;unfold CV at VN;clear hvo;go_in;go_wp2_with(first
   | refine gY 73 0 (aQ next (.slice a (κ l) cap)) ?_)
  refine VN.mono ?_;rintro e w2⟨rfl,u2⟩;obtain⟨U2,B2⟩:=aw (U1.trans u2) (B1.up u2);clear u2;go_wp2_with fail;go_ret2;exact⟨ll,U2⟩
 | some vn=>
  rw[hvo]at VN;unfold CV at VN;simp only at VN;cases hn:a1 l full with
  | none=>have HE:=an (WA hvo hn);rw[hn]at RN;unfold eJ at RN;exact Uk
  | some i=>
   have HE:=an (WB hvo hn);rw[hn]at RN;unfold eJ at RN;simp only at RN;have b1:((i:Int)<0)=False:=aq
   exact Uk
theorem ts(w:af)(next:Nat)(v:ah)(l:List ab)(hv:cy w v l)(hl:κ l<=1000)(hr:∀x∈l,κ x.dead*24<=140737488355328)(hn:next<18446744073709551615)(base:Nat)(ag:base<=w.heap.size)(x:ab)(vd:ah)(hd:a8 w base vd x.dead):Aaf Aag 96 #[.agg (aQ next v),.agg (b7 x vd)] w λe w'=>aaG base (next+1) (l++[x]) vd w e w':=by
 obtain⟨a,cap,rfl⟩:=hv.slice;obtain⟨da,dc,rfl⟩:=(ak.row hd pw).slice;have s:=Fr.start w;have wn:IntKind.u64.wrap ((next:Int)+1)=((next+1:Nat):Int):=IntWalk.u64_in _ ae;go_in;go_wp2_with(refine fw s ?_;intro _ w s);refine cT ?_;intro w vx ox u;obtain⟨ax,cx,rfl⟩:=ox.cA.slice;obtain⟨ys,e,z⟩:=Rz.s2 ox u s.t.size;obtain⟨s,hy⟩:=az (s.ab7 z) (Z' e);replace e:=an e;replace hy:=an hy;have au:=an (show κ ys<=1000 from hy ▸ hl);go_wp2_with(first|(refine fw s ?_;intro _ w s)|(refine Xp s ?_;intro g w s)|(at_builtin;refine fap s ?_ (hl:=au);intro a7 c7 w s));refine br ?_;have d:=ak.up hd s.pure;have r:ak _ _ _ _ _ _ _:=s.p (Yq _ (.slice a7 (κ ys+1) c7) _) gB;have q:∀y∈ys,_:=s.p (Vu _ ys) gB;refine⟨_,ys++[⟨x,da,κ x.dead,dc⟩],rfl,by rw[Aao,e.out];rfl,⟨r.mono ag,λy hy=>?_⟩,λn hn=>?_,s.pure⟩
 ·rcases Aa3.1 hy with h|h
  ·exact(q y h).mono ag
  ·rw[jF.1 h];exact d
 ·rcases hn with hn|⟨y,hy,hn⟩
  ·exact .inl (r.aJ n hn)
  ·rcases Aa3.1 hy with h|h
   ·exact .inl ((q y h).aJ n hn)
   ·rw[jF.1 h]at hn;exact .inr hn
def Ht(r:Except Nat (Nat × List ab))(w:af)(e:Ab3)(w':af):Prop:=(∃(n nx:Nat)(va:Option Addr)(vm vc:Nat),r=.error n/\e=.returned (.tuple #[.agg (aQ nx (.slice va vm vc)),.int .i64 (n:Int)])/\Up w w')\/(∃(nx:Nat)(l':List ab)(v':ah),r=.ok (nx,l')/\e=.returned (.tuple #[.agg (aQ nx v'),.int .i64 0])/\bt w' w.heap.size v' l'/\Up w w')
section
variable {P:bu}
end
def ec(id:Nat)(name:List aj)(blocks:Int):ab:=⟨id,name,false,id,0,0,blocks,hole,[]⟩
theorem Eu(id:Nat)(name:List aj)(blocks:Int):prog.built 90 [(0,u6 (id:Int)),(1,.string (strOf name)),(3,u6 (id:Int)),(6,i6 blocks)]=some (b7 (ec id name blocks) (nl)):=al
def cD(next:Nat)(l:List ab)(full:List aj)(blocks:Int):Except Nat (Nat × List ab):=match hN full with
 | none=>.error 141
 | some et=>if blocks<1\/blocks>64 then .error 176 else if 32<=κ l then .error 175 else match a1 l full with
  | some _=>.error 171
  | none=>.ok (next+1,l++[ec next et blocks])
section
variable {next:Nat} {l:List ab} {full et:List aj} {blocks:Int} {i:Nat}
theorem PK(h:hN full=none):cD next l full blocks=.error 141:=s4
theorem PL(h:hN full=some et)(h1:blocks<1\/blocks>64):cD next l full blocks=.error 176:=s4
theorem PM(h:hN full=some et)(h1:¬(blocks<1\/blocks>64))(h2:32<=κ l):cD next l full blocks=.error 175:=s4
theorem PN(h:hN full=some et)(h1:¬(blocks<1\/blocks>64))(h2:¬32<=κ l)(h3:a1 l full=some i):cD next l full blocks=.error 171:=s4
theorem PO(h:hN full=some et)(h1:¬(blocks<1\/blocks>64))(h2:¬32<=κ l)(h3:a1 l full=none):cD next l full blocks=.ok (next+1,l++[ec next et blocks]):=s4
end
theorem z1(w:af)(next:Nat)(v:ah)(l:List ab)(hv:cy w v l)(hl:κ l<=1000)(hr:∀x∈l,κ x.dead*24<=140737488355328)(hn:next<18446744073709551615)(full:List aj)(hf:κ full<=9223372036854775807)(blocks:Int):Aaf Aag 42 #[.agg (aQ next v),.string (strOf full),.int .i64 blocks] w λe w'=>Ht (cD next l full blocks) w e w':=by
 obtain⟨a,cap,rfl⟩:=hv.slice;have s:=Fr.start w;go_in;go_wp2_with(refine fw s ?_;intro _ w s);refine(qU w full hf).mono ?_;refine ez ?_;intro w u s;cases hvo:hN full with
 | none=>simp only[CV];go_wp2_with(refine fw s ?_;intro _ w s);refine cT ?_;intro w vx ox u;obtain⟨ax,cx,rfl⟩:=ox.cA.slice;refine cW ?_;intro ys e z s;go_wp2_with(refine fw s ?_;intro _ w s);refine br ?_;exact .inl ⟨141,_,_,_,_,PK hvo,rfl,s.pure⟩
 | some et=>
  simp only[CV];by_cases h1:blocks<1\/blocks>64
  ·have g1:(blocks<1)=True\/(blocks<1)=False/\(blocks>64)=True:=by
    by_cases h:blocks<1
    ·exact .inl (dU h)
    ·exact .inr ⟨cG h,dU ae⟩
   rcases g1 with g1|⟨g1,g2⟩
   all_goals
    go_wp2_with(refine fw s ?_;intro _ w s);refine cT ?_;intro w vx ox u;obtain⟨ax,cx,rfl⟩:=ox.cA.slice;refine cW ?_;intro ys e z s;go_wp2_with(refine fw s ?_;intro _ w s);refine br ?_;exact .inl ⟨176,_,_,_,_,PL hvo h1,rfl,s.pure⟩
  have g1:(blocks<1)=False:=cG ae;have g2:(blocks>64)=False:=cG ae;by_cases h2:32<=κ l
  ·have g3:((κ l:Int)>=32)=True:=dU ae;go_wp2_with(refine fw s ?_;intro _ w s);refine cT ?_;intro w vx ox u;obtain⟨ax,cx,rfl⟩:=ox.cA.slice;refine cW ?_;intro ys e z s;go_wp2_with(refine fw s ?_;intro _ w s);refine br ?_;exact .inl ⟨175,_,_,_,_,PM hvo h1 h2,rfl,s.pure⟩
  have g3:((κ l:Int)>=32)=False:=cG ae;go_wp2_with(refine fw s ?_;intro _ w s);refine Gc ?_;intro w u s;cases aO:a1 l full with
  | some i=>simp only[eJ];have g4:((i:Int)>=0)=True:=dU ae;go_wp2_with(refine fw s ?_;intro _ w s);refine cT ?_;intro w vx ox u;obtain⟨ax,cx,rfl⟩:=ox.cA.slice;refine cW ?_;intro ys e z s;go_wp2_with(refine fw s ?_;intro _ w s);refine br ?_;exact .inl ⟨171,_,_,_,_,PN hvo h1 h2 aO,rfl,s.pure⟩
  | none=>simp only[eJ];have BN:=an (Eu next et blocks);go_wp2_with(refine fw s ?_;intro _ w s);refine(ts w next _ l (hv.up s.pure) hl hr hn _ s.t.size (ec next et blocks) nl (ak.nil _ _ _ _ _)).mono ?_;rintro e w⟨v',ys,rfl,e0,p,f,u⟩;have e:=an e0;clear e0;obtain⟨ax,cx,rfl⟩:=(ak.row p.1 lK).slice;have s:=s.new (.one u p λn h=>(f n h).resolve_right sU);go_wp2_with(refine fw s ?_;intro _ w s);refine br ?_;exact .inr ⟨_,_,_,PO hvo h1 h2 aO,rfl,by rw[<-e.out];exact s.cA,s.pure⟩
theorem bt.at{v:ah}(h:bt w base v l)(h0:0<κ l):∃g cap,v=cC g (κ l) cap/\base<=g:=by obtain⟨ys,h1,h2,h3⟩:=h;obtain⟨_,h4⟩:=h2;grind
theorem h6{full:List aj}(h:a1 l full=some i):i<κ l:=by
 unfold a1 at h;split at h
 ·cases h
 ·exact(cP h).1
def jS(next:Nat)(x:ab)(sn:List aj)(ay:Nat):ab:={x with id:=next,name:=sn,aT:=true,owner:=x.id,ay:=ay}
def nO(next:Nat)(x:ab):ab:={x with prev:=next,dead:=[]}
def eG(next:Nat)(l:List ab)(full:List aj)(ay:Nat):Except Nat (Nat × List ab):=match dR full with
 | none=>.error 141
 | some (et,sn)=>match a1 l et with
  | none=>.error 172
  | some i=>if 32<=κ l then .error 175 else match a1 l full with
   | some _=>.error 171
   | none=>if ay<1\/ay>281474976710655\/ay<=bY l (recAt l i).id then .error 176 else .ok (next+1,(l++[jS next (recAt l i) sn ay]).set i (nO next (recAt l i)))
section
variable {next:Nat} {l:List ab} {full et sn:List aj} {ay i j:Nat}
theorem Yx(h:dR full=none):eG next l full ay=.error 141:=qt
theorem Yy(h:dR full=some (et,sn))(h1:a1 l et=none):eG next l full ay=.error 172:=qt
theorem Yz(h:dR full=some (et,sn))(h1:a1 l et=some i)(h2:32<=κ l):eG next l full ay=.error 175:=qt
theorem YA(h:dR full=some (et,sn))(h1:a1 l et=some i)(h2:¬32<=κ l)(h3:a1 l full=some j):eG next l full ay=.error 171:=qt
theorem G3(h:dR full=some (et,sn))(h1:a1 l et=some i)(h2:¬32<=κ l)(h3:a1 l full=none)(h4:ay<1\/ay>281474976710655\/ay<=bY l (recAt l i).id):eG next l full ay=.error 176:=qt
theorem YB(h:dR full=some (et,sn))(h1:a1 l et=some i)(h2:¬32<=κ l)(h3:a1 l full=none)(h4:¬(ay<1\/ay>281474976710655\/ay<=bY l (recAt l i).id)):eG next l full ay=.ok (next+1,(l++[jS next (recAt l i) sn ay]).set i (nO next (recAt l i))):=qt
theorem Rw(h:dR full=some (et,sn)):κ et<=κ full:=by grind [dR,cY]
end
theorem Jm(w:af)(next:Nat)(v:ah)(l:List ab)(hv:cy w v l)(hl:κ l<=1000)(hr:∀x∈l,κ x.dead*24<=140737488355328)(hn:next<18446744073709551615)(full:List aj)(hf:κ full<=9223372036854775807)(ay:Nat)(aF:ay<18446744073709551616):Aaf Aag 77 #[.agg (aQ next v),.string (strOf full),.int .u64 (ay:Int)] w λe w'=>Ht (eG next l full ay) w e w':=by
 obtain⟨a,cap,rfl⟩:=hv.slice;have s:=Fr.start w;go_in;go_wp2_with(refine fw s ?_;intro _ w s);refine(o9 w full hf).mono ?_;refine ez ?_;intro w u s;cases hvo:dR full with
 | none=>simp only[sg];go_wp2_with(refine fw s ?_;intro _ w s);refine cT ?_;intro w vx ox u;obtain⟨ax,cx,rfl⟩:=ox.cA.slice;refine cW ?_;intro ys e z s;go_wp2_with(refine fw s ?_;intro _ w s);refine br ?_;exact .inl ⟨141,_,_,_,_,Yx hvo,rfl,s.pure⟩
 | some vs=>
  obtain⟨et,sn⟩:=vs;replace hvo:=an hvo;simp only[sg];go_wp2_with(refine fw s ?_;intro _ w s);refine(mm w next _ l (hv.up s.pure) hr et (bO (Rw hvo) hf)).mono ?_;refine ez ?_;intro w u s;cases aK:a1 l et with
  | none=>simp only[eJ];go_wp2_with(refine fw s ?_;intro _ w s);refine cT ?_;intro w vx ox u;obtain⟨ax,cx,rfl⟩:=ox.cA.slice;refine cW ?_;intro ys e z s;go_wp2_with(refine fw s ?_;intro _ w s);refine br ?_;exact .inl ⟨172,_,_,_,_,Yy hvo aK,rfl,s.pure⟩
  | some i=>
   have hi:=h6 aK;replace aK:=an aK;refine F8 ?_;intro b1 b2 b3;by_cases h2:32<=κ l
   ·have g3:((κ l:Int)>=32)=True:=dU ae;go_wp2_with(refine fw s ?_;intro _ w s);refine cT ?_;intro w vx ox u;obtain⟨ax,cx,rfl⟩:=ox.cA.slice;refine cW ?_;intro ys e z s;go_wp2_with(refine fw s ?_;intro _ w s);refine br ?_;exact .inl ⟨175,_,_,_,_,Yz hvo aK h2,rfl,s.pure⟩
   have g3:((κ l:Int)>=32)=False:=cG ae;go_wp2_with(refine fw s ?_;intro _ w s);refine Gc ?_;intro w u s;cases aO:a1 l full with
   | some j=>simp only[eJ];have g4:((j:Int)>=0)=True:=dU ae;go_wp2_with(refine fw s ?_;intro _ w s);refine cT ?_;intro w vx ox u;obtain⟨ax,cx,rfl⟩:=ox.cA.slice;refine cW ?_;intro ys e z s;go_wp2_with(refine fw s ?_;intro _ w s);refine br ?_;exact .inl ⟨171,_,_,_,_,YA hvo aK h2 aO,rfl,s.pure⟩
   | none=>
    replace aO:=an aO;simp only[eJ];obtain⟨b,off,ar,aT,da,dc,rg,dp⟩:=bZ hv hi;subst ar;have i0:=(cd rg).1;by_cases g5:ay<1
    ·have t5:((ay:Int)<1)=True:=dU ae;go_wp2_with(refine fw s ?_;intro _ w s);refine cT ?_;intro w vx ox u;obtain⟨ax,cx,rfl⟩:=ox.cA.slice;refine cW ?_;intro ys e z s;go_wp2_with(refine fw s ?_;intro _ w s);refine br ?_;exact .inl ⟨176,_,_,_,_,G3 hvo aK h2 aO (.inl g5),rfl,s.pure⟩
    have t5:((ay:Int)<1)=False:=cG ae;by_cases g6:ay>281474976710655
    ·have t6:((ay:Int)>281474976710655)=True:=dU ae;go_wp2_with(refine fw s ?_;intro _ w s);refine cT ?_;intro w vx ox u;obtain⟨ax,cx,rfl⟩:=ox.cA.slice;refine cW ?_;intro ys e z s;go_wp2_with(refine fw s ?_;intro _ w s);refine br ?_;exact .inl ⟨176,_,_,_,_,G3 hvo aK h2 aO (.inr (.inl g6)),rfl,s.pure⟩
    have t6:((ay:Int)>281474976710655)=False:=cG ae;go_wp2_with(refine fw s ?_;intro _ w s);refine(q4 w _ l (hv.up s.pure) (recAt l i).id).mono ?_;rintro e _⟨rfl,rfl⟩;by_cases g7:ay<=bY l (recAt l i).id
    ·have t7:((ay:Int)<=(bY l (recAt l i).id:Int))=True:=dU ae;go_wp2_with(refine fw s ?_;intro _ w s);refine cT ?_;intro w vx ox u;obtain⟨ax,cx,rfl⟩:=ox.cA.slice;refine cW ?_;intro ys e z s;go_wp2_with(refine fw s ?_;intro _ w s);refine br ?_;exact .inl ⟨176,_,_,_,_,G3 hvo aK h2 aO (.inr (.inr g7)),rfl,s.pure⟩
    have t7:((ay:Int)<=(bY l (recAt l i).id:Int))=False:=cG ae;go_wp2_with(refine fw s ?_;intro _ w s);refine(lT w (recAt l i) _ (aG.up dp s.pure) (hr _ (by rw[b0 hi];exact cm hi))).mono ?_;rintro e w⟨vd,rfl,od,u⟩;obtain⟨na,nc,rfl⟩:=(ak.row od pw).slice;have s:=s.new (.q od u s.t.size);obtain⟨x,hx⟩:=bE (recAt l i);have HX:=an hx;rw[<-hx]at s ⊢;clear hx;go_wp2_with(refine fw s ?_;intro _ w s);refine(ts w next _ l (hv.up s.pure) hl hr hn _ s.t.size (jS next x sn ay) _ s.I0).mono ?_;rintro e w⟨v',ys,rfl,e0,p,f,u⟩;obtain⟨g,cx,rfl,_⟩:=(show bt w _ v' _ from⟨ys,e0,p⟩).at aq;have s:=s.aaT p f u;have ad:i<κ ys:=by rw[<-Aac (f:=gJ.d),e0,Aae];omega
    have ed:ys[i].d=recAt l i:=by rw[OP e0 ad,b0 (by rw[Aae];omega),b0 hi,wx]
    have e:=an e0;obtain⟨n9,aa⟩:=bE (κ (l++[jS next x sn ay]));rw[<-aa]at s ⊢;have b4:((i:Int)<(n9:Int))=True:=by rw[aa,Aae];simp;omega
    clear e0 aa p f;go_wp2_with(refine fw s ?_;intro _ w s);refine kv s (λw s=>?_);repeat refine kt ?_
    refine kq i 4 ⟨{ys[i].d with prev:=next},ys[i].a,ys[i].n,ys[i].c⟩ (λw s=>?_) (iI ad);repeat refine kt ?_
    refine kq i 10 ⟨nO next ys[i].d,none,0,0⟩ (λw s=>?_) (y1 ad);repeat refine kt ?_
    refine kd (λw u s=>?_);go_wp2_with(refine fw s ?_;intro _ w s);refine br ?_;refine .inr ⟨_,_,_,YB hvo aK h2 aO ae,rfl,?_,s.pure⟩;have:=s.cA;rw[qm,qm,e.out,y2,ed]at this;rw[<-HX.out]at this ⊢;exact this
section
variable {P:bu} {ops:Array Abi} {S:af->Prop} {o:Abi} {a:Act} {v:ah}
end
def fi(next:Nat)(et:List aj)(x:ab):ab:=⟨next,et,false,next,x.id,0,x.blocks,x.root,[]⟩
theorem CC(next:Nat)(et:List aj)(x:ab):prog.built 90 [(0,u6 (next:Int)),(1,.string (strOf et)),(3,u6 (next:Int)),(4,u6 (x.id:Int)),(6,i6 x.blocks),(7,.agg (a6 x.root))]=some (b7 (fi next et x) (nl)):=al
def dq(next:Nat)(l:List ab)(mZ to:List aj):Except Nat (Nat × List ab):=match dR mZ with
 | none=>.error 141
 | some _=>match hN to with
  | none=>.error 141
  | some et=>match a1 l mZ with
   | none=>.error 172
   | some i=>if 32<=κ l then .error 175 else match a1 l to with
    | some _=>.error 171
    | none=>.ok (next+1,l++[fi next et (recAt l i)])
section
variable {next:Nat} {l:List ab} {mZ to et:List aj} {vs:List aj × List aj} {i j:Nat}
theorem SY(h:dR mZ=none):dq next l mZ to=.error 141:=rj
theorem SZ(h:dR mZ=some vs)(h1:hN to=none):dq next l mZ to=.error 141:=rj
theorem S0(h:dR mZ=some vs)(h1:hN to=some et)(h2:a1 l mZ=none):dq next l mZ to=.error 172:=rj
theorem S1(h:dR mZ=some vs)(h1:hN to=some et)(h2:a1 l mZ=some i)(h3:32<=κ l):dq next l mZ to=.error 175:=rj
theorem S2(h:dR mZ=some vs)(h1:hN to=some et)(h2:a1 l mZ=some i)(h3:¬32<=κ l)(h4:a1 l to=some j):dq next l mZ to=.error 171:=rj
theorem S3(h:dR mZ=some vs)(h1:hN to=some et)(h2:a1 l mZ=some i)(h3:¬32<=κ l)(h4:a1 l to=none):dq next l mZ to=.ok (next+1,l++[fi next et (recAt l i)]):=rj
end
theorem Db(w:af)(next:Nat)(v:ah)(l:List ab)(hv:cy w v l)(hl:κ l<=1000)(hr:∀x∈l,κ x.dead*24<=140737488355328)(hn:next<18446744073709551615)(mZ to:List aj)(hf:κ mZ<=9223372036854775807)(av:κ to<=9223372036854775807):Aaf Aag 78 #[.agg (aQ next v),.string (strOf mZ),.string (strOf to)] w λe w'=>Ht (dq next l mZ to) w e w':=by
 obtain⟨a,cap,rfl⟩:=hv.slice;have s:=Fr.start w;go_in;go_wp2_with(refine fw s ?_;intro _ w s);refine(o9 w mZ hf).mono ?_;refine ez ?_;intro w u s;cases aD:dR mZ with
 | none=>simp only[sg];go_wp2_with(refine fw s ?_;intro _ w s);refine cT ?_;intro w vx ox u;obtain⟨ax,cx,rfl⟩:=ox.cA.slice;refine cW ?_;intro ys e z s;go_wp2_with(refine fw s ?_;intro _ w s);refine br ?_;exact .inl ⟨141,_,_,_,_,SY aD,rfl,s.pure⟩
 | some vs=>
  replace aD:=an aD;simp only[sg];go_wp2_with(refine fw s ?_;intro _ w s);refine(qU w to av).mono ?_;refine ez ?_;intro w u s;cases hvo:hN to with
  | none=>simp only[CV];go_wp2_with(refine fw s ?_;intro _ w s);refine cT ?_;intro w vx ox u;obtain⟨ax,cx,rfl⟩:=ox.cA.slice;refine cW ?_;intro ys e z s;go_wp2_with(refine fw s ?_;intro _ w s);refine br ?_;exact .inl ⟨141,_,_,_,_,SZ aD hvo,rfl,s.pure⟩
  | some et=>
   replace hvo:=an hvo;simp only[CV];go_wp2_with(refine fw s ?_;intro _ w s);refine(mm w next _ l (hv.up s.pure) hr mZ hf).mono ?_;refine ez ?_;intro w u s;cases al:a1 l mZ with
   | none=>simp only[eJ];go_wp2_with(refine fw s ?_;intro _ w s);refine cT ?_;intro w vx ox u;obtain⟨ax,cx,rfl⟩:=ox.cA.slice;refine cW ?_;intro ys e z s;go_wp2_with(refine fw s ?_;intro _ w s);refine br ?_;exact .inl ⟨172,_,_,_,_,S0 aD hvo al,rfl,s.pure⟩
   | some i=>
    have hi:=h6 al;replace al:=an al;refine F8 ?_;intro b1 b2 b3;by_cases h3:32<=κ l
    ·have g3:((κ l:Int)>=32)=True:=dU ae;go_wp2_with(refine fw s ?_;intro _ w s);refine cT ?_;intro w vx ox u;obtain⟨ax,cx,rfl⟩:=ox.cA.slice;refine cW ?_;intro ys e z s;go_wp2_with(refine fw s ?_;intro _ w s);refine br ?_;exact .inl ⟨175,_,_,_,_,S1 aD hvo al h3,rfl,s.pure⟩
    have g3:((κ l:Int)>=32)=False:=cG ae;go_wp2_with(refine fw s ?_;intro _ w s);refine(mm w next _ l (hv.up s.pure) hr to av).mono ?_;refine ez ?_;intro w u s;cases ad:a1 l to with
    | some j=>simp only[eJ];have g4:((j:Int)>=0)=True:=dU ae;go_wp2_with(refine fw s ?_;intro _ w s);refine cT ?_;intro w vx ox u;obtain⟨ax,cx,rfl⟩:=ox.cA.slice;refine cW ?_;intro ys e z s;go_wp2_with(refine fw s ?_;intro _ w s);refine br ?_;exact .inl ⟨171,_,_,_,_,S2 aD hvo al h3 ad,rfl,s.pure⟩
    | none=>
     replace ad:=an ad;simp only[eJ];obtain⟨b,off,ar,aT,da,dc,rg,dp⟩:=bZ hv hi;subst ar;obtain⟨i0,j6,i7⟩:=cX ((cd rg).1) (rg 6 _ rfl) (VI rg);have BN:=an (CC next et (recAt l i));go_wp2_with(refine fw s ?_;intro _ w s);refine kw 20 s (λw s=>?_);repeat refine kt ?_
     refine CI (λw _ s=>ts w next _ l (hv.up s.pure) hl hr hn _ s.t.size (fi next et (recAt l i)) nl (ak.nil _ _ _ _ _)) ?_;rintro w _ s _ w'⟨v',ys,rfl,e0,p,f,u⟩;have e:=an e0;clear e0;obtain⟨ax,cx,rfl⟩:=(ak.row p.1 lK).slice;refine⟨_,_,rfl,.one u p λn h=>(f n h).resolve_right sU,?_⟩;refine ks (λw s=>?_);refine kt ?_;refine kd (λw u s=>?_);go_wp2_with fail;refine br ?_;exact .inr ⟨_,_,_,S3 aD hvo al h3 ad,rfl,by rw[<-e.out];exact s.cA,s.pure⟩
theorem nR(z:Array ah)(n:Nat):κ (Abg z n).toList=n*z.size:=by simp[Abg]
theorem CO(t e ty tb:Aab)(z:Array ah)(ht:P.underlying t=some (.slice e))(hv:∀w,(Ab9 e).run P w=.ok (.agg z) w)(h1:z.all (·.oneCell')=true)(hz:0<z.size)(g o n c:Nat)(hn:0<n)(C:Array ah)(hb:aI w g tb C)(hfit:o+n*z.size<=C.size):(Adv #[t] ty #[sq g o n c]).run P w=.ok (.tuple #[]) (w.setRow g (C.toList.take o++(Abg z n).toList++C.toList.drop (o+n*z.size)).toArray):=by
 have aF:=wq (P:=P) g o tb (Abg z n).toList 0 C w hb (by grind [nR]) (λv ak=>by
  have ax:v∈Abg z n:=by simpa using ak
  unfold Abg at ax;rw[Array.mem_map]at ax;obtain⟨k,_,rfl⟩:=ax;have hk:k%z.size<z.size:=uz _ hz;rw[getElem!_pos z _ hk];exact(wu.1 h1) _ (Array.getElem_mem hk))
 rw[nR]at aF;simp only[Nat.add_zero]at aF;obtain⟨m,rfl⟩:∃m,n=m+1:=⟨n-1,ae⟩;simp[Adv,run_underlying ht,hv,Value.cells,aF]
theorem ak.cut{f:α->List ah}(hw:gi f k){xs:List α}(h:ak f k e w base (cC g n cap) xs)(i:Nat)(hi:i<=κ xs):ak f k e w base (cC g i cap) (xs.take i):=by
 obtain⟨h1,h2⟩:=h;have hl:κ (xs.take i)=i:=ao
 rcases h2 with⟨h3,_⟩|⟨g',al,cur,h3,h4,h5,h6,h7,h8,h9⟩
 ·simp at h3
 ·simp at h3;obtain⟨rfl,rfl,rfl⟩:=h3;refine⟨by rw[hw.flat],.inr ⟨g,cap,cur,ao,h4,h5,ae,h7,h8,?_⟩⟩;rw[hl];have e1:xs.flatMap f=(xs.take i).flatMap f++(xs.drop i).flatMap f:=by rw[<-gl,fO]
  have e2:κ ((xs.take i).flatMap f)=i*k:=by rw[hw.flat,hl]
  have e3:(cur.toList.take (κ xs*k)).take (i*k)=(xs.flatMap f).take (i*k):=by rw[h9]
  grind
theorem ak.SX{f:α->List ah}{xs:List α}(h:ak f k e w base (cC g n cap) xs):∃C:Array ah,aI w g e C/\C.size=cap*k/\n=κ xs/\n<=cap/\∀L:List ah,n*k+κ L<=C.size->ak f k e (w.setRow g (C.toList.take (n*k)++L++C.toList.drop (n*k+κ L)).toArray) base (cC g n cap) xs:=by
 obtain⟨h1,h2⟩:=h;rcases h2 with⟨h3,_⟩|⟨g',al,cur,h3,h4,h5,h6,h7,h8,h9⟩
 ·simp at h3
 ·simp at h3;obtain⟨rfl,rfl,rfl⟩:=h3;refine⟨cur,h5,h8,rfl,h6,λL hL=>⟨h1,.inr ⟨g,cap,_,rfl,h4,aI.set h5 _,h6,h7,?_,?_⟩⟩⟩
  ·simp;omega
  ·simp_all
theorem wU:prog.underlying 71=some (.slice (prog.elem 71)):=al
theorem wV:∀W:af,(sizeOf (prog.elem 71)).run Aag W=.ok 11 W:=λW=>by rw[show prog.elem 71=90 from aA];obtain⟨i,hi,_,hz1,_⟩:=jC j';simp[sizeOf,typeInfo,hi,hz1]
theorem z7(w:af)(base g cap n:Nat)(ys:List gJ)(hn:n=κ ys)(h2:ak dg 11 90 w base (cC g n cap) ys)(h3:∀y∈ys,a8 w base y.v y.d.dead)(i:Nat)(hi:i<κ ys)(hl:κ ys<=1000):Aaf Aag 204 #[cC g n cap,i6 (i:Int),i6 ((i:Int)+1)] w λe w'=>e=.returned (cC g (n-1) cap)/\(ak dg 11 90 w' base (cC g (n-1) cap) (ys.eraseIdx i)/\∀y∈ys.eraseIdx i,a8 w' base y.v y.d.dead)/\Touch (·=g) w w':=by
 subst hn;obtain⟨m,hm⟩:∃m,κ ys=m+1:=⟨κ ys-1,ae⟩;have au:=hm;rw[hm]at h2 hi ⊢;rw[show m+1-1=m from rfl];obtain⟨C0,aK,ad,-,aR,-⟩:=ak.SX h2;have ai:=ak.up h2 (Up.drew (Up.refl w));obtain⟨al,ah⟩:=aw (ak.cut lK ai i ae) (aG.part lK (ak.row ai lK) (lo:=i+1) (hi:=m+1) ae ae);rw[dk ae]at ah;obtain⟨H3,H2,HI,BW⟩:=bS (λy hy=>ak.up (h3 y hy) (Up.drew (Up.refl w))) ai hi (show base<=w.drew.heap.size from by have:=h2.aJ g rfl;show base<=w.heap.size;omega);have bb:∀W,(Aav 71 (cC g (m+1) cap) none (some (i6 (i:Int))) none).run Aag W=.ok (partOf 11 (some ⟨g,0,none⟩) 0 i cap) W:=λW=>xS (P:=Aag) 71 11 wU wV _ (m+1) cap i ae W;have bd:∀W,(Aav 71 (cC g (m+1) cap) (some (i6 ((i:Int)+1))) none none).run Aag W=.ok (partOf 11 (some ⟨g,0,none⟩) (i+1) (m+1) cap) W:=λW=>gu (P:=Aag) 71 11 wU wV _ (m+1) cap (i+1) ae W;have aq:∀W,(Aav 71 (cC g m cap) (some (i6 (m:Int))) (some (i6 ((m:Int)+1))) none).run Aag W=.ok (partOf 11 (some ⟨g,0,none⟩) m (m+1) cap) W:=λW=>V1 (P:=Aag) 71 11 wU wV _ m cap m (m+1) ae ae W;have a7:partOf 11 (some (⟨g,0,none⟩:Addr)) 0 i cap=cC g i cap:=by
  unfold partOf;have:(⟨g,0,none⟩:Addr).add (0*11)=⟨g,0,none⟩:=aA
  grind
 have bD:partOf 11 (some (⟨g,0,none⟩:Addr)) m (m+1) cap=sq g (m*11) 1 (cap-m):=by unfold partOf;rw[aO ae];simp[Addr.add];omega
 rw[a7]at bb;rw[bD]at aq;obtain⟨p2,aL⟩:=bE (partOf 11 (some (⟨g,0,none⟩:Addr)) (i+1) (m+1) cap);rw[<-aL]at bd ah;have bB:=an aL;have hne:((i:Int)==(i:Int)+1)=false:=ao
 have ax:((i:Int)=(i:Int)+1)=False:=cG ae;have B1:((i:Int)+1<=(m:Int)+1)=True:=ao
 obtain⟨B2,B3,B4⟩:=aW au aR hm;have c1:((m+1:Nat):Int)=(m:Int)+1:=ae
 clear h3 ad a7 bD aL au hm;go_in;go_wp2;refine e8 (S:=λ_=>True) aA ?_;change Acp _ _ _ _ _ 8 _ _ (w.drew);have UD:=an (Touch.bV (F:=(·=g)) (Up.drew (Up.refl w)));generalize w.drew=w1 at *;refine oP ?_;refine ta 3 ?_;refine ta 4 ?_;refine bx ?_;refine ta 5 ?_;refine bx ?_;refine ok 6 ?_;intro K hK;refine mG lK (.tmp 22) (.tmp 25) 71 rfl _ _ _ _ underlying71 j' g _ i _ (by rw[ey,B2.out];have:=HI.out;omega) rfl al _ _ rfl ah m (by rw[ey,hA,B2.out];have:=HI.out;omega) ae BW ?_;intro w2 hown hg aT;obtain⟨C,hb,aD,-,ab,CL⟩:=ak.SX hown;have ag:=B3.out;have hfit:m*11+1*11<=C.size:=ae
 have hL:=nR b8 1;have bg:∀ty,(Adv #[71] ty #[sq g (m*11) 1 (cap-m)]).run Aag w2=.ok (.tuple #[]) (w2.setRow g (C.toList.take (m*11)++(Abg b8 1).toList++C.toList.drop (m*11+1*11)).toArray):=λty=>CO _ _ _ _ _ underlying71 q0 ie av g _ 1 _ ae C hb hfit;have OW:=an (CL (Abg b8 1).toList (by rw[hL];exact hfit));rw[hL]at OW;obtain⟨w3,aa⟩:=bE (w2.setRow g (C.toList.take (m*11)++(Abg b8 1).toList++C.toList.drop (m*11+1*11)).toArray);have G3:=cR w2 g (C.toList.take (m*11)++(Abg b8 1).toList++C.toList.drop (m*11+1*11)).toArray;have ar:ak dg 11 90 w3 base (cC g m cap) (ys.take i++ys.drop (i+1)):=by rw[aa];exact OW
 rw[<-aa]at bg G3;have OS:=an (show ak dg 11 90 w3 base (cC g m cap) (ys.eraseIdx i)/\∀y∈ys.eraseIdx i,a8 w3 base y.v y.d.dead from by
  rw[uF];refine⟨ar,λy hy=>?_⟩
  ·have aj:y∈ys:=by
    rcases Aa3.1 hy with hy|hy
    ·exact sN hy
    ·exact sT hy
   have k1:=H3 y aj;have a1:y.v.ownBlock=none\/y.v.ownBlock≠some g:=by have:=iu av k1 H2;simpa[Aan]using this
   exact ak.kept (ak.kept k1 hg a1) G3 a1)
 have TT:=an ((UD.trans (Touch.be (F:=(·=g)) hg (λk hk=>oN)) (λ_ h _=>h)).trans (Touch.be (F:=(·=g)) G3 (λk hk=>oN)) (λ_ h _=>h));clear aD ab CL hfit hL aa H3 ag;refine hK _ _ trivial ?_;refine gF ?_;clear hK K;refine ta 7 ?_;refine ng ?_;go_wp2;go_ret;exact⟨rfl,OS,TT⟩
section
variable {P:bu} {o:Abi} {a:Act} {w:af} {K:Act->af->Prop} {Q:Exit->Act->af->Prop}
end
def aaQ(r:Except Nat (Nat × List ab × ab))(w:af)(e:Ab3)(w':af):Prop:=(∃(n nx:Nat)(va:Option Addr)(vm vc:Nat),r=.error n/\e=.returned (.tuple #[.agg (aQ nx (.slice va vm vc)),.agg b8,.int .i64 (n:Int)])/\Up w w')\/(∃(nx:Nat)(l':List ab)(x:ab)(v' vd:ah),r=.ok (nx,l',x)/\e=.returned (.tuple #[.agg (aQ nx v'),.agg (b7 x vd),.int .i64 0])/\bt w' w.heap.size v' l'/\a8 w' w.heap.size vd x.dead/\Up w w')
theorem bt.aai(h:bt w base (cC g n cap) l)(i:Nat)(hi:i<κ l)(q:au):∃cur,aI w g 90 cur/\i*11+11<=cur.size/\∀w',aI w' g 90 (hs cur.toList (i*11+7) (a6 q).toList).toArray->w.grownBy w' (some g)->bt w' base (cC g n cap) (l.set i {l[i]with root:=q}):=by obtain⟨cur,va,vc,hb,hn,hc,hg,rg,op,aP⟩:=h.part i hi;exact⟨cur,hb,hc,λw' aB aa=>aP {l[i]with root:=q} va l[i].dead.length vc 7 (a6 q).toList w' (by simp[a6]) rfl op aB aa⟩
def pO(x y:ab):ab:={x with root:=y.root,dead:=[]}
def Y7(next:Nat)(l:List ab)(full:List aj):Except Nat (Nat × List ab × ab):=match ee l full with
 | .error n=>.error n
 | .ok i=>match aK l (recAt l i).prev with
  | none=>.error 174
  | some j=>.ok (next,l.set i (pO (recAt l i) (recAt l j)),recAt l i)
section
variable {next:Nat} {l:List ab} {full:List aj} {n i j:Nat}
theorem tE(h:ee l full=.error n):n=141\/n=172:=uM
theorem oh(h:ee l full=.ok i):i<κ l:=by
 unfold ee at h;split at h
 ·cases h
 ·split at h
  ·cases h
  ·rename_i h2;injection h with h;subst h;exact h6 h2
end
def dQ(next:Nat)(l:List ab)(full:List aj):Except Nat (Nat × List ab × ab):=match ee l full with
 | .error n=>.error n
 | .ok i=>if 0<κ (dO l (recAt l i).id).1 then .error 173 else .ok (next,l.eraseIdx i,recAt l i)
section
variable {next:Nat} {l:List ab} {full:List aj} {n i j:Nat}
theorem Kl(h:ee l full=.error n):dQ next l full=.error n:=by grind [dQ]
theorem Km(h:ee l full=.ok i)(h1:0<κ (dO l (recAt l i).id).1):dQ next l full=.error 173:=by grind [dQ]
theorem Kn(h:ee l full=.ok i)(h1:¬0<κ (dO l (recAt l i).id).1):dQ next l full=.ok (next,l.eraseIdx i,recAt l i):=by grind [dQ]
end
theorem xq(w:af)(next:Nat)(v:ah)(l:List ab)(hv:cy w v l)(hl:κ l<=1000)(hr:∀x∈l,κ x.dead*24<=140737488355328)(full:List aj)(hf:κ full<=9223372036854775807):Aaf Aag 134 #[.agg (aQ next v),.string (strOf full)] w λe w'=>aaQ (dQ next l full) w e w':=by
 obtain⟨a,cap,rfl⟩:=hv.slice;have s:=Fr.start w;go_in;go_wp2_with(refine fw s ?_;intro _ w s);refine(Ed w next _ l (hv.up s.pure) hr full hf).mono ?_;refine ez ?_;intro w u s;cases al:ee l full with
 | error n=>
  have hn:=tE al;have nz:((n:Int) != 0)=true:=by rcases hn with rfl|rfl<;>rfl
  simp only[Cl];go_wp2_with(refine fw s ?_;intro _ w s);refine cT ?_;intro w vx ox u;obtain⟨ax,cx,rfl⟩:=ox.cA.slice;refine cW ?_;intro ys e z s;go_wp2_with(refine fw s ?_;intro _ w s);refine br ?_;exact .inl ⟨n,_,_,_,_,Kl al,rfl,s.pure⟩
 | ok i=>
  have hi:=oh al;simp only[Cl];refine Gd ?_;intro b1 b2 b3;obtain⟨b,off,ar,aT,da,dc,rg,dp⟩:=bZ hv hi;subst ar;have i0:=(cd rg).1;go_wp2_with(refine fw s ?_;intro _ w s);refine kb s (λw s=>?_);repeat refine kt ?_
  refine kc (λw _ s=>C9 w _ l (hv.up s.pure) (recAt l i).id) ?_;rintro w _ s _ w'⟨uc,rfl,oc,u⟩;obtain⟨ca,cc,rfl⟩:=oc.cv.slice;refine⟨_,rfl,u,?_⟩;repeat refine kt ?_
  refine kd (λw u s=>?_);by_cases hc:0<κ (dO l (recAt l i).id).1
  ·have t1:((κ (dO l (recAt l i).id).1:Int)>0)=True:=dU ae;go_wp2_with(refine fw s ?_;intro _ w s);refine cT ?_;intro w vx ox u;obtain⟨ax,cx,rfl⟩:=ox.cA.slice;refine cW ?_;intro ys e z s;go_wp2_with(refine fw s ?_;intro _ w s);refine br ?_;exact .inl ⟨173,_,_,_,_,Km al hc,rfl,s.pure⟩
  ·have t1:((κ (dO l (recAt l i).id).1:Int)>0)=False:=cG ae;go_wp2_with(refine fw s ?_;intro _ w s);refine cT ?_;intro w vx ox u;obtain⟨gx,cx,rfl,_⟩:=ox.at ae;refine cW ?_;intro ys e z s;have hy:=an (show κ l=κ ys from FY);replace e:=an e;go_wp2_with(refine fw s ?_;intro _ w s);refine(z7 w _ gx cx _ ys hy s.rows.1 s.rows.2 i (by rw[<-hy.out];exact hi) (by rw[<-hy.out];exact hl)).mono ?_;rintro e w⟨rfl,aF,T⟩;have s:=s.osT aF T rfl (λy h=>Fv h);go_wp2_with(refine fw s ?_;intro _ w s);refine kw2 7 8 s (λw s=>?_);repeat refine kt ?_
   refine CI (λw _ s=>lT w (recAt l i) _ (dp.up s.pure) ?dl) ?_
   case dl=>exact hr _ (by rw[b0 hi];exact cm hi)
   rintro w _ s _ w'⟨vd,rfl,od,u⟩;obtain⟨na,nc,rfl⟩:=(ak.row od pw).slice;refine⟨_,_,rfl,.q od u s.t.size,?_⟩;refine ks (λw s=>?_);refine ks (λw s=>?_);refine kt ?_;refine kd (λw u s=>?_);go_wp2_with fail;refine br ?_;refine .inr ⟨next,_,_,_,_,Kn al hc,rfl,?_,s.I0,s.pure⟩;have:=s.cA;rw[uF,Aao,wA,qj,<-uF,e.out]at this;exact this
def Y3(r:Except Nat (Nat × List ab × List au))(w:af)(e:Ab3)(w':af):Prop:=(∃(n nx:Nat)(va:Option Addr)(vm vc:Nat),r=.error n/\e=.returned (.tuple #[.agg (aQ nx (.slice va vm vc)),.slice none 0 0,.int .i64 (n:Int)])/\Up w w')\/(∃(nx:Nat)(l':List ab)(gone:List au)(v' vg:ah),r=.ok (nx,l',gone)/\e=.returned (.tuple #[.agg (aQ nx v'),vg,.int .i64 0])/\bt w' w.heap.size v' l'/\a8 w' w.heap.size vg gone/\Up w w')
def g'(y:ab)(all:List au)(p:Nat):ab:={y with dead:=all,prev:=p}
def cE(next:Nat)(l:List ab)(full:List aj):Except Nat (Nat × List ab × List au):=match dR full with
 | none=>.error 141
 | some _=>match a1 l full with
  | none=>.error 172
  | some i=>if 0<κ (eK l (recAt l i).id) then .error 173 else match aK l (iO l (recAt l i).id)with
   | none=>.error 172
   | some j=>match ei (lp (bY l (recAt l i).id) (recAt l j).dead) (recAt l i).dead with
    | none=>.error 131
    | some all=>if 4000<κ all then .error 131 else .ok (next,(l.set j (g' (recAt l j) all (recAt l i).prev)).eraseIdx i,hK (bY l (recAt l i).id) (recAt l j).dead)
section
variable {next:Nat} {l:List ab} {full:List aj} {vs:List aj × List aj} {i j:Nat} {all:List au}
theorem mT(h:dR full=none):cE next l full=.error 141:=s5
theorem mU(h:dR full=some vs)(h1:a1 l full=none):cE next l full=.error 172:=s5
theorem mV(h:dR full=some vs)(h1:a1 l full=some i)(h2:0<κ (eK l (recAt l i).id)):cE next l full=.error 173:=s5
theorem pT(h:dR full=some vs)(h1:a1 l full=some i)(h2:¬0<κ (eK l (recAt l i).id))(h3:aK l (iO l (recAt l i).id)=none):cE next l full=.error 172:=s5
theorem xo(h:dR full=some vs)(h1:a1 l full=some i)(h2:¬0<κ (eK l (recAt l i).id))(h3:aK l (iO l (recAt l i).id)=some j)(h4:ei (lp (bY l (recAt l i).id) (recAt l j).dead) (recAt l i).dead=none):cE next l full=.error 131:=s5
theorem xp(h:dR full=some vs)(h1:a1 l full=some i)(h2:¬0<κ (eK l (recAt l i).id))(h3:aK l (iO l (recAt l i).id)=some j)(h4:ei (lp (bY l (recAt l i).id) (recAt l j).dead) (recAt l i).dead=some all)(h5:4000<κ all):cE next l full=.error 131:=s5
theorem mW(h:dR full=some vs)(h1:a1 l full=some i)(h2:¬0<κ (eK l (recAt l i).id))(h3:aK l (iO l (recAt l i).id)=some j)(h4:ei (lp (bY l (recAt l i).id) (recAt l j).dead) (recAt l i).dead=some all)(h5:¬4000<κ all):cE next l full=.ok (next,(l.set j (g' (recAt l j) all (recAt l i).prev)).eraseIdx i,hK (bY l (recAt l i).id) (recAt l j).dead):=s5
end
theorem tY(w:af)(next:Nat)(v:ah)(l:List ab)(hv:cy w v l)(hl:κ l<=1000)(hr:∀x∈l,κ x.dead*24<=140737488355328)(full:List aj)(hf:κ full<=9223372036854775807):Aaf Aag 135 #[.agg (aQ next v),.string (strOf full)] w λe w'=>Y3 (cE next l full) w e w':=by
 obtain⟨a,cap,rfl⟩:=hv.slice;have s:=Fr.start w;go_in;go_wp2_with(refine fw s ?_;intro _ w s);refine(o9 w full hf).mono ?_;refine ez ?_;intro w u s;cases hvo:dR full with
 | none=>simp only[sg];go_wp2_with(refine fw s ?_;intro _ w s);refine cT ?_;intro w vx ox u;obtain⟨ax,cx,rfl⟩:=ox.cA.slice;refine cW ?_;intro ys e z s;go_wp2_with(refine fw s ?_;intro _ w s);refine br ?_;exact .inl ⟨141,_,_,_,_,mT hvo,rfl,s.pure⟩
 | some vs=>
  simp only[sg];go_wp2_with(refine fw s ?_;intro _ w s);refine Gc ?_;intro w u s;cases hn:a1 l full with
  | none=>simp only[eJ];go_wp2_with(refine fw s ?_;intro _ w s);refine cT ?_;intro w vx ox u;obtain⟨ax,cx,rfl⟩:=ox.cA.slice;refine cW ?_;intro ys e z s;go_wp2_with(refine fw s ?_;intro _ w s);refine br ?_;exact .inl ⟨172,_,_,_,_,mU hvo hn,rfl,s.pure⟩
  | some i=>
   have hi:=h6 hn;refine F8 ?_;intro b1 b2 b3;obtain⟨b,off,ar,aT,da,dc,rg,dp⟩:=bZ hv hi;subst ar;have i0:=(cd rg).1;go_wp2_with(refine fw s ?_;intro _ w s);refine kb s (λw s=>?_);repeat refine kt ?_
   refine kc (λw _ s=>J6 w _ l (hv.up s.pure) ae (recAt l i).id) ?_;rintro w _ s _ w'⟨uc,rfl,oc,u⟩;obtain⟨ca,cc,rfl⟩:=oc.cv.slice;refine⟨_,rfl,u,?_⟩;repeat refine kt ?_
   refine kd (λw u s=>?_);by_cases hb:0<κ (eK l (recAt l i).id)
   ·have t1:((κ (eK l (recAt l i).id):Int)>0)=True:=dU ae;go_wp2_with(refine fw s ?_;intro _ w s);refine cT ?_;intro w vx ox u;obtain⟨ax,cx,rfl⟩:=ox.cA.slice;refine cW ?_;intro ys e z s;go_wp2_with(refine fw s ?_;intro _ w s);refine br ?_;exact .inl ⟨173,_,_,_,_,mV hvo hn hb,rfl,s.pure⟩
   have t1:((κ (eK l (recAt l i).id):Int)>0)=False:=cG ae;go_wp2_with(refine fw s ?_;intro _ w s);refine kb s (λw s=>?_);repeat refine kt ?_
   refine kc (λw _ s=>Vz w _ l (hv.up s.pure) (recAt l i).id) ?_;rintro w _ s _ w'⟨rfl,u⟩;refine⟨_,rfl,u,?_⟩;refine kc (λw _ s=>o6 w _ l (hv.up s.pure) (iO l (recAt l i).id)) ?_;rintro w _ s _ w'⟨rfl,u⟩;refine⟨_,rfl,u,?_⟩;repeat refine kt ?_
   refine kd (λw u s=>?_);cases aH:aK l (iO l (recAt l i).id)with
   | none=>simp only[eJ];go_wp2_with(refine fw s ?_;intro _ w s);refine cT ?_;intro w vx ox u;obtain⟨ax,cx,rfl⟩:=ox.cA.slice;refine cW ?_;intro ys e z s;go_wp2_with(refine fw s ?_;intro _ w s);refine br ?_;exact .inl ⟨172,_,_,_,_,pT hvo hn hb aH,rfl,s.pure⟩
   | some j=>
    obtain⟨hj,_⟩:=cP aH;simp only[eJ];have d1:((j:Int)<0)=False:=aq
    have d2:((j:Int)<(κ l:Int))=True:=ao
    have d3:((j:Int)>=0)=True:=aq
    obtain⟨b2,aI,aC,_,ea,ec,aV,ep⟩:=bZ hv hj;obtain⟨rfl,rfl⟩:b=b2/\off=aI:=by simpa using aC
    obtain⟨aJ,i10,i4⟩:=cX (aV 10 _ rfl) (rg 10 _ rfl) ((cd rg).2.2.2.2.1);have ai:∀k(h:k<κ l),κ (recAt l k).dead*24<=140737488355328:=λk h=>hr _ (by rw[b0 h];exact cm h);go_wp2_with(refine fw s ?_;intro _ w s);refine kb s (λw s=>?_);repeat refine kt ?_
    refine kc (λw _ s=>q4 w _ l (hv.up s.pure) (recAt l i).id) ?_;rintro w _ s _ _⟨rfl,rfl⟩;refine nj ?_;refine CI (λw _ s=>Ry w _ (recAt l j).dead (aG.up ep s.pure) (bY l (recAt l i).id) (ai j hj)) ?_;rintro w _ s _ w'⟨v1,v2,rfl,o1,o2,u⟩;obtain⟨ra,rc,rfl⟩:=(ak.row o1 pw).slice;obtain⟨ga,gc,rfl⟩:=(ak.row o2 pw).slice;refine⟨_,_,rfl,.qq o1 o2 u s.t.size,?_⟩;repeat refine kt ?_
    refine kd (λw u s=>?_);go_wp2_with(refine fw s ?_;intro _ w s);refine(QA w _ _ _ _ (ak.row s.Zi.1 pw) (aG.up dp s.pure) ?_).mono ?_
    ·obtain⟨h1,h2⟩:=az (ai i hi) (ai j hj);have h3:κ (lp (bY l (recAt l i).id) (recAt l j).dead)<=κ (recAt l j).dead:=qh _ _;omega
    rintro e w(⟨ay,rfl,u⟩|⟨all,va,ad,rfl,oa,u⟩)
    ·have s:=s.up u;go_wp2_with(refine fw s ?_;intro _ w s);refine cT ?_;intro w vx ox u;obtain⟨ax,cx,rfl⟩:=ox.cA.slice;refine cW ?_;intro ys e z s;go_wp2_with(refine fw s ?_;intro _ w s);refine br ?_;exact .inl ⟨131,_,_,_,_,xo hvo hn hb aH ay,rfl,s.pure⟩
    obtain⟨aa,ac,rfl⟩:=(ak.row oa pw).slice;have s:=s.new (.q oa u s.t.size);by_cases h4:4000<κ all
    ·have t4:((κ all:Int)>4000)=True:=dU ae;go_wp2_with(refine fw s ?_;intro _ w s);refine cT ?_;intro w vx ox u;obtain⟨ax,cx,rfl⟩:=ox.cA.slice;refine cW ?_;intro ys e z s;go_wp2_with(refine fw s ?_;intro _ w s);refine br ?_;exact .inl ⟨131,_,_,_,_,xp hvo hn hb aH ad h4,rfl,s.pure⟩
    have t4:((κ all:Int)>4000)=False:=cG ae;go_wp2_with(refine fw s ?_;intro _ w s);refine cT ?_;intro w vx ox u;obtain⟨gx,cx,rfl,_⟩:=ox.at ae;refine cW ?_;intro ys e z s;have hy:=an (show κ l=κ ys from FY);have aE:=an (show j<κ ys by rw[<-hy.out];exact hj);replace e:=an e;go_wp2_with(refine fw s ?_;intro _ w s);refine kv2 s (λw s=>?_);repeat refine kt ?_
    refine kqd j (λw s=>?_) (iI aE);repeat refine kt ?_
    refine kq j 4 ⟨g' (ys[j]'aE).d all (recAt l i).prev,aa,κ all,ac⟩ (λw s=>?_) (y1 aE);refine kd (λw u s=>?_);go_wp2_with(refine fw s ?_;intro _ w s);obtain⟨R1,R2⟩:=s.rows (v:=cC gx (κ l) cx);refine(z7 w _ gx cx _ _ (by rw[Aax,Aax];exact hy) R1 R2 i (by rw[Aax,Aax,<-hy.out];exact hi) (by rw[Aax,Aax,<-hy.out];exact hl)).mono ?_;rintro e w⟨rfl,aF,T⟩;have s:=s.osT aF T rfl (λy h=>Fv h);go_wp2_with(refine fw s ?_;intro _ w s);refine br ?_;refine .inr ⟨next,_,_,_,_,mW hvo hn hb aH ad h4,rfl,?_,s.Zi.2,s.pure⟩;have:=s.cA;rw[uF,Aao,wA,qj,<-uF,qm,qm,e.out,y2,OP e aE]at this;exact this
section
variable {vg:ah} {w w':af} {base:Nat} {v:ah} {l:List ab}
end
def i'(fl:Nat):List au->List au->List au->Option (List au × List au)
 | d,gone,[]=>some (d,gone)
 | d,gone,q::r=>if fl<q.aV then i' fl d (gone++[q]) r else match vY d q with
  | none=>none
  | some m=>if 4000<κ m then none else i' fl m gone r
def z6(x:ab)(d:List au):ab:={x with dead:=d}
def qb(next:Nat)(l:List ab)(id:Nat)(ps:List au):Except Nat (Nat × List ab × List au):=match aK l id with
 | none=>.error 172
 | some i=>match i' (bY l id) (recAt l i).dead [] ps with
  | none=>.error 131
  | some (d,gone)=>.ok (next,l.set i (z6 (recAt l i) d),gone)
section
variable {next:Nat} {l:List ab} {id i fl:Nat} {ps d gone r m:List au} {q:au}
theorem XJ(h:aK l id=none):qb next l id ps=.error 172:=by grind [qb]
theorem MW(h:aK l id=some i)(h1:i' (bY l id) (recAt l i).dead [] ps=none):qb next l id ps=.error 131:=by grind [qb]
theorem ES(h:aK l id=some i)(h1:i' (bY l id) (recAt l i).dead [] ps=some (d,gone)):qb next l id ps=.ok (next,l.set i (z6 (recAt l i) d),gone):=by grind [qb]
theorem Io(h:fl<q.aV):i' fl d gone (q::r)=i' fl d (gone++[q]) r:=by show(if fl<q.aV then _ else _)=_;rw[bp h]
theorem TL(h:¬fl<q.aV)(h1:vY d q=none):i' fl d gone (q::r)=none:=by show(if fl<q.aV then _ else _)=_;rw[aO h,h1]
theorem TM(h:¬fl<q.aV)(h1:vY d q=some m)(h2:4000<κ m):i' fl d gone (q::r)=none:=by show(if fl<q.aV then _ else _)=_;rw[aO h,h1];simp only;rw[bp h2]
theorem Im(h:¬fl<q.aV)(h1:vY d q=some m)(h2:¬4000<κ m):i' fl d gone (q::r)=i' fl m gone r:=by show(if fl<q.aV then _ else _)=_;rw[aO h,h1];simp only;rw[aO h2]
theorem W7(hd:PW d)(h:vY d q=some m):PW m:=by grind [nF,vY,Hw]
end
theorem TN(w:af)(next:Nat)(v:ah)(l:List ab)(hv:cy w v l)(hl:κ l<=1000)(hr:∀x∈l,κ x.dead*24<=140737488355328)(id:Nat)(vp:ah)(ps:List au)(hp:c9 w vp ps)(bc:κ ps<=100000)(aE:∀x∈l,PW x.dead):Aaf Aag 104 #[.agg (aQ next v),.int .u64 (id:Int),vp] w λe w'=>Y3 (qb next l id ps) w e w':=by
 obtain⟨pa,pc,rfl⟩:=hp.slice;obtain⟨a,cap,rfl⟩:=hv.slice;obtain⟨w0,rfl⟩:=bE w;have s:=Fr.start w0;go_in;go_wp2_with(refine fw s ?_;intro _ w s);refine(o6 w _ l (hv.up s.pure) id).mono ?_;refine ez ?_;intro w u s;cases aH:aK l id with
 | none=>simp only[eJ];go_wp2_with(refine fw s ?_;intro _ w s);refine cT ?_;intro w vx ox u;obtain⟨ax,cx,rfl⟩:=ox.cA.slice;refine cW ?_;intro ys e z s;go_wp2_with(refine fw s ?_;intro _ w s);refine br ?_;exact .inl ⟨172,_,_,_,_,XJ aH,rfl,s.pure⟩
 | some i=>
  have hi:=(cP aH).1;refine Gd ?_;intro b1 b2 b3;simp only[eJ];go_wp2_with(refine fw s ?_;intro _ w s);refine(q4 w _ l (hv.up s.pure) id).mono ?_;rintro e _⟨rfl,rfl⟩;go_wp2_with(refine fw s ?_;intro _ w s);refine cT ?_;intro w vx ox u;obtain⟨g,cx,rfl,_⟩:=ox.at ae;refine cW ?_;intro ys e z s;have s:=s.ab8;go_wp2_with(refine fw s ?_;intro _ w s);change Fr no w0 (bk ?gt 73 _::op _ _ _::os _ _ ys::?rest) _ at s;have hy:i<κ ys:=by rw[<-Aac (f:=gJ.d),e];exact hi
  have ed:=OP e hy;go_loopw [12,33] (λvg ii wr=>∃(k:Nat)(y:gJ)(gone:List au),k<=κ ps/\ii=.int .i64 k/\i' (bY l id) y.d.dead gone (ps.drop k)=i' (bY l id) (recAt l i).dead [] ps/\(κ gone)<=k/\(κ y.d.dead)*24<=140737488355328/\PW y.d.dead/\y.d=z6 (recAt l i) y.d.dead/\Fr no w0 (bk ?gt 73 (aQ next (cC g (κ l) cx))::op w0.heap.size vg gone::os w0.heap.size (cC g (κ l) cx) (ys.set i y)::?rest) wr) (λ_ ii _=>κ ps-(Aaq ii).toNat)
  case atStart=>exact⟨0,ys[i],[],bG _,rfl,by rw[Aaw,ed],bG _,by rw[ed,b0 hi];exact hr _ (cm hi),by rw[ed,b0 hi];exact aE _ (cm hi),by rw[ed];rfl,by rw[List.set_getElem_self];exact s⟩
  case round=>
   obtain⟨k,y,gone,hk,rfl,aa,aW,aM,ai,aS,s⟩:=hrel;obtain⟨ga,gc,rfl⟩:=(ak.row (s.I0 (l:=gone)) pw).slice;by_cases hlt:k<κ ps
   ·have n1:((k:Int)<(κ ps:Int))=True:=by simp;omega
    obtain⟨bb,aj,rfl,hbs,_,hc⟩:=hp.range pw ae;have RC:w0.rangeAt bb (aj+k*3) (a6 ps[k]).toList:=hc k hlt;clear hc;rw[qi hlt]at aa;generalize ps[k]=q at *;by_cases hq:bY l id<q.aV
    ·have n2:((q.aV:Int)>(bY l id:Int))=True:=dU ae;go_wp2_with(first|(refine fw s ?_;intro _ w s)|(refine Xp s ?_;intro _ w s)|(at_builtin;refine faq s ?_;intro a7 c7 w s));go_roundw
     case rel=>exact⟨k+1,y,gone++[q],ae,aq,by rw[<-aa,Io hq],ao,aM,ai,aS,(s.rem .head).rem .head⟩
     case measure=>simp only[Aaq];omega
    ·have n2:((q.aV:Int)>(bY l id:Int))=False:=cG ae;go_wp2_with(refine fw s ?_;intro _ w s);have ad:(ys.set i y)[i]?=some y:=y1 hy;refine kb s (λw s=>?_);repeat refine kt ?_
     refine kt ?_ (hy:=ace i 10 ad);repeat refine kt ?_
     refine CI (λw _ s=>W8 w _ y.d.dead (ak.row (s.rows.2 y (List.mem_of_getElem? ad)) pw) (rO.1 ai) q ae) ?_;rintro w _ s e w' ha;cases ag:vY y.d.dead q with
     | none=>
      rw[ag]at ha;obtain⟨rfl,u⟩:=ha;refine Gr ?_;repeat refine kt ?_
      refine kd (λw u s=>?_);go_wp2_with(refine fw s ?_;intro _ w s);refine cT ?_;intro w vx ox u;obtain⟨ax,cx,rfl⟩:=ox.cA.slice;refine cW ?_;intro ys e z s;go_wp2_with(refine fw s ?_;intro _ w s);refine br ?_;exact .inl ⟨131,_,_,_,_,MW aH (by rw[<-aa,TL hq ag]),rfl,s.pure⟩
     | some m=>
      rw[ag]at ha;obtain⟨um,rfl,om,u⟩:=ha;obtain⟨ma,mc,rfl⟩:=(ak.row om pw).slice;refine⟨_,_,rfl,.q om u s.t.size,?_⟩;repeat refine kt ?_
      refine kd (λw u s=>?_);by_cases h4:4000<κ m
      ·have p1:((κ m:Int)>4000)=True:=dU ae;go_wp2_with(refine fw s ?_;intro _ w s);refine cT ?_;intro w vx ox u;obtain⟨ax,cx,rfl⟩:=ox.cA.slice;refine cW ?_;intro ys e z s;go_wp2_with(refine fw s ?_;intro _ w s);refine br ?_;exact .inl ⟨131,_,_,_,_,MW aH (by rw[<-aa,TM hq ag h4]),rfl,s.pure⟩
      ·have p1:((κ m:Int)>4000)=False:=cG ae;go_wp2_with(first|(refine fw s ?_;intro _ w s)|(refine fqd i s ?_ ad;intro w s));go_roundw
       case rel=>exact⟨k+1,⟨{y.d with dead:=m},ma,κ m,mc⟩,gone,ae,aq,by rw[<-aa,Im hq ag h4],ae,by show κ m*24<=_;omega,W7 ai ag,by rw[aS];rfl,by rw[y2]at s;exact s.rem .head⟩
       case measure=>simp only[Aaq];omega
   ·obtain rfl:k=κ ps:=by omega
    have n1:((κ ps:Int)<(κ ps:Int))=False:=aq
    rw[Fs]at aa;go_wp2_with(refine fw s ?_;intro _ w s);refine br ?_;have os:=s.cA (ys:=ys.set i y);rw[qm,e,aS]at os;exact .inr ⟨_,_,_,_,_,ES aH (by rw[<-aa];rfl),rfl,os,s.I0,s.pure⟩
def eI(id:Nat)(nm:List aj)(x:ab):Bool:=(x.aT && decide (x.owner=id)) && decide (x.name=nm)
theorem Xi{id:Nat}{nm:List aj}(h:x.aT=false):eI id nm x=false:=by grind [eI]
theorem Xj{id:Nat}{nm:List aj}(h:¬x.owner=id):eI id nm x=false:=by grind [eI]
theorem Xk{id:Nat}{nm:List aj}(h:x.aT=true)(h1:x.owner=id):eI id nm x=decide (x.name=nm):=by grind [eI]
theorem GO(w:af)(x:ab)(vd:ah)(g1 g2 g3 b off n cap j:Nat)(id:Nat)(nm:List aj)(aL:w.cell? (ad g1 0)=some (u6 (id:Int)))(al:w.cell? (ad g2 1)=some (sq b off n cap))(aa:w.cell? (ad g3 0)=some (i6 (j:Int)))(hj:j<n)(ag:w.cell? (ad b (off+j*11+1))=some (.string (strOf nm))):Aaf Aag 149 #[.agg (b7 x vd),pz g1,pz g2,pz g3] w λe w'=>e=.returned (.bool (eI id nm x))/\Up w w':=by
 obtain⟨U1,BX⟩:=aw (ai w (.cells (b7 x vd) 90)) (aI.new w 90 (b7 x vd));obtain⟨d1,d2,d3,d4⟩:=iQ (U1.cell aL) (U1.cell al) (U1.cell aa) (U1.cell ag);have e1:(w.alloc (.cells (b7 x vd) 90)).cell? (ad w.heap.size 1)=some (.string (strOf x.name)):=BX.cell 1;have e2:(w.alloc (.cells (b7 x vd) 90)).cell? (ad w.heap.size 2)=some (.bool x.aT):=BX.cell 2;have e3:(w.alloc (.cells (b7 x vd) 90)).cell? (ad w.heap.size 3)=some (u6 (x.owner:Int)):=BX.cell 3;have b1:((j:Int)<0)=False:=aq
 have b2:((j:Int)<(n:Int))=True:=ao
 have b3:((j:Int)>=0)=True:=aq
 have ST:=vH x.name nm;clear aL al aa ag hj;obtain⟨w1,ay⟩:=bE (w.alloc (.cells (b7 x vd) 90));have HW1:=an ay;rw[<-ay]at d1 d2 d3 d4 e1 e2 e3 U1;obtain⟨x1,x2,x3,x4,y1,y2⟩:=sk (di d1) (di d2) (di d3) (di d4) (di e1) (di e2);have y3:=di e3;clear d1 d2 d3 d4 e1 e2 e3 ay;obtain⟨r,hr⟩:=bE (eI id nm x);rw[<-hr];have aB:=an hr;clear hr;obtain⟨sn,hsn⟩:=bE (x.aT);obtain⟨ow,how⟩:=bE (x.owner);obtain⟨xn,bf⟩:=bE (x.name);rw[<-hsn]at y2;rw[<-how]at y3;rw[<-bf]at y1 ST;obtain⟨ak,ae,bj⟩:=aW how bf hsn;clear how bf hsn;cases sn with
 | false=>
  have hr:r=false:=by rw[aB.out];exact Xi bj.symm
  exact Ut
 | true=>
  by_cases ho:ow=id
  ·subst ho;have t1:((ow:Int)==(ow:Int))=true:=by simp
   have hr:decide (xn=nm)=r:=by rw[aB.out,Xk bj.out.symm ak.out.symm,<-ae.out]
   rw[hr]at ST;clear hr;go_in;go_wp2_with(refine arm ?_);rw[<-HW1.out];refine gG ?_;repeat(go_big_quiet_step (fail))
   refine uR ?_;intro w4 d os hw4 up4;clear hw4;go_wp2;go_ret;exact⟨aA,U1.trans up4⟩
  ·have t1:((ow:Int)==(id:Int))=false:=by simp;omega
   have t2:(ow==id)=false:=ao
   have hr:r=false:=by rw[aB.out];exact Xj cr
   clear ho;exact Ut
theorem CG(w:af)(v:ah)(l:List ab)(hv:cy w v l)(g1 g2 g3 bb of n cp j:Nat)(id:Nat)(nm:List aj)(aL:w.cell? (ad g1 0)=some (u6 (id:Int)))(al:w.cell? (ad g2 1)=some (sq bb of n cp))(aa:w.cell? (ad g3 0)=some (i6 (j:Int)))(hj:j<n)(ag:w.cell? (ad bb (of+j*11+1))=some (.string (strOf nm))):Aaf Aag 209 #[v,.func (.func 149) #[] #[pz g1,pz g2,pz g3]] w λe w'=>e=.returned (i6 (eJ (eb (λx=>eI id nm x) l)))/\Up w w':=by
 have hlen:=hv.length_le;obtain⟨a,cap,rfl⟩:=hv.slice;have HV:=an hv;go_in;go_wp2;go_loopw [8] (λi wr=>∃k:Nat,k<=κ l/\i=i6 k/\(∀j(hj:j<κ l),j<k->(λx:ab=>eI id nm x) l[j]=false)/\Up w wr) (λi _=>κ l-(Aaq i).toNat)
 case atStart=>exact⟨0,bG _,rfl,λj _ h=>ae,Up.refl _⟩
 case round=>
  obtain⟨k,hk,rfl,ay,ur⟩:=hrel;obtain⟨HN,UR⟩:=aw ay ur;clear ay;by_cases hlt:k<κ l
  ·refine ir ?_;intro b2;obtain⟨b,off,rfl,_,hc⟩:=rS (HV.up UR) ae;obtain⟨da,dn,dc,rg,dp⟩:=hc k hlt;obtain⟨RG,HK⟩:=aw rg (λh=>mY (p:=λx=>eI id nm x) hlt h HN);have HS:=an (show(λx:ab=>eI id nm x) l[k]=false->∀j(hj:j<κ l),j<k+1->(λx:ab=>eI id nm x) l[j]=false from λh j hj az=>by
    rcases jE j k with h'|h'
    ·exact HN j hj h'
    ·obtain rfl:j=k:=by omega
     exact h)
   have CK:=an ((λW (u:Up w W) x vd=>GO W x vd g1 g2 g3 bb of n cp j id nm (u.cell aL) (u.cell al) (u.cell aa) hj (u.cell ag)) wr UR l[k] (.slice da dn dc));clear hc;generalize l[k]=x at *;go_wp2_with(refine arm ?_);refine CK.mono ?_;rintro e w3⟨rfl,u3⟩;have U3:=an (UR.trans u3);by_cases he:(eI id nm x)=true
   ·exact U0
   ·rw[wv]at he;have HF:=an (HS he);have b3:=he;clear he HS HK;go_wp2;go_roundw
    case rel=>exact⟨k+1,ae,aq,HF,U3⟩
    case measure=>simp only[Aaq];omega
  ·obtain rfl:k=κ l:=by omega
   refine va ?_;intro b2;have HP:=an (show eb (λx=>eI id nm x) l=none from mX (λj hj=>HN j hj hj));exact Gb
theorem EA(w:af)(v:ah)(l:List ab)(hv:cy w v l)(g1 g2 g3 bb of n cp j:Nat)(id:Nat)(nm:List aj)(aL:w.cell? (ad g1 0)=some (u6 (id:Int)))(al:w.cell? (ad g2 1)=some (sq bb of n cp))(aa:w.cell? (ad g3 0)=some (i6 (j:Int)))(hj:j<n)(ag:w.cell? (ad bb (of+j*11+1))=some (.string (strOf nm))):Aaf Aag 148 #[v,.func (.func 149) #[] #[pz g1,pz g2,pz g3]] w λe w'=>e=.returned (.bool (eb (eI id nm) l).isSome)/\Up w w':=by
 have ai:=an (CG w v l hv g1 g2 g3 bb of n cp j id nm aL al aa hj ag);obtain⟨a,cap,rfl⟩:=hv.slice;clear aL al aa ag;go_in;go_wp2_with fail;refine ai.mono ?_;rintro e w2⟨rfl,u2⟩;have he:(eb (λx=>eI id nm x) l)=eb (eI id nm) l:=rfl;rw[he];cases hf:eb (eI id nm) l with
 | none=>have HF:=an hf;unfold eJ;clear hf he;go_wp2;go_ret;exact⟨by rw[HF.out];rfl,u2⟩
 | some i=>have HF:=an hf;unfold eJ;have g4:((i:Int)>=0)=True:=dU ae;have ak:(0<=(i:Int))=True:=dU ae;clear hf he;go_wp2;go_ret;exact⟨by rw[HF.out];rfl,u2⟩
def pE(xs:List Nat)(id:Nat):Option Nat:=xs.findIdx? (λy=>decide (id=y))
theorem Qk{id k:Nat}(hk:k<κ xs)(h:id=xs[k])(hn:∀j(hj:j<κ xs),j<k->¬id=xs[j]):pE xs id=some k:=by unfold pE;rw[yQ];simp_all
theorem Qj{id:Nat}(hn:∀j(hj:j<κ xs),¬id=xs[j]):pE xs id=none:=by unfold pE;rw[Ad2];intro y hy;obtain⟨j,hj,rfl⟩:=jD hy;simp_all
theorem Ql(w:af)(v:ah)(xs:List Nat)(hv:aC cu w v xs)(hl:κ xs<=100000)(id:Nat):Aaf Aag 146 #[v,u6 (id:Int)] w λe w'=>e=.returned (i6 (eJ (pE xs id)))/\w'=w:=by
 obtain⟨a,cap,rfl⟩:=hv.slice;go_in;go_wp2;go_loopw [8] (λi wr=>∃k:Nat,k<=κ xs/\i=i6 k/\(∀j(hj:j<κ xs),j<k->¬id=xs[j])/\wr=w) (λi _=>κ xs-(Aaq i).toNat)
 case atStart=>grind
 case round=>
  obtain⟨k,hk,rfl,ay,aG⟩:=hrel;rw[aG];clear aG;have HN:=an ay;clear ay;by_cases hlt:k<κ xs
  ·have n1:((k:Int)<(κ xs:Int))=True:=by simp;omega
   have n2:((k:Int)<0)=False:=aq
   have n3:((k:Int)>=0)=True:=aq
   obtain⟨b,off,rfl,hc⟩:∃b off,a=some ⟨b,off,none⟩/\∀i(hi:i<κ xs),w.cell? (ad b (off+i))=some (u6 (xs[i]:Int)):=by
    rcases hv with⟨h0,_⟩|⟨b,off,cp,h1,_,_,_,h5⟩
    ·grind
    ·simp only[Abh]at h1;exact⟨b,off,h1.1,h5⟩
   have k1:=hc k hlt;obtain⟨y,hy⟩:=bE (xs[k]);rw[<-hy]at k1;have HY:=an hy;clear hc hy;by_cases he:id=y
   ·have HE:=an (Qk hlt cr HN);have t1:((id:Int)==(y:Int))=true:=by simp;omega
    have t2:(id==y)=true:=ao
    clear he;go_wp2;go_ret;exact⟨ll,rfl⟩
   ·have HS:=an (show ∀j(hj:j<κ xs),j<k+1->¬id=xs[j] from λj hj az=>by
     rcases jE j k with h'|h'
     ·exact HN j hj h'
     ·obtain rfl:j=k:=by omega
      rw[<-HY.out];exact he)
    have t1:((id:Int)==(y:Int))=false:=ao
    have t2:(id==y)=false:=ao
    clear he;go_wp2;go_roundw
    case rel=>exact⟨k+1,ae,aq,HS,av⟩
    case measure=>simp only[Aaq];omega
  ·obtain rfl:k=κ xs:=by omega
   have n1:((κ xs:Int)<(κ xs:Int))=False:=aq
   have HE:=an (Qj (xs:=xs) (id:=id) (λj hj=>HN j hj hj));go_wp2;go_ret;exact⟨ll,rfl⟩
theorem RP:prog.underlying 156=some (.slice (prog.elem 156)):=al
theorem RQ(W:af):(sizeOf (prog.elem 156)).run Aag W=.ok 1 W:=al
theorem Ef{l:List ab}{id:Nat}:∀(f:Nat)(c:List Nat)(p:Nat),(∀m∈c,∃j,aK l m=some j/\(recAt l j).owner=id)->∀m∈(gW l id f c p).1,∃j,aK l m=some j/\(recAt l j).owner=id
 | 0,c,p,h=>h
 | f+1,c,p,h=>by
  by_cases h0:p=0
  ·subst h0;rw[pe];exact h
  ·cases hp:aK l p with
   | none=>rw[pc h0 hp];exact h
   | some j=>
    by_cases ho:(recAt l j).owner=id
    ·rw[oi h0 hp ho];exact Ef f _ _ (λm hm=>by
      rcases Aa3.1 hm with hm|hm
      ·exact h m hm
      ·simp at hm;subst hm;exact⟨j,hp,ho⟩)
    ·rw[nB h0 hp ho];exact h
theorem WE{id m:Nat}(hm:m∈(dO l id).1):∃j,aK l m=some j/\(recAt l j).owner=id:=by
 cases hp:aK l id with
 | none=>grind [w1]
 | some i=>
  cases hs:(recAt l i).aT with
  | true=>grind [w3]
  | false=>grind [qV,Ef]
theorem Ee{l:List ab}{id:Nat}:∀(f:Nat)(c:List Nat)(p:Nat),κ (gW l id f c p).1<=κ c+f
 | 0,c,p=>aE _
 | f+1,c,p=>by
  by_cases h0:p=0
  ·subst h0;rw[pe];show κ c<=_;omega
  ·cases hp:aK l p with
   | none=>rw[pc h0 hp];show κ c<=_;omega
   | some j=>
    by_cases ho:(recAt l j).owner=id
    ·rw[oi h0 hp ho];have:=Ee (l:=l) (id:=id) f (c++[p]) (recAt l j).prev;simp at this;omega
    ·rw[nB h0 hp ho];show κ c<=_;omega
theorem WD{id:Nat}:κ (dO l id).1<=32:=by
 cases hp:aK l id with
 | none=>grind [w1]
 | some i=>
  cases hs:(recAt l i).aT with
  | true=>grind [w3]
  | false=>grind [qV,Ee,recAt]
def DM(x:ab)(id:Nat):ab:={x with owner:=id}
def gO(l:List ab)(id:Nat):List ab->List Nat->Except Nat (List ab)
 | c,[]=>.ok c
 | c,m::r=>match aK l m with
  | none=>.ok c
  | some j=>if(eb (eI id (recAt l j).name) l).isSome=true then .error 171 else gO l id (c.set j (DM (recAt c j) id)) r
def ma(l:List ab)(y:ab):List Nat:=(dO l y.owner).1.drop ((pE (dO l y.owner).1 y.id).getD 0)
def cp(next:Nat)(l:List ab)(full:List aj):Except Nat (Nat × List ab):=match ee l full with
 | .error n=>.error n
 | .ok i=>match aK l (dO l (recAt l i).id).2 with
  | none=>.error 174
  | some o=>match gO l (recAt l i).id l (ma l (recAt l o))with
   | .error n=>.error n
   | .ok c=>.ok (next,c)
section
variable {next:Nat} {l c:List ab} {full:List aj} {n i j o id m:Nat} {r:List Nat}
theorem LJ(h:ee l full=.error n):cp next l full=.error n:=uN
theorem LK(h:ee l full=.ok i)(h1:aK l (dO l (recAt l i).id).2=none):cp next l full=.error 174:=uN
theorem LL(h:ee l full=.ok i)(h1:aK l (dO l (recAt l i).id).2=some o)(h2:gO l (recAt l i).id l (ma l (recAt l o))=.error n):cp next l full=.error n:=uN
theorem LM(h:ee l full=.ok i)(h1:aK l (dO l (recAt l i).id).2=some o)(h2:gO l (recAt l i).id l (ma l (recAt l o))=.ok c):cp next l full=.ok (next,c):=uN
theorem IW(h:aK l m=some j)(h1:(eb (eI id (recAt l j).name) l).isSome=true):gO l id c (m::r)=.error 171:=T5
theorem IX(h:aK l m=some j)(h1:(eb (eI id (recAt l j).name) l).isSome=false):gO l id c (m::r)=gO l id (c.set j (DM (recAt c j) id)) r:=T5
end
theorem xM(w:af)(next:Nat)(v:ah)(l:List ab)(hv:cy w v l)(hl:κ l<=1000)(hr:∀x∈l,κ x.dead*24<=140737488355328)(full:List aj)(hf:κ full<=9223372036854775807):Aaf Aag 79 #[.agg (aQ next v),.string (strOf full)] w λe w'=>Ht (cp next l full) w e w':=by
 obtain⟨a,cap,rfl⟩:=hv.slice;obtain⟨w0,rfl⟩:=bE w;have s:=Fr.start w0;go_in;go_wp2_with(refine fw s ?_;intro _ w s);refine(Ed w next _ l (hv.up s.pure) hr full hf).mono ?_;refine ez ?_;intro w u s;cases al:ee l full with
 | error n=>
  have hn:=tE al;have nz:((n:Int) != 0)=true:=by rcases hn with rfl|rfl<;>rfl
  simp only[Cl];go_wp2_with(refine fw s ?_;intro _ w s);refine cT ?_;intro w vx ox u;obtain⟨ax,cx,rfl⟩:=ox.cA.slice;refine cW ?_;intro ys e z s;go_wp2_with(refine fw s ?_;intro _ w s);refine br ?_;exact .inl ⟨n,_,_,_,_,LJ al,rfl,s.pure⟩
 | ok i=>
  have hi:=oh al;simp only[Cl];refine Gd ?_;intro b1 b2 b3;obtain⟨b,off,ar,aT,da,dc,rg,dp⟩:=bZ hv hi;subst ar;have i0:=(cd rg).1;go_wp2_with(refine fw s ?_;intro _ w s);refine kb s (λw s=>?_);repeat refine kt ?_
  refine kc (λw _ s=>ti w _ l (hv.up s.pure) (recAt l i).id) ?_;rintro w _ s _ w'⟨rfl,u⟩;refine⟨_,rfl,u,?_⟩;cases aH:aK l (dO l (recAt l i).id).2 with
  | none=>
   refine kc (λw _ s=>Am w _ l (hv.up s.pure) hr (dO l (recAt l i).id).2) ?_;rintro w _ s _ w'(⟨_,rfl,u⟩|⟨j2,vd,ay,_⟩)
   case inr=>rw[aH]at ay;cases ay
   refine⟨_,rfl,u,?_⟩;repeat refine kt ?_
   refine kn (λ_ w u s=>?_);refine ks (λw s=>?_);refine kt ?_;refine kd (λw u s=>?_);go_wp2_with(refine fw s ?_;intro _ w s);refine cT ?_;intro w vx ox u;obtain⟨ax,cx,rfl⟩:=ox.cA.slice;refine cW ?_;intro ys e z s;go_wp2_with(refine fw s ?_;intro _ w s);refine br ?_;exact .inl ⟨174,_,_,_,_,LK al aH,rfl,s.pure⟩
  | some o=>
   have ho:=(cP aH).1;refine CI (λw _ s=>Am w _ l (hv.up s.pure) hr (dO l (recAt l i).id).2) ?_;rintro w _ s _ w'(⟨ay,_⟩|⟨j2,vd,hj,rfl,od,u⟩)
   case inl=>rw[aH]at ay;cases ay
   obtain rfl:o=j2:=dC (aH.symm.trans hj);obtain⟨na,nc,rfl⟩:=(ak.row od pw).slice;refine⟨_,_,rfl,.q od u s.t.size,?_⟩;repeat refine kt ?_
   refine kn (λ_ w u s=>?_);refine ks (λw s=>?_);refine kt ?_;refine kd (λw u s=>?_);go_wp2_with(refine fw s ?_;intro _ w s);refine(C9 w _ l (hv.up s.pure) (recAt l o).owner).mono ?_;rintro e w⟨uc,rfl,oc,u⟩;have bg:κ (dO l (recAt l o).owner).1<=32:=WD;have aS:ma l (recAt l o)=(dO l (recAt l o).owner).1.drop ((pE (dO l (recAt l o).owner).1 (recAt l o).id).getD 0):=rfl;have aP:∀m∈(dO l (recAt l o).owner).1,∃j,aK l m=some j:=λm hm=>by obtain⟨j,hj,_⟩:=WE hm;exact⟨j,hj⟩
   generalize(dO l (recAt l o).owner).1=ch at *;obtain⟨ca,cc,rfl⟩:=oc.cv.slice;have s:=s.new (.n1 oc u s.t.size);have an:(pE ch (recAt l o).id).getD 0<=κ ch:=by
    cases ai:pE ch (recAt l o).id with
    | none=>simp
    | some k=>unfold pE at ai;rw[yQ]at ai;obtain⟨hk,_⟩:=ai;show k<=_;omega
   go_wp2_with(refine fw s ?_;intro _ w s);refine(Ql w _ ch s.cv.cv ae (recAt l o).id).mono ?_;rintro e wx⟨rfl,rfl⟩;have MX:∀ty W,(Builtin.max_ #[3,3] ty #[.int .i64 (eJ (pE ch (recAt l o).id)),.int .i64 0]).run Aag W=.ok (.int .i64 (((pE ch (recAt l o).id).getD 0:Nat):Int)) W:=by
    intro ty W;cases ai:pE ch (recAt l o).id with
    | none=>simp[Builtin.max_,Builtin.max2,eJ]
    | some k=>
     have h0:¬(0:Int)>(k:Int):=ae
     simp[Builtin.max_,Builtin.max2,eJ];try omega
   generalize eJ (pE ch (recAt l o).id)=ix at *;generalize(pE ch (recAt l o).id).getD 0=dd at *;have PF:=λW=>df (P:=Aag) 156 RP RQ ca (κ ch) cc dd an W;have PC:∀W,aC cu W (.slice ca (κ ch) cc) ch->aC cu W (bW ca dd (κ ch) cc) (ch.drop dd):=λW h=>by have:=aC.piece h (lo:=dd) (hi:=κ ch) an (aE _);rwa [dk (aE _)]at this
   have a7:∀m∈ch.drop dd,∃j,aK l m=some j:=λm hm=>aP m (sT hm);have aL:κ (ch.drop dd)<=32:=by rw[hA];omega
   generalize ch.drop dd=mv at *;obtain⟨pa,pc,ag⟩:=(PC _ s.cv.cv).slice;rw[ag]at PF PC;go_wp2_with(refine fw s ?_;intro _ w s);refine cT ?_;intro w vx ox u;obtain⟨g,cx,rfl,_⟩:=ox.at ae;refine cW ?_;intro ys e z s;go_wp2_with(refine fw s ?_;intro _ w s);change Fr no w0 (bk ?gt 73 _::os _ _ ys::?rest) _ at s;go_loopw [63] (λii wr=>∃(k:Nat)(zs:List gJ),k<=κ mv/\ii=.int .i64 k/\gO l (recAt l i).id (zs.map (·.d)) (mv.drop k)=gO l (recAt l i).id l mv/\(κ zs)=κ l/\Fr no w0 (bk ?gt 73 (aQ next (cC g (κ l) cx))::os w0.heap.size (cC g (κ l) cx) zs::?rest) wr) (λii _=>κ mv-(Aaq ii).toNat)
   case atStart=>exact⟨0,ys,bG _,rfl,by rw[Aaw,e],FY,s⟩
   case round=>
    obtain⟨k,zs,hk,rfl,aa,bg,s⟩:=hrel;by_cases hlt:k<κ mv
    ·have n1:((k:Int)<(κ mv:Int))=True:=by simp;omega
     have n2:((k:Int)<0)=False:=aq
     have n3:((k:Int)>=0)=True:=aq
     obtain⟨mb,mo,rfl,az⟩:∃b off,pa=some ⟨b,off,none⟩/\∀i(hi:i<κ mv),wr.cell? ⟨b,off+i,none⟩=some (.int .u64 (mv[i]:Int)):=by
      rcases PC wr s.cv.cv with⟨h0,_⟩|⟨b',aD,aG,h1,_,_,_,h5⟩
      ·rw[h0]at hlt;exact absurd hlt aq
      ·simp only[Abh]at h1;exact⟨b',aD,h1.1,h5⟩
     have k1:=az k hlt;clear az;rw[qi hlt]at aa;obtain⟨j,hj⟩:=a7 mv[k] (cm hlt);generalize mv[k]=m at *;have aM:=(cP hj).1;have ad:j<κ zs:=ae
     have d1:((j:Int)<0)=False:=aq
     have d2:((j:Int)<(κ l:Int))=True:=ao
     have d3:((j:Int)>=0)=True:=aq
     go_wp2_with(refine fw s ?_;intro _ w s);refine(o6 _ _ l (hv.up s.pure) m).mono ?_;refine ez ?_;intro w u s;obtain⟨b',aD,ar,_,ea,ec,aF,_⟩:=bZ hv aM;obtain⟨rfl,rfl⟩:b=b'/\off=aD:=by simpa using ar
     rw[hj];simp only[eJ];go_wp2_with(refine fw s ?_;intro _ w s);refine(EA w _ l (hv.up s.pure) _ _ _ b off (κ l) cap j (recAt l i).id (recAt l j).name ((s.e6 (t:=70) gB).cell 0) ((s.e6 (C:=aQ next (.slice (some ⟨b,off,none⟩) (κ l) cap)) gB).cell 1) ((s.e6 (t:=3) gB).cell 0) aM (cd (s.pure.range aF)).2.1).mono ?_;refine ez ?_;intro w u s;cases au:(eb (eI (recAt l i).id (recAt l j).name) l).isSome with
     | true=>go_wp2_with(refine fw s ?_;intro _ w s);refine cT ?_;intro w vx ox u;obtain⟨ax,cx,rfl⟩:=ox.cA.slice;refine cW ?_;intro ys e z s;go_wp2_with(refine fw s ?_;intro _ w s);refine br ?_;exact .inl ⟨171,_,_,_,_,LL al aH (by rw[aS,<-aa,IW hj au]),rfl,s.pure⟩
     | false=>
      go_wp2_with(first|(refine fw s ?_;intro _ w s)|(refine fq j 3 ⟨DM (zs[j]'ad).d (recAt l i).id,(zs[j]'ad).a,(zs[j]'ad).n,(zs[j]'ad).c⟩ s ?_ (iI ad);intro w s));go_roundw
      case rel=>exact⟨k+1,_,ae,aq,by rw[qm,<-aa,IX hj au,OP rfl ad],by rw[Aax];exact bg,s.rem .head⟩
      case measure=>simp only[Aaq];omega
    ·obtain rfl:k=κ mv:=by omega
     have n1:((κ mv:Int)<(κ mv:Int))=False:=aq
     rw[Fs]at aa;go_wp2_with(refine fw s ?_;intro _ w s);refine br ?_;exact .inr ⟨_,_,_,LM al aH (by rw[aS,<-aa];rfl),rfl,s.cA,s.pure⟩
def fD(pb next:Nat)(vb vm:ah)(u:hL):Array ah:=#[.pointer (some ⟨pb,0,none⟩),.int .u64 (next:Int),vb,vm,.int .u64 (u.du:Int),.int .u64 (u.ay:Int),.int .i64 u.iL.loc,.int .u64 (u.iL.aV:Int),.int .u32 (u.iL.sum:Int),.int .i64 u.len,.int .i64 u.sec]
structure ch where
 P:bz
 next:Nat
 l:List ab
 ms:List au
 u:hL
def GA(w:af)(gb:Nat)(H:aS)(G:ch):Prop:=∃vb vm,aI w gb 153 (fD H.pb G.next vb vm G.u)/\bt w 0 vb G.l/\a8 w 0 vm G.ms/\PA w H G.P
section
variable {w w':af} {gb:Nat} {H:aS} {G:ch}
theorem GA.up(A:GA w gb H G)(u:Up w w'):GA w' gb H G:=by obtain⟨vb,vm,h1,h2,h3,h4⟩:=A;exact⟨vb,vm,h1.up u,h2.up u,ak.up h3 u,h4.up u⟩
theorem GA.pa(A:GA w gb H G):PA w H G.P:=by obtain⟨vb,vm,h1,h2,h3,h4⟩:=A;exact h4
theorem wW{P:bz}{base:Nat}{v:ah}{l:List ab}(A:PA w H P)(h:bt w base v l)(T:Touch (PF H) w w'):bt w' base v l:=by obtain⟨ys,h1,h2,h3⟩:=h;refine⟨ys,h1,ak.ax h2 T (λb hb hf=>?_),λy hy=>ak.ax (h3 y hy) T (eC A (h3 y hy))⟩;exact Ns
theorem GA.tp{P':bz}(A:GA w gb H G)(vp:ah)(A':PA w' (H.at vp) P')(T:Touch (PF H) w w'):GA w' gb (H.at vp) {G with P:=P'}:=by obtain⟨vb,vm,h1,h2,h3,h4⟩:=A;exact⟨vb,vm,h1.ax T (h4.b' h1 av),wW h4 h2 T,ak.ax h3 T (eC h4 h3),A'⟩
end
theorem j8(w:af)(gb:Nat)(H:aS)(G:ch)(A:GA w gb H G):Aaf Aag 33 #[pz gb] w λe w'=>e=.returned (pz H.pb)/\w=w':=by obtain⟨vb,vm,h1,_⟩:=A;have c0:w.cell? (ad gb 0)=some (pz H.pb):=h1.cell 0;go_in;exact e4
theorem Qc(w:af)(gb:Nat)(H:aS)(G:ch)(A:GA w gb H G):Aaf Aag 155 #[pz gb] w λe w'=>e=.returned (i6 (κ G.ms:Int))/\w=w':=by obtain⟨vb,vm,h1,_,h3,_⟩:=A;obtain⟨a,c,rfl⟩:=(ak.row h3 pw).slice;have c0:w.cell? (ad gb 3)=some (.slice a (κ G.ms) c):=h1.cell 3;generalize (κ G.ms)=n at *;go_in;exact e4
theorem ou{gb pb next:Nat}{vb vm:ah}(h:aI w gb 153 (fD pb next vb vm u)):w.rangeAt gb 1 (aQ next vb).toList:=λj v hj=>by
 match j,hj with
 | 0,hj=>exact(h.cell 1).trans hj
 | 1,hj=>exact(h.cell 2).trans hj
 | (k+2),hj=>simp[aQ]at hj
theorem Mi{gb pb next:Nat}{vb vm:ah}(h:aI w gb 153 (fD pb next vb vm u)):w.rangeAt gb 4 (uC u).toList:=λj v hj=>by
 match j,hj with
 | 0,hj=>exact(h.cell 4).trans hj
 | 1,hj=>exact(h.cell 5).trans hj
 | 2,hj=>exact(h.cell 6).trans hj
 | 3,hj=>exact(h.cell 7).trans hj
 | 4,hj=>exact(h.cell 8).trans hj
 | 5,hj=>exact(h.cell 9).trans hj
 | 6,hj=>exact(h.cell 10).trans hj
 | (k+7),hj=>simp[uC]at hj
theorem fT(w:af)(gb:Nat)(H:aS)(G:ch)(A:GA w gb H G)(hl:κ G.l<=1000)(hr:∀x∈G.l,κ x.dead*24<=140737488355328):Aaf Aag 30 #[pz gb] w λe w'=>Sg G.next G.l w e w':=by
 obtain⟨vb,vm,h1,h2,_⟩:=A;obtain⟨P,next,l,ms,u⟩:=G;simp only at *;have u1:=ai w (.cells (aQ 0 (nl)) 73);go_in;go_wp2_with(first
  | refine bH 73 ju ?_
  | refine cM 73 5 (aQ next vb) (u1.range (ou h1)) ?_)
 refine(qQ _ _ _ l (h2.up u1).cA hl hr).mono ?_;rintro e w2⟨v2,rfl,os,u2⟩;have B2:=an ((aI.new w 73 (aQ 0 (nl))).up u2);obtain⟨a2,c2,rfl⟩:=os.cA.slice;go_wp2_with(first|refine arm ?_|refine pH ?_);intro wz hbz ag;go_wp2;exact kk (v:=.agg (aQ next (.slice a2 (κ l) c2))) (ny rfl _ _ _ _ _ _ rfl hbz _ underlying73 rfl (eu _ _)) rfl ⟨_,rfl,((os.mono (base':=w.heap.size) u1.size).Ik B2 ag),((u1.trans u2).grown ag (λk hk=>aP))⟩
theorem nX(w:af)(gb:Nat)(H:aS)(G:ch)(A:GA w gb H G)(next':Nat)(v':ah)(l':List ab)(hv:cy w v' l')(hl:κ l'<=1000)(hr:∀x∈l',κ x.dead*24<=140737488355328):Aaf Aag 43 #[pz gb,.agg (aQ next' v')] w λe w'=>e=rt #[]/\GA w' gb H {G with next:=next',l:=l'}/\Touch (·=gb) w w':=by
 obtain⟨vb,vm,h1,h2,h3,h4⟩:=A;obtain⟨P,next,l,ms,u⟩:=G;simp only at *;have u1:=ai w (.cells (aQ next' v') 73);go_in;go_wp2_with(refine arm ?_);refine(qQ _ _ _ _ (hv.up u1) hl hr).mono ?_;rintro e w2⟨v2,rfl,os,u2⟩;obtain⟨G2,aa,ad⟩:=aW ((h1.up u1).up u2) (ak.up (ak.up h3 u1) u2) ((h4.up u1).up u2);obtain⟨a2,c2,rfl⟩:=os.cA.slice;go_wp2_with(first
  | ((with_reducible refine cB _ _ _ ?_);refine cc rfl _ (.tmp 8) (.tmp 6) rfl _ 1 _ rfl rfl _ _ G2 (eu _ _) (by show 1+2<=11;omega) (jh _ _ _ _) ?_))
 intro wz hbz ag;rw[show(Abz (fD H.pb next vb vm u).toList 1 (aQ next' (.slice a2 (κ l') c2)).toList).toArray=fD H.pb next' (.slice a2 (κ l') c2) vm u from rfl]at hbz;obtain⟨ys,y1,y2,y3⟩:=os.mono (base':=0) (bG _);go_wp2;go_end0;exact⟨rfl,⟨_,_,hbz,⟨ys,y1,ak.kept y2 ag (.inr (eA av G2 y2)),λy hy=>ak.kept (y3 y hy) ag (.inr (eA av G2 (y3 y hy)))⟩,(ak.kept aa ag (.inr (eA av G2 aa))),(ad.grown ag (ad.b' G2 av))⟩,((Touch.bV (F:=(·=gb)) (u1.trans u2)).trans (Touch.be (F:=(·=gb)) ag (λk hk=>aP)) (λ_ h _=>h))⟩
theorem LB(w:af)(v:ah)(l:List au)(hv:c9 w v l)(hl:κ l<=100000):Aaf Aag 90 #[v] w λe w'=>∃v',e=.returned v'/\a8 w' w.heap.size v' l/\Up w w':=by
 obtain⟨a,cap,rfl⟩:=hv.slice;cases a with
 | none=>
  have h0:l=[]:=by
   rcases hv with⟨h,_⟩|⟨b,off,cp,h1,_⟩
   ·exact h
   ·simp at h1
  subst h0;have EQ:∀W,(binOp .eql 88 (.slice none 0 cap) (nl)).run Aag W=.ok (.bool true) W:=λW=>y0 W 88 87 none _ cap 0 0 Aas;rw[Aa5];go_in;go_wp2;go_ret;exact⟨_,rfl,ak.nil _ _ _ _ _,Up.refl _⟩
 | some ad=>
  have U0:=an (ai w (.cells #[] 87));have EQ:∀W,(binOp .eql 88 (.slice (some ad) (κ l) cap) (nl)).run Aag W=.ok (.bool false) W:=λW=>y0 W 88 87 (some ad) _ cap 0 0 Aas;go_in;go_wp2_with(first
   | (at_builtin;refine bI pw rfl (.tmp 5) (.tmp 6) 88 rfl _ _ _ _ Aas cF rfl _ _ rfl (ak.made _ 3 _ w _ (aE _)) _ l rfl (aG.up hv U0) ao ao U0.size ?_))
  intro v2 w2 aa ag ae;go_wp2;go_ret;exact⟨_,rfl,aa,(U0.aF ae (aE _))⟩
def fc(G:ch):Nat:=e0 G.next G.l (κ G.P.C)
def ev(G:ch):Bool:=decide (0<fc G/\fc G<=bj G.P.s/\2*fc G<=bj G.P.s+κ G.ms)
theorem Dp(w:af)(gb:Nat)(H:aS)(G:ch)(A:GA w gb H G)(hn:G.next<18446744073709551616)(aK:∀x∈G.l,x.wf):Aaf Aag 91 #[pz gb] w λe w'=>e=.returned (i6 (fc G:Int))/\Up w w':=by
 obtain⟨vb,vm,h1,h2,_,h4⟩:=A;obtain⟨P,next,l,ms,u⟩:=G;have HC:=an (show fc ⟨P,next,l,ms,u⟩=e0 next l (κ P.C) from rfl);simp only at *;have U0:=Up.drew (Up.refl w);obtain⟨FSx,UD,CO⟩:=aW (h1.up U0) U0 (Qy _ next hn vb l (h2.up U0).cA aK (κ P.C) (by have:=h4.dev.len;omega));rw[HC.out];clear hn aK;generalize fc ⟨P,next,l,ms,u⟩=cg at *;generalize aa:e0 next l (κ P.C)=bc at *
 clear aa;go_in;go_wp2;refine e8 (S:=(λW=>aI W gb 153 (fD H.pb next vb vm u))) al ?_;change Acp _ _ _ _ _ 12 _ _ (w.drew);generalize w.drew=w1 at *;refine oP ?_;refine tb 3 rfl (WU (λW hS=>ou hS)) ?_;refine ta 4 ?_;refine ta 5 ?_;refine ta 6 ?_;refine tb 7 rfl (yc (λW hS=>hS.cell 0)) ?_;refine ok 8 ?_;intro K hK;go_simp;refine(kV _ H P (h4.up U0)).mono ?_;refine Gu ?_;clear hK K;intro wx;refine ok 9 ?_;intro K hK;go_simp;refine(kK _ _ _ _ _ (h4.up U0).dev).mono ?_;refine Gu ?_;clear hK K;intro wx;refine ok 10 ?_;intro K hK;go_simp;refine CO.mono ?_;rintro e w2⟨rfl,u2⟩;have FS2:=an (FSx.up u2);refine hK _ _ FS2 ?_;clear hK K;refine ta 11 ?_;refine dn ?_;go_wp2;go_ret;exact⟨rfl,(UD.trans u2)⟩
theorem Qb(w:af)(gb:Nat)(H:aS)(G:ch)(A:GA w gb H G)(hn:G.next<18446744073709551616)(aK:∀x∈G.l,x.wf)(sI:κ G.ms<=100000):Aaf Aag 97 #[pz gb] w λe w'=>e=.returned (.bool (ev G))/\Up w w':=by
 have A1:=A.up (Up.drew (Up.refl w));obtain⟨CO,HA,HF⟩:=aW (Dp _ _ H G A1 hn aK) A (show ev G=decide (0<fc G/\fc G<=bj G.P.s/\2*fc G<=bj G.P.s+κ G.ms)from rfl);have aa:=an (show fc G<=2049 from by
  unfold fc e0;split
  ·split
   ·omega
   ·exact tQ
  ·omega)
 have aL:=an (show bj G.P.s<=1024 from Dd _);obtain⟨vb,vm,h1,h2,_,h4⟩:=A1;obtain⟨FSx,UD,PM,CN,GH⟩:=eQ h1 (Up.drew (Up.refl w)) (λW (u:Up w W)=>ob W H _ (HA.up u).pa) (λW (u:Up w W)=>mq W _ _ (HA.up u).pa.map) (λW (u:Up w W)=>Qc W _ H G (HA.up u));obtain⟨c,hc⟩:=bE (fc G);obtain⟨n,ag⟩:∃n,n=bj G.P.s:=⟨_,rfl⟩;obtain⟨h,hh⟩:=bE (κ G.ms);rw[<-hc]at CO HF aa;rw[<-ag]at CN HF aL;rw[<-hh]at GH HF sI;have ab:=an sI;obtain⟨r,hr⟩:=bE (ev G);rw[<-hr]at HF ⊢;clear hn aK hc ag hh sI hr;have w1:=bc (n+h) (by have:=aL.out;have:=ab.out;omega);have w2:=bc (2*c) (by have:=aa.out;omega);have ao:IntKind.i64.wrap ((n:Int)+(h:Int))=(n:Int)+(h:Int):=by have:=w1;push_cast at this;exact this
 have aq:IntKind.i64.wrap (2*(c:Int))=2*(c:Int):=by have:=w2;push_cast at this;exact this
 clear w1 w2;by_cases h0:0<c
 ·have g0:=dU ae;have ah:=dU h0;by_cases h1:c<=n
  ·have g1:=dU ae;have ai:=dU h1;obtain⟨bb,aj⟩:=bE (decide (2*c<=n+h));have HR:=an (show r=bb from by rw[HF.out,aj];simp[h0,h1]);have g2:decide (((n:Int)+(h:Int))>=2*(c:Int))=bb:=by rw[aj,Fe];omega
   have ak:decide (2*(c:Int)<=(n:Int)+(h:Int))=bb:=g2;clear aj h0 h1;go_in;go_wp2;refine e8 (S:=(λW=>aI W gb 153 (fD H.pb G.next vb vm G.u))) al ?_;change Acp _ _ _ _ _ 10 _ _ (w.drew);generalize w.drew=w1 at *;refine ta 0 ?_;refine ni ?_;refine ta 4 ?_;refine tb 5 rfl (yc (λW hS=>hS.cell 0)) ?_;refine ok 1 ?_;intro K hK;go_simp;refine CO.mono ?_;rintro e w2⟨rfl,u2⟩;obtain⟨FS2,U2⟩:=aw (FSx.up u2) (UD.trans u2);refine hK _ _ FS2 ?_;clear hK K;refine ok 6 ?_;intro K hK;go_simp;refine(PM w2 U2).mono ?_;refine Gv ?_;clear hK K;intro wx;refine ok 7 ?_;intro K hK;go_simp;refine(CN w2 U2).mono ?_;refine Gv ?_;clear hK K;intro wx;refine ta 8 ?_;refine ta 9 ?_;refine dn ?_;go_wp2_with fail;refine(GH w2 U2).mono ?_;refine f' ?_;intro wx;go_wp2;go_ret;exact⟨by rw[HR.out];rfl,U2⟩
  ·have g1:=cG ae;have ai:=cG h1;have HR:=an (show r=false from by rw[HF.out];simp[h1]);clear h0 h1;exact Za
 ·have g0:=cG ae;have ah:=cG h0;have HR:=an (show r=false from by rw[HF.out];simp[h0]);clear h0;exact Za
theorem xi(pb next:Nat)(vb:Option Addr)(nb cb:Nat)(vm:Option Addr)(nm cm:Nat)(u:hL):prog.built 153 [(0,pz pb),(1,.agg (aQ next (.slice vb nb cb))),(2,.slice vm nm cm),(3,.agg (uC u))]=some (fD pb next (.slice vb nb cb) (.slice vm nm cm) u):=al
section
variable {P:bu} {ops:Array Abi} {S:af->Prop} {o:Abi} {a:Act} {v:ah} {w:af} {K:Act->af->Prop} {Q:Exit->Act->af->Prop}
theorem Ej(hw:Aaa o (Aaz ops a.tmps)=true)(t:Aab)(i0 i1 i2 i3:Nat)(x0 x1 x2 x3:bR)(ho:o.op=.build t #[(i0,x0),(i1,x1),(i2,x2),(i3,x3)])(v0 v1 v2 v3:ah)(C:Array ah)(hb:P.built t [(i0,v0),(i1,v1),(i2,v2),(i3,v3)]=some C)(h0:a.eval x0=v0)(h1:a.eval x1=v1)(h2:a.eval x2=v2)(h3:a.eval x3=v3):Ach P ops S o (.agg C) a:=.inl ⟨hw,λw _=>by
  unfold Abt;simp only[ho,List.map_toArray,Ab8,List.map_nil,h0,h1,h2,h3,Aa1,run_build w t _ C hb,Aay,Ac7]⟩
theorem Ct(ty:Aab)(x:bR)(ho:o.op=.box ty x)(C:Array ah)(hx:a.eval x=.agg C)(h:K (a.put o.dst (pz w.heap.size)) (w.alloc (.cells C ty))):o.wp P a w K Q:=by unfold Ace Abt;simp[ho,hx,Instr.box,Aa1,newVar,newRow,Value.cells,Aar];exact h
end
theorem Dn(w:af)(gb:Nat)(H:aS)(G:ch)(A:GA w gb H G)(hl:κ G.l<=1000)(hr:∀x∈G.l,κ x.dead*24<=140737488355328)(sI:κ G.ms<=100000):Aaf Aag 37 #[pz gb] w λe w'=>∃gb' pb mb,e=.returned (pz gb')/\w.heap.size<=gb'/\w.heap.size<=pb/\w.heap.size<=mb/\GA w' gb' ⟨pb,mb,H.h⟩ G/\Up w w':=by
 have U0:=Up.drew (Up.refl w);have UD:=an U0;obtain⟨vb,vm,h1,h2,h3,h4⟩:=A.up U0;have c0:w.cell? (ad gb 0)=some (pz H.pb):=by obtain⟨_,_,k1,_⟩:=A;exact k1.cell 0
 obtain⟨HP,HB,HM,HL,HR,aL,FSx⟩:=vL h4 h2 h3 hl hr sI h1;clear hl hr sI;go_in;go_wp2;clear c0;refine e8 (S:=(λW=>aI W gb 153 (fD H.pb G.next vb vm G.u))) al ?_;change Acp _ _ _ _ _ 27 _ _ (w.drew);generalize w.drew=w1 at *;refine ta 0 ?_;refine ta 2 ?_;refine ta 5 ?_;refine ta 7 ?_;refine ta 10 ?_;refine ta 11 ?_;refine ta 12 ?_;refine tb 13 rfl (WU (λW hS=>ou hS)) ?_;refine ta 15 ?_;refine ta 16 ?_;refine ta 17 ?_;refine tb 18 rfl (yc (λW hS=>hS.cell 3)) ?_;refine ta 20 ?_;refine ta 21 ?_;refine ta 22 ?_;refine tb 23 rfl (WU (λW hS=>Mi hS)) ?_;refine ok 1 ?_;intro K hK;go_simp;refine(kV _ H _ HP).mono ?_;refine Gu ?_;clear hK K;intro wx;refine ok 3 ?_;intro K hK;go_simp;refine(ob _ H _ HP).mono ?_;refine Gu ?_;clear hK K;intro wx;refine ok 4 ?_;intro K hK;go_simp;refine(L5 _ _ _ HP.map).mono ?_;rintro e w2⟨rfl,ao,u2⟩;obtain⟨FS2,bB⟩:=aw (FSx.up u2) (HP.up u2);refine hK _ _ FS2 ?_;clear hK K;refine ok 6 ?_;intro K hK;go_simp;refine(o3 _ H _ bB).mono ?_;refine Gv ?_;clear hK K;intro wx;refine ok 8 ?_;intro K hK;go_simp;refine(Q1 _ H _ bB).mono ?_;refine Gv ?_;clear hK K;intro wx;refine ok 9 ?_;intro K hK;go_simp;refine(vo _ _ _ _ _ _ _ bB.dev ao _ _).mono ?_;rintro e w3⟨rfl,ag,u3⟩;obtain⟨aa,U3⟩:=aw (FS2.up u3) (u2.trans u3);refine hK _ _ aa ?_;clear hK K;refine ok 14 ?_;intro K hK;go_simp;refine(qQ _ _ _ _ (HB.up U3).cA HL HR).mono ?_;rintro e w4⟨v4,rfl,ab,u4⟩;obtain⟨aj,U4⟩:=aw (aa.up u4) (U3.trans u4);obtain⟨b4,c4,rfl⟩:=ab.cA.slice;refine hK _ _ aj ?_;clear hK K;refine ok 19 ?_;intro K hK;go_simp;refine(LB _ _ _ (aG.up (ak.row HM pw) U4) aL).mono ?_;rintro e w5⟨v5,rfl,aU,u5⟩;obtain⟨ae,U5⟩:=aw (aj.up u5) (U4.trans u5);obtain⟨m5,d5,rfl⟩:=(ak.row aU pw).slice;refine hK _ _ ae ?_;clear hK K;refine tb 24 rfl (Ej rfl _ 0 1 2 3 (.tmp 17) (.tmp 22) (.tmp 27) (.tmp 31) rfl _ _ _ _ _ (xi _ _ _ _ _ _ _ _ _) rfl rfl rfl rfl) ?_;refine ok 25 ?_;intro K hK;refine Ct _ (.tmp 32) rfl _ rfl ?_;have u6:=ai w5 (.cells (fD w2.heap.size G.next (.slice b4 (κ G.l) c4) (.slice m5 (κ G.ms) d5) G.u) 153);have aq:=an (ae.up u6);have aC:=an (show w1.heap.size<=w5.heap.size/\w1.heap.size<=w2.heap.size/\GA (w5.alloc (.cells (fD w2.heap.size G.next (.slice b4 (κ G.l) c4) (.slice m5 (κ G.ms) d5) G.u) 153)) w5.heap.size ⟨w2.heap.size,w1.heap.size,H.h⟩ G/\Up w1 (w5.alloc (.cells (fD w2.heap.size G.next (.slice b4 (κ G.l) c4) (.slice m5 (κ G.ms) d5) G.u) 153))from⟨U5.size,u2.size,⟨_,_,aI.new _ _ _,((ab.mono (base':=0) (bG _)).up u5).up u6,ak.up (aU.mono (base':=0) (bG _)) u6,((ag.up u4).up u5).up u6⟩,U5.trans u6⟩);refine hK _ _ aq ?_;clear hK K;refine ta 26 ?_;refine dn ?_;go_wp2;go_ret;have hw:=UD.size;exact⟨_,_,_,rfl,bO hw aC.1,bO hw aC.2.1,hw,aC.2.2.1,UD.trans aC.2.2.2⟩
def nQ(G:ch)(q:au):hL:=⟨G.u.du+1,G.P.st,q,40,(κ G.P.C:Int)⟩
def Xx(G:ch)(P8:bz)(q:au)(ps:List au):ch:=⟨{P8 with C:=P8.C.set ((G.u.du+1)%4) (qT (nQ G q)),m:=0,fl:=true,s:=iG P8.s 1024,ba:=P8.st,st:=P8.st+1},G.next,G.l,ps,nQ G q⟩
def MC(G:ch)(b:List aj)(P8:bz)(q:au)(ps:List au):Prop:=∃ats,κ ats=e2 (κ b) (κ G.P.C)/\ats.Nodup/\(∀i∈ats,i<1024/\bK G.P.s G.P.ba G.ms i=1)/\k9 P8.C q b (W0 {G.P with s:=fv (bK G.P.s G.P.ba G.ms) ats}) ps/\ME {G.P with s:=fv (bK G.P.s G.P.ba G.ms) ats} P8 ats ps/\q.wf/\cw q=true
def lV(gb:Nat)(H:aS)(G:ch)(b:List aj)(w:af)(e:Ab3)(w':af):Prop:=e=.returned (.int .i64 0)/\∃q ps P8 vp,MC G b P8 q ps/\GA w' gb (H.at vp) (Xx G P8 q ps)/\Touch (λk=>PF H k\/k=gb) w w'/\(∀k,vp.ownBlock=some k->H.h.vp.ownBlock=some k\/w.heap.size<=k)
theorem Jc{G:ch}{b:List aj}{P8:bz}{q:au}{ps:List au}(h:MC G b P8 q ps):q≠hole:=by
 obtain⟨ats,_,_,_,M,_⟩:=h;obtain⟨r1,r2,lv1,lv2,lvq,BQ,_⟩:=M.ex;have h1:=BQ.top;have h0:0<κ (eD (κ (fI r1 (κ b) r2 (κ (W0 {G.P with s:=fv (bK G.P.s G.P.ba G.ms) ats}))))):=by simp[iW,W0,fv,bK,MX]
 exact BQ.nh (κ (eD (κ (fI r1 (κ b) r2 (κ (W0 {G.P with s:=fv (bK G.P.s G.P.ba G.ms) ats})))))-1) ae q aa
theorem BX{P:bz}(A:PA w H P){v:ah}{ys:List gJ}(h2:ak dg 11 90 w base v ys):∀b,v.ownBlock=some b->¬PF H b:=λb hb hf=>by exact Ns
theorem HG(a s:Nat)(q:au)(l c:Int):prog.built 122 [(0,u6 (a:Int)),(1,u6 (s:Int)),(2,.agg (a6 q)),(3,i6 l),(4,i6 c)]=some (uC ⟨a,s,q,l,c⟩):=al
theorem H5(w:af)(gb:Nat)(H:aS)(G:ch)(A:GA w gb H G)(aD:G.next<18446744073709551616)(aK:∀x∈G.l,x.wf)(b:List aj)(hb:e3 G.next G.l=some b)(h1:1<=κ b)(ht:64<=κ G.P.C/\(κ G.P.C)<=1024)(aF:1<=G.P.st/\G.P.st<=100000000)(hm:G.P.m<=80000)(aE:∀i,i<1024->G.P.s i≠0->4<=i/\i<κ G.P.C)(hc:e2 (κ b) (κ G.P.C)<=bj (bK G.P.s G.P.ba G.ms))(aY:κ G.ms<=100000)(aa:G.u.du<=100000000):Aaf Aag 92 #[.pointer (some ⟨gb,0,none⟩)] w λe w'=>lV gb H G b w e w':=by
 obtain⟨w0,rfl⟩:=bE w;obtain⟨vb,vm,k1,k2,k3,k4⟩:=A;have ag:=k4.b' k1 av;have g0:w0.cell? ⟨gb,0,none⟩=some (.pointer (some ⟨H.pb,0,none⟩)):=k1.cell 0;have g3:w0.cell? ⟨gb,3,none⟩=some vm:=k1.cell 3;have g4:w0.cell? ⟨gb,4,none⟩=some (.int .u64 (G.u.du:Int)):=k1.cell 4;have g1:=ou k1;have CB:e2 (κ b) (κ G.P.C)<=2049:=tQ;have s:=Fr.tp k4;go_in;go_wp2_with fail;refine kpl s (λw s=>?_);repeat refine kt ?_
 refine ZT (λw _ s=>QF w H G.P s.pa G.next aD vb G.l (wW k4 k2 s.t).cA aK b hb vm G.ms (ak.row (ak.ax k3 s.t (eC k4 k3)) pw) (eC k4 k3) ht ⟨aF.1,ae⟩ ae h1 aE hc aY) ?_;rintro w _ s _ w'⟨ats,a1,a2,a3,q,v,ps,P8,rfl,o8,⟨vp,A8,T8,O8⟩,ma,wr,qw,qg⟩;obtain⟨va,vc,rfl⟩:=(ak.row o8 pw).slice;refine⟨_,_,rfl,.pt s A8 T8 O8 o8,YY,?_⟩;repeat(first|refine kx ?_|refine kt ?_)
 refine kn (λ_ w u s=>?_);have OQ:=an (kM q);refine ks (λw s=>?_);repeat(first|refine kx ?_|refine kt ?_)
 refine kd (λw u s=>?_);have SV:=an (show MC G b P8 q ps from⟨ats,a1,a2,a3,ma,wr,qw,qg⟩);obtain⟨W1,W2⟩:=az wr.len wr.st;have W3:P8.m<=82049:=by rw[wr.m];show G.P.m+κ ats<=_;omega
 replace W1:κ P8.C=κ G.P.C:=W1;replace W2:P8.st=G.P.st:=W2;have ab:=an (show nQ G q=⟨G.u.du+1,P8.st,q,40,(κ P8.C:Int)⟩ by unfold nQ;rw[W1,W2]);rw[<-W1]at ht;rw[<-W2]at aF;clear W1 W2 a1 a2 a3 ma wr hc aE hb aK;go_wp2_with(refine fw s ?_;intro _ w s);refine(kV w (H.at vp) P8 s.pa).mono ?_;rintro e _⟨rfl,rfl⟩;have wn:IntKind.u64.wrap ((G.u.du:Int)+1)=(G.u.du:Int)+1:=IntWalk.u64_in _ ae;have BU:=an (show prog.built 122 [(0,.int .u64 ((G.u.du:Int)+1)),(1,u6 (P8.st:Int)),(2,.agg (a6 q)),(3,i6 40),(4,i6 (κ P8.C:Int))]=_ from HG (G.u.du+1) P8.st q 40 (κ P8.C:Int));generalize ad:(⟨G.u.du+1,P8.st,q,40,(κ P8.C:Int)⟩:hL)=un at *;have hu:=an ad;clear ad;have OU:=an (xb un);go_wp2_with(refine fw s ?_;intro _ w s);refine kb s (λw s=>?_);repeat refine kt ?_
 refine kj 11 ?_;refine kj 12 ?_;refine kc (λw _ s=>o3 w (H.at vp) P8 s.pa) ?_;rintro w _ s _ _⟨rfl,rfl⟩;refine nj ?_;repeat(first|refine kx ?_|refine kt ?_)
 refine kc (λw _ s=>kK w (H.at vp).h P8.C P8.m P8.fl s.pa.dev) ?_;rintro w _ s _ _⟨rfl,rfl⟩;refine nj ?_;repeat(first|refine kx ?_|refine kt ?_)
 refine kn (λ_ w u s=>?_);refine ks (λw s=>?_);repeat(first|refine kx ?_|refine kt ?_)
 refine kd (λw u s=>?_);go_wp2_with(refine fw s ?_;intro _ w s);refine(Kh w (H.at vp).h P8.C P8.m P8.fl s.pa.dev un (by
  rw[<-hu.out];exact⟨by show G.u.du+1<_;omega,by show P8.st<_;omega,qw,⟨by show(-9223372036854775808:Int)<=40;omega,by show(40:Int)<=9223372036854775807;omega⟩,⟨by show(-9223372036854775808:Int)<=(κ P8.C:Int);omega,by show(κ P8.C:Int)<=9223372036854775807;omega⟩⟩) (by
  rw[<-hu.out,kD];exact⟨⟨by show 1<=G.u.du+1;omega,by show G.u.du+1<=_;omega⟩,⟨by show 1<=P8.st;omega,by show P8.st<=_;omega⟩,⟨qg,Jc SV⟩,⟨by show(1:Int)<=40;omega,by show(40:Int)<=65535;omega⟩,⟨by show(64:Int)<=(κ P8.C:Int);omega,by show(κ P8.C:Int)<=1024;omega⟩⟩) ae ae).mono ?_
 rintro e w⟨rfl,d10⟩;obtain⟨ao,s⟩:=s.pt (s.pa.V5 d10);have s:=s.own k1 ag;go_wp2_with(refine fw s ?_;intro _ w s);have S3:(Abz (fD H.pb G.next vb vm G.u).toList 3 (#[.slice va (κ ps) vc]:Array ah).toList).toArray=fD H.pb G.next vb (.slice va (κ ps) vc) G.u:=rfl
 have S4:(Abz (fD H.pb G.next vb (.slice va (κ ps) vc) G.u).toList 4 (uC un).toList).toArray=fD H.pb G.next vb (.slice va (κ ps) vc) un:=rfl
 refine kwg gb s (λw s=>?_);repeat refine kt ?_
 refine ksp (λw s=>?_);repeat refine kt ?_
 refine ksp (λw s=>?_);refine kd (λw u s=>?_);go_wp2_with(refine fw s ?_;intro _ w s);refine(IP w (H.at ao) _ s.pa (by show P8.st<_;omega)).mono ?_;rintro e bf⟨rfl,ai,t14⟩;obtain⟨bs,s⟩:=s.pt (vp:=ao) ⟨ao,ai,t14,λ_ h=>.inl h⟩;go_wp2_with fail;refine br ?_;obtain⟨ys,y1,y2,y3⟩:=k2;have OZ:bt bf 0 vb G.l:=⟨ys,y1,ak.ax y2 s.t (λb hb hf=>by
  rcases hf with hf|hf
  ·exact BX k4 y2 b hb hf
  ·exact eA av k1 y2 (by rw[hb,hf])),λy hy=>ak.ax (y3 y hy) s.t (λb hb hf=>by
  rcases hf with hf|hf
  ·exact eC k4 (y3 y hy) b hb hf
  ·exact eA av k1 (y3 y hy) (by rw[hb,hf]))⟩
 refine⟨rfl,q,ps,P8,bs,SV,⟨vb,.slice va (κ ps) vc,?_,OZ,s.I0.mono (bG _),?_⟩,s.t,(s.p (pl _ H bs _) gB).2⟩
 ·show aI _ _ _ (fD _ _ _ _ (nQ G q));rw[ab.out];have:=s.e6 (g:=gb) (t:=153) gB;exact this
 ·show PA _ _ {P8 with C:=P8.C.set _ (qT (nQ G q)),m:=0,fl:=true,s:=iG P8.s 1024,ba:=P8.st,st:=P8.st+1};rw[ab.out];have:=s.pa (vp:=bs);rw[<-hu.out]at this ⊢;exact this
structure Cy(G:ch)(b:List aj):Prop where
 nx:G.next<=100000000
 wf:∀x∈G.l,x.wf
 Zp:e3 G.next G.l=some b
 one:1<=κ b
 dev:64<=κ G.P.C/\(κ G.P.C)<=1024
 st:1<=G.P.st/\G.P.st<=100000000
 m:G.P.m<=80000
 inn:∀i,i<1024->G.P.s i≠0->4<=i/\i<κ G.P.C
 cost:e2 (κ b) (κ G.P.C)<=bj (bK G.P.s G.P.ba G.ms)
 old:κ G.ms<=100000
 tx:G.u.du<=100000000
theorem lV.pre{G:ch}{b:List aj}{w0 w:af}{e:Ab3}{w':af}(u:Up w0 w)(h:lV gb H G b w e w'):lV gb H G b w0 e w':=by obtain⟨rfl,q,ps,P8,vp,sv,ga,t,ov⟩:=h;exact⟨rfl,q,ps,P8,vp,sv,ga,(Touch.bV (F:=λk=>PF H k\/k=gb) u).trans t (λ_ h _=>h),λk hk=>(ov k hk).imp id (λh=>bO u.size h)⟩
theorem Dm(w:af)(gb:Nat)(H:aS)(G:ch)(A:GA w gb H G)(b:List aj)(K:Cy G b):Aaf Aag 92 #[pz gb] w λe w'=>lV gb H G b w e w':=H5 w gb H G A FQ K.wf b K.Zp K.one K.dev K.st K.m K.inn K.cost K.old K.tx
theorem Qd(w:af)(gb:Nat)(H:aS)(G:ch)(A:GA w gb H G)(b:List aj)(K:Cy G b)(hc:fc G<=bj G.P.s):Aaf Aag 38 #[pz gb] w λe w'=>lV gb H G b w e w':=by obtain⟨HA,PD,DD,PS,PM,CN,CO,CM⟩:=Jw A (kV w H G.P A.pa) (tV w H.h G.P.C G.P.m G.P.fl A.pa.dev) (o3 w H _ A.pa) (ob w H G.P A.pa) (mq w H.mb G.P.s A.pa.map) (Dp w gb H G A FQ K.wf) (λW (u:Up w W)=>Dm W gb H G (A.up u) b K);obtain⟨vb,vm,k1,_⟩:=A;have c0:w.cell? (ad gb 0)=some (pz H.pb):=k1.cell 0;have c1:w.cell? (ad gb 1)=some (u6 (G.next:Int)):=k1.cell 1;have c4:w.cell? (ad gb 4)=some (u6 (G.u.du:Int)):=k1.cell 4;have t1:((G.u.du:Int)>281474976710652)=False:=cG (by have:=K.tx;omega);have az:(281474976710652<G.u.du)=False:=cG aP;have t2:((G.P.st:Int)>281474976710652)=False:=cG (by have:=K.st;omega);have aW:(281474976710652<G.P.st)=False:=cG aP;have t3:((G.next:Int)>281474976710652)=False:=cG FQ;have ab:(281474976710652<G.next)=False:=cG aP;have t5:((bj G.P.s:Int)<(fc G:Int))=False:=cG ae;have ag:(bj G.P.s<fc G)=False:=cG ae;clear hc;generalize bj G.P.s=n at *;generalize fc G=c at *;obtain⟨tx,aa⟩:=bE (G.u.du);obtain⟨st,aF⟩:=bE (G.P.st);obtain⟨nx,aD⟩:=bE (G.next);rw[<-aa]at c4 t1 az;rw[<-aF]at PS t2 aW;rw[<-aD]at c1 t3 ab;clear aa aF aD;go_in;go_wp2_with fail;refine zg ?_;intro wx;go_wp2_with fail;refine DD.mono ?_;refine f' ?_;intro wx;go_wp2_with fail;refine PS.mono ?_;refine f' ?_;intro wx;go_wp2_with fail;refine PM.mono ?_;refine f' ?_;intro wx;go_wp2_with fail;refine CN.mono ?_;refine f' ?_;intro wx;go_wp2_with fail;refine CO.mono ?_;rintro e w2⟨rfl,u2⟩;clear c0 c1 c4;go_wp2_with fail;refine(CM w2 u2).mono ?_;intro e w3 hr;have HR:=an (hr.pre u2);obtain⟨rfl,_⟩:=hr;go_wp2;go_ret;exact HR
theorem SL(pb:Nat):prog.built 153 [(0,pz pb),(1,.agg (aQ 1 (nl)))]=some (fD pb 1 (nl) (nl) tJ):=al
theorem HD:prog.built 73 [(0,u6 1)]=some (aQ 1 (nl)):=al
def tc(C:List cQ)(m:Nat)(fl:Bool):ch:=⟨⟨C,m,fl,jZ (κ C),1,0⟩,1,[],[],tJ⟩
theorem H6(w:af)(h:iM)(C:List cQ)(m:Nat)(fl:Bool)(D:DA w h C m fl)(b:List aj)(K:Cy (tc C m fl) b):Aaf Aag 64 #[pz h.d] w λe w'=>∃gb pb mb w1,w.heap.size<=gb/\w.heap.size<=pb/\w.heap.size<=mb/\Up w w1/\e=rt #[pz gb,i6 0]/\lV gb ⟨pb,mb,h⟩ (tc C m fl) b w1 (.returned (i6 0)) w':=by
 have hl:=K.dev;obtain⟨LE,SN⟩:=aw (kK w h C m _ D) (B1 w (κ C) (by have:=hl.1;show 4<=κ C;have:64<=κ C:=hl.1;omega) hl.2);have t1:((κ C:Int)<64)=False:=cG (by have:64<=κ C:=hl.1;omega);have az:(κ C<64)=False:=cG aP;obtain⟨n,hn⟩:=bE (κ C);have HN:=an hn;rw[<-hn]at LE SN t1 az;clear hl hn;go_in;go_wp2_with fail;refine zh ?_;intro wx;go_wp2_with fail;refine zh ?_;intro wx;go_wp2_with fail;refine SN.mono ?_;rintro e w1⟨rfl,s1,u1⟩;go_wp2_with fail;refine(vo _ h _ C m _ _ (D.up u1) s1 1 0).mono ?_;rintro e w2⟨rfl,a2,u2⟩;have U2:=an (u1.trans u2);go_wp2_with(first
  | ((with_reducible refine eR _ _ ?_);refine kQ rfl _ 0 (.const (u6 1)) rfl _ rfl _ HD ?_)
  | ((with_reducible refine eR _ _ ?_);refine kG rfl _ 0 1 (.tmp 13) (.tmp 14) rfl _ _ _ (SL _) rfl rfl ?_)
  | refine gY 153 15 (fD w1.heap.size 1 (nl) (nl) tJ) ?_)
 have u3:=ai w2 (.cells (fD w1.heap.size 1 (nl) (nl) tJ) 153);have aa:=an (show GA (w2.alloc (.cells (fD w1.heap.size 1 (nl) (nl) tJ) 153)) w2.heap.size ⟨w1.heap.size,w.heap.size,h⟩ (tc C m fl)from⟨nl,nl,aI.new w2 153 _,⟨[],rfl,ak.nil _ _ _ _ _,λy hy=>aP⟩,ak.nil _ _ _ _ _,by have:=a2.up u3;rw[HN.out]at this;exact this⟩);have CM:=an (Dm _ _ _ _ aa b K);refine CM.mono ?_;intro e w4 hr;have HR:=an hr;obtain⟨rfl,_⟩:=hr;go_wp2;go_ret2;exact⟨_,_,_,_,U2.size,u1.size,aE _,(U2.trans u3),rfl,HR⟩
structure bU(w:af)(p gb:Nat)(H:aS)(G:ch):Prop where
 e6:aI w p 82 #[.pointer (some ⟨gb,0,none⟩)]
 ga:GA w gb H G
def bU.up{w w':af}{p gb:Nat}{G:ch}(A:bU w p gb H G)(u:Up w w'):bU w' p gb H G:=⟨A.e6.up u,A.ga.up u⟩
theorem Xe(nx:Nat)(v:ah)(W:af):(Instr.field 73 (.agg (aQ nx v)) 0).run Aag W=.ok (u6 (nx:Int)) W:=al
theorem MH(nx:Nat)(a:Option Addr)(n c:Nat)(W:af):(Instr.field 73 (.agg (aQ nx (.slice a n c))) 1).run Aag W=.ok (.slice a n c) W:=al
abbrev k6(gb:Nat):ah:=.agg #[.pointer (some ⟨gb,0,none⟩)]
theorem Qr(gb:Nat):(prog.info? 100).map (·.size)=some (#[pz gb]:Array ah).size:=al
theorem Q'(w:af):Aaf Aag 48 #[i6 71] w λe w'=>e=.returned (i6 71)/\w=w':=by go_in;exact e4
theorem wO(w:af)(p gb:Nat)(H:aS)(G:ch)(A:bU w p gb H G):Aaf Aag 36 #[pz p] w λe w'=>e=.returned (.bool false)/\w=w':=by have c0:w.cell? (ad p 0)=some (pz gb):=A.e6.cell 0;go_in;go_wp2_with fail;refine(j8 w _ H G A.ga).mono ?_;refine f' ?_;intro wx;go_wp2_with fail;refine(kV w H _ A.ga.pa).mono ?_;refine f' ?_;intro wx;go_wp2_with fail;refine(tV w _ _ _ _ A.ga.pa.dev).mono ?_;refine f' ?_;intro wx;exact e4
theorem LG(w:af)(gb:Nat)(H:aS)(G:ch)(A:GA w gb H G)(hl:κ G.l<=1000)(hr:∀x∈G.l,κ x.dead*24<=140737488355328)(hn:G.next<=100000000):Aaf Aag 41 #[k6 gb] w λe w'=>e=.returned (.bool false)/\Up w w':=by refine Gk ?_;intro u1 c0;have BK:=an (fT _ _ H G (A.up u1) hl hr);have t1:((G.next:Int)>281474976710651)=False:=cG ae;have az:(281474976710651<G.next)=False:=cG ae;have t2:(281474976710651<(G.next:Int))=False:=cG ae;clear hl hr hn;obtain⟨nx,aD⟩:=bE (G.next);rw[<-aD]at BK t1 az t2;clear aD;go_in;go_wp2_with(refine arm ?_);refine BK.mono ?_;rintro e w2⟨v2,rfl,os,u2⟩;have BF:=Xe nx v2;go_wp2;go_ret;exact⟨rfl,(u1.trans u2)⟩
theorem BA(w:af)(gb:Nat)(H:aS)(G:ch)(A:GA w gb H G)(hn:G.next<18446744073709551616)(aK:∀x∈G.l,x.wf)(sI:κ G.ms<=100000):Aaf Aag 44 #[k6 gb] w λe w'=>e=.returned (i6 (if ev G=true then 0 else 71))/\Up w w':=by
 refine Gk ?_;intro u1 c0;obtain⟨FT,U1⟩:=aw (Qb _ _ H G (A.up u1) hn aK sI) u1;clear hn aK sI;generalize ev G=fb at *;cases fb
 ·exact UT
 ·exact UT
theorem tl(w:af)(gb:Nat)(H:aS)(G:ch)(A:GA w gb H G)(vo:ah)(old:List au)(ho:c9 w vo old)(bd:∀k,vo.ownBlock=some k->¬PF H k)(aY:κ old<=100000):Aaf Aag 105 #[k6 gb,vo] w λe w'=>e=rt #[]/\GA w' gb H {G with P:={G.P with s:=bK G.P.s G.P.ba old}}/\Touch (PF H) w w':=by
 obtain⟨oa,oc,rfl⟩:=ho.slice;refine Gk ?_;intro u1 c0;obtain⟨AA,U1,SZ,HO,aP,B1⟩:=iC (A.up u1) u1 (aN w (.cells #[pz gb] 100)) (aG.up ho u1) bd (aI.new w 100 #[pz gb]);obtain⟨vb,vm,g1,_⟩:=A;have GB:=an (g1.up u1);clear bd c0;go_in;go_wp2_with(refine arm ?_);obtain⟨w1,ay⟩:=bE ((w.alloc (.cells #[pz gb] 100)));rw[<-ay]at U1 AA HO B1 GB SZ ⊢;clear ay;go_loopw [8] (λi wr=>∃k:Nat,k<=κ old/\i=i6 k/\GA wr gb H {G with P:={G.P with s:=bK G.P.s G.P.ba (old.take k)}}/\Touch (PF H) w1 wr/\aI wr w.heap.size 100 #[pz gb]) (λi _=>κ old-(Aaq i).toNat)
 case atStart=>exact⟨0,bG _,rfl,AA,Touch.refl _ _,B1⟩
 case round=>
  obtain⟨k,hk,rfl,ar,tr,br⟩:=hrel;obtain⟨AR,TR,BR⟩:=aW ar tr br;by_cases hlt:k<κ old
  ·have b3:((k:Int)<(κ old:Int))=True:=by simp;omega
   obtain⟨bb,off,rfl,hbs,_,hc⟩:=(aG.nP HO TR aP).range pw ae;obtain⟨RC,TK,UX,BX⟩:=bS (hc k hlt) (show bK G.P.s G.P.ba (old.take (k+1))=gU (bK G.P.s G.P.ba (old.take k)) G.P.ba old[k] from by rw[(λk hk=>eo hk) k hlt,pV]) (ai wr (.cells (a6 old[k]) 87)) (aI.new wr 87 (a6 old[k]));clear hc;generalize old[k]=q at *;go_wp2_with(first
    | refine cM 87 10 (a6 q) RC ?_
    | refine bH 87 fh ?_
    | refine dX 87 5 11 wr (a6 q) 87 (a6 hole) ?_)
   obtain⟨w2,hw2⟩:=bE (wr.alloc (.cells (a6 q) 87));rw[<-hw2]at UX BX ⊢;clear hw2;have FSx:=an (Adc (BR.up UX) BX);refine e8 (S:=(λW=>aI W w.heap.size 100 #[pz gb]/\aI W wr.heap.size 87 (a6 q))) al ?_;change Acp _ _ _ _ _ 5 _ _ (w2.drew);have UD:=an (Up.drew (Up.refl w2));obtain⟨FA,AA⟩:=aw (Adc (FSx.1.up UD) (FSx.2.up UD)) ((AR.up UX).up UD);generalize w2.drew=w3 at *;refine ta 0 ?_;refine tb 1 rfl (yc (λW hS=>hS.1.cell 0)) ?_;refine tb 3 rfl (WU (λW hS=>aI.range hS.2)) ?_;refine ok 2 ?_;intro K hK;go_simp;refine(j8 _ _ H _ AA).mono ?_;refine f' ?_;intro wx;refine hK _ _ FA ?_;clear hK K;refine ok 4 ?_;intro K hK;go_simp;refine(DP _ H _ AA.pa q).mono ?_;rintro e w4⟨⟨r,rfl⟩,a4,t4⟩;have FB:=an (Adc (FA.1.ax t4 (AA.pa.b' FA.1 av)) (FA.2.ax t4 (λh=>by have:=AR.pa.lt _ h;omega)));refine hK _ _ FB ?_;clear hK K;refine dn ?_;go_wp2;go_roundw
   case rel=>exact⟨k+1,ae,aq,(by rw[TK.out];exact AA.tp H.h.vp a4 t4),((TR.trans (Touch.bV (F:=PF H) (UX.trans UD)) (λn h _=>h)).trans t4 (λn h _=>h)),FB.1⟩
   case measure=>simp only[Aaq];omega
  ·obtain rfl:k=κ old:=by omega
   have b3:((κ old:Int)<(κ old:Int))=False:=aq
   have ar:=AR.out;rw[fj]at ar;go_wp2;go_end0;exact⟨rfl,ar,((Touch.bV (F:=PF H) U1).trans TR (λn h _=>h))⟩
def fz(l:List ab)(full:List aj)(i:Int):Except Nat Nat:=match dM l full with
 | .error n=>.error (if n=141 then 141 else 172)
 | .ok k=>if i<0\/(recAt l k).blocks<=i then .error 176 else .ok k
section
variable {l:List ab} {full:List aj} {i:Int} {k n:Nat}
theorem Xr(h:dM l full=.error 141):fz l full i=.error 141:=uO
theorem Xs(h:dM l full=.error n)(hn:n≠141):fz l full i=.error 172:=uO
theorem ML(h:dM l full=.ok k)(hi:i<0\/(recAt l k).blocks<=i):fz l full i=.error 176:=uO
theorem EE(h:dM l full=.ok k)(hi:¬(i<0\/(recAt l k).blocks<=i)):fz l full i=.ok k:=uO
end
def My(l:List ab)(r:Except Nat Nat)(w:af)(e:Ab3)(w':af):Prop:=(∃n:Nat,r=.error n/\e=.returned (.tuple #[.agg b8,.int .i64 (n:Int)])/\Up w w')\/(∃i v,r=.ok i/\i<κ l/\e=.returned (.tuple #[.agg (b7 (recAt l i) v),.int .i64 0])/\a8 w' w.heap.size v (recAt l i).dead/\Up w w')
theorem DQ(w:af)(next:Nat)(v:ah)(l:List ab)(hv:cy w v l)(hr:∀x∈l,κ x.dead*24<=140737488355328)(full:List aj)(hf:κ full<=9223372036854775807)(i:Int):Aaf Aag 51 #[.agg (aQ next v),.string (strOf full),i6 i] w λe w'=>My l (fz l full i) w e w':=by
 obtain⟨a,cap,rfl⟩:=hv.slice;obtain⟨U1,U2⟩:=az (ai w (.cells (aQ next (.slice a (κ l) cap)) 73)) (ai (w.alloc (.cells (aQ next (.slice a (κ l) cap)) 73)) (.cells b8 90));obtain⟨b1,b2⟩:=az ((aI.new w 73 (aQ next (.slice a (κ l) cap))).up U2) (aI.new (w.alloc (.cells (aQ next (.slice a (κ l) cap)) 73)) 90 b8);rw[aN]at b2;obtain⟨w2,hw2⟩:=bE ((w.alloc (.cells (aQ next (.slice a (κ l) cap)) 73)).alloc (.cells b8 90));obtain⟨UU,aa⟩:=aw (U1.trans U2) b1;rw[<-hw2]at b1 b2 UU;obtain⟨HW2,IZ,OZ⟩:=aW hw2 il ie;clear hw2;have c1:((w.alloc (.cells (aQ next (.slice a (κ l) cap)) 73)).alloc (.cells b8 90)).cell? (ad w.heap.size 1)=some (.slice a (κ l) cap):=by rw[<-HW2.out];exact b1.cell 1
 go_in;go_wp2_with(refine arm ?_);rw[<-HW2.out];clear c1;refine(rC _ _ l (hv.up UU) hr _ hf).mono ?_;rintro e w3(⟨n,hn,rfl,u3⟩|⟨k,vd,hk,hkl,rfl,od,u3⟩)
 ·have U3:=an (UU.trans u3);exact Nt
 ·have U3:=an (UU.trans u3);obtain⟨x,hx⟩:=bE (recAt l k);obtain⟨HX,E2,E3,HK⟩:=bS hx (ML (i:=i) hk) (EE (i:=i) hk) hkl;rw[<-hx]at od E2 E3 ⊢;obtain⟨da,dc,rfl⟩:=(ak.row od pw).slice;refine UW ?_;clear hx hk hkl;intro OD U4 B2_4 c6 g1 bl aT HBL;rw[<-aT]at c6 g1 E2 E3;clear aT;rcases g1 with g1|⟨g1,g2,g3⟩|⟨g1,g2,g3⟩
  ·exact U5
  ·exact U6
  ·have HE:=an (E3 (λh=>by
    rcases h with h|h
    ·rw[g1]at h;exact h
    ·rw[g3]at h;exact h))
   go_wp2_with(first|refine arm ?_|refine pH ?_);intro wz hbz ag;obtain⟨UZ,OZ⟩:=aw (U4.grown ag (λk hk=>aP)) (ak.kept OD ag (.inr (eA av B2_4 OD)));go_wp2_with fail;exact bN (.tuple #[.agg (b7 x (.slice da (κ x.dead) dc)),i6 0]) hbz (.inr ⟨k,_,HE,HK,by rw[<-HX.out],by rw[<-HX.out];exact OZ.mono (by have:=UU.size;omega),UZ⟩)
def rV(l:List ab)(id:Nat):Nat:=match aK l id with
 | none=>0
 | some j=>(recAt l j).ay
abbrev pG(l:List ab):Prop:=l.Pairwise (λx y=>x.id<y.id)
structure gg(next:Nat)(l:List ab):Prop where
 nx:next<=281474976710655
 len:κ l<=32
 rt:∀x∈l,cz x=true
 gb:pG l
 KI:∀x∈l,x.id<next
 nm:∀x∈l,∀y∈l,b9 x=b9 y->x=y
 pz:∀x∈l,x.prev=0->x.dead=[]
 pv:∀x∈l,x.prev≠0->∃y∈l,y.id=x.prev/\y.aT=true/\(x.aT=true->y.ay<x.ay)/\∀p∈x.dead,p.aV<=y.ay
 ov:∀x∈l,x.aT=true->∃v∈l,v.id=x.owner/\v.aT=false
 Zh:∀x∈l,x.aT=true->∃n∈l,n.prev=x.id/\n.owner=x.owner/\∀m∈l,m.prev=x.id->m.owner=x.owner->m=n
theorem pG.inj(h:pG l):∀{x y:ab},x∈l->y∈l->x.id=y.id->x=y:=by
 induction l with
 | nil=>simp
 | cons a l ih=>intro x y hx hy e;have h2:=List.pairwise_cons.mp h;grind
theorem aL(h:i<κ l):recAt l i∈l:=by grind [b0]
theorem b6(h:pG l)(hx:x∈l):∃i,i<κ l/\aK l x.id=some i/\recAt l i=x:=by
 cases e:aK l x.id with
 | none=>grind [aK,eb]
 | some i=>obtain⟨h1,h2⟩:=cP e;exact⟨i,h1,rfl,h.inj (aL h1) hx h2⟩
theorem xJ{id:Nat}:aK l id=none↔∀x∈l,x.id≠id:=by simp[aK,eb]
theorem B5(h:pG l)(hy:y∈l):rV l y.id=y.ay:=by grind [b6,rV,recAt]
theorem right_id(h:cz x=true):1<=x.id/\x.id<=281474976710655:=by grind [bm]
theorem Wi{id:Nat}(h:∀x∈l,x.id≠id):rV l id=0:=by unfold rV;rw[xJ.mpr h]
section
variable {next:Nat} {l:List ab}
theorem gg.aap(F:gg next l):rV l 0=0:=Wi (λx hx e=>by have:=(right_id (F.rt x hx)).1;omega)
theorem gg.floor(F:gg next l){x:ab}(hx:x∈l):bY l x.id=rV l x.prev:=by
 obtain⟨i,_,h1,h2⟩:=b6 F.gb hx;by_cases h0:x.prev=0
 ·rw[An h1 aa,h0,F.aap]
 ·obtain⟨y,hy,e,_⟩:=F.pv x hx h0;obtain⟨j,_,h3,h4⟩:=b6 F.gb hy;rw[Ao h1 aa (by rw[h2,<-e];exact h3),h4,<-e,B5 F.gb hy]
theorem gg.prv(F:gg next l){x:ab}(hx:x∈l)(h:x.prev≠0):∃y∈l,y.id=x.prev/\y.aT=true/\rV l x.prev=y.ay/\(x.aT=true->y.ay<x.ay):=by obtain⟨y,hy,e,h1,h2,_⟩:=F.pv x hx h;exact⟨y,hy,e,h1,by rw[<-e,B5 F.gb hy],h2⟩
theorem oE{p:ab->Bool}{l:List ab}:eb p l=none↔∀x∈l,p x=false:=by simp[eb]
theorem kz{l:List ab}{x:ab}(h:x∈l):∃i,i<κ l/\recAt l i=x:=by obtain⟨i,hi,e⟩:=jD h;exact⟨i,hi,by grind [b0]⟩
theorem gg.placeOf(F:gg next l){x:ab}(hx:x∈l):∃i,i<κ l/\ed l (b9 x)=some i/\recAt l i=x:=by
 cases e:ed l (b9 x)with
 | none=>have:=oE.mp e x hx;simp_all
 | some i=>obtain⟨h1,h2⟩:=fo e;exact⟨i,h1,rfl,F.nm _ (aL h1) x hx h2⟩
theorem vb{l:List ab}{id j:Nat}:j∈fY l id↔j<κ l/\(recAt l j).prev=id:=by simp[fY,iZ]
def KF(l:List ab)(id:Nat):(fY l id).Nodup:=(List.nodup_range).filter _
theorem pG.lq{l:List ab}(h:pG l){i j:Nat}(hi:i<κ l)(hj:j<κ l)(e:recAt l i=recAt l j):i=j:=by
 rcases Nat.lt_trichotomy i j with hlt|rfl|hlt
 ·have:=List.pairwise_iff_getElem.mp h i j hi hj hlt;grind [b0]
 ·rfl
 ·have:=List.pairwise_iff_getElem.mp h j i hj hi hlt;grind [b0]
theorem gg.aa0(F:gg next l):Zy next l:=by
 refine⟨F.nx,F.len,F.rt,λk hk=>⟨?_,F.KI _ (aL hk)⟩,?_,λk hk=>?_,λk hk=>?_⟩
 ·cases k with
  | zero=>exact(right_id (F.rt _ (aL hk))).1
  | succ k=>show(recAt l k).id<_;rw[b0 hk,b0 ae];exact List.pairwise_iff_getElem.mp F.gb k (k+1) ae hk ae
 ·have:∀m:List ab,pG m->(∀x∈m,∀y∈m,b9 x=b9 y->x=y)->(m.map b9).Nodup:=by
   intro m;induction m with
   | nil=>decide
   | cons a m ih=>intro h1 h2;obtain⟨h3,h4⟩:=List.pairwise_cons.mp h1;grind
  exact this l F.gb F.nm
 ·have hx:=aL hk;generalize recAt l k=x at hx;by_cases h0:x.prev=0
  ·rw[HW h0,F.pz x hx h0];rfl
  ·obtain⟨y,hy,e,h1,h2,h3⟩:=F.pv x hx h0;obtain⟨i,_,h4,h5⟩:=b6 F.gb hy;grind [HX,iF]
 ·have hx:=aL hk;generalize recAt l k=x at hx;cases hs:x.aT with
  | false=>exact IM hs
  | true=>
   obtain⟨v,hv,e,h1⟩:=F.ov x hx hs;obtain⟨i,_,h4,h5⟩:=b6 F.gb hv;rw[IN hs (by rw[<-e];exact h4) aa];obtain⟨n,hn,e1,e2,h6⟩:=F.Zh x hx hs;obtain⟨j,hj,e3⟩:=kz hn;have:hF l x.owner (fY l x.id)=[j]:=by
    have aB:(hF l x.owner (fY l x.id)).Nodup:=(KF l x.id).filter _;have ag:∀a,a∈hF l x.owner (fY l x.id)↔a=j:=by
     intro a;unfold hF;rw[wy,vb];constructor
     ·rintro⟨⟨h7,h8⟩,h9⟩;have ad:=h6 _ (aL h7) h8 (ia h9);exact F.gb.lq h7 hj (ad.trans e3.symm)
     ·simp_all
    generalize hF l x.owner (fY l x.id)=m at aB ag;match m,aB,ag with
    | [],_,hm=>simp_all
    | [a],_,hm=>rw[(hm a).mp cS]
    | a::b::r,aB,hm=>have ea:=(hm a).mp aq;simp_all
   simp_all
end
def cL(l:List ab)(x:ab)(p:au):Prop:=∀y∈l,y.id=x.prev->y.ay<p.aV
structure hJ(st:Nat)(l:List ab)(M:au->au->Prop):Prop where
 brt:∀x∈l,∀p,M x.root p->1<=p.aV/\p.aV<=st
 sn:∀x∈l,x.aT=true->x.ay<st/\∀p,M x.root p->p.aV<=x.ay
 el:∀x∈l,∀y∈l,y.id=x.prev->∀p,M x.root p->p.aV<=y.ay->M y.root p
 dd:∀x∈l,∀y∈l,y.id=x.prev->∀p,p∈x.dead↔M y.root p/\¬M x.root p
 lc:∀x∈l,∀z∈l,∀p q,M x.root p->M z.root q->p.loc=q.loc->p=q
 ow:∀x∈l,∀z∈l,∀p,M x.root p->M z.root p->cL l x p->cL l z p->x=z
theorem gj(h:i<κ l):l[i]=recAt l i:=(b0 h).symm
theorem mem_set(h:pG l)(hi:i<κ l){x' y:ab}:y∈l.set i x'↔y=x'\/(y∈l/\y≠recAt l i):=by
 constructor
 ·intro hy;obtain⟨j,hj,e⟩:=jD hy;rw[Aax]at hj;rw[List.getElem_set]at e;split at e
  ·simp_all
  ·rename_i hne;refine .inr ⟨aP,λe2=>hne (h.lq hi hj ?_)⟩;grind [gj]
 ·rintro(rfl|⟨hy,hne⟩)
  ·exact List.mem_iff_getElem.mpr ⟨i,ao,aq⟩
  ·obtain⟨j,hj,e⟩:=kz hy;refine List.mem_iff_getElem.mpr ⟨j,ao,?_⟩;grind [gj]
theorem mem_erase(h:pG l)(hi:i<κ l):y∈l.eraseIdx i↔y∈l/\y≠recAt l i:=by
 rw[List.mem_eraseIdx_iff_getElem];constructor
 ·rintro⟨j,hj,hne,e⟩;exact⟨aP,λe2=>hne (h.lq hj hi (by grind [gj]))⟩
 ·grind [kz,gj]
theorem Ha:pG l↔(l.map (·.id)).Pairwise (· < ·):=aP
theorem EI{x':ab}(e:x'.id=(recAt l i).id):(l.set i x').map (·.id)=l.map (·.id):=by
 rw[qm,e];by_cases hi:i<κ l
 ·rw[b0 hi];apply yP
  ·simp
  ·grind
 ·rw[List.set_eq_of_length_le ao]
theorem vF(h:pG l){x':ab}(e:x'.id=(recAt l i).id):pG (l.set i x'):=by grind [Ha,EI]
theorem mz(h:pG l)(hx:∀y∈l,y.id<x.id):pG (l++[x]):=aP
theorem D5(h:pG l)(i:Nat):pG (l.eraseIdx i):=aP
theorem h7:y∈l++[x]↔y∈l\/y=x:=aq
section
variable {next st:Nat} {l:List ab} {M:au->au->Prop}
def gg.KH(F:gg next l):∀x∈l,1<=x.id:=λx hx=>(right_id (F.rt x hx)).1
theorem gg.eY(F:gg next l){x y:ab}(hx:x∈l)(hy:y∈l)(e:y.id=x.prev):y.aT=true/\(x.aT=true->y.ay<x.ay):=by have:=F.KH y hy;obtain⟨y',aw,e',h1,h2,_⟩:=F.pv x hx ae;have:y=y':=F.gb.inj hy aw (e.trans e'.symm);simp_all
theorem gg.own(F:gg next l){x:ab}(hx:x∈l)(h:x.aT=false):x.owner=x.id:=by have:=(bm x).mp (F.rt x hx);simp_all
theorem gg.LH(F:gg next l){x:ab}(hx:x∈l):x.prev<next:=by
 by_cases h:x.prev=0
 ·have:=F.KI x hx;omega
 ·obtain⟨y,hy,e,_⟩:=F.pv x hx h;rw[<-e];exact F.KI y hy
theorem gg.abg(F:gg next l){x:ab}(hx:x∈l):x.owner<next:=by
 cases h:x.aT with
 | false=>rw[F.own hx h];exact F.KI x hx
 | true=>obtain⟨v,hv,e,_⟩:=F.ov x hx h;rw[<-e];exact F.KI v hv
theorem hJ.alone(I:hJ st l M)(F:gg next l){x:ab}(hx:x∈l){p:au}(hp:M x.root p)(hn:cL l x p)(hk:∀z∈l,z.prev=x.id->¬M z.root p):∀z∈l,z≠x->¬M z.root p:=by
 have UP:∀z∈l,z≠x->M z.root p->∃y∈l,y.id=z.prev/\M y.root p:=λz hz hne hm=>by have:¬cL l z p:=λh=>hne (I.ow z hz x hx p hm hp h hn);unfold cL at this;simp only[Ack]at this;obtain⟨y,hy,e,h⟩:=this;exact⟨y,hy,e,I.el z hz y hy e p hm ae⟩
 have S:∀n,∀z∈l,z.aT=true->z.ay<n->z≠x->¬M z.root p:=by
  intro n;induction n with
  | zero=>omega
  | succ n ih=>intro z hz hs hlt hne hm;obtain⟨y,hy,e,aa⟩:=UP z hz hne hm;obtain⟨h1,h2⟩:=F.eY hz hy e;grind
 intro z hz hne hm;obtain⟨y,hy,e,aa⟩:=UP z hz hne hm;obtain⟨h1,_⟩:=F.eY hz hy e;by_cases he:y=x
 ·simp_all
 ·exact S (y.ay+1) y hy h1 ae he aa
theorem hJ.Hz(I:hJ st l M)(F:gg next l){x:ab}(hx:x∈l)(hs:x.aT=false){p:au}(hp:M x.root p)(hn:cL l x p):∀z∈l,z≠x->¬M z.root p:=I.alone F hx hp hn (λz hz e _=>by have:=(F.eY hz hx e.symm).1;rw[hs]at this;cases this)
theorem hJ.aa5(I:hJ st l M){l':List ab}(h:∀z∈l',(∃u∈l,u.root=z.root)\/∀p,¬M z.root p):∀x∈l',∀z∈l',∀p q,M x.root p->M z.root q->p.loc=q.loc->p=q:=by
 intro x hx z hz p q hp hq e;rcases h x hx with⟨u,hu,e1⟩|h1
 ·rcases h z hz with⟨v,hv,e2⟩|h2
  ·exact I.lc u hu v hv p q aa aa e
  ·simp_all
 ·simp_all
theorem hJ.create(I:hJ st l M)(F:gg next l){l':List ab}{x:ab}(m:∀y,y∈l'↔y=x\/y∈l)(h1:x.root=hole)(h2:x.prev=0)(h3:x.aT=false)(h4:x.id=next)(hn:1<=next)(h0:∀p,¬M hole p):hJ st l' M:=by
 have LC:=I.aa5 (l':=l') (λz hz=>by
  rcases(m z).mp hz with rfl|h
  ·exact .inr aa
  ·exact .inl ⟨z,h,rfl⟩)
 obtain⟨a1,a2,a3,a4,a5,a6⟩:=I;obtain⟨b2,pl⟩:=az F.KH (λ(y:ab) (hy:y∈l)=>F.LH hy);have N:∀z∈l,∀p,cL l' z p->cL l z p:=λz hz p h y hy=>h y ((m y).mpr (.inr hy));refine⟨?_,?_,?_,?_,LC,?_⟩
 ·grind
 ·grind
 ·grind
 ·grind
 ·grind
theorem hJ.clone(I:hJ st l M)(F:gg next l){l':List ab}{x s:ab}(m:∀y,y∈l'↔y=x\/y∈l)(hs:s∈l)(h0:s.aT=true)(h1:x.root=s.root)(h2:x.prev=s.id)(h3:x.aT=false)(h4:x.id=next)(h5:x.dead=[]):hJ st l' M:=by obtain⟨a1,a2,a3,a4,a5,a6⟩:=I;obtain⟨b1,b3⟩:=az F.KI F.pv;have N:∀z∈l,∀p,cL l' z p->cL l z p:=λz hz p h y hy=>h y ((m y).mpr (.inr hy));have NX:∀p,cL l' x p->s.ay<p.aV:=λp h=>h s ((m s).mpr (.inr hs)) h2.symm;have J:=λ(x:ab) (hx:x∈l) (y:ab) (hy:y∈l)=>F.gb.inj (x:=x) (y:=y) hx hy;refine⟨?_,?_,?_,?_,?_,?_⟩<;>simp only[m]<;>grind
theorem hJ.aT(I:hJ st l M)(F:gg next l){l':List ab}{v s v':ab}(hv:v∈l)(h0:v.aT=false)(m:∀y,y∈l'↔y=v'\/y=s\/(y∈l/\y≠v))(s1:s.root=v.root)(s2:s.prev=v.prev)(s3:s.dead=v.dead)(s4:s.aT=true)(s5:s.ay=st)(s6:s.id=next)(v1:v'.root=v.root)(v2:v'.prev=next)(v3:v'.dead=[])(v4:v'.aT=false)(v5:v'.id=v.id):hJ (st+1) l' M:=by
 obtain⟨a1,a2,a3,a4,a5,a6⟩:=I;obtain⟨b1,b2,b3⟩:=cX F.KI F.KH F.pv;refine uY ?_;intro J PS;have N:∀z∈l,z≠v->∀p,cL l' z p->cL l z p:=λz hz hne p h y hy e=>by
  by_cases af:y=v
  ·grind
  ·exact h y ((m y).mpr (.inr (.inr ⟨hy,af⟩))) e
 have NS:∀p,cL l' s p->cL l v p:=λp h y hy e=>by
  by_cases af:y=v
  ·grind
  ·exact h y ((m y).mpr (.inr (.inr ⟨hy,af⟩))) ae
 have NV:∀p,cL l' v' p->st<p.aV:=λp h=>by have:=h s ((m s).mpr (.inr (.inl rfl))) ae;omega
 refine⟨?_,?_,?_,?_,?_,?_⟩<;>simp only[m]<;>grind
theorem hJ.tZ(I:hJ st l M)(F:gg next l){l':List ab}{v:ab}(hv:v∈l)(h0:v.aT=false)(m:∀z,z∈l'↔z∈l/\z≠v):hJ st l' M/\∀p,M v.root p->cL l v p->∀z∈l',¬M z.root p:=by
 have AL:=λp (hp:M v.root p) (hn:cL l v p)=>I.Hz F hv h0 hp hn;obtain⟨a1,a2,a3,a4,a5,a6⟩:=I;have PS:=λ(x:ab) (hx:x∈l) (y:ab) (hy:y∈l)=>F.eY (x:=x) (y:=y) hx hy;have N:∀z∈l,∀p,cL l' z p->cL l z p:=λz hz p h x hx ex=>by
  by_cases af:x=v
  ·grind
  ·exact h x ((m x).mpr ⟨hx,af⟩) ex
 refine⟨⟨?_,?_,?_,?_,?_,?_⟩,?_⟩<;>simp only[m]<;>grind
theorem hJ.l1(I:hJ st l M)(F:gg next l){l':List ab}{y j j':ab}(hy:y∈l)(h0:y.aT=true)(hj:j∈l)(e:j.prev=y.id)(only:∀z∈l,z.prev=y.id->z=j)(m:∀z,z∈l'↔z=j'\/(z∈l/\z≠j/\z≠y))(j1:j'.root=j.root)(j2:j'.prev=y.prev)(j3:∀p,p∈j'.dead↔(p∈j.dead/\¬cL l y p)\/p∈y.dead)(j4:j'.aT=j.aT)(j5:j'.id=j.id)(j6:j'.ay=j.ay):hJ st l' M/\∀p,p∈j.dead->cL l y p->∀z∈l',¬M z.root p:=by
 have LC:=I.aa5 (l':=l') (λz hz=>by
  rcases(m z).mp hz with rfl|⟨h,_⟩
  ·exact .inl ⟨j,hj,j1.symm⟩
  ·exact .inl ⟨z,h,rfl⟩)
 have AL:=λp (hp:M y.root p) (hn:cL l y p)=>I.alone F hy hp hn;obtain⟨a1,a2,a3,a4,a5,a6⟩:=I;refine uY ?_;intro J PS;have jy:j≠y:=λh=>TY
 have dj:=a4 j hj y hy e.symm;have N:∀z∈l,z≠j->z≠y->∀p,cL l' z p->cL l z p:=λz hz hne ah p h x hx ex=>by
  by_cases ag:x=y
  ·grind
  ·by_cases ai:x=j
   ·subst ai;have:=h j' ((m j').mpr (.inl rfl)) ae;omega
   ·exact h x ((m x).mpr (.inr ⟨hx,ai,ag⟩)) ex
 have NJ:∀p,cL l' j' p->cL l y p:=λp h x hx ex=>by
  by_cases ag:x=y
  ·grind
  ·by_cases ai:x=j
   ·grind
   ·exact h x ((m x).mpr (.inr ⟨hx,ai,ag⟩)) ae
 have N2:∀p,¬cL l y p->∃x∈l,x.id=y.prev/\p.aV<=x.ay:=λp h=>by grind [cL]
 have JP:∀x∈l,x.id=y.prev->x.ay<y.ay/\x.aT=true:=λx hx ex=>⟨(PS y hy x hx ex).2 h0,(PS y hy x hx ex).1⟩;have af:∀p,M j.root p->y.ay<p.aV\/M y.root p:=λp hp=>aP
 have ZL:∀z∈l',z.id=y.prev->z∈l/\z≠j:=λz hz ez=>aP
 refine⟨⟨?_,?_,?_,?_,?_,?_⟩,?_⟩
 ·grind
 ·grind
 ·intro x hx z hz ez p hp hb;rcases(m x).mp hx with rfl|⟨aa,ad,aj⟩
  ·grind
  ·grind
 ·intro x hx z hz ez p;rcases(m x).mp hx with rfl|⟨aa,ad,aj⟩
  ·rw[j3 p];grind [cL]
  ·grind
 ·exact LC
 ·intro x hx z hz p hp hq n1 n2;have K:∀z∈l,z≠j->z≠y->M j.root p->M z.root p->cL l y p->cL l z p->False:=λz hz ak al h1 h2 h3 h4=>by
   rcases af p h1 with h5|h5
   ·exact ak (a6 z hz j hj p h2 h1 h4 (λx hx ex=>aP))
   ·grind
  rcases(m x).mp hx with rfl|⟨aa,ad,aj⟩<;>rcases(m z).mp hz with rfl|⟨hz1,ar,an⟩
  ·rfl
  ·grind
  ·grind
  ·grind
 ·grind
theorem hJ.Ws(I:hJ st l M)(F:gg next l){M':au->au->Prop}{l':List ab}{v v':ab}(hv:v∈l)(h0:v.aT=false)(m:∀z,z∈l'↔z=v'\/(z∈l/\z≠v))(old news:au->Prop)(same:∀z∈l,∀p,M' z.root p↔M z.root p)(mem:∀p,M' v'.root p↔news p\/(M v.root p/\¬old p))(ho:∀p,old p->M v.root p)(hn:∀p,news p->p.aV=st/\∀z∈l,∀q,M z.root q->q.loc≠p.loc)(hd:∀p q,news p->news q->p.loc=q.loc->p=q)(aF:1<=st)(v2:v'.prev=v.prev)(v3:∀p,p∈v'.dead↔p∈v.dead\/(old p/\¬cL l v p))(v4:v'.aT=false)(v5:v'.id=v.id):hJ st l' M'/\∀p,old p->cL l v p->∀z∈l',∀q,M' z.root q->q.loc≠p.loc:=by
 have AL:=λp (hp:M v.root p) (hn:cL l v p)=>I.Hz F hv h0 hp hn;obtain⟨a1,a2,a3,a4,a5,a6⟩:=I;refine uY ?_;intro J PS;have N:∀z∈l,z≠v->∀p,cL l' z p->cL l z p:=λz hz hne p h x hx ex=>by
  by_cases af:x=v
  ·grind
  ·exact h x ((m x).mpr (.inr ⟨hx,af⟩)) ex
 have NV:∀p,cL l' v' p->cL l v p:=λp h x hx ex=>by
  by_cases af:x=v
  ·grind
  ·exact h x ((m x).mpr (.inr ⟨hx,af⟩)) ae
 have N2:∀p,¬cL l v p->∃x∈l,x.id=v.prev/\p.aV<=x.ay:=λp h=>by grind [cL]
 have ag:∀z∈l,z.prev≠v.id:=λz hz e=>by have:=(PS z hz v hv e.symm).1;rw[h0]at this;cases this
 refine⟨⟨?_,?_,?_,?_,?_,?_⟩,?_⟩
 ·grind
 ·grind
 ·grind
 ·grind
 ·intro x hx z hz p q hp hq e;rcases(m x).mp hx with rfl|⟨aa,ad⟩
  ·grind
  ·grind
 ·intro x hx z hz p hp hq n1 n2;rcases(m x).mp hx with rfl|⟨aa,ad⟩
  ·grind
  ·grind
 ·grind
theorem hJ.map(I:hJ st l M){l':List ab}(f:ab->ab)(m:∀z,z∈l'↔∃x∈l,z=f x)(hf:∀x,(f x).root=x.root/\(f x).prev=x.prev/\(f x).dead=x.dead/\(f x).aT=x.aT/\(f x).ay=x.ay/\(f x).id=x.id):hJ st l' M:=by
 obtain⟨a1,a2,a3,a4,a5,a6⟩:=I;have N:∀x∈l,∀p,cL l' (f x) p->cL l x p:=λx hx p h y hy e=>by have:=h (f y) ((m _).mpr ⟨y,hy,rfl⟩) aa;simp_all
 refine⟨?_,?_,?_,?_,?_,?_⟩
 ·intro x' ag;obtain⟨x,hx,rfl⟩:=(m _).mp ag;rw[(hf x).1];exact a1 x hx
 ·simp_all
 ·exact Ol
 ·intro x' ag y' aw;obtain⟨x,hx,rfl⟩:=(m _).mp ag;obtain⟨y,hy,rfl⟩:=(m _).mp aw;rw[(hf x).1,(hf x).2.1,(hf x).2.2.1,(hf y).1,(hf y).2.2.2.2.2];exact a4 x hx y hy
 ·exact Ol
 ·intro x' ag y' aw p h1 h2 n1 n2;obtain⟨x,hx,rfl⟩:=(m _).mp ag;obtain⟨y,hy,rfl⟩:=(m _).mp aw;grind
end
structure Shape(next:Nat)(l:List ab):Prop where
 nx:next<=281474976710655
 len:κ l<=32
 rt:∀x∈l,cz x=true
section
variable {next st:Nat} {l l':List ab}
theorem gg.create(F:gg next l){x:ab}(S:Shape (next+1) (l++[x]))(h1:x.prev=0)(h2:x.dead=[])(h3:x.aT=false)(h4:x.id=next)(h5:∀y∈l,b9 y≠b9 x):gg (next+1) (l++[x]):=by have pl:=λ(y:ab) (hy:y∈l)=>F.LH hy;obtain⟨a0,a1,a2,a3,a4,a5,a6,a7,a8,a9⟩:=F;have i0:∀y∈l,1<=y.id:=λy hy=>(right_id (a2 y hy)).1;exact OB
theorem gg.clone(F:gg next l){x s:ab}(S:Shape (next+1) (l++[x]))(hs:s∈l)(h0:s.aT=true)(h1:x.prev=s.id)(h2:x.dead=[])(h3:x.aT=false)(h4:x.id=next)(h6:x.owner=next)(h5:∀y∈l,b9 y≠b9 x):gg (next+1) (l++[x]):=by obtain⟨a0,a1,a2,a3,a4,a5,a6,a7,a8,a9⟩:=F;exact OB
theorem gg.aT(F:gg next l)(S:Shape (next+1) l')(hr:pG l'){v s v':ab}(aF:∀x∈l,x.aT=true->x.ay<st)(aM:∀x∈l,∀y∈l,y.id=x.prev->∀p∈x.dead,p.aV<=y.ay)(hv:v∈l)(h0:v.aT=false)(m:∀y,y∈l'↔y=v'\/y=s\/(y∈l/\y≠v))(s2:s.prev=v.prev)(s3:s.dead=v.dead)(s4:s.aT=true)(s5:s.ay=st)(s6:s.id=next)(s7:s.owner=v.id)(v2:v'.prev=next)(v3:v'.dead=[])(v4:v'.aT=false)(v5:v'.id=v.id)(v6:v'.owner=v.owner)(v7:v'.name=v.name)(h5:∀y∈l,b9 y≠b9 s):gg (next+1) l':=by
 obtain⟨ol,pl,ov⟩:=cX (λ(y:ab) (hy:y∈l)=>F.abg hy) (λ(y:ab) (hy:y∈l)=>F.LH hy) (F.own hv h0);refine uY ?_;intro J PS;obtain⟨a0,a1,a2,a3,a4,a5,a6,a7,a8,a9⟩:=F;have i0:∀y∈l,1<=y.id:=λy hy=>(right_id (a2 y hy)).1;have cv:b9 v'=b9 v:=uK
 refine⟨S.nx,S.len,S.rt,hr,?_,?_,?_,?_,?_,?_⟩
 ·grind
 ·intro x hx y hy e;rcases(m x).mp hx with rfl|rfl|⟨aa,ad⟩<;>rcases(m y).mp hy with rfl|rfl|⟨aG,aj⟩
  ·rfl
  ·grind
  ·grind
  ·grind
  ·rfl
  ·grind
  ·grind
  ·grind
  ·grind
 ·grind
 ·intro x hx h;rcases(m x).mp hx with rfl|rfl|⟨aa,ad⟩
  ·grind
  ·rw[s2]at h;obtain⟨y,hy,e,g1,g2,g3⟩:=a7 v hv h;have:y≠v:=λe2=>by rw[e2,h0]at g1;cases g1
   grind
  ·grind
 ·intro x hx h;rcases(m x).mp hx with rfl|rfl|⟨aa,ad⟩
  ·grind
  ·grind
  ·grind
 ·intro x hx h;rcases(m x).mp hx with rfl|rfl|⟨aa,ad⟩
  ·grind
  ·grind
  ·obtain⟨n,hn,e1,e2,e3⟩:=a9 x aa h;by_cases aB:n=v
   ·subst aB;refine⟨s,(m s).mpr (.inr (.inl rfl)),ae,ae,λq hq g1 g2=>?_⟩;rcases(m q).mp hq with rfl|rfl|⟨aE,ai⟩
    ·grind
    ·rfl
    ·grind
   ·refine⟨n,(m n).mpr (.inr (.inr ⟨hn,aB⟩)),e1,e2,λq hq g1 g2=>?_⟩;rcases(m q).mp hq with rfl|rfl|⟨aE,ai⟩
    ·grind
    ·grind
    ·grind
theorem gg.back(F:gg next l)(S:Shape next l')(hr:pG l'){v v':ab}(hv:v∈l)(m:∀z,z∈l'↔z=v'\/(z∈l/\z≠v))(v2:v'.prev=v.prev)(v3:v.prev=0->v'.dead=[])(v8:∀y∈l,y.id=v.prev->∀p∈v'.dead,p.aV<=y.ay)(v4:v'.aT=v.aT)(v5:v'.id=v.id)(v6:v'.owner=v.owner)(v7:v'.name=v.name)(v9:v'.ay=v.ay):gg next l':=by
 have PS:=λ(x:ab) (hx:x∈l) (y:ab) (hy:y∈l)=>F.eY (x:=x) (y:=y) hx hy;obtain⟨a0,a1,a2,a3,a4,a5,a6,a7,a8,a9⟩:=F;have i0:∀y∈l,1<=y.id:=λy hy=>(right_id (a2 y hy)).1;have cv:b9 v'=b9 v:=uK
 have R:∀x∈l',∃u∈l,x.prev=u.prev/\x.id=u.id/\x.aT=u.aT/\x.owner=u.owner/\x.ay=u.ay/\(x=u\/(x=v'/\u=v)):=λx hx=>aP
 have R':∀u∈l,∃x∈l',x.prev=u.prev/\x.id=u.id/\x.aT=u.aT/\x.owner=u.owner/\x.ay=u.ay:=λu hu=>aP
 refine⟨S.nx,S.len,S.rt,hr,?_,?_,?_,?_,?_,?_⟩
 ·grind
 ·grind
 ·grind
 ·intro x hx h;obtain⟨u,hu,e1,e2,e3,e4,e5,e6⟩:=R x hx;obtain⟨y,hy,f1,f2,f3,f4⟩:=a7 u hu ae;grind
 ·intro x hx h;obtain⟨u,hu,e1,e2,e3,e4,e5,e6⟩:=R x hx;obtain⟨y,hy,f1,f2⟩:=a8 u hu aP;grind
 ·intro x hx h;obtain⟨u,hu,e1,e2,e3,e4,e5,e6⟩:=R x hx;obtain⟨n,hn,f1,f2,f3⟩:=a9 u hu aP;obtain⟨n',ag,g1,g2,g3,g4,g5⟩:=R' n hn;refine⟨n',ag,ae,ae,λq hq h1 h2=>?_⟩;obtain⟨q0,aa,k1,k2,k3,k4,k5,k6⟩:=R q hq;grind
theorem gg.tZ(F:gg next l)(hr:pG l')(hl:κ l'<=32){v:ab}(hv:v∈l)(h0:v.aT=false)(m:∀z,z∈l'↔z∈l/\z≠v)(no:∀x∈l,x.aT=true->x.owner≠v.id):gg next l':=by
 have ov:=F.own hv h0;obtain⟨a0,a1,a2,a3,a4,a5,a6,a7,a8,a9⟩:=F;refine⟨a0,hl,λx hx=>a2 x ((m x).mp hx).1,hr,?_,?_,?_,?_,?_,?_⟩
 ·simp_all
 ·grind
 ·simp_all
 ·grind
 ·grind
 ·intro x hx h;obtain⟨aa,ad⟩:=(m x).mp hx;obtain⟨n,hn,f1,f2,f3⟩:=a9 x aa h;exact⟨n,(m n).mpr ⟨hn,λe=>no x aa h aP⟩,f1,f2,λq hq=>f3 q ((m q).mp hq).1⟩
theorem gg.l1(F:gg next l)(S:Shape next l')(hr:pG l'){y j j':ab}(hy:y∈l)(h0:y.aT=true)(hj:j∈l)(e:j.prev=y.id)(eo:j.owner=y.owner)(only:∀z∈l,z.prev=y.id->z=j)(m:∀z,z∈l'↔z=j'\/(z∈l/\z≠j/\z≠y))(j2:j'.prev=y.prev)(j3:y.prev=0->j'.dead=[])(j8:∀z∈l,z.id=y.prev->∀p∈j'.dead,p.aV<=z.ay)(j4:j'.aT=j.aT)(j5:j'.id=j.id)(j6:j'.ay=j.ay)(j7:j'.owner=j.owner)(j9:j'.name=j.name):gg next l':=by
 obtain⟨PS,i0,gb⟩:=cX (λ(x:ab) (hx:x∈l) (y:ab) (hy:y∈l)=>F.eY (x:=x) (y:=y) hx hy) F.KH F.gb;obtain⟨a0,a1,a2,a3,a4,a5,a6,a7,a8,a9⟩:=F;have jy:j≠y:=λh=>TY
 have cj:b9 j'=b9 j:=uK
 have R:∀x∈l',∃u∈l,u≠y/\x.id=u.id/\x.aT=u.aT/\x.owner=u.owner/\x.ay=u.ay/\((x=u/\u≠j)\/(x=j'/\u=j)):=λx hx=>by
  rcases(m x).mp hx with rfl|⟨h1,h2,h3⟩
  ·grind
  ·grind
 have R':∀u∈l,u≠y->∃x∈l',x.id=u.id/\x.aT=u.aT/\x.owner=u.owner/\x.ay=u.ay/\((x=u/\u≠j)\/(x=j'/\u=j)):=λu hu hn=>by
  by_cases h:u=j
  ·grind
  ·grind
 refine⟨S.nx,S.len,S.rt,hr,?_,?_,?_,?_,?_,?_⟩
 ·grind
 ·intro x hx z hz h;rcases(m x).mp hx with rfl|⟨aa,ad,_⟩<;>rcases(m z).mp hz with rfl|⟨hz1,ar,_⟩
  ·rfl
  ·grind
  ·grind
  ·grind
 ·grind
 ·intro x hx h;rcases(m x).mp hx with rfl|⟨aa,ad,aj⟩
  ·rw[j2]at h;obtain⟨z,hz,f1,f2,f3,f4⟩:=a7 y hy h;have zy:z≠y:=λe2=>by have:=f3 h0;rw[e2]at this;omega
   obtain⟨z',af,g1,g2,g3,g4,g5⟩:=R' z hz zy;refine⟨z',af,ae,aP,λhs=>?_,?_⟩
   ·grind
   ·grind
  ·obtain⟨z,hz,f1,f2,f3,f4⟩:=a7 x aa h;have zy:z≠y:=λe2=>ad (only x aa aP);grind
 ·intro x hx h;obtain⟨u,hu,u1,u2,u3,u4,u5,u6⟩:=R x hx;obtain⟨v,hv,f1,f2⟩:=a8 u hu aP;obtain⟨v',ak,g1,g2,g3,g4,g5⟩:=R' v hv (λe2=>aP);grind
 ·intro x hx h;obtain⟨u,hu,u1,u2,u3,u4,u5,u6⟩:=R x hx;obtain⟨n,hn,f1,f2,f3⟩:=a9 u hu aP;by_cases ah:n=y
  ·grind
  ·obtain⟨n',ag,g1,g2,g3,g4,g5⟩:=R' n hn ah;refine⟨n',ag,?_,ae,λq hq h1 h2=>?_⟩
   ·rcases g5 with⟨rfl,_⟩|⟨rfl,rfl⟩
    ·omega
    ·exact absurd (gb.inj hu hy ae) u1
   ·rcases(m q).mp hq with rfl|⟨aE,ai,an⟩
    ·grind
    ·grind
theorem gg.abd(F:gg next l){v:ab}(hv:v∈l)(h0:v.aT=false)(hp:∀y∈l,y.id=v.prev->y.owner≠v.id):∀x∈l,x.aT=true->x.owner≠v.id:=by
 have B:∀x∈l,x.aT=true->x.ay<=281474976710655:=λx hx hs=>xQ (F.rt x hx);have S:∀n,∀x∈l,x.aT=true->281474976710655-x.ay<n->x.owner≠v.id:=by
  intro n;induction n with
  | zero=>omega
  | succ n ih=>
   intro x hx hs hlt ho;obtain⟨m,hm,e1,e2,_⟩:=F.Zh x hx hs;cases sI:m.aT with
   | true=>have h2:=(F.eY hm hx e1.symm).2 sI;grind
   | false=>have:m=v:=F.gb.inj hm hv (by rw[<-F.own hm sI,e2,ho]);grind
 intro x hx hs;exact S _ x hx hs (Nat.lt_succ_self _)
end
end Go.Proofs.YtkpjfnbbkohciaaGreat
