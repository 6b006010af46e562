import Derived.Test.YtkpjfnbbkohciaaGreatAd
import Derived.Lib.Walk
set_option maxRecDepth 100000
set_option maxHeartbeats 16000000
set_option linter.all false
open Go renaming TypeId->Aab,Calls->Aae,zeroValue->Acj,wpStill->Ade,wpList->Aal,wpAnyH->Acp,Addr->Adr,Ending->Ab2,splice->Abx,Oper->Abn,madeCells->Acv,execOp->Abt,yielded->Aa1,wpAnyIn->Acy,undef->Aas,YieldsIf->Acb
open Go.ByteArray renaming extract_mk->Adz,toList_eq->Adl
open Go.Lib renaming indexByte->Aa5
open Go.Proofs.Tryz renaming prog->Aag,underlying88->Aaq
open Go.Result renaming andThen->Aap,andThen_ok->Aax
open List renaming findIdx?_eq_none_iff->Ad0,flatMap_cons->Abc,mem_cons->Aam,replicate->Aad,append_assoc->Aa9,append_nil->Ab1,drop_zero->Aaw,mem_append->Aa8,length_cons->Aaj,length_map->Aac,map_append->Aar,length_append->Aaf,range->Aak,range_succ->Ab5,size_toArray->Abh,length_nil->Aa4,push_toArray->Abj,append_toArray->Aba,nil_append->Aaz,cons_append->Aa2,mem_map->Abd,drop_succ_cons->Abu,length_set->Aat,map_cons->Acd,length->κ
open Go.RowKit renaming intOf->Aau
open Go.Op renaming equalIn->Ach
open Go.Act renaming put->Aao
open Option.some renaming injEq->Aai
open Go.Addr.mk renaming injEq->Abq
open Nat renaming zero_add->Aby
open Go.Value renaming ownBlock->Aan,slice->Acr
open Go.Sem renaming run_bind->Aay,run_pure->Ac7
open Go.Instr renaming slice->Aav,makeSlice->Acf,sureAddr->Adg,buildSlice->Acz
open Go.Value.slice renaming injEq->Abg
open Go.Region renaming Mode->Ab0,wanted->Aaa,ready->Abi
open Bool renaming false_eq_true->Ab3
open Go.Fence renaming wide->Abv
open Array renaming replicate_succ->Aa6,replicate_zero->Aa7
open Go.World renaming size_alloc->Aa3
open Go.Oper renaming wp->Aca
open Go.Builtin renaming zeroCells->Abf,clear_->Adq
open And renaming intro->Adc
open Classical renaming not_forall->Acl
namespace Go.Proofs.YtkpjfnbbkohciaaGreat
open Go.Proofs.Tryz Go.RowKit Go.Sort
variable{xs:List Nat}{u:hT}{b base cap g i id k n o ow:Nat}{x y:ao}{α:Type}{ds:List au}{e t:Aab}{H:aR}{W w:af}{p:ao->Bool}{l:List ao}{a:Act}{P:bp}
theorem Wy(l:List aj)(k:Nat):(strOf l).extract 0 k=strOf (l.take k):=by unfold strOf;rw[Adz];simp
theorem L2(l:List aj)(k:Nat):(strOf l).extract k (strOf l).size=strOf (l.drop k):=by rw[tK];unfold strOf;rw[Adz];rw[dq aq]
theorem jb(l:List aj)(c:aj):Aa5 l c=-1\/∃k:Nat,Aa5 l c=k/\k<κ l/\l[k]?=some c/\∀j,j<k->l[j]?≠some c:=by
 by_cases h:Aa5 l c=-1
 ·omega
 ·have aI:=Lib.indexByte_ge l c;obtain⟨k,hk⟩:∃k:Nat,Aa5 l c=k:=⟨(Aa5 l c).toNat,ae⟩;obtain⟨h1,h2⟩:=Lib.indexByte_some hk;grind
def gw:Option (List aj × List aj)->ah
 | none=>.tuple #[.string ⟨#[]⟩,.string ⟨#[]⟩,.int .i64 141]
 | some (a,b)=>.tuple #[.string (strOf a),.string (strOf b),.int .i64 0]
def dm(l:List aj):Option (List aj × List aj):=if Aa5 l 64=-1 then(if ei l=true then some (l,[])else none) else if ei (l.take (Aa5 l 64).toNat)=true/\ei (l.drop ((Aa5 l 64).toNat+1))=true then some (l.take (Aa5 l 64).toNat,l.drop ((Aa5 l 64).toNat+1))else none
def qd(a b:List aj):List aj:=if ei a=true then(if b=[] then a else if ei b=true then a++64::b else [])else []
theorem KF(w:af)(l:List aj):Aae Aag 282 #[.string (strOf l),.int .u8 64] w λe w'=>e=.returned (i6 (Aa5 l 64))/\w=w':=by go_in;go_wp2;rw[run_callFunc_extern func292 aA aA al (e:=Extern.BytealgIndexByte.indexByte) al,Lib.run_indexByteString];simp only[Aap];rw[Fi];go_wp2;go_ret;exact⟨rfl,rfl⟩
theorem Ib(w:af)(l:List aj):Aae Aag 263 #[.string (strOf l),.string ⟨#[64]⟩] w λe w'=>e=.returned (i6 (Aa5 l 64))/\w=w':=by
 have hc:=an (λW=>KF W l);have hd:(strOf l).toList=l:=by rw[Adl,mH]
 generalize strOf l=s at *;by_cases h:l=[64]
 ·subst h;have ht:([64]==s.toList)=true:=by grind
  clear hd hc;go_in;go_wp2;go_ret;exact⟨rfl,rfl⟩
 ·have ht:([64]==s.toList)=false:=by grind
  clear hd;go_in;go_wp2_with fail;refine(hc _).mono ?_;rintro e w'⟨rfl,rfl⟩;exact e3
theorem CT(n:Nat)(h:n<=9223372036854775807):IntKind.i64.wrap (n:Int)=(n:Int):=by exact zC
theorem P'(w:af)(l:List aj)(h:Aa5 l 64=-1):Aae Aag 219 #[.string (strOf l),.string ⟨#[64]⟩] w λe w'=>e=.returned (.tuple #[.string (strOf l),.string ⟨#[]⟩,.bool false])/\Up w w':=by have hc:=an (λW=>Ib W l);rw[h]at hc;clear h;generalize strOf l=s at *;go_in;go_wp2_with fail;refine(hc _).mono ?_;rintro e w'⟨rfl,rfl⟩;go_wp2;go_ret3;exact⟨rfl,Up.refl _⟩
theorem Qa(w:af)(l:List aj)(k:Nat)(h:Aa5 l 64=k)(hk:k<κ l)(hl:κ l<=9223372036854775807):Aae Aag 219 #[.string (strOf l),.string ⟨#[64]⟩] w λe w'=>e=rt #[.string (strOf (l.take k)),.string (strOf (l.drop (k+1))),.bool true]/\Up w w':=by
 have hc:=an (λW=>Ib W l);rw[h]at hc;clear h;have aN:(strOf l).size=κ l:=rfl;obtain⟨e1,e2⟩:=az (Wy l k) (L2 l (k+1));rw[aN]at e2;generalize strOf l=s at *;have h1:((k:Int)<=(κ l:Int))=True:=ab
 have h2:IntKind.i64.wrap ((k:Int)+1)=(k:Int)+1:=CT (k+1) ae;have h3:((k:Int)+1<=(κ l:Int))=True:=ab
 have aX:(0<=(k:Int)+1)=True:=ab
 have h4:((k:Int)+1).toNat=k+1:=ae
 go_in;go_wp2_with fail;refine(hc _).mono ?_;rintro e w'⟨rfl,rfl⟩;go_wp2;go_quiet (fail);go_wp2;go_ret3;exact⟨rfl,(Up.refl _).drewN _⟩
theorem Tn(w:af)(l:List aj)(h:Aa5 l 64=-1):Aae Aag 156 #[.string (strOf l),.string ⟨#[64]⟩] w λe w'=>e=.returned (.tuple #[.string (strOf l),.string ⟨#[]⟩,.bool false])/\Up w w':=by have hc:=an (λW=>P' W l h);clear h;generalize strOf l=s at *;exact Vk
theorem To(w:af)(l:List aj)(k:Nat)(h:Aa5 l 64=k)(hk:k<κ l)(hl:κ l<=9223372036854775807):Aae Aag 156 #[.string (strOf l),.string ⟨#[64]⟩] w λe w'=>e=rt #[.string (strOf (l.take k)),.string (strOf (l.drop (k+1))),.bool true]/\Up w w':=by have hc:=an (λW=>Qa W l k h hk hl);clear h;generalize strOf l=s at *;generalize strOf (l.take k)=s1 at *;generalize strOf (l.drop (k+1))=s2 at *;exact Vk
theorem qZ{l:List aj}(h:Aa5 l 64=-1):dm l=if ei l=true then some (l,[])else none:=by grind [dm]
theorem q0{l:List aj}(h:Aa5 l 64=k):dm l=if ei (l.take k)=true/\ei (l.drop (k+1))=true then some (l.take k,l.drop (k+1))else none:=by grind [dm]
theorem PE:okB 64=false:=av
theorem By{l:List aj}(h:ei l=true)(j:Nat):l[j]?≠some 64:=by grind [jx,PE]
theorem La{l:List aj}(h:ei l=true):Aa5 l 64=-1:=by grind [jb,By]
theorem yy{l:List aj}(hk:l[k]?=some 64)(h:ei (l.take k)=true):Aa5 l 64=k:=by
 rcases jb l 64 with h1|⟨j,h1,_,h2,h3⟩
 ·exact absurd hk (Lib.indexByte_none h1 k)
 ·have:¬j<k:=λhlt=>by have:=By h j;simp_all
  grind
theorem Qz{l:List aj}(h1:l[k]?=some 64)(h2:ei (l.take k)=true)(h3:ei (l.drop (k+1))=true):dm l=some (l.take k,l.drop (k+1)):=by grind [q0,yy]
theorem Bz{l:List aj}(h:ei l=true):dm l=some (l,[]):=by grind [qZ,La]
theorem jl(w:af)(l:List aj)(hl:κ l<=9223372036854775807):Aae Aag 98 #[.string (strOf l)] w λe w'=>e=.returned (gw (dm l))/\Up w w':=by
 rcases jb l 64 with h|⟨k,h,hk,_⟩
 ·obtain⟨C,R⟩:=aw (λW=>Tn W l h) (λW=>kO W l);rw[qZ h];clear h;generalize hb:ei l=b at *;clear hb;have V:∀s,strOf l=s->gw (if b=true then some (l,[])else none)=if b=true then .tuple #[.string s,.string ⟨#[]⟩,i6 0] else .tuple #[.string ⟨#[]⟩,.string ⟨#[]⟩,i6 141]:=by rintro s rfl;cases b<;>rfl
  rw[V _ rfl];clear V;generalize strOf l=s at *;cases b;all_goals
   refine Gm ?_;go_wp2_with fail;refine(C _).mono ?_;rintro e w1⟨rfl,up1⟩;go_wp2_with fail;refine(R _).mono ?_;rintro e w2⟨rfl,ao⟩;go_wp2;go_ret3;exact⟨rfl,up1.trans ao⟩
 ·obtain⟨C,R1,R2⟩:=aV (λW=>To W l k h hk hl) (λW=>kO W (l.take k)) (λW=>kO W (l.drop (k+1)));rw[q0 h];clear h hk hl;generalize l.take k=x at *;generalize l.drop (k+1)=y at *;generalize hb:ei x=b at *;generalize hb2:ei y=b2 at *;clear hb hb2;have V:∀s t,strOf x=s->strOf y=t->gw (if b=true/\b2=true then some (x,y)else none)=if b=true/\b2=true then .tuple #[.string s,.string t,i6 0] else .tuple #[.string ⟨#[]⟩,.string ⟨#[]⟩,i6 141]:=by rintro s t rfl rfl;cases b<;>cases b2<;>rfl
  rw[V _ _ rfl rfl];clear V;generalize strOf x=s at *;generalize strOf y=t at *;cases b
  ·refine Gm ?_;go_wp2_with fail;refine(C _).mono ?_;rintro e w1⟨rfl,up1⟩;go_wp2_with fail;refine(R1 _).mono ?_;rintro e w2⟨rfl,ao⟩;go_wp2;go_ret3;exact⟨rfl,up1.trans ao⟩
  cases b2;all_goals
   refine Gm ?_;go_wp2_with fail;refine(C _).mono ?_;rintro e w1⟨rfl,up1⟩;go_wp2_with fail;refine(R1 _).mono ?_;rintro e w2⟨rfl,ao⟩;go_wp2_with fail;refine(R2 _).mono ?_;rintro e w3⟨rfl,ax⟩;go_wp2;go_ret3;exact⟨rfl,up1.trans (ao.trans ax)⟩
theorem L7(a b:List aj):(strOf a++(⟨#[64]⟩:ByteArray))++strOf b=strOf (a++64::b):=by apply ByteArray.ext;simp[strOf]
theorem fX(b:List aj):((strOf b).toList==[])=decide (b=[]):=by rw[Adl,mH];cases b<;>simp
theorem Q4(w:af)(a b:List aj):Aae Aag 84 #[.string (strOf a),.string (strOf b)] w λe w'=>e=.returned (.string (strOf (qd a b)))/\Up w w':=by
 obtain⟨R1,R2⟩:=aw (λW=>kO W a) (λW=>kO W b);have ht:=fX b;have hf:strOf (qd a b)=if ei a=true then(if b=[] then strOf a else if ei b=true then strOf (a++64::b)else⟨#[]⟩)else⟨#[]⟩:=by
  unfold qd;split
  ·split
   ·rfl
   ·split<;>rfl
  ·rfl
 rw[hf,<-L7];clear hf;have aS:ei a=true->(strOf a).size<=24:=λh=>((jx a).1 h).2.1;have aJ:ei b=true->(strOf b).size<=24:=λh=>((jx b).1 h).2.1;generalize strOf a=s at *;generalize strOf b=t at *;generalize ei a=x at *;generalize ei b=y at *;cases x
 ·refine Gu ?_;exact Vl
 by_cases hb:b=[]
 ·have aa:(t.toList==[])=true:=by grind
  rw[bI rfl,bI hb];clear ht hb;exact Vl
 have aa:(t.toList==[])=false:=aQ
 rw[bI rfl,aY hb];clear ht hb;cases y
 ·refine Gu ?_;exact UY
 ·refine Gu ?_;obtain⟨z1,z2⟩:=az (aS rfl) (aJ rfl);have z3:∀W,(Op.stringOp .add s ⟨#[64]⟩).run Aag W=.ok (.string (s++⟨#[64]⟩)) W:=λW=>run_string_add_sum W s ⟨#[64]⟩ (by show s.size+1<=_;omega);have z4:∀W,(Op.stringOp .add (s++⟨#[64]⟩) t).run Aag W=.ok (.string ((s++⟨#[64]⟩)++t)) W:=λW=>run_string_add_sum W _ t (by rw[ByteArray.size_append'];show s.size+1+t.size<=_;omega);clear aS aJ z1 z2;generalize(s++⟨#[64]⟩:ByteArray)=st at *;generalize(st++t:ByteArray)=ab at *;exact UY
def eJ:Option Nat->Int
 | some i=>(i:Int)
 | none=>-1
def ed(p:ao->Bool)(l:List ao):Option Nat:=l.findIdx? p
def aL(l:List ao)(id:Nat):Option Nat:=ed (λx=>decide (x.id=id)) l
theorem ng(h:∀j(hj:j<κ l),p l[j]=false):ed p l=none:=by unfold ed;rw[Ad0];intro x hx;obtain⟨j,hj,rfl⟩:=List.mem_iff_getElem.1 hx;simp_all
theorem ni(hk:k<κ l)(hp:p l[k]=true)(h:∀j(hj:j<κ l),j<k->p l[j]=false):ed p l=some k:=by unfold ed;rw[y1];simp_all
theorem Kr(h:ed p l=some k):∃hk:k<κ l,p l[k]=true/\∀j(hj:j<k),p (l[j]' ae)=false:=by unfold ed at h;rw[y1]at h;simp_all
theorem cd{vd:ah}(h:w.rangeAt b o (b8 x vd).toList):w.cell? (ad b o)=some (u6 (x.id:Int))/\w.cell? (ad b (o+1))=some (.string (strOf x.name))/\w.cell? (ad b (o+2))=some (.bool x.aT)/\w.cell? (ad b (o+3))=some (u6 (x.owner:Int))/\w.cell? (ad b (o+4))=some (u6 (x.prev:Int))/\w.cell? (ad b (o+5))=some (u6 (x.ay:Int))/\w.cell? (ad b (o+6))=some (i6 x.blocks)/\w.rangeAt b (o+7) (be x.root).toList/\w.cell? (ad b (o+10))=some vd:=⟨h 0 _ rfl,h 1 _ rfl,h 2 _ rfl,h 3 _ rfl,h 4 _ rfl,h 5 _ rfl,h 6 _ rfl,λj u hj=>by
  match j,hj with
  | 0,hj=>exact h 7 _ hj
  | 1,hj=>exact h 8 _ hj
  | 2,hj=>exact h 9 _ hj
  | (n+3),hj=>simp[be]at hj,h 10 _ rfl⟩
theorem jz(w:af)(v:ah)(l:List ao)(hv:cq w v l)(id:Nat):Aae Aag 83 #[v,u6 (id:Int)] w λe w'=>e=.returned (i6 (eJ (aL l id)))/\w'=w:=by
 have hlen:=hv.length_le;obtain⟨a,cap,rfl⟩:=hv.slice;have HV:=an hv;go_in;go_wp2;go_loopw [8] (λi wr=>∃k:Nat,k<=κ l/\i=i6 k/\(∀j(hj:j<κ l),j<k->decide (l[j].id=id)=false)/\wr=w) (λi _=>κ l-(Aau i).toNat)
 case atStart=>grind
 case round=>
  obtain⟨k,hk,rfl,ay,rfl⟩:=hrel;have HN:=an ay;clear ay;by_cases hlt:k<κ l
  ·refine iD ?_;intro b2;obtain⟨b,off,rfl,_,hc⟩:=r4 HV ae;obtain⟨da,dn,dc,rg,dp⟩:=hc k hlt;have c0:=(cd rg).1;have HS:=an (show decide (l[k].id=id)=false->∀j(hj:j<κ l),j<k+1->decide (l[j].id=id)=false from λh j hj az=>by
    rcases jO j k with h'|h'
    ·exact HN j hj h'
    ·obtain rfl:j=k:=by omega
     exact h)
   clear hc;by_cases he:l[k].id=id
   ·have HP:=an (show aL l id=some k from(λh=>ni (p:=λx=>decide (x.id=id)) hlt h HN) ab);rw[he]at c0;clear he;have b3:((id:Int)==(id:Int))=true:=by simp
    go_wp2;go_ret;exact⟨zi,rfl⟩
   ·have b3:(((l[k].id:Nat):Int)==(id:Int))=false:=by simp;omega
    generalize l[k].id=x at *;go_wp2;go_roundw
    case rel=>exact⟨k+1,ae,aq,(HS ab),trivial⟩
    case measure=>simp only[Aau];omega
  ·obtain rfl:k=κ l:=by omega
   refine vl ?_;intro b2;have HP:=an (show aL l id=none from ng (λj hj=>HN j hj hj));go_wp2;go_ret;exact⟨zi,rfl⟩
structure jE where
 owner:Nat
 name:List aj
deriving DecidableEq
def cb(x:ao):jE:=if x.aT=true then⟨x.owner,x.name⟩ else⟨0,x.name⟩
def eF(c:jE):Array ah:=#[.int .u64 (c.owner:Int),.string (strOf c.name)]
theorem PX(c:jE):(eF c).all (·.oneCell')=true:=by simp[eF,Value.oneCell']
theorem QG(c:jE):(prog.info? 246).map (·.size)=some (eF c).size:=al
theorem Er:∀W:af,(Acj 246).run Aag W=.ok (.agg (eF ⟨0,[]⟩)) W:=(lA (P:=Aag) (t:=246) (v:=.agg (eF ⟨0,[]⟩)) (n:=2) aA).1
theorem Ad(n:Nat)(s:List aj):prog.built 246 [(0,u6 (n:Int)),(1,.string (strOf s))]=some (eF ⟨n,s⟩):=al
theorem xo(s:List aj):prog.built 246 [(0,u6 0),(1,.string (strOf s))]=some (eF ⟨0,s⟩):=al
theorem Xt(c d:jE)(W:af):(Ach 10000 246 (.agg (eF c)) (.agg (eF d))).run Aag W=.ok (decide (c=d)) W:=by
 obtain⟨a,s⟩:=c;obtain⟨a2,s2⟩:=d;have e:decide ((⟨a,s⟩:jE)=⟨a2,s2⟩)=(((a:Int)==(a2:Int)) && ((strOf s).toList==(strOf s2).toList)):=by rw[vT,Bf];simp;omega
 rw[e];clear e;unfold eF;rw[yX W 9999 246 _ _ aA aq];cases h:((a:Int)==(a2:Int))<;>cases h2:((strOf s).toList==(strOf s2).toList);all_goals go_simp
def eg(l:List ao)(c:jE):Option Nat:=ed (λx=>decide (cb x=c)) l
theorem Ai(w:af)(g o:Nat)(x:ao)(vd:ah)(R:w.rangeAt g o (b8 x vd).toList):Aae Aag 183 #[pq g o] w λe w'=>e=.returned (.agg (eF (cb x)))/\Up w w':=by
 obtain⟨U1,B1⟩:=aw (ai w (.cells (eF ⟨0,[]⟩) 246)) (aF.new w 246 (eF ⟨0,[]⟩));obtain⟨_,c1,c2,c3,_⟩:=cd R;have IC:=an (QG (cb x));obtain⟨x1,x2,x3⟩:=cZ (U1.cell c1) (U1.cell c2) (U1.cell c3);clear c1 c2 c3;have HC:=an (show cb x=if x.aT=true then⟨x.owner,x.name⟩ else⟨0,x.name⟩ from rfl);obtain⟨BX,BZ⟩:=az (Ad x.owner x.name) (xo x.name);generalize cb x=c at *;obtain⟨id,nm,sn,ow,pv,sp,bl,rt,dd⟩:=x;cases sn
 ·obtain rfl:c=⟨0,nm⟩:=HC.out;go_in;go_wp2_with(first
   | refine bB 246 Er ?_
   | refine db 246 2 20 (eF ⟨0,nm⟩) B1 ?_)
  intro wz hbz ag;go_wp2;exact kF (v:=.agg (eF ⟨0,nm⟩)) (nG rfl _ _ _ w.heap.size 246 _ rfl hbz _ underlying246 rfl IC) rfl ⟨rfl,U1.grown ag (λk hk=>aQ)⟩
 ·obtain rfl:c=⟨ow,nm⟩:=HC.out;go_in;go_wp2_with(refine arm ?_);refine wJ 9 aA al ?_;refine rK ?_;change Ade _ _ (w.alloc (.cells (eF ⟨0,[]⟩) 246)).drew (λa'=>Aal _ _ _ _ a' (w.alloc (.cells (eF ⟨0,[]⟩) 246)).drew) _ _;have UD:=an (Up.drew (Up.refl (w.alloc (.cells (eF ⟨0,[]⟩) 246))));replace x1:=UD.cell x1;replace x3:=UD.cell x3;generalize(w.alloc (.cells (eF ⟨0,[]⟩) 246)).drew=w5 at *;try simp only[Aao,fB]
  repeat(first
   | still_step)
  refine hB ?_;go_wp2_with(first
   | refine db 246 2 15 (eF ⟨ow,nm⟩) (B1.up UD) ?_)
  intro wz hbz ag;go_wp2;exact kF (v:=.agg (eF ⟨ow,nm⟩)) (nG rfl _ _ _ w.heap.size 246 _ rfl hbz _ underlying246 rfl IC) rfl ⟨rfl,(U1.trans UD).grown ag (λk hk=>aQ)⟩
theorem IT(w:af)(v:ah)(l:List ao)(hv:cq w v l)(c:jE):Aae Aag 165 #[v,.agg (eF c)] w λe w'=>e=.returned (i6 (eJ (eg l c)))/\Up w w':=by
 have hlen:=hv.length_le;obtain⟨a,cap,rfl⟩:=hv.slice;have HV:=an hv;go_in;go_wp2_with(refine arm ?_);go_loopw [8] (λi wr=>∃k:Nat,k<=κ l/\i=i6 k/\(∀j(hj:j<κ l),j<k->decide (cb l[j]=c)=false)/\Up w wr/\aF wr w.heap.size 246 (eF c)) (λi _=>κ l-(Aau i).toNat)
 case atStart=>exact⟨0,bT _,rfl,λj _ h=>ae,(ai w (.cells (eF c) 246)),(aF.new w 246 (eF c))⟩
 case round=>
  obtain⟨k,hk,rfl,ay,ur,br⟩:=hrel;obtain⟨HN,UR,BR⟩:=aV ay ur br;clear ay;by_cases hlt:k<κ l
  ·refine iD ?_;intro b2;obtain⟨b,off,rfl,_,hc⟩:=r4 (HV.up UR) ae;obtain⟨da,dn,dc,rg,dp⟩:=hc k hlt;have HK:=an (λh=>ni (p:=λx=>decide (cb x=c)) hlt h HN);have HS:=an (show decide (cb l[k]=c)=false->∀j(hj:j<κ l),j<k+1->decide (cb l[j]=c)=false from λh j hj az=>by
    rcases jO j k with h'|h'
    ·exact HN j hj h'
    ·obtain rfl:j=k:=by omega
     exact h)
   have RG:=an rg;clear hc;generalize l[k]=x at *;have CO:=an (λW (u:Up wr W)=>Ai W b (off+k*11) x _ (λj u' h=>u.cell (RG j u' h)));generalize cb x=cx at *;obtain⟨bb,aj⟩:=bE (decide (cx=c));rw[<-aj]at HK HS;have EQ:∀W,(Ach 10000 246 (.agg (eF cx)) (.agg (eF c))).run Aag W=.ok bb W:=λW=>by rw[aj];exact Xt cx c W
   clear aj;go_wp2;refine e7 (S:=λW=>Up wr W/\aF W w.heap.size 246 (eF c)) al ?_;change Acp _ _ _ _ _ 6 _ _ (wr.drew);have UD:=an (Up.drew (Up.refl wr));have F5:=an (show Up wr wr.drew/\aF wr.drew w.heap.size 246 (eF c)from⟨UD,BR.up UD⟩);generalize wr.drew=w5 at *;refine o8 ?_;refine tb 4 rfl (W7 (λW hS=>hS.2.range)) ?_;refine ok 3 ?_;intro K hK;go_simp;refine(CO _ UD).mono ?_;rintro e w6⟨rfl,u6⟩;obtain⟨S6,U6⟩:=aw (show Up wr w6/\aF w6 w.heap.size 246 (eF c)from⟨F5.1.trans u6,F5.2.up u6⟩) ((UR.trans UD).trans u6);refine hK _ _ S6 ?_;clear hK K;refine ta 5 ?_;refine yO al ?_ _;cases bb
   case true=>have HP:=an (show eg l c=some k from HK rfl);clear EQ HK HS;go_wp2;go_ret;exact⟨zi,U6⟩
   case false=>clear EQ HK;go_wp2;exact⟨⟨k+1,hlt,aq,(HS rfl),U6,S6.2⟩,by simp only[Aau];omega⟩
  ·obtain rfl:k=κ l:=by omega
   refine vl ?_;intro b2;have HP:=an (show eg l c=none from ng (λj hj=>HN j hj hj));exact Gd
def recAt(l:List ao)(i:Nat):ao:=l.getD i xk
theorem b9(h:i<κ l):recAt l i=l[i]:=by simp[recAt,h]
theorem cJ(h:aL l id=some i):i<κ l/\(recAt l i).id=id:=MZ
theorem fi{c:jE}(h:eg l c=some i):i<κ l/\cb (recAt l i)=c:=MZ
theorem cf{a:Option Adr}(h:cq w (.slice a n cap) l)(hi:i<κ l):∃b off,a=some ⟨b,off,none⟩/\b<w.heap.size/\∃da dc,w.rangeAt b (off+i*11) (b8 (recAt l i) (.slice da (κ (recAt l i).dead) dc)).toList/\c9 w (.slice da (κ (recAt l i).dead) dc) (recAt l i).dead:=by
 obtain⟨b,off,h1,h2,hc⟩:=r4 h ae;obtain⟨da,dn,dc,rg,dp⟩:=hc i hi;rw[b9 hi];have ad:dn=l[i].dead.length:=by obtain⟨_,_,h⟩:=dp.slice;simp at h;exact h.2.1
 grind
def aaY(l:List ao)(r:Option Nat)(w:af)(e:Ab2)(w':af):Prop:=(r=none/\e=.returned (.tuple #[.agg b6,.bool false])/\Up w w')\/(∃i v,r=some i/\e=.returned (.tuple #[.agg (b8 (recAt l i) v),.bool true])/\bf w' w.heap.size v (recAt l i).dead/\Up w w')
theorem sQ:prog.built 90 []=some b6:=al
theorem p'(w:af)(v:ah)(l:List ao)(hv:cq w v l)(hr:∀x∈l,κ x.dead*24<=140737488355328)(id:Nat):Aae Aag 137 #[v,u6 (id:Int)] w λe w'=>aaY l (aL l id) w e w':=by
 obtain⟨a,cap,rfl⟩:=hv.slice;obtain⟨HV,HR,U1,B1,IZ,OZ⟩:=ix hv hr (ai w (.cells b6 90)) (aF.new w 90 b6) gM gU;have PL:=an (jz (w.alloc (.cells b6 90)) _ l (hv.up U1) id);have HG:Hid (∀i,aL l id=some i->i<κ l/\(recAt l i).id=id):=an (λi h=>cJ h);clear hr;generalize aL l id=r at *;go_in;go_wp2_with(refine arm ?_);refine PL.mono ?_;refine o9 ?_;intro w2;cases r with
 | none=>
  unfold eJ;go_wp2_with(first
   | refine l7 90 sQ ?_
   | refine db 90 4 12 b6 B1 (hi:=IZ) (h1:=OZ) ?_)
  intro wz hbz ag;have UZ:=an (U1.grown ag (λk hk=>aQ));go_wp2;exact bG (hi:=IZ) (.tuple #[.agg b6,.bool false]) hbz (.inl ⟨rfl,rfl,UZ⟩)
 | some i=>
  unfold eJ;obtain⟨hi,hid⟩:=HG i rfl;obtain⟨b,off,rfl,_,da,dc,rg,dp⟩:=cf (HV.up U1) hi;have b1:((i:Int)<0)=False:=aq
  obtain⟨SC,IX⟩:=aw (kS _ _ _ dp (by rw[b9 hi];exact HR _ (cw hi))) (ku (recAt l i) (.slice da (κ (recAt l i).dead) dc));clear hid;obtain⟨x,hx⟩:=bE (recAt l i);rw[<-hx]at rg SC IX;have HX:=an hx;clear hx;go_wp2_with(refine arm ?_);refine SC.mono ?_;rintro e w3⟨v',rfl,ho,u3⟩;obtain⟨na,nc,rfl⟩:=(ak.row ho pw).slice;go_wp2_with(first
   | refine db 90 4 17 (b8 x (.slice na (κ x.dead) nc)) (B1.up u3) ?_)
  intro wz hbz ag;have UZ:=an ((U1.trans u3).grown ag (λk hk=>aQ));go_wp2;exact bG (.tuple #[.agg (b8 x (.slice na (κ x.dead) nc)),.bool true]) hbz (.inr ⟨i,_,rfl,by rw[HX.out],by rw[<-HX.out];exact(ak.kept (ho.mono (base':=w.heap.size) U1.size) ag (.inr (λe=>by have:=(ho.aJ _ e).1;have:=aN w (.cells b6 90);omega))),UZ⟩)
def b0(l:List ao)(id:Nat):Nat:=match aL l id with
 | none=>0
 | some i=>if(recAt l i).prev=0 then 0 else match aL l (recAt l i).prev with
  | none=>0
  | some j=>(recAt l j).ay
section
variable {l:List ao} {id i j:Nat}
theorem TC(h:aL l id=none):b0 l id=0:=by grind [b0]
theorem AH(h:aL l id=some i)(h0:(recAt l i).prev=0):b0 l id=0:=by grind [b0]
theorem TD(h:aL l id=some i)(h0:¬(recAt l i).prev=0)(h2:aL l (recAt l i).prev=none):b0 l id=0:=by grind [b0]
theorem AI(h:aL l id=some i)(h0:¬(recAt l i).prev=0)(h2:aL l (recAt l i).prev=some j):b0 l id=(recAt l j).ay:=by grind [b0]
end
theorem rl(w:af)(v:ah)(l:List ao)(hv:cq w v l)(id:Nat):Aae Aag 142 #[v,u6 (id:Int)] w λe w'=>e=.returned (u6 (b0 l id:Int))/\w'=w:=by
 obtain⟨a,cap,rfl⟩:=hv.slice;have PL:=an (λid=>jz w _ l hv id);have P1:=an (PL id);cases h1:aL l id with
 | none=>have HE:=an (TC h1);rw[h1]at P1;unfold eJ at P1;clear h1;exact U1
 | some i=>
  have H1:=an h1;rw[h1]at P1;unfold eJ at P1;obtain⟨hi,_⟩:=cJ h1;obtain⟨b,off,rfl,_,da,dc,rg,_⟩:=cf hv hi;obtain⟨_,_,_,_,c4,_⟩:=cd rg;refine nq ?_;intro b1 b2;clear h1;by_cases h0:(recAt l i).prev=0
  ·have HE:=an (AH H1 h0);rw[h0]at c4;clear h0;exact U1
  ·have b3:((((recAt l i).prev:Nat):Int)==(0:Int))=false:=by simp;omega
   obtain⟨HF2,HF3,P2⟩:=aV (@TD l id i H1 h0) (λj=>@AI l id i j H1 h0) (PL (recAt l i).prev);obtain⟨pv,ag⟩:=bE ((recAt l i).prev);rw[<-ag]at c4 b3 HF2 HF3 P2;clear h0 ag;cases h2:aL l pv with
   | none=>have HE:=an (HF2 h2);rw[h2]at P2;unfold eJ at P2;exact UE
   | some j=>have HE:=an (HF3 j h2);rw[h2]at P2;unfold eJ at P2;obtain⟨hj,_⟩:=cJ h2;obtain⟨b',aC,aj,_,aJ,aK,rg,_⟩:=cf hv hj;simp only[Aai,Abq,and_true]at aj;obtain⟨rfl,rfl⟩:=aj;obtain⟨_,_,_,_,_,c5,_⟩:=cd rg;refine Gn ?_;intro b4 b5;exact UE
def hW(l:List ah)(o:Nat)(m:List ah):List ah:=l.take o++(m++l.drop (o+κ m))
theorem lX(l:List ah)(o:Nat)(m:List ah):Abx l o m=hW l o m:=aA
theorem ug{l m:List ah}(h:o+κ m<=κ l):κ (hW l o m)=κ l:=by grind [hW]
theorem mY{l r m:List ah}(h:o+κ m<=κ l):hW (l++r) o m=hW l o m++r:=by grind [hW]
theorem sV{l r m:List ah}:hW (l++r) (κ l+o) m=l++hW r o m:=by unfold hW;rw[show κ l+o+κ m=κ l+(o+κ m)from ae,List.take_length_add_append,List.drop_length_add_append];simp
theorem Ke{l m:List ah}(h:o+κ m<=n)(hn:n<=κ l):(hW l o m).take n=hW (l.take n) o m:=by
 conv=>lhs;rw[<-fQ n l,mY ab]
 grind [ug]
section
variable {α:Type} {f:α->List ah} {k:Nat}
theorem qb(hw:hh f k):∀(l:List α)(i:Nat)(hi:i<κ l)(off:Nat)(V:List ah)(x:α),off+κ V<=k->f x=hW (f l[i]) off V->(l.set i x).flatMap f=hW (l.flatMap f) (i*k+off) V
 | y::l,0,_,off,V,x,hj,hx=>by simp only[List.set_cons_zero,Abc,Nat.zero_mul,Aby];rw[mY (by rw[hw.len];exact hj),hx];rfl
 | y::l,i+1,hi,off,V,x,hj,hx=>by simp only[List.set_cons_succ,Abc];rw[show(i+1)*k+off=κ (f y)+(i*k+off)from by rw[hw.len,wC];omega,sV];rw[qb hw l i Bo off V x hj hx]
theorem ak.part(hw:hh f k){e:Aab}{w:af}{base g n cap:Nat}{xs:List α}(h:ak f k e w base (cD g n cap) xs)(i:Nat)(hi:i<κ xs):∃cur:Array ah,aF w g e cur/\n=κ xs/\i*k+k<=cur.size/\base<=g/\∀(x:α)(off:Nat)(V:List ah)(w':af),off+κ V<=k->f x=hW (f xs[i]) off V->aF w' g e (hW cur.toList (i*k+off) V).toArray->
  ak f k e w' base (cD g n cap) (xs.set i x):=by
 obtain⟨h1,h2⟩:=h;rcases h2 with⟨h3,_⟩|⟨g',al,cur,h3,h4,h5,h6,h7,h8,h9⟩
 ·simp at h3
 ·simp at h3;obtain⟨rfl,rfl,rfl⟩:=h3;have hk:i*k+k<=κ xs*k:=by have:=Nat.mul_le_mul_right k (show i+1<=κ xs from hi);grind
  have aC:κ xs*k<=cur.size:=aQ
  refine⟨cur,h5,rfl,ae,h4,λx off V w' hv hx hb=>⟨by rw[hw.flat],.inr ⟨g,cap,_,aq,h4,hb,ab,h7,?_,?_⟩⟩⟩
  ·grind [ug]
  ·grind [Ke,qb]
end
theorem bc.part(h:bc w base (cD g n cap) l)(i:Nat)(hi:i<κ l):∃(cur:Array ah)(va:Option Adr)(vc:Nat),aF w g 90 cur/\n=κ l/\i*11+11<=cur.size/\base<=g/\w.rangeAt g (i*11) (b8 l[i] (.slice va l[i].dead.length vc)).toList/\bf w base (.slice va l[i].dead.length vc) l[i].dead/\
  ∀(x:ao)(xa:Option Adr)(xn xc off:Nat)(V:List ah)(w':af),off+κ V<=11->(b8 x (.slice xa xn xc)).toList=hW (b8 l[i] (.slice va l[i].dead.length vc)).toList off V->bf w base (.slice xa xn xc) x.dead->
   aF w' g 90 (hW cur.toList (i*11+off) V).toArray->w.grownBy w' (some g)->bc w' base (cD g n cap) (l.set i x):=by
 obtain⟨ys,h1,h2,h3⟩:=h;subst h1;have aC:i<κ ys:=aa
 obtain⟨cur,hb,hn,hc,hg,hp⟩:=ak.part lV h2 i aC;obtain⟨b,ai,ar,_,_,al⟩:=aH.get (ak.row h2 lV) lV ae;simp only[Aai,Abq,and_true]at ar;obtain⟨rfl,rfl⟩:=ar;have ad:(ys[i]).n=κ (ys[i]).d.dead:=by obtain⟨_,_,hh⟩:=(ak.row (h3 _ (cw aC)) pw).slice;grind [gH.v]
 refine⟨cur,ys[i].a,ys[i].c,hb,ab,hc,hg,λj v hj=>?_,?_,λx xa xn xc off V w' hv hx ho ag hgr=>?_⟩
 ·grind [dh,gH.v]
 ·grind [gH.v]
 ·refine⟨ys.set i ⟨x,xa,xn,xc⟩,aq,hp _ off V w' hv (by unfold dh gH.v;rw[ad];simpa using hx) ag,λy hy=>?_⟩
  have key:∀{v:ah}{ps:List au},bf w base v ps->bf w' base v ps:=λhop=>ak.kept hop hgr (by have:=iE av hop h2;simpa[Aan]using this)
  rcases uO hy with hy|rfl
  ·simp_all
  ·exact key ho
def os(b:Nat)(v:ah)(ys:List gH):As:=⟨λn=>v.ownBlock=some n\/∃y∈ys,y.v.ownBlock=some n,λw=>ak dh 11 90 w b v ys/\∀y∈ys,bf w b y.v y.d.dead,λh T hf=>⟨h.1.ax T λn hn=>hf n (.inl hn),λy hy=>(h.2 y hy).ax T λn hn=>hf n (.inr ⟨y,hy,hn⟩)⟩⟩
theorem O4{ys:List gH}(e:ys.map (·.d)=l){j:Nat}(h:j<κ ys):ys[j].d=recAt l j:=by subst e;rw[b9 jR];simp
theorem aan{ys:List gH}(e:ys.map (·.d)=l):κ l=κ ys:=FX
theorem Ca{vd:ah}(h:aF W g t (b8 x vd)):W.rangeAt g 7 (be x.root).toList:=λj v hj=>by
 rw[h.cell];match j with
 | 0=>exact hj
 | 1=>exact hj
 | 2=>exact hj
 | n+3=>cases hj
def YH(b:Nat)(v:ah)(ys:List gH):As:=⟨λn=>v.ownBlock=some n,λw=>ak dh 11 90 w b v ys,λh T hf=>h.ax T hf⟩
def VI(b:Nat)(ys:List gH):As:=⟨λn=>∃y∈ys,y.v.ownBlock=some n,λw=>∀y∈ys,bf w b y.v y.d.dead,λh T hf y hy=>(h y hy).ax T λn hn=>hf n ⟨y,hy,hn⟩⟩
section
variable {F0:Nat->Prop} {x0:af} {L L':List As} {w w':af} {b B:Nat} {v:ah} {l:List au} {ys:List gH}
theorem Rz.s{s:List ao}(h:bc w' w.heap.size v s)(u:Up w w')(hB:B<=w.heap.size):∃ys,ys.map (·.d)=s/\Rz w w' [os B v ys]:=by
 obtain⟨ys,h1,h2,h3⟩:=h;refine⟨ys,h1,.one u ⟨h2.mono hB,λy hy=>(h3 y hy).mono hB⟩ (λn hn=>?_)⟩;rcases hn with hn|⟨y,hy,hn⟩
 ·exact h2.aJ n hn
 ·exact(h3 y hy).aJ n hn
theorem Rz.s2{s:List ao}(h:bc w' w.heap.size v s)(u:Up w w')(hB:B<=w.heap.size):∃ys,ys.map (·.d)=s/\Rz w w' [YH B v ys,VI B ys]:=by
 obtain⟨ys,h1,h2,h3⟩:=h;refine⟨ys,h1,u,λA hA=>?_,λA hA n hn=>?_,List.pairwise_pair.2 λn hn al=>?_⟩
 ·rcases Aam.1 hA with rfl|hA
  ·exact h2.mono hB
  ·rw[kG.1 hA];exact λy hy=>(h3 y hy).mono hB
 ·rcases Aam.1 hA with rfl|hA
  ·exact h2.aJ n hn
  ·rw[kG.1 hA]at hn;obtain⟨y,hy,hn⟩:=hn;exact(h3 y hy).aJ n hn
 ·obtain⟨y,hy,al⟩:=al;rcases iE av (h3 y hy) h2 with h|h
  ·rw[h]at al;cases al
  ·exact h (al.trans (show v.ownBlock=some n from hn).symm)
def Fr.ack{A D:As}(s:Fr F0 x0 L w)(r:Rz w w' [A,D]):Fr F0 x0 (A::D::L) w':=s.res r
theorem row_one{g:Nat}{x:ao}{a:Option Adr}{n c:Nat}(h:aF w g 90 (b8 x (.slice a n c))):aH dh w (cD g 1 1) [⟨x,a,n,c⟩]:=.inr ⟨g,0,1,rfl,aq,aq,dK,λj u hj=>by
  have hj:(b8 x (.slice a n c)).toList[j]?=some u:=by simpa[dh,gH.v]using hj
  rw[h.cell,Aby,<-oW];exact hj⟩
theorem Fr.rows(s:Fr F0 x0 L w)(h:os b v ys∈L:=by exact gG):ak dh 11 90 w b v ys/\∀y∈ys,bf w b y.v y.d.dead:=s.p _ h
theorem Fr.cm(s:Fr F0 x0 L w)(h:os b v ys∈L:=by exact gG):bc w b v (ys.map (·.d)):=⟨ys,rfl,s.p _ h⟩
theorem Lo{v v':ah}{aa:List gH}(hv:v'.ownBlock=v.ownBlock)(hy:∀y∈aa,y∈ys):∀n,(os b v' aa).F n->(os b v ys).F n:=λn h=>by
 rcases h with h|⟨y,hm,h⟩
 ·exact .inl (by rw[<-hv];exact h)
 ·exact .inr ⟨y,hy y hm,h⟩
theorem Fr.osT{v':ah}{aa:List gH}{g n cap:Nat}(s:Fr F0 x0 L w)(h:(os b v' aa).P w')(T:Touch (·=g) w w')(hv:v'.ownBlock=some g)(hy:∀y∈aa,y∈ys)(hU:mW L (os b (cD g n cap) ys) (os b v' aa) L':=by exact wc):Fr F0 x0 L' w':=s.Aj hU (T.mono λn e=>by rw[e];exact .inl rfl) h (λn hn=>by
  have:=Lo (b:=b) (v:=cD g n cap) (ys:=ys) hv hy n hn;exact⟨ej (s.f _ hU.mem n (Lo hv hy n hn)).1 T.size,.inl (Lo hv hy n hn)⟩)
variable {P:bp} {ops:Array Abn} {Q:Exit->Act->af->Prop} {L0:List As} {a a':Act} {x:af} {o:Abn} {J:List Nat} {k i j:Nat} {ty:Aab} {y z:bU} {V:Array ah} {g n m cap off:Nat}
theorem kv{id:Nat}{v:ah}(s:Fr F0 x0 L w)(h:∀w,Fr F0 x0 L w->RK P ops Q F0 x0 L0 L [] 0 a w)(hr:yq L (os b v ys) L0:=by exact SD)(hm:P.follows .mixedOrders=true:=by kernel_rfl):(Code.region id ops true).wp P Q a w:=ka L0 s hr.sub h hm
theorem kv2{id:Nat}{v v2:ah}{b2:Nat}{l2:List au}(s:Fr F0 x0 L w)(h:∀w,Fr F0 x0 L w->RK P ops Q F0 x0 L0 L [] 0 a w)(hr:yq L (os b v ys) L':=by exact SD)(aP:yq L' (op b2 v2 l2) L0:=by exact SD)(hm:P.follows .mixedOrders=true:=by kernel_rfl):(Code.region id ops true).wp P Q a w:=ka L0 s (λA h=>hr.sub A (aP.sub A h)) h hm
theorem V1{y0 y':gH}{v:ah}(h0:ys[i]?=some y0)(hd:y'.v=y0.v/\y'.d.dead=y0.d.dead\/y'.v=nl/\y'.d.dead=[]):∀n',(os b v (ys.set i y')).F n'->(os b v ys).F n':=λn' ag=>by
 obtain⟨hi,rfl⟩:=kE.1 h0;rcases ag with ag|⟨y,hy,ag⟩
 ·exact .inl ag
 ·rcases uO hy with hy|rfl
  ·exact .inr ⟨y,hy,ag⟩
  ·rcases hd with⟨e1,e2⟩|⟨e1,e2⟩
   ·rw[e1]at ag;exact .inr ⟨_,cw hi,ag⟩
   ·rw[e1]at ag;cases ag
theorem O6{y0 y':gH}(h:(os b (cD g n cap) ys).P w)(h0:ys[i]?=some y0)(hV:j+V.size<=11)(aw:dh y'=hW (dh y0) j V.toList)(hd:y'.v=y0.v/\y'.d.dead=y0.d.dead\/y'.v=nl/\y'.d.dead=[]):∃C,aF w g 90 C/\(i*11+j)+V.size<=C.size/\(os b (cD g n cap) ys).F g/\∀w',aF w' g 90 (Abx C.toList (i*11+j) V.toList).toArray->w.grownBy w' (some g)->(os b (cD g n cap) (ys.set i y')).P w'/\∀n',(os b (cD g n cap) (ys.set i y')).F n'->(os b (cD g n cap) ys).F n':=by
 obtain⟨hi,rfl⟩:=kE.1 h0;obtain⟨h2,h3⟩:=h;obtain⟨C,hb,hn,hc,hg,hp⟩:=ak.part lV h2 i hi;refine⟨C,hb,ae,.inl rfl,λw' aI hgr=>⟨⟨hp _ j V.toList w' (by simpa using hV) aw aI,λy hy=>?_⟩,V1 h0 hd⟩⟩;have key:∀{v:ah}{ps:List au},bf w b v ps->bf w' b v ps:=λhop=>ak.kept hop hgr (by have:=iE av hop h2;simpa[Aan]using this)
 rcases uO hy with hy|rfl
 ·exact key (h3 y hy)
 ·rcases hd with⟨e1,e2⟩|⟨e1,e2⟩
  ·rw[e1,e2];exact key (h3 _ (cw hi))
  ·rw[e1,e2];exact ak.nil _ _ _ _ _
theorem kqd(i:Nat){y0:gH}{L1 L2:List As}{da:Option Addr}{dn dc:Nat}(h:∀w',Fr F0 x0 L2 w'->RK P ops Q F0 x0 L0 L2 J (k+1) a' w')(h0:ys[i]?=some y0)(hr:yq L (op b (.slice da dn dc) l) L1:=by exact SD)(hU:mW L1 (os b (cD g n cap) ys) (jn (os b (cD g n cap) ys) (op b (.slice da dn dc) l)) L':=by exact wc)(aD:mW L' (jn (os b (cD g n cap) ys) (op b (.slice da dn dc) l)) (os b (cD g n cap) (ys.set i ⟨{y0.d with dead:=l},da,dn,dc⟩)) L2:=by exact wc)(hJ:J.contains k=false:=by rfl)(ho:ops[k]?=some o:=by rfl)(al:o.op=.store ty y z:=by rfl)(hx:a.eval y=.pointer (some ⟨g,off,none⟩):=by rfl)(aS:off=i*11+10:=by omega)(hy:a.eval z=.slice da dn dc:=by rfl)(aN:(P.info? ty).map (·.size)=some 1:=by kernel_rfl)(hl:L0.Sublist L2:=by repeat(first|exact List.Sublist.slnil|(with_reducible refine List.Sublist.cons₂ _ ?_)|refine List.Sublist.cons _ ?_))(hw:Region.wanted o (yielded ops a.tmps)=true:=by rfl)(ha:a.put o.dst undef=a':=by first|(simp only[Act.put,fB];rfl)|rfl)(hc:(MC P ops (ml ops.size J k) k && Region.noSelect ops)=true:=by kernel_rfl)(hQ:∀c a w b,a.defers=b.defers->Q (.panic c) a w->Q (.panic c) b w:=by intro _ ⟨_,_⟩ _ ⟨_,_⟩ e h;cases e;exact h):RK P ops Q F0 x0 L0 L J k a x:=by
 subst aS;obtain⟨hi,rfl⟩:=kE.1 h0;have hF:∀n',(os b (cD g n cap) (ys.set i ⟨{ys[i].d with dead:=l},da,dn,dc⟩)).F n'->(jn (os b (cD g n cap) ys) (op b (.slice da dn dc) l)).F n':=λn' ag=>by exact N1
 refine kpp (V:=#[.slice da dn dc]) (λw s=>?_) (λD hD n' ag=>?_) h hJ ho al hx zo aN FG hl hw ha hc hQ
 ·have s':=s.join hr hU;obtain⟨⟨h2,h3⟩,h4⟩:=s'.p _ aD.mem;obtain⟨C,hb,hn,aC,hg,hp⟩:=ak.part lV h2 i hi;refine⟨90,C,hb,ab,⟨_,hr.sub _ hU.mem,.inl rfl⟩,λw' aI hgr=>?_⟩;refine Ov ?_;intro key T;refine s'.Aj aD T ⟨hp _ 10 [.slice da dn dc] w' aq rfl aI,λy hy=>?_⟩ (λn' h=>⟨ej (s'.f _ aD.mem n' (hF n' h)).1 T.size,.inl (hF n' h)⟩);exact N2
 ·rcases aD.sub D hD with rfl|hD
  ·rcases hF n' ag with h|h
   ·exact⟨_,hr.sub _ hU.mem,h⟩
   ·exact⟨_,hr.mem,h⟩
  ·rcases hU.sub D hD with rfl|hD
   ·rcases ag with h|h
    ·exact⟨_,hr.sub _ hU.mem,h⟩
    ·exact⟨_,hr.mem,h⟩
   ·exact⟨D,hr.sub D hD,ag⟩
theorem kq(i j:Nat){y0:gH}(y':gH)(h:∀w',Fr F0 x0 L' w'->RK P ops Q F0 x0 L0 L' J (k+1) a' w')(h0:ys[i]?=some y0)(hU:mW L (os b (cD g n cap) ys) (os b (cD g n cap) (ys.set i y')) L':=by exact wc)(hJ:J.contains k=false:=by rfl)(ho:ops[k]?=some o:=by rfl)(al:o.op=.store ty y z:=by rfl)(hx:a.eval y=.pointer (some ⟨g,off,none⟩):=by rfl)(aS:off=i*11+j:=by omega)(hy:(a.eval z).cells=V:=by exact zcv)(aw:dh y'=hW (dh y0) j V.toList:=by rfl)(hd:y'.v=y0.v/\y'.d.dead=y0.d.dead\/y'.v=nl/\y'.d.dead=[]:=by first|exact .inl ⟨rfl,rfl⟩|exact .inr ⟨rfl,rfl⟩)(aN:(P.info? ty).map (·.size)=some V.size:=by exact Sx)(h1:V.all (·.oneCell')=true:=by exact zoa)(hV:j+V.size<=11:=by first|decide|(simp[be]))(hl:L0.Sublist L':=by repeat(first|exact List.Sublist.slnil|(with_reducible refine List.Sublist.cons₂ _ ?_)|refine List.Sublist.cons _ ?_))(hw:Region.wanted o (yielded ops a.tmps)=true:=by rfl)(ha:a.put o.dst undef=a':=by first|(simp only[Act.put,fB];rfl)|rfl)(hc:(MC P ops (ml ops.size J k) k && Region.noSelect ops)=true:=by kernel_rfl)(hQ:∀c a w b,a.defers=b.defers->Q (.panic c) a w->Q (.panic c) b w:=by intro _ ⟨_,_⟩ _ ⟨_,_⟩ e h;cases e;exact h):RK P ops Q F0 x0 L0 L J k a x:=by subst aS;exact kp (λw s=>⟨90,O6 (s.p _ hU.mem) h0 hV aw hd⟩) (V1 h0 hd) h hU hJ ho al hx hy aN h1 hl hw ha hc hQ
theorem ZY{rest:List Oper}{op:Oper}{ty:TypeId}{n:Nat}{C:Array ah}{e:TypeId}{z:ah}{k bytes:Nat}(s:Fr F0 x0 L w)(h:∀g w,Fr F0 x0 (bk g e C::L) w->wpList P ops Q rest (a.put op.dst (cD g 1 1)) w)(ho:op.op=.buildSlice ty 1 #[(0,.tmp n)]:=by with_reducible rfl)(hx:a.eval (.tmp n)=.agg C:=by rfl)(ht:P.underlying ty=some (.slice e):=by exact hM)(hi:(P.info? e).map (λi=>(i.zero,i.size,i.bytes))=some (some z,k,bytes):=by first|assumption|exact kr|exact cF)(h0:0<k:=by decide)(hk:k<=16777216:=by decide)(hC:C.size=k:=by rfl)(hgd:op.guard=none:=by rfl):wpList P ops Q (op::rest) a w:=bS hgd ty e (.tmp n) ho z k bytes C hx ht hi h0 hk hC (h _ _ (s.alloc e C))
theorem fap{rest:List Oper}{op:Oper}{x:ao}{da:Option Addr}{dn dc m n:Nat}{L':ah->List As}(s:Fr F0 x0 L w)(h:∀a' c' w,Fr F0 x0 (L' (.slice a' (κ ys+1) c')) w->wpList P ops Q rest (a.put op.dst (.slice a' (κ ys+1) c')) w)(hgd:op.guard=none:=by rfl)(ho:op.op=.call {callee:=.builtin .append,args:=#[.tmp m,.tmp n],argTypes:=#[71,71]}:=by with_reducible rfl)(hs:a.eval (.tmp m)=v:=by exact zvv)(hx:a.eval (.tmp n)=cD g 1 1:=by rfl)(hm:bk g 90 (b8 x (.slice da dn dc))∈L:=by exact gG)(hU:∀v',mW L (YH x0.heap.size v ys) (YH x0.heap.size v' (ys++[⟨x,da,dn,dc⟩])) (L' v'):=by intro _;exact wc)(ht:P.underlying 71=some (.slice 90):=by exact underlying71)(hi:(P.info? 90).map (λi=>(i.zero,i.size,i.bytes))=some (some (.agg b6),11,112):=by exact kr)(hl:κ ys<=1000:=by omega):wpList P ops Q (op::rest) a w:=eV lV hgd (.tmp m) (.tmp n) 71 ho x0.heap.size 90 _ 112 ht hi rfl v ys hs (s.p _ (hU v).mem) _ [⟨x,da,dn,dc⟩] hx (row_one (s.fg hm)) ab ab s.t.size λv' w' h1 h2 _ h4=>by
  obtain⟨a',c',hv⟩:=(ak.row h1 lV).slice;exact KY
end
def ec(l:List ao)(id:Nat):List aj:=match aL l id with
 | none=>[]
 | some i=>if(recAt l i).aT=true then(match aL l (recAt l i).owner with
  | none=>[]
  | some j=>qd (recAt l j).name (recAt l i).name)else qd (recAt l i).name []
section
variable {l:List ao} {id i j:Nat}
theorem XH(h:aL l id=none):ec l id=[]:=by grind [ec]
theorem ML(h:aL l id=some i)(h0:(recAt l i).aT=false):ec l id=qd (recAt l i).name []:=by grind [ec]
theorem XI(h:aL l id=some i)(h0:(recAt l i).aT=true)(h2:aL l (recAt l i).owner=none):ec l id=[]:=by grind [ec]
theorem MM(h:aL l id=some i)(h0:(recAt l i).aT=true)(h2:aL l (recAt l i).owner=some j):ec l id=qd (recAt l j).name (recAt l i).name:=by grind [ec]
end
theorem uv(w:af)(v:ah)(l:List ao)(hv:cq w v l)(id:Nat):Aae Aag 31 #[v,u6 (id:Int)] w λe w'=>e=.returned (.string (strOf (ec l id)))/\Up w w':=by
 obtain⟨a,cap,rfl⟩:=hv.slice;obtain⟨HV,PL⟩:=aw hv (λid=>jz w _ l hv id);obtain⟨P1,NF⟩:=aw (PL id) (λW a b=>Q4 W a b);have cD:(⟨#[]⟩:ByteArray)=strOf []:=rfl;cases h1:aL l id with
 | none=>have HE:=an (XH h1);rw[h1]at P1;unfold eJ at P1;clear h1 cD;go_in;go_wp2_with fail;refine P1.mono ?_;exact Vv
 | some i=>
  have H1:=an h1;rw[h1]at P1;unfold eJ at P1;obtain⟨hi,_⟩:=cJ h1;obtain⟨b,off,rfl,_,da,dc,rg,_⟩:=cf HV hi;obtain⟨_,c1,c2,c3,_⟩:=cd rg;refine nq ?_;intro b1 b2;clear h1;cases hs:(recAt l i).aT with
  | false=>have HE:=an (ML H1 hs);rw[hs]at c2;obtain⟨nm,hnm⟩:=bE ((recAt l i).name);rw[<-hnm]at c1 HE;have ab:=an (NF w nm []);rw[show(strOf []:ByteArray)=⟨#[]⟩ from rfl]at ab;clear hs hnm cD;go_in;go_wp2_with fail;refine rH ?_;intro w2;go_wp2_with fail;refine ab.mono ?_;rintro e w3⟨rfl,u3⟩;go_wp2;go_ret;exact⟨lC,u3⟩
  | true=>
   obtain⟨HF2,HF3⟩:=aw (@XI l id i H1 hs) (λj=>@MM l id i j H1 hs);rw[hs]at c2;have P2:=an (PL (recAt l i).owner);obtain⟨nm,hnm⟩:=bE ((recAt l i).name);obtain⟨ow,how⟩:=bE ((recAt l i).owner);rw[<-hnm]at c1 HF3;rw[<-how]at c3 HF2 HF3 P2;clear hs hnm how;cases h2:aL l ow with
   | none=>have HE:=an (HF2 h2);rw[h2]at P2;unfold eJ at P2;clear h2 HF2 HF3 cD;go_in;go_wp2_with fail;refine rH ?_;intro w2;go_wp2_with fail;refine P2.mono ?_;exact Vv
   | some j=>have HE:=an (HF3 j h2);rw[h2]at P2;unfold eJ at P2;obtain⟨hj,_⟩:=cJ h2;obtain⟨b',aC,aj,_,aJ,aK,rg,_⟩:=cf HV hj;simp only[Aai,Abq,and_true]at aj;obtain⟨rfl,rfl⟩:=aj;obtain⟨_,d1,_⟩:=cd rg;refine Gn ?_;intro b4 b5;obtain⟨om,aa⟩:=bE ((recAt l j).name);rw[<-aa]at d1 HE;have ak:=an (NF w.drew om nm);clear h2 HF2 HF3 cD aa NF;go_in;go_wp2_with fail;refine rH ?_;intro w2;go_wp2_with fail;refine P2.mono ?_;refine o9 ?_;intro w2;go_wp2;refine e7 (S:=λW=>Up w W) al ?_;change Acp _ _ _ _ _ 12 _ _ (w.drew);have F5:=an (Up.drew (Up.refl w));generalize w.drew=w5 at *;refine o8 ?_;refine ta 3 ?_;refine tb 4 rfl (yc ((λW (h:Up w W)=>h.cell d1))) ?_;refine vg ?_;refine ta 8 ?_;refine tb 9 rfl (yc ((λW (h:Up w W)=>h.cell c1))) ?_;refine ok 10 ?_;intro K hK;go_simp;refine ak.mono ?_;rintro e w6⟨rfl,u6⟩;have S6:=an (show Up w w6 from F5.trans u6);refine hK _ _ S6 ?_;clear hK K;refine ta 11 ?_;refine dn ?_;go_wp2;go_ret;exact⟨lC,S6⟩
def dP(l:List ao)(full:List aj):Except Nat Nat:=match dm full with
 | none=>.error 141
 | some (v,s)=>match eg l ⟨0,v⟩ with
  | none=>.error 161
  | some i=>if s=[] then .ok i else match eg l ⟨(recAt l i).id,s⟩ with
   | none=>.error 161
   | some j=>.ok j
def SL(l:List ao)(r:Except Nat Nat)(w:af)(e:Ab2)(w':af):Prop:=(∃n:Nat,r=.error n/\e=.returned (.tuple #[.agg b6,.int .i64 (n:Int)])/\Up w w')\/(∃i v,r=.ok i/\i<κ l/\e=.returned (.tuple #[.agg (b8 (recAt l i) v),.int .i64 0])/\bf w' w.heap.size v (recAt l i).dead/\Up w w')
section
variable {l:List ao} {full vn sn:List aj} {i j:Nat}
theorem VD(h:dm full=none):dP l full=.error 141:=rD
theorem VE(h:dm full=some (vn,sn))(h1:eg l ⟨0,vn⟩=none):dP l full=.error 161:=rD
theorem IA(h:dm full=some (vn,sn))(h1:eg l ⟨0,vn⟩=some i)(h0:sn=[]):dP l full=.ok i:=rD
theorem VF(h:dm full=some (vn,sn))(h1:eg l ⟨0,vn⟩=some i)(h0:¬sn=[])(h2:eg l ⟨(recAt l i).id,sn⟩=none):dP l full=.error 161:=rD
theorem IB(h:dm full=some (vn,sn))(h1:eg l ⟨0,vn⟩=some i)(h0:¬sn=[])(h2:eg l ⟨(recAt l i).id,sn⟩=some j):dP l full=.ok j:=rD
end
theorem rQ(w:af)(v:ah)(l:List ao)(hv:cq w v l)(hr:∀x∈l,κ x.dead*24<=140737488355328)(full:List aj)(hf:κ full<=9223372036854775807):Aae Aag 108 #[v,.string (strOf full)] w λe w'=>SL l (dP l full) w e w':=by
 obtain⟨a,cap,rfl⟩:=hv.slice;obtain⟨HR,U1,B1,IZ,OZ,SP,PL⟩:=yk hr (ai w (.cells b6 90)) (aF.new w 90 b6) gM gU (jl (w.alloc (.cells b6 90)) full hf) (λW (u:Up w W) c=>IT W _ l (hv.up u) c);clear hr hf;cases hs:dm full with
 | none=>have HE:=an (@VD l full hs);rw[hs]at SP;unfold gw at SP;clear hs;go_in;go_wp2_with(refine arm ?_);refine vd ?_;intro w2 u2 U2 B2;go_wp2_with(first|refine arm ?_|refine oJ ?_);intro wz hbz ag;have UZ:=an (U2.grown ag (λk hk=>tj));go_wp2;exact bG (hi:=IZ) (.tuple #[.agg b6,i6 141]) hbz (.inl ⟨141,HE,rfl,UZ⟩)
 | some vs=>
  obtain⟨vn,sn⟩:=vs;have bb:=an hs;rw[hs]at SP;unfold gw at SP;simp only at SP;have PL1:=an (λW (u:Up w W)=>PL W u ⟨0,vn⟩);have aa:=fX sn;clear hs;have BC:=xo vn;cases h1:eg l ⟨0,vn⟩ with
  | none=>have HE:=an (VE bb h1);rw[h1]at PL1;unfold eJ at PL1;clear h1 aa;go_in;go_wp2_with(refine arm ?_);refine vd ?_;intro w2 u2 U2 B2;go_wp2_with fail;refine zu ?_;intro w3 u3 U3 B3;go_wp2_with(first|refine arm ?_|refine oJ ?_);intro wz hbz ag;have UZ:=an (U3.grown ag (λk hk=>tj));exact Ow
  | some i=>
   have H1:=an h1;rw[h1]at PL1;unfold eJ at PL1;obtain⟨hi,_⟩:=fi h1;have b1:((i:Int)<0)=False:=aq
   have ay:((i:Int)>=0)=True:=aq
   have b2:((i:Int)<(κ l:Int))=True:=ab
   clear h1;by_cases h0:sn=[]
   ·have HE:=an (IA bb H1 h0);rw[show decide (sn=[])=true by simp[h0]]at aa;clear h0;have Hi:=an hi;go_in;go_wp2_with(refine arm ?_);refine vd ?_;intro w2 u2 U2 B2;go_wp2_with fail;refine zu ?_;intro w3 u3 U3 B3;obtain⟨b,off,ar,_,da,dc,rg,dp⟩:=cf (hv.up U3) Hi;subst ar;obtain⟨RG,SC,IX⟩:=aV rg (kS _ _ _ dp (by rw[b9 Hi.out];exact HR _ (cw Hi))) (ku (recAt l i) (.slice da (κ (recAt l i).dead) dc));obtain⟨x,hx⟩:=bE (recAt l i);rw[<-hx]at RG SC IX;have HX:=an hx;clear hx;go_wp2_with(refine arm ?_);refine SC.mono ?_;rintro e w9⟨v',rfl,ho,u9⟩;obtain⟨HO,aI,U9,B9,al⟩:=eW (ho.mono (base':=w.heap.size) U3.size) ho (U3.trans u9) (B3.up u9) B3.lt;obtain⟨na,nc,rfl⟩:=(ak.row ho pw).slice;go_wp2_with(first|refine arm ?_|refine oJ ?_);intro wz hbz ag;obtain⟨BZ,UZ,OK⟩:=aV hbz (U9.grown ag (λk hk=>tj)) (ak.kept HO ag (.inr (λe=>by have:=(aI.aJ _ e).1;have:=al.out;omega)));go_wp2;exact bG (.tuple #[.agg (b8 x (.slice na (κ x.dead) nc)),i6 0]) BZ (.inr ⟨i,_,HE,Hi,by rw[HX.out],by rw[<-HX.out];exact OK,UZ⟩)
   ·obtain⟨HF2,HF3⟩:=aw (@VF l full vn sn i bb H1 h0) (λj=>@IB l full vn sn i j bb H1 h0);have ae:((strOf sn).toList != [])=true:=by unfold bne;rw[fX];simp[h0]
    have Hi:=an hi;rw[show decide (sn=[])=false by simp[h0]]at aa;have ad:=an (λW (u:Up w W)=>PL W u ⟨(recAt l i).id,sn⟩);clear h0;obtain⟨b,off,rfl,_,da,dc,rg,dp⟩:=cf hv hi;have C0:=an (cd rg).1;have BI:=Ad (recAt l i).id sn;obtain⟨JM,au⟩:=bE ((recAt l i).id);rw[<-au]at ad C0 BI HF2 HF3;clear au;cases h2:eg l ⟨JM,sn⟩ with
    | none=>have HE:=an (HF2 h2);rw[h2]at ad;unfold eJ at ad;clear h2 HF2 HF3;go_in;go_wp2_with(refine arm ?_);refine vd ?_;intro w2 u2 U2 B2;go_wp2_with fail;refine zu ?_;intro w3 u3 U3 B3;have c0:=U3.cell C0;go_wp2_with fail;refine(ad _ U3).mono ?_;rintro e w4⟨rfl,u4⟩;obtain⟨U4,B4⟩:=aw (U3.trans u4) (B3.up u4);clear c0;go_wp2_with(first|refine arm ?_|refine oJ ?_);intro wz hbz ag;have UZ:=an (U4.grown ag (λk hk=>tj));exact Ow
    | some j=>have HE:=an (HF3 j h2);rw[h2]at ad;unfold eJ at ad;obtain⟨hj,_⟩:=fi h2;have Hj:=an hj;refine Gn ?_;intro b4 b5;clear h2 HF2 HF3;go_in;go_wp2_with(refine arm ?_);refine vd ?_;intro w2 u2 U2 B2;go_wp2_with fail;refine zu ?_;intro w3 u3 U3 B3;have c0:=U3.cell C0;go_wp2_with fail;refine(ad _ U3).mono ?_;rintro e w4⟨rfl,u4⟩;obtain⟨U4,B4⟩:=aw (U3.trans u4) (B3.up u4);clear c0;obtain⟨b,off,ar,_,da,dc,rg,dp⟩:=cf (hv.up U4) Hj;simp only[Aai,Abq,and_true]at ar;obtain⟨rfl,rfl⟩:=ar;obtain⟨SC,IX⟩:=aw (kS _ _ _ dp (by rw[b9 Hj.out];exact HR _ (cw Hj))) (ku (recAt l j) (.slice da (κ (recAt l j).dead) dc));obtain⟨x,hx⟩:=bE (recAt l j);rw[<-hx]at rg SC IX;have HX:=an hx;clear hx;go_wp2_with(refine arm ?_);refine SC.mono ?_;rintro e w9⟨v',rfl,ho,u9⟩;obtain⟨HO,U9,B9,al⟩:=bW (ho.mono (base':=w.heap.size) U4.size) (U4.trans u9) (B4.up u9) B4.lt;obtain⟨na,nc,rfl⟩:=(ak.row ho pw).slice;go_wp2_with(first|refine arm ?_|refine oJ ?_);intro wz hbz ag;obtain⟨UZ,OK⟩:=aw (U9.grown ag (λk hk=>tj)) (ak.kept HO ag (.inr (λe=>by have:=(ho.aJ _ e).1;have:=al.out;omega)));go_wp2;exact bG (.tuple #[.agg (b8 x (.slice na (κ x.dead) nc)),i6 0]) hbz (.inr ⟨j,_,HE,Hj,by rw[HX.out],by rw[<-HX.out];exact OK,UZ⟩)
theorem Lx(w:af)(x:ao)(vd:ah)(g:Nat)(id:Nat)(hc:w.cell? (ad g 0)=some (u6 (id:Int))):Aae Aag 210 #[.agg (b8 x vd),pz g] w λe w'=>e=.returned (.bool (decide (x.id=id)))/\Up w w':=by
 have U1:=an (ai w (.cells (b8 x vd) 90));have c0:(w.alloc (.cells (b8 x vd) 90)).cell? (ad w.heap.size 0)=some (u6 (x.id:Int)):=(aF.new w 90 (b8 x vd)).setAt.c0;have c1:=U1.cell hc;have HE:(((x.id:Nat):Int)==(id:Int))=decide (x.id=id):=aQ
 have HI:=an HE;clear hc HE;generalize decide (x.id=id)=bb at *;obtain⟨n,hn⟩:=bE (x.id);rw[<-hn]at c0 HI;clear hn;go_in;go_wp2_with(refine arm ?_);go_ret;exact⟨by rw[<-HI.out];rfl,U1⟩
theorem Ij(w:af)(v:ah)(l:List ao)(hv:cq w v l)(g id:Nat)(hc:w.cell? (ad g 0)=some (u6 (id:Int))):Aae Aag 209 #[v,.func (.func 210) #[] #[pz g]] w λe w'=>e=.returned (i6 (eJ (ed (λx=>decide (x.id=id)) l)))/\Up w w':=by
 have hlen:=hv.length_le;obtain⟨a,cap,rfl⟩:=hv.slice;obtain⟨HV,CL⟩:=aw hv (λW (u:Up w W) x vd=>Lx W x vd g id (u.cell hc));go_in;go_wp2;go_loopw [8] (λi wr=>∃k:Nat,k<=κ l/\i=i6 k/\(∀j(hj:j<κ l),j<k->(λx:ao=>decide (x.id=id)) l[j]=false)/\Up w wr) (λi _=>κ l-(Aau i).toNat)
 case atStart=>exact⟨0,bT _,rfl,λj _ h=>ae,Up.refl _⟩
 case round=>
  obtain⟨k,hk,rfl,ay,ur⟩:=hrel;obtain⟨HN,UR⟩:=aw ay ur;clear ay;by_cases hlt:k<κ l
  ·refine iD ?_;intro b2;obtain⟨b,off,rfl,_,hc⟩:=r4 (HV.up UR) ae;obtain⟨da,dn,dc,rg,dp⟩:=hc k hlt;obtain⟨RG,HK⟩:=aw rg (λh=>ni (p:=λx=>decide (x.id=id)) hlt h HN);have HS:=an (show(λx:ao=>decide (x.id=id)) l[k]=false->∀j(hj:j<κ l),j<k+1->(λx:ao=>decide (x.id=id)) l[j]=false from λh j hj az=>by
    rcases jO j k with h'|h'
    ·exact HN j hj h'
    ·obtain rfl:j=k:=by omega
     exact h)
   have CK:=an (CL wr UR l[k] (.slice da dn dc));clear hc;generalize l[k]=x at *;go_wp2_with(refine arm ?_);refine CK.mono ?_;rintro e w3⟨rfl,u3⟩;have U3:=an (UR.trans u3);clear CL;by_cases he:(decide (x.id=id))=true
   ·exact Vn
   ·exact U8
  ·obtain rfl:k=κ l:=by omega
   refine vl ?_;intro b2;have HP:=an (show ed (λx=>decide (x.id=id)) l=none from ng (λj hj=>HN j hj hj));exact Gd
theorem py(w:af)(v:ah)(l:List ao)(hv:cq w v l)(id:Nat):Aae Aag 147 #[v,u6 (id:Int)] w λe w'=>e=.returned (i6 (eJ (aL l id)))/\Up w w':=by have U1:=an (ai w (.cells #[u6 (id:Int)] 70));have IX:=an (Ij (w.alloc (.cells #[u6 (id:Int)] 70)) v l (hv.up U1) w.heap.size id (du w _ _ _ 0 _ rfl));obtain⟨a,cap,rfl⟩:=hv.slice;go_in;go_wp2_with fail;refine IX.mono ?_;rintro e w2⟨rfl,u2⟩;go_wp2;go_ret;exact⟨rfl,U1.trans u2⟩
def Ps:gH:=⟨xk,none,0,0⟩
theorem QQ(n:Nat):(Acv b6 (n*11)).toList=(Aad n Ps).flatMap dh:=by
 apply wM;intro i;by_cases hi:i<n*11
 ·have hd:i=(i/11)*11+i%11:=by omega
  have h3:=lV.at (Aad n Ps) (i/11) ab (i%11) ae;rw[<-hd]at h3;rw[h3,List.getElem_replicate];show _=b6.toList[i%11]?;have hz:b6.size=11:=rfl;rw[oW,oW];unfold Acv;grind
 ·rw[tc (by rw[Fm,wB];omega),tc (by rw[lV.flat,wK];omega)]
theorem bc.abk(w:af)(n:Nat)(hn:n<=maxLen):bc (w.alloc (.cells (Acv b6 (n*11)) 90)) w.heap.size (cD w.heap.size n n) (Aad n xk):=by
 refine⟨Aad n Ps,by simp[Ps],⟨by rw[lV.flat],.inr ⟨w.heap.size,n,_,aq,aE _,(aF.new w 90 (Acv b6 (n*11))),aq,hn,wB _ _,?_⟩⟩,λy hy=>?_⟩
 ·rw[wK,<-QQ];exact dq (by rw[Fm,wB];exact aE _)
 ·obtain⟨_,rfl⟩:=List.mem_replicate.1 hy;exact ak.nil _ _ _ _ _
theorem RJ(x:ao)(v u:ah)(y:ao):(b8 x v).toList=hW (b8 y u).toList 0 (b8 x v).toList:=aA
theorem dW(next:Nat)(v:ah):(prog.info? 73).map (·.size)=some (aO next v).size:=al
theorem iL:∀W:af,(Acj 73).run Aag W=.ok (.agg (aO 0 (nl))) W:=by simp[aO]
theorem hZ(next:Nat)(a:Option Adr)(n c:Nat):(aO next (.slice a n c)).all (·.oneCell')=true:=by simp[aO,Value.oneCell']
theorem Ac(next:Nat)(a:Option Adr)(n c:Nat):prog.built 73 [(0,u6 (next:Int)),(1,.slice a n c)]=some (aO next (.slice a n c)):=al
def SF(next:Nat)(l:List ao)(w:af)(e:Ab2)(w':af):Prop:=∃v',e=.returned (.agg (aO next v'))/\bc w' w.heap.size v' l/\Up w w'
theorem C2(hk:k<κ l):(l.take k++Aad (κ l-k) xk).set k l[k]=l.take (k+1)++Aad (κ l-(k+1)) xk:=by rw[y4 _ _ ab,ez,show k-min k (κ l)=0 from ae];rw[show κ l-k=(κ l-(k+1))+1 from ae,List.replicate_succ,List.set_cons_zero];rw[et hk,Aa9];rfl
theorem I2(w:af)(next:Nat)(v:ah)(l:List ao)(hv:cq w v l)(hl:κ l<=1000)(hr:∀x∈l,κ x.dead*24<=140737488355328):Aae Aag 94 #[.agg (aO next v)] w λe w'=>SF next l w e w':=by obtain⟨la,lc,rfl⟩:=hv.slice;refine UC ?_;clear hv hr;intro HV HR U1 U2 c0 c1 B2 UU C1 C0 SZ MK;go_in;exact UN
theorem q1(w:af)(next:Nat)(v:ah)(l:List ao)(hv:cq w v l)(hl:κ l<=1000)(hr:∀x∈l,κ x.dead*24<=140737488355328):Aae Aag 82 #[.agg (aO next v)] w λe w'=>SF next l w e w':=by obtain⟨la,lc,rfl⟩:=hv.slice;refine UC ?_;clear hv hr;intro HV HR U1 U2 c0 c1 B2 UU C1 C0 SZ MK;go_in;exact UN
theorem acy:zc Aag 90=b6:=al
theorem acw:zc Aag 73=aO 0 nl:=al
def YU(n:Nat)(v v':ah):(Abx (aO n v).toList 1 (#[v']:Array ah).toList).toArray=aO n v':=rfl
def YW(n:Nat)(v:ah):(Abx (aO n v).toList 0 (#[.int .u64 ((n:Int)+1)]:Array ah).toList).toArray=aO (n+1) v:=rfl
section
variable (x:ao) (vd:ah) (n:Nat) (b:List aj) (k:Bool)
def abz:(Abx (b8 x vd).toList 0 (#[u6 (n:Int)]:Array ah).toList).toArray=b8 {x with id:=n} vd:=rfl
def abA:(Abx (b8 x vd).toList 1 (#[.string (strOf b)]:Array ah).toList).toArray=b8 {x with name:=b} vd:=rfl
def abC:(Abx (b8 x vd).toList 2 (#[.bool k]:Array ah).toList).toArray=b8 {x with aT:=k} vd:=rfl
def abB:(Abx (b8 x vd).toList 3 (#[u6 (n:Int)]:Array ah).toList).toArray=b8 {x with owner:=n} vd:=rfl
def abD:(Abx (b8 x vd).toList 5 (#[u6 (n:Int)]:Array ah).toList).toArray=b8 {x with ay:=n} vd:=rfl
end
theorem VW{vd:ah}(h:w.rangeAt b o (b8 x vd).toList):w.rangeAt b (o+7) (be x.root).toList:=λj v hj=>by
 rw[yU];refine h (7+j) v ?_;match j with
 | 0=>exact hj
 | 1=>exact hj
 | 2=>exact hj
 | n+3=>cases hj
theorem Fr.aa7{F0:Nat->Prop}{x0 w w':af}{L L':List As}{vd v':ah}{l:List au}{ys:List gH}(s:Fr F0 x0 L w)(p:(os b v' ys).P w')(f:∀n,(os b v' ys).F n->w.heap.size<=n/\n<w'.heap.size\/vd.ownBlock=some n)(u:Up w w')(hU:mW L (op b vd l) (os b v' ys) L':=by exact wc):Fr F0 x0 L' w':=s.Aj hU (Touch.bP u) p λn h=>by
  rcases f n h with h|h
  ·exact⟨h.2,.inr h.1⟩
  ·exact⟨ej ((s.p _ hU.mem).aJ n h).2 u.size,.inl h⟩
theorem LU{next:Nat}{b:List aj}(h:lL next l=some b):next<=281474976710655/\(κ l)<=32/\(∀x∈l,cK x=true)/\b=eD (ek next l):=by grind [lL]
theorem IK{next:Nat}(h:next<=281474976710655):bn (fT next)=next:=by
 unfold fT;show bn (aZ next 8++[])=next
 grind [hc]
theorem PR(x:ao)(da:Option Adr)(dn dc:Nat):prog.built 90 [(0,u6 (x.id:Int)),(1,.string (strOf x.name)),(2,.bool x.aT),(3,u6 (x.owner:Int)),(4,u6 (x.prev:Int)),(5,u6 (x.ay:Int)),(6,i6 x.blocks),(7,.agg (be x.root)),(8,.slice da dn dc)]=some (b8 x (.slice da dn dc)):=al
theorem JZ(x:ao)(h:0<=x.blocks)(da:Option Adr)(dn dc:Nat):prog.built 90 [(0,u6 (x.id:Int)),(1,.string (strOf x.name)),(2,.bool ((ir x.aT:Int)==1)),(3,u6 (x.owner:Int)),(4,u6 (x.prev:Int)),(5,u6 (x.ay:Int)),(6,i6 (x.blocks.toNat:Int)),(7,.agg (be x.root)),(8,.slice da dn dc)]=some (b8 x (.slice da dn dc)):=by
 have e1:((ir x.aT:Int)==1)=x.aT:=by cases x.aT<;>decide
 have e2:((x.blocks.toNat:Nat):Int)=x.blocks:=ae
 rw[e1,e2];exact PR x da dn dc
theorem aaS{ops:Array Oper}{S:af->Prop}{o:Oper}{t u:TypeId}{v r:ah}(hr:∀W,S W->(convert t u v).run P W=.ok r W)(ho:o.op=.convert t u (.tmp n):=by rfl)(hx:a.eval (.tmp n)=v:=by rfl)(hw:Region.wanted o (yielded ops a.tmps)=true:=by rfl):YieldsIf P ops S o r a:=.inl ⟨hw,λw h=>by
  unfold Abt;simp only[ho,hx,Aay,hr w h,Aax,Ac7]⟩
theorem Rf(w:af)(v:ah)(x:ao)(hr:cK x=true)(hw:x.wf)(hv:a8 w v (fe x)):Aae Aag 179 #[v] w λe w'=>∃da dc,e=.returned (.tuple #[.agg (b8 x (.slice da (κ x.dead) dc)),.int .i64 0])/\bf w' w.heap.size (.slice da (κ x.dead) dc) x.dead/\Up w w':=by
 obtain⟨w0,rfl⟩:=bE w;have hs:=Ci _ (BK hr) [];rw[Ab1,bI rfl]at hs;obtain⟨hp,hl⟩:=az (DS hr) (im x);have HN:=an (show c8 jC ((lU x).take 34)=D7 x from rm jC (D7 x) hp.1 hp.2.2);obtain⟨_,_,_,⟨h4,h5⟩,_,h6,h7,h8,_⟩:=(br x).1 hr;obtain⟨RB,RL,HS,HL⟩:=bW (show mu ((lU x).drop 34)=some x.root from nE x.root hw.2.2.2.2.2.1 h6) (I4 x.dead hw.2.2.2.2.2.2 h7 h8) hs hl;clear hs hp hw hr h6 h7 h8;obtain⟨va,vc,rfl⟩:=hv.slice;have s:=Fr.start w0;go_in;go_wp2_with(refine fw s ?_;intro _ w s);refine(AM _ _ (fe x) (hv.up s.pure) _ HS).mono ?_;rintro e w2⟨v2,rfl,⟨vs,aR,hvo,ar⟩,u2⟩;change Fr _ _ [bk ?q 90 _] _ at s;obtain⟨q1,s⟩:=az ((s.f (bk ?q 90 _) gG _ rfl).1) (s.up u2);obtain⟨z2,q0,U2⟩:=cZ (s.fg (t:=90) gG) ((s.f (bk ?q 90 _) gG _ rfl).2.resolve_left id) s.pure;obtain⟨x1,x2,x3,rfl⟩:∃a b c,vs=[a,b,c]:=by
  match vs,aR with
  | [a,b,c],_=>exact⟨a,b,c,rfl⟩
 obtain⟨xa,xn,xc⟩:=x1;obtain⟨na,nn,nc⟩:=x2;obtain⟨za,zn,zc⟩:=x3;have hx:a8 w2 (.slice xa xn xc) (lU x):=(ar 0 aq aq).cu;have hy:a8 w2 (.slice na nn nc) x.name:=(ar 1 aq aq).cu;have hz:a8 w2 (.slice za zn zc) (cX x.dead):=(ar 2 aq aq).cu;have oy:∀b,(Acr na nn nc).ownBlock=some b->b≠?q:=λb hb=>by have:=((ar 1 aq aq).aJ b hb).1;omega
 obtain rfl:xn=50:=by obtain⟨_,_,h⟩:=hx.slice;simp[hl]at h;exact h.2.1
 obtain⟨g,cap,rfl,hg,_,hc,_,_⟩:=Own.row hvo aq;have c0:w2.cell? ⟨g,0,none⟩=some (.slice xa 50 xc):=hc 0 aq;have c1:w2.cell? ⟨g,1,none⟩=some (.slice na nn nc):=hc 1 aq;have c2:w2.cell? ⟨g,2,none⟩=some (.slice za zn zc):=hc 2 aq;have aE:50<=xc:=by
  rcases hx with⟨h,_,_,aa,_,_⟩|⟨_,_,_,aa,_,h1,_⟩
  ·rw[h]at hl;cases hl
  ·simp at aa;omega
 obtain⟨v1,aI⟩:=bE (bY xa 0 34 xc);obtain⟨v3,aC⟩:=bE (bY xa 34 50 xc);have PT:∀W,(Aav 30 (.slice xa 50 xc) none (some (i6 34)) none).run Aag W=.ok v1 W:=λW=>by rw[aI];exact hj (P:=Aag) 30 dC dD xa 50 xc 34 ae W
 have PF:∀W,(Aav 30 (.slice xa 50 xc) (some (i6 34)) none none).run Aag W=.ok v3 W:=λW=>by rw[aC];exact dg (P:=Aag) 30 dC dD xa 50 xc 34 ae W
 have V1:=aD.piece hx (lo:=0) (hi:=34) ae ae;rw[<-aI,Aaw]at V1;have V3:=aD.piece hx (lo:=34) (hi:=50) ae ae;rw[<-aC,dq ae]at V3;obtain⟨HY,HZ,ab,ag⟩:=bW hy hz V1 V3;have gq:¬(bk ?q 90 b6).F g:=by show g≠_;omega
 have s:=Fr.start w2;clear hx hy hz V1 V3 aI aC hl hv aR hvo ar hc HS u2;go_wp2_with(first|(refine fw s ?_;intro _ w s)|((with_reducible refine eo 41 6 _ ?_);refine fal #[i6 8,i6 1,i6 8,i6 8,i6 8,i6 1] 3 (λg=>cD g 6 6) s ?_;intro _ w s));refine(uy _ _ jC (Aa (s.fg (t:=3) gG) jC 6 rfl dK aA) (by simp[jC]) v1 _ (ab.up s.pure) ⟨av,by rw[ez,HL.out];rfl⟩).mono ?_;rintro e w4⟨v7,rfl,O7,u4⟩;rw[HN.out]at O7;obtain⟨h7,s⟩:=az s.pure.size (s.up u4);have U4:=s.pure;obtain⟨g7,aQ,rfl,aK,_,aH,_,_⟩:=Own.row O7 o2;have n0:w4.cell? (ad g7 0)=some (u6 (x.id:Int)):=aH 0 o2;have n1:w4.cell? (ad g7 1)=some (u6 (ir x.aT:Int)):=aH 1 o2;have n2:w4.cell? (ad g7 2)=some (u6 (x.owner:Int)):=aH 2 o2;have n3:w4.cell? (ad g7 3)=some (u6 (x.prev:Int)):=aH 3 o2;have n4:w4.cell? (ad g7 4)=some (u6 (x.ay:Int)):=aH 4 o2;obtain⟨nb,aO⟩:=bE (x.blocks.toNat);have aM:=an aO;have n5:w4.cell? (ad g7 5)=some (u6 (nb:Int)):=by rw[aO];exact aH 5 o2
 obtain⟨s,j0,j1,j2⟩:=iv (Fr.start w4) (U4.cell c0) (U4.cell c1) (U4.cell c2);have aw:?q<g7:=by have:=z2.lt;omega
 clear aH O7 HN ab PT u4 c0 c1 c2 aO;go_wp2_with(refine fw s ?_;intro _ w s);refine(qP _ v3 _ (ag.up (U4.trans s.pure)) (by rw[hA,HL.out])).mono ?_;rintro e w5(⟨root,au,rfl,u5⟩|⟨aB,_⟩);rotate_left
 ·rw[RB.out]at aB;cases aB
 rw[RB.out]at au;obtain rfl:=dE au;have s:=s.up u5;rw[show fI x.root=.agg (be x.root)from rfl];clear u5 au PF;go_wp2_with(refine fw s ?_;intro _ w s);obtain⟨h0,q2⟩:=az ((U2.trans (U4.trans s.pure)).size) (ej z2.lt (U4.trans s.pure).size);refine(KK _ (.slice za zn zc) _ (HZ.up (U4.trans s.pure)) _ RL).mono ?_;rintro e w6⟨u,rfl,og,u6⟩;obtain⟨da,dc,rfl⟩:=(ak.row og pw).slice;have s:=s.up u6;change Fr _ _ (bk ?g8 87 _::_) _ at s;obtain⟨B8,U6⟩:=az (s.fg (t:=87) gG) s.pure;have z6:=z2.up (U4.trans U6);have ai:=an (HY.up (U4.trans U6));obtain⟨R8,k0,k1,k2,k3,k4⟩:=q5 B8.range (U6.cell n0) (U6.cell n1) (U6.cell n2) (U6.cell n3) (U6.cell n4);obtain⟨k5,l1⟩:=az (U6.cell n5) (U6.cell j1);have n8:¬(bk ?q 90 b6).F _:=e5 B8 z6 av;have n7:¬(bk ?q 90 b6).F g7:=by show g7≠_;omega
 have OG:=an og;have HB:=JZ x ae da (κ x.dead) dc;rw[<-aM.out]at HB;obtain⟨wb,aj⟩:=az (aX nb (by have:=aM.out;omega)) (U2.trans (U4.trans U6));have s:=Fr.from (A:=bk ?q 90 b6) z6 (λn h=>by rw[show n=_ from h];exact z6.lt);clear n0 n1 n2 n3 n4 n5 j1 j2 B8 og RB RL HZ ag U4 U6 U2 u6;go_wp2_with fail;refine ka [] s (λ_ h=>hE) (λw s=>?_) al;repeat refine kt ?_
 refine kt ?_ (hy:=aaS (λW h=>toStr W _ _ (aD.ax ai h.1 oy)));iterate 16 refine kt ?_
 refine kt (v:=i6 (nb:Int)) ?_ (hy:=ya);iterate 3 refine kt ?_
 refine ks (λw s=>?_);repeat refine kt ?_
 refine kd (λw _ s=>?_);clear HB wb;go_wp2_with fail;refine bj ?_;exact⟨da,dc,rfl,(ak.ax OG s.t (λb hb e=>by have:=(ak.aJ OG b hb).1;have e:b=_:=e;omega)).mono ae,s.t.up aj (λn h=>by rw[show n=_ from h];exact q0)⟩
theorem Fr.sl{F0:Nat->Prop}{x0 w:af}{L L':List As}(s:Fr F0 x0 L w)(h:L'.Sublist L:=by exact Xc):Fr F0 x0 L' w:=⟨s.t,λA m=>s.p A (h.subset m),λA m=>s.f A (h.subset m),s.d.sublist h⟩
theorem Fr.ndq{F0:Nat->Prop}{x0 w:af}{L L1 L':List As}{ys:List gH}{da:Option Addr}{dc:Nat}(s:Fr F0 x0 L w)(hr:yq L (op b (.slice da (κ x.dead) dc) x.dead) L1:=by exact SD)(hU:mW L1 (VI b ys) (VI b (ys++[⟨x,da,κ x.dead,dc⟩])) L':=by exact wc):Fr F0 x0 L' w:=by
 have q:=s.p _ hr.mem;obtain⟨p1,p2⟩:=hr.pair (R:=λA B=>∀n,A.F n->¬B.F n) (λh n a b=>h n b a) s.d;have hA:=hr.sub _ hU.mem;have hF:∀n,(VI b (ys++[⟨x,da,κ x.dead,dc⟩])).F n->(VI b ys).F n\/(Acr da (κ x.dead) dc).ownBlock=some n:=λn ⟨y,hy,h⟩=>by
  rcases Aa8.1 hy with hy|hy
  ·exact .inl ⟨y,hy,h⟩
  ·rw[kG.1 hy]at h;exact .inr h
 have hP:(VI b (ys++[⟨x,da,κ x.dead,dc⟩])).P w:=λy hy=>by
  rcases Aa8.1 hy with hy|hy
  ·exact s.p _ hA y hy
  ·rw[kG.1 hy];exact q
 obtain⟨d1,_⟩:=hU.pair (R:=λA B=>∀n,A.F n->¬B.F n) (λh n a b=>h n b a) p1 (λD hD k n hn hd=>(hF n hn).elim (λh=>k n h hd) (λh=>p2 D hD n h hd));refine⟨s.t,λD hD=>?_,λD hD n hn=>?_,d1⟩
 ·rcases hU.sub D hD with rfl|hD
  ·exact hP
  ·exact s.p D (hr.sub D hD)
 ·rcases hU.sub D hD with rfl|hD
  ·exact(hF n hn).elim (s.f _ hA n) (s.f _ hr.mem n)
  ·exact s.f D (hr.sub D hD) n hn
theorem Rt(w:af)(v:ah)(b:List aj)(hv:a8 w v b)(next:Nat)(l:List ao)(hs:lL next l=some b)(aL:∀x∈l,x.wf):Aae Aag 115 #[v] w λe w'=>∃v,e=.returned (.tuple #[.int .u64 (next:Int),v,.int .i64 0])/\bc w' w.heap.size v l/\Up w w':=by
 obtain⟨hn,a1,hr,hb⟩:=LU hs;have SJ:=Ci _ (xR (next:=next) a1 hr) [];rw[Ab1,bI rfl,<-hb]at SJ;obtain⟨bb,HS,HW,HR,HV⟩:=eW SJ hs aL hr hv;clear hb SJ hs aL hr;obtain⟨va,vc,rfl⟩:=hv.slice;obtain⟨w0,rfl⟩:=bE w;go_in;go_wp2_with fail;refine(AM _ _ b HV _ bb).mono ?_;rintro e w2⟨v2,rfl,⟨vs,aR,hvo,ar⟩,U2⟩;obtain⟨x,xs,rfl⟩:∃x xs,vs=x::xs:=by
  cases vs with
  | nil=>cases aR
  | cons x xs=>exact⟨x,xs,rfl⟩
 have hxl:κ xs=κ l:=by simpa[ek]using aR
 obtain⟨m,hm⟩:=bE (κ l);have hlen:κ (x::xs)=m+1:=by rw[Aaj,hxl,hm]
 have hx:=(ar 0 aq (by simp[ek])).cu;have be:=an (show ∀k(h1:k<κ xs)(h2:k<κ l),a8 w2 (gu xs[k]) (fe l[k])from λk h1 h2=>by have:=(ar (k+1) ab (by simp[ek];omega)).cu;simpa[ek]using this)
 obtain⟨g,cap,a6,aI,aV,aa,_,_⟩:=Own.row hvo aq;rw[hlen]at a6;obtain rfl:=a6;have c0:w2.cell? (ad g 0)=some (gu x):=aa 0 aq;have ba:=an (show ∀k(h1:k<κ xs),w2.cell? (ad g (1+k))=some (gu xs[k])from λk h1=>by have:=aa (k+1) ab;rw[Nat.add_comm 1 k];simpa using this)
 have aS:m+1<=cap:=by
  rcases hvo.2 with⟨h,_⟩|⟨g',al,aB,h,_,_,hn,_⟩
  ·cases h
  ·simp only[Abg]at h;simp at hn;omega
 obtain⟨xa,xn,xc⟩:=x;obtain rfl:xn=8:=by obtain⟨_,_,h⟩:=hx.slice;simp[gu,ek,gK]at h;exact h.2.1
 have HX:=an (show a8 w2 (.slice xa 8 xc) (fT next)from hx);replace c0:w2.cell? (ad g 0)=some (.slice xa 8 xc):=c0;have PF:∀W:af,(Aav 40 (cD g (m+1) cap) (some (i6 1)) none none).run Aag W=.ok (partOf 1 (some ⟨g,0,none⟩) 1 (m+1) cap) W:=λW=>gq (P:=Aag) 40 1 L8 L9 (some ⟨g,0,none⟩) (m+1) cap 1 ae W;obtain⟨pa,aC,a7⟩:∃pa,partOf 1 (some ⟨g,0,none⟩) 1 (m+1) cap=.slice pa m (cap-1)/\(0<m->pa=some ⟨g,1,none⟩):=by refine⟨_,rfl,λh=>?_⟩;rw[aY ae];rfl
 have aN:=an a7;rw[aC]at PF;have MK:∀W:af,(Acf 71 (i6 0) (i6 (m:Int))).run Aag W=.ok (cD W.heap.size 0 m) (W.alloc (.cells (Acv b6 (m*11)) 90)):=λW=>mB (P:=Aag) 71 90 (.agg b6) 11 112 underlying71 kr m ae ae W;have b3:((33:Int)<((m+1:Nat):Int))=False:=ab
 have b4:(((m+1:Nat):Int)<1)=False:=ab
 have wm:((m+1:Nat):Int)-1=(m:Int):=ae
 have bh:IntKind.i64.wrap (m:Int)=(m:Int):=aX m ae;obtain⟨HM,bd⟩:=aw hm hxl;have m32:m<=32:=ae
 obtain⟨pc,aT⟩:=bE (cap-1);rw[<-aT]at PF;obtain⟨tn,aM⟩:=bE (m+1);rw[<-aM]at PF b3 b4 wm ⊢;have s:=Fr.start w2;clear ar aa aR hvo hlen hxl hm aC a7 aT aM aS hx;go_wp2_with(first|(refine fw s ?_;intro _ w s)|((with_reducible refine eo 41 1 _ ?_);refine fal #[i6 8] 3 (λg=>cD g 1 1) s ?_;intro _ w s));refine(uy _ _ [8] (Aa (s.fg (t:=3) gG) [8] 1 rfl dK aA) aq _ (fT next) (HX.up s.pure) ⟨av,by rw[gK];rfl⟩).mono ?_;rintro e w4⟨v7,rfl,O7,u4⟩;have s:=s.up u4;have aK:=s.pure;have U4:=U2.trans aK;rw[show c8 [8] (fT next)=[next] from by show [bn ((fT next).take 8)]=_;rw[dq (by rw[gK];omega),IK hn]]at O7
 obtain⟨g7,aQ,rfl,_,_,aH,_,_⟩:=Own.row O7 aq;have n0:w4.cell? (ad g7 0)=some (u6 (next:Int)):=aH 0 aq;have s:=Fr.start w4;clear aH O7 c0 HX u4;go_wp2_with fail;replace s:=s.new (A:=YH w4.heap.size (cD w4.heap.size 0 m) []) (.one (ai _ _) (ak.room dh 11 90 w4 (.agg b6) w4.heap.size m (aE _) ae) (ak.room dh 11 90 w4 (.agg b6) w4.heap.size m (aE _) ae).aJ);replace s:=s.new (A:=VI w4.heap.size []) (.one (Up.refl _) (λy h=>hE) (λn ⟨y,h,_⟩=>hE));go_loopw [8,48] (λlv i wr=>∃(k:Nat)(ys:List gH),k<=m/\i=i6 k/\ys.map (·.d)=l.take k/\Fr no w4 [VI w4.heap.size ys,YH w4.heap.size lv ys] wr) (λ_ i _=>m-(Aau i).toNat)
 case atStart=>exact⟨0,[],bT _,rfl,rfl,s⟩
 case round=>
  clear s;obtain⟨k,ys,hk,rfl,aG,s⟩:=hrel;have aW:=an aG;have au:κ ys<=1000:=by have:=cn List.length aG;rw[Aac,ez]at this;omega
  obtain⟨la,lc,rfl⟩:=(ak.row (s.p (YH _ _ _) gG) lV).slice;clear aG MK PF b3 b4 wm bh;by_cases hlt:k<m
  ·have bf:((k:Int)<(m:Int))=True:=by simp;omega
   obtain rfl:=aN ae;have aU:k<κ xs:=by rw[bd.out,<-HM.out];exact hlt
   have ax:k<κ l:=by rw[<-HM.out];exact hlt
   obtain⟨ck,hb⟩:=az (aK.cell (ba k aU)) ((be k aU ax).up aK);have TK:=an (show l.take (k+1)=l.take k++[l[k]] from et ax);obtain⟨h1,h2⟩:=az (HR l[k] (cw ax)) (HW l[k] (cw ax));generalize l[k]=x at *;generalize xs[k]=t at *;obtain⟨ta,bl,tc⟩:=t;unfold gu at ck hb;simp only at ck hb;clear aU ax;go_wp2_with(refine fw s ?_;intro _ w s);refine(Rf _ _ x h1 h2 (hb.up s.pure)).mono ?_;rintro e w5⟨da,dc,rfl,od,u5⟩;have s:=s.new (.q od u5 s.t.size);clear hb od u5;go_wp2_with(first|(refine fw s ?_;intro _ w s)|(refine ZY s ?_;intro _ w s)|(at_builtin;refine fap s ?_ (hl:=au);intro _ _ w s));go_roundw
   case rel=>exact⟨k+1,ys++[⟨x,da,κ x.dead,dc⟩],hlt,aq,by rw[Aar,aW.out,TK.out];rfl,s.ndq.sl⟩
   case measure=>simp only[Aau];omega
  ·obtain rfl:k=m:=by omega
   have bf:((k:Int)<(k:Int))=False:=aq
   have aP:=an (show ys.map (·.d)=l by rw[aW.out,HM.out,fF]);go_wp2_with(refine fw s ?_;intro _ w s);refine(sH _ next ae _ l (bc.cm ⟨ys,aP,s.p (YH _ _ _) gG,s.p (VI _ _) gG⟩) HW).mono ?_;rintro e w6(⟨ay,_⟩|⟨mb,bm,ag,rfl,aO,U6⟩)
   ·rw[HS.out]at ay;cases ay
   obtain rfl:mb=b:=dE (ag.symm.trans HS);have s:=s.up U6;have BQ:=an (z7 w6 _ _ mb mb aO.cu (HV.up (U4.trans s.pure)));rw[h8 rfl]at BQ;obtain⟨qa,qc,rfl⟩:=aO.cu.slice;clear ag aO U6;go_wp2_with fail;refine BQ.mono ?_;rintro e w8⟨rfl,rfl⟩;go_wp2_with(refine fw s ?_;intro _ w s);refine bj ?_;exact⟨_,rfl,bc.mono ⟨ys,aP,s.p (YH _ _ _) gG,s.p (VI _ _) gG⟩ U4.size,U4.trans s.pure⟩
def bO(s:Nat->Nat)(ba:Nat):List au->(Nat->Nat)
 | []=>s
 | q::l=>bO (gX s ba q) ba l
def p7(ba:Nat)(q:au):∀(l:List au)(s:Nat->Nat),bO s ba (l++[q])=gX (bO s ba l) ba q
 | [],_=>rfl
 | x::l,s=>p7 ba q l (gX s ba x)
theorem Tu{s:Nat->Nat}{ba:Nat}{q:au}(h:gX s ba q i≠0):s i≠0:=by
 unfold gX at h;have key:∀y,sS s q.loc 2 y i≠0->s i≠0:=λy hh=>by unfold sS at hh;grind [KH,ff]
 grind
def Ds{ba:Nat}{i:Nat}:∀(l:List au){s:Nat->Nat},bO s ba l i≠0->s i≠0
 | [],_,h=>h
 | q::l,s,h=>Tu (Ds l h)
def ZN(P:bq)(H:aR)(b:List aj)(old:List au)(w:af)(e:Ab2)(w':af):Prop:=∃ats,κ ats=e8 (κ b) (κ P.C)/\ats.Nodup/\(∀i∈ats,i<1024/\bO P.s P.ba old i=1)/\Mq {P with s:=fk (bO P.s P.ba old) ats} H b ats w e w'
theorem VY{v:ah}{l:List Nat}(h:aD QW w v l):aD bC w v (l.map (λk:Nat=>(k:Int))):=by
 rcases h with⟨rfl,h⟩|⟨b,off,cap,h1,h2,h3,h4,h5⟩
 ·exact .inl ⟨rfl,h⟩
 ·refine .inr ⟨b,off,cap,ab,ab,ab,h4,λi hi=>?_⟩;rw[Aac]at hi;rw[List.getElem_map];exact h5 i hi
theorem Lu{P:bq}(A:PA w H P){v:ah}(h:Own QW 3 w base v xs):∀k,v.ownBlock=some k->¬PF H k:=λk hk=>by
 obtain⟨_,h2⟩:=h;rcases h2 with⟨h3,_⟩|⟨g,cap,cur,h3,_,h5,_⟩
 ·rw[h3]at hk;cases hk
 ·rw[h3]at hk;simp only[Aan,Aai]at hk;subst hk;exact A.cc (t:=3) (C:=cur) h5 av
theorem ua{n t:Nat}:e8 n t<=2049:=by grind [e8,jw,cL,dN]
theorem QV(w:af)(H:aR)(P:bq)(A:PA w H P)(next:Nat)(aC:next<18446744073709551616)(v:ah)(l:List ao)(hv:cq w v l)(aL:∀x∈l,x.wf)(b:List aj)(hb:e2 next l=some b)(vo:ah)(old:List au)(ho:c9 w vo old)(aU:∀k,vo.ownBlock=some k->¬PF H k)(ht:64<=κ P.C/\(κ P.C)<=1024)(aG:1<=P.st/\P.st<=281474976710655)(hm:P.m<=800000)(h1:1<=κ b)(aE:∀i,i<1024->P.s i≠0->4<=i/\i<κ P.C)(hc:e8 (κ b) (κ P.C)<=bN (bO P.s P.ba old))(aW:κ old<=100000):Aae Aag 152 #[pz H.pb,.agg (aO next v),vo] w λe w'=>ZN P H b old w e w':=by
 have h2:=vK hb;obtain⟨sa,sc,rfl⟩:=hv.slice;obtain⟨oa,oc,rfl⟩:=ho.slice;have U2:=an (ai (w.alloc (.cells (aO next (.slice sa (κ l) sc)) 73)) (.cells (be hole) 87));have b2:=aF.new (w.alloc (.cells (aO next (.slice sa (κ l) sc)) 73)) 87 (be hole);rw[aN]at b2;obtain⟨B2,UU⟩:=aw b2 ((ai w (.cells (aO next (.slice sa (κ l) sc)) 73)).trans U2);have RC:=an (x1 _ next aC _ l (hv.up UU) aL);rw[hb]at RC;obtain⟨HA,HO,bh,aQ,HC⟩:=eW A ho aU aE hc;clear aL hb aU aE hc;go_in;go_wp2_with(refine arm ?_);refine RC.mono ?_;rintro e w3(⟨ay,_⟩|⟨m,vt,aB,rfl,om,u3⟩)
 ·cases ay
 obtain rfl:b=m:=dE aB;obtain⟨OM,U3⟩:=aw om (UU.trans u3);obtain⟨ta,tc,rfl⟩:=om.cu.slice;have UUS:=an UU.size;clear aB;go_wp2;go_loopw [26] (λi wr=>∃k:Nat,k<=κ old/\i=i6 k/\PA wr H {P with s:=bO P.s P.ba (old.take k)}/\Touch (PF H) w3 wr/\aF wr (w.heap.size+1) 87 (be hole)) (λi _=>κ old-(Aau i).toNat)
 case atStart=>exact⟨0,bT _,rfl,(HA.up U3),Touch.refl _ _,(B2.up u3)⟩
 case round=>
  obtain⟨k,hk,rfl,ar,tr,br⟩:=hrel;obtain⟨AR,TR,BR⟩:=aV ar tr br;by_cases hlt:k<κ old
  ·have b3:((k:Int)<(κ old:Int))=True:=by simp;omega
   obtain⟨bb,off,rfl,hbs,_,hc⟩:=(aH.tN (aH.up HO U3) TR bh).range pw ae;obtain⟨RC,TK,UX,BX⟩:=bW (hc k hlt) (show bO P.s P.ba (old.take (k+1))=gX (bO P.s P.ba (old.take k)) P.ba old[k] from by rw[(λk hk=>et hk) k hlt,p7]) (ai wr (.cells (be old[k]) 87)) (aF.new wr 87 (be old[k]));obtain⟨DR,BB⟩:=aw (DX _ H {P with s:=bO P.s P.ba (old.take k)} (AR.up UX) old[k]) (BR.up UX);generalize old[k]=q at *;clear hc;go_wp2_with(first
    | refine cT 87 28 (be q) RC ?_
    | refine bB 87 fL ?_
    | refine eh 87 12 29 wr (be q) 87 (be hole) ?_
    | refine cY 87 12 BX ?_)
   refine DR.mono ?_;rintro e w5⟨⟨r,rfl⟩,a5,t5⟩;obtain⟨A5,T5,B5⟩:=aV (show PA w5 H {P with s:=bO P.s P.ba (old.take (k+1))} from by rw[TK.out];exact a5) ((TR.iZ UX).trans t5 (λn h _=>h)) (BB.ax t5 ((AR.up UX).cc BB av));go_wp2;go_roundw
   case rel=>exact⟨k+1,ae,aq,A5,T5,B5⟩
   case measure=>simp only[Aau];omega
  ·obtain rfl:k=κ old:=by omega
   have b3:((κ old:Int)<(κ old:Int))=False:=aq
   have ar:=AR.out;rw[fF]at ar;obtain⟨s1,aS⟩:=bE (bO P.s P.ba old);rw[<-aS]at ar HC;obtain⟨a6,aY⟩:=aw aS (show ∀i,s1 i≠0->P.s i≠0 from λi h=>Ds old (by rw[<-aS];exact h));clear aS;obtain⟨P1,a7⟩:∃x:bq,x={P with s:=s1}:=⟨_,rfl⟩;have e1:P1.C=P.C/\P1.m=P.m/\P1.st=P.st/\P1.s=s1/\P1.ba=P.ba:=by rw[a7];exact⟨rfl,rfl,rfl,rfl,rfl⟩
   rw[<-a7]at ar;obtain⟨E1,cf,bc⟩:=aV e1 a7 ar;have HB:=an ((Own.ax OM TR (λk hk hpf=>Uc)).cu)
   have LE:=an (kZ wr H.h P1.C P1.m P1.fl ar.dev);rw[e1.1]at LE;clear e1 a7;go_wp2_with fail;refine(lj wr H P1 ar).mono ?_;refine f' ?_;intro wx;go_wp2_with fail;refine zw ?_;intro wx;go_wp2_with fail;refine(DL wr (.slice ta (κ b) tc) b HB ae (κ P.C) ae).mono ?_;rintro e w6⟨rfl,u6⟩;obtain⟨A6,B6,PM⟩:=aV (bc.up u6) (BR.up u6) (λW (AW:PA W H P1)=>mo W H P1 AW);obtain⟨CN,MN⟩:=aw (kT w6 H.mb P1.s A6.map) (RP w6 H.mb P1.s A6.map (e8 (κ b) (κ P.C)) (by have:=@ua (κ b) (κ P.C);omega));rw[E1.out.2.2.2.1]at CN MN;obtain⟨al,a1⟩:=az (@ua (κ b) (κ P.C)) HC.out;have b5:((bN s1:Int)<(e8 (κ b) (κ P.C):Int))=False:=ab
   generalize ad:bN s1=cn at *;have bl:=an ad;clear ad;have bm:((0:Int) != 0)=false:=aq
   go_wp2_with fail;refine(PM _ A6).mono ?_;refine f' ?_;intro wx;go_wp2_with fail;refine CN.mono ?_;refine f' ?_;intro wx;go_wp2_with fail;refine(PM _ A6).mono ?_;refine f' ?_;intro wx;go_wp2_with fail;refine MN.mono ?_;rintro e w7(⟨ay,_⟩|⟨aI,ats,va,aT,hd,has,rfl,aP,bg,t7⟩)
   ·simp only[Hid]at *;omega
   have A7:=an (show PA w7 H {P with s:=fk s1 ats} from by have:=PA.G2 A6 bg t7;rw[cf.out]at this;exact this)
   have TT:Touch (PF H) w6 w7:=t7.mono (λn h=>.inr (.inl h));obtain⟨T7,B7⟩:=aw ((Touch.bP (F:=PF H) U3).trans ((TR.iZ u6).trans TT (λn h _=>h)) (λn h _=>h)) (B6.ax TT (A6.cc B6 av));have aX:=an (show ∀k,(Acr ta (κ b) tc).ownBlock=some k->¬PF H k from λk hk hpf=>Uc)
   have MW:=an (K' w7 H {P with s:=fk s1 ats} A7 (.slice ta (κ b) tc) b ((HB.up u6).ax TT aX) aX h1 h2 va ats (VY aP.cu) (Lu A7 aP) ht aT hd (λi hi=>by
    have h3:=has i hi;have h4:=aQ i h3.1 (aY i ae);exact⟨h4.1,h3.1,by show fk s1 ats i=2;unfold fk;rw[bI hi],h4.2⟩) aG hm (λi hi=>by
    unfold gW at hi;simp only[decide_eq_true_eq]at hi;refine aQ i hi.1 (aY i ?_);have h5:=hi.2;unfold fk at h5;split at h5
    ·rename_i aB;rw[(has i aB).2];omega
    ·omega))
   obtain⟨aa,ac,bd⟩:=aP.cu.slice;subst bd;have aK:=an (show κ ats=e8 (κ b) (κ P.C)/\ats.Nodup/\(∀i∈ats,i<1024/\bO P.s P.ba old i=1)from⟨aT,hd,by rw[<-a6.out];exact has⟩);clear aT has PM;go_wp2_with fail;refine MW.mono ?_;rintro e w8⟨q,v8,ps,P8,rfl,o8,d8,ma,bk,qw,qg⟩;have D8:=an (PT.then (vp:=H.h.vp) T7 (λb h=>.inl h) d8);obtain⟨bj,a8,t8,bf⟩:=d8;obtain⟨B8,IQ,aD⟩:=aV (B7.ax t8 (A7.cc B7 av)) (ia q) (show lv P8.C q b (W' {P with s:=fk s1 ats}) ps/\Mv {P with s:=fk s1 ats} P8 ats ps/\q.wf/\cA q=true from⟨ma,bk,qw,qg⟩);rw[a6.out]at aD;clear bf qg;obtain⟨bo,bs,rfl⟩:=(ak.row o8 pw).slice;go_wp2_with(first|refine arm ?_|refine oJ ?_);intro wz hbz ag;obtain⟨DZ,OZ⟩:=aw (D8.grow B8 av ag ae) ((ak.kept o8 ag (.inr (λe=>by have:=(o8.aJ _ e).1;have:=B7.lt;omega))).mono (base':=w.heap.size) T7.size);go_wp2;exact kF (v:=.tuple #[.agg (be q),(.slice bo (κ ps) bs),i6 0]) (sF rfl _ _ _ (w.heap.size+1) 87 _ _ _ rfl rfl rfl hbz _ underlying87 rfl IQ) rfl ⟨ats,aK.1,aK.2.1,aK.2.2,q,_,ps,P8,rfl,OZ,DZ,aD.1,aD.2.1,aD.2.2.1,aD.2.2.2⟩
def lnV:ah->Nat
 | .slice _ n _=>n
 | _=>0
def gZ(l:List ao)(id:Nat):Nat->List Nat->Nat->List Nat × Nat
 | 0,c,p=>(c,p)
 | n+1,c,p=>if p=0 then(c,p)else match aL l p with
  | none=>(c,p)
  | some i=>if(recAt l i).owner=id then gZ l id n (c++[p]) (recAt l i).prev else(c,p)
def dR(l:List ao)(id:Nat):List Nat × Nat:=match aL l id with
 | none=>([],0)
 | some i=>if(recAt l i).aT=true then([],0)else gZ l id 32 [] (recAt l i).prev
section
variable {l:List ao} {id n p i:Nat} {c:List Nat}
theorem pI(f:Nat):gZ l id f c 0=(c,0):=by cases f<;>simp[gZ]
theorem pH(h0:p≠0)(h:aL l p=none):gZ l id (n+1) c p=(c,p):=by grind [gZ]
theorem nI(h0:p≠0)(h:aL l p=some i)(ho:(recAt l i).owner≠id):gZ l id (n+1) c p=(c,p):=by grind [gZ]
theorem oy(h0:p≠0)(h:aL l p=some i)(ho:(recAt l i).owner=id):gZ l id (n+1) c p=gZ l id n (c++[p]) (recAt l i).prev:=by grind [gZ]
theorem w9(h:aL l id=none):dR l id=([],0):=by grind [dR]
theorem xf(h:aL l id=some i)(hs:(recAt l i).aT=true):dR l id=([],0):=by grind [dR]
theorem q7(h:aL l id=some i)(hs:(recAt l i).aT=false):dR l id=gZ l id 32 [] (recAt l i).prev:=by grind [dR]
end
theorem Pn(w:af)(v:ah)(l:List ao)(hv:cq w v l)(id:Nat):Aae Aag 85 #[v,.int .u64 (id:Int)] w λe w'=>∃u,e=rt #[u,.int .u64 ((dR l id).2:Int)]/\Own cr 70 w' w.heap.size u (dR l id).1/\Up w w':=by
 obtain⟨a,cap,rfl⟩:=hv.slice;have PL:=an (λW (u:Up w W) p=>jz W _ l (hv.up u) p);have P1:=an (PL w (Up.refl w) id);cases h1:aL l id with
 | none=>have HE:=an (w9 h1);rw[h1]at P1;unfold eJ at P1;clear h1;exact U3
 | some i=>
  have H1:=an h1;rw[h1]at P1;unfold eJ at P1;obtain⟨hi,_⟩:=cJ h1;obtain⟨b,off,rfl,_,da,dc,rg,_⟩:=cf hv hi;obtain⟨_,_,c2,_,c4,_⟩:=cd rg;refine nq ?_;intro b1 b2;clear h1;cases hs:(recAt l i).aT with
  | true=>have HE:=an (xf H1 hs);rw[hs]at c2;clear hs c4;exact U3
  | false=>
   have HE:=an (q7 H1 hs);rw[hs]at c2;obtain⟨p0,aa⟩:=bE ((recAt l i).prev);rw[<-aa]at c4 HE;obtain⟨res,ag⟩:=bE (dR l id);rw[<-ag]at HE ⊢;clear hs aa ag;go_in;go_wp2_with fail;refine rH ?_;intro w2;go_wp2;clear b1 b2 c2 c4;go_loopw [6,7,8] (λii ch pv wr=>∃(c:List Nat)(p f:Nat),κ c+f=32/\pv=.int .u64 (p:Int)/\Own cr 70 wr w.heap.size ch c/\gZ l id f c p=res/\Up w wr) (λ_ ch _ _=>32-lnV ch)
   case atStart=>exact⟨[],p0,32,rfl,rfl,Own.nil _ _ _ _,HE.symm,Up.refl _⟩
   case round=>
    obtain⟨c,p,f,av,rfl,oc,hw,ur⟩:=hrel;have HW:=an hw;obtain⟨ca,cc,rfl⟩:=oc.cu.slice;have al:=an av;have aQ:κ c<=32:=ae
    clear hw HE av;by_cases h0:p=0
    ·subst h0;have HR:=an (show res=(c,0)by rw[<-HW.out];exact pI f);go_wp2;go_ret2;exact⟨_,by rw[HR.out]<;>rfl,by rw[HR.out];exact oc,ur⟩
    ·have b3:((p:Int)==(0:Int))=false:=by simp;omega
     have aA:((p:Int) != (0:Int))=true:=ab
     cases f with
     | zero=>
      have HR:=an (show res=(c,p)by rw[<-HW.out];rfl);have au:κ c=32:=by have:=al.out;omega
      have b4:((κ c:Int)<32)=False:=ab
      clear au h0;go_wp2;go_ret2;exact⟨_,by rw[HR.out]<;>rfl,by rw[HR.out];exact oc,ur⟩
     | succ f=>
      have b4:((κ c:Int)<32)=True:=by have:=al.out;simp;omega
      have P2:=an (PL _ ur p);cases h2:aL l p with
      | none=>have HR:=an (show res=(c,p)by rw[<-HW.out];exact pH h0 h2);rw[h2]at P2;unfold eJ at P2;clear h2 h0;exact Vd
      | some j=>
       have H2:=an h2;rw[h2]at P2;unfold eJ at P2;obtain⟨hj,_⟩:=cJ h2;obtain⟨b',aC,aj,_,aJ,aK,rg,_⟩:=cf (hv.up ur) hj;simp only[Aai,Abq,and_true]at aj;obtain⟨rfl,rfl⟩:=aj;obtain⟨_,_,_,c3,c4,_⟩:=cd rg;have b5:((j:Int)<0)=False:=aq
       have b6:((j:Int)<(κ l:Int))=True:=ab
       clear h2;by_cases ho:(recAt l j).owner=id
       ·have HR:=an (show gZ l id f (c++[p]) (recAt l j).prev=res by rw[<-HW.out];exact(oy h0 H2 ho).symm);rw[ho]at c3;obtain⟨pn,ak⟩:=bE ((recAt l j).prev);rw[<-ak]at c4 HR;have ax:=an ak;have b7:((id:Int)==(id:Int))=true:=by simp
        have ay:((id:Int) != (id:Int))=false:=aq
        have UA:=an (ai wr (.cells #[.int .u64 (p:Int)] 70));have U2:=an (ur.trans UA);clear ho ak c4 h0;go_wp2_with fail;refine P2.mono ?_;refine o9 ?_;intro w2;go_wp2_with(first
         | (at_builtin;refine bu cr q2 rfl (.tmp 47) (.tmp 49) 156 rfl w.heap.size 70 (.int .u64 0) 8 underlying156 uz rfl _ c rfl (oc.up UA) (cD wr.heap.size 1 1) [p] rfl (aD.ew (f:=cr) wr wr.heap.size rfl #[.int .u64 (p:Int)] 70 (0,0) [p] 1 rfl dK rfl) ab ab U2.size ?_))
        intro v5 w5 ar aI az;have U5:=an (U2.aG az (aE _));obtain⟨b2,aF,ad,aO,aB,aH,aX,_⟩:=cf (hv.up U5) hj;simp only[Aai,Abq,and_true]at ad;obtain⟨rfl,rfl⟩:=ad;have d4:=(cd aX).2.2.2.2.1;obtain⟨aM,aN,aw⟩:=ar.cu.slice;rw[Aaf,List.length_singleton]at aw;subst aw;go_wp2;go_roundw
        case rel=>exact⟨c++[p],pn,f,by have:=al.out;simp;omega,by rw[ax.out],ar,HR,U5⟩
        case measure=>exact(by have:=al.out;show 32-(κ c+1)<32-κ c;omega)
       ·have HR:=an (show res=(c,p)by rw[<-HW.out];exact nI h0 H2 ho);have b7:((((recAt l j).owner:Nat):Int)==(id:Int))=false:=by simp;omega
        have ay:((((recAt l j).owner:Nat):Int) != (id:Int))=true:=ab
        clear ho h0 c4;exact Vd
theorem Di(w:af)(v:ah)(l:List ao)(hv:cq w v l)(id:Nat):Aae Aag 145 #[v,u6 (id:Int)] w λe w'=>∃u,e=.returned u/\Own cr 70 w' w.heap.size u (dR l id).1/\Up w w':=by have WY:=an (Pn w v l hv id);obtain⟨a,cap,rfl⟩:=hv.slice;generalize(dR l id).1=c at *;generalize(dR l id).2=p at *;go_in;go_wp2_with fail;refine WY.mono ?_;rintro e w2⟨u,rfl,ou,uu⟩;go_wp2;go_ret;exact⟨_,rfl,ou,uu⟩
theorem tB(w:af)(v:ah)(l:List ao)(hv:cq w v l)(id:Nat):Aae Aag 32 #[v,u6 (id:Int)] w λe w'=>e=.returned (u6 ((dR l id).2:Int))/\Up w w':=by have WY:=an (Pn w v l hv id);obtain⟨a,cap,rfl⟩:=hv.slice;generalize(dR l id).1=c at *;generalize(dR l id).2=p at *;go_in;go_wp2_with fail;refine WY.mono ?_;rintro e w2⟨u,rfl,ou,uu⟩;go_wp2;go_ret;simp;omega
section
open Go.Shelf
attribute [local go_sem] kI
section
variable {F:Fence} {n:Nat} {P:bp} {ops:Array Abn} {Q:Exit->Act->af->Prop} {md:Ab0} {o o2:Abn} {a:Act} {w:af}
theorem iB(ty:Aab)(x:bU)(ho:o.op=.load ty x)(ad:Adr)(hx:a.eval x=.pointer (some ad)){v:ah}(hc:w.cell? ad=some v)(hagg:∀w:af,(isAgg ty).run P w=.ok false w):(Abt a.eval o).run P w=.ok (.value v) w:=by
 have hl:(load ad).run P w=.ok v w:=by simp[hc]
 unfold Abt;simp only[ho,hx,Instr.loadAt,Adg,loadVar,Aay,Ac7,Aax,hagg,Ab3,if_false,hl]
theorem q9{i:Nat}{v:ah}{K:Act->af->Prop}(ab:F.round=none)(hi:ops[i]?=some o)(hw:Aaa o (Aa1 ops a.tmps)=true)(hv:(Abt a.eval o).run P w=.ok (.value v) w)(ar:o.about P w a.eval=none)(h:K (a.put o.dst v) w):wpOpIn F n P ops Q i K a w:=by unfold wpOpIn;simp only[hi,hw,if_true,Oper.wpIn,ab,Oper.semAt_none,hv,Oper.uponIn];simp_all
theorem JB{fuel:Nat}{aZ:Array Bool}(i:Nat)(v:ah)(hr:Abi md ops aZ=[i])(ab:F.round=none)(hi:ops[i]?=some o)(hw:Aaa o (Aa1 ops a.tmps)=true)(hv:(Abt a.eval o).run P w=.ok (.value v) w)(ar:o.about P w a.eval=none)(h:Acy F n P md ops Q fuel (aZ.setIfInBounds i true) (a.put o.dst v) w):Acy F n P md ops Q (fuel+1) aZ a w:=wpAnyIn_all hr aq (λj hj=>by simp at hj;subst hj;exact q9 ab hi hw hv ar h)
theorem JC{fuel:Nat}{aZ:Array Bool}(i:Nat)(v:ah)(j:Nat)(v2:ah)(hr:Abi md ops aZ=[i,j])(ab:F.round=none)(hi:ops[i]?=some o)(hw:Aaa o (Aa1 ops a.tmps)=true)(hv:(Abt a.eval o).run P w=.ok (.value v) w)(ar:o.about P w a.eval=none)(hj:ops[j]?=some o2)(hw2:Aaa o2 (Aa1 ops a.tmps)=true)(ax:(Abt a.eval o2).run P w=.ok (.value v2) w)(av:o2.about P w a.eval=none)(h:Acy F n P md ops Q fuel (aZ.setIfInBounds i true) (a.put o.dst v) w)(h2:Acy F n P md ops Q fuel (aZ.setIfInBounds j true) (a.put o2.dst v2) w):Acy F n P md ops Q (fuel+1) aZ a w:=wpAnyIn_all hr aq (λk hk=>by
  simp at hk;rcases hk with rfl|rfl
  ·exact q9 ab hi hw hv ar h
  ·exact q9 ab hj hw2 ax av h2)
theorem vY{fuel:Nat}{aZ:Array Bool}(i:Nat)(hr:Abi md ops aZ=[i])(hi:ops[i]?=some o)(hw:Aaa o (Aa1 ops a.tmps)=true)(h:∀K:Act->af->Prop,(∀a w,Acy F n P md ops Q fuel (aZ.setIfInBounds i true) a w->K a w)->o.wpIn F n P a w K Q):Acy F n P md ops Q (fuel+1) aZ a w:=wpAnyIn_all hr aq (λk hk=>by
  simp at hk;subst hk;exact wpOpIn_step hi (λK hK=>aQ))
end
section
variable {F:Fence} {n:Nat} {P:bp} {ops:Array Abn} {md:Ab0} {Q:Exit->Act->af->Prop} {fuel:Nat} {aZ:Array Bool} {a:Act} {w:af} {o o2:Abn} {ty:Aab} {x:bU} {ad:Adr} {v:ah}
theorem zQ(i:Nat)(v:ah)(ab:F.round=none)(hi:ops[i]?=some o)(h:wpAnyIn F n P md ops Q fuel (aZ.setIfInBounds i true) (a.put o.dst v) w)(hy:YieldsFenced P ops o v a:=by exact⟨.inl ⟨rfl,λ_=>by go_simp⟩,λ_=>rfl⟩)(hs:Region.noSelect ops=true:=by kernel_rfl)(hf:Region.free md ops aZ i=true:=by kernel_rfl)(hr:(Region.ready md ops aZ).contains i=true:=by kernel_rfl)(hQ:∀c a w,Q (.panic c) (a.put o.dst v) w->Q (.panic c) a w:=by exact λ_ _ _ h=>h):wpAnyIn F n P md ops Q (fuel+1) aZ a w:=uR ab hi hs hf hr hQ hy h
theorem QO(hc:w.cell? ad=some v)(ho:o.op=.load ty x:=by rfl)(hx:a.eval x=.pointer (some ad):=by rfl)(hagg:∀w:af,(isAgg ty).run P w=.ok false w:=by intro _;kernel_rfl):(execOp a.eval o).run P w=.ok (.value v) w:=by grind [iB]
theorem Z5(i:Nat)(v:ah)(ab:F.round=none)(hi:ops[i]?=some o)(hv:(execOp a.eval o).run P w=.ok (.value v) w)(h:wpAnyIn F n P md ops Q fuel (aZ.setIfInBounds i true) (a.put o.dst v) w)(hr:Region.ready md ops aZ=[i]:=by kernel_rfl)(hw:Region.wanted o (yielded ops a.tmps)=true:=by rfl)(ar:o.about P w a.eval=none:=by rfl):wpAnyIn F n P md ops Q (fuel+1) aZ a w:=JB i v hr ab hi hw hv ar h
theorem in2(i:Nat)(v:ah)(j:Nat)(v2:ah)(ab:F.round=none)(hi:ops[i]?=some o)(hj:ops[j]?=some o2)(hv:(execOp a.eval o).run P w=.ok (.value v) w)(ax:(execOp a.eval o2).run P w=.ok (.value v2) w)(h:wpAnyIn F n P md ops Q fuel (aZ.setIfInBounds i true) (a.put o.dst v) w)(h2:wpAnyIn F n P md ops Q fuel (aZ.setIfInBounds j true) (a.put o2.dst v2) w)(hr:Region.ready md ops aZ=[i,j]:=by kernel_rfl)(hw:Region.wanted o (yielded ops a.tmps)=true:=by rfl)(hw2:Region.wanted o2 (yielded ops a.tmps)=true:=by rfl)(ar:o.about P w a.eval=none:=by rfl)(av:o2.about P w a.eval=none:=by rfl):wpAnyIn F n P md ops Q (fuel+1) aZ a w:=JC i v j v2 hr ab hi hw hv ar hj hw2 ax av h h2
end
theorem qk(w:af)(a:Option Adr)(n cap id:Nat):Aae Aag 244 #[.slice a n cap,u6 (id:Int)] w λe w'=> e=.returned (.func (.func 274) #[] #[pz w.heap.size,pz (w.heap.size+1)])/\w'=(w.alloc (.cells #[.slice a n cap] 71)).alloc (.cells #[u6 (id:Int)] 70):=by go_in;exact e3
def jg(l:List ao)(id k:Nat):List Nat:=(Aak k).filter (λi=>decide ((recAt l i).prev=id))
def fY(l:List ao)(id:Nat):List Nat:=jg l id (κ l)
theorem AP(h:(recAt l k).prev=id):jg l id (k+1)=jg l id k++[k]:=by unfold jg;rw[Ab5,kD,List.filter_cons_of_pos ab,List.filter_nil]
theorem DD(h:(recAt l k).prev≠id):jg l id (k+1)=jg l id k:=by unfold jg;rw[Ab5,kD,List.filter_cons_of_neg ab,List.filter_nil,Ab1]
theorem su{l:List ao}{id k:Nat}:∀j,jg l id k <+:jg l id (k+j)
 | 0=>List.prefix_refl _
 | j+1=>(su j).trans (by
  by_cases h:(recAt l (k+j)).prev=id
  ·rw[<-yU,AP h];exact List.prefix_append _ _
  ·rw[<-yU,DD h];exact List.prefix_refl _)
theorem Qw(h:k<=κ l):jg l id k <+:fY l id:=by have:=su (l:=l) (id:=id) (k:=k) (κ l-k);rwa [show k+(κ l-k)=κ l from ae]at this
def qi(n₀ B1 B2:Nat)(b:Nat)(_:Aab):Prop:=b<n₀\/b=B1\/b=B2
theorem TK(n:Nat)(hn:1<=n)(lp B1 B2 n₀:Nat)(v:ah)(l:List ao)(id:Nat)(J Jx:List Nat->af->Prop)(W:af)(hJ:AbidesFrom W.heap.size J)(hY:∀(pre:List Nat)(x:Nat)(W1:af),J pre W1->pre++[x] <+:fY l id->YieldAt Abv (n-1) Aag lp #[i6 (x:Int)] W1 λe W'=>
  (e=.returned (.bool true)/\J (pre++[x]) W'/\c' (qi n₀ B1 B2) W1 W')\/(e=.returned (.bool false)/\Jx (pre++[x]) W'))
 (au:W.cell? (ad B1 0)=some v) (ai:W.cell? (ad B2 0)=some (u6 (id:Int))) (hv:cq W v l) (h0:J [] W) (ay:∀a m c,v=.slice (some a) m c->a.block<n₀):
 CallsIn Abv n Aag 274 #[.func (.yield lp) #[] #[],pz B1,pz B2] W λe W'=>(∃v,e=.returned v)/\
  ((∃ys,ys=fY l id/\J ys W')\/(∃pre,pre <+:fY l id/\Jx pre W')):=by
 have hlen:=hv.length_le;obtain⟨a,cap,rfl⟩:=hv.slice;obtain⟨HV,aP,aB,aF,HY,HAL⟩:=ix hv au ai ay hY (show ∀s A B,J s A->Up A B->J s B from λs A B hs hu=>hJ s A B none hs (oa hu) (λr e=>by cases e));clear ay hY;refine uM func274 rfl trivial ?_ rfl;simp only[ntmps274,Abh,Aaj,Aa4,Nat.reduceAdd,Nat.reduceSub,Aa6,Aa7,Abj,Aba,Aaz,Aa2];gi_wp2;clear au ai;gi_loopw [7] (λi wr=>∃k:Nat,k<=κ l/\i=i6 k/\J (jg l id k) wr/\c' (qi n₀ B1 B2) W wr) (λi _=>κ l-(Aau i).toNat)
 case atStart=>exact⟨0,bT _,rfl,h0,c'.refl _⟩
 case round=>
  obtain⟨k,hk,rfl,aj,aa⟩:=hrel;obtain⟨x1,x2⟩:=az (aa.cell (a:=⟨B1,0,none⟩) (λt=>.inr (.inl rfl)) aP) (aa.cell (a:=⟨B2,0,none⟩) (λt=>.inr (.inr rfl)) aB);by_cases hlt:k<κ l
  ·obtain⟨b,off,rfl,hbs,da,dc,rg,_⟩:=cf HV hlt;have aD:b<n₀:=aF _ _ _ rfl;have x4:=aa.cell (a:=⟨b,off+k*11+4,none⟩) (λt=>.inl aD) (cd rg).2.2.2.2.1;refine iD ?_;intro b2;obtain⟨aE,ae⟩:=aw aj aa;by_cases hp:(recAt l k).prev=id
   ·have HP:=an (AP hp);have aT:=an (show jg l id k++[k] <+:fY l id by rw[<-HP.out];exact Qw hlt);rw[hp]at x4;clear hp;have b3:((id:Int)==(id:Int))=true:=by simp
    gi_wp2;refine y7 al ?_;change Acy _ _ _ _ _ _ 13 _ _ (wr.drew);have UD:=Up.drew (Up.refl wr);replace x1:=UD.cell x1;replace x2:=UD.cell x2;replace x4:=UD.cell x4;obtain⟨fn,tmps,assign,body,hy,hR⟩:=HY _ k wr.drew (HAL _ _ _ aE UD) aT;obtain⟨HR,KD⟩:=aw hR (ae.trans (kz UD));generalize wr.drew=w5 at *;have FIN:=trivial;refine zQ 1 (i6 (k:Int)) rfl rfl ?_;refine bA ?_;refine in2 0 (sq b off (κ l) cap) 5 (u6 (id:Int)) rfl rfl rfl (QO x1) (QO x2) ?_ ?_
    ·refine Nd ?_;refine in2 4 (u6 (id:Int)) 5 (u6 (id:Int)) rfl rfl rfl (QO x4) (QO x2) ?_ ?_
     ·refine bA ?_;refine Z5 5 (u6 (id:Int)) rfl rfl (QO x2) ?_;refine bA ?_;refine zQ 6 (.bool true) rfl rfl ?_;refine bA ?_;refine zQ 7 (.bool true) rfl rfl ?_;refine bA ?_;refine zQ 8 (.func (.yield lp) #[] #[]) rfl rfl ?_;refine bA ?_;refine zQ 9 (i6 (k:Int)) rfl rfl ?_;refine bA ?_;refine vY 10 al rfl rfl ?_;intro K hK;go_simp;refine HR.mono ?_;rintro e W3(⟨rfl,aC,aA⟩|⟨rfl,ak⟩)
      ·exact UU
      ·exact UP
     ·exact UB
    ·refine Vw ?_;exact UB
   ·have HP:=an (DD hp);have b3:((((recAt l k).prev:Nat):Int)==(id:Int))=false:=by simp;omega
    obtain⟨pv,ag⟩:=bE ((recAt l k).prev);rw[<-ag]at x4 b3;clear hp ag;gi_wp2;refine y7 al ?_;change Acy _ _ _ _ _ _ 13 _ _ (wr.drew);have UD:=Up.drew (Up.refl wr);replace x1:=UD.cell x1;replace x2:=UD.cell x2;replace x4:=UD.cell x4;obtain⟨JD,KD⟩:=aw (HAL _ _ _ aE UD) (ae.trans (kz UD));generalize wr.drew=w5 at *;have FIN:=trivial;refine zQ 1 (i6 (k:Int)) rfl rfl ?_;refine bA ?_;refine in2 0 (sq b off (κ l) cap) 5 (u6 (id:Int)) rfl rfl rfl (QO x1) (QO x2) ?_ ?_
    ·refine Nd ?_;refine in2 4 (u6 (pv:Int)) 5 (u6 (id:Int)) rfl rfl rfl (QO x4) (QO x2) ?_ ?_
     ·refine bA ?_;refine Z5 5 (u6 (id:Int)) rfl rfl (QO x2) ?_;refine bA ?_;refine zQ 6 (.bool false) rfl rfl ?_;refine bA ?_;refine zQ 7 (.bool false) rfl rfl ?_;refine bA ?_;refine uR (i:=8) (v:=Aas) rfl rfl al al al (λ_ _ _ h=>h) (⟨.inr ⟨rfl,rfl⟩,λ_=>rfl⟩) ?_;refine bA ?_;refine uR (i:=9) (v:=Aas) rfl rfl al al al (λ_ _ _ h=>h) (⟨.inr ⟨rfl,rfl⟩,λ_=>rfl⟩) ?_;refine bA ?_;refine uR (i:=10) (v:=Aas) rfl rfl al al al (λ_ _ _ h=>h) (⟨.inr ⟨rfl,rfl⟩,λ_=>rfl⟩) ?_;refine bA ?_;refine uR (i:=11) (v:=Aas) rfl rfl al al al (λ_ _ _ h=>h) (⟨.inr ⟨rfl,rfl⟩,λ_=>rfl⟩) ?_;refine bA ?_;refine zQ 12 (.bool false) rfl rfl ?_;refine bA ?_;refine wpAnyIn_done al ?_ _;gi_wp2;exact⟨⟨k+1,hlt,aq,by rw[HP.out];exact JD,KD⟩,by simp only[Aau];omega⟩
     ·exact Uy
    ·refine Vw ?_;exact Uy
  ·obtain rfl:k=κ l:=by omega
   refine vl ?_;intro b2;gi_wp2;go_end0;exact⟨⟨_,rfl⟩,.inl ⟨_,rfl,aj⟩⟩
end
section
open Go.Shelf
attribute [local go_sem] kI
def iX(l:List ao)(id:Nat):Nat:=match aL l id with
 | none=>0
 | some i=>if(recAt l i).aT=true then(match(fY l id).find? (λj=>decide ((recAt l j).owner=(recAt l i).owner))with
  | none=>0
  | some j=>(recAt l j).id)else 0
section
variable {l:List ao} {id i j:Nat}
theorem Yk(h:aL l id=none):iX l id=0:=by grind [iX]
theorem Yl(h:aL l id=some i)(hs:(recAt l i).aT=false):iX l id=0:=by grind [iX]
theorem Ym(h:aL l id=some i)(hs:(recAt l i).aT=true)(hf:(fY l id).find? (λj=>decide ((recAt l j).owner=(recAt l i).owner))=none):iX l id=0:=by grind [iX]
theorem OZ(h:aL l id=some i)(hs:(recAt l i).aT=true)(hf:(fY l id).find? (λj=>decide ((recAt l j).owner=(recAt l i).owner))=some j):iX l id=(recAt l j).id:=by grind [iX]
end
abbrev Pos(l:List ao):={x:Nat // x<κ l}
def TL{id x:Nat}(h:x∈fY l id):x<κ l:=y5.1 (wG.1 h).1
theorem qj(n:Nat)(hn:1<=n)(B1 B2 n₀:Nat)(v:ah)(l:List ao)(id:Nat)(w:af)(hb1:B1<w.heap.size)(hb2:B2<w.heap.size)(hc:w.cell? (ad B1 0)=some v)(al:w.cell? (ad B2 0)=some (u6 (id:Int)))(hv:cq w v l)(ay:∀a m c,v=.slice (some a) m c->a.block<n₀):SeqStopsK Abv n Aag 274 #[pz B1,pz B2] (λx:Pos l=>#[i6 (x.1:Int)]) (c' (qi n₀ B1 B2)) (λys=>ys.map (·.1)=fY l id) (λpre=>pre.map (·.1) <+:fY l id) (κ (fY l id)) w:=λl' J Jx W hW hJ _ hY h0=>by
 refine(TK n hn l' B1 B2 n₀ v l id (λpre W=>∃ps:List (Pos l),ps.map (·.1)=pre/\J ps W) (λpre W=>∃ps:List (Pos l),ps.map (·.1)=pre/\Jx ps W) W (λs A B row hs hg hr=>FT) ?_ ((hW.cell (p:=⟨B1,0,none⟩) hb1).trans hc) ((hW.cell (p:=⟨B2,0,none⟩) hb2).trans al) (hv.up hW) ⟨[],rfl,h0⟩ ay).mono ?_
 ·rintro pre x W1⟨ps,rfl,h⟩hp;refine(hY ps ⟨x,(TL (hp.subset aq))⟩ W1 h aQ).mono ?_;exact N3
 ·exact zz
theorem Qj{p:Nat->Bool}(h:∀y∈xs,p y=false):xs.find? p=none:=ab
theorem Qk{xs pre:List Nat}{p:Nat->Bool}{x:Nat}(h:∀y∈pre,p y=false)(hx:p x=true)(hp:pre++[x] <+:xs):xs.find? p=some x:=aQ
theorem VM(w:af)(v:ah)(l:List ao)(hv:cq w v l)(id:Nat):Aae Aag 206 #[v,u6 (id:Int)] w λe w'=>e=.returned (u6 (iX l id:Int))/\Up w w':=by
 obtain⟨a,cap,rfl⟩:=hv.slice;obtain⟨HV,U1,U2⟩:=aV hv (ai w (.cells #[.slice a (κ l) cap] 71)) (ai (w.alloc (.cells #[.slice a (κ l) cap] 71)) (.cells #[u6 0] 70));have PL:=an (jz ((w.alloc (.cells #[.slice a (κ l) cap] 71)).alloc (.cells #[u6 0] 70)) _ l ((hv.up U1).up U2) id);cases h1:aL l id with
 | none=>have HE:=an (Yk h1);rw[h1]at PL;unfold eJ at PL;clear h1;refine rJ ?_;intro h1;refine oZ func206 rfl trivial ?_ rfl;simp only[ntmps206,Abh,Aaj,Aa4,Nat.reduceAdd,Nat.reduceSub,Aa6,Aa7,Abj,Aba,Aaz,Aa2];gi_wp2_with(refine⟨trivial,?_⟩;gi_at_call 83;refine(fG.2 (PL)).mono ?_;rintro e w2 ⟨rfl,hw2⟩;rw[hw2];clear hw2);refine⟨u6 0,?_,lC,(U1.trans U2).trans (ai _ _)⟩;have hc:=bF (.cells #[i6 (-1)] 3) (dp (w.alloc (.cells #[.slice a (κ l) cap] 71)) (u6 0) 70).1;simp only[Aa3]at hc;simp[results,Tryz.f206,go_sem,hc]
 | some i=>
  have H1:=an h1;rw[h1]at PL;unfold eJ at PL;obtain⟨hi,_⟩:=cJ h1;obtain⟨b,off,rfl,hbs,da,dc,rg,_⟩:=cf HV hi;refine nq ?_;intro b1 b2;obtain⟨RG,UU⟩:=aw rg ((U1.trans U2).trans (ai ((w.alloc (.cells #[sq b off (κ l) cap] 71)).alloc (.cells #[u6 0] 70)) (.cells #[i6 (i:Int)] 3)));obtain⟨c2,c3⟩:=az (UU.cell (cd rg).2.2.1) (UU.cell (cd rg).2.2.2.1);clear h1;cases hs:(recAt l i).aT with
  | false=>have HE:=an (Yl H1 hs);rw[hs]at c2;refine Nf ?_;clear hs;intro h1;gi_wp2_with(refine⟨trivial,?_⟩;gi_at_call 83;refine(fG.2 (PL)).mono ?_;rintro e w2 ⟨rfl,hw2⟩;rw[hw2];clear hw2);refine⟨u6 0,?_,lC,UU⟩;have hc:=bF (.cells #[i6 (i:Int)] 3) (dp (w.alloc (.cells #[sq b off (κ l) cap] 71)) (u6 0) 70).1;simp only[Aa3]at hc;simp[results,Tryz.f206,go_sem,hc]
  | true=>
   rw[hs]at c2;have HS:=an hs;refine Nf ?_;clear hs;intro h1;gi_wp2_with(first
    | (refine⟨trivial,?_⟩;gi_at_call 83;refine(fG.2 (PL)).mono ?_;rintro e w2 ⟨rfl,hw2⟩;rw[hw2];clear hw2)
    | (refine⟨trivial,?_⟩;gi_at_call 244;refine(fG.2 (qk _ _ _ _ _)).mono ?_;rintro e w' ⟨rfl,rfl⟩))
   obtain⟨c1,d0,d2,d3,d4⟩:=yj (dp (w.alloc (.cells #[sq b off (κ l) cap] 71)) (u6 0) 70) (dp w (sq b off (κ l) cap) 71) (dp ((w.alloc (.cells #[sq b off (κ l) cap] 71)).alloc (.cells #[u6 0] 70)) (i6 (i:Int)) 3) (dp (((w.alloc (.cells #[sq b off (κ l) cap] 71)).alloc (.cells #[u6 0] 70)).alloc (.cells #[i6 (i:Int)] 3)) (sq b off (κ l) cap) 71) (dp ((((w.alloc (.cells #[sq b off (κ l) cap] 71)).alloc (.cells #[u6 0] 70)).alloc (.cells #[i6 (i:Int)] 3)).alloc (.cells #[sq b off (κ l) cap] 71)) (u6 (id:Int)) 70);simp only[Aa3]at c1 d2 d3 d4;have ay:Below w.heap.size w (((((w.alloc (.cells #[sq b off (κ l) cap] 71)).alloc (.cells #[u6 0] 70)).alloc (.cells #[i6 (i:Int)] 3)).alloc (.cells #[sq b off (κ l) cap] 71)).alloc (.cells #[u6 (id:Int)] 70)):=(((((e6 _ w).alloc (aE _) _).alloc aq _).alloc ab _).alloc ab _).alloc ab _;obtain⟨ow,how⟩:=bE ((recAt l i).owner);refine NA ?_;intro ak HBS CO CX;clear how c2 c3;refine wL (F:=Abv) rfl h1 (gf:=274) (lb:=#[pz (w.heap.size+1+1+1),pz (w.heap.size+1+1+1+1)]) rfl trivial (enters_of func274 al rfl) (qj 5 ae (w.heap.size+1+1+1) (w.heap.size+1+1+1+1) w.heap.size _ l id _ aq aq (bF _ d3.1) d4.1 (HV.up ay) (λa' m c h=>by cases h;exact HBS)) c'.trans jM (e6 _ _) (λ_=>rfl) (λpre W=>((∀y∈pre,(recAt l y.1).owner≠ow)/\W.cell? (ad w.heap.size 0)=some (sq b off (κ l) cap)/\W.cell? (ad (w.heap.size+1) 0)=some (u6 0)/\W.frozen? ⟨w.heap.size+1,0,none⟩=false/\W.cell? (ad (w.heap.size+1+1) 0)=some (i6 (i:Int)))/\Below w.heap.size w W) (λc pre W=>(c=.ret/\(∃(pr:List (Pos l))(x:Pos l),pre=pr++[x]/\(∀y∈pr,(recAt l y.1).owner≠ow)/\(recAt l x.1).owner=ow/\W.cell? (ad (w.heap.size+1) 0)=some (u6 ((recAt l x.1).id:Int))))/\Below w.heap.size w W) (nP (Own.from (λs A B row hs hg hr=>⟨hs.1,lz hs.2.1 hg hr,lz hs.2.2.1 hg hr,(frozen_kept hs.2.2.1 hg hr).trans hs.2.2.2.1,lz hs.2.2.2.2 hg hr⟩) _) (o0 (aE _) ab)) (λc=>nP (Own.from (λs A B row hs hg hr=>⟨hs.1,Ub⟩) _) (o0 (aE _) ab)) ⟨⟨aq,bF _ (bF _ (bF _ (bF _ d0.1))),bF _ (bF _ (bF _ c1.1)),(jG _ (bF _ (bF _ c1.1)) (jG _ (bF _ c1.1) (jG _ c1.1 c1.2))),bF _ (bF _ d2.1)⟩,ay⟩ (λx=>{tmps:=#[sq b off (κ l) cap,u6 (id:Int),pz w.heap.size,Aas,pz (w.heap.size+1),pz (w.heap.size+1+1),i6 (x.1:Int),sq b off (κ l) cap,u6 (id:Int),i6 (i:Int),i6 (i:Int),.bool false,.bool false,sq b off (κ l) cap,i6 (i:Int),pq b (off+i*11),pq b (off+i*11+2),.bool true,.bool false,.bool false,sq b off (κ l) cap,u6 (id:Int),.func (.func 274) #[] #[pz (w.heap.size+1+1+1),pz (w.heap.size+1+1+1+1)],i6 (x.1:Int),Aas,Aas,Aas,Aas,Aas,Aas,Aas,Aas,Aas,Aas,Aas,Aas,Aas,Aas,Aas,Aas],defers:=[]}) ?assign ?body ?done ?stop
   case assign=>exact lP
   case body=>
    rintro l' pre⟨x,hx⟩W⟨⟨hp,e0,e1,f1,e2⟩,hB⟩_;simp only;have HP:=an hp;refine Ve ?_;intro HB x3 x0 x4 b3;clear hp;gi_wp2;refine gT (S:=λW'=>W'.cell? (ad w.heap.size 0)=some (sq b off (κ l) cap)/\W'.cell? (ad (w.heap.size+1+1) 0)=some (i6 (i:Int))/\W'.cell? (ad b (off+x*11+3))=some (u6 ((recAt l x).owner:Int))/\W'.cell? (ad b (off+i*11+3))=some (u6 (ow:Int))) al al (λ⟨_,_,h⟩=>h) ?_;change Acp _ _ _ _ _ 11 _ _ (W.drew);have UD:=Up.drew (Up.refl W);have F5:=an (show W.drew.cell? (ad w.heap.size 0)=some (sq b off (κ l) cap)/\W.drew.cell? (ad (w.heap.size+1+1) 0)=some (i6 (i:Int))/\W.drew.cell? (ad b (off+x*11+3))=some (u6 ((recAt l x).owner:Int))/\W.drew.cell? (ad b (off+i*11+3))=some (u6 (ow:Int))from⟨UD.cell e0,UD.cell e2,UD.cell x3,UD.cell x4⟩);have g1:=UD.cell e1;have gf:W.drew.frozen? ⟨w.heap.size+1,0,none⟩=false:=f1;have y0:=UD.cell x0;obtain⟨KO,BD⟩:=aw (y9 W) (show Below w.heap.size w W.drew from HB.trans (Below.drew (e6 _ _)));have au:=F5.1;clear e1 f1 x0 e0 e2 x3 x4;generalize W.drew=w5 at *;refine tb 0 rfl (yc (λW hS=>hS.1)) ?_;refine ta 1 ?_;refine ns ?_;refine tb 4 rfl (yc (λW hS=>hS.2.2.1)) ?_;refine tb 5 rfl (yc (λW hS=>hS.1)) ?_;refine tb 6 rfl (yc (λW hS=>hS.2.1)) ?_;refine ta 7 ?_;refine ta 8 ?_;refine tb 9 rfl (yc (λW hS=>hS.2.2.2)) ?_;by_cases ag:(recAt l x).owner=ow
    ·have b9:((((recAt l x).owner:Nat):Int)==(ow:Int))=true:=by simp[ag]
     refine zA ?_;have HX:=an ag;clear ag b9;gi_wp2;exact⟨KO.trans (qz _ _ _),⟨rfl,pre,⟨x,hx⟩,rfl,HP,HX,y2 _ _ _ (by rw[g1];rfl)⟩,BD.setCell (p:=⟨w.heap.size+1,0,none⟩) aq _⟩
    ·have b9:((((recAt l x).owner:Nat):Int)==(ow:Int))=false:=by simp;omega
     refine zA ?_;have HX:=an ag;clear ag b9;gi_wp2;exact⟨KO,(kz (p:=qi w.heap.size (w.heap.size+1+1+1) (w.heap.size+1+1+1+1)) UD),⟨λy hy=>(Aa8.1 hy).elim (HP y) (λe=>by simp at e;subst e;exact HX),F5.1,g1,gf,F5.2.1⟩,BD⟩
   case done=>
    rintro D ys W hD aG⟨⟨hne,_,hcr,aR,_⟩,hB⟩hK;have HE:=an (Ym H1 HS (Qj (λy hy=>by rw[<-aG]at hy;obtain⟨z,hz,rfl⟩:=Abd.1 hy;have:=hne z hz;rw[ak.out]at this;simp[this])))
    clear hne aG;gi_wp2;have hK':=(qz W ⟨w.heap.size+1,0,none⟩ (u6 0)).same D _ hK rfl;refine⟨aq,.inl ⟨_,_,rfl,Fo hK',?_⟩⟩;have aa:=lz (y2 W ⟨w.heap.size+1,0,none⟩ (u6 0) (by rw[hcr];rfl)) (y3 _ D (.deferred none)) (λr e=>by cases e;exact⟨_,hK',rfl⟩);refine⟨u6 0,?_,lC,(hB.setCell (p:=⟨w.heap.size+1,0,none⟩) aq _).trans (o1 (w:=w) (aE _) _ D _ _ qB hK' rfl rfl)⟩;simp[results,Tryz.f206,go_sem,aa]
   case stop=>
    rintro D c pre W hD aj⟨⟨rfl,pr,x,rfl,av,hx,hcr⟩,hB⟩hK;have HE:=an (OZ H1 HS (Qk (pre:=pr.map (·.1)) (x:=x.1) (λy hy=>by obtain⟨z,hz,rfl⟩:=Abd.1 hy;have:=av z hz;rw[ak.out]at this;simp[this]) (by rw[<-ak.out];simp[hx]) (by rw[Aar]at aj;exact aj)))
    clear av;gi_wp2;refine Oq ?_;intro aa;refine⟨u6 ((recAt l x.1).id:Int),?_,by rw[HE.out],hB.trans (o1 (w:=w) (aE _) W D _ _ qB hK rfl rfl)⟩;simp[results,Tryz.f206,go_sem,aa]
end
section
open Go.Shelf
attribute [local go_sem] kI
section
variable {P:bp} {ops:Array Abn} {Q:Exit->Act->af->Prop} {md:Ab0} {o o2:Abn} {a:Act} {w:af}
theorem Ho{K:Act->af->Prop}{v:ah}{w':af}(hv:(Abt a.eval o).run P w=.ok (.value v) w')(h:K (a.put o.dst v) w'):o.wp P a w K Q:=by unfold Aca;rw[hv];exact h
theorem qV(t:Aab)(x:bU)(ho:o.op=.buildSlice t 1 #[(0,x)])(X:ah)(hx:a.eval x=X){v:ah}{w':af}(hr:(Acz t 1 #[(0,X)]).run P w=.ok v w'):(Abt a.eval o).run P w=.ok (.value v) w':=by unfold Abt;simp_all
def vZ{fuel:Nat}{aZ:Array Bool}(i:Nat)(v:ah)(w':af)(hr:Abi md ops aZ=[i])(hi:ops[i]?=some o)(hw:Aaa o (Aa1 ops a.tmps)=true)(hv:(Abt a.eval o).run P w=.ok (.value v) w')(h:wpAny P md ops Q fuel (aZ.setIfInBounds i true) (a.put o.dst v) w'):wpAny P md ops Q (fuel+1) aZ a w:=iG i o hr hi hw (Ho hv h)
theorem Hn{fuel:Nat}{aZ:Array Bool}(i:Nat)(v:ah)(w1:af)(j:Nat)(v2:ah)(w2:af)(hr:Abi md ops aZ=[i,j])(hi:ops[i]?=some o)(hw:Aaa o (Aa1 ops a.tmps)=true)(hv:(Abt a.eval o).run P w=.ok (.value v) w1)(hj:ops[j]?=some o2)(hw2:Aaa o2 (Aa1 ops a.tmps)=true)(ax:(Abt a.eval o2).run P w=.ok (.value v2) w2)(h:wpAny P md ops Q fuel (aZ.setIfInBounds i true) (a.put o.dst v) w1)(h2:wpAny P md ops Q fuel (aZ.setIfInBounds j true) (a.put o2.dst v2) w2):wpAny P md ops Q (fuel+1) aZ a w:=uK hr aq (λk hk=>by
  simp at hk;rcases hk with rfl|rfl
  ·exact oA hi hw (Ho hv h)
  ·exact oA hj hw2 (Ho ax h2))
end
theorem Ml{Q:Exit->Act->af->Prop}{md:Ab0}{os:List Abn}{fuel:Nat}{aZ:Array Bool}(n:Nat)(hl:κ os=n+fuel)(hB:Region.seqB md os.toArray fuel n aZ=true)(h:Aal P os.toArray Q (os.drop n) a w):wpAny P md os.toArray Q fuel aZ a w:=by
 have hd:κ (os.drop n)=fuel:=ab
 have:=wpAny_of_seq (md:=md) (Q':=Q) (os.drop n) n aZ a w (λj=>aq) aQ h;grind
theorem qS(w:af)(n:Int):(Acz 156 1 #[(0,u6 n)]).run Aag w=.ok (cD w.heap.size 1 1) (w.alloc (.cells #[u6 n] 70)):=al
def gz(pre:List (Pos l)):List Nat:=pre.map (·.1)
theorem rX(pre:List (Pos l))(x:Nat)(hx:x<κ l):gz (pre++[⟨x,hx⟩])=gz pre++[x]:=by simp[gz]
theorem xU(pre:List (Pos l)):κ (gz pre)=κ pre:=by simp[gz]
theorem iY{v:ah}{xs:List ah}(h:w.ownsRow base e k v n xs)(hb:v.ownBlock=some b):mU w b/\base<=b:=by
 obtain⟨_,h2⟩:=h;rcases h2 with⟨h3,_⟩|⟨g,cap,cur,h3,hg,h5,_⟩
 ·rw[h3]at hb;cases hb
 ·rw[h3]at hb;simp only[Aan,Aai]at hb;subst hb;exact⟨⟨_,_,_,h5⟩,hg⟩
def eu(l:List ao)(ow:Nat)(xs:List Nat):List Nat:=(xs.filter (λj=>decide ((recAt l j).owner≠ow))).map (λj=>(recAt l j).id)
theorem Lq{ow x:Nat}(h:(recAt l x).owner≠ow):eu l ow (xs++[x])=eu l ow xs++[(recAt l x).id]:=by grind [eu]
theorem Q'{ow x:Nat}(h:(recAt l x).owner=ow):eu l ow (xs++[x])=eu l ow xs:=by grind [eu]
theorem Lp:κ (eu l ow xs)<=κ xs:=by grind [eu]
theorem DC(l:List ao)(id:Nat):κ (fY l id)<=κ l:=by grind [fY,jg]
def eL(l:List ao)(id:Nat):List Nat:=match aL l id with
 | none=>[]
 | some i=>if(recAt l i).aT=true then eu l (recAt l i).owner (fY l id)else []
section
variable {l:List ao} {id i:Nat}
theorem P0(h:aL l id=none):eL l id=[]:=by grind [eL]
theorem P1(h:aL l id=some i)(hs:(recAt l i).aT=false):eL l id=[]:=by grind [eL]
theorem Dk(h:aL l id=some i)(hs:(recAt l i).aT=true):eL l id=eu l (recAt l i).owner (fY l id):=by grind [eL]
end
theorem J4(w:af)(v:ah)(l:List ao)(hv:cq w v l)(hl:κ l<=100000)(id:Nat):Aae Aag 205 #[v,u6 (id:Int)] w λe w'=>∃u,e=.returned u/\Own cr 70 w' w.heap.size u (eL l id)/\Up w w':=by
 obtain⟨a,cap,rfl⟩:=hv.slice;obtain⟨HV,U1⟩:=aw hv (ai w (.cells #[.slice a (κ l) cap] 71));have PL:=an (jz (w.alloc (.cells #[.slice a (κ l) cap] 71)) _ l (hv.up U1) id);cases h1:aL l id with
 | none=>have HE:=an (P0 h1);rw[h1]at PL;unfold eJ at PL;clear h1;refine rJ ?_;intro h1;refine oZ func205 rfl trivial ?_ rfl;simp only[ntmps205,Abh,Aaj,Aa4,Nat.reduceAdd,Nat.reduceSub,Aa6,Aa7,Abj,Aba,Aaz,Aa2];gi_wp2_with(refine⟨trivial,?_⟩;gi_at_call 83;refine(fG.2 (PL)).mono ?_;rintro e w2 ⟨rfl,hw2⟩;rw[hw2];clear hw2);refine⟨_,te rfl _ _ _,_,rfl,by rw[HE.out];exact Own.nil _ _ _ _,U1.trans (ai _ _)⟩
 | some i=>
  have H1:=an h1;rw[h1]at PL;unfold eJ at PL;obtain⟨hi,_⟩:=cJ h1;obtain⟨b,off,rfl,hbs,da,dc,rg,_⟩:=cf HV hi;refine nq ?_;intro b1 b2;obtain⟨RG,UU⟩:=aw rg (U1.trans (ai (w.alloc (.cells #[sq b off (κ l) cap] 71)) (.cells #[i6 (i:Int)] 3)));have c2:=UU.cell (cd rg).2.2.1;clear h1;cases hs:(recAt l i).aT with
  | false=>have HE:=an (P1 H1 hs);rw[hs]at c2;refine Ng ?_;clear hs;intro h1;gi_wp2_with(refine⟨trivial,?_⟩;gi_at_call 83;refine(fG.2 (PL)).mono ?_;rintro e w2 ⟨rfl,hw2⟩;rw[hw2];clear hw2);refine⟨_,te rfl _ _ _,_,rfl,by rw[HE.out];exact Own.nil _ _ _ _,UU⟩
  | true=>
   have HE:=an (Dk H1 hs);rw[hs]at c2;refine Ng ?_;clear hs;intro h1;gi_wp2_with(first
    | (refine⟨trivial,?_⟩;gi_at_call 83;refine(fG.2 (PL)).mono ?_;rintro e w2 ⟨rfl,hw2⟩;rw[hw2];clear hw2)
    | (refine⟨trivial,?_⟩;gi_at_call 244;refine(fG.2 (qk _ _ _ _ _)).mono ?_;rintro e w' ⟨rfl,rfl⟩))
   obtain⟨bb,d0,d1,d3,d4⟩:=yj (Boxed.new ((w.alloc (.cells #[sq b off (κ l) cap] 71)).alloc (.cells #[i6 (i:Int)] 3)) 156 (nl)) (dp w (sq b off (κ l) cap) 71) (dp (w.alloc (.cells #[sq b off (κ l) cap] 71)) (i6 (i:Int)) 3) (dp (((w.alloc (.cells #[sq b off (κ l) cap] 71)).alloc (.cells #[i6 (i:Int)] 3)).alloc (.cells #[nl] 156)) (sq b off (κ l) cap) 71) (dp ((((w.alloc (.cells #[sq b off (κ l) cap] 71)).alloc (.cells #[i6 (i:Int)] 3)).alloc (.cells #[nl] 156)).alloc (.cells #[sq b off (κ l) cap] 71)) (u6 (id:Int)) 70);simp only[Aa3]at bb d1 d3 d4;have ay:Below w.heap.size w (((((w.alloc (.cells #[sq b off (κ l) cap] 71)).alloc (.cells #[i6 (i:Int)] 3)).alloc (.cells #[nl] 156)).alloc (.cells #[sq b off (κ l) cap] 71)).alloc (.cells #[u6 (id:Int)] 70)):=(((((e6 _ w).alloc (aE _) _).alloc aq _).alloc ab _).alloc ab _).alloc ab _;obtain⟨ow,how⟩:=bE ((recAt l i).owner);rw[<-how]at HE;refine NA ?_;intro ak HBS CO CX;clear how c2;refine wL (F:=Abv) rfl h1 (gf:=274) (lb:=#[pz (w.heap.size+1+1+1),pz (w.heap.size+1+1+1+1)]) rfl trivial (enters_of func274 al rfl) (qj 5 ae (w.heap.size+1+1+1) (w.heap.size+1+1+1+1) w.heap.size _ l id _ aq aq (bF _ d3.1) d4.1 (HV.up ay) (λa' m c h=>by cases h;exact HBS)) c'.trans jM (e6 _ _) (λ_=>rfl) (λpre W=>((∃v,Boxed W (w.heap.size+1+1) 156 v/\W.ownsRow (w.heap.size+1+1+1+1+1) 70 1 v (κ (eu l ow (gz pre))) ((eu l ow (gz pre)).map cr)/\True)/\W.cell? (ad w.heap.size 0)=some (sq b off (κ l) cap)/\W.cell? (ad (w.heap.size+1) 0)=some (i6 (i:Int))/\w.heap.size+5<=W.heap.size)/\Below w.heap.size w W) (λ_ _ _=>False) (nP (Own.from (λs A B row hs hg hr=>⟨holdsRow_own (w.heap.size+1+1+1+1+1) (w.heap.size+1+1) 156 70 1 (λpre:List (Pos l)=>κ (eu l ow (gz pre))) (λpre=>(eu l ow (gz pre)).map cr) (λ_ _=>True) s A B row hs.1 hg hr,lz hs.2.1 hg hr,lz hs.2.2.1 hg hr,bK hs.2.2.2 hg.size⟩) _) (o0 (aE _) ab)) (λ_ _ _ _ _ hs _ _=>hs) ⟨⟨⟨_,(bb.alloc _).alloc _,yK _ _ _ _,trivial⟩,bF _ (bF _ (bF _ (bF _ d0.1))),bF _ (bF _ (bF _ d1.1)),aq⟩,ay⟩ (λx=>{tmps:=#[sq b off (κ l) cap,u6 (id:Int),pz w.heap.size,Aas,nl,pz (w.heap.size+1),pz (w.heap.size+1+1),i6 (x.1:Int),sq b off (κ l) cap,u6 (id:Int),i6 (i:Int),i6 (i:Int),.bool false,.bool false,sq b off (κ l) cap,i6 (i:Int),pq b (off+i*11),pq b (off+i*11+2),.bool true,.bool false,.bool false,sq b off (κ l) cap,u6 (id:Int),.func (.func 274) #[] #[pz (w.heap.size+1+1+1),pz (w.heap.size+1+1+1+1)],i6 (x.1:Int),Aas,Aas,Aas,Aas,Aas,Aas,Aas,Aas,Aas,Aas,Aas,Aas,Aas,Aas,Aas,Aas,Aas,Aas,Aas,Aas],defers:=[]}) ?assign ?body ?done ?stop
   case assign=>exact lP
   case body=>
    rintro l' pre⟨x,hx⟩W⟨⟨⟨vr,aA,aj,_⟩,e0,e1,aN⟩,hB⟩hlt;simp only;obtain⟨aF,au⟩:=aw aA aj;refine Ve ?_;intro HB x3 x0 x4 b3;have aM:=an (show(eu l ow (gz pre)).length<=100000 from by have h5:=Lp (l:=l) (ow:=ow) (xs:=gz pre);rw[xU]at h5;have:=DC l id;omega)
    gi_wp2;refine gT (S:=λW'=>W'.cell? (ad w.heap.size 0)=some (sq b off (κ l) cap)/\W'.cell? (ad (w.heap.size+1) 0)=some (i6 (i:Int))/\W'.cell? (ad b (off+x*11+3))=some (u6 ((recAt l x).owner:Int))/\W'.cell? (ad b (off+i*11+3))=some (u6 (ow:Int))) al al (λ⟨_,_,h⟩=>h) ?_;change Acp _ _ _ _ _ 11 _ _ (W.drew);have UD:=Up.drew (Up.refl W);have F5:=an (show W.drew.cell? (ad w.heap.size 0)=some (sq b off (κ l) cap)/\W.drew.cell? (ad (w.heap.size+1) 0)=some (i6 (i:Int))/\W.drew.cell? (ad b (off+x*11+3))=some (u6 ((recAt l x).owner:Int))/\W.drew.cell? (ad b (off+i*11+3))=some (u6 (ow:Int))from⟨UD.cell e0,UD.cell e1,UD.cell x3,UD.cell x4⟩);have y0:=UD.cell x0;obtain⟨TU,KO,KP,BD,aa,RW5⟩:=ix (show Touch (λk=>k=w.heap.size+1+1\/vr.ownBlock=some k) W W.drew from Touch.bP UD) (y9 W) (kz (p:=qi w.heap.size (w.heap.size+1+1+1) (w.heap.size+1+1+1+1)) UD) (show Below w.heap.size w W.drew from HB.trans (Below.drew (e6 _ _))) (show Boxed W.drew (w.heap.size+1+1) 156 vr from aF) (show W.drew.ownsRow (w.heap.size+1+1+1+1+1) 70 1 vr (κ (eu l ow (gz pre))) ((eu l ow (gz pre)).map cr)from Own.up au UD);clear x0 e0 e1 x3 x4;generalize W.drew=w5 at *;refine tb 0 rfl (yc (λW hS=>hS.1)) ?_;refine bA ?_;refine ta 1 ?_;refine bA ?_;refine ta 2 ?_;refine bA ?_;refine ta 3 ?_;refine bA ?_;refine tb 4 rfl (yc (λW hS=>hS.2.2.1)) ?_;refine bA ?_;refine tb 5 rfl (yc (λW hS=>hS.1)) ?_;refine bA ?_;refine tb 6 rfl (yc (λW hS=>hS.2.1)) ?_;refine bA ?_;refine ta 7 ?_;refine bA ?_;refine ta 8 ?_;refine bA ?_;refine tb 9 rfl (yc (λW hS=>hS.2.2.2)) ?_;refine bA ?_;by_cases ag:(recAt l x).owner=ow
    ·have b9:((((recAt l x).owner:Nat):Int)==(ow:Int))=true:=by simp[ag]
     have ax:((((recAt l x).owner:Nat):Int) != (ow:Int))=false:=by simp[ag]
     refine zA ?_;have HX:=an (Q' (xs:=gz pre) ag);clear ag b9 ax;gi_wp2;exact⟨KO,KP,⟨⟨vr,aa,by rw[rX,HX.out];exact RW5,trivial⟩,F5.1,F5.2.1,bK aN TU.size⟩,BD⟩
    ·have b9:((((recAt l x).owner:Nat):Int)==(ow:Int))=false:=by simp;omega
     have ax:((((recAt l x).owner:Nat):Int) != (ow:Int))=true:=ab
     refine zA ?_;have HX:=an (Lq (xs:=gz pre) ag);clear ag b9 ax;have cb:=aa.cell;gi_wp2;obtain⟨va,vc,rfl⟩:=(Own.cu (f:=cr) RW5 |>.slice);have e5:=F5.1;have UD:=an (Up.drew (Up.refl w5));replace cb:=UD.cell cb;replace y0:=UD.cell y0;replace e5:=UD.cell e5;refine y7 al (z1 al (λ⟨_,_,h⟩=>h) _ _ _ _ ?_);change wpAny _ _ _ _ 9 _ _ (w5.drew);generalize w5.drew=w6 at *;have aO:=bF (.cells #[u6 ((recAt l x).id:Int)] 70) cb;have UA:=an (ai w6 (.cells #[u6 ((recAt l x).id:Int)] 70));refine(λ(FIN:?G)=>?main) ?tail
     case main=>
      refine yz 2 (i6 (x:Int)) rfl ?_ (hy:=(.inl ⟨rfl,λ_=>by go_simp⟩));refine bA ?_;refine Hn 0 (.slice va (κ (eu l ow (gz pre))) vc) w6 1 (sq b off (κ l) cap) w6 al rfl rfl (iB 156 (.tmp 6) rfl ⟨w.heap.size+1+1,0,none⟩ rfl cb (λ_=>al)) rfl rfl (iB 71 (.tmp 2) rfl ⟨w.heap.size,0,none⟩ rfl e5 (λ_=>al)) ?_ ?_
      ·refine bA ?_;refine vZ 1 (sq b off (κ l) cap) w6 al rfl rfl (iB 71 (.tmp 2) rfl ⟨w.heap.size,0,none⟩ rfl e5 (λ_=>al)) ?_;refine NB ?_;exact Vx
      ·refine NB ?_;refine bA ?_;refine Hn 0 (.slice va (κ (eu l ow (gz pre))) vc) w6 5 (u6 ((recAt l x).id:Int)) w6 al rfl rfl (iB 156 (.tmp 6) rfl ⟨w.heap.size+1+1,0,none⟩ rfl cb (λ_=>al)) rfl rfl (iB 70 (.tmp 40) rfl ⟨b,off+x*11,none⟩ rfl y0 (λ_=>al)) ?_ ?_
       ·exact Vx
       ·refine bA ?_;refine Hn 0 (.slice va (κ (eu l ow (gz pre))) vc) w6 6 (cD w6.heap.size 1 1) (w6.alloc (.cells #[u6 ((recAt l x).id:Int)] 70)) al rfl rfl (iB 156 (.tmp 6) rfl ⟨w.heap.size+1+1,0,none⟩ rfl cb (λ_=>al)) rfl rfl (qV 156 (.tmp 41) rfl (u6 ((recAt l x).id:Int)) rfl (qS w6 _)) ?_ ?_
        ·refine bA ?_;refine vZ 6 (cD w6.heap.size 1 1) (w6.alloc (.cells #[u6 ((recAt l x).id:Int)] 70)) al rfl rfl (qV 156 (.tmp 41) rfl (u6 ((recAt l x).id:Int)) rfl (qS w6 _)) ?_;refine bA ?_;exact FIN
        ·refine bA ?_;refine vZ 0 (.slice va (κ (eu l ow (gz pre))) vc) (w6.alloc (.cells #[u6 ((recAt l x).id:Int)] 70)) al rfl rfl (iB 156 (.tmp 6) rfl ⟨w.heap.size+1+1,0,none⟩ rfl aO (λ_=>al)) ?_;refine bA ?_;exact FIN
     case tail=>
      refine Ml 7 rfl al ?_;simp only[Abu,Aaw];go_wp2_with(first
       | (at_builtin;refine bu cr q2 rfl (.tmp 36) (.tmp 42) 156 rfl (w.heap.size+1+1+1+1+1) 70 (u6 0) 8 underlying156 uz rfl _ (eu l ow (gz pre)) rfl (Own.up (Own.up RW5 UD) UA) (cD w6.heap.size 1 1) [(recAt l x).id] rfl (aD.ew (f:=cr) w6 w6.heap.size rfl #[u6 ((recAt l x).id:Int)] 70 (0,0) [(recAt l x).id] 1 rfl dK rfl) (by have:=aM.out;simp;omega) (by have:=aM.out;simp;omega) (by have h1:=TU.size;have h2:=UD.size;have h3:=(ai w6 (.cells #[u6 ((recAt l x).id:Int)] 70)).size;omega) ?_))
      intro v7 w7 aI aX ba;obtain⟨TA,av⟩:=aw (show Touch (λk=>k=w.heap.size+1+1\/(Acr va (κ (eu l ow (gz pre))) vc).ownBlock=some k) w5 w7 from(Touch.bP (UD.trans UA)).trans (Touch.bg aX (λk hk=>.inr hk)) (λn h _=>h)) (show Boxed w7 (w.heap.size+1+1) 156 (.slice va (κ (eu l ow (gz pre))) vc)from Boxed.kept (Boxed.alloc (show Boxed w6 (w.heap.size+1+1) 156 (.slice va (κ (eu l ow (gz pre))) vc)from(oV UD _ aa.lt).trans aa) _) aX (λe=>by have:=(iY RW5 e.symm).2;omega));obtain⟨aR,aS⟩:=az av.cell av.frozen;obtain⟨aP,aQ,aH⟩:=aI.cu.slice;rw[Aaf,List.length_singleton]at aH;subst aH;clear cb;go_wp2;have G8:=grownBy_setCell' w7 (w.heap.size+1+1) (.slice aP (κ (eu l ow (gz pre))+1) aQ);obtain⟨TB,TC⟩:=aw ((TU.trans TA (λn h _=>h)).trans (Touch.bg (F:=λk=>k=w.heap.size+1+1\/(Acr va (κ (eu l ow (gz pre))) vc).ownBlock=some k) G8 (λk hk=>FW)) (λn h _=>h)) (TA.trans (Touch.bg (F:=λk=>k=w.heap.size+1+1\/(Acr va (κ (eu l ow (gz pre))) vc).ownBlock=some k) G8 (λk hk=>FW)) (λn h _=>h));refine⟨TB.others (λk hk=>hk.elim (λe=>by subst e;exact⟨_,_,_,aF⟩) (λe=>(iY au e).1)),TB.wz (λk t hp hk=>?_),⟨⟨_,av.set _,?_,trivial⟩,?_,?_,?_⟩,?_⟩
      ·rcases hk with rfl|e
       ·rcases hp with h|h|h<;>omega
       ·have:=(iY au e).2;rcases hp with h|h|h<;>omega
      ·rw[rX,HX.out];exact s8 aI G8 (.inr (λe=>by have:=(iY aI e).2;omega))
      ·exact fC F5.1 TC (λh=>h.elim (λh=>ae) (λh=>FC))
      ·exact fC F5.2.1 TC (λh=>h.elim (λh=>ae) (λh=>FC))
      ·exact bK aN (bK TU.size TC.size)
      ·exact TC.up BD (λn h=>h.elim (λh=>ae) (λh=>FC))
   case done=>rintro D ys W hD aG⟨⟨⟨vr,aA,aj,_⟩,_,_,_⟩,hB⟩hK;have cb:=aA.cell;gi_wp2;refine zI ?_;refine⟨_,te rfl _ _ _,vr,rfl,?_,hB.trans (o1 (w:=w) (aE _) W D _ _ qB hK rfl rfl)⟩;rw[HE.out,<-aG,show ys.map (·.1)=gz ys from rfl];exact Own.mono (ownsRow_putObj aj _ hK rfl) ae
   case stop=>rintro D c pre W _ _ h _;exact h.elim
end
theorem zc3:zc Aag 3=#[.int .i64 0]:=al
theorem acv:zc Aag 70=#[.int .u64 0]:=al
def ol(b:Nat)(v:ah)(l:List Nat):As:=⟨λn=>v.ownBlock=some n,λw=>Own cr 70 w b v l,λh T hf=>h.ax T hf⟩
def GK(f:α->List ah)(k:Nat)(e:Aab)(b:Nat)(v:ah)(l:List α):As:=⟨λn=>v.ownBlock=some n,λw=>ak f k e w b v l,λh T hf=>h.ax T hf⟩
section
variable {P:bp} {ops:Array Abn} {Q:Exit->Act->af->Prop} {F0:Nat->Prop} {x0:af} {L L':List As} {a:Act} {w w':af} {rest:List Abn} {o:Abn} {b B:Nat} {v:ah} {l:List au} {ys:List gH} {ty:Aab} {y z:bU} {V:Array ah} {g i j n m cap off:Nat}
def Rz.n1{l:List Nat}(h:Own cr 70 w' w.heap.size v l)(u:Up w w')(hB:B<=w.heap.size):Rz w w' [ol B v l]:=.one u (h.mono hB) (h.aJ)
def Rz.sj{A:As}(z:Rz w w' [A])(h:bf w' w.heap.size v l)(hB:B<=w.heap.size):Rz w w' [jn A (op B v l)]:=.one z.u ⟨z.p _ df,h.mono hB⟩ λn hn=>hn.elim (z.f _ df n) (h.aJ n)
theorem Fr.cu{l:List Nat}(s:Fr F0 x0 L w)(h:ol b v l∈L:=by exact gG):Own cr 70 w b v l:=s.p _ h
theorem V'{q:au}(h:aF w g 87 (be q)):c9 w (cD g 1 1) [q]:=.inr ⟨g,0,1,rfl,aq,aq,dK,λj u hj=>by have hj:(be q).toList[j]?=some u:=(show(dL q)[j]?=some u by simpa using hj);rw[h.cell,Aby,<-oW];exact hj⟩
theorem Fr.acm(s:Fr F0 x0 L w):Fr F0 x0 (op x0.heap.size nl []::L) w:=s.new (.one (Up.refl w) (ak.nil _ _ _ _ _) λn h=>hE)
theorem acq{S:List As}(i j:Nat){y0:gH}{u:ah}(h0:ys[i]?=some y0)(ho:o.op=.load ty (.tmp n):=by rfl)(hx:a.eval (.tmp n)=.pointer (some ⟨g,off,none⟩):=by rfl)(hm:os b (cD g m cap) ys∈S:=by exact gG)(aS:off=i*11+j:=by omega)(hv:(dh y0)[j]?=some u:=by rfl)(hagg:∀w:af,(isAgg ty).run P w=.ok false w:=by intro _;kernel_rfl)(hw:Region.wanted o (yielded ops a.tmps)=true:=by rfl):YieldsIf P ops (Sv F0 x0 S) o u a:=zV hw ty (.tmp n) ho ⟨g,off,none⟩ hx (λw h=>by
  subst aS;obtain⟨hi,rfl⟩:=kE.1 h0;have p:ak dh 11 90 w b (cD g m cap) ys:=(h.2 _ hm).1;obtain⟨bb,of,e,_,_,hc⟩:=aH.get (ak.row p lV) lV ae;obtain⟨rfl,rfl⟩:g=bb/\0=of:=by simpa using e
  have:=hc i hi j u hv;rwa [Aby]at this) hagg
theorem fq(i j:Nat){y0:gH}(y':gH)(s:Fr F0 x0 L w)(h:∀w',Fr F0 x0 L' w'->wpList P ops Q rest (a.put o.dst undef) w')(h0:ys[i]?=some y0)(hU:mW L (os b (cD g n cap) ys) (os b (cD g n cap) (ys.set i y')) L':=by exact wc)(al:o.op=.store ty y z:=by with_reducible rfl)(hx:a.eval y=.pointer (some ⟨g,off,none⟩):=by rfl)(aS:off=i*11+j:=by omega)(hy:(a.eval z).cells=V:=by exact zcv)(aw:dh y'=hW (dh y0) j V.toList:=by rfl)(hd:y'.v=y0.v/\y'.d.dead=y0.d.dead\/y'.v=nl/\y'.d.dead=[]:=by first|exact .inl ⟨rfl,rfl⟩|exact .inr ⟨rfl,rfl⟩)(aN:(P.info? ty).map (·.size)=some V.size:=by exact Sx)(h1:V.all (·.oneCell')=true:=by exact zoa)(hV:j+V.size<=11:=by first|decide|(simp[be]))(hgd:o.guard=none:=by rfl):wpList P ops Q (o::rest) a w:=by subst aS;obtain⟨C,hb,hfit,hF,hP⟩:=O6 (s.p _ hU.mem) h0 hV aw hd;exact h' hgd λK hK=>mP al hx hy hb aN hfit h1 λw' aI hg=>hK _ _ (h w' (by have T:Touch (os b (cD g n cap) ys).F w w':=Touch.bg hg (λk e=>by cases e;exact hF);exact s.Aj hU T (hP w' aI hg).1 (λn h=>⟨ej (s.f _ hU.mem n ((hP w' aI hg).2 n h)).1 T.size,.inl ((hP w' aI hg).2 n h)⟩)))
theorem O5{da:Option Adr}{dn dc:Nat}(hi:i<κ ys):∀n',(os b v (ys.set i ⟨{ys[i].d with dead:=l},da,dn,dc⟩)).F n'->(jn (os b v ys) (op b (.slice da dn dc) l)).F n':=λn' ag=>by exact N1
theorem fqd(i:Nat){y0:gH}{L1 L2:List As}{da:Option Addr}{dn dc:Nat}(s:Fr F0 x0 L w)(h:∀w',Fr F0 x0 L2 w'->wpList P ops Q rest (a.put o.dst undef) w')(h0:ys[i]?=some y0)(hr:yq L (op b (.slice da dn dc) l) L1:=by exact SD)(hU:mW L1 (os b (cD g n cap) ys) (jn (os b (cD g n cap) ys) (op b (.slice da dn dc) l)) L':=by exact wc)(aD:mW L' (jn (os b (cD g n cap) ys) (op b (.slice da dn dc) l)) (os b (cD g n cap) (ys.set i ⟨{y0.d with dead:=l},da,dn,dc⟩)) L2:=by exact wc)(al:o.op=.store ty y z:=by with_reducible rfl)(hx:a.eval y=.pointer (some ⟨g,off,none⟩):=by rfl)(aS:off=i*11+10:=by omega)(hy:a.eval z=.slice da dn dc:=by rfl)(aN:(P.info? ty).map (·.size)=some 1:=by kernel_rfl)(hgd:o.guard=none:=by rfl):wpList P ops Q (o::rest) a w:=by subst aS;obtain⟨hi,rfl⟩:=kE.1 h0;have s':=s.join hr hU;obtain⟨⟨h2,h3⟩,h4⟩:=s'.p _ aD.mem;obtain⟨C,hb,hn,aC,hg,hp⟩:=ak.part lV h2 i hi;refine h' hgd λK hK=>mP (V:=#[.slice da dn dc]) al hx zo hb aN ab FG λw' aI hgr=>hK _ _ (h w' ?_);refine Ov ?_;intro key T;refine s'.Aj aD T ⟨hp _ 10 [.slice da dn dc] w' aq rfl aI,λy hy=>?_⟩ (λn' h=>⟨ej (s'.f _ aD.mem n' (O5 hi n' h)).1 T.size,.inl (O5 hi n' h)⟩);exact N2
theorem faq{q:au}{L':ah->List As}(s:Fr F0 x0 L w)(h:∀a' c' w,Fr F0 x0 (L' (.slice a' (κ l+1) c')) w->wpList P ops Q rest (a.put o.dst (.slice a' (κ l+1) c')) w)(hgd:o.guard=none:=by rfl)(ho:o.op=.call {callee:=.builtin .append,args:=#[.tmp m,.tmp n],argTypes:=#[88,88]}:=by with_reducible rfl)(hs:a.eval (.tmp m)=v:=by exact zvv)(hx:a.eval (.tmp n)=cD g 1 1:=by rfl)(hm:bk g 87 (be q)∈L:=by exact gG)(hU:∀v',mW L (op x0.heap.size v l) (op x0.heap.size v' (l++[q])) (L' v'):=by intro _;exact wc)(ht:P.underlying 88=some (.slice 87):=by exact underlying88)(hi:(P.info? 87).map (λi=>(i.zero,i.size,i.bytes))=some (some (.agg (be hole)),3,24):=by exact cF)(hl:κ l<=1000000000:=by omega):wpList P ops Q (o::rest) a w:=eV pw hgd (.tmp m) (.tmp n) 88 ho x0.heap.size 87 _ 24 ht hi rfl v l hs (s.p _ (hU v).mem) _ [q] hx (V' (s.fg hm)) ab ab s.t.size λv' w' h1 h2 _ h4=>by
  obtain⟨a',c',hv⟩:=(ak.row h1 pw).slice;exact KY
theorem far{α:Type}{f:α->List ah}{j:Nat}{e t:TypeId}{xs:List α}{C:Array ah}{zv:ah}{bytes:Nat}(hw:hh f j)(x:α){L':ah->List As}(s:Fr F0 x0 L w)(h:∀a' c' w,Fr F0 x0 (L' (.slice a' (κ xs+1) c')) w->wpList P ops Q rest (a.put o.dst (.slice a' (κ xs+1) c')) w)(hgd:o.guard=none:=by rfl)(ho:o.op=.call {callee:=.builtin .append,args:=#[.tmp m,.tmp n],argTypes:=#[t,t]}:=by with_reducible rfl)(hs:a.eval (.tmp m)=v:=by exact zvv)(hx:a.eval (.tmp n)=cD g 1 1:=by rfl)(hm:bk g e C∈L:=by exact gG)(hC:C.toList=f x:=by rfl)(hU:∀v',mW L (GK f j e x0.heap.size v xs) (GK f j e x0.heap.size v' (xs++[x])) (L' v'):=by intro _;exact wc)(ht:P.underlying t=some (.slice e):=by exact hM)(hi:(P.info? e).map (λi=>(i.zero,i.size,i.bytes))=some (some zv,j,bytes):=by assumption)(hz:zv.cells.size=j:=by rfl)(hb:(κ xs+1)*bytes<=140737488355328:=by omega)(hl:κ xs+1<=9223372036854775807:=by omega):wpList P ops Q (o::rest) a w:=eV hw hgd (.tmp m) (.tmp n) t ho x0.heap.size e zv bytes ht hi hz v xs hs (s.p _ (hU v).mem) _ [x] hx (.inr ⟨g,0,1,rfl,aq,aq,dK,λi u hj=>by
  have hj:C.toList[i]?=some u:=by rw[hC];simpa using hj
  rw[(s.fg hm).cell,Aby,<-oW];exact hj⟩) (by simpa using hb) (by simpa using hl) s.t.size λv' w' h1 h2 _ h4=>by
  obtain⟨a',c',hv⟩:=(ak.row h1 hw).slice;exact KY
theorem Fr.aak{α:Type}{f:α->List ah}{j:Nat}{e:Aab}(s:Fr F0 x0 L w):Fr F0 x0 (GK f j e x0.heap.size nl []::L) w:=s.new (.one (Up.refl w) (ak.nil _ _ _ _ _) λn h=>hE)
theorem Fr.row{α:Type}{f:α->List ah}{j:Nat}{e:TypeId}{xs:List α}(s:Fr F0 x0 L w)(h:GK f j e b v xs∈L:=by exact gG):ak f j e w b v xs:=s.p _ h
end
section
open Go.Shelf
attribute [local go_sem] kI
def hL(l:List ao)(ow:Nat)(xs:List Nat):List Nat:=xs.filter (λj=>decide ((recAt l j).owner=ow))
theorem RF{l:List ao}{ow x:Nat}{xs:List Nat}(h:(recAt l x).owner=ow):κ (hL l ow (xs++[x]))=κ (hL l ow xs)+1:=by grind [hL]
theorem Wf{l:List ao}{ow x:Nat}{xs:List Nat}(h:(recAt l x).owner≠ow):κ (hL l ow (xs++[x]))=κ (hL l ow xs):=by grind [hL]
def RE{l:List ao}{ow:Nat}{xs:List Nat}:κ (hL l ow xs)<=κ xs:=qx _ _
def mm(l:List ao)(x:ao):Bool:=if x.aT=true then(match aL l x.owner with
 | none=>false
 | some i=>if(recAt l i).aT=true then false else decide (κ (hL l x.owner (fY l x.id))=1))else true
section
variable {l:List ao} {x:ao} {i:Nat}
theorem IN(h:x.aT=false):mm l x=true:=by grind [mm]
theorem V2(h:x.aT=true)(h1:aL l x.owner=none):mm l x=false:=by grind [mm]
theorem V3(h:x.aT=true)(h1:aL l x.owner=some i)(h2:(recAt l i).aT=true):mm l x=false:=by grind [mm]
theorem IP(h:x.aT=true)(h1:aL l x.owner=some i)(h2:(recAt l i).aT=false):mm l x=decide (κ (hL l x.owner (fY l x.id))=1):=by grind [mm]
end
theorem boxed_own{W W':af}{row:Option Nat}{B:Nat}{v:ah}(hv:Boxed W B t v)(hg:W.grownBy W' row)(aj:∀r,row=some r->∃o:Obj,W.heap[r]?=some o/\o.isCells=false):Boxed W' B t v:=hv.kept hg (λe'=>by
  obtain⟨o,ho,hc⟩:=aj B e'.symm;rw[show W.heap[B]?=_ from hv]at ho;cases ho;cases hc)
theorem BN(w:af)(b off n cap:Nat)(l:List ao)(hv:cq w (sq b off n cap) l)(hl:κ l<=100000)(k:Nat)(hk:k<κ l):Aae Aag 185 #[sq b off n cap,pq b (off+k*11)] w λe w'=>e=.returned (.bool (mm l (recAt l k)))/\Up w w':=by
 obtain⟨_,_,ar,hbs,da,dc,rg,_⟩:=cf hv hk;simp only[Aai,Abq,and_true]at ar;obtain⟨rfl,rfl⟩:=ar;obtain rfl:n=κ l:=Uo
 obtain⟨c0,_,c2,c3,_⟩:=cd rg;obtain⟨w0,rfl⟩:=bE w;have s:=Fr.start w0;refine ZU 6 func185 ?_;simp only[ntmps185,Abh,Aaj,Aa4,Nat.reduceAdd,Nat.reduceSub,Aa6,Aa7,Abj,Aba,Aaz,Aa2];cases hs:(recAt l k).aT with
 | false=>rw[hs]at c2;go_wp2_with(refine fw s ?_;intro _ w s);refine EL s ?_;exact⟨by rw[@IN l _ hs];rfl,s.pure⟩
 | true=>
  rw[hs]at c2;go_wp2_with(refine fw s ?_;intro _ w s);refine kb s (λw s=>?_);repeat refine kt ?_
  refine kc (λw _ s=>jz w _ l (hv.up s.pure) (recAt l k).owner) ?_;rintro w _ s _ _⟨rfl,rfl⟩;refine lQ ?_;repeat refine kt ?_
  refine kd (λw u s=>?_);cases h1:aL l (recAt l k).owner with
  | none=>simp only[eJ];go_wp2_with(refine fw s ?_;intro _ w s);refine EL s ?_;exact⟨by rw[V2 hs h1];rfl,s.pure⟩
  | some i=>
   obtain⟨hi,_⟩:=cJ h1;obtain⟨_,_,ar,_,aJ,aK,aB,_⟩:=cf hv hi;simp only[Aai,Abq,and_true]at ar;obtain⟨rfl,rfl⟩:=ar;refine nq ?_;intro b1 b2;have s2:=(cd aB).2.2.1;simp only[eJ];cases aa:(recAt l i).aT with
   | true=>rw[aa]at s2;go_wp2_with(refine fw s ?_;intro _ w s);refine EL s ?_;exact⟨by rw[V3 hs h1 aa];rfl,s.pure⟩
   | false=>
    rw[aa]at s2;go_wp2_with(refine fw s ?_;intro _ w s);refine kb s (λw s=>?_);repeat refine kt ?_
    refine xJ (λw _ s=>qk w (some (ad b off)) (κ l) cap (recAt l k).id) ?_;rintro w _ s _ _⟨rfl,rfl⟩;obtain⟨ua,ub⟩:=az (ai w (.cells #[sq b off (κ l) cap] 71)) (ai (w.alloc (.cells #[sq b off (κ l) cap] 71)) (.cells #[u6 ((recAt l k).id:Int)] 70));refine⟨_,jn (bk w.heap.size 71 #[sq b off (κ l) cap]) (bk (w.heap.size+1) 70 #[u6 ((recAt l k).id:Int)]),rfl,.one (ua.trans ub) ⟨(aF.new ..).up ub,by have:=aF.new (w.alloc (.cells #[sq b off (κ l) cap] 71)) 70 #[u6 ((recAt l k).id:Int)];rwa [aN]at this⟩ (λn hn=>?hn),?_⟩
    case hn=>rcases hn with hn|hn<;>(have hn:n=_:=hn;simp only[Aa3];omega)
    generalize w.heap.size=B1 at *;refine kd (λw u s=>?_);change Fr no _ [_,bk ?g2 3 _,bk ?g1 84 _,bk ?g0 71 _] _ at s;go_wp2_with fail;refine wpIn_wide (n:=6).1 ?_;obtain⟨d3,d4⟩:=s.p (jn (bk B1 71 _) (bk (B1+1) 70 _)) df;have e2:aF w ?g2 3 _:=s.fg gG;have e1:aF w ?g1 84 _:=s.fg gG;have e0:aF w ?g0 71 _:=s.fg gG;have CX:∀x,x<κ l->w0.cell? (ad b (off+x*11+3))=some (u6 ((recAt l x).owner:Int)):=λx hx=>by obtain⟨b',aC,ar,_,aJ,aK,aB,_⟩:=cf hv hx;simp only[Aai,Abq,and_true]at ar;obtain⟨rfl,rfl⟩:=ar;exact(cd aB).2.2.2.1
    have G2:w0.heap.size<=?g2/\?g2≠B1/\?g2≠B1+1:=⟨((s.f (bk ?g2 3 _) gG ?g2 rfl).2).resolve_left id,e5 e2 d3 av,e5 e2 d4 av⟩;have HE:=@IP l _ i hs h1 aa;change Code.wpIn _ _ _ _ _ ⟨?t,_⟩ _;refine wL (F:=Abv) rfl ae (gf:=274) (lb:=#[pz B1,pz (B1+1)]) rfl trivial (enters_of func274 al rfl) (qj 5 ae B1 (B1+1) w0.heap.size _ l (recAt l k).id w d3.lt d4.lt (d3.cell 0) (d4.cell 0) (hv.up s.pure) (λa' m c h=>by cases h;exact hbs)) c'.trans jM (e6 _ _) (λ_=>rfl) (λpre W=>(Boxed W ?g0 71 (sq b off (κ l) cap)/\Boxed W ?g1 84 (pq b (off+k*11))/\Boxed W ?g2 3 (i6 (κ (hL l (recAt l k).owner (gz pre)):Int)))/\Below w0.heap.size w0 W) (λ_ _ _=>False) (nP (Own.from (λs A B row hs hg hr=>⟨boxed_own hs.1 hg hr,boxed_own hs.2.1 hg hr,boxed_own hs.2.2 hg hr⟩) _) (o0 (aE _) s.pure.size)) (λ_ _ _ _ _ hs _ _=>hs) ⟨⟨e0,e1,e2⟩,s.pure⟩ (λx=>Aao (Aao ⟨?t,[]⟩ (some 34) (i6 (x.1:Int))) (some 7) (i6 (x.1:Int))) ?assign ?body ?done ?stop
    case assign=>exact lP
    case stop=>exact λ_ _ _ _ _ _ h=>h.elim
    case done=>
     rintro D ys W hD aG⟨⟨_,_,qb⟩,hB⟩hK;have cb:=qb.cell;have aq:mm l (recAt l k)=((κ (hL l (recAt l k).owner (gz ys)):Int)==1):=by rw[HE,<-aG,show ys.map (·.1)=gz ys from rfl,Bf];simp;omega
     gi_wp2;go_wp2;refine zI ?_;exact⟨_,te rfl _ _ _,by rw[aq]<;>rfl,hB.trans (o1 (w:=w0) (aE _) W D _ _ (by have:=s.pure.size;omega) hK rfl rfl)⟩
    case body=>
     rintro l' pre⟨x,hx⟩W⟨⟨q0,q1,qb⟩,hB⟩hlt;simp only[Aao,fB];have x3:=hB.cell (p:=⟨b,off+x*11+3,none⟩) hbs;rw[CX x hx]at x3;have x4:=hB.cell (p:=⟨b,off+k*11+3,none⟩) hbs;rw[c3]at x4;have b3:((x:Int)<(κ l:Int))=True:=ab
     have aM:κ (hL l (recAt l k).owner (gz pre))<=100000:=by have h5:=@RE l (recAt l k).owner (gz pre);rw[xU]at h5;have:=DC l (recAt l k).id;omega
     have s:=Fr.from (A:=bk ?g2 3 #[i6 (κ (hL l (recAt l k).owner (gz pre)):Int)]) qb (λn hn=>by rw[show n=_ from hn];exact aF.lt qb);have n0:¬(bk ?g2 3 #[i6 (κ (hL l (recAt l k).owner (gz pre)):Int)]).F ?g0:=e5 q0 qb av;have n1:¬(bk ?g2 3 #[i6 (κ (hL l (recAt l k).owner (gz pre)):Int)]).F ?g1:=e5 q1 qb av;have nb:¬(bk ?g2 3 #[i6 (κ (hL l (recAt l k).owner (gz pre)):Int)]).F b:=by show b≠_;omega
     have aj:=q0;have ak:=q1;replace q0:=aF.cell q0 0;replace q1:=aF.cell q1 0;gi_wp2;refine kbR s (λw s=>?_);repeat refine kt ?_
     refine kd (λw _ s=>?_);by_cases ag:(recAt l x).owner=(recAt l k).owner
     ·have b9:((((recAt l x).owner:Nat):Int)==((recAt l k).owner:Int))=true:=by simp[ag]
      have HX:=@RF l (recAt l k).owner x (gz pre) ag;have aH:IntKind.i64.wrap ((κ (hL l (recAt l k).owner (gz pre)):Int)+1)=((κ (hL l (recAt l k).owner (gz pre))+1:Nat):Int):=by rw[show((κ (hL l (recAt l k).owner (gz pre)):Int)+1)=((κ (hL l (recAt l k).owner (gz pre))+1:Nat):Int)from ae];exact aX _ ae
      gi_wp2_with(refine nk (λ⟨_,_,h⟩=>h) al ?_);refine an ?_;go_wp2_with(refine fw s ?_;intro _ w s);have T:=s.t;exact⟨Touch.others T (λk hk=>Uq),T.wz (λk t hp hk=>Uj),⟨aF.ax aj T n0,aF.ax ak T n1,by rw[rX,HX,Int.natCast_add];exact s.p _ df⟩,T.up hB (λk hk=>by rw[show k=_ from hk];omega)⟩
     ·have b9:((((recAt l x).owner:Nat):Int)==((recAt l k).owner:Int))=false:=by simp;omega
      have HX:=@Wf l (recAt l k).owner x (gz pre) ag;gi_wp2;have T:=s.t;exact⟨Touch.others T (λk hk=>Uq),T.wz (λk t hp hk=>Uj),⟨aF.ax aj T n0,aF.ax ak T n1,by rw[rX,HX];exact s.fg gG⟩,T.up hB (λk hk=>by rw[show k=_ from hk];omega)⟩
end
def iQ(fl:Nat)(ds:List au):Bool:=ds.all (λp=>decide (p.aU<=fl))
theorem xv{fl k:Nat}(hk:k<κ ds)(h:iQ fl (ds.take k)=true):iQ fl (ds.take (k+1))=decide (ds[k].aU<=fl):=by unfold iQ at *;rw[et hk,List.all_append,h];simp
theorem Dn{fl k:Nat}{ds:List au}(hk:k<κ ds)(h:¬ds[k].aU<=fl):iQ fl ds=false:=by grind [iQ]
def oR(l:List ao)(x:ao):Bool:=if x.prev=0 then iQ 0 x.dead else match aL l x.prev with
 | none=>false
 | some i=>if(recAt l i).aT=false then false else if x.aT=true/\x.ay<=(recAt l i).ay then false else iQ (recAt l i).ay x.dead
section
variable {l:List ao} {x:ao} {i:Nat}
theorem HW(h:x.prev=0):oR l x=iQ 0 x.dead:=uX
theorem Tv(h:¬x.prev=0)(h1:aL l x.prev=none):oR l x=false:=uX
theorem Tw(h:¬x.prev=0)(h1:aL l x.prev=some i)(h2:(recAt l i).aT=false):oR l x=false:=uX
theorem Tx(h:¬x.prev=0)(h1:aL l x.prev=some i)(h2:(recAt l i).aT=true)(h3:x.aT=true/\x.ay<=(recAt l i).ay):oR l x=false:=uX
theorem HX(h:¬x.prev=0)(h1:aL l x.prev=some i)(h2:(recAt l i).aT=true)(h3:¬(x.aT=true/\x.ay<=(recAt l i).ay)):oR l x=iQ (recAt l i).ay x.dead:=uX
end
theorem AD(w:af)(b off n cap:Nat)(l:List ao)(hv:cq w (sq b off n cap) l)(k:Nat)(hk:k<κ l):Aae Aag 184 #[sq b off n cap,pq b (off+k*11)] w λe w'=>e=.returned (.bool (oR l (recAt l k)))/\Up w w':=by
 obtain⟨_,_,ar,hbs,da,dc,rg,dp⟩:=cf hv hk;simp only[Aai,Abq,and_true]at ar;obtain⟨rfl,rfl⟩:=ar;obtain rfl:n=κ l:=Uo
 obtain⟨HV,DP⟩:=aw hv dp;obtain⟨_,_,c2,_,c4,c5,_,_,Ah⟩:=cd rg;obtain⟨aa,aj,ak,al,au⟩:=eW (@HW l (recAt l k)) (@Tv l (recAt l k)) (λi=>@Tw l (recAt l k) i) (λi=>@Tx l (recAt l k) i) (λi=>@HX l (recAt l k) i);generalize oR l (recAt l k)=eb at *;generalize recAt l k=x at *;have aM:=aH.length_le DP;by_cases h0:x.prev=0
 ·have HE:=an (aa h0);rw[h0]at c4;clear h0 aa aj ak al au;go_in;go_wp2;go_loopw [52] (λi wr=>∃j:Nat,j<=κ x.dead/\i=i6 j/\iQ (0) (x.dead.take j)=true/\Up w wr) (λi _=>κ x.dead-(Aau i).toNat)
  case atStart=>exact⟨0,bT _,rfl,by simp[iQ],Up.refl _⟩
  case round=>
   obtain⟨j,hj,rfl,hd,ur⟩:=hrel;obtain⟨HD,UR⟩:=aw hd ur;clear hd;by_cases hlt:j<κ x.dead
   ·have b8:((j:Int)<(κ x.dead:Int))=True:=by simp;omega
    obtain⟨pb,po,aC,_,_,hc⟩:=aH.range (aH.up DP UR) pw ae;subst aC;obtain⟨RC,DT,DN,BX⟩:=bW (hc j hlt) (xv hlt HD) (Dn (fl:=0) hlt) (aF.new wr 87 (be x.dead[j]));have cb:(wr.alloc (.cells (be x.dead[j]) 87)).cell? (ad wr.heap.size 1)=some (u6 (x.dead[j].aU:Int)):=by rw[BX.out.cell];rfl
    have U2:=an (UR.trans (ai wr (.cells (be x.dead[j]) 87)));generalize x.dead[j]=p at *;clear hc;by_cases hb:p.aU<=0
    ·have b9:(0<p.aU)=False:=by simp;omega
     have av:=an (DT.trans (h8 hb));clear hb;go_wp2_with(first
      | refine cT 87 54 (be p) RC ?_
      | refine bB 87 fL ?_
      | refine eh 87 8 55 wr (be p) 87 (be hole) ?_)
     go_roundw
     case rel=>exact⟨j+1,ae,aq,av,U2⟩
     case measure=>simp only[Aau];omega
    ·have b9:(0<p.aU)=True:=by simp;omega
     have DF:=an (HE.trans (DN hb));clear hb;go_wp2_with(first
      | refine cT 87 54 (be p) RC ?_
      | refine bB 87 fL ?_
      | refine eh 87 8 55 wr (be p) 87 (be hole) ?_)
     go_ret;exact⟨by rw[DF.out];rfl,U2⟩
   ·exact KT
 ·have b0:((x.prev:Int)==(0:Int))=false:=by simp;omega
  have ax:((x.prev:Int) != (0:Int))=true:=ab
  have P1:=an ((λp=>jz w _ l hv p) x.prev);cases h1:aL l x.prev with
  | none=>have HE:=an (aj h0 h1);rw[h1]at P1;unfold eJ at P1;clear h0 h1 aa aj ak al au;exact KU
  | some i=>
   obtain⟨H0,H1⟩:=aw h0 h1;rw[h1]at P1;unfold eJ at P1;obtain⟨hi,_⟩:=cJ h1;obtain⟨_,_,ar,_,aJ,aK,aB,_⟩:=cf HV hi;simp only[Aai,Abq,and_true]at ar;obtain⟨rfl,rfl⟩:=ar;refine nq ?_;intro b1 b2;obtain⟨_,_,s2,_,_,s5,_⟩:=cd aB;clear h1 h0;cases hs:(recAt l i).aT with
   | false=>have HE:=an (ak i H0 H1 hs);rw[hs]at s2;clear hs aa aj ak al au;exact KU
   | true=>
    by_cases h3:x.aT=true/\x.ay<=(recAt l i).ay
    ·have HE:=an (al i H0 H1 hs h3);rw[hs]at s2;rw[h3.1]at c2;have b5:(((recAt l i).ay:Int)>=(x.ay:Int))=True:=by have:=h3.2;simp;omega
     clear hs h3 aa aj ak al au;exact KU
    ·have HE:=an (au i H0 H1 hs h3);rw[hs]at s2;clear hs aa aj ak al au;obtain⟨fl,aD⟩:=bE ((recAt l i).ay);rw[<-aD]at s5 HE h3;clear aD;cases ag:x.aT with
     | false=>
      rw[ag]at c2;clear h3 ag;go_in;go_wp2_with fail;refine rH ?_;intro w2;go_wp2;go_loopw [52] (λi wr=>∃j:Nat,j<=κ x.dead/\i=i6 j/\iQ (fl) (x.dead.take j)=true/\Up w wr) (λi _=>κ x.dead-(Aau i).toNat)
      case atStart=>exact⟨0,bT _,rfl,by simp[iQ],Up.refl _⟩
      case round=>
       obtain⟨j,hj,rfl,hd,ur⟩:=hrel;obtain⟨HD,UR⟩:=aw hd ur;clear hd;by_cases hlt:j<κ x.dead
       ·have b8:((j:Int)<(κ x.dead:Int))=True:=by simp;omega
        obtain⟨pb,po,aC,_,_,hc⟩:=aH.range (aH.up DP UR) pw ae;subst aC;refine Nh ?_;intro RC DT DN BX cb;have U2:=an (UR.trans (ai wr (.cells (be x.dead[j]) 87)));exact Ni
       ·exact KT
     | true=>
      rw[ag]at c2;have b5:((fl:Int)>=(x.ay:Int))=False:=by have:¬x.ay<=fl:=λh=>h3 ⟨ag,h⟩;simp;omega
      clear h3 ag;go_in;go_wp2_with fail;refine rH ?_;intro w2;go_wp2;go_loopw [52] (λi wr=>∃j:Nat,j<=κ x.dead/\i=i6 j/\iQ (fl) (x.dead.take j)=true/\Up w wr) (λi _=>κ x.dead-(Aau i).toNat)
      case atStart=>exact⟨0,bT _,rfl,by simp[iQ],Up.refl _⟩
      case round=>
       obtain⟨j,hj,rfl,hd,ur⟩:=hrel;obtain⟨HD,UR⟩:=aw hd ur;clear hd;by_cases hlt:j<κ x.dead
       ·have b8:((j:Int)<(κ x.dead:Int))=True:=by simp;omega
        obtain⟨pb,po,aC,_,_,hc⟩:=aH.range (aH.up DP UR) pw ae;subst aC;refine Nh ?_;intro RC DT DN BX cb;have U2:=an (UR.trans (ai _ (.cells (be x.dead[j]) 87)));exact Ni
       ·exact KT
section
open Go.Maps
theorem XR:laidOutB Aag=true:=al
theorem TY:prog.keyTypeAt 3 246=true:=al
theorem TZ:(match prog.underlying 246 with|some (.array _ _)|some (.struct _)=>true|_=>false)=true:=al
theorem yI:Keyed Aag 246:=Keyed.of_law (deep_law_laid XR (m:=3) ae (jk aA) TY TZ)
theorem TX(c:jE)(h1:c.owner<18446744073709551616)(h2:κ c.name<=9223372036854775807):∃kl,keyOf Aag 246 (.agg (eF c))=some kl:=by
 have hw:(Lit.int .u64 (c.owner:Int)).wf=true:=by exact N8
 have hs:(strOf c.name).size<=maxLen:=cj
 have hf:(Value.agg (eF c)).formed Aag 246=true:=al
 have hk:prog.keyType 246=true:=al
 have hc:prog.cellsOf 246=2:=al
 have h1:prog.cellsOf 70=1:=al
 have h2:prog.cellsOf 9=1:=al
 have key:∀d,prog.keyLits (d+2) 246 [.int .u64 (c.owner:Int),.string (strOf c.name)]=some [.int .u64 (c.owner:Int),.string (strOf c.name).data.toList]:=λd=>by simp[Program.keyLits,underlying246,underlying70,underlying9,hc,h1,h2,hw,hs]
 unfold keyOf;rw[underlying246];simp only[hk,hf,Bool.and_self,if_true];have h0:(decide (1<=prog.types.size))=true:=al
 have h0:=jk h0;have aN:∃d,prog.types.size+1=d+2:=⟨prog.types.size-1,ae⟩;obtain⟨d,hd⟩:=aN;rw[hd];show ∃kl,(prog.keyLits (d+2) 246 [.int .u64 (c.owner:Int),.string (strOf c.name)]).map _=some kl;simp_all
end
section
open Go.Maps
def A9(l:List ao):Nat->Nat
 | 0=>0
 | k+1=>(recAt l k).id
structure ZM(next:Nat)(l:List ao):Prop where
 nx:next<=281474976710655
 len:κ l<=32
 rt:∀x∈l,cK x=true
 up:∀k(h:k<κ l),A9 l k<(recAt l k).id/\(recAt l k).id<next
 nd:(l.map cb).Nodup
 el:∀k,k<κ l->oR l (recAt l k)=true
 ow:∀k,k<κ l->mm l (recAt l k)=true
def mV(D:DataW Unit)(cs:List jE):Prop:=IsMap D/\∀c:jE,∀kl,keyOf Aag 246 (.agg (eF c))=some kl->Maps.has D kl=decide (c∈cs)
theorem PU{c d:jE}(h:Value.agg (eF c)=.agg (eF d)):c=d:=by obtain⟨a,s⟩:=c;obtain⟨a2,s2⟩:=d;grind [eF,vT]
theorem VC(h:cK x=true):κ x.name<=24:=by grind [br,pe]
theorem mV.nil:mV (.map []) []:=⟨isMap_empty,λc kl _=>rfl⟩
theorem mV.put{D:DataW Unit}{cs:List jE}(h:mV D cs){c:jE}{kl:Lit}(hk:keyOf Aag 246 (.agg (eF c))=some kl)(d:DataW Unit):mV (D.put kl d) (cs++[c]):=by
 refine⟨?_,λc' ab aa=>?_⟩
 ·exact h.1.put _ _
 ·by_cases e:c'=c
  ·subst e;rw[hk]at aa;cases aa;rw[has_put_same h.1 (yI.key hk)];simp
  ·have hne:ab≠kl:=λe'=>e (PU (yI.inj aa (e' ▸ hk)));rw[has_put_other hne,h.2 c' ab aa];simp[e]
theorem Ku(w:af)(next:Nat)(v:ah)(l:List ao)(hv:cq w v l)(aL:∀x∈l,x.wf)(F:ZM next l):Aae Aag 116 #[u6 (next:Int),v] w λe w'=>e=.returned (.bool true)/\Up w w':=by
 obtain⟨a,cap,rfl⟩:=hv.slice;obtain⟨HV,HF,aQ⟩:=aV hv F aL;obtain⟨aC,aO⟩:=az F.nx F.len;have b1:((next:Int)>(281474976710655:Int))=False:=ab
 have b2:((κ l:Int)>32)=False:=ab
 have hmm:=@run_makeMap Aag;clear aL;go_in;go_wp2;clear b1 b2;clear hmm;have ZE:=an (λW:af=>(lA (P:=Aag) (t:=3) (v:=.int .i64 0) (n:=1) al).1 W);go_loopw [6,23] (λls i wr=>∃k:Nat,k<=κ l/\i=.int .i64 k/\ls=u6 (A9 l k:Int)/\(∃D,wr.ownsMap Aag 246 (plainElem (H:=Unit) Aag 3) w.heap.size k D/\mV D ((l.take k).map cb))/\Up w wr) (λ_ i _=>κ l-(Aau i).toNat)
 case atStart=>exact⟨0,bT _,rfl,rfl,⟨_,(Fw w Aag 246 (plainElem (H:=Unit) Aag 3)),mV.nil⟩,(ai w _)⟩
 case round=>
  obtain⟨k,hk,rfl,rfl,⟨D,hown,aj⟩,ur⟩:=hrel;obtain⟨OW,HK,UR⟩:=aV hown aj ur;by_cases hlt:k<κ l
  ·refine vk ?_;intro b3;obtain⟨b,off,rfl,hbs,da,dc,rg,dp⟩:=cf (HV.up UR) hlt;obtain⟨RG,SR⟩:=aw rg (Ck _ _ _ dp);have ag:recAt l k∈l:=by rw[b9 hlt];exact cw hlt
   rw[HF.out.rt _ ag]at SR;have ar:=HF.up k hlt;have b4:((((recAt l k).id:Nat):Int)<=(A9 l k:Int))=False:=ab
   have b5:((((recAt l k).id:Nat):Int)>=(next:Int))=False:=ab
   have WX:=aQ _ ag;have TK:=an (show(l.take (k+1)).map cb=(l.take k).map cb++[cb (recAt l k)] from KN);have NI:=an (show cb (recAt l k) ∉ (l.take k).map cb from by have h:=HF.nd;rw[<-fQ (k+1) l,Aar,TK.out,Aa9]at h;have:=(uN.1 h).2.2;intro hm;exact this _ hm _ aq rfl)
   have KC:=an (TX (cb (recAt l k)) (by unfold cb;split<;>simp;exact WX.2.1) (by
    have:(cb (recAt l k)).name=(recAt l k).name:=by unfold cb;split<;>rfl
    rw[this];have:=(VC (HF.rt _ ag));omega))
   have NX:=an (show A9 l (k+1)=(recAt l k).id from rfl);generalize A9 l k=ls at *;have c0:=(cd rg).1;clear ag ar;generalize recAt l k=x at *;go_wp2_with(refine arm ?_);refine SR.mono ?_;rintro e w4⟨rfl,u4⟩;have U4:=an (UR.trans u4);replace c0:=u4.cell c0;have CO:=an (Ai w4 b (off+k*11) x _ (λj u hj=>u4.cell (RG j u hj)));generalize cb x=c at *;obtain⟨kl,hkl⟩:=KC.out;have aJ:=an hkl;have hh:Maps.has D kl=false:=by rw[HK.out.2 c kl hkl];exact jj NI
   have HH:=an hh;clear hkl hh KC;go_wp2_with fail;refine CO.mono ?_;rintro e w5⟨rfl,u5⟩;obtain⟨U5,O5,U6⟩:=aV (U4.trans u5) ((OW.kept (oa u4) aq).kept (oa u5) aq) (ai w5 (.cells (eF c) 246));have O6:=an (O5.kept (oa U6) aq);have hh:=HH.out;clear c0;go_wp2_with(first
    | refine arm ?_
    | (at_lookup;refine wpList_lookup_own_ok_int _ rfl (.tmp 57) (.tmp 58) 265 rfl 246 3 .i64 yI underlying265 underlying3 (ZE _) w.heap.size k D rfl O6 _ kl rfl aJ ?_;intro cz CF a1)
    | (at_mapUpdate;refine wpList_mapUpdate_own _ rfl (.tmp 63) (.tmp 64) (.tmp 65) 265 rfl 246 3 yI underlying265 _ w.heap.size k D rfl O6 dK _ _ kl rfl rfl aJ _ [] (plainElem_int underlying3 (WalkArith.wf_i64 ae)) ?_))
   intro w7 ak ad;obtain⟨U7,au⟩:=aw ((U5.trans U6).grown ad (λkk aG=>by cases aG;exact aE _)) (show mV (D.put kl (.lit (.int .i64 (k:Int)))) ((l.take (k+1)).map cb)from by rw[TK.out];exact HK.put aJ _);clear hh HH;go_wp2;go_roundw
   case rel=>exact⟨k+1,ae,aq,by rw[NX.out],⟨_,ak,au⟩,U7⟩
   case measure=>simp only[Aau];omega
  ·obtain rfl:k=κ l:=by omega
   have b3:((κ l:Int)<(κ l:Int))=False:=aq
   go_wp2;obtain⟨w0,ay⟩:=bE (wr);subst ay;go_loopw [69] (λi wr=>∃k:Nat,k<=κ l/\i=.int .i64 k/\Up w wr) (λi _=>κ l-(Aau i).toNat)
   case atStart=>exact⟨0,bT _,rfl,UR⟩
   case round=>
    obtain⟨k,aa,rfl,ur⟩:=hrel;clear b3;by_cases hlt:k<κ l
    ·have b4:((k:Int)<(κ l:Int))=True:=by simp;omega
     obtain⟨b,off,rfl,hbs,_,_,_,_⟩:=cf (HV.up ur) hlt;have EL:=an (AD _ b _ _ _ l (HV.up ur) k hlt);rw[HF.out.el k hlt]at EL;go_wp2_with fail;refine EL.mono ?_;rintro e w4⟨rfl,u4⟩;have U4:=an (ur.trans u4);have OR:=an (BN _ b _ _ _ l (HV.up U4) ae k hlt);rw[HF.out.ow k hlt]at OR;go_wp2_with fail;refine OR.mono ?_;rintro e w5⟨rfl,u5⟩;have U5:=an (U4.trans u5);go_wp2;go_roundw
     case rel=>exact⟨k+1,ae,aq,U5⟩
     case measure=>simp only[Aau];omega
    ·obtain rfl:k=κ l:=by omega
     have b4:((κ l:Int)<(κ l:Int))=False:=aq
     go_wp2;go_ret;exact⟨rfl,ur⟩
end
theorem GU{fn:Func}{p u v z:Tmp}{ty:Aab}(h:fn.results=#[.cell p ty,.tmp u,.tmp v,.tmp z])(tmps:Array ah)(P:bp)(w:af)(g:Nat)(t:Aab)(C:Array ah)(x y r:ah)(hp:tmps.getD p Aas=pz g)(hu:tmps.getD u Aas=x)(hv:tmps.getD v Aas=y)(hz:tmps.getD z Aas=r)(hb:aF w g t C)(d:eQ)(hd:P.underlying ty=some d)(hr:d.isRow=true)(hi:(P.info? ty).map (·.size)=some C.size):(results fn tmps).run P w=.ok (.tuple #[.agg C,x,y,r]) w:=by
 simp only[results,h];have aI:tmps[p]?.getD Aas=pz g:=aa
 have ab:tmps[u]?.getD Aas=x:=aa
 have ax:tmps[v]?.getD Aas=y:=aa
 have ar:tmps[z]?.getD Aas=r:=aa
 simp[Aay,Aap,hp,aI,hu,ab,hv,ax,hz,ar,asAddr,iF (P:=P) ty g t C hb d hd hr hi]
theorem bc.ax{w w':af}{v:ah}{F:Nat->Prop}(h:bc w base v l)(T:Touch F w w')(hF:∀k,base<=k->k<w.heap.size->¬F k):bc w' base v l:=by obtain⟨ys,h1,h2,h3⟩:=h;exact⟨ys,h1,ak.ax h2 T (λb hb=>hF b (h2.aJ b hb).1 (h2.aJ b hb).2),λy hy=>ak.ax (h3 y hy) T (λb hb=>hF b ((h3 y hy).aJ b hb).1 ((h3 y hy).aJ b hb).2)⟩
theorem CW{next:Nat}{b:List aj}(h:e2 next l=some b):lL next l=some b:=by grind [e2,lL]
def SK(H:aR)(P:bq)(next:Nat)(l:List ao)(set:List bM)(ps:List au)(w:af)(e:Ab2)(w':af):Prop:=∃v u z,e=.returned (.tuple #[.agg (aO next v),u,z,.int .i64 0])/\bc w' w.heap.size v l/\hX w' w.heap.size u set/\bf w' w.heap.size z ps/\PG w H P w'
theorem DO(w:af)(H:aR)(P:bq)(A:PA w H P)(q:au)(b sp:List aj)(ps:List au)(M:lv P.C q b sp ps)(next:Nat)(l:List ao)(hb:e2 next l=some b)(aL:∀x∈l,x.wf)(F:ZM next l)(ht:64<=κ P.C/\(κ P.C)<=1024)(f:Nat->Bool)(hf:oF f (κ P.C))(aY:sp=iS (κ P.C) (aB f 4096))(bd:κ ps<=100000):Aae Aag 58 #[pz H.pb,.agg (be q)] w λe w'=>SK H P next l (aB f 4096) ps w e w':=by
 obtain⟨r1,r2,lv1,lv2,lvq,BQ,BB1,BB2,⟨bQ,bP⟩,⟨bS,aX⟩,hps',hpq⟩:=M.ex;have bm:=jd r1 (κ b) r2 (κ sp);have U2:=an (ai (w.alloc (.cells (be q) 87)) (.cells (aO 0 (nl)) 73));have b2:=aF.new (w.alloc (.cells (be q) 87)) 73 (aO 0 (nl));rw[aN]at b2;have UU:=an ((ai w (.cells (be q) 87)).trans U2);have L0:=an (ri _ H P (A.up UU) q _ _ BQ);rw[bm]at L0;obtain⟨aQ,bb,ab,bg,aT⟩:=eW aL aY hps' hpq bd;have bl:=an (show(fJ r1 (κ b) r2 (κ sp)).take 20=bR r1++aW [4] [κ b] from by unfold fJ;simp only[Abc,List.flatMap_nil,Ab1];exact h5 Uu)
 have ay:=an (show(fJ r1 (κ b) r2 (κ sp)).drop 20=bR r2++aW [4] [κ sp] from by unfold fJ;simp only[Abc,List.flatMap_nil,Ab1];exact lB Uu)
 have ad:=an bm;obtain⟨tb,br⟩:=bE (fJ r1 (κ b) r2 (κ sp));rw[<-br]at L0 bl ay ad bg;clear aY hps' hpq bm br bd;go_in;go_wp2_with(refine arm ?_);refine L0.mono ?_;rintro e w3⟨vt,vq,rfl,ar,aP,bC,g3⟩;obtain⟨G3,A3,B3,N3⟩:=bW ((PG.of A UU).trans g3) g3.1 (b2.ax g3.2 ((A.up UU).cc b2 av)) (show ∀k,vt.ownBlock=some k->¬PF H k from λk hk hp=>by have:=(A.up UU).lt _ hp;have:=aP k hk;omega);have bn:=ad.out;obtain⟨va,vc,rfl⟩:=ar.slice;have aS:=mj ar;have D1:=aD.piece ar (lo:=0) (hi:=20) ae ae;have D2:=aD.piece ar (lo:=20) (hi:=40) ae ae;rw[Aaw,bl.out]at D1;rw[dq ae,ay.out]at D2;rw[bn]at aS ⊢;rw[bn]at N3;have aU:∀W,(Aav 30 (.slice va 40 vc) none (some (i6 20)) none).run Aag W=.ok (bY va 0 20 vc) W:=λW=>hj (P:=Aag) 30 dC dD va 40 vc 20 ae W;have ba:∀W,(Aav 30 (.slice va 40 vc) (some (i6 20)) none none).run Aag W=.ok (bY va 20 40 vc) W:=λW=>dg (P:=Aag) 30 dC dD va 40 vc 20 ae W;have bt:=an (show ∀k,(bY va 20 40 vc).ownBlock=some k->¬PF H k from λk hk hp=>N3 k (by
  cases va with
  | none=>simp[bY,Aan]at hk
  | some a=>unfold bY at hk;(repeat' split at hk)<;>exact hk) hp)
 obtain⟨p1,aC⟩:=bE (bY va 0 20 vc);obtain⟨p2,aI⟩:=bE (bY va 20 40 vc);rw[<-aC]at aU D1;rw[<-aI]at ba D2 bt;clear aP bn aC aI aS;go_wp2_with fail;refine((λW (AW:PA W H P) v (hv:a8 W v _)=>MN W H P AW _ bQ bP b _ BB1 v hv) w3 A3 _ D1).mono ?_;rintro e w4⟨vx,vl,rfl,bN,aa,bB,g4⟩;obtain⟨G4,A4,B4,Q4⟩:=bW (G3.trans g4) g4.1 (B3.ax g4.2 (A3.cc B3 av)) (ak.ax bC g4.2 (eE A3 bC));clear N3;go_wp2_with fail;refine((λW (AW:PA W H P) v (hv:a8 W v _)=>MN W H P AW _ bS aX _ _ BB2 v hv) w4 A4 _ (D2.ax g4.2 bt)).mono ?_;rintro e w5⟨vy,vm,rfl,bO,bG,aE,g5⟩;obtain⟨G5,R3⟩:=aw (G4.trans g5) (Rt _ _ b (bN.ax g5.2 (λk hk hp=>by have:=A3.lt _ hp;have:=aa k hk;omega)) next l (CW hb) aL);clear bG aU ba;go_wp2_with fail;refine R3.mono ?_;rintro e w6⟨vs,rfl,aG,u6⟩;go_wp2_with fail;refine(Ku _ _ _ l aG.cm aQ F).mono ?_;rintro e w7⟨rfl,u7⟩;obtain⟨G7,A7⟩:=aw ((G5.up u6).up u7) ((g5.1.up u6).up u7);go_wp2_with fail;refine(lj _ H P A7).mono ?_;refine f' ?_;intro wx;go_wp2_with fail;refine(kZ _ _ _ _ _ A7.dev).mono ?_;refine f' ?_;intro wx;go_wp2_with fail;refine(L5 _ _ ht f hf _ (by rw[<-bb.out];exact((bO.up u6).up u7))).mono ?_;rintro e w8⟨u,rfl,ou,u8⟩;obtain⟨G8,Q8,L8,M8,O8⟩:=eW (G7.up u8) (ak.up (ak.up (ak.up (ak.ax Q4 g5.2 (eE A4 Q4)) u6) u7) u8) (ak.up (ak.up (ak.up (ak.ax bB g5.2 (eE A4 bB)) u6) u7) u8) (ak.up (ak.up (ak.up aE u6) u7) u8) ((aG.up u7).up u8);obtain⟨sa,sc,rfl⟩:=O8.cm.slice;rw[bg.out]at Q8;obtain⟨L1,bz⟩:=bE (dY b lv1);obtain⟨L2,bA⟩:=bE (dY sp lv2);rw[<-bz]at L8 ab;rw[<-bA]at M8 ab;clear bz bA bg bb;obtain⟨a6,a7,rfl⟩:=(ak.row Q8 pw).slice;obtain⟨bf,bj,rfl⟩:=(ak.row L8 pw).slice;obtain⟨bh,bk,rfl⟩:=(ak.row M8 pw).slice;have al:[q].length=1:=rfl;rw[al]at Q8 ⊢;obtain⟨wc,a1⟩:=bE (w8.alloc (.cells #[.slice a6 1 a7,.slice bf (κ L1) bj,.slice bh (κ L2) bk] 88));have U9:=an (ai w8 (.cells #[.slice a6 1 a7,.slice bf (κ L1) bj,.slice bh (κ L2) bk] 88));have IL:=an (show kX (w8.alloc (.cells #[.slice a6 1 a7,.slice bf (κ L1) bj,.slice bh (κ L2) bk] 88)) (cD w8.heap.size 3 3) [[q],L1,L2] from
  ⟨[⟨a6,1,a7⟩,⟨bf,κ L1,bj⟩,⟨bh,κ L2,bk⟩],aD.ew _ _ rfl _ _ (0,0) _ 3 rfl dK rfl,rfl,λi hi _=>by
   match i,hi with
   | 0,_=>exact aH.up (ak.row Q8 pw) U9
   | 1,_=>exact aH.up (ak.row L8 pw) U9
   | 2,_=>exact aH.up (ak.row M8 pw) U9
   | (k+3),hi=>exact absurd hi aq⟩)
 have aK:1+(κ L1+κ L2)<=100000:=by have h1:=aT.out;rw[ab.out]at h1;simp at h1;omega
 have CC:=an (Al _ _ _ IL (by simp[gS];omega) (by simp[gS];omega) aq);have FL:[[q],L1,L2].flatten=q::(L1++L2):=aq
 rw[FL]at CC;rw[<-a1]at CC U9;have bD:=an a1;clear FL a1 aK;go_wp2_with(first
  | ((with_reducible refine eP _ _ ?_);refine kV rfl _ 0 1 (.tmp 82) (.tmp 83) rfl _ _ _ (Ac _ _ _ _) rfl rfl ?_))
 rw[<-bD.out];refine CC.mono ?_;rintro e dt⟨v17,rfl,ov,bF⟩;obtain⟨bx,bu,bw⟩:=aV ((G8.up U9).up bF) ((((((B4.ax g5.2 (A4.cc B4 av)).up u6).up u7).up u8).up U9).up bF) (ak.up (ak.up ou U9) bF);go_wp2_with(first|refine arm ?_|refine oJ ?_);intro wz hbz ag;obtain⟨aJ,bH,bI,bJ,bK,bL⟩:=q5 UU.size b2.lt G3.2.size G4.2.size G5.2.size G7.2.size;obtain⟨bM,bV⟩:=az G8.2.size U9.size;obtain⟨VZ,EZ⟩:=aw ((ak.kept ov ag (.inr (eB av bu ov))).mono (base':=w.heap.size) ae) ((ak.kept bw ag (.inr (eB av bu bw))).mono (base':=w.heap.size) ae);obtain⟨ys,y1,y2,y3⟩:=((O8.up U9).up bF);rw[<-ab.out]at VZ;obtain⟨bT,bU,rfl⟩:=(ak.row VZ pw).slice;obtain⟨bo,bs,rfl⟩:=(ak.row EZ Cj).slice;go_wp2;exact kF (v:=.tuple #[.agg (aO next (.slice sa (κ l) sc)),.slice bo (κ (aB f 4096)) bs,.slice bT (κ ps) bU,i6 0]) (GU rfl _ _ _ _ _ _ _ _ _ rfl rfl rfl rfl hbz _ underlying73 rfl (dW _ _)) rfl ⟨_,_,_,rfl,((show bc wz _ _ l from⟨ys,y1,ak.kept y2 ag (.inr (eB av bu y2)),λy hy=>ak.kept (y3 y hy) ag (.inr (eB av bu (y3 y hy)))⟩).mono (base':=w.heap.size) ae),EZ,VZ,(PG.grown bx ag (bx.1.cc bu av) ae)⟩
def hS(full:List aj):Option (List aj):=match dm full with
 | some (v,s)=>if s=[] then some v else none
 | none=>none
def dV(full:List aj):Option (List aj × List aj):=match dm full with
 | some (v,s)=>if s=[] then none else some (v,s)
 | none=>none
def C1:Option (List aj)->ah
 | none=>.tuple #[.string ⟨#[]⟩,.int .i64 141]
 | some v=>.tuple #[.string (strOf v),.int .i64 0]
def a1(l:List ao)(full:List aj):Option Nat:=match dP l full with
 | .error _=>none
 | .ok i=>aL l (recAt l i).id
def dy(l:List ao)(full:List aj):Except Nat Nat:=match hS full with
 | none=>.error 141
 | some _=>match a1 l full with
  | none=>.error 172
  | some i=>.ok i
def Mf:Except Nat Nat->ah
 | .error n=>.tuple #[.int .i64 (-1),.int .i64 (n:Int)]
 | .ok i=>.tuple #[.int .i64 (i:Int),.int .i64 0]
section
variable {l:List ao} {full v s:List aj} {i:Nat}
theorem Mg(h:dm full=none):hS full=none:=by grind [hS]
theorem Mh(h:dm full=some (v,s))(h0:s=[]):hS full=some v:=by grind [hS]
theorem Mi(h:dm full=some (v,s))(h0:¬s=[]):hS full=none:=by grind [hS]
theorem YL(h:dm full=none):dV full=none:=by grind [dV]
theorem YM(h:dm full=some (v,s))(h0:s=[]):dV full=none:=by grind [dV]
theorem YN(h:dm full=some (v,s))(h0:¬s=[]):dV full=some (v,s):=by grind [dV]
theorem Rx{n:Nat}(h:dP l full=.error n):a1 l full=none:=by grind [a1]
theorem Ry(h:dP l full=.ok i):a1 l full=aL l (recAt l i).id:=by grind [a1]
theorem BA{n:Nat}(h:dP l full=.error n):n=141\/n=161:=rD
theorem WO(h:hS full=none):dy l full=.error 141:=uY
theorem WQ(h:hS full=some v)(h2:a1 l full=none):dy l full=.error 172:=uY
theorem WR(h:hS full=some v)(h2:a1 l full=some i):dy l full=.ok i:=uY
end
theorem q4(w:af)(full:List aj)(hf:κ full<=9223372036854775807):Aae Aag 93 #[.string (strOf full)] w λe w'=>e=.returned (C1 (hS full))/\Up w w':=by
 have SP:=an (jl w full hf);cases hs:dm full with
 | none=>rw[Mg hs];rw[hs]at SP;unfold gw at SP;unfold C1;clear hs;go_in;go_wp2_with fail;refine SP.mono ?_;rintro e w2⟨rfl,u2⟩;go_wp2;go_ret2;simp;omega
 | some vs=>
  obtain⟨vn,sn⟩:=vs;have aa:=fX sn;by_cases h0:sn=[]
  ·rw[Mh hs h0];rw[hs]at SP;unfold gw at SP;unfold C1;simp only at SP;rw[show decide (sn=[])=true from ab]at aa;have ae:((strOf sn).toList != [])=false:=by grind
   exact Vf
  ·rw[Mi hs h0];rw[hs]at SP;unfold gw at SP;unfold C1;simp only at SP;rw[show decide (sn=[])=false from ab]at aa;have ae:((strOf sn).toList != [])=true:=by grind
   exact Vf
def sI:Option (List aj × List aj)->ah
 | none=>.tuple #[.string ⟨#[]⟩,.string ⟨#[]⟩,.int .i64 141]
 | some (v,s)=>.tuple #[.string (strOf v),.string (strOf s),.int .i64 0]
theorem pC(w:af)(full:List aj)(hf:κ full<=9223372036854775807):Aae Aag 141 #[.string (strOf full)] w λe w'=>e=.returned (sI (dV full))/\Up w w':=by
 have SP:=an (jl w full hf);cases hs:dm full with
 | none=>rw[YL hs];rw[hs]at SP;unfold gw at SP;unfold sI;clear hs;go_in;go_wp2_with fail;refine SP.mono ?_;rintro e w2⟨rfl,u2⟩;go_wp2;go_ret3;simp;omega
 | some vs=>
  obtain⟨vn,sn⟩:=vs;have aa:=fX sn;by_cases h0:sn=[]
  ·rw[YM hs h0];rw[hs]at SP;unfold gw at SP;unfold sI;simp only at SP;rw[show decide (sn=[])=true from ab]at aa;have ae:((strOf sn).toList != [])=false:=by grind
   exact Vg
  ·rw[YN hs h0];rw[hs]at SP;unfold gw at SP;unfold sI;simp only at SP;rw[show decide (sn=[])=false from ab]at aa;have ae:((strOf sn).toList != [])=true:=by grind
   exact Vg
theorem mz(w:af)(next:Nat)(v:ah)(l:List ao)(hv:cq w v l)(hr:∀x∈l,κ x.dead*24<=140737488355328)(full:List aj)(hf:κ full<=9223372036854775807):Aae Aag 95 #[.agg (aO next v),.string (strOf full)] w λe w'=>e=.returned (i6 (eJ (a1 l full)))/\Up w w':=by
 obtain⟨a,cap,rfl⟩:=hv.slice;have U1:=an (ai w (.cells (aO next (.slice a (κ l) cap)) 73));have B1:=aF.new w 73 (aO next (.slice a (κ l) cap));have c1:(w.alloc (.cells (aO next (.slice a (κ l) cap)) 73)).cell? (ad w.heap.size 1)=some (.slice a (κ l) cap):=B1.cell 1;obtain⟨C1,HV⟩:=aw c1 (hv.up U1);go_in;go_wp2_with(refine arm ?_);refine(rQ _ _ l HV hr _ hf).mono ?_;rintro e w2(⟨n,hn,rfl,u2⟩|⟨i,vd,hi,aH,rfl,od,u2⟩)
 ·have HE:=an (show eJ (a1 l full)=-1 from by rw[Rx hn];rfl);have nz:((n:Int) != 0)=true:=by have:n=141\/n=161:=BA hn;simp;omega
  obtain⟨IZ,OZ⟩:=aw gM gU;clear hn c1;go_wp2_with(refine arm ?_);go_ret;exact⟨lC,((U1.trans u2).trans (ai _ _))⟩
 ·have HE:=an (show a1 l full=aL l (recAt l i).id from Ry hi);obtain⟨da,dc,rfl⟩:=(ak.row od pw).slice;have U3:=an (ai w2 (.cells (b8 (recAt l i) (.slice da (κ (recAt l i).dead) dc)) 90));have B3:=(aF.new w2 90 (b8 (recAt l i) (.slice da (κ (recAt l i).dead) dc)));have d1:(w2.alloc (.cells (b8 (recAt l i) (.slice da (κ (recAt l i).dead) dc)) 90)).cell? (ad w2.heap.size 0)=some (u6 ((recAt l i).id:Int)):=B3.cell 0;have e1:(w2.alloc (.cells (b8 (recAt l i) (.slice da (κ (recAt l i).dead) dc)) 90)).cell? (ad w.heap.size 1)=some (.slice a (κ l) cap):=U3.cell (u2.cell C1);obtain⟨PL,IZ,OZ⟩:=aV (py _ _ l ((HV.up u2).up U3) (recAt l i).id) (ku (recAt l i) (.slice da (κ (recAt l i).dead) dc)) (mC (recAt l i) da (κ (recAt l i).dead) dc);clear hi c1;generalize recAt l i=x at *;go_wp2_with(refine arm ?_);refine PL.mono ?_;rintro e w3⟨rfl,u3⟩;go_wp2;go_ret;exact⟨lC,((U1.trans u2).trans U3).trans u3⟩
theorem bc.Il{w w':af}{v:ah}{C:Array ah}(h:bc w base v l)(hb:aF w g 73 C)(hg:w.grownBy w' (some g)):bc w' base v l:=by obtain⟨ys,h1,h2,h3⟩:=h;exact⟨ys,h1,ak.kept h2 hg (.inr (eB av hb h2)),λy hy=>ak.kept (h3 y hy) hg (.inr (eB av hb (h3 y hy)))⟩
def aaV(base next:Nat)(l:List ao)(vd:ah)(w:af)(e:Ab2)(w':af):Prop:=∃(v':ah)(ys:List gH),e=.returned (.agg (aO next v'))/\ys.map (·.d)=l/\(os base v' ys).P w'/\(∀n,(os base v' ys).F n->w.heap.size<=n/\n<w'.heap.size\/vd.ownBlock=some n)/\Up w w'
theorem Sh(w:af)(next:Nat)(v:ah)(l:List ao)(hv:cq w v l)(hr:∀x∈l,κ x.dead*24<=140737488355328)(full:List aj)(hf:κ full<=9223372036854775807):Aae Aag 144 #[.agg (aO next v),.string (strOf full)] w λe w'=>e=.returned (Mf (dy l full))/\Up w w':=by
 obtain⟨a,cap,rfl⟩:=hv.slice;obtain⟨U1,B1,VN,RN⟩:=bW (ai w (.cells (aO next (.slice a (κ l) cap)) 73)) (aF.new w 73 (aO next (.slice a (κ l) cap))) (q4 (w.alloc (.cells (aO next (.slice a (κ l) cap)) 73)) full hf) (λW (u:Up w W)=>mz W next _ l (hv.up u) hr full hf);clear hv hr hf;cases hvo:hS full with
 | none=>
  have HE:=an (WO (l:=l) hvo);rw[hvo]at VN;unfold C1 at VN;clear hvo;go_in;go_wp2_with(first
   | refine hs 73 0 (aO next (.slice a (κ l) cap)) ?_)
  refine VN.mono ?_;rintro e w2⟨rfl,u2⟩;obtain⟨U2,B2⟩:=aw (U1.trans u2) (B1.up u2);clear u2;go_wp2_with fail;go_ret2;exact⟨lC,U2⟩
 | some vn=>
  rw[hvo]at VN;unfold C1 at VN;simp only at VN;cases hn:a1 l full with
  | none=>have HE:=an (WQ hvo hn);rw[hn]at RN;unfold eJ at RN;exact UD
  | some i=>
   have HE:=an (WR hvo hn);rw[hn]at RN;unfold eJ at RN;simp only at RN;have b1:((i:Int)<0)=False:=aq
   exact UD
theorem tF(w:af)(next:Nat)(v:ah)(l:List ao)(hv:cq w v l)(hl:κ l<=1000)(hr:∀x∈l,κ x.dead*24<=140737488355328)(hn:next<18446744073709551615)(base:Nat)(ag:base<=w.heap.size)(x:ao)(vd:ah)(hd:bf w base vd x.dead):Aae Aag 96 #[.agg (aO next v),.agg (b8 x vd)] w λe w'=>aaV base (next+1) (l++[x]) vd w e w':=by
 obtain⟨a,cap,rfl⟩:=hv.slice;obtain⟨da,dc,rfl⟩:=(ak.row hd pw).slice;have s:=Fr.start w;have wn:IntKind.u64.wrap ((next:Int)+1)=((next+1:Nat):Int):=IntWalk.u64_in _ ae;go_in;go_wp2_with(refine fw s ?_;intro _ w s);refine cH ?_;intro w vx ox u;obtain⟨ax,cx,rfl⟩:=ox.cm.slice;obtain⟨ys,e,z⟩:=Rz.s2 ox u s.t.size;obtain⟨s,hy⟩:=az (s.ack z) (aan e);replace e:=an e;replace hy:=an hy;have au:=an (show κ ys<=1000 from hy ▸ hl);go_wp2_with(first|(refine fw s ?_;intro _ w s)|(refine ZY s ?_;intro g w s)|(at_builtin;refine fap s ?_ (hl:=au);intro a7 c7 w s));refine bj ?_;have d:=ak.up hd s.pure;have r:ak _ _ _ _ _ _ _:=s.p (YH _ (.slice a7 (κ ys+1) c7) _) gG;have q:∀y∈ys,_:=s.p (VI _ ys) gG;refine⟨_,ys++[⟨x,da,κ x.dead,dc⟩],rfl,by rw[Aar,e.out];rfl,⟨r.mono ag,λy hy=>?_⟩,λn hn=>?_,s.pure⟩
 ·rcases Aa8.1 hy with h|h
  ·exact(q y h).mono ag
  ·rw[kG.1 h];exact d
 ·rcases hn with hn|⟨y,hy,hn⟩
  ·exact .inl (r.aJ n hn)
  ·rcases Aa8.1 hy with h|h
   ·exact .inl ((q y h).aJ n hn)
   ·rw[kG.1 h]at hn;exact .inr hn
def Hu(r:Except Nat (Nat × List ao))(w:af)(e:Ab2)(w':af):Prop:=(∃(n nx:Nat)(va:Option Adr)(vm vc:Nat),r=.error n/\e=.returned (.tuple #[.agg (aO nx (.slice va vm vc)),.int .i64 (n:Int)])/\Up w w')\/(∃(nx:Nat)(l':List ao)(v':ah),r=.ok (nx,l')/\e=.returned (.tuple #[.agg (aO nx v'),.int .i64 0])/\bc w' w.heap.size v' l'/\Up w w')
section
variable {P:bp}
end
def ef(id:Nat)(name:List aj)(blocks:Int):ao:=⟨id,name,false,id,0,0,blocks,hole,[]⟩
theorem Ex(id:Nat)(name:List aj)(blocks:Int):prog.built 90 [(0,u6 (id:Int)),(1,.string (strOf name)),(3,u6 (id:Int)),(6,i6 blocks)]=some (b8 (ef id name blocks) (nl)):=al
def cU(next:Nat)(l:List ao)(full:List aj)(blocks:Int):Except Nat (Nat × List ao):=match hS full with
 | none=>.error 141
 | some eC=>if blocks<1\/blocks>64 then .error 176 else if 32<=κ l then .error 175 else match a1 l full with
  | some _=>.error 171
  | none=>.ok (next+1,l++[ef next eC blocks])
section
variable {next:Nat} {l:List ao} {full eC:List aj} {blocks:Int} {i:Nat}
theorem P4(h:hS full=none):cU next l full blocks=.error 141:=o3
theorem P5(h:hS full=some eC)(h1:blocks<1\/blocks>64):cU next l full blocks=.error 176:=o3
theorem P6(h:hS full=some eC)(h1:¬(blocks<1\/blocks>64))(h2:32<=κ l):cU next l full blocks=.error 175:=o3
theorem P7(h:hS full=some eC)(h1:¬(blocks<1\/blocks>64))(h2:¬32<=κ l)(h3:a1 l full=some i):cU next l full blocks=.error 171:=o3
theorem P8(h:hS full=some eC)(h1:¬(blocks<1\/blocks>64))(h2:¬32<=κ l)(h3:a1 l full=none):cU next l full blocks=.ok (next+1,l++[ef next eC blocks]):=o3
end
theorem Ap(w:af)(next:Nat)(v:ah)(l:List ao)(hv:cq w v l)(hl:κ l<=1000)(hr:∀x∈l,κ x.dead*24<=140737488355328)(hn:next<18446744073709551615)(full:List aj)(hf:κ full<=9223372036854775807)(blocks:Int):Aae Aag 42 #[.agg (aO next v),.string (strOf full),.int .i64 blocks] w λe w'=>Hu (cU next l full blocks) w e w':=by
 obtain⟨a,cap,rfl⟩:=hv.slice;have s:=Fr.start w;go_in;go_wp2_with(refine fw s ?_;intro _ w s);refine(q4 w full hf).mono ?_;refine er ?_;intro w u s;cases hvo:hS full with
 | none=>simp only[C1];go_wp2_with(refine fw s ?_;intro _ w s);refine cH ?_;intro w vx ox u;obtain⟨ax,cx,rfl⟩:=ox.cm.slice;refine cQ ?_;intro ys e z s;go_wp2_with(refine fw s ?_;intro _ w s);refine bj ?_;exact .inl ⟨141,_,_,_,_,P4 hvo,rfl,s.pure⟩
 | some eC=>
  simp only[C1];by_cases h1:blocks<1\/blocks>64
  ·have g1:(blocks<1)=True\/(blocks<1)=False/\(blocks>64)=True:=by
    by_cases h:blocks<1
    ·exact .inl (ee h)
    ·exact .inr ⟨cI h,ee ae⟩
   rcases g1 with g1|⟨g1,g2⟩
   all_goals
    go_wp2_with(refine fw s ?_;intro _ w s);refine cH ?_;intro w vx ox u;obtain⟨ax,cx,rfl⟩:=ox.cm.slice;refine cQ ?_;intro ys e z s;go_wp2_with(refine fw s ?_;intro _ w s);refine bj ?_;exact .inl ⟨176,_,_,_,_,P5 hvo h1,rfl,s.pure⟩
  have g1:(blocks<1)=False:=cI ae;have g2:(blocks>64)=False:=cI ae;by_cases h2:32<=κ l
  ·have g3:((κ l:Int)>=32)=True:=ee ae;go_wp2_with(refine fw s ?_;intro _ w s);refine cH ?_;intro w vx ox u;obtain⟨ax,cx,rfl⟩:=ox.cm.slice;refine cQ ?_;intro ys e z s;go_wp2_with(refine fw s ?_;intro _ w s);refine bj ?_;exact .inl ⟨175,_,_,_,_,P6 hvo h1 h2,rfl,s.pure⟩
  have g3:((κ l:Int)>=32)=False:=cI ae;go_wp2_with(refine fw s ?_;intro _ w s);refine Ge ?_;intro w u s;cases aP:a1 l full with
  | some i=>simp only[eJ];have g4:((i:Int)>=0)=True:=ee ae;go_wp2_with(refine fw s ?_;intro _ w s);refine cH ?_;intro w vx ox u;obtain⟨ax,cx,rfl⟩:=ox.cm.slice;refine cQ ?_;intro ys e z s;go_wp2_with(refine fw s ?_;intro _ w s);refine bj ?_;exact .inl ⟨171,_,_,_,_,P7 hvo h1 h2 aP,rfl,s.pure⟩
  | none=>simp only[eJ];have BN:=an (Ex next eC blocks);go_wp2_with(refine fw s ?_;intro _ w s);refine(tF w next _ l (hv.up s.pure) hl hr hn _ s.t.size (ef next eC blocks) nl (ak.nil _ _ _ _ _)).mono ?_;rintro e w⟨v',ys,rfl,e0,p,f,u⟩;have e:=an e0;clear e0;obtain⟨ax,cx,rfl⟩:=(ak.row p.1 lV).slice;have s:=s.new (.one u p λn h=>(f n h).resolve_right ti);go_wp2_with(refine fw s ?_;intro _ w s);refine bj ?_;exact .inr ⟨_,_,_,P8 hvo h1 h2 aP,rfl,by rw[<-e.out];exact s.cm,s.pure⟩
theorem bc.at{v:ah}(h:bc w base v l)(h0:0<κ l):∃g cap,v=cD g (κ l) cap/\base<=g:=by obtain⟨ys,h1,h2,h3⟩:=h;obtain⟨_,h4⟩:=h2;grind
theorem il{full:List aj}(h:a1 l full=some i):i<κ l:=by
 unfold a1 at h;split at h
 ·cases h
 ·exact(cJ h).1
def j5(next:Nat)(x:ao)(sn:List aj)(ay:Nat):ao:={x with id:=next,name:=sn,aT:=true,owner:=x.id,ay:=ay}
def nW(next:Nat)(x:ao):ao:={x with prev:=next,dead:=[]}
def e4(next:Nat)(l:List ao)(full:List aj)(ay:Nat):Except Nat (Nat × List ao):=match dV full with
 | none=>.error 141
 | some (eC,sn)=>match a1 l eC with
  | none=>.error 172
  | some i=>if 32<=κ l then .error 175 else match a1 l full with
   | some _=>.error 171
   | none=>if ay<1\/ay>281474976710655\/ay<=b0 l (recAt l i).id then .error 176 else .ok (next+1,(l++[j5 next (recAt l i) sn ay]).set i (nW next (recAt l i)))
section
variable {next:Nat} {l:List ao} {full eC sn:List aj} {ay i j:Nat}
theorem YO(h:dV full=none):e4 next l full ay=.error 141:=qE
theorem YP(h:dV full=some (eC,sn))(h1:a1 l eC=none):e4 next l full ay=.error 172:=qE
theorem YQ(h:dV full=some (eC,sn))(h1:a1 l eC=some i)(h2:32<=κ l):e4 next l full ay=.error 175:=qE
theorem YR(h:dV full=some (eC,sn))(h1:a1 l eC=some i)(h2:¬32<=κ l)(h3:a1 l full=some j):e4 next l full ay=.error 171:=qE
theorem G3(h:dV full=some (eC,sn))(h1:a1 l eC=some i)(h2:¬32<=κ l)(h3:a1 l full=none)(h4:ay<1\/ay>281474976710655\/ay<=b0 l (recAt l i).id):e4 next l full ay=.error 176:=qE
theorem YS(h:dV full=some (eC,sn))(h1:a1 l eC=some i)(h2:¬32<=κ l)(h3:a1 l full=none)(h4:¬(ay<1\/ay>281474976710655\/ay<=b0 l (recAt l i).id)):e4 next l full ay=.ok (next+1,(l++[j5 next (recAt l i) sn ay]).set i (nW next (recAt l i))):=qE
theorem RQ(h:dV full=some (eC,sn)):κ eC<=κ full:=by grind [dV,dm]
end
theorem Jk(w:af)(next:Nat)(v:ah)(l:List ao)(hv:cq w v l)(hl:κ l<=1000)(hr:∀x∈l,κ x.dead*24<=140737488355328)(hn:next<18446744073709551615)(full:List aj)(hf:κ full<=9223372036854775807)(ay:Nat)(aG:ay<18446744073709551616):Aae Aag 77 #[.agg (aO next v),.string (strOf full),.int .u64 (ay:Int)] w λe w'=>Hu (e4 next l full ay) w e w':=by
 obtain⟨a,cap,rfl⟩:=hv.slice;have s:=Fr.start w;go_in;go_wp2_with(refine fw s ?_;intro _ w s);refine(pC w full hf).mono ?_;refine er ?_;intro w u s;cases hvo:dV full with
 | none=>simp only[sI];go_wp2_with(refine fw s ?_;intro _ w s);refine cH ?_;intro w vx ox u;obtain⟨ax,cx,rfl⟩:=ox.cm.slice;refine cQ ?_;intro ys e z s;go_wp2_with(refine fw s ?_;intro _ w s);refine bj ?_;exact .inl ⟨141,_,_,_,_,YO hvo,rfl,s.pure⟩
 | some vs=>
  obtain⟨eC,sn⟩:=vs;replace hvo:=an hvo;simp only[sI];go_wp2_with(refine fw s ?_;intro _ w s);refine(mz w next _ l (hv.up s.pure) hr eC (bK (RQ hvo) hf)).mono ?_;refine er ?_;intro w u s;cases aL:a1 l eC with
  | none=>simp only[eJ];go_wp2_with(refine fw s ?_;intro _ w s);refine cH ?_;intro w vx ox u;obtain⟨ax,cx,rfl⟩:=ox.cm.slice;refine cQ ?_;intro ys e z s;go_wp2_with(refine fw s ?_;intro _ w s);refine bj ?_;exact .inl ⟨172,_,_,_,_,YP hvo aL,rfl,s.pure⟩
  | some i=>
   have hi:=il aL;replace aL:=an aL;refine F8 ?_;intro b1 b2 b3;by_cases h2:32<=κ l
   ·have g3:((κ l:Int)>=32)=True:=ee ae;go_wp2_with(refine fw s ?_;intro _ w s);refine cH ?_;intro w vx ox u;obtain⟨ax,cx,rfl⟩:=ox.cm.slice;refine cQ ?_;intro ys e z s;go_wp2_with(refine fw s ?_;intro _ w s);refine bj ?_;exact .inl ⟨175,_,_,_,_,YQ hvo aL h2,rfl,s.pure⟩
   have g3:((κ l:Int)>=32)=False:=cI ae;go_wp2_with(refine fw s ?_;intro _ w s);refine Ge ?_;intro w u s;cases aP:a1 l full with
   | some j=>simp only[eJ];have g4:((j:Int)>=0)=True:=ee ae;go_wp2_with(refine fw s ?_;intro _ w s);refine cH ?_;intro w vx ox u;obtain⟨ax,cx,rfl⟩:=ox.cm.slice;refine cQ ?_;intro ys e z s;go_wp2_with(refine fw s ?_;intro _ w s);refine bj ?_;exact .inl ⟨171,_,_,_,_,YR hvo aL h2 aP,rfl,s.pure⟩
   | none=>
    replace aP:=an aP;simp only[eJ];obtain⟨b,off,ar,aB,da,dc,rg,dp⟩:=cf hv hi;subst ar;have i0:=(cd rg).1;by_cases g5:ay<1
    ·have t5:((ay:Int)<1)=True:=ee ae;go_wp2_with(refine fw s ?_;intro _ w s);refine cH ?_;intro w vx ox u;obtain⟨ax,cx,rfl⟩:=ox.cm.slice;refine cQ ?_;intro ys e z s;go_wp2_with(refine fw s ?_;intro _ w s);refine bj ?_;exact .inl ⟨176,_,_,_,_,G3 hvo aL h2 aP (.inl g5),rfl,s.pure⟩
    have t5:((ay:Int)<1)=False:=cI ae;by_cases g6:ay>281474976710655
    ·have t6:((ay:Int)>281474976710655)=True:=ee ae;go_wp2_with(refine fw s ?_;intro _ w s);refine cH ?_;intro w vx ox u;obtain⟨ax,cx,rfl⟩:=ox.cm.slice;refine cQ ?_;intro ys e z s;go_wp2_with(refine fw s ?_;intro _ w s);refine bj ?_;exact .inl ⟨176,_,_,_,_,G3 hvo aL h2 aP (.inr (.inl g6)),rfl,s.pure⟩
    have t6:((ay:Int)>281474976710655)=False:=cI ae;go_wp2_with(refine fw s ?_;intro _ w s);refine(rl w _ l (hv.up s.pure) (recAt l i).id).mono ?_;rintro e _⟨rfl,rfl⟩;by_cases g7:ay<=b0 l (recAt l i).id
    ·have t7:((ay:Int)<=(b0 l (recAt l i).id:Int))=True:=ee ae;go_wp2_with(refine fw s ?_;intro _ w s);refine cH ?_;intro w vx ox u;obtain⟨ax,cx,rfl⟩:=ox.cm.slice;refine cQ ?_;intro ys e z s;go_wp2_with(refine fw s ?_;intro _ w s);refine bj ?_;exact .inl ⟨176,_,_,_,_,G3 hvo aL h2 aP (.inr (.inr g7)),rfl,s.pure⟩
    have t7:((ay:Int)<=(b0 l (recAt l i).id:Int))=False:=cI ae;go_wp2_with(refine fw s ?_;intro _ w s);refine(kS w (recAt l i) _ (aH.up dp s.pure) (hr _ FD)).mono ?_;rintro e w⟨vd,rfl,od,u⟩;obtain⟨na,nc,rfl⟩:=(ak.row od pw).slice;have s:=s.new (.q od u s.t.size);obtain⟨x,hx⟩:=bE (recAt l i);have HX:=an hx;rw[<-hx]at s ⊢;clear hx;go_wp2_with(refine fw s ?_;intro _ w s);refine(tF w next _ l (hv.up s.pure) hl hr hn _ s.t.size (j5 next x sn ay) _ s.CU).mono ?_;rintro e w⟨v',ys,rfl,e0,p,f,u⟩;obtain⟨g,cx,rfl,_⟩:=(show bc w _ v' _ from⟨ys,e0,p⟩).at aq;have s:=s.aa7 p f u;have ad:i<κ ys:=by rw[<-Aac (f:=gH.d),e0,Aaf];omega
    have ed:ys[i].d=recAt l i:=by rw[O4 e0 ad,b9 (by rw[Aaf];omega),b9 hi,wH]
    have e:=an e0;obtain⟨n9,aa⟩:=bE (κ (l++[j5 next x sn ay]));rw[<-aa]at s ⊢;have b4:((i:Int)<(n9:Int))=True:=by rw[aa,Aaf];simp;omega
    clear e0 aa p f;go_wp2_with(refine fw s ?_;intro _ w s);refine kv s (λw s=>?_);repeat refine kt ?_
    refine kq i 4 ⟨{ys[i].d with prev:=next},ys[i].a,ys[i].n,ys[i].c⟩ (λw s=>?_) (h6 ad);repeat refine kt ?_
    refine kq i 10 ⟨nW next ys[i].d,none,0,0⟩ (λw s=>?_) (uQ ad);repeat refine kt ?_
    refine kd (λw u s=>?_);go_wp2_with(refine fw s ?_;intro _ w s);refine bj ?_;refine .inr ⟨_,_,_,YS hvo aL h2 aP ae,rfl,?_,s.pure⟩;have:=s.cm;rw[nQ,nQ,e.out,wN,ed]at this;rw[<-HX.out]at this ⊢;exact this
section
variable {P:bp} {ops:Array Abn} {S:af->Prop} {o:Abn} {a:Act} {v:ah}
end
def fh(next:Nat)(eC:List aj)(x:ao):ao:=⟨next,eC,false,next,x.id,0,x.blocks,x.root,[]⟩
theorem CL(next:Nat)(eC:List aj)(x:ao):prog.built 90 [(0,u6 (next:Int)),(1,.string (strOf eC)),(3,u6 (next:Int)),(4,u6 (x.id:Int)),(6,i6 x.blocks),(7,.agg (be x.root))]=some (b8 (fh next eC x) (nl)):=al
def dO(next:Nat)(l:List ao)(nj to:List aj):Except Nat (Nat × List ao):=match dV nj with
 | none=>.error 141
 | some _=>match hS to with
  | none=>.error 141
  | some eC=>match a1 l nj with
   | none=>.error 172
   | some i=>if 32<=κ l then .error 175 else match a1 l to with
    | some _=>.error 171
    | none=>.ok (next+1,l++[fh next eC (recAt l i)])
section
variable {next:Nat} {l:List ao} {nj to eC:List aj} {vs:List aj × List aj} {i j:Nat}
theorem Tg(h:dV nj=none):dO next l nj to=.error 141:=rE
theorem Th(h:dV nj=some vs)(h1:hS to=none):dO next l nj to=.error 141:=rE
theorem Ti(h:dV nj=some vs)(h1:hS to=some eC)(h2:a1 l nj=none):dO next l nj to=.error 172:=rE
theorem Tj(h:dV nj=some vs)(h1:hS to=some eC)(h2:a1 l nj=some i)(h3:32<=κ l):dO next l nj to=.error 175:=rE
theorem Tk(h:dV nj=some vs)(h1:hS to=some eC)(h2:a1 l nj=some i)(h3:¬32<=κ l)(h4:a1 l to=some j):dO next l nj to=.error 171:=rE
theorem Tl(h:dV nj=some vs)(h1:hS to=some eC)(h2:a1 l nj=some i)(h3:¬32<=κ l)(h4:a1 l to=none):dO next l nj to=.ok (next+1,l++[fh next eC (recAt l i)]):=rE
end
theorem Dj(w:af)(next:Nat)(v:ah)(l:List ao)(hv:cq w v l)(hl:κ l<=1000)(hr:∀x∈l,κ x.dead*24<=140737488355328)(hn:next<18446744073709551615)(nj to:List aj)(hf:κ nj<=9223372036854775807)(av:κ to<=9223372036854775807):Aae Aag 78 #[.agg (aO next v),.string (strOf nj),.string (strOf to)] w λe w'=>Hu (dO next l nj to) w e w':=by
 obtain⟨a,cap,rfl⟩:=hv.slice;have s:=Fr.start w;go_in;go_wp2_with(refine fw s ?_;intro _ w s);refine(pC w nj hf).mono ?_;refine er ?_;intro w u s;cases aC:dV nj with
 | none=>simp only[sI];go_wp2_with(refine fw s ?_;intro _ w s);refine cH ?_;intro w vx ox u;obtain⟨ax,cx,rfl⟩:=ox.cm.slice;refine cQ ?_;intro ys e z s;go_wp2_with(refine fw s ?_;intro _ w s);refine bj ?_;exact .inl ⟨141,_,_,_,_,Tg aC,rfl,s.pure⟩
 | some vs=>
  replace aC:=an aC;simp only[sI];go_wp2_with(refine fw s ?_;intro _ w s);refine(q4 w to av).mono ?_;refine er ?_;intro w u s;cases hvo:hS to with
  | none=>simp only[C1];go_wp2_with(refine fw s ?_;intro _ w s);refine cH ?_;intro w vx ox u;obtain⟨ax,cx,rfl⟩:=ox.cm.slice;refine cQ ?_;intro ys e z s;go_wp2_with(refine fw s ?_;intro _ w s);refine bj ?_;exact .inl ⟨141,_,_,_,_,Th aC hvo,rfl,s.pure⟩
  | some eC=>
   replace hvo:=an hvo;simp only[C1];go_wp2_with(refine fw s ?_;intro _ w s);refine(mz w next _ l (hv.up s.pure) hr nj hf).mono ?_;refine er ?_;intro w u s;cases al:a1 l nj with
   | none=>simp only[eJ];go_wp2_with(refine fw s ?_;intro _ w s);refine cH ?_;intro w vx ox u;obtain⟨ax,cx,rfl⟩:=ox.cm.slice;refine cQ ?_;intro ys e z s;go_wp2_with(refine fw s ?_;intro _ w s);refine bj ?_;exact .inl ⟨172,_,_,_,_,Ti aC hvo al,rfl,s.pure⟩
   | some i=>
    have hi:=il al;replace al:=an al;refine F8 ?_;intro b1 b2 b3;by_cases h3:32<=κ l
    ·have g3:((κ l:Int)>=32)=True:=ee ae;go_wp2_with(refine fw s ?_;intro _ w s);refine cH ?_;intro w vx ox u;obtain⟨ax,cx,rfl⟩:=ox.cm.slice;refine cQ ?_;intro ys e z s;go_wp2_with(refine fw s ?_;intro _ w s);refine bj ?_;exact .inl ⟨175,_,_,_,_,Tj aC hvo al h3,rfl,s.pure⟩
    have g3:((κ l:Int)>=32)=False:=cI ae;go_wp2_with(refine fw s ?_;intro _ w s);refine(mz w next _ l (hv.up s.pure) hr to av).mono ?_;refine er ?_;intro w u s;cases aa:a1 l to with
    | some j=>simp only[eJ];have g4:((j:Int)>=0)=True:=ee ae;go_wp2_with(refine fw s ?_;intro _ w s);refine cH ?_;intro w vx ox u;obtain⟨ax,cx,rfl⟩:=ox.cm.slice;refine cQ ?_;intro ys e z s;go_wp2_with(refine fw s ?_;intro _ w s);refine bj ?_;exact .inl ⟨171,_,_,_,_,Tk aC hvo al h3 aa,rfl,s.pure⟩
    | none=>
     replace aa:=an aa;simp only[eJ];obtain⟨b,off,ar,aB,da,dc,rg,dp⟩:=cf hv hi;subst ar;obtain⟨i0,j6,i7⟩:=cZ ((cd rg).1) (rg 6 _ rfl) (VW rg);have BN:=an (CL next eC (recAt l i));go_wp2_with(refine fw s ?_;intro _ w s);refine kw 20 s (λw s=>?_);repeat refine kt ?_
     refine xJ (λw _ s=>tF w next _ l (hv.up s.pure) hl hr hn _ s.t.size (fh next eC (recAt l i)) nl (ak.nil _ _ _ _ _)) ?_;rintro w _ s _ w'⟨v',ys,rfl,e0,p,f,u⟩;have e:=an e0;clear e0;obtain⟨ax,cx,rfl⟩:=(ak.row p.1 lV).slice;refine⟨_,_,rfl,.one u p λn h=>(f n h).resolve_right ti,?_⟩;refine ks (λw s=>?_);refine kt ?_;refine kd (λw u s=>?_);go_wp2_with fail;refine bj ?_;exact .inr ⟨_,_,_,Tl aC hvo al h3 aa,rfl,by rw[<-e.out];exact s.cm,s.pure⟩
theorem nY(z:Array ah)(n:Nat):κ (Abf z n).toList=n*z.size:=by simp[Abf]
theorem CX(t e ty tb:Aab)(z:Array ah)(ht:P.underlying t=some (.slice e))(hv:∀w,(Acj e).run P w=.ok (.agg z) w)(h1:z.all (·.oneCell')=true)(hz:0<z.size)(g o n c:Nat)(hn:0<n)(C:Array ah)(hb:aF w g tb C)(hfit:o+n*z.size<=C.size):(Adq #[t] ty #[sq g o n c]).run P w=.ok (.tuple #[]) (w.setRow g (C.toList.take o++(Abf z n).toList++C.toList.drop (o+n*z.size)).toArray):=by
 have aG:=wD (P:=P) g o tb (Abf z n).toList 0 C w hb (by grind [nY]) (λv ab=>by
  have ax:v∈Abf z n:=by simpa using ab
  unfold Abf at ax;rw[Array.mem_map]at ax;obtain⟨k,_,rfl⟩:=ax;have hk:k%z.size<z.size:=Nat.mod_lt _ hz;rw[getElem!_pos z _ hk];exact(wE.1 h1) _ (Array.getElem_mem hk))
 rw[nY]at aG;simp only[Nat.add_zero]at aG;obtain⟨m,rfl⟩:∃m,n=m+1:=⟨n-1,ae⟩;simp[Adq,run_underlying ht,hv,Value.cells,aG]
theorem ak.cut{f:α->List ah}(hw:hh f k){xs:List α}(h:ak f k e w base (cD g n cap) xs)(i:Nat)(hi:i<=κ xs):ak f k e w base (cD g i cap) (xs.take i):=by
 obtain⟨h1,h2⟩:=h;have hl:κ (xs.take i)=i:=ab
 rcases h2 with⟨h3,_⟩|⟨g',al,cur,h3,h4,h5,h6,h7,h8,h9⟩
 ·simp at h3
 ·simp at h3;obtain⟨rfl,rfl,rfl⟩:=h3;refine⟨by rw[hw.flat],.inr ⟨g,cap,cur,ab,h4,h5,ae,h7,h8,?_⟩⟩;rw[hl];have e1:xs.flatMap f=(xs.take i).flatMap f++(xs.drop i).flatMap f:=by rw[<-gk,fQ]
  have e2:κ ((xs.take i).flatMap f)=i*k:=by rw[hw.flat,hl]
  have e3:(cur.toList.take (κ xs*k)).take (i*k)=(xs.flatMap f).take (i*k):=by rw[h9]
  grind
theorem ak.Tf{f:α->List ah}{xs:List α}(h:ak f k e w base (cD g n cap) xs):∃C:Array ah,aF w g e C/\C.size=cap*k/\n=κ xs/\n<=cap/\∀L:List ah,n*k+κ L<=C.size->ak f k e (w.setRow g (C.toList.take (n*k)++L++C.toList.drop (n*k+κ L)).toArray) base (cD g n cap) xs:=by
 obtain⟨h1,h2⟩:=h;rcases h2 with⟨h3,_⟩|⟨g',al,cur,h3,h4,h5,h6,h7,h8,h9⟩
 ·simp at h3
 ·simp at h3;obtain⟨rfl,rfl,rfl⟩:=h3;refine⟨cur,h5,h8,rfl,h6,λL hL=>⟨h1,.inr ⟨g,cap,_,rfl,h4,aF.set h5 _,h6,h7,?_,?_⟩⟩⟩
  ·simp;omega
  ·simp_all
theorem w4:prog.underlying 71=some (.slice (prog.elem 71)):=al
theorem w5:∀W:af,(sizeOf (prog.elem 71)).run Aag W=.ok 11 W:=λW=>by rw[show prog.elem 71=90 from aA];obtain⟨i,hi,_,hz1,_⟩:=jN kr;simp[sizeOf,typeInfo,hi,hz1]
theorem Ar(w:af)(base g cap n:Nat)(ys:List gH)(hn:n=κ ys)(h2:ak dh 11 90 w base (cD g n cap) ys)(h3:∀y∈ys,bf w base y.v y.d.dead)(i:Nat)(hi:i<κ ys)(hl:κ ys<=1000):Aae Aag 204 #[cD g n cap,i6 (i:Int),i6 ((i:Int)+1)] w λe w'=>e=.returned (cD g (n-1) cap)/\(ak dh 11 90 w' base (cD g (n-1) cap) (ys.eraseIdx i)/\∀y∈ys.eraseIdx i,bf w' base y.v y.d.dead)/\Touch (·=g) w w':=by
 subst hn;obtain⟨m,hm⟩:∃m,κ ys=m+1:=⟨κ ys-1,ae⟩;have au:=hm;rw[hm]at h2 hi ⊢;rw[show m+1-1=m from rfl];obtain⟨C0,aD,ah,-,aS,-⟩:=ak.Tf h2;have aj:=ak.up h2 (Up.drew (Up.refl w));obtain⟨al,ai⟩:=aw (ak.cut lV aj i ae) (aH.part lV (ak.row aj lV) (lo:=i+1) (hi:=m+1) ae ae);rw[dq ae]at ai;obtain⟨H3,H2,HI,BW⟩:=bW (λy hy=>ak.up (h3 y hy) (Up.drew (Up.refl w))) aj hi (show base<=w.drew.heap.size from by have:=h2.aJ g rfl;show base<=w.heap.size;omega);have aU:∀W,(Aav 71 (cD g (m+1) cap) none (some (i6 (i:Int))) none).run Aag W=.ok (partOf 11 (some ⟨g,0,none⟩) 0 i cap) W:=λW=>x9 (P:=Aag) 71 11 w4 w5 _ (m+1) cap i ae W;have ba:∀W,(Aav 71 (cD g (m+1) cap) (some (i6 ((i:Int)+1))) none none).run Aag W=.ok (partOf 11 (some ⟨g,0,none⟩) (i+1) (m+1) cap) W:=λW=>gq (P:=Aag) 71 11 w4 w5 _ (m+1) cap (i+1) ae W;have ao:∀W,(Aav 71 (cD g m cap) (some (i6 (m:Int))) (some (i6 ((m:Int)+1))) none).run Aag W=.ok (partOf 11 (some ⟨g,0,none⟩) m (m+1) cap) W:=λW=>Wd (P:=Aag) 71 11 w4 w5 _ m cap m (m+1) ae ae W;have a7:partOf 11 (some (⟨g,0,none⟩:Adr)) 0 i cap=cD g i cap:=by
  unfold partOf;have:(⟨g,0,none⟩:Adr).add (0*11)=⟨g,0,none⟩:=aA
  grind
 have bz:partOf 11 (some (⟨g,0,none⟩:Adr)) m (m+1) cap=sq g (m*11) 1 (cap-m):=by unfold partOf;rw[aY ae];simp[Addr.add];omega
 rw[a7]at aU;rw[bz]at ao;obtain⟨p2,aI⟩:=bE (partOf 11 (some (⟨g,0,none⟩:Adr)) (i+1) (m+1) cap);rw[<-aI]at ba ai;have bx:=an aI;have hne:((i:Int)==(i:Int)+1)=false:=ab
 have ax:((i:Int)=(i:Int)+1)=False:=cI ae;have B1:((i:Int)+1<=(m:Int)+1)=True:=ab
 obtain⟨B2,B3,B4⟩:=aV au aS hm;have c1:((m+1:Nat):Int)=(m:Int)+1:=ae
 clear h3 ah a7 bz aI au hm;go_in;go_wp2;refine e7 (S:=λ_=>True) aA ?_;change Acp _ _ _ _ _ 8 _ _ (w.drew);have UD:=an (Touch.bP (F:=(·=g)) (Up.drew (Up.refl w)));generalize w.drew=w1 at *;refine o8 ?_;refine ta 3 ?_;refine ta 4 ?_;refine bA ?_;refine ta 5 ?_;refine bA ?_;refine ok 6 ?_;intro K hK;refine mN lV (.tmp 22) (.tmp 25) 71 rfl _ _ _ _ underlying71 kr g _ i _ (by rw[ez,B2.out];have:=HI.out;omega) rfl al _ _ rfl ai m (by rw[ez,hA,B2.out];have:=HI.out;omega) ae BW ?_;intro w2 hown hg aB;obtain⟨C,hb,aC,-,ad,CL⟩:=ak.Tf hown;have ag:=B3.out;have hfit:m*11+1*11<=C.size:=ae
 have hL:=nY b6 1;have aQ:∀ty,(Adq #[71] ty #[sq g (m*11) 1 (cap-m)]).run Aag w2=.ok (.tuple #[]) (w2.setRow g (C.toList.take (m*11)++(Abf b6 1).toList++C.toList.drop (m*11+1*11)).toArray):=λty=>CX _ _ _ _ _ underlying71 mQ gU av g _ 1 _ ae C hb hfit;have OW:=an (CL (Abf b6 1).toList (by rw[hL];exact hfit));rw[hL]at OW;obtain⟨w3,aa⟩:=bE (w2.setRow g (C.toList.take (m*11)++(Abf b6 1).toList++C.toList.drop (m*11+1*11)).toArray);have G3:=cV w2 g (C.toList.take (m*11)++(Abf b6 1).toList++C.toList.drop (m*11+1*11)).toArray;have ar:ak dh 11 90 w3 base (cD g m cap) (ys.take i++ys.drop (i+1)):=by rw[aa];exact OW
 rw[<-aa]at aQ G3;have OS:=an (show ak dh 11 90 w3 base (cD g m cap) (ys.eraseIdx i)/\∀y∈ys.eraseIdx i,bf w3 base y.v y.d.dead from by
  rw[uS];refine⟨ar,λy hy=>?_⟩
  ·have aq:y∈ys:=by
    rcases Aa8.1 hy with hy|hy
    ·exact s9 hy
    ·exact tg hy
   have k1:=H3 y aq;have a1:y.v.ownBlock=none\/y.v.ownBlock≠some g:=by have:=iE av k1 H2;simpa[Aan]using this
   exact ak.kept (ak.kept k1 hg a1) G3 a1)
 have TT:=an ((UD.trans (Touch.bg (F:=(·=g)) hg (λk hk=>nR)) (λ_ h _=>h)).trans (Touch.bg (F:=(·=g)) G3 (λk hk=>nR)) (λ_ h _=>h));clear aC ad CL hfit hL aa H3 ag;refine hK _ _ trivial ?_;refine gC ?_;clear hK K;refine ta 7 ?_;refine nr ?_;go_wp2;go_ret;exact⟨rfl,OS,TT⟩
section
variable {P:bp} {o:Abn} {a:Act} {w:af} {K:Act->af->Prop} {Q:Exit->Act->af->Prop}
end
def Zi(r:Except Nat (Nat × List ao × ao))(w:af)(e:Ab2)(w':af):Prop:=(∃(n nx:Nat)(va:Option Adr)(vm vc:Nat),r=.error n/\e=.returned (.tuple #[.agg (aO nx (.slice va vm vc)),.agg b6,.int .i64 (n:Int)])/\Up w w')\/(∃(nx:Nat)(l':List ao)(x:ao)(v' vd:ah),r=.ok (nx,l',x)/\e=.returned (.tuple #[.agg (aO nx v'),.agg (b8 x vd),.int .i64 0])/\bc w' w.heap.size v' l'/\bf w' w.heap.size vd x.dead/\Up w w')
theorem bc.aax(h:bc w base (cD g n cap) l)(i:Nat)(hi:i<κ l)(q:au):∃cur,aF w g 90 cur/\i*11+11<=cur.size/\∀w',aF w' g 90 (hW cur.toList (i*11+7) (be q).toList).toArray->w.grownBy w' (some g)->bc w' base (cD g n cap) (l.set i {l[i]with root:=q}):=by obtain⟨cur,va,vc,hb,hn,hc,hg,rg,op,aU⟩:=h.part i hi;exact⟨cur,hb,hc,λw' aI aa=>aU {l[i]with root:=q} va l[i].dead.length vc 7 (be q).toList w' (by simp[be]) rfl op aI aa⟩
def iP(x y:ao):ao:={x with root:=y.root,dead:=[]}
def gI(next:Nat)(l:List ao)(full:List aj):Except Nat (Nat × List ao × ao):=match dy l full with
 | .error n=>.error n
 | .ok i=>match aL l (recAt l i).prev with
  | none=>.error 174
  | some j=>.ok (next,l.set i (iP (recAt l i) (recAt l j)),recAt l i)
section
variable {next:Nat} {l:List ao} {full:List aj} {n i j:Nat}
theorem Xk(h:dy l full=.error n):gI next l full=.error n:=by grind [gI]
theorem Xl(h:dy l full=.ok i)(h1:aL l (recAt l i).prev=none):gI next l full=.error 174:=by grind [gI]
theorem Xm(h:dy l full=.ok i)(h1:aL l (recAt l i).prev=some j):gI next l full=.ok (next,l.set i (iP (recAt l i) (recAt l j)),recAt l i):=by grind [gI]
theorem Cv(h:dy l full=.error n):n=141\/n=172:=uY
theorem l5(h:dy l full=.ok i):i<κ l:=by
 unfold dy at h;split at h
 ·cases h
 ·split at h
  ·cases h
  ·rename_i h2;injection h with h;subst h;exact il h2
end
theorem HC(w:af)(next:Nat)(v:ah)(l:List ao)(hv:cq w v l)(hl:κ l<=1000)(hr:∀x∈l,κ x.dead*24<=140737488355328)(full:List aj)(hf:κ full<=9223372036854775807):Aae Aag 131 #[.agg (aO next v),.string (strOf full)] w λe w'=>Zi (gI next l full) w e w':=by
 obtain⟨a,cap,rfl⟩:=hv.slice;have s:=Fr.start w;go_in;go_wp2_with(refine fw s ?_;intro _ w s);refine Gg ?_;intro w u s;cases hva:dy l full with
 | error n=>refine Gh ?_;intro hn nz;go_wp2_with(refine fw s ?_;intro _ w s);refine cH ?_;intro w vx ox u;obtain⟨ax,cx,rfl⟩:=ox.cm.slice;refine cQ ?_;intro ys e z s;go_wp2_with(refine fw s ?_;intro _ w s);refine bj ?_;exact .inl ⟨n,_,_,_,_,Xk hva,rfl,s.pure⟩
 | ok i=>
  refine KZ ?_;intro hi b1 b2 b3 b off ar aB da dc rg dp;subst ar;have i4:=(cd rg).2.2.2.2.1;go_wp2_with(refine fw s ?_;intro _ w s);refine kb s (λw s=>?_);repeat refine kt ?_
  cases aK:aL l (recAt l i).prev with
  | none=>
   refine kc (λw _ s=>p' w _ l (hv.up s.pure) hr (recAt l i).prev) ?_;rintro w _ s _ w'(⟨_,rfl,u⟩|⟨j2,vd,ay,_⟩)
   case inr=>rw[aK]at ay;cases ay
   refine⟨_,rfl,u,?_⟩;repeat refine kt ?_
   refine kn (λ_ w u s=>?_);refine ks (λw s=>?_);refine kt ?_;refine kd (λw u s=>?_);go_wp2_with(refine fw s ?_;intro _ w s);refine cH ?_;intro w vx ox u;obtain⟨ax,cx,rfl⟩:=ox.cm.slice;refine cQ ?_;intro ys e z s;go_wp2_with(refine fw s ?_;intro _ w s);refine bj ?_;exact .inl ⟨174,_,_,_,_,Xl hva aK,rfl,s.pure⟩
  | some j=>
   refine xJ (λw _ s=>p' w _ l (hv.up s.pure) hr (recAt l i).prev) ?_;rintro w _ s _ w'(⟨ay,_⟩|⟨j2,vd,hj,rfl,od,u⟩)
   case inl=>rw[aK]at ay;cases ay
   obtain rfl:j=j2:=dE (aK.symm.trans hj);obtain⟨na,nc,rfl⟩:=(ak.row od pw).slice;refine vm ?_;repeat refine kt ?_
   refine kn (λ_ w u s=>?_);refine ks (λw s=>?_);refine kt ?_;refine kd (λw u s=>?_);go_wp2_with(refine fw s ?_;intro _ w s);refine cH ?_;intro w vx ox u;obtain⟨gx,cx,rfl,_⟩:=ox.at ae;obtain⟨ys,e,z⟩:=Rz.s ox u s.t.size;have hy:i<κ ys:=Us
   have s:=s.new z;go_wp2_with(refine fw s ?_;intro _ w s);refine kv s (λw s=>?_);repeat refine kt ?_
   refine kq i 7 ⟨{ys[i].d with root:=(recAt l j).root},ys[i].a,ys[i].n,ys[i].c⟩ (λw s=>?_) (h6 _);repeat refine kt ?_
   refine kq i 10 ⟨iP ys[i].d (recAt l j),none,0,0⟩ (λw s=>?_) (uQ hy);refine kd (λw u s=>?_);go_wp2_with(refine fw s ?_;intro _ w s);refine kw2 7 8 s (λw s=>?_);repeat refine kt ?_
   refine xJ (λw _ s=>kS w (recAt l i) _ (dp.up s.pure) ?dl) ?_
   case dl=>exact hr _ FD
   rintro w _ s _ w'⟨vd,rfl,od,u⟩;obtain⟨na,nc,rfl⟩:=(ak.row od pw).slice;refine vm ?_;refine ks (λw s=>?_);refine ks (λw s=>?_);refine kt ?_;refine kd (λw u s=>?_);go_wp2_with fail;refine bj ?_;refine .inr ⟨next,_,_,_,_,Xm hva aK,rfl,?_,s.CU,s.pure⟩;have:=s.cm;rw[nQ,nQ,e,wN,show ys[i].d=recAt l i by rw[b9 hi];simp[<-e]]at this;exact this
def dU(next:Nat)(l:List ao)(full:List aj):Except Nat (Nat × List ao × ao):=match dy l full with
 | .error n=>.error n
 | .ok i=>if 0<κ (dR l (recAt l i).id).1 then .error 173 else .ok (next,l.eraseIdx i,recAt l i)
section
variable {next:Nat} {l:List ao} {full:List aj} {n i j:Nat}
theorem Kj(h:dy l full=.error n):dU next l full=.error n:=by grind [dU]
theorem Kk(h:dy l full=.ok i)(h1:0<κ (dR l (recAt l i).id).1):dU next l full=.error 173:=by grind [dU]
theorem Kl(h:dy l full=.ok i)(h1:¬0<κ (dR l (recAt l i).id).1):dU next l full=.ok (next,l.eraseIdx i,recAt l i):=by grind [dU]
end
theorem xz(w:af)(next:Nat)(v:ah)(l:List ao)(hv:cq w v l)(hl:κ l<=1000)(hr:∀x∈l,κ x.dead*24<=140737488355328)(full:List aj)(hf:κ full<=9223372036854775807):Aae Aag 134 #[.agg (aO next v),.string (strOf full)] w λe w'=>Zi (dU next l full) w e w':=by
 obtain⟨a,cap,rfl⟩:=hv.slice;have s:=Fr.start w;go_in;go_wp2_with(refine fw s ?_;intro _ w s);refine Gg ?_;intro w u s;cases hva:dy l full with
 | error n=>refine Gh ?_;intro hn nz;go_wp2_with(refine fw s ?_;intro _ w s);refine cH ?_;intro w vx ox u;obtain⟨ax,cx,rfl⟩:=ox.cm.slice;refine cQ ?_;intro ys e z s;go_wp2_with(refine fw s ?_;intro _ w s);refine bj ?_;exact .inl ⟨n,_,_,_,_,Kj hva,rfl,s.pure⟩
 | ok i=>
  refine KZ ?_;intro hi b1 b2 b3 b off ar aB da dc rg dp;subst ar;have i0:=(cd rg).1;go_wp2_with(refine fw s ?_;intro _ w s);refine kb s (λw s=>?_);repeat refine kt ?_
  refine kc (λw _ s=>Di w _ l (hv.up s.pure) (recAt l i).id) ?_;rintro w _ s _ w'⟨uc,rfl,oc,u⟩;obtain⟨ca,cc,rfl⟩:=oc.cu.slice;refine⟨_,rfl,u,?_⟩;repeat refine kt ?_
  refine kd (λw u s=>?_);by_cases hc:0<κ (dR l (recAt l i).id).1
  ·have t1:((κ (dR l (recAt l i).id).1:Int)>0)=True:=ee ae;go_wp2_with(refine fw s ?_;intro _ w s);refine cH ?_;intro w vx ox u;obtain⟨ax,cx,rfl⟩:=ox.cm.slice;refine cQ ?_;intro ys e z s;go_wp2_with(refine fw s ?_;intro _ w s);refine bj ?_;exact .inl ⟨173,_,_,_,_,Kk hva hc,rfl,s.pure⟩
  ·have t1:((κ (dR l (recAt l i).id).1:Int)>0)=False:=cI ae;go_wp2_with(refine fw s ?_;intro _ w s);refine cH ?_;intro w vx ox u;obtain⟨gx,cx,rfl,_⟩:=ox.at ae;refine cQ ?_;intro ys e z s;have hy:=an (show κ l=κ ys from FX);replace e:=an e;go_wp2_with(refine fw s ?_;intro _ w s);refine(Ar w _ gx cx _ ys hy s.rows.1 s.rows.2 i (by rw[<-hy.out];exact hi) (by rw[<-hy.out];exact hl)).mono ?_;rintro e w⟨rfl,aG,T⟩;have s:=s.osT aG T rfl (λy h=>Fx h);go_wp2_with(refine fw s ?_;intro _ w s);refine kw2 7 8 s (λw s=>?_);repeat refine kt ?_
   refine xJ (λw _ s=>kS w (recAt l i) _ (dp.up s.pure) ?dl) ?_
   case dl=>exact hr _ FD
   rintro w _ s _ w'⟨vd,rfl,od,u⟩;obtain⟨na,nc,rfl⟩:=(ak.row od pw).slice;refine vm ?_;refine ks (λw s=>?_);refine ks (λw s=>?_);refine kt ?_;refine kd (λw u s=>?_);go_wp2_with fail;refine bj ?_;refine .inr ⟨next,_,_,_,_,Kl hva hc,rfl,?_,s.CU,s.pure⟩;have:=s.cm;rw[uS,Aar,wI,qy,<-uS,e.out]at this;exact this
def Zh(r:Except Nat (Nat × List ao × List au))(w:af)(e:Ab2)(w':af):Prop:=(∃(n nx:Nat)(va:Option Adr)(vm vc:Nat),r=.error n/\e=.returned (.tuple #[.agg (aO nx (.slice va vm vc)),.slice none 0 0,.int .i64 (n:Int)])/\Up w w')\/(∃(nx:Nat)(l':List ao)(gone:List au)(v' vg:ah),r=.ok (nx,l',gone)/\e=.returned (.tuple #[.agg (aO nx v'),vg,.int .i64 0])/\bc w' w.heap.size v' l'/\bf w' w.heap.size vg gone/\Up w w')
def hq(y:ao)(all:List au)(p:Nat):ao:={y with dead:=all,prev:=p}
def cE(next:Nat)(l:List ao)(full:List aj):Except Nat (Nat × List ao × List au):=match dV full with
 | none=>.error 141
 | some _=>match a1 l full with
  | none=>.error 172
  | some i=>if 0<κ (eL l (recAt l i).id) then .error 173 else match aL l (iX l (recAt l i).id)with
   | none=>.error 172
   | some j=>match en (lF (b0 l (recAt l i).id) (recAt l j).dead) (recAt l i).dead with
    | none=>.error 131
    | some all=>if 4000<κ all then .error 131 else .ok (next,(l.set j (hq (recAt l j) all (recAt l i).prev)).eraseIdx i,hQ (b0 l (recAt l i).id) (recAt l j).dead)
section
variable {next:Nat} {l:List ao} {full:List aj} {vs:List aj × List aj} {i j:Nat} {all:List au}
theorem m'(h:dV full=none):cE next l full=.error 141:=o4
theorem na(h:dV full=some vs)(h1:a1 l full=none):cE next l full=.error 172:=o4
theorem nc(h:dV full=some vs)(h1:a1 l full=some i)(h2:0<κ (eL l (recAt l i).id)):cE next l full=.error 173:=o4
theorem p5(h:dV full=some vs)(h1:a1 l full=some i)(h2:¬0<κ (eL l (recAt l i).id))(h3:aL l (iX l (recAt l i).id)=none):cE next l full=.error 172:=o4
theorem xw(h:dV full=some vs)(h1:a1 l full=some i)(h2:¬0<κ (eL l (recAt l i).id))(h3:aL l (iX l (recAt l i).id)=some j)(h4:en (lF (b0 l (recAt l i).id) (recAt l j).dead) (recAt l i).dead=none):cE next l full=.error 131:=o4
theorem xx(h:dV full=some vs)(h1:a1 l full=some i)(h2:¬0<κ (eL l (recAt l i).id))(h3:aL l (iX l (recAt l i).id)=some j)(h4:en (lF (b0 l (recAt l i).id) (recAt l j).dead) (recAt l i).dead=some all)(h5:4000<κ all):cE next l full=.error 131:=o4
theorem nf(h:dV full=some vs)(h1:a1 l full=some i)(h2:¬0<κ (eL l (recAt l i).id))(h3:aL l (iX l (recAt l i).id)=some j)(h4:en (lF (b0 l (recAt l i).id) (recAt l j).dead) (recAt l i).dead=some all)(h5:¬4000<κ all):cE next l full=.ok (next,(l.set j (hq (recAt l j) all (recAt l i).prev)).eraseIdx i,hQ (b0 l (recAt l i).id) (recAt l j).dead):=o4
end
theorem uk(w:af)(next:Nat)(v:ah)(l:List ao)(hv:cq w v l)(hl:κ l<=1000)(hr:∀x∈l,κ x.dead*24<=140737488355328)(full:List aj)(hf:κ full<=9223372036854775807):Aae Aag 135 #[.agg (aO next v),.string (strOf full)] w λe w'=>Zh (cE next l full) w e w':=by
 obtain⟨a,cap,rfl⟩:=hv.slice;have s:=Fr.start w;go_in;go_wp2_with(refine fw s ?_;intro _ w s);refine(pC w full hf).mono ?_;refine er ?_;intro w u s;cases hvo:dV full with
 | none=>simp only[sI];go_wp2_with(refine fw s ?_;intro _ w s);refine cH ?_;intro w vx ox u;obtain⟨ax,cx,rfl⟩:=ox.cm.slice;refine cQ ?_;intro ys e z s;go_wp2_with(refine fw s ?_;intro _ w s);refine bj ?_;exact .inl ⟨141,_,_,_,_,m' hvo,rfl,s.pure⟩
 | some vs=>
  simp only[sI];go_wp2_with(refine fw s ?_;intro _ w s);refine Ge ?_;intro w u s;cases hn:a1 l full with
  | none=>simp only[eJ];go_wp2_with(refine fw s ?_;intro _ w s);refine cH ?_;intro w vx ox u;obtain⟨ax,cx,rfl⟩:=ox.cm.slice;refine cQ ?_;intro ys e z s;go_wp2_with(refine fw s ?_;intro _ w s);refine bj ?_;exact .inl ⟨172,_,_,_,_,na hvo hn,rfl,s.pure⟩
  | some i=>
   have hi:=il hn;refine F8 ?_;intro b1 b2 b3;obtain⟨b,off,ar,aB,da,dc,rg,dp⟩:=cf hv hi;subst ar;have i0:=(cd rg).1;go_wp2_with(refine fw s ?_;intro _ w s);refine kb s (λw s=>?_);repeat refine kt ?_
   refine kc (λw _ s=>J4 w _ l (hv.up s.pure) ae (recAt l i).id) ?_;rintro w _ s _ w'⟨uc,rfl,oc,u⟩;obtain⟨ca,cc,rfl⟩:=oc.cu.slice;refine⟨_,rfl,u,?_⟩;repeat refine kt ?_
   refine kd (λw u s=>?_);by_cases hb:0<κ (eL l (recAt l i).id)
   ·have t1:((κ (eL l (recAt l i).id):Int)>0)=True:=ee ae;go_wp2_with(refine fw s ?_;intro _ w s);refine cH ?_;intro w vx ox u;obtain⟨ax,cx,rfl⟩:=ox.cm.slice;refine cQ ?_;intro ys e z s;go_wp2_with(refine fw s ?_;intro _ w s);refine bj ?_;exact .inl ⟨173,_,_,_,_,nc hvo hn hb,rfl,s.pure⟩
   have t1:((κ (eL l (recAt l i).id):Int)>0)=False:=cI ae;go_wp2_with(refine fw s ?_;intro _ w s);refine kb s (λw s=>?_);repeat refine kt ?_
   refine kc (λw _ s=>VM w _ l (hv.up s.pure) (recAt l i).id) ?_;rintro w _ s _ w'⟨rfl,u⟩;refine⟨_,rfl,u,?_⟩;refine kc (λw _ s=>py w _ l (hv.up s.pure) (iX l (recAt l i).id)) ?_;rintro w _ s _ w'⟨rfl,u⟩;refine⟨_,rfl,u,?_⟩;repeat refine kt ?_
   refine kd (λw u s=>?_);cases aK:aL l (iX l (recAt l i).id)with
   | none=>simp only[eJ];go_wp2_with(refine fw s ?_;intro _ w s);refine cH ?_;intro w vx ox u;obtain⟨ax,cx,rfl⟩:=ox.cm.slice;refine cQ ?_;intro ys e z s;go_wp2_with(refine fw s ?_;intro _ w s);refine bj ?_;exact .inl ⟨172,_,_,_,_,p5 hvo hn hb aK,rfl,s.pure⟩
   | some j=>
    obtain⟨hj,_⟩:=cJ aK;simp only[eJ];have d1:((j:Int)<0)=False:=aq
    have d2:((j:Int)<(κ l:Int))=True:=ab
    have d3:((j:Int)>=0)=True:=aq
    obtain⟨b2,aF,av,_,ea,ec,aX,ep⟩:=cf hv hj;obtain⟨rfl,rfl⟩:b=b2/\off=aF:=by simpa using av
    obtain⟨aJ,i10,i4⟩:=cZ (aX 10 _ rfl) (rg 10 _ rfl) ((cd rg).2.2.2.2.1);have ai:∀k(h:k<κ l),κ (recAt l k).dead*24<=140737488355328:=λk h=>hr _ (by rw[b9 h];exact cw h);go_wp2_with(refine fw s ?_;intro _ w s);refine kb s (λw s=>?_);repeat refine kt ?_
    refine kc (λw _ s=>rl w _ l (hv.up s.pure) (recAt l i).id) ?_;rintro w _ s _ _⟨rfl,rfl⟩;refine lQ ?_;refine xJ (λw _ s=>RS w _ (recAt l j).dead (aH.up ep s.pure) (b0 l (recAt l i).id) (ai j hj)) ?_;rintro w _ s _ w'⟨v1,v2,rfl,o1,o2,u⟩;obtain⟨ra,rc,rfl⟩:=(ak.row o1 pw).slice;obtain⟨ga,gc,rfl⟩:=(ak.row o2 pw).slice;refine⟨_,_,rfl,.qq o1 o2 u s.t.size,?_⟩;repeat refine kt ?_
    refine kd (λw u s=>?_);go_wp2_with(refine fw s ?_;intro _ w s);refine(QR w _ _ _ _ (ak.row s.Zy.1 pw) (aH.up dp s.pure) ?_).mono ?_
    ·obtain⟨h1,h2⟩:=az (ai i hi) (ai j hj);have h3:κ (lF (b0 l (recAt l i).id) (recAt l j).dead)<=κ (recAt l j).dead:=qx _ _;omega
    rintro e w(⟨ay,rfl,u⟩|⟨all,va,ad,rfl,oa,u⟩)
    ·have s:=s.up u;go_wp2_with(refine fw s ?_;intro _ w s);refine cH ?_;intro w vx ox u;obtain⟨ax,cx,rfl⟩:=ox.cm.slice;refine cQ ?_;intro ys e z s;go_wp2_with(refine fw s ?_;intro _ w s);refine bj ?_;exact .inl ⟨131,_,_,_,_,xw hvo hn hb aK ay,rfl,s.pure⟩
    obtain⟨aa,ac,rfl⟩:=(ak.row oa pw).slice;have s:=s.new (.q oa u s.t.size);by_cases h4:4000<κ all
    ·have t4:((κ all:Int)>4000)=True:=ee ae;go_wp2_with(refine fw s ?_;intro _ w s);refine cH ?_;intro w vx ox u;obtain⟨ax,cx,rfl⟩:=ox.cm.slice;refine cQ ?_;intro ys e z s;go_wp2_with(refine fw s ?_;intro _ w s);refine bj ?_;exact .inl ⟨131,_,_,_,_,xx hvo hn hb aK ad h4,rfl,s.pure⟩
    have t4:((κ all:Int)>4000)=False:=cI ae;go_wp2_with(refine fw s ?_;intro _ w s);refine cH ?_;intro w vx ox u;obtain⟨gx,cx,rfl,_⟩:=ox.at ae;refine cQ ?_;intro ys e z s;have hy:=an (show κ l=κ ys from FX);have aE:=an (show j<κ ys by rw[<-hy.out];exact hj);replace e:=an e;go_wp2_with(refine fw s ?_;intro _ w s);refine kv2 s (λw s=>?_);repeat refine kt ?_
    refine kqd j (λw s=>?_) (h6 aE);repeat refine kt ?_
    refine kq j 4 ⟨hq (ys[j]'aE).d all (recAt l i).prev,aa,κ all,ac⟩ (λw s=>?_) (uQ aE);refine kd (λw u s=>?_);go_wp2_with(refine fw s ?_;intro _ w s);obtain⟨R1,R2⟩:=s.rows (v:=cD gx (κ l) cx);refine(Ar w _ gx cx _ _ (by rw[Aat,Aat];exact hy) R1 R2 i (by rw[Aat,Aat,<-hy.out];exact hi) (by rw[Aat,Aat,<-hy.out];exact hl)).mono ?_;rintro e w⟨rfl,aG,T⟩;have s:=s.osT aG T rfl (λy h=>Fx h);go_wp2_with(refine fw s ?_;intro _ w s);refine bj ?_;refine .inr ⟨next,_,_,_,_,nf hvo hn hb aK ad h4,rfl,?_,s.Zy.2,s.pure⟩;have:=s.cm;rw[uS,Aar,wI,qy,<-uS,nQ,nQ,e.out,wN,O4 e aE]at this;exact this
section
variable {vg:ah} {w w':af} {base:Nat} {v:ah} {l:List ao}
end
def jh(fl:Nat):List au->List au->List au->Option (List au × List au)
 | d,gone,[]=>some (d,gone)
 | d,gone,q::r=>if fl<q.aU then jh fl d (gone++[q]) r else match wi d q with
  | none=>none
  | some m=>if 4000<κ m then none else jh fl m gone r
def Aq(x:ao)(d:List au):ao:={x with dead:=d}
def qo(next:Nat)(l:List ao)(id:Nat)(ps:List au):Except Nat (Nat × List ao × List au):=match aL l id with
 | none=>.error 172
 | some i=>match jh (b0 l id) (recAt l i).dead [] ps with
  | none=>.error 131
  | some (d,gone)=>.ok (next,l.set i (Aq (recAt l i) d),gone)
section
variable {next:Nat} {l:List ao} {id i fl:Nat} {ps d gone r m:List au} {q:au}
theorem XQ(h:aL l id=none):qo next l id ps=.error 172:=by grind [qo]
theorem MR(h:aL l id=some i)(h1:jh (b0 l id) (recAt l i).dead [] ps=none):qo next l id ps=.error 131:=by grind [qo]
theorem EV(h:aL l id=some i)(h1:jh (b0 l id) (recAt l i).dead [] ps=some (d,gone)):qo next l id ps=.ok (next,l.set i (Aq (recAt l i) d),gone):=by grind [qo]
theorem Ip(h:fl<q.aU):jh fl d gone (q::r)=jh fl d (gone++[q]) r:=by show(if fl<q.aU then _ else _)=_;rw[bI h]
theorem T0(h:¬fl<q.aU)(h1:wi d q=none):jh fl d gone (q::r)=none:=by show(if fl<q.aU then _ else _)=_;rw[aY h,h1]
theorem T1(h:¬fl<q.aU)(h1:wi d q=some m)(h2:4000<κ m):jh fl d gone (q::r)=none:=by show(if fl<q.aU then _ else _)=_;rw[aY h,h1];simp only;rw[bI h2]
theorem Io(h:¬fl<q.aU)(h1:wi d q=some m)(h2:¬4000<κ m):jh fl d gone (q::r)=jh fl m gone r:=by show(if fl<q.aU then _ else _)=_;rw[aY h,h1];simp only;rw[aY h2]
theorem Xh(hd:PW d)(h:wi d q=some m):PW m:=by grind [nK,wi,Hw]
end
theorem T2(w:af)(next:Nat)(v:ah)(l:List ao)(hv:cq w v l)(hl:κ l<=1000)(hr:∀x∈l,κ x.dead*24<=140737488355328)(id:Nat)(vp:ah)(ps:List au)(hp:c9 w vp ps)(bd:κ ps<=100000)(aG:∀x∈l,PW x.dead):Aae Aag 104 #[.agg (aO next v),.int .u64 (id:Int),vp] w λe w'=>Zh (qo next l id ps) w e w':=by
 obtain⟨pa,pc,rfl⟩:=hp.slice;obtain⟨a,cap,rfl⟩:=hv.slice;obtain⟨w0,rfl⟩:=bE w;have s:=Fr.start w0;go_in;go_wp2_with(refine fw s ?_;intro _ w s);refine(py w _ l (hv.up s.pure) id).mono ?_;refine er ?_;intro w u s;cases aK:aL l id with
 | none=>simp only[eJ];go_wp2_with(refine fw s ?_;intro _ w s);refine cH ?_;intro w vx ox u;obtain⟨ax,cx,rfl⟩:=ox.cm.slice;refine cQ ?_;intro ys e z s;go_wp2_with(refine fw s ?_;intro _ w s);refine bj ?_;exact .inl ⟨172,_,_,_,_,XQ aK,rfl,s.pure⟩
 | some i=>
  have hi:=(cJ aK).1;refine nq ?_;intro b1 b2;have b3:((i:Int)>=0)=True:=aq
  simp only[eJ];go_wp2_with(refine fw s ?_;intro _ w s);refine(rl w _ l (hv.up s.pure) id).mono ?_;rintro e _⟨rfl,rfl⟩;go_wp2_with(refine fw s ?_;intro _ w s);refine cH ?_;intro w vx ox u;obtain⟨g,cx,rfl,_⟩:=ox.at ae;refine cQ ?_;intro ys e z s;have s:=s.acm;go_wp2_with(refine fw s ?_;intro _ w s);change Fr no w0 (bk ?gt 73 _::op _ _ _::os _ _ ys::?rest) _ at s;have hy:i<κ ys:=Us
  have ed:=O4 e hy;go_loopw [12,33] (λvg ii wr=>∃(k:Nat)(y:gH)(gone:List au),k<=κ ps/\ii=.int .i64 k/\jh (b0 l id) y.d.dead gone (ps.drop k)=jh (b0 l id) (recAt l i).dead [] ps/\(κ gone)<=k/\(κ y.d.dead)*24<=140737488355328/\PW y.d.dead/\y.d=Aq (recAt l i) y.d.dead/\Fr no w0 (bk ?gt 73 (aO next (cD g (κ l) cx))::op w0.heap.size vg gone::os w0.heap.size (cD g (κ l) cx) (ys.set i y)::?rest) wr) (λ_ ii _=>κ ps-(Aau ii).toNat)
  case atStart=>exact⟨0,ys[i],[],bT _,rfl,by rw[Aaw,ed],bT _,by rw[ed,b9 hi];exact hr _ (cw hi),by rw[ed,b9 hi];exact aG _ (cw hi),by rw[ed];rfl,by rw[List.set_getElem_self];exact s⟩
  case round=>
   obtain⟨k,y,gone,hk,rfl,aa,aV,aM,aj,aP,s⟩:=hrel;obtain⟨ga,gc,rfl⟩:=(ak.row (s.CU (l:=gone)) pw).slice;by_cases hlt:k<κ ps
   ·have n1:((k:Int)<(κ ps:Int))=True:=by simp;omega
    obtain⟨bb,ai,rfl,hbs,_,hc⟩:=hp.range pw ae;have RC:w0.rangeAt bb (ai+k*3) (be ps[k]).toList:=hc k hlt;clear hc;rw[td hlt]at aa;generalize ps[k]=q at *;by_cases hq:b0 l id<q.aU
    ·have n2:((q.aU:Int)>(b0 l id:Int))=True:=ee ae;go_wp2_with(first|(refine fw s ?_;intro _ w s)|(refine ZY s ?_;intro _ w s)|(at_builtin;refine faq s ?_;intro a7 c7 w s));go_roundw
     case rel=>exact⟨k+1,y,gone++[q],ae,aq,by rw[<-aa,Ip hq],ab,aM,aj,aP,(s.rem .head).rem .head⟩
     case measure=>simp only[Aau];omega
    ·have n2:((q.aU:Int)>(b0 l id:Int))=False:=cI ae;go_wp2_with(refine fw s ?_;intro _ w s);have ad:(ys.set i y)[i]?=some y:=uQ hy;refine kb s (λw s=>?_);repeat refine kt ?_
     refine kt ?_ (hy:=acq i 10 ad);repeat refine kt ?_
     refine xJ (λw _ s=>Xi w _ y.d.dead (ak.row (s.rows.2 y (List.mem_of_getElem? ad)) pw) (r1.1 aj) q ae) ?_;rintro w _ s e w' ha;cases ag:wi y.d.dead q with
     | none=>
      rw[ag]at ha;obtain⟨rfl,u⟩:=ha;refine zJ ?_;repeat refine kt ?_
      refine kd (λw u s=>?_);go_wp2_with(refine fw s ?_;intro _ w s);refine cH ?_;intro w vx ox u;obtain⟨ax,cx,rfl⟩:=ox.cm.slice;refine cQ ?_;intro ys e z s;go_wp2_with(refine fw s ?_;intro _ w s);refine bj ?_;exact .inl ⟨131,_,_,_,_,MR aK (by rw[<-aa,T0 hq ag]),rfl,s.pure⟩
     | some m=>
      rw[ag]at ha;obtain⟨um,rfl,om,u⟩:=ha;obtain⟨ma,mc,rfl⟩:=(ak.row om pw).slice;refine⟨_,_,rfl,.q om u s.t.size,?_⟩;repeat refine kt ?_
      refine kd (λw u s=>?_);by_cases h4:4000<κ m
      ·have p1:((κ m:Int)>4000)=True:=ee ae;go_wp2_with(refine fw s ?_;intro _ w s);refine cH ?_;intro w vx ox u;obtain⟨ax,cx,rfl⟩:=ox.cm.slice;refine cQ ?_;intro ys e z s;go_wp2_with(refine fw s ?_;intro _ w s);refine bj ?_;exact .inl ⟨131,_,_,_,_,MR aK (by rw[<-aa,T1 hq ag h4]),rfl,s.pure⟩
      ·have p1:((κ m:Int)>4000)=False:=cI ae;go_wp2_with(first|(refine fw s ?_;intro _ w s)|(refine fqd i s ?_ ad;intro w s));go_roundw
       case rel=>exact⟨k+1,⟨{y.d with dead:=m},ma,κ m,mc⟩,gone,ae,aq,by rw[<-aa,Io hq ag h4],ae,by show κ m*24<=_;omega,Xh aj ag,by rw[aP];rfl,by rw[wN]at s;exact s.rem .head⟩
       case measure=>simp only[Aau];omega
   ·obtain rfl:k=κ ps:=by omega
    have n1:((κ ps:Int)<(κ ps:Int))=False:=aq
    rw[Fu]at aa;go_wp2_with(refine fw s ?_;intro _ w s);refine bj ?_;have os:=s.cm (ys:=ys.set i y);rw[nQ,e,aP]at os;exact .inr ⟨_,_,_,_,_,EV aK (by rw[<-aa];rfl),rfl,os,s.CU,s.pure⟩
def eI(id:Nat)(nm:List aj)(x:ao):Bool:=(x.aT && decide (x.owner=id)) && decide (x.name=nm)
theorem Xw{nm:List aj}(h:x.aT=false):eI id nm x=false:=by grind [eI]
theorem Xx{nm:List aj}(h:¬x.owner=id):eI id nm x=false:=by grind [eI]
theorem Xy{nm:List aj}(h:x.aT=true)(h1:x.owner=id):eI id nm x=decide (x.name=nm):=by grind [eI]
theorem GP(w:af)(x:ao)(vd:ah)(g1 g2 g3 b off n cap j:Nat)(id:Nat)(nm:List aj)(aN:w.cell? (ad g1 0)=some (u6 (id:Int)))(al:w.cell? (ad g2 1)=some (sq b off n cap))(aa:w.cell? (ad g3 0)=some (i6 (j:Int)))(hj:j<n)(ar:w.cell? (ad b (off+j*11+1))=some (.string (strOf nm))):Aae Aag 149 #[.agg (b8 x vd),pz g1,pz g2,pz g3] w λe w'=>e=.returned (.bool (eI id nm x))/\Up w w':=by
 obtain⟨U1,BX⟩:=aw (ai w (.cells (b8 x vd) 90)) (aF.new w 90 (b8 x vd));obtain⟨d1,d2,d3,d4⟩:=iv (U1.cell aN) (U1.cell al) (U1.cell aa) (U1.cell ar);have e1:(w.alloc (.cells (b8 x vd) 90)).cell? (ad w.heap.size 1)=some (.string (strOf x.name)):=BX.cell 1;have e2:(w.alloc (.cells (b8 x vd) 90)).cell? (ad w.heap.size 2)=some (.bool x.aT):=BX.cell 2;have e3:(w.alloc (.cells (b8 x vd) 90)).cell? (ad w.heap.size 3)=some (u6 (x.owner:Int)):=BX.cell 3;have b1:((j:Int)<0)=False:=aq
 have b2:((j:Int)<(n:Int))=True:=ab
 have b3:((j:Int)>=0)=True:=aq
 have ST:=vT x.name nm;clear aN al aa ar hj;obtain⟨w1,ay⟩:=bE (w.alloc (.cells (b8 x vd) 90));have HW1:=an ay;rw[<-ay]at d1 d2 d3 d4 e1 e2 e3 U1;obtain⟨x1,x2,x3,x4,y1,y2⟩:=q5 (dk d1) (dk d2) (dk d3) (dk d4) (dk e1) (dk e2);have y3:=dk e3;clear d1 d2 d3 d4 e1 e2 e3 ay;obtain⟨r,hr⟩:=bE (eI id nm x);rw[<-hr];have HRR:=an hr;clear hr;obtain⟨sn,ag⟩:=bE (x.aT);obtain⟨ow,how⟩:=bE (x.owner);obtain⟨xn,bg⟩:=bE (x.name);rw[<-ag]at y2;rw[<-how]at y3;rw[<-bg]at y1 ST;obtain⟨ak,ae,bh⟩:=aV how bg ag;clear how bg ag;cases sn with
 | false=>
  have hr:r=false:=by rw[HRR.out];exact Xw bh.symm
  exact UJ
 | true=>
  by_cases ho:ow=id
  ·subst ho;have t1:((ow:Int)==(ow:Int))=true:=by simp
   have hr:decide (xn=nm)=r:=by rw[HRR.out,Xy bh.out.symm ak.out.symm,<-ae.out]
   rw[hr]at ST;clear hr;go_in;go_wp2_with(refine arm ?_);rw[<-HW1.out];refine gD ?_;repeat(go_big_quiet_step (fail))
   refine ve ?_;intro w4 d os hw4 up4;clear hw4;go_wp2;go_ret;exact⟨aA,U1.trans up4⟩
  ·have t1:((ow:Int)==(id:Int))=false:=by simp;omega
   have t2:(ow==id)=false:=ab
   have hr:r=false:=by rw[HRR.out];exact Xx di
   clear ho;exact UJ
theorem CO(w:af)(v:ah)(l:List ao)(hv:cq w v l)(g1 g2 g3 bb of n cp j:Nat)(id:Nat)(nm:List aj)(aN:w.cell? (ad g1 0)=some (u6 (id:Int)))(al:w.cell? (ad g2 1)=some (sq bb of n cp))(aa:w.cell? (ad g3 0)=some (i6 (j:Int)))(hj:j<n)(ar:w.cell? (ad bb (of+j*11+1))=some (.string (strOf nm))):Aae Aag 209 #[v,.func (.func 149) #[] #[pz g1,pz g2,pz g3]] w λe w'=>e=.returned (i6 (eJ (ed (λx=>eI id nm x) l)))/\Up w w':=by
 have hlen:=hv.length_le;obtain⟨a,cap,rfl⟩:=hv.slice;have HV:=an hv;go_in;go_wp2;go_loopw [8] (λi wr=>∃k:Nat,k<=κ l/\i=i6 k/\(∀j(hj:j<κ l),j<k->(λx:ao=>eI id nm x) l[j]=false)/\Up w wr) (λi _=>κ l-(Aau i).toNat)
 case atStart=>exact⟨0,bT _,rfl,λj _ h=>ae,Up.refl _⟩
 case round=>
  obtain⟨k,hk,rfl,ay,ur⟩:=hrel;obtain⟨HN,UR⟩:=aw ay ur;clear ay;by_cases hlt:k<κ l
  ·refine iD ?_;intro b2;obtain⟨b,off,rfl,_,hc⟩:=r4 (HV.up UR) ae;obtain⟨da,dn,dc,rg,dp⟩:=hc k hlt;obtain⟨RG,HK⟩:=aw rg (λh=>ni (p:=λx=>eI id nm x) hlt h HN);have HS:=an (show(λx:ao=>eI id nm x) l[k]=false->∀j(hj:j<κ l),j<k+1->(λx:ao=>eI id nm x) l[j]=false from λh j hj az=>by
    rcases jO j k with h'|h'
    ·exact HN j hj h'
    ·obtain rfl:j=k:=by omega
     exact h)
   have CK:=an ((λW (u:Up w W) x vd=>GP W x vd g1 g2 g3 bb of n cp j id nm (u.cell aN) (u.cell al) (u.cell aa) hj (u.cell ar)) wr UR l[k] (.slice da dn dc));clear hc;generalize l[k]=x at *;go_wp2_with(refine arm ?_);refine CK.mono ?_;rintro e w3⟨rfl,u3⟩;have U3:=an (UR.trans u3);by_cases he:(eI id nm x)=true
   ·exact Vn
   ·exact U8
  ·obtain rfl:k=κ l:=by omega
   refine vl ?_;intro b2;have HP:=an (show ed (λx=>eI id nm x) l=none from ng (λj hj=>HN j hj hj));exact Gd
theorem EC(w:af)(v:ah)(l:List ao)(hv:cq w v l)(g1 g2 g3 bb of n cp j:Nat)(id:Nat)(nm:List aj)(aN:w.cell? (ad g1 0)=some (u6 (id:Int)))(al:w.cell? (ad g2 1)=some (sq bb of n cp))(aa:w.cell? (ad g3 0)=some (i6 (j:Int)))(hj:j<n)(ar:w.cell? (ad bb (of+j*11+1))=some (.string (strOf nm))):Aae Aag 148 #[v,.func (.func 149) #[] #[pz g1,pz g2,pz g3]] w λe w'=>e=.returned (.bool (ed (eI id nm) l).isSome)/\Up w w':=by
 have ab:=an (CO w v l hv g1 g2 g3 bb of n cp j id nm aN al aa hj ar);obtain⟨a,cap,rfl⟩:=hv.slice;clear aN al aa ar;go_in;go_wp2_with fail;refine ab.mono ?_;rintro e w2⟨rfl,u2⟩;have he:(ed (λx=>eI id nm x) l)=ed (eI id nm) l:=rfl;rw[he];cases hf:ed (eI id nm) l with
 | none=>have HF:=an hf;unfold eJ;clear hf he;go_wp2;go_ret;exact⟨by rw[HF.out];rfl,u2⟩
 | some i=>have HF:=an hf;unfold eJ;have g4:((i:Int)>=0)=True:=ee ae;have ag:(0<=(i:Int))=True:=ee ae;clear hf he;go_wp2;go_ret;exact⟨by rw[HF.out];rfl,u2⟩
def pV(xs:List Nat)(id:Nat):Option Nat:=xs.findIdx? (λy=>decide (id=y))
theorem QC(hk:k<κ xs)(h:id=xs[k])(hn:∀j(hj:j<κ xs),j<k->¬id=xs[j]):pV xs id=some k:=by unfold pV;rw[y1];simp_all
theorem QB(hn:∀j(hj:j<κ xs),¬id=xs[j]):pV xs id=none:=by unfold pV;rw[Ad0];intro y hy;obtain⟨j,hj,rfl⟩:=jP hy;simp_all
theorem QD(w:af)(v:ah)(xs:List Nat)(hv:aD cr w v xs)(hl:κ xs<=100000)(id:Nat):Aae Aag 146 #[v,u6 (id:Int)] w λe w'=>e=.returned (i6 (eJ (pV xs id)))/\w'=w:=by
 obtain⟨a,cap,rfl⟩:=hv.slice;go_in;go_wp2;go_loopw [8] (λi wr=>∃k:Nat,k<=κ xs/\i=i6 k/\(∀j(hj:j<κ xs),j<k->¬id=xs[j])/\wr=w) (λi _=>κ xs-(Aau i).toNat)
 case atStart=>grind
 case round=>
  obtain⟨k,hk,rfl,ay,aH⟩:=hrel;rw[aH];clear aH;have HN:=an ay;clear ay;by_cases hlt:k<κ xs
  ·have n1:((k:Int)<(κ xs:Int))=True:=by simp;omega
   have n2:((k:Int)<0)=False:=aq
   have n3:((k:Int)>=0)=True:=aq
   obtain⟨b,off,rfl,hc⟩:∃b off,a=some ⟨b,off,none⟩/\∀i(hi:i<κ xs),w.cell? (ad b (off+i))=some (u6 (xs[i]:Int)):=by
    rcases hv with⟨h0,_⟩|⟨b,off,cp,h1,_,_,_,h5⟩
    ·grind
    ·simp only[Abg]at h1;exact⟨b,off,h1.1,h5⟩
   have k1:=hc k hlt;obtain⟨y,hy⟩:=bE (xs[k]);rw[<-hy]at k1;have HY:=an hy;clear hc hy;by_cases he:id=y
   ·have HE:=an (QC hlt di HN);have t1:((id:Int)==(y:Int))=true:=by simp;omega
    have t2:(id==y)=true:=ab
    clear he;go_wp2;go_ret;exact⟨lC,rfl⟩
   ·have HS:=an (show ∀j(hj:j<κ xs),j<k+1->¬id=xs[j] from λj hj az=>by
     rcases jO j k with h'|h'
     ·exact HN j hj h'
     ·obtain rfl:j=k:=by omega
      rw[<-HY.out];exact he)
    have t1:((id:Int)==(y:Int))=false:=ab
    have t2:(id==y)=false:=ab
    clear he;go_wp2;go_roundw
    case rel=>exact⟨k+1,ae,aq,HS,av⟩
    case measure=>simp only[Aau];omega
  ·obtain rfl:k=κ xs:=by omega
   have n1:((κ xs:Int)<(κ xs:Int))=False:=aq
   have HE:=an (QB (xs:=xs) (id:=id) (λj hj=>HN j hj hj));go_wp2;go_ret;exact⟨lC,rfl⟩
theorem Sb:prog.underlying 156=some (.slice (prog.elem 156)):=al
theorem Sc(W:af):(sizeOf (prog.elem 156)).run Aag W=.ok 1 W:=al
theorem El{l:List ao}{id:Nat}:∀(f:Nat)(c:List Nat)(p:Nat),(∀m∈c,∃j,aL l m=some j/\(recAt l j).owner=id)->∀m∈(gZ l id f c p).1,∃j,aL l m=some j/\(recAt l j).owner=id
 | 0,c,p,h=>h
 | f+1,c,p,h=>by
  by_cases h0:p=0
  ·subst h0;rw[pI];exact h
  ·cases hp:aL l p with
   | none=>rw[pH h0 hp];exact h
   | some j=>
    by_cases ho:(recAt l j).owner=id
    ·rw[oy h0 hp ho];exact El f _ _ (λm hm=>by
      rcases Aa8.1 hm with hm|hm
      ·exact h m hm
      ·simp at hm;subst hm;exact⟨j,hp,ho⟩)
    ·rw[nI h0 hp ho];exact h
theorem WU{id m:Nat}(hm:m∈(dR l id).1):∃j,aL l m=some j/\(recAt l j).owner=id:=by
 cases hp:aL l id with
 | none=>grind [w9]
 | some i=>
  cases hs:(recAt l i).aT with
  | true=>grind [xf]
  | false=>grind [q7,El]
theorem Ek{l:List ao}{id:Nat}:∀(f:Nat)(c:List Nat)(p:Nat),κ (gZ l id f c p).1<=κ c+f
 | 0,c,p=>aE _
 | f+1,c,p=>by
  by_cases h0:p=0
  ·subst h0;rw[pI];show κ c<=_;omega
  ·cases hp:aL l p with
   | none=>rw[pH h0 hp];show κ c<=_;omega
   | some j=>
    by_cases ho:(recAt l j).owner=id
    ·rw[oy h0 hp ho];have:=Ek (l:=l) (id:=id) f (c++[p]) (recAt l j).prev;simp at this;omega
    ·rw[nI h0 hp ho];show κ c<=_;omega
theorem WT:κ (dR l id).1<=32:=by
 cases hp:aL l id with
 | none=>grind [w9]
 | some i=>
  cases hs:(recAt l i).aT with
  | true=>grind [xf]
  | false=>grind [q7,Ek,recAt]
def DV(x:ao)(id:Nat):ao:={x with owner:=id}
def gQ(l:List ao)(id:Nat):List ao->List Nat->Except Nat (List ao)
 | c,[]=>.ok c
 | c,m::r=>match aL l m with
  | none=>.ok c
  | some j=>if(ed (eI id (recAt l j).name) l).isSome=true then .error 171 else gQ l id (c.set j (DV (recAt c j) id)) r
def mi(l:List ao)(y:ao):List Nat:=(dR l y.owner).1.drop ((pV (dR l y.owner).1 y.id).getD 0)
def cB(next:Nat)(l:List ao)(full:List aj):Except Nat (Nat × List ao):=match dy l full with
 | .error n=>.error n
 | .ok i=>match aL l (dR l (recAt l i).id).2 with
  | none=>.error 174
  | some o=>match gQ l (recAt l i).id l (mi l (recAt l o))with
   | .error n=>.error n
   | .ok c=>.ok (next,c)
section
variable {next:Nat} {l c:List ao} {full:List aj} {n i j o id m:Nat} {r:List Nat}
theorem LB(h:dy l full=.error n):cB next l full=.error n:=uZ
theorem LC(h:dy l full=.ok i)(h1:aL l (dR l (recAt l i).id).2=none):cB next l full=.error 174:=uZ
theorem LD(h:dy l full=.ok i)(h1:aL l (dR l (recAt l i).id).2=some o)(h2:gQ l (recAt l i).id l (mi l (recAt l o))=.error n):cB next l full=.error n:=uZ
theorem LF(h:dy l full=.ok i)(h1:aL l (dR l (recAt l i).id).2=some o)(h2:gQ l (recAt l i).id l (mi l (recAt l o))=.ok c):cB next l full=.ok (next,c):=uZ
theorem IY(h:aL l m=some j)(h1:(ed (eI id (recAt l j).name) l).isSome=true):gQ l id c (m::r)=.error 171:=Uk
theorem IZ(h:aL l m=some j)(h1:(ed (eI id (recAt l j).name) l).isSome=false):gQ l id c (m::r)=gQ l id (c.set j (DV (recAt c j) id)) r:=Uk
end
theorem xW(w:af)(next:Nat)(v:ah)(l:List ao)(hv:cq w v l)(hl:κ l<=1000)(hr:∀x∈l,κ x.dead*24<=140737488355328)(full:List aj)(hf:κ full<=9223372036854775807):Aae Aag 79 #[.agg (aO next v),.string (strOf full)] w λe w'=>Hu (cB next l full) w e w':=by
 obtain⟨a,cap,rfl⟩:=hv.slice;obtain⟨w0,rfl⟩:=bE w;have s:=Fr.start w0;go_in;go_wp2_with(refine fw s ?_;intro _ w s);refine Gg ?_;intro w u s;cases hva:dy l full with
 | error n=>refine Gh ?_;intro hn nz;go_wp2_with(refine fw s ?_;intro _ w s);refine cH ?_;intro w vx ox u;obtain⟨ax,cx,rfl⟩:=ox.cm.slice;refine cQ ?_;intro ys e z s;go_wp2_with(refine fw s ?_;intro _ w s);refine bj ?_;exact .inl ⟨n,_,_,_,_,LB hva,rfl,s.pure⟩
 | ok i=>
  refine KZ ?_;intro hi b1 b2 b3 b off ar aB da dc rg dp;subst ar;have i0:=(cd rg).1;go_wp2_with(refine fw s ?_;intro _ w s);refine kb s (λw s=>?_);repeat refine kt ?_
  refine kc (λw _ s=>tB w _ l (hv.up s.pure) (recAt l i).id) ?_;rintro w _ s _ w'⟨rfl,u⟩;refine⟨_,rfl,u,?_⟩;cases aK:aL l (dR l (recAt l i).id).2 with
  | none=>
   refine kc (λw _ s=>p' w _ l (hv.up s.pure) hr (dR l (recAt l i).id).2) ?_;rintro w _ s _ w'(⟨_,rfl,u⟩|⟨j2,vd,ay,_⟩)
   case inr=>rw[aK]at ay;cases ay
   refine⟨_,rfl,u,?_⟩;repeat refine kt ?_
   refine kn (λ_ w u s=>?_);refine ks (λw s=>?_);refine kt ?_;refine kd (λw u s=>?_);go_wp2_with(refine fw s ?_;intro _ w s);refine cH ?_;intro w vx ox u;obtain⟨ax,cx,rfl⟩:=ox.cm.slice;refine cQ ?_;intro ys e z s;go_wp2_with(refine fw s ?_;intro _ w s);refine bj ?_;exact .inl ⟨174,_,_,_,_,LC hva aK,rfl,s.pure⟩
  | some o=>
   have ho:=(cJ aK).1;refine xJ (λw _ s=>p' w _ l (hv.up s.pure) hr (dR l (recAt l i).id).2) ?_;rintro w _ s _ w'(⟨ay,_⟩|⟨j2,vd,hj,rfl,od,u⟩)
   case inl=>rw[aK]at ay;cases ay
   obtain rfl:o=j2:=dE (aK.symm.trans hj);obtain⟨na,nc,rfl⟩:=(ak.row od pw).slice;refine vm ?_;repeat refine kt ?_
   refine kn (λ_ w u s=>?_);refine ks (λw s=>?_);refine kt ?_;refine kd (λw u s=>?_);go_wp2_with(refine fw s ?_;intro _ w s);refine(Di w _ l (hv.up s.pure) (recAt l o).owner).mono ?_;rintro e w⟨uc,rfl,oc,u⟩;have aQ:κ (dR l (recAt l o).owner).1<=32:=WT;have au:mi l (recAt l o)=(dR l (recAt l o).owner).1.drop ((pV (dR l (recAt l o).owner).1 (recAt l o).id).getD 0):=rfl;have hmm:∀m∈(dR l (recAt l o).owner).1,∃j,aL l m=some j:=λm hm=>by obtain⟨j,hj,_⟩:=WU hm;exact⟨j,hj⟩
   generalize(dR l (recAt l o).owner).1=ch at *;obtain⟨ca,cc,rfl⟩:=oc.cu.slice;have s:=s.new (.n1 oc u s.t.size);have an:(pV ch (recAt l o).id).getD 0<=κ ch:=by
    cases ai:pV ch (recAt l o).id with
    | none=>simp
    | some k=>unfold pV at ai;rw[y1]at ai;obtain⟨hk,_⟩:=ai;show k<=_;omega
   go_wp2_with(refine fw s ?_;intro _ w s);refine(QD w _ ch s.cu.cu ae (recAt l o).id).mono ?_;rintro e wx⟨rfl,rfl⟩;have MX:∀ty W,(Builtin.max_ #[3,3] ty #[.int .i64 (eJ (pV ch (recAt l o).id)),.int .i64 0]).run Aag W=.ok (.int .i64 (((pV ch (recAt l o).id).getD 0:Nat):Int)) W:=by
    intro ty W;cases ai:pV ch (recAt l o).id with
    | none=>simp[Builtin.max_,Builtin.max2,eJ]
    | some k=>
     have h0:¬(0:Int)>(k:Int):=ae
     simp[Builtin.max_,Builtin.max2,eJ];try omega
   generalize eJ (pV ch (recAt l o).id)=ix at *;generalize(pV ch (recAt l o).id).getD 0=dd at *;have PF:=λW=>dg (P:=Aag) 156 Sb Sc ca (κ ch) cc dd an W;have PC:∀W,aD cr W (.slice ca (κ ch) cc) ch->aD cr W (bY ca dd (κ ch) cc) (ch.drop dd):=λW h=>by have:=aD.piece h (lo:=dd) (hi:=κ ch) an (aE _);rwa [dq (aE _)]at this
   have a7:∀m∈ch.drop dd,∃j,aL l m=some j:=λm hm=>hmm m (tg hm);have aR:κ (ch.drop dd)<=32:=by rw[hA];omega
   generalize ch.drop dd=mv at *;obtain⟨pa,pc,ag⟩:=(PC _ s.cu.cu).slice;rw[ag]at PF PC;go_wp2_with(refine fw s ?_;intro _ w s);refine cH ?_;intro w vx ox u;obtain⟨g,cx,rfl,_⟩:=ox.at ae;refine cQ ?_;intro ys e z s;go_wp2_with(refine fw s ?_;intro _ w s);change Fr no w0 (bk ?gt 73 _::os _ _ ys::?rest) _ at s;go_loopw [63] (λii wr=>∃(k:Nat)(zs:List gH),k<=κ mv/\ii=.int .i64 k/\gQ l (recAt l i).id (zs.map (·.d)) (mv.drop k)=gQ l (recAt l i).id l mv/\(κ zs)=κ l/\Fr no w0 (bk ?gt 73 (aO next (cD g (κ l) cx))::os w0.heap.size (cD g (κ l) cx) zs::?rest) wr) (λii _=>κ mv-(Aau ii).toNat)
   case atStart=>exact⟨0,ys,bT _,rfl,by rw[Aaw,e],FX,s⟩
   case round=>
    obtain⟨k,zs,hk,rfl,aa,aQ,s⟩:=hrel;by_cases hlt:k<κ mv
    ·have n1:((k:Int)<(κ mv:Int))=True:=by simp;omega
     have n2:((k:Int)<0)=False:=aq
     have n3:((k:Int)>=0)=True:=aq
     obtain⟨mb,mo,rfl,az⟩:∃b off,pa=some ⟨b,off,none⟩/\∀i(hi:i<κ mv),wr.cell? ⟨b,off+i,none⟩=some (.int .u64 (mv[i]:Int)):=by
      rcases PC wr s.cu.cu with⟨h0,_⟩|⟨b',aC,aG,h1,_,_,_,h5⟩
      ·rw[h0]at hlt;exact absurd hlt aq
      ·simp only[Abg]at h1;exact⟨b',aC,h1.1,h5⟩
     have k1:=az k hlt;clear az;rw[td hlt]at aa;obtain⟨j,hj⟩:=a7 mv[k] (cw hlt);generalize mv[k]=m at *;have aM:=(cJ hj).1;have ad:j<κ zs:=ae
     have d1:((j:Int)<0)=False:=aq
     have d2:((j:Int)<(κ l:Int))=True:=ab
     have d3:((j:Int)>=0)=True:=aq
     go_wp2_with(refine fw s ?_;intro _ w s);refine(py _ _ l (hv.up s.pure) m).mono ?_;refine er ?_;intro w u s;obtain⟨b',aC,ar,_,ea,ec,aF,_⟩:=cf hv aM;obtain⟨rfl,rfl⟩:b=b'/\off=aC:=by simpa using ar
     rw[hj];simp only[eJ];go_wp2_with(refine fw s ?_;intro _ w s);refine(EC w _ l (hv.up s.pure) _ _ _ b off (κ l) cap j (recAt l i).id (recAt l j).name ((s.fg (t:=70) gG).cell 0) ((s.fg (C:=aO next (.slice (some ⟨b,off,none⟩) (κ l) cap)) gG).cell 1) ((s.fg (t:=3) gG).cell 0) aM (cd (s.pure.range aF)).2.1).mono ?_;refine er ?_;intro w u s;cases av:(ed (eI (recAt l i).id (recAt l j).name) l).isSome with
     | true=>go_wp2_with(refine fw s ?_;intro _ w s);refine cH ?_;intro w vx ox u;obtain⟨ax,cx,rfl⟩:=ox.cm.slice;refine cQ ?_;intro ys e z s;go_wp2_with(refine fw s ?_;intro _ w s);refine bj ?_;exact .inl ⟨171,_,_,_,_,LD hva aK (by rw[au,<-aa,IY hj av]),rfl,s.pure⟩
     | false=>
      go_wp2_with(first|(refine fw s ?_;intro _ w s)|(refine fq j 3 ⟨DV (zs[j]'ad).d (recAt l i).id,(zs[j]'ad).a,(zs[j]'ad).n,(zs[j]'ad).c⟩ s ?_ (h6 ad);intro w s));go_roundw
      case rel=>exact⟨k+1,_,ae,aq,by rw[nQ,<-aa,IZ hj av,O4 rfl ad],by rw[Aat];exact aQ,s.rem .head⟩
      case measure=>simp only[Aau];omega
    ·obtain rfl:k=κ mv:=by omega
     have n1:((κ mv:Int)<(κ mv:Int))=False:=aq
     rw[Fu]at aa;go_wp2_with(refine fw s ?_;intro _ w s);refine bj ?_;exact .inr ⟨_,_,_,LF hva aK (by rw[au,<-aa];rfl),rfl,s.cm,s.pure⟩
def fD(pb next:Nat)(vb vm:ah)(u:hT):Array ah:=#[.pointer (some ⟨pb,0,none⟩),.int .u64 (next:Int),vb,vm,.int .u64 (u.dz:Int),.int .u64 (u.ay:Int),.int .i64 u.iV.loc,.int .u64 (u.iV.aU:Int),.int .u32 (u.iV.sum:Int),.int .i64 u.len,.int .i64 u.sec]
structure ct where
 P:bq
 next:Nat
 l:List ao
 ms:List au
 u:hT
def GA(w:af)(gb:Nat)(H:aR)(G:ct):Prop:=∃vb vm,aF w gb 153 (fD H.pb G.next vb vm G.u)/\bc w 0 vb G.l/\bf w 0 vm G.ms/\PA w H G.P
section
variable {w w':af} {gb:Nat} {H:aR} {G:ct}
theorem GA.up(A:GA w gb H G)(u:Up w w'):GA w' gb H G:=by obtain⟨vb,vm,h1,h2,h3,h4⟩:=A;exact⟨vb,vm,h1.up u,h2.up u,ak.up h3 u,h4.up u⟩
theorem GA.pa(A:GA w gb H G):PA w H G.P:=by obtain⟨vb,vm,h1,h2,h3,h4⟩:=A;exact h4
theorem xb{P:bq}{base:Nat}{v:ah}{l:List ao}(A:PA w H P)(h:bc w base v l)(T:Touch (PF H) w w'):bc w' base v l:=by obtain⟨ys,h1,h2,h3⟩:=h;refine⟨ys,h1,ak.ax h2 T (λb hb hf=>?_),λy hy=>ak.ax (h3 y hy) T (eE A (h3 y hy))⟩;exact ND
theorem GA.nV{P':bq}(A:GA w gb H G)(vp:ah)(A':PA w' (H.at vp) P')(T:Touch (PF H) w w'):GA w' gb (H.at vp) {G with P:=P'}:=by obtain⟨vb,vm,h1,h2,h3,h4⟩:=A;exact⟨vb,vm,h1.ax T (h4.cc h1 av),xb h4 h2 T,ak.ax h3 T (eE h4 h3),A'⟩
theorem GA.pt{P':bq}(A:GA w gb H G)(D:PT w H P' w'):∃vp,GA w' gb (H.at vp) {G with P:=P'}/\∀b,vp.ownBlock=some b->H.h.vp.ownBlock=some b\/w.heap.size<=b:=by obtain⟨vp,A',T,O⟩:=D;exact⟨vp,A.nV vp A' T,O⟩
end
theorem ju(w:af)(gb:Nat)(H:aR)(G:ct)(A:GA w gb H G):Aae Aag 33 #[pz gb] w λe w'=>e=.returned (pz H.pb)/\w=w':=by obtain⟨vb,vm,h1,_⟩:=A;have c0:w.cell? (ad gb 0)=some (pz H.pb):=h1.cell 0;go_in;exact e3
theorem Qu(w:af)(gb:Nat)(H:aR)(G:ct)(A:GA w gb H G):Aae Aag 155 #[pz gb] w λe w'=>e=.returned (i6 (κ G.ms:Int))/\w=w':=by obtain⟨vb,vm,h1,_,h3,_⟩:=A;obtain⟨a,c,rfl⟩:=(ak.row h3 pw).slice;have c0:w.cell? (ad gb 3)=some (.slice a (κ G.ms) c):=h1.cell 3;generalize (κ G.ms)=n at *;go_in;exact e3
theorem oK{gb pb next:Nat}{vb vm:ah}(h:aF w gb 153 (fD pb next vb vm u)):w.rangeAt gb 1 (aO next vb).toList:=λj v hj=>by
 match j,hj with
 | 0,hj=>exact(h.cell 1).trans hj
 | 1,hj=>exact(h.cell 2).trans hj
 | (k+2),hj=>simp[aO]at hj
theorem Mb{gb pb next:Nat}{vb vm:ah}(h:aF w gb 153 (fD pb next vb vm u)):w.rangeAt gb 4 (uC u).toList:=λj v hj=>by
 match j,hj with
 | 0,hj=>exact(h.cell 4).trans hj
 | 1,hj=>exact(h.cell 5).trans hj
 | 2,hj=>exact(h.cell 6).trans hj
 | 3,hj=>exact(h.cell 7).trans hj
 | 4,hj=>exact(h.cell 8).trans hj
 | 5,hj=>exact(h.cell 9).trans hj
 | 6,hj=>exact(h.cell 10).trans hj
 | (k+7),hj=>simp[uC]at hj
theorem fz(w:af)(gb:Nat)(H:aR)(G:ct)(A:GA w gb H G)(hl:κ G.l<=1000)(hr:∀x∈G.l,κ x.dead*24<=140737488355328):Aae Aag 30 #[pz gb] w λe w'=>SF G.next G.l w e w':=by
 obtain⟨vb,vm,h1,h2,_⟩:=A;obtain⟨P,next,l,ms,u⟩:=G;simp only at *;have u1:=ai w (.cells (aO 0 (nl)) 73);go_in;go_wp2_with(first
  | refine bB 73 iL ?_
  | refine cT 73 5 (aO next vb) (u1.range (oK h1)) ?_)
 refine(q1 _ _ _ l (h2.up u1).cm hl hr).mono ?_;rintro e w2⟨v2,rfl,os,u2⟩;have B2:=an ((aF.new w 73 (aO 0 (nl))).up u2);obtain⟨a2,c2,rfl⟩:=os.cm.slice;go_wp2_with(first|refine arm ?_|refine oJ ?_);intro wz hbz ag;go_wp2;exact kF (v:=.agg (aO next (.slice a2 (κ l) c2))) (nG rfl _ _ _ _ _ _ rfl hbz _ underlying73 rfl (dW _ _)) rfl ⟨_,rfl,((os.mono (base':=w.heap.size) u1.size).Il B2 ag),((u1.trans u2).grown ag (λk hk=>aQ))⟩
theorem n'(w:af)(gb:Nat)(H:aR)(G:ct)(A:GA w gb H G)(next':Nat)(v':ah)(l':List ao)(hv:cq w v' l')(hl:κ l'<=1000)(hr:∀x∈l',κ x.dead*24<=140737488355328):Aae Aag 43 #[pz gb,.agg (aO next' v')] w λe w'=>e=rt #[]/\GA w' gb H {G with next:=next',l:=l'}/\Touch (·=gb) w w':=by
 obtain⟨vb,vm,h1,h2,h3,h4⟩:=A;obtain⟨P,next,l,ms,u⟩:=G;simp only at *;have u1:=ai w (.cells (aO next' v') 73);go_in;go_wp2_with(refine arm ?_);refine(q1 _ _ _ _ (hv.up u1) hl hr).mono ?_;rintro e w2⟨v2,rfl,os,u2⟩;obtain⟨G2,aa,ab⟩:=aV ((h1.up u1).up u2) (ak.up (ak.up h3 u1) u2) ((h4.up u1).up u2);obtain⟨a2,c2,rfl⟩:=os.cm.slice;go_wp2_with(first
  | ((with_reducible refine cx _ _ _ ?_);refine ch rfl _ (.tmp 8) (.tmp 6) rfl _ 1 _ rfl rfl _ _ G2 (dW _ _) (by show 1+2<=11;omega) (hZ _ _ _ _) ?_))
 intro wz hbz ag;rw[show(Abx (fD H.pb next vb vm u).toList 1 (aO next' (.slice a2 (κ l') c2)).toList).toArray=fD H.pb next' (.slice a2 (κ l') c2) vm u from rfl]at hbz;obtain⟨ys,y1,y2,y3⟩:=os.mono (base':=0) (bT _);go_wp2;go_end0;exact⟨rfl,⟨_,_,hbz,⟨ys,y1,ak.kept y2 ag (.inr (eB av G2 y2)),λy hy=>ak.kept (y3 y hy) ag (.inr (eB av G2 (y3 y hy)))⟩,(ak.kept aa ag (.inr (eB av G2 aa))),(ab.grown ag (ab.cc G2 av))⟩,((Touch.bP (F:=(·=gb)) (u1.trans u2)).trans (Touch.bg (F:=(·=gb)) ag (λk hk=>aQ)) (λ_ h _=>h))⟩
theorem Lv(w:af)(v:ah)(l:List au)(hv:c9 w v l)(hl:κ l<=100000):Aae Aag 90 #[v] w λe w'=>∃v',e=.returned v'/\bf w' w.heap.size v' l/\Up w w':=by
 obtain⟨a,cap,rfl⟩:=hv.slice;cases a with
 | none=>
  have h0:l=[]:=by
   rcases hv with⟨h,_⟩|⟨b,off,cp,h1,_⟩
   ·exact h
   ·simp at h1
  subst h0;have EQ:∀W,(binOp .eql 88 (.slice none 0 cap) (nl)).run Aag W=.ok (.bool true) W:=λW=>y' W 88 87 none _ cap 0 0 Aaq;rw[Aa4];go_in;go_wp2;go_ret;exact⟨_,rfl,ak.nil _ _ _ _ _,Up.refl _⟩
 | some ad=>
  have U0:=an (ai w (.cells #[] 87));have EQ:∀W,(binOp .eql 88 (.slice (some ad) (κ l) cap) (nl)).run Aag W=.ok (.bool false) W:=λW=>y' W 88 87 (some ad) _ cap 0 0 Aaq;go_in;go_wp2_with(first
   | (at_builtin;refine bH pw rfl (.tmp 5) (.tmp 6) 88 rfl _ _ _ _ Aaq cF rfl _ _ rfl (ak.made _ 3 _ w _ (aE _)) _ l rfl (aH.up hv U0) ab ab U0.size ?_))
  intro v2 w2 aa ag ae;go_wp2;go_ret;exact⟨_,rfl,aa,(U0.aG ae (aE _))⟩
def fu(G:ct):Nat:=eZ G.next G.l (κ G.P.C)
def e0(G:ct):Bool:=decide (0<fu G/\fu G<=bN G.P.s/\2*fu G<=bN G.P.s+κ G.ms)
theorem DB(w:af)(gb:Nat)(H:aR)(G:ct)(A:GA w gb H G)(hn:G.next<18446744073709551616)(aL:∀x∈G.l,x.wf):Aae Aag 91 #[pz gb] w λe w'=>e=.returned (i6 (fu G:Int))/\Up w w':=by
 obtain⟨vb,vm,h1,h2,_,h4⟩:=A;obtain⟨P,next,l,ms,u⟩:=G;have HC:=an (show fu ⟨P,next,l,ms,u⟩=eZ next l (κ P.C) from rfl);simp only at *;have U0:=Up.drew (Up.refl w);obtain⟨Fzq,UD,CO⟩:=aV (h1.up U0) U0 (QP _ next hn vb l (h2.up U0).cm aL (κ P.C) (by have:=h4.dev.len;omega));rw[HC.out];clear hn aL;generalize fu ⟨P,next,l,ms,u⟩=cg at *;generalize aa:eZ next l (κ P.C)=bc at *
 clear aa;go_in;go_wp2;refine e7 (S:=(λW=>aF W gb 153 (fD H.pb next vb vm u))) al ?_;change Acp _ _ _ _ _ 12 _ _ (w.drew);generalize w.drew=w1 at *;refine o8 ?_;refine tb 3 rfl (W7 (λW hS=>oK hS)) ?_;refine ta 4 ?_;refine ta 5 ?_;refine ta 6 ?_;refine tb 7 rfl (yc (λW hS=>hS.cell 0)) ?_;refine ok 8 ?_;intro K hK;go_simp;refine(lj _ H P (h4.up U0)).mono ?_;refine zp ?_;clear hK K;intro wx;refine ok 9 ?_;intro K hK;go_simp;refine(kZ _ _ _ _ _ (h4.up U0).dev).mono ?_;refine zp ?_;clear hK K;intro wx;refine ok 10 ?_;intro K hK;go_simp;refine CO.mono ?_;rintro e w2⟨rfl,u2⟩;have FS2:=an (Fzq.up u2);refine hK _ _ FS2 ?_;clear hK K;refine ta 11 ?_;refine dn ?_;go_wp2;go_ret;exact⟨rfl,(UD.trans u2)⟩
theorem Qt(w:af)(gb:Nat)(H:aR)(G:ct)(A:GA w gb H G)(hn:G.next<18446744073709551616)(aL:∀x∈G.l,x.wf)(s4:κ G.ms<=100000):Aae Aag 97 #[pz gb] w λe w'=>e=.returned (.bool (e0 G))/\Up w w':=by
 have A1:=A.up (Up.drew (Up.refl w));obtain⟨CO,HA,HF⟩:=aV (DB _ _ H G A1 hn aL) A (show e0 G=decide (0<fu G/\fu G<=bN G.P.s/\2*fu G<=bN G.P.s+κ G.ms)from rfl);have aa:=an (show fu G<=2049 from by
  unfold fu eZ;split
  ·split
   ·omega
   ·exact ua
  ·omega)
 have a1:=an (show bN G.P.s<=1024 from Dl _);obtain⟨vb,vm,h1,h2,_,h4⟩:=A1;obtain⟨Fzq,UD,PM,CN,GH⟩:=eW h1 (Up.drew (Up.refl w)) (λW (u:Up w W)=>mo W H _ (HA.up u).pa) (λW (u:Up w W)=>kT W _ _ (HA.up u).pa.map) (λW (u:Up w W)=>Qu W _ H G (HA.up u));obtain⟨c,hc⟩:=bE (fu G);obtain⟨n,ag⟩:∃n,n=bN G.P.s:=⟨_,rfl⟩;obtain⟨h,hh⟩:=bE (κ G.ms);rw[<-hc]at CO HF aa;rw[<-ag]at CN HF a1;rw[<-hh]at GH HF s4;have ab:=an s4;obtain⟨r,hr⟩:=bE (e0 G);rw[<-hr]at HF ⊢;clear hn aL hc ag hh s4 hr;have w1:=aX (n+h) (by have:=a1.out;have:=ab.out;omega);have w2:=aX (2*c) (by have:=aa.out;omega);have ao:IntKind.i64.wrap ((n:Int)+(h:Int))=(n:Int)+(h:Int):=by have:=w1;push_cast at this;exact this
 have aq:IntKind.i64.wrap (2*(c:Int))=2*(c:Int):=by have:=w2;push_cast at this;exact this
 clear w1 w2;by_cases h0:0<c
 ·have g0:=ee ae;have ah:=ee h0;by_cases h1:c<=n
  ·have g1:=ee ae;have ai:=ee h1;obtain⟨bb,aj⟩:=bE (decide (2*c<=n+h));have HR:=an (show r=bb from by rw[HF.out,aj];simp[h0,h1]);have g2:decide (((n:Int)+(h:Int))>=2*(c:Int))=bb:=by rw[aj,E'];omega
   have ak:decide (2*(c:Int)<=(n:Int)+(h:Int))=bb:=g2;clear aj h0 h1;go_in;go_wp2;refine e7 (S:=(λW=>aF W gb 153 (fD H.pb G.next vb vm G.u))) al ?_;change Acp _ _ _ _ _ 10 _ _ (w.drew);generalize w.drew=w1 at *;refine ta 0 ?_;refine ns ?_;refine ta 4 ?_;refine tb 5 rfl (yc (λW hS=>hS.cell 0)) ?_;refine ok 1 ?_;intro K hK;go_simp;refine CO.mono ?_;rintro e w2⟨rfl,u2⟩;obtain⟨FS2,U2⟩:=aw (Fzq.up u2) (UD.trans u2);refine hK _ _ FS2 ?_;clear hK K;refine ok 6 ?_;intro K hK;go_simp;refine(PM w2 U2).mono ?_;refine zq ?_;clear hK K;intro wx;refine ok 7 ?_;intro K hK;go_simp;refine(CN w2 U2).mono ?_;refine zq ?_;clear hK K;intro wx;refine ta 8 ?_;refine ta 9 ?_;refine dn ?_;go_wp2_with fail;refine(GH w2 U2).mono ?_;refine f' ?_;intro wx;go_wp2;go_ret;exact⟨by rw[HR.out];rfl,U2⟩
  ·have g1:=cI ae;have ai:=cI h1;have HR:=an (show r=false from by rw[HF.out];simp[h1]);clear h0 h1;exact Zp
 ·have g0:=cI ae;have ah:=cI h0;have HR:=an (show r=false from by rw[HF.out];simp[h0]);clear h0;exact Zp
theorem xp(pb next:Nat)(vb:Option Adr)(nb cb:Nat)(vm:Option Adr)(nm cm:Nat)(u:hT):prog.built 153 [(0,pz pb),(1,.agg (aO next (.slice vb nb cb))),(2,.slice vm nm cm),(3,.agg (uC u))]=some (fD pb next (.slice vb nb cb) (.slice vm nm cm) u):=al
section
variable {P:bp} {ops:Array Abn} {S:af->Prop} {o:Abn} {a:Act} {v:ah} {w:af} {K:Act->af->Prop} {Q:Exit->Act->af->Prop}
theorem Ep(hw:Aaa o (Aa1 ops a.tmps)=true)(t:Aab)(i0 i1 i2 i3:Nat)(x0 x1 x2 x3:bU)(ho:o.op=.build t #[(i0,x0),(i1,x1),(i2,x2),(i3,x3)])(v0 v1 v2 v3:ah)(C:Array ah)(hb:P.built t [(i0,v0),(i1,v1),(i2,v2),(i3,v3)]=some C)(h0:a.eval x0=v0)(h1:a.eval x1=v1)(h2:a.eval x2=v2)(h3:a.eval x3=v3):Acb P ops S o (.agg C) a:=.inl ⟨hw,λw _=>by
  unfold Abt;simp only[ho,List.map_toArray,Acd,List.map_nil,h0,h1,h2,h3,Aay,run_build w t _ C hb,Aax,Ac7]⟩
theorem CC(ty:Aab)(x:bU)(ho:o.op=.box ty x)(C:Array ah)(hx:a.eval x=.agg C)(h:K (a.put o.dst (pz w.heap.size)) (w.alloc (.cells C ty))):o.wp P a w K Q:=by unfold Aca Abt;simp[ho,hx,Instr.box,Aay,newVar,newRow,Value.cells,Aap];exact h
end
theorem Dz(w:af)(gb:Nat)(H:aR)(G:ct)(A:GA w gb H G)(hl:κ G.l<=1000)(hr:∀x∈G.l,κ x.dead*24<=140737488355328)(s4:κ G.ms<=100000):Aae Aag 37 #[pz gb] w λe w'=>∃gb' pb mb,e=.returned (pz gb')/\w.heap.size<=gb'/\w.heap.size<=pb/\w.heap.size<=mb/\GA w' gb' ⟨pb,mb,H.h⟩ G/\Up w w':=by
 have U0:=Up.drew (Up.refl w);have UD:=an U0;obtain⟨vb,vm,h1,h2,h3,h4⟩:=A.up U0;have c0:w.cell? (ad gb 0)=some (pz H.pb):=by obtain⟨_,_,k1,_⟩:=A;exact k1.cell 0
 obtain⟨HP,HB,HM,HL,HR,aJ,Fzq⟩:=yk h4 h2 h3 hl hr s4 h1;clear hl hr s4;go_in;go_wp2;clear c0;refine e7 (S:=(λW=>aF W gb 153 (fD H.pb G.next vb vm G.u))) al ?_;change Acp _ _ _ _ _ 27 _ _ (w.drew);generalize w.drew=w1 at *;refine ta 0 ?_;refine ta 2 ?_;refine ta 5 ?_;refine ta 7 ?_;refine ta 10 ?_;refine ta 11 ?_;refine ta 12 ?_;refine tb 13 rfl (W7 (λW hS=>oK hS)) ?_;refine ta 15 ?_;refine ta 16 ?_;refine ta 17 ?_;refine tb 18 rfl (yc (λW hS=>hS.cell 3)) ?_;refine ta 20 ?_;refine ta 21 ?_;refine ta 22 ?_;refine tb 23 rfl (W7 (λW hS=>Mb hS)) ?_;refine ok 1 ?_;intro K hK;go_simp;refine(lj _ H _ HP).mono ?_;refine zp ?_;clear hK K;intro wx;refine ok 3 ?_;intro K hK;go_simp;refine(mo _ H _ HP).mono ?_;refine zp ?_;clear hK K;intro wx;refine ok 4 ?_;intro K hK;go_simp;refine(LX _ _ _ HP.map).mono ?_;rintro e w2⟨rfl,aj,u2⟩;obtain⟨FS2,bx⟩:=aw (Fzq.up u2) (HP.up u2);refine hK _ _ FS2 ?_;clear hK K;refine ok 6 ?_;intro K hK;go_simp;refine(pr _ H _ bx).mono ?_;refine zq ?_;clear hK K;intro wx;refine ok 8 ?_;intro K hK;go_simp;refine(Rh _ H _ bx).mono ?_;refine zq ?_;clear hK K;intro wx;refine ok 9 ?_;intro K hK;go_simp;refine(vC _ _ _ _ _ _ _ bx.dev aj _ _).mono ?_;rintro e w3⟨rfl,ae,u3⟩;obtain⟨aa,U3⟩:=aw (FS2.up u3) (u2.trans u3);refine hK _ _ aa ?_;clear hK K;refine ok 14 ?_;intro K hK;go_simp;refine(q1 _ _ _ _ (HB.up U3).cm HL HR).mono ?_;rintro e w4⟨v4,rfl,av,u4⟩;obtain⟨ag,U4⟩:=aw (aa.up u4) (U3.trans u4);obtain⟨b4,c4,rfl⟩:=av.cm.slice;refine hK _ _ ag ?_;clear hK K;refine ok 19 ?_;intro K hK;go_simp;refine(Lv _ _ _ (aH.up (ak.row HM pw) U4) aJ).mono ?_;rintro e w5⟨v5,rfl,aE,u5⟩;obtain⟨ab,U5⟩:=aw (ag.up u5) (U4.trans u5);obtain⟨m5,d5,rfl⟩:=(ak.row aE pw).slice;refine hK _ _ ab ?_;clear hK K;refine tb 24 rfl (Ep rfl _ 0 1 2 3 (.tmp 17) (.tmp 22) (.tmp 27) (.tmp 31) rfl _ _ _ _ _ (xp _ _ _ _ _ _ _ _ _) rfl rfl rfl rfl) ?_;refine ok 25 ?_;intro K hK;refine CC _ (.tmp 32) rfl _ rfl ?_;have u6:=ai w5 (.cells (fD w2.heap.size G.next (.slice b4 (κ G.l) c4) (.slice m5 (κ G.ms) d5) G.u) 153);have aq:=an (ab.up u6);have aD:=an (show w1.heap.size<=w5.heap.size/\w1.heap.size<=w2.heap.size/\GA (w5.alloc (.cells (fD w2.heap.size G.next (.slice b4 (κ G.l) c4) (.slice m5 (κ G.ms) d5) G.u) 153)) w5.heap.size ⟨w2.heap.size,w1.heap.size,H.h⟩ G/\Up w1 (w5.alloc (.cells (fD w2.heap.size G.next (.slice b4 (κ G.l) c4) (.slice m5 (κ G.ms) d5) G.u) 153))from⟨U5.size,u2.size,⟨_,_,aF.new _ _ _,((av.mono (base':=0) (bT _)).up u5).up u6,ak.up (aE.mono (base':=0) (bT _)) u6,((ae.up u4).up u5).up u6⟩,U5.trans u6⟩);refine hK _ _ aq ?_;clear hK K;refine ta 26 ?_;refine dn ?_;go_wp2;go_ret;have hw:=UD.size;exact⟨_,_,_,rfl,bK hw aD.1,bK hw aD.2.1,hw,aD.2.2.1,UD.trans aD.2.2.2⟩
def nX(G:ct)(q:au):hT:=⟨G.u.dz+1,G.P.st,q,40,(κ G.P.C:Int)⟩
def XJ(G:ct)(P8:bq)(q:au)(ps:List au):ct:=⟨{P8 with C:=P8.C.set ((G.u.dz+1)%4) (q6 (nX G q)),m:=0,fl:=true,s:=iR P8.s 1024,ba:=P8.st,st:=P8.st+1},G.next,G.l,ps,nX G q⟩
def Ms(G:ct)(b:List aj)(P8:bq)(q:au)(ps:List au):Prop:=∃ats,κ ats=e8 (κ b) (κ G.P.C)/\ats.Nodup/\(∀i∈ats,i<1024/\bO G.P.s G.P.ba G.ms i=1)/\lv P8.C q b (W' {G.P with s:=fk (bO G.P.s G.P.ba G.ms) ats}) ps/\Mv {G.P with s:=fk (bO G.P.s G.P.ba G.ms) ats} P8 ats ps/\q.wf/\cA q=true
def l6(gb:Nat)(H:aR)(G:ct)(b:List aj)(w:af)(e:Ab2)(w':af):Prop:=e=.returned (.int .i64 0)/\∃q ps P8 vp,Ms G b P8 q ps/\GA w' gb (H.at vp) (XJ G P8 q ps)/\Touch (λk=>PF H k\/k=gb) w w'/\(∀k,vp.ownBlock=some k->H.h.vp.ownBlock=some k\/w.heap.size<=k)
theorem Jb{G:ct}{b:List aj}{P8:bq}{q:au}{ps:List au}(h:Ms G b P8 q ps):q≠hole:=by
 obtain⟨ats,_,_,_,M,_⟩:=h;obtain⟨r1,r2,lv1,lv2,lvq,BQ,_⟩:=M.ex;have h1:=BQ.top;have h0:0<κ (eG (κ (fJ r1 (κ b) r2 (κ (W' {G.P with s:=fk (bO G.P.s G.P.ba G.ms) ats}))))):=by simp[jd,W',fk,bO,MS]
 exact BQ.nh (κ (eG (κ (fJ r1 (κ b) r2 (κ (W' {G.P with s:=fk (bO G.P.s G.P.ba G.ms) ats})))))-1) ae q aa
theorem Cb{P:bq}(A:PA w H P){v:ah}{ys:List gH}(h2:ak dh 11 90 w base v ys):∀b,v.ownBlock=some b->¬PF H b:=λb hb hf=>by exact ND
theorem HG(a s:Nat)(q:au)(l c:Int):prog.built 122 [(0,u6 (a:Int)),(1,u6 (s:Int)),(2,.agg (be q)),(3,i6 l),(4,i6 c)]=some (uC ⟨a,s,q,l,c⟩):=al
theorem H6(w:af)(gb:Nat)(H:aR)(G:ct)(A:GA w gb H G)(aC:G.next<18446744073709551616)(aL:∀x∈G.l,x.wf)(b:List aj)(hb:e2 G.next G.l=some b)(h1:1<=κ b)(ht:64<=κ G.P.C/\(κ G.P.C)<=1024)(aG:1<=G.P.st/\G.P.st<=100000000)(hm:G.P.m<=80000)(aE:∀i,i<1024->G.P.s i≠0->4<=i/\i<κ G.P.C)(hc:e8 (κ b) (κ G.P.C)<=bN (bO G.P.s G.P.ba G.ms))(aW:κ G.ms<=100000)(aa:G.u.dz<=100000000):Aae Aag 92 #[.pointer (some ⟨gb,0,none⟩)] w λe w'=>l6 gb H G b w e w':=by
 obtain⟨w0,rfl⟩:=bE w;obtain⟨vb,vm,k1,k2,k3,k4⟩:=A;have ag:=k4.cc k1 av;have g0:w0.cell? ⟨gb,0,none⟩=some (.pointer (some ⟨H.pb,0,none⟩)):=k1.cell 0;have g3:w0.cell? ⟨gb,3,none⟩=some vm:=k1.cell 3;have g4:w0.cell? ⟨gb,4,none⟩=some (.int .u64 (G.u.dz:Int)):=k1.cell 4;have g1:=oK k1;have CB:e8 (κ b) (κ G.P.C)<=2049:=ua;have s:=Fr.nV k4;go_in;go_wp2_with fail;refine kpl s (λw s=>?_);repeat refine kt ?_
 refine Zn (λw _ s=>QV w H G.P s.pa G.next aC vb G.l (xb k4 k2 s.t).cm aL b hb vm G.ms (ak.row (ak.ax k3 s.t (eE k4 k3)) pw) (eE k4 k3) ht ⟨aG.1,ae⟩ ae h1 aE hc aW) ?_;rintro w _ s _ w'⟨ats,a1,a2,a3,q,v,ps,P8,rfl,o8,⟨vp,A8,T8,O8⟩,ma,wr,qw,qg⟩;obtain⟨va,vc,rfl⟩:=(ak.row o8 pw).slice;refine⟨_,_,rfl,.pt s A8 T8 O8 o8,Xc,?_⟩;repeat(first|refine kx ?_|refine kt ?_)
 refine kn (λ_ w u s=>?_);have OQ:=an (jX q);refine ks (λw s=>?_);repeat(first|refine kx ?_|refine kt ?_)
 refine kd (λw u s=>?_);have SV:=an (show Ms G b P8 q ps from⟨ats,a1,a2,a3,ma,wr,qw,qg⟩);obtain⟨W1,W2⟩:=az wr.len wr.st;have W3:P8.m<=82049:=by rw[wr.m];show G.P.m+κ ats<=_;omega
 replace W1:κ P8.C=κ G.P.C:=W1;replace W2:P8.st=G.P.st:=W2;have ab:=an (show nX G q=⟨G.u.dz+1,P8.st,q,40,(κ P8.C:Int)⟩ by unfold nX;rw[W1,W2]);rw[<-W1]at ht;rw[<-W2]at aG;clear W1 W2 a1 a2 a3 ma wr hc aE hb aL;go_wp2_with(refine fw s ?_;intro _ w s);refine(lj w (H.at vp) P8 s.pa).mono ?_;rintro e _⟨rfl,rfl⟩;have wn:IntKind.u64.wrap ((G.u.dz:Int)+1)=(G.u.dz:Int)+1:=IntWalk.u64_in _ ae;have BU:=an (show prog.built 122 [(0,.int .u64 ((G.u.dz:Int)+1)),(1,u6 (P8.st:Int)),(2,.agg (be q)),(3,i6 40),(4,i6 (κ P8.C:Int))]=_ from HG (G.u.dz+1) P8.st q 40 (κ P8.C:Int));generalize ad:(⟨G.u.dz+1,P8.st,q,40,(κ P8.C:Int)⟩:hT)=un at *;have hu:=an ad;clear ad;have OU:=an (xd un);go_wp2_with(refine fw s ?_;intro _ w s);refine kb s (λw s=>?_);repeat refine kt ?_
 refine kj 11 ?_;refine kj 12 ?_;refine kc (λw _ s=>pr w (H.at vp) P8 s.pa) ?_;rintro w _ s _ _⟨rfl,rfl⟩;refine lQ ?_;repeat(first|refine kx ?_|refine kt ?_)
 refine kc (λw _ s=>kZ w (H.at vp).h P8.C P8.m P8.fl s.pa.dev) ?_;rintro w _ s _ _⟨rfl,rfl⟩;refine lQ ?_;repeat(first|refine kx ?_|refine kt ?_)
 refine kn (λ_ w u s=>?_);refine ks (λw s=>?_);repeat(first|refine kx ?_|refine kt ?_)
 refine kd (λw u s=>?_);go_wp2_with(refine fw s ?_;intro _ w s);refine(Kf w (H.at vp).h P8.C P8.m P8.fl s.pa.dev un (by
  rw[<-hu.out];exact⟨by show G.u.dz+1<_;omega,by show P8.st<_;omega,qw,⟨by show(-9223372036854775808:Int)<=40;omega,by show(40:Int)<=9223372036854775807;omega⟩,⟨by show(-9223372036854775808:Int)<=(κ P8.C:Int);omega,by show(κ P8.C:Int)<=9223372036854775807;omega⟩⟩) (by
  rw[<-hu.out,kQ];exact⟨⟨by show 1<=G.u.dz+1;omega,by show G.u.dz+1<=_;omega⟩,⟨by show 1<=P8.st;omega,by show P8.st<=_;omega⟩,⟨qg,Jb SV⟩,⟨by show(1:Int)<=40;omega,by show(40:Int)<=65535;omega⟩,⟨by show(64:Int)<=(κ P8.C:Int);omega,by show(κ P8.C:Int)<=1024;omega⟩⟩) ae ae).mono ?_
 rintro e w⟨rfl,d10⟩;obtain⟨ao,s⟩:=s.pt (s.pa.Wh d10);have s:=s.own k1 ag;go_wp2_with(refine fw s ?_;intro _ w s);have S3:(Abx (fD H.pb G.next vb vm G.u).toList 3 (#[.slice va (κ ps) vc]:Array ah).toList).toArray=fD H.pb G.next vb (.slice va (κ ps) vc) G.u:=rfl
 have S4:(Abx (fD H.pb G.next vb (.slice va (κ ps) vc) G.u).toList 4 (uC un).toList).toArray=fD H.pb G.next vb (.slice va (κ ps) vc) un:=rfl
 refine kwg gb s (λw s=>?_);repeat refine kt ?_
 refine ksp (λw s=>?_);repeat refine kt ?_
 refine ksp (λw s=>?_);refine kd (λw u s=>?_);go_wp2_with(refine fw s ?_;intro _ w s);refine(IQ w (H.at ao) _ s.pa (by show P8.st<_;omega)).mono ?_;rintro e bd⟨rfl,ai,t14⟩;obtain⟨bs,s⟩:=s.pt (vp:=ao) ⟨ao,ai,t14,λ_ h=>.inl h⟩;go_wp2_with fail;refine bj ?_;obtain⟨ys,y1,y2,y3⟩:=k2;have OZ:bc bd 0 vb G.l:=⟨ys,y1,ak.ax y2 s.t (λb hb hf=>by
  rcases hf with hf|hf
  ·exact Cb k4 y2 b hb hf
  ·exact eB av k1 y2 (by rw[hb,hf])),λy hy=>ak.ax (y3 y hy) s.t (λb hb hf=>by
  rcases hf with hf|hf
  ·exact eE k4 (y3 y hy) b hb hf
  ·exact eB av k1 (y3 y hy) (by rw[hb,hf]))⟩
 refine⟨rfl,q,ps,P8,bs,SV,⟨vb,.slice va (κ ps) vc,?_,OZ,s.CU.mono (bT _),?_⟩,s.t,(s.p (pl _ H bs _) gG).2⟩
 ·show aF _ _ _ (fD _ _ _ _ (nX G q));rw[ab.out];have:=s.fg (g:=gb) (t:=153) gG;exact this
 ·show PA _ _ {P8 with C:=P8.C.set _ (q6 (nX G q)),m:=0,fl:=true,s:=iR P8.s 1024,ba:=P8.st,st:=P8.st+1};rw[ab.out];have:=s.pa (vp:=bs);rw[<-hu.out]at this ⊢;exact this
structure CI(G:ct)(b:List aj):Prop where
 nx:G.next<=100000000
 wf:∀x∈G.l,x.wf
 ZD:e2 G.next G.l=some b
 one:1<=κ b
 dev:64<=κ G.P.C/\(κ G.P.C)<=1024
 st:1<=G.P.st/\G.P.st<=100000000
 m:G.P.m<=80000
 inn:∀i,i<1024->G.P.s i≠0->4<=i/\i<κ G.P.C
 cost:e8 (κ b) (κ G.P.C)<=bN (bO G.P.s G.P.ba G.ms)
 old:κ G.ms<=100000
 tx:G.u.dz<=100000000
theorem l6.pre{gb:Nat}{G:ct}{b:List aj}{w0 w:af}{e:Ab2}{w':af}(u:Up w0 w)(h:l6 gb H G b w e w'):l6 gb H G b w0 e w':=by obtain⟨rfl,q,ps,P8,vp,sv,ga,t,ov⟩:=h;exact⟨rfl,q,ps,P8,vp,sv,ga,(Touch.bP (F:=λk=>PF H k\/k=gb) u).trans t (λ_ h _=>h),λk hk=>(ov k hk).imp id (λh=>bK u.size h)⟩
theorem Dy(w:af)(gb:Nat)(H:aR)(G:ct)(A:GA w gb H G)(b:List aj)(K:CI G b):Aae Aag 92 #[pz gb] w λe w'=>l6 gb H G b w e w':=H6 w gb H G A FQ K.wf b K.ZD K.one K.dev K.st K.m K.inn K.cost K.old K.tx
theorem Qv(w:af)(gb:Nat)(H:aR)(G:ct)(A:GA w gb H G)(b:List aj)(K:CI G b)(hc:fu G<=bN G.P.s):Aae Aag 38 #[pz gb] w λe w'=>l6 gb H G b w e w':=by obtain⟨HA,PD,DD,PS,PM,CN,CO,CM⟩:=Ju A (lj w H G.P A.pa) (uh w H.h G.P.C G.P.m G.P.fl A.pa.dev) (pr w H _ A.pa) (mo w H G.P A.pa) (kT w H.mb G.P.s A.pa.map) (DB w gb H G A FQ K.wf) (λW (u:Up w W)=>Dy W gb H G (A.up u) b K);obtain⟨vb,vm,k1,_⟩:=A;have c0:w.cell? (ad gb 0)=some (pz H.pb):=k1.cell 0;have c1:w.cell? (ad gb 1)=some (u6 (G.next:Int)):=k1.cell 1;have c4:w.cell? (ad gb 4)=some (u6 (G.u.dz:Int)):=k1.cell 4;have t1:((G.u.dz:Int)>281474976710652)=False:=cI (by have:=K.tx;omega);have az:(281474976710652<G.u.dz)=False:=cI aQ;have t2:((G.P.st:Int)>281474976710652)=False:=cI (by have:=K.st;omega);have aV:(281474976710652<G.P.st)=False:=cI aQ;have t3:((G.next:Int)>281474976710652)=False:=cI FQ;have ab:(281474976710652<G.next)=False:=cI aQ;have t5:((bN G.P.s:Int)<(fu G:Int))=False:=cI ae;have ag:(bN G.P.s<fu G)=False:=cI ae;clear hc;generalize bN G.P.s=n at *;generalize fu G=c at *;obtain⟨tx,aa⟩:=bE (G.u.dz);obtain⟨st,aG⟩:=bE (G.P.st);obtain⟨nx,aC⟩:=bE (G.next);rw[<-aa]at c4 t1 az;rw[<-aG]at PS t2 aV;rw[<-aC]at c1 t3 ab;clear aa aG aC;go_in;go_wp2_with fail;refine zv ?_;intro wx;go_wp2_with fail;refine DD.mono ?_;refine f' ?_;intro wx;go_wp2_with fail;refine PS.mono ?_;refine f' ?_;intro wx;go_wp2_with fail;refine PM.mono ?_;refine f' ?_;intro wx;go_wp2_with fail;refine CN.mono ?_;refine f' ?_;intro wx;go_wp2_with fail;refine CO.mono ?_;rintro e w2⟨rfl,u2⟩;clear c0 c1 c4;go_wp2_with fail;refine(CM w2 u2).mono ?_;intro e w3 hr;have HR:=an (hr.pre u2);obtain⟨rfl,_⟩:=hr;go_wp2;go_ret;exact HR
theorem S'(pb:Nat):prog.built 153 [(0,pz pb),(1,.agg (aO 1 (nl)))]=some (fD pb 1 (nl) (nl) tV):=al
theorem HE:prog.built 73 [(0,u6 1)]=some (aO 1 (nl)):=al
def tu(C:List cS)(m:Nat)(fl:Bool):ct:=⟨⟨C,m,fl,kf (κ C),1,0⟩,1,[],[],tV⟩
theorem H7(w:af)(h:iM)(C:List cS)(m:Nat)(fl:Bool)(D:DA w h C m fl)(b:List aj)(K:CI (tu C m fl) b):Aae Aag 64 #[pz h.d] w λe w'=>∃gb pb mb w1,w.heap.size<=gb/\w.heap.size<=pb/\w.heap.size<=mb/\Up w w1/\e=rt #[pz gb,i6 0]/\l6 gb ⟨pb,mb,h⟩ (tu C m fl) b w1 (.returned (i6 0)) w':=by
 have hl:=K.dev;obtain⟨LE,SN⟩:=aw (kZ w h C m _ D) (Cf w (κ C) (by have:=hl.1;show 4<=κ C;have:64<=κ C:=hl.1;omega) hl.2);have t1:((κ C:Int)<64)=False:=cI (by have:64<=κ C:=hl.1;omega);have az:(κ C<64)=False:=cI aQ;obtain⟨n,hn⟩:=bE (κ C);have HN:=an hn;rw[<-hn]at LE SN t1 az;clear hl hn;go_in;go_wp2_with fail;refine zw ?_;intro wx;go_wp2_with fail;refine zw ?_;intro wx;go_wp2_with fail;refine SN.mono ?_;rintro e w1⟨rfl,s1,u1⟩;go_wp2_with fail;refine(vC _ h _ C m _ _ (D.up u1) s1 1 0).mono ?_;rintro e w2⟨rfl,a2,u2⟩;have U2:=an (u1.trans u2);go_wp2_with(first
  | ((with_reducible refine eP _ _ ?_);refine k6 rfl _ 0 (.const (u6 1)) rfl _ rfl _ HE ?_)
  | ((with_reducible refine eP _ _ ?_);refine kV rfl _ 0 1 (.tmp 13) (.tmp 14) rfl _ _ _ (S' _) rfl rfl ?_)
  | refine hs 153 15 (fD w1.heap.size 1 (nl) (nl) tV) ?_)
 have u3:=ai w2 (.cells (fD w1.heap.size 1 (nl) (nl) tV) 153);have aa:=an (show GA (w2.alloc (.cells (fD w1.heap.size 1 (nl) (nl) tV) 153)) w2.heap.size ⟨w1.heap.size,w.heap.size,h⟩ (tu C m fl)from⟨nl,nl,aF.new w2 153 _,⟨[],rfl,ak.nil _ _ _ _ _,λy hy=>aQ⟩,ak.nil _ _ _ _ _,by have:=a2.up u3;rw[HN.out]at this;exact this⟩);have CM:=an (Dy _ _ _ _ aa b K);refine CM.mono ?_;intro e w4 hr;have HR:=an hr;obtain⟨rfl,_⟩:=hr;go_wp2;go_ret2;exact⟨_,_,_,_,U2.size,u1.size,aE _,(U2.trans u3),rfl,HR⟩
structure bL(w:af)(p gb:Nat)(H:aR)(G:ct):Prop where
 fg:aF w p 82 #[.pointer (some ⟨gb,0,none⟩)]
 ga:GA w gb H G
def bL.up{w w':af}{p gb:Nat}{G:ct}(A:bL w p gb H G)(u:Up w w'):bL w' p gb H G:=⟨A.fg.up u,A.ga.up u⟩
theorem Xs(nx:Nat)(v:ah)(W:af):(Instr.field 73 (.agg (aO nx v)) 0).run Aag W=.ok (u6 (nx:Int)) W:=al
theorem MA(nx:Nat)(a:Option Adr)(n c:Nat)(W:af):(Instr.field 73 (.agg (aO nx (.slice a n c))) 1).run Aag W=.ok (.slice a n c) W:=al
abbrev j9(gb:Nat):ah:=.agg #[.pointer (some ⟨gb,0,none⟩)]
theorem QJ(gb:Nat):(prog.info? 100).map (·.size)=some (#[pz gb]:Array ah).size:=al
theorem D1(w:af):Aae Aag 48 #[i6 71] w λe w'=>e=.returned (i6 71)/\w=w':=by go_in;exact e3
theorem wY(w:af)(p gb:Nat)(H:aR)(G:ct)(A:bL w p gb H G):Aae Aag 36 #[pz p] w λe w'=>e=.returned (.bool false)/\w=w':=by have c0:w.cell? (ad p 0)=some (pz gb):=A.fg.cell 0;go_in;go_wp2_with fail;refine(ju w _ H G A.ga).mono ?_;refine f' ?_;intro wx;go_wp2_with fail;refine(lj w H _ A.ga.pa).mono ?_;refine f' ?_;intro wx;go_wp2_with fail;refine(uh w _ _ _ _ A.ga.pa.dev).mono ?_;refine f' ?_;intro wx;exact e3
theorem Ly(w:af)(gb:Nat)(H:aR)(G:ct)(A:GA w gb H G)(hl:κ G.l<=1000)(hr:∀x∈G.l,κ x.dead*24<=140737488355328)(hn:G.next<=100000000):Aae Aag 41 #[j9 gb] w λe w'=>e=.returned (.bool false)/\Up w w':=by refine Gr ?_;intro u1 c0;have BK:=an (fz _ _ H G (A.up u1) hl hr);have t1:((G.next:Int)>281474976710651)=False:=cI ae;have az:(281474976710651<G.next)=False:=cI ae;have t2:(281474976710651<(G.next:Int))=False:=cI ae;clear hl hr hn;obtain⟨nx,aC⟩:=bE (G.next);rw[<-aC]at BK t1 az t2;clear aC;go_in;go_wp2_with(refine arm ?_);refine BK.mono ?_;rintro e w2⟨v2,rfl,os,u2⟩;have BF:=Xs nx v2;go_wp2;go_ret;exact⟨rfl,(u1.trans u2)⟩
theorem BQ(w:af)(gb:Nat)(H:aR)(G:ct)(A:GA w gb H G)(hn:G.next<18446744073709551616)(aL:∀x∈G.l,x.wf)(s4:κ G.ms<=100000):Aae Aag 44 #[j9 gb] w λe w'=>e=.returned (i6 (if e0 G=true then 0 else 71))/\Up w w':=by
 refine Gr ?_;intro u1 c0;obtain⟨FT,U1⟩:=aw (Qt _ _ H G (A.up u1) hn aL s4) u1;clear hn aL s4;generalize e0 G=fb at *;cases fb
 ·exact Vh
 ·exact Vh
theorem tC(w:af)(gb:Nat)(H:aR)(G:ct)(A:GA w gb H G)(vo:ah)(old:List au)(ho:c9 w vo old)(aU:∀k,vo.ownBlock=some k->¬PF H k)(aW:κ old<=100000):Aae Aag 105 #[j9 gb,vo] w λe w'=>e=rt #[]/\GA w' gb H {G with P:={G.P with s:=bO G.P.s G.P.ba old}}/\Touch (PF H) w w':=by
 obtain⟨oa,oc,rfl⟩:=ho.slice;refine Gr ?_;intro u1 c0;obtain⟨AA,U1,SZ,HO,bh,B1⟩:=ix (A.up u1) u1 (aN w (.cells #[pz gb] 100)) (aH.up ho u1) aU (aF.new w 100 #[pz gb]);obtain⟨vb,vm,g1,_⟩:=A;have GB:=an (g1.up u1);clear aU c0;go_in;go_wp2_with(refine arm ?_);obtain⟨w1,ay⟩:=bE ((w.alloc (.cells #[pz gb] 100)));rw[<-ay]at U1 AA HO B1 GB SZ ⊢;clear ay;go_loopw [8] (λi wr=>∃k:Nat,k<=κ old/\i=i6 k/\GA wr gb H {G with P:={G.P with s:=bO G.P.s G.P.ba (old.take k)}}/\Touch (PF H) w1 wr/\aF wr w.heap.size 100 #[pz gb]) (λi _=>κ old-(Aau i).toNat)
 case atStart=>exact⟨0,bT _,rfl,AA,Touch.refl _ _,B1⟩
 case round=>
  obtain⟨k,hk,rfl,ar,tr,br⟩:=hrel;obtain⟨AR,TR,BR⟩:=aV ar tr br;by_cases hlt:k<κ old
  ·have b3:((k:Int)<(κ old:Int))=True:=by simp;omega
   obtain⟨bb,off,rfl,hbs,_,hc⟩:=(aH.tN HO TR bh).range pw ae;obtain⟨RC,TK,UX,BX⟩:=bW (hc k hlt) (show bO G.P.s G.P.ba (old.take (k+1))=gX (bO G.P.s G.P.ba (old.take k)) G.P.ba old[k] from by rw[(λk hk=>et hk) k hlt,p7]) (ai wr (.cells (be old[k]) 87)) (aF.new wr 87 (be old[k]));clear hc;generalize old[k]=q at *;go_wp2_with(first
    | refine cT 87 10 (be q) RC ?_
    | refine bB 87 fL ?_
    | refine eh 87 5 11 wr (be q) 87 (be hole) ?_)
   obtain⟨w2,hw2⟩:=bE (wr.alloc (.cells (be q) 87));rw[<-hw2]at UX BX ⊢;clear hw2;have Fzq:=an (Adc (BR.up UX) BX);refine e7 (S:=(λW=>aF W w.heap.size 100 #[pz gb]/\aF W wr.heap.size 87 (be q))) al ?_;change Acp _ _ _ _ _ 5 _ _ (w2.drew);have UD:=an (Up.drew (Up.refl w2));obtain⟨FA,AA⟩:=aw (Adc (Fzq.1.up UD) (Fzq.2.up UD)) ((AR.up UX).up UD);generalize w2.drew=w3 at *;refine ta 0 ?_;refine tb 1 rfl (yc (λW hS=>hS.1.cell 0)) ?_;refine tb 3 rfl (W7 (λW hS=>aF.range hS.2)) ?_;refine ok 2 ?_;intro K hK;go_simp;refine(ju _ _ H _ AA).mono ?_;refine f' ?_;intro wx;refine hK _ _ FA ?_;clear hK K;refine ok 4 ?_;intro K hK;go_simp;refine(DX _ H _ AA.pa q).mono ?_;rintro e w4⟨⟨r,rfl⟩,a4,t4⟩;have FB:=an (Adc (FA.1.ax t4 (AA.pa.cc FA.1 av)) (FA.2.ax t4 (λh=>by have:=AR.pa.lt _ h;omega)));refine hK _ _ FB ?_;clear hK K;refine dn ?_;go_wp2;go_roundw
   case rel=>exact⟨k+1,ae,aq,(by rw[TK.out];exact AA.nV H.h.vp a4 t4),((TR.trans (Touch.bP (F:=PF H) (UX.trans UD)) (λn h _=>h)).trans t4 (λn h _=>h)),FB.1⟩
   case measure=>simp only[Aau];omega
  ·obtain rfl:k=κ old:=by omega
   have b3:((κ old:Int)<(κ old:Int))=False:=aq
   have ar:=AR.out;rw[fF]at ar;go_wp2;go_end0;exact⟨rfl,ar,((Touch.bP (F:=PF H) U1).trans TR (λn h _=>h))⟩
def e9(l:List ao)(full:List aj)(i:Int):Except Nat Nat:=match dP l full with
 | .error n=>.error (if n=141 then 141 else 172)
 | .ok k=>if i<0\/(recAt l k).blocks<=i then .error 176 else .ok k
section
variable {l:List ao} {full:List aj} {i:Int} {k n:Nat}
theorem XE(h:dP l full=.error 141):e9 l full i=.error 141:=u'
theorem XF(h:dP l full=.error n)(hn:n≠141):e9 l full i=.error 172:=u'
theorem MG(h:dP l full=.ok k)(hi:i<0\/(recAt l k).blocks<=i):e9 l full i=.error 176:=u'
theorem EI(h:dP l full=.ok k)(hi:¬(i<0\/(recAt l k).blocks<=i)):e9 l full i=.ok k:=u'
end
def Mp(l:List ao)(r:Except Nat Nat)(w:af)(e:Ab2)(w':af):Prop:=(∃n:Nat,r=.error n/\e=.returned (.tuple #[.agg b6,.int .i64 (n:Int)])/\Up w w')\/(∃i v,r=.ok i/\i<κ l/\e=.returned (.tuple #[.agg (b8 (recAt l i) v),.int .i64 0])/\bf w' w.heap.size v (recAt l i).dead/\Up w w')
theorem DY(w:af)(next:Nat)(v:ah)(l:List ao)(hv:cq w v l)(hr:∀x∈l,κ x.dead*24<=140737488355328)(full:List aj)(hf:κ full<=9223372036854775807)(i:Int):Aae Aag 51 #[.agg (aO next v),.string (strOf full),i6 i] w λe w'=>Mp l (e9 l full i) w e w':=by
 obtain⟨a,cap,rfl⟩:=hv.slice;obtain⟨U1,U2⟩:=az (ai w (.cells (aO next (.slice a (κ l) cap)) 73)) (ai (w.alloc (.cells (aO next (.slice a (κ l) cap)) 73)) (.cells b6 90));obtain⟨b1,b2⟩:=az ((aF.new w 73 (aO next (.slice a (κ l) cap))).up U2) (aF.new (w.alloc (.cells (aO next (.slice a (κ l) cap)) 73)) 90 b6);rw[aN]at b2;obtain⟨w2,hw2⟩:=bE ((w.alloc (.cells (aO next (.slice a (κ l) cap)) 73)).alloc (.cells b6 90));obtain⟨UU,aa⟩:=aw (U1.trans U2) b1;rw[<-hw2]at b1 b2 UU;obtain⟨HW2,IZ,OZ⟩:=aV hw2 gM gU;clear hw2;have c1:((w.alloc (.cells (aO next (.slice a (κ l) cap)) 73)).alloc (.cells b6 90)).cell? (ad w.heap.size 1)=some (.slice a (κ l) cap):=by rw[<-HW2.out];exact b1.cell 1
 go_in;go_wp2_with(refine arm ?_);rw[<-HW2.out];clear c1;refine(rQ _ _ l (hv.up UU) hr _ hf).mono ?_;rintro e w3(⟨n,hn,rfl,u3⟩|⟨k,vd,hk,hkl,rfl,od,u3⟩)
 ·have U3:=an (UU.trans u3);exact NF
 ·have U3:=an (UU.trans u3);obtain⟨x,hx⟩:=bE (recAt l k);obtain⟨HX,E2,E3,HK⟩:=bW hx (MG (i:=i) hk) (EI (i:=i) hk) hkl;rw[<-hx]at od E2 E3 ⊢;obtain⟨da,dc,rfl⟩:=(ak.row od pw).slice;refine Vi ?_;clear hx hk hkl;intro OD U4 B2_4 c6 g1 bl aB HBL;rw[<-aB]at c6 g1 E2 E3;clear aB;rcases g1 with g1|⟨g1,g2,g3⟩|⟨g1,g2,g3⟩
  ·exact Vo
  ·exact Vp
  ·have HE:=an (E3 (λh=>by
    rcases h with h|h
    ·rw[g1]at h;exact h
    ·rw[g3]at h;exact h))
   go_wp2_with(first|refine arm ?_|refine oJ ?_);intro wz hbz ag;obtain⟨UZ,OZ⟩:=aw (U4.grown ag (λk hk=>aQ)) (ak.kept OD ag (.inr (eB av B2_4 OD)));go_wp2_with fail;exact bG (.tuple #[.agg (b8 x (.slice da (κ x.dead) dc)),i6 0]) hbz (.inr ⟨k,_,HE,HK,by rw[<-HX.out],by rw[<-HX.out];exact OZ.mono (by have:=UU.size;omega),UZ⟩)
def tU(l:List ao)(id:Nat):Nat:=match aL l id with
 | none=>0
 | some j=>(recAt l j).ay
abbrev pW(l:List ao):Prop:=l.Pairwise (λx y=>x.id<y.id)
structure gd(next:Nat)(l:List ao):Prop where
 nx:next<=281474976710655
 len:κ l<=32
 rt:∀x∈l,cK x=true
 fP:pW l
 KC:∀x∈l,x.id<next
 nm:∀x∈l,∀y∈l,cb x=cb y->x=y
 pz:∀x∈l,x.prev=0->x.dead=[]
 pv:∀x∈l,x.prev≠0->∃y∈l,y.id=x.prev/\y.aT=true/\(x.aT=true->y.ay<x.ay)/\∀p∈x.dead,p.aU<=y.ay
 ov:∀x∈l,x.aT=true->∃v∈l,v.id=x.owner/\v.aT=false
 Zx:∀x∈l,x.aT=true->∃n∈l,n.prev=x.id/\n.owner=x.owner/\∀m∈l,m.prev=x.id->m.owner=x.owner->m=n
theorem pW.inj(h:pW l):∀{x y:ao},x∈l->y∈l->x.id=y.id->x=y:=by
 induction l with
 | nil=>simp
 | cons a l ih=>intro x y hx hy e;have h2:=List.pairwise_cons.mp h;grind
theorem aI(h:i<κ l):recAt l i∈l:=by grind [b9]
theorem ca(h:pW l)(hx:x∈l):∃i,i<κ l/\aL l x.id=some i/\recAt l i=x:=by
 cases e:aL l x.id with
 | none=>grind [aL,ed]
 | some i=>obtain⟨h1,h2⟩:=cJ e;exact⟨i,h1,rfl,h.inj (aI h1) hx h2⟩
theorem xT:aL l id=none↔∀x∈l,x.id≠id:=by simp[aL,ed]
theorem Cn(h:pW l)(hy:y∈l):tU l y.id=y.ay:=by grind [ca,tU,recAt]
theorem right_id(h:cK x=true):1<=x.id/\x.id<=281474976710655:=by grind [br]
theorem Ww(h:∀x∈l,x.id≠id):tU l id=0:=by unfold tU;rw[xT.mpr h]
section
variable {next:Nat} {l:List ao}
theorem gd.aaE(F:gd next l):tU l 0=0:=Ww (λx hx e=>by have:=(right_id (F.rt x hx)).1;omega)
theorem gd.floor(F:gd next l){x:ao}(hx:x∈l):b0 l x.id=tU l x.prev:=by
 obtain⟨i,_,h1,h2⟩:=ca F.fP hx;by_cases h0:x.prev=0
 ·rw[AH h1 aa,h0,F.aaE]
 ·obtain⟨y,hy,e,_⟩:=F.pv x hx h0;obtain⟨j,_,h3,h4⟩:=ca F.fP hy;rw[AI h1 aa (by rw[h2,<-e];exact h3),h4,<-e,Cn F.fP hy]
theorem gd.prv(F:gd next l){x:ao}(hx:x∈l)(h:x.prev≠0):∃y∈l,y.id=x.prev/\y.aT=true/\tU l x.prev=y.ay/\(x.aT=true->y.ay<x.ay):=by obtain⟨y,hy,e,h1,h2,_⟩:=F.pv x hx h;exact⟨y,hy,e,h1,by rw[<-e,Cn F.fP hy],h2⟩
theorem oS{p:ao->Bool}{l:List ao}:ed p l=none↔∀x∈l,p x=false:=by simp[ed]
theorem kL{l:List ao}{x:ao}(h:x∈l):∃i,i<κ l/\recAt l i=x:=by obtain⟨i,hi,e⟩:=jP h;exact⟨i,hi,by grind [b9]⟩
theorem gd.placeOf(F:gd next l){x:ao}(hx:x∈l):∃i,i<κ l/\eg l (cb x)=some i/\recAt l i=x:=by
 cases e:eg l (cb x)with
 | none=>have:=oS.mp e x hx;simp_all
 | some i=>obtain⟨h1,h2⟩:=fi e;exact⟨i,h1,rfl,F.nm _ (aI h1) x hx h2⟩
theorem vn{l:List ao}{id j:Nat}:j∈fY l id↔j<κ l/\(recAt l j).prev=id:=by simp[fY,jg]
def KA(l:List ao)(id:Nat):(fY l id).Nodup:=(List.nodup_range).filter _
theorem pW.lG{l:List ao}(h:pW l){i j:Nat}(hi:i<κ l)(hj:j<κ l)(e:recAt l i=recAt l j):i=j:=by
 rcases Nat.lt_trichotomy i j with hlt|rfl|hlt
 ·have:=List.pairwise_iff_getElem.mp h i j hi hj hlt;grind [b9]
 ·rfl
 ·have:=List.pairwise_iff_getElem.mp h j i hj hi hlt;grind [b9]
theorem gd.abc(F:gd next l):ZM next l:=by
 refine⟨F.nx,F.len,F.rt,λk hk=>⟨?_,F.KC _ (aI hk)⟩,?_,λk hk=>?_,λk hk=>?_⟩
 ·cases k with
  | zero=>exact(right_id (F.rt _ (aI hk))).1
  | succ k=>show(recAt l k).id<_;rw[b9 hk,b9 ae];exact List.pairwise_iff_getElem.mp F.fP k (k+1) ae hk ae
 ·have:∀m:List ao,pW m->(∀x∈m,∀y∈m,cb x=cb y->x=y)->(m.map cb).Nodup:=by
   intro m;induction m with
   | nil=>decide
   | cons a m ih=>intro h1 h2;obtain⟨h3,h4⟩:=List.pairwise_cons.mp h1;grind
  exact this l F.fP F.nm
 ·have hx:=aI hk;generalize recAt l k=x at hx;by_cases h0:x.prev=0
  ·rw[HW h0,F.pz x hx h0];rfl
  ·obtain⟨y,hy,e,h1,h2,h3⟩:=F.pv x hx h0;obtain⟨i,_,h4,h5⟩:=ca F.fP hy;grind [HX,iQ]
 ·have hx:=aI hk;generalize recAt l k=x at hx;cases hs:x.aT with
  | false=>exact IN hs
  | true=>
   obtain⟨v,hv,e,h1⟩:=F.ov x hx hs;obtain⟨i,_,h4,h5⟩:=ca F.fP hv;rw[IP hs (by rw[<-e];exact h4) aa];obtain⟨n,hn,e1,e2,h6⟩:=F.Zx x hx hs;obtain⟨j,hj,e3⟩:=kL hn;have:hL l x.owner (fY l x.id)=[j]:=by
    have aK:(hL l x.owner (fY l x.id)).Nodup:=(KA l x.id).filter _;have ag:∀a,a∈hL l x.owner (fY l x.id)↔a=j:=by
     intro a;unfold hL;rw[wG,vn];constructor
     ·rintro⟨⟨h7,h8⟩,h9⟩;have ab:=h6 _ (aI h7) h8 (jk h9);exact F.fP.lG h7 hj (ab.trans e3.symm)
     ·simp_all
    generalize hL l x.owner (fY l x.id)=m at aK ag;match m,aK,ag with
    | [],_,hm=>simp_all
    | [a],_,hm=>rw[(hm a).mp df]
    | a::b::r,aK,hm=>have ea:=(hm a).mp aq;simp_all
   simp_all
end
def cz(l:List ao)(x:ao)(p:au):Prop:=∀y∈l,y.id=x.prev->y.ay<p.aU
structure gV(st:Nat)(l:List ao)(M:au->au->Prop):Prop where
 brt:∀x∈l,∀p,M x.root p->1<=p.aU/\p.aU<=st
 sn:∀x∈l,x.aT=true->x.ay<st/\∀p,M x.root p->p.aU<=x.ay
 el:∀x∈l,∀y∈l,y.id=x.prev->∀p,M x.root p->p.aU<=y.ay->M y.root p
 dd:∀x∈l,∀y∈l,y.id=x.prev->∀p,p∈x.dead↔M y.root p/\¬M x.root p
 lc:∀x∈l,∀z∈l,∀p q,M x.root p->M z.root q->p.loc=q.loc->p=q
 ow:∀x∈l,∀z∈l,∀p,M x.root p->M z.root p->cz l x p->cz l z p->x=z
theorem gi(h:i<κ l):l[i]=recAt l i:=(b9 h).symm
theorem mem_set(h:pW l)(hi:i<κ l){x' y:ao}:y∈l.set i x'↔y=x'\/(y∈l/\y≠recAt l i):=by
 constructor
 ·intro hy;obtain⟨j,hj,e⟩:=jP hy;rw[Aat]at hj;rw[List.getElem_set]at e;split at e
  ·simp_all
  ·rename_i hne;refine .inr ⟨aQ,λe2=>hne (h.lG hi hj ?_)⟩;grind [gi]
 ·rintro(rfl|⟨hy,hne⟩)
  ·exact List.mem_iff_getElem.mpr ⟨i,ab,aq⟩
  ·obtain⟨j,hj,e⟩:=kL hy;refine List.mem_iff_getElem.mpr ⟨j,ab,?_⟩;grind [gi]
theorem mem_erase(h:pW l)(hi:i<κ l):y∈l.eraseIdx i↔y∈l/\y≠recAt l i:=by
 rw[List.mem_eraseIdx_iff_getElem];constructor
 ·rintro⟨j,hj,hne,e⟩;exact⟨aQ,λe2=>hne (h.lG hj hi (by grind [gi]))⟩
 ·grind [kL,gi]
theorem G':pW l↔(l.map (·.id)).Pairwise (· < ·):=aQ
theorem EM{x':ao}(e:x'.id=(recAt l i).id):(l.set i x').map (·.id)=l.map (·.id):=by
 rw[nQ,e];by_cases hi:i<κ l
 ·rw[b9 hi];apply Bg
  ·simp
  ·grind
 ·rw[List.set_eq_of_length_le ab]
theorem vR(h:pW l){x':ao}(e:x'.id=(recAt l i).id):pW (l.set i x'):=by grind [G',EM]
theorem mG(h:pW l)(hx:∀y∈l,y.id<x.id):pW (l++[x]):=aQ
theorem Ef(h:pW l)(i:Nat):pW (l.eraseIdx i):=aQ
theorem ih:y∈l++[x]↔y∈l\/y=x:=aq
section
variable {next st:Nat} {l:List ao} {M:au->au->Prop}
def gd.JM(F:gd next l):∀x∈l,1<=x.id:=λx hx=>(right_id (F.rt x hx)).1
theorem gd.eM(F:gd next l){x y:ao}(hx:x∈l)(hy:y∈l)(e:y.id=x.prev):y.aT=true/\(x.aT=true->y.ay<x.ay):=by have:=F.JM y hy;obtain⟨y',aw,e',h1,h2,_⟩:=F.pv x hx ae;have:y=y':=F.fP.inj hy aw (e.trans e'.symm);simp_all
theorem gd.own(F:gd next l){x:ao}(hx:x∈l)(h:x.aT=false):x.owner=x.id:=by have:=(br x).mp (F.rt x hx);simp_all
theorem gd.Lz(F:gd next l){x:ao}(hx:x∈l):x.prev<next:=by
 by_cases h:x.prev=0
 ·have:=F.KC x hx;omega
 ·obtain⟨y,hy,e,_⟩:=F.pv x hx h;rw[<-e];exact F.KC y hy
theorem gd.abr(F:gd next l){x:ao}(hx:x∈l):x.owner<next:=by
 cases h:x.aT with
 | false=>rw[F.own hx h];exact F.KC x hx
 | true=>obtain⟨v,hv,e,_⟩:=F.ov x hx h;rw[<-e];exact F.KC v hv
theorem gV.alone(I:gV st l M)(F:gd next l){x:ao}(hx:x∈l){p:au}(hp:M x.root p)(hn:cz l x p)(hk:∀z∈l,z.prev=x.id->¬M z.root p):∀z∈l,z≠x->¬M z.root p:=by
 have UP:∀z∈l,z≠x->M z.root p->∃y∈l,y.id=z.prev/\M y.root p:=λz hz hne hm=>by have:¬cz l z p:=λh=>hne (I.ow z hz x hx p hm hp h hn);unfold cz at this;simp only[Acl]at this;obtain⟨y,hy,e,h⟩:=this;exact⟨y,hy,e,I.el z hz y hy e p hm ae⟩
 have S:∀n,∀z∈l,z.aT=true->z.ay<n->z≠x->¬M z.root p:=by
  intro n;induction n with
  | zero=>omega
  | succ n ih=>intro z hz hs hlt hne hm;obtain⟨y,hy,e,aa⟩:=UP z hz hne hm;obtain⟨h1,h2⟩:=F.eM hz hy e;grind
 intro z hz hne hm;obtain⟨y,hy,e,aa⟩:=UP z hz hne hm;obtain⟨h1,_⟩:=F.eM hz hy e;by_cases he:y=x
 ·simp_all
 ·exact S (y.ay+1) y hy h1 ae he aa
theorem gV.zZ(I:gV st l M)(F:gd next l){x:ao}(hx:x∈l)(hs:x.aT=false){p:au}(hp:M x.root p)(hn:cz l x p):∀z∈l,z≠x->¬M z.root p:=I.alone F hx hp hn (λz hz e _=>by have:=(F.eM hz hx e.symm).1;rw[hs]at this;cases this)
theorem gV.abg(I:gV st l M){l':List ao}(h:∀z∈l',(∃u∈l,u.root=z.root)\/∀p,¬M z.root p):∀x∈l',∀z∈l',∀p q,M x.root p->M z.root q->p.loc=q.loc->p=q:=by
 intro x hx z hz p q hp hq e;rcases h x hx with⟨u,hu,e1⟩|h1
 ·rcases h z hz with⟨v,hv,e2⟩|h2
  ·exact I.lc u hu v hv p q aa aa e
  ·simp_all
 ·simp_all
theorem gV.create(I:gV st l M)(F:gd next l){l':List ao}{x:ao}(m:∀y,y∈l'↔y=x\/y∈l)(h1:x.root=hole)(h2:x.prev=0)(h3:x.aT=false)(h4:x.id=next)(hn:1<=next)(h0:∀p,¬M hole p):gV st l' M:=by
 have LC:=I.abg (l':=l') (λz hz=>by
  rcases(m z).mp hz with rfl|h
  ·exact .inr aa
  ·exact .inl ⟨z,h,rfl⟩)
 obtain⟨a1,a2,a3,a4,a5,a6⟩:=I;obtain⟨b2,pl⟩:=az F.JM (λ(y:ao) (hy:y∈l)=>F.Lz hy);have N:∀z∈l,∀p,cz l' z p->cz l z p:=λz hz p h y hy=>h y ((m y).mpr (.inr hy));refine⟨?_,?_,?_,?_,LC,?_⟩
 ·grind
 ·grind
 ·grind
 ·grind
 ·grind
theorem gV.clone(I:gV st l M)(F:gd next l){l':List ao}{x s:ao}(m:∀y,y∈l'↔y=x\/y∈l)(hs:s∈l)(h0:s.aT=true)(h1:x.root=s.root)(h2:x.prev=s.id)(h3:x.aT=false)(h4:x.id=next)(h5:x.dead=[]):gV st l' M:=by obtain⟨a1,a2,a3,a4,a5,a6⟩:=I;obtain⟨b1,b3⟩:=az F.KC F.pv;have N:∀z∈l,∀p,cz l' z p->cz l z p:=λz hz p h y hy=>h y ((m y).mpr (.inr hy));have NX:∀p,cz l' x p->s.ay<p.aU:=λp h=>h s ((m s).mpr (.inr hs)) h2.symm;have J:=λ(x:ao) (hx:x∈l) (y:ao) (hy:y∈l)=>F.fP.inj (x:=x) (y:=y) hx hy;refine⟨?_,?_,?_,?_,?_,?_⟩<;>simp only[m]<;>grind
theorem gV.aT(I:gV st l M)(F:gd next l){l':List ao}{v s v':ao}(hv:v∈l)(h0:v.aT=false)(m:∀y,y∈l'↔y=v'\/y=s\/(y∈l/\y≠v))(s1:s.root=v.root)(s2:s.prev=v.prev)(s3:s.dead=v.dead)(s4:s.aT=true)(s5:s.ay=st)(s6:s.id=next)(v1:v'.root=v.root)(v2:v'.prev=next)(v3:v'.dead=[])(v4:v'.aT=false)(v5:v'.id=v.id):gV (st+1) l' M:=by
 obtain⟨a1,a2,a3,a4,a5,a6⟩:=I;have b1:=F.KC;refine NG ?_;intro b2 b3 J PS;have N:∀z∈l,z≠v->∀p,cz l' z p->cz l z p:=λz hz hne p h y hy e=>by
  by_cases ab:y=v
  ·grind
  ·exact h y ((m y).mpr (.inr (.inr ⟨hy,ab⟩))) e
 have NS:∀p,cz l' s p->cz l v p:=λp h y hy e=>by
  by_cases ab:y=v
  ·grind
  ·exact h y ((m y).mpr (.inr (.inr ⟨hy,ab⟩))) ae
 have NV:∀p,cz l' v' p->st<p.aU:=λp h=>by have:=h s ((m s).mpr (.inr (.inl rfl))) ae;omega
 refine⟨?_,?_,?_,?_,?_,?_⟩<;>simp only[m]<;>grind
theorem gV.back(I:gV st l M)(F:gd next l){l':List ao}{v y v':ao}(hv:v∈l)(h0:v.aT=false)(hy:y∈l)(e:y.id=v.prev)(m:∀z,z∈l'↔z=v'\/(z∈l/\z≠v))(v1:v'.root=y.root)(v2:v'.prev=v.prev)(v3:v'.dead=[])(v4:v'.aT=false)(v5:v'.id=v.id):gV st l' M/\∀p,M v.root p->cz l v p->∀z∈l',¬M z.root p:=by
 have AL:=λp (hp:M v.root p) (hn:cz l v p)=>I.zZ F hv h0 hp hn;obtain⟨a1,a2,a3,a4,a5,a6⟩:=I;refine NG ?_;intro b2 b3 J PS;have yv:y≠v:=λh=>by have:=(PS v hv y hy e).1;rw[h,h0]at this;cases this
 refine OO ?_;intro N;have NV:∀p,cz l' v' p->y.ay<p.aU:=λp h=>h y ((m y).mpr (.inr ⟨hy,yv⟩)) ae;have ys:=(PS v hv y hy e).1;refine⟨⟨?_,?_,?_,?_,?_,?_⟩,?_⟩<;>simp only[m]<;>grind [cz]
theorem gV.um(I:gV st l M)(F:gd next l){l':List ao}{v:ao}(hv:v∈l)(h0:v.aT=false)(m:∀z,z∈l'↔z∈l/\z≠v):gV st l' M/\∀p,M v.root p->cz l v p->∀z∈l',¬M z.root p:=by
 have AL:=λp (hp:M v.root p) (hn:cz l v p)=>I.zZ F hv h0 hp hn;obtain⟨a1,a2,a3,a4,a5,a6⟩:=I;have PS:=λ(x:ao) (hx:x∈l) (y:ao) (hy:y∈l)=>F.eM (x:=x) (y:=y) hx hy;have N:∀z∈l,∀p,cz l' z p->cz l z p:=λz hz p h x hx ex=>by
  by_cases ab:x=v
  ·grind
  ·exact h x ((m x).mpr ⟨hx,ab⟩) ex
 refine⟨⟨?_,?_,?_,?_,?_,?_⟩,?_⟩<;>simp only[m]<;>grind
theorem gV.l9(I:gV st l M)(F:gd next l){l':List ao}{y j j':ao}(hy:y∈l)(h0:y.aT=true)(hj:j∈l)(e:j.prev=y.id)(only:∀z∈l,z.prev=y.id->z=j)(m:∀z,z∈l'↔z=j'\/(z∈l/\z≠j/\z≠y))(j1:j'.root=j.root)(j2:j'.prev=y.prev)(j3:∀p,p∈j'.dead↔(p∈j.dead/\¬cz l y p)\/p∈y.dead)(j4:j'.aT=j.aT)(j5:j'.id=j.id)(j6:j'.ay=j.ay):gV st l' M/\∀p,p∈j.dead->cz l y p->∀z∈l',¬M z.root p:=by
 have LC:=I.abg (l':=l') (λz hz=>by
  rcases(m z).mp hz with rfl|⟨h,_⟩
  ·exact .inl ⟨j,hj,j1.symm⟩
  ·exact .inl ⟨z,h,rfl⟩)
 have AL:=λp (hp:M y.root p) (hn:cz l y p)=>I.alone F hy hp hn;obtain⟨a1,a2,a3,a4,a5,a6⟩:=I;refine zF ?_;intro J PS;have jy:j≠y:=λh=>Ud
 have dj:=a4 j hj y hy e.symm;have N:∀z∈l,z≠j->z≠y->∀p,cz l' z p->cz l z p:=λz hz hne ad p h x hx ex=>by
  by_cases af:x=y
  ·grind
  ·by_cases ag:x=j
   ·subst ag;have:=h j' ((m j').mpr (.inl rfl)) ae;omega
   ·exact h x ((m x).mpr (.inr ⟨hx,ag,af⟩)) ex
 have NJ:∀p,cz l' j' p->cz l y p:=λp h x hx ex=>by
  by_cases af:x=y
  ·grind
  ·by_cases ag:x=j
   ·grind
   ·exact h x ((m x).mpr (.inr ⟨hx,ag,af⟩)) ae
 have N2:∀p,¬cz l y p->∃x∈l,x.id=y.prev/\p.aU<=x.ay:=λp h=>by grind [cz]
 have JP:∀x∈l,x.id=y.prev->x.ay<y.ay/\x.aT=true:=λx hx ex=>⟨(PS y hy x hx ex).2 h0,(PS y hy x hx ex).1⟩;have ab:∀p,M j.root p->y.ay<p.aU\/M y.root p:=λp hp=>aQ
 have ZL:∀z∈l',z.id=y.prev->z∈l/\z≠j:=λz hz ez=>aQ
 refine⟨⟨?_,?_,?_,?_,?_,?_⟩,?_⟩
 ·grind
 ·grind
 ·intro x hx z hz ez p hp hb;rcases(m x).mp hx with rfl|⟨aa,aX,ah⟩
  ·grind
  ·grind
 ·intro x hx z hz ez p;rcases(m x).mp hx with rfl|⟨aa,aX,ah⟩
  ·rw[j3 p];grind [cz]
  ·grind
 ·exact LC
 ·intro x hx z hz p hp hq n1 n2;have K:∀z∈l,z≠j->z≠y->M j.root p->M z.root p->cz l y p->cz l z p->False:=λz hz ai al h1 h2 h3 h4=>by
   rcases ab p h1 with h5|h5
   ·exact ai (a6 z hz j hj p h2 h1 h4 (λx hx ex=>aQ))
   ·grind
  rcases(m x).mp hx with rfl|⟨aa,aX,ah⟩<;>rcases(m z).mp hz with rfl|⟨hz1,ar,aj⟩
  ·rfl
  ·grind
  ·grind
  ·grind
 ·grind
theorem gV.R'(I:gV st l M)(F:gd next l){M':au->au->Prop}{l':List ao}{v v':ao}(hv:v∈l)(h0:v.aT=false)(m:∀z,z∈l'↔z=v'\/(z∈l/\z≠v))(old news:au->Prop)(same:∀z∈l,∀p,M' z.root p↔M z.root p)(mem:∀p,M' v'.root p↔news p\/(M v.root p/\¬old p))(ho:∀p,old p->M v.root p)(hn:∀p,news p->p.aU=st/\∀z∈l,∀q,M z.root q->q.loc≠p.loc)(hd:∀p q,news p->news q->p.loc=q.loc->p=q)(aG:1<=st)(v2:v'.prev=v.prev)(v3:∀p,p∈v'.dead↔p∈v.dead\/(old p/\¬cz l v p))(v4:v'.aT=false)(v5:v'.id=v.id):gV st l' M'/\∀p,old p->cz l v p->∀z∈l',∀q,M' z.root q->q.loc≠p.loc:=by
 have AL:=λp (hp:M v.root p) (hn:cz l v p)=>I.zZ F hv h0 hp hn;obtain⟨a1,a2,a3,a4,a5,a6⟩:=I;refine zF ?_;intro J PS;refine OO ?_;intro N;have NV:∀p,cz l' v' p->cz l v p:=λp h x hx ex=>by
  by_cases ab:x=v
  ·grind
  ·exact h x ((m x).mpr (.inr ⟨hx,ab⟩)) ae
 have N2:∀p,¬cz l v p->∃x∈l,x.id=v.prev/\p.aU<=x.ay:=λp h=>by grind [cz]
 have ad:∀z∈l,z.prev≠v.id:=λz hz e=>by have:=(PS z hz v hv e.symm).1;rw[h0]at this;cases this
 refine⟨⟨?_,?_,?_,?_,?_,?_⟩,?_⟩
 ·grind
 ·grind
 ·grind
 ·grind
 ·intro x hx z hz p q hp hq e;rcases(m x).mp hx with rfl|⟨aa,aX⟩
  ·grind
  ·grind
 ·intro x hx z hz p hp hq n1 n2;rcases(m x).mp hx with rfl|⟨aa,aX⟩
  ·grind
  ·grind
 ·grind
theorem gV.map(I:gV st l M){l':List ao}(f:ao->ao)(m:∀z,z∈l'↔∃x∈l,z=f x)(hf:∀x,(f x).root=x.root/\(f x).prev=x.prev/\(f x).dead=x.dead/\(f x).aT=x.aT/\(f x).ay=x.ay/\(f x).id=x.id):gV st l' M:=by
 obtain⟨a1,a2,a3,a4,a5,a6⟩:=I;have N:∀x∈l,∀p,cz l' (f x) p->cz l x p:=λx hx p h y hy e=>by have:=h (f y) ((m _).mpr ⟨y,hy,rfl⟩) aa;simp_all
 refine⟨?_,?_,?_,?_,?_,?_⟩
 ·intro x' ag;obtain⟨x,hx,rfl⟩:=(m _).mp ag;rw[(hf x).1];exact a1 x hx
 ·simp_all
 ·exact OB
 ·intro x' ag y' aw;obtain⟨x,hx,rfl⟩:=(m _).mp ag;obtain⟨y,hy,rfl⟩:=(m _).mp aw;rw[(hf x).1,(hf x).2.1,(hf x).2.2.1,(hf y).1,(hf y).2.2.2.2.2];exact a4 x hx y hy
 ·exact OB
 ·intro x' ag y' aw p h1 h2 n1 n2;obtain⟨x,hx,rfl⟩:=(m _).mp ag;obtain⟨y,hy,rfl⟩:=(m _).mp aw;grind
end
structure Shape(next:Nat)(l:List ao):Prop where
 nx:next<=281474976710655
 len:κ l<=32
 rt:∀x∈l,cK x=true
section
variable {next st:Nat} {l l':List ao}
theorem gd.create(F:gd next l){x:ao}(S:Shape (next+1) (l++[x]))(h1:x.prev=0)(h2:x.dead=[])(h3:x.aT=false)(h4:x.id=next)(h5:∀y∈l,cb y≠cb x):gd (next+1) (l++[x]):=by have pl:=λ(y:ao) (hy:y∈l)=>F.Lz hy;obtain⟨a0,a1,a2,a3,a4,a5,a6,a7,a8,a9⟩:=F;have i0:∀y∈l,1<=y.id:=λy hy=>(right_id (a2 y hy)).1;exact OP
theorem gd.clone(F:gd next l){x s:ao}(S:Shape (next+1) (l++[x]))(hs:s∈l)(h0:s.aT=true)(h1:x.prev=s.id)(h2:x.dead=[])(h3:x.aT=false)(h4:x.id=next)(h6:x.owner=next)(h5:∀y∈l,cb y≠cb x):gd (next+1) (l++[x]):=by obtain⟨a0,a1,a2,a3,a4,a5,a6,a7,a8,a9⟩:=F;exact OP
theorem gd.aT(F:gd next l)(S:Shape (next+1) l')(hr:pW l'){v s v':ao}(aG:∀x∈l,x.aT=true->x.ay<st)(aM:∀x∈l,∀y∈l,y.id=x.prev->∀p∈x.dead,p.aU<=y.ay)(hv:v∈l)(h0:v.aT=false)(m:∀y,y∈l'↔y=v'\/y=s\/(y∈l/\y≠v))(s2:s.prev=v.prev)(s3:s.dead=v.dead)(s4:s.aT=true)(s5:s.ay=st)(s6:s.id=next)(s7:s.owner=v.id)(v2:v'.prev=next)(v3:v'.dead=[])(v4:v'.aT=false)(v5:v'.id=v.id)(v6:v'.owner=v.owner)(v7:v'.name=v.name)(h5:∀y∈l,cb y≠cb s):gd (next+1) l':=by
 obtain⟨ol,pl,ov⟩:=cZ (λ(y:ao) (hy:y∈l)=>F.abr hy) (λ(y:ao) (hy:y∈l)=>F.Lz hy) (F.own hv h0);refine zF ?_;intro J PS;obtain⟨a0,a1,a2,a3,a4,a5,a6,a7,a8,a9⟩:=F;have i0:∀y∈l,1<=y.id:=λy hy=>(right_id (a2 y hy)).1;have cv:cb v'=cb v:=uW
 refine⟨S.nx,S.len,S.rt,hr,?_,?_,?_,?_,?_,?_⟩
 ·grind
 ·intro x hx y hy e;rcases(m x).mp hx with rfl|rfl|⟨aa,aX⟩<;>rcases(m y).mp hy with rfl|rfl|⟨ar,aq⟩
  ·rfl
  ·grind
  ·grind
  ·grind
  ·rfl
  ·grind
  ·grind
  ·grind
  ·grind
 ·grind
 ·intro x hx h;rcases(m x).mp hx with rfl|rfl|⟨aa,aX⟩
  ·grind
  ·rw[s2]at h;obtain⟨y,hy,e,g1,g2,g3⟩:=a7 v hv h;have:y≠v:=λe2=>by rw[e2,h0]at g1;cases g1
   grind
  ·grind
 ·intro x hx h;rcases(m x).mp hx with rfl|rfl|⟨aa,aX⟩
  ·grind
  ·grind
  ·grind
 ·intro x hx h;rcases(m x).mp hx with rfl|rfl|⟨aa,aX⟩
  ·grind
  ·grind
  ·obtain⟨n,hn,e1,e2,e3⟩:=a9 x aa h;by_cases aN:n=v
   ·subst aN;refine⟨s,(m s).mpr (.inr (.inl rfl)),ae,ae,λq hq g1 g2=>?_⟩;rcases(m q).mp hq with rfl|rfl|⟨al,ai⟩
    ·grind
    ·rfl
    ·grind
   ·refine⟨n,(m n).mpr (.inr (.inr ⟨hn,aN⟩)),e1,e2,λq hq g1 g2=>?_⟩;rcases(m q).mp hq with rfl|rfl|⟨al,ai⟩
    ·grind
    ·grind
    ·grind
theorem gd.back(F:gd next l)(S:Shape next l')(hr:pW l'){v v':ao}(hv:v∈l)(m:∀z,z∈l'↔z=v'\/(z∈l/\z≠v))(v2:v'.prev=v.prev)(v3:v.prev=0->v'.dead=[])(v8:∀y∈l,y.id=v.prev->∀p∈v'.dead,p.aU<=y.ay)(v4:v'.aT=v.aT)(v5:v'.id=v.id)(v6:v'.owner=v.owner)(v7:v'.name=v.name)(v9:v'.ay=v.ay):gd next l':=by
 have PS:=λ(x:ao) (hx:x∈l) (y:ao) (hy:y∈l)=>F.eM (x:=x) (y:=y) hx hy;obtain⟨a0,a1,a2,a3,a4,a5,a6,a7,a8,a9⟩:=F;have i0:∀y∈l,1<=y.id:=λy hy=>(right_id (a2 y hy)).1;have cv:cb v'=cb v:=uW
 have R:∀x∈l',∃u∈l,x.prev=u.prev/\x.id=u.id/\x.aT=u.aT/\x.owner=u.owner/\x.ay=u.ay/\(x=u\/(x=v'/\u=v)):=λx hx=>aQ
 have R':∀u∈l,∃x∈l',x.prev=u.prev/\x.id=u.id/\x.aT=u.aT/\x.owner=u.owner/\x.ay=u.ay:=λu hu=>aQ
 refine⟨S.nx,S.len,S.rt,hr,?_,?_,?_,?_,?_,?_⟩
 ·grind
 ·grind
 ·grind
 ·intro x hx h;obtain⟨u,hu,e1,e2,e3,e4,e5,e6⟩:=R x hx;obtain⟨y,hy,f1,f2,f3,f4⟩:=a7 u hu ae;grind
 ·intro x hx h;obtain⟨u,hu,e1,e2,e3,e4,e5,e6⟩:=R x hx;obtain⟨y,hy,f1,f2⟩:=a8 u hu aQ;grind
 ·intro x hx h;obtain⟨u,hu,e1,e2,e3,e4,e5,e6⟩:=R x hx;obtain⟨n,hn,f1,f2,f3⟩:=a9 u hu aQ;obtain⟨n',ag,g1,g2,g3,g4,g5⟩:=R' n hn;refine⟨n',ag,ae,ae,λq hq h1 h2=>?_⟩;obtain⟨q0,aa,k1,k2,k3,k4,k5,k6⟩:=R q hq;grind
theorem gd.um(F:gd next l)(hr:pW l')(hl:κ l'<=32){v:ao}(hv:v∈l)(h0:v.aT=false)(m:∀z,z∈l'↔z∈l/\z≠v)(no:∀x∈l,x.aT=true->x.owner≠v.id):gd next l':=by
 have ov:=F.own hv h0;obtain⟨a0,a1,a2,a3,a4,a5,a6,a7,a8,a9⟩:=F;refine⟨a0,hl,λx hx=>a2 x ((m x).mp hx).1,hr,?_,?_,?_,?_,?_,?_⟩
 ·simp_all
 ·grind
 ·simp_all
 ·grind
 ·grind
 ·intro x hx h;obtain⟨aa,aX⟩:=(m x).mp hx;obtain⟨n,hn,f1,f2,f3⟩:=a9 x aa h;exact⟨n,(m n).mpr ⟨hn,λe=>no x aa h aQ⟩,f1,f2,λq hq=>f3 q ((m q).mp hq).1⟩
theorem gd.l9(F:gd next l)(S:Shape next l')(hr:pW l'){y j j':ao}(hy:y∈l)(h0:y.aT=true)(hj:j∈l)(e:j.prev=y.id)(eo:j.owner=y.owner)(only:∀z∈l,z.prev=y.id->z=j)(m:∀z,z∈l'↔z=j'\/(z∈l/\z≠j/\z≠y))(j2:j'.prev=y.prev)(j3:y.prev=0->j'.dead=[])(j8:∀z∈l,z.id=y.prev->∀p∈j'.dead,p.aU<=z.ay)(j4:j'.aT=j.aT)(j5:j'.id=j.id)(j6:j'.ay=j.ay)(j7:j'.owner=j.owner)(j9:j'.name=j.name):gd next l':=by
 obtain⟨PS,i0,fP⟩:=cZ (λ(x:ao) (hx:x∈l) (y:ao) (hy:y∈l)=>F.eM (x:=x) (y:=y) hx hy) F.JM F.fP;obtain⟨a0,a1,a2,a3,a4,a5,a6,a7,a8,a9⟩:=F;have jy:j≠y:=λh=>Ud
 have cj:cb j'=cb j:=uW
 have R:∀x∈l',∃u∈l,u≠y/\x.id=u.id/\x.aT=u.aT/\x.owner=u.owner/\x.ay=u.ay/\((x=u/\u≠j)\/(x=j'/\u=j)):=λx hx=>by
  rcases(m x).mp hx with rfl|⟨h1,h2,h3⟩
  ·grind
  ·grind
 have R':∀u∈l,u≠y->∃x∈l',x.id=u.id/\x.aT=u.aT/\x.owner=u.owner/\x.ay=u.ay/\((x=u/\u≠j)\/(x=j'/\u=j)):=λu hu hn=>by
  by_cases h:u=j
  ·grind
  ·grind
 refine⟨S.nx,S.len,S.rt,hr,?_,?_,?_,?_,?_,?_⟩
 ·grind
 ·intro x hx z hz h;rcases(m x).mp hx with rfl|⟨aa,aX,_⟩<;>rcases(m z).mp hz with rfl|⟨hz1,ar,_⟩
  ·rfl
  ·grind
  ·grind
  ·grind
 ·grind
 ·intro x hx h;rcases(m x).mp hx with rfl|⟨aa,aX,ah⟩
  ·rw[j2]at h;obtain⟨z,hz,f1,f2,f3,f4⟩:=a7 y hy h;have zy:z≠y:=λe2=>by have:=f3 h0;rw[e2]at this;omega
   obtain⟨z',af,g1,g2,g3,g4,g5⟩:=R' z hz zy;refine⟨z',af,ae,aQ,λhs=>?_,?_⟩
   ·grind
   ·grind
  ·obtain⟨z,hz,f1,f2,f3,f4⟩:=a7 x aa h;have zy:z≠y:=λe2=>aX (only x aa aQ);grind
 ·intro x hx h;obtain⟨u,hu,u1,u2,u3,u4,u5,u6⟩:=R x hx;obtain⟨v,hv,f1,f2⟩:=a8 u hu aQ;obtain⟨v',ab,g1,g2,g3,g4,g5⟩:=R' v hv (λe2=>aQ);grind
 ·intro x hx h;obtain⟨u,hu,u1,u2,u3,u4,u5,u6⟩:=R x hx;obtain⟨n,hn,f1,f2,f3⟩:=a9 u hu aQ;by_cases ad:n=y
  ·grind
  ·obtain⟨n',ag,g1,g2,g3,g4,g5⟩:=R' n hn ad;refine⟨n',ag,?_,ae,λq hq h1 h2=>?_⟩
   ·rcases g5 with⟨rfl,_⟩|⟨rfl,rfl⟩
    ·omega
    ·exact absurd (fP.inj hu hy ae) u1
   ·rcases(m q).mp hq with rfl|⟨al,ai,aj⟩
    ·grind
    ·grind
theorem gd.abo(F:gd next l){v:ao}(hv:v∈l)(h0:v.aT=false)(hp:∀y∈l,y.id=v.prev->y.owner≠v.id):∀x∈l,x.aT=true->x.owner≠v.id:=by
 have B:∀x∈l,x.aT=true->x.ay<=281474976710655:=λx hx hs=>x0 (F.rt x hx);have S:∀n,∀x∈l,x.aT=true->281474976710655-x.ay<n->x.owner≠v.id:=by
  intro n;induction n with
  | zero=>omega
  | succ n ih=>
   intro x hx hs hlt ho;obtain⟨m,hm,e1,e2,_⟩:=F.Zx x hx hs;cases s4:m.aT with
   | true=>have h2:=(F.eM hm hx e1.symm).2 s4;grind
   | false=>have:m=v:=F.fP.inj hm hv (by rw[<-F.own hm s4,e2,ho]);grind
 intro x hx hs;exact S _ x hx hs (Nat.lt_succ_self _)
end
end Go.Proofs.YtkpjfnbbkohciaaGreat
