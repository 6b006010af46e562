import Derived.Test.YtkpjfnbbkohciaaGreatBd
import Derived.Shelf.SlSortCmp.WholeK
import Derived.Shelf.Sort.Plain
import Derived.Shelf.SlSortCmp.NoneTotal
set_option maxRecDepth 100000
set_option maxHeartbeats 16000000
set_option linter.all false
open Go renaming Oper->Abi,Ending->Ab3,Calls->Aaf,wpAnyH->Acp,zeroValue->Ab9,TypeId->Aab,splice->Abz,execOp->Abt,wpList->Aam,undef->Aat,wpStill->Adq,yielded->Aaz,YieldsIf->Ach
open List renaming length_cons->Aaj,mem_cons->Aak,flatMap_cons->Abd,length_append->Aae,map_cons->Ab8,sum_cons->Acm,range->Aal,map_append->Aao,append_assoc->Abe,length_map->Aac,nil_append->Aa0,range_succ->Ab0,length_nil->Aa5,length_set->Aax,getElem_map->Adl,mem_map->Abb,replicate->Aad,size_toArray->Abj,mem_append->Aa3,take_zero->Abl,cons_append->Aa2,drop_drop->Ac4,length->κ
open Classical renaming byContradiction->Adz,not_forall->Ack
open Go.Proofs.Tryz renaming prog->Aag,underlying30->Aau
open Go.RowKit renaming intOf->Aaq
open Nat renaming zero_add->Abn
open And renaming intro->Adc
open Go.Value renaming slice->Acg,oneCell'->Ac9,int->Acd,ownBlock->Aan
open Except renaming map->Adf
open List.Pairwise renaming nil->Abx
open Bool renaming and_eq_true->Aa8
open Int renaming toNat->Adu
open Go.Op renaming equalIn->Ac3
open Go.ByteArray renaming toList_eq->Ado
open Go.Sem renaming run_bind->Aa1,run_pure->Ac7
open Go.Result renaming andThen_ok->Aay,andThen->Aar
open Option.some renaming injEq->Aai
open Prod.mk renaming injEq->Adh
open Go.Instr renaming index->Ac0
open Go.Act renaming put->Aap
open Go.Oper renaming wp->Ace
open Go.Extern.MapsClone renaming clone->Acn
open Go.Region renaming wanted->Aaa
open List.Perm renaming refl->Adp
open Go.Addr.mk renaming injEq->Abm
namespace Go.Proofs.YtkpjfnbbkohciaaGreat
open Go.Proofs.Tryz Go.RowKit Go.Sort
variable{b ba cap g gb i j k m n p st t:Nat}{rest:List Abi}{a:Act}{root:au}{C:Array ah}{u:hL}{w:af}{Q:Exit->Act->af->Prop}{G:ch}{N r:Int}{o:Abi}{P:bu}{e:Ab3}{ops:Array Abi}{vp:ah}{H:aS}
theorem eU{α:Type}[DecidableEq α]:∀(l m:List α),l.Nodup->(∀x∈l,x∈m)->κ l<=κ m
 | [],_,_,_=>bG _
 | x::l,m,h,hs=>by obtain⟨h1,h2⟩:=List.nodup_cons.mp h;have hx:=hs x cS;have:=eU l (m.erase x) h2 (λy hy=>(List.mem_erase_of_ne (λe=>h1 (by rw[<-e];exact hy))).mpr (hs y (bn _ hy)));rw[List.length_erase_of_mem hx]at this;have:=List.length_pos_of_mem hx;rw[Aaj];omega
theorem PW.nodup{l:List au}(h:PW l):l.Nodup:=h.imp (λ{a b} ar e=>by grind [ur])
theorem I8{l:List au}(h:PW l)(hf:∀p∈l,nF p=true):gq l=true:=by
 rw[je];intro i hi;unfold tf;rw[hf _ (cm hi),Bool.true_and];split
 ·rfl
 ·exact rO.mp h (i-1) i hi ae
def qD{l:List au}(h:gq l=true):PW l:=rO.mpr (GX h)
theorem wR{l:List au}(h:gq l=true){p:au}(hp:p∈l):nF p=true:=by obtain⟨i,hi,rfl⟩:=jD hp;grind [je,tf]
theorem MM{p:au}:nF p=true↔p≠hole/\cw p=true:=by simp[nF]
theorem qa{fl:Nat}:∀(ps d gone:List au),PW d->(∀q∈ps,nF q=true)->ps.Nodup->(∀q∈ps,q ∉ d)->κ d+κ ps<=4000->∃d',i' fl d gone ps=some (d',gone++ps.filter (λq=>decide (fl<q.aV)))/\PW d'/\(∀p,p∈d'↔p∈d\/(p∈ps/\¬fl<p.aV))
 | [],d,gone,hd,_,_,_,_=>⟨d,by simp[i'],hd,aq⟩
 | q::r,d,gone,hd,hf,hn,ho,hl=>by
  obtain⟨n1,n2⟩:=List.nodup_cons.mp hn;have aa:=λx hx=>hf x (bn q hx);rw[Aaj]at hl;by_cases h:fl<q.aV
  ·obtain⟨d',h1,h2,h3⟩:=qa r d (gone++[q]) hd aa n2 (λx hx=>ho x (bn q hx)) ae;refine⟨d',?_,h2,λp=>?_⟩
   ·rw[Io h,h1,List.filter_cons_of_pos jG];simp
   ·rw[h3 p,Aak];constructor
    ·rintro(h4|⟨h4,h5⟩)
     ·exact .inl h4
     ·exact .inr ⟨.inr h4,h5⟩
    ·rintro(h4|⟨rfl|h4,h5⟩)
     ·exact .inl h4
     ·exact absurd h h5
     ·exact .inr ⟨h4,h5⟩
  ·rcases Hw d q hd (hf q cS)with⟨h1,_⟩|⟨_,m,h2,h3,h4⟩
   ·exact absurd h1 (ho q cS)
   ·have hm:κ m<=κ d+1:=by have:=eU m (q::d) h3.nodup (λx hx=>List.mem_cons.mpr ((h4 x).mp hx));simpa using this
    obtain⟨d',k1,k2,k3⟩:=qa r m gone h3 aa n2 (λx hx hm=>by
     rcases(h4 x).mp hm with rfl|hm
     ·exact n1 hx
     ·exact ho x (bn q hx) hm) ae
    refine⟨d',?_,k2,λp=>?_⟩
    ·rw[Im h h2 ae,k1,List.filter_cons_of_neg jG]
    ·rw[k3 p,h4 p,Aak];constructor
     ·rintro((rfl|h6)|⟨h6,h7⟩)
      ·exact .inr ⟨.inl rfl,h⟩
      ·exact .inl h6
      ·exact .inr ⟨.inr h6,h7⟩
     ·rintro(h6|⟨rfl|h6,h7⟩)
      ·exact .inl (.inr h6)
      ·exact .inl (.inl rfl)
      ·exact .inr ⟨h6,h7⟩
def kC(x:ab):Nat:=60+κ x.name+16*κ x.dead
def ck(l:List ab):Nat:=12+(l.map kC).sum
theorem ps:∀ts:List (List aj),κ (de ts)=(ts.map (λt=>2+κ t)).sum
 | []=>rfl
 | t::ts=>by have:=ps ts;unfold de at this ⊢;rw[Abd,Aae,this,Ab8,Acm];simp[uo,bC]
theorem yi(x:ab):κ (fg x)=58+κ x.name+16*κ x.dead:=by simp[fg,n0,h9,d']
theorem kF(next:Nat)(l:List ab):κ (eB (ek next l))=ck l:=by
 unfold eB ek ck;rw[Aae,ps,Ab8,Acm,gL,bC,nI];have:((λt:List aj=>2+κ t) ∘ fg)=kC:=by grind [fg,kC,yi]
 grind
theorem qC{next:Nat}{l:List ab}{b:List aj}:e3 next l=some b↔(next<=281474976710655/\(κ l)<=32/\∀x∈l,cz x=true)/\ck l<=65535/\b=eB (ek next l):=by grind [e3,lx,kF]
theorem Jx{a b k:Nat}(h:a<=b):ly a k<=ly b k:=Nat.div_le_div_right ae
theorem KQ:∀(b a:Nat),a<=b->(a::l6 a).sum<=(b::l6 b).sum:=by
 intro b;induction b using Nat.strongRecOn with
 | ind b ih=>
  intro a h;rw[Acm,Acm];by_cases ha:a<=1
  ·grind [hf]
  ·rw[jl ae,jl (by omega:1<b)];have:=ih (ly b 8) (by grind [ly]) (ly a 8) (Jx h);omega
theorem s'{a b:Nat}(h1:1<=a)(h:a<=b)(h2:b<=65535):dF a<=dF b:=by unfold dF eD;rw[bp ae,bp ae];exact KQ _ _ (Jx h)
theorem hQ{next t:Nat}{l:List ab}(h:next<=281474976710655/\(κ l)<=32/\∀x∈l,cz x=true)(h2:ck l<=65535)(ht:64<=t/\t<=1024):e0 next l t=e2 (ck l) t:=by unfold e0;rw[qC.mpr ⟨h,h2,rfl⟩];grind [cJ,e2,eB,ek,kF]
theorem lB{next t:Nat}{l:List ab}(h:0<e0 next l t):(next<=281474976710655/\(κ l)<=32/\∀x∈l,cz x=true)/\ck l<=65535:=by
 unfold e0 at h;split at h
 ·rename_i m hm;have:=qC.mp hm;simp_all
 ·omega
theorem PI(k t:Nat):1<=e2 k t:=by grind [e2]
theorem J'{a b t:Nat}(h1:1<=a)(h:a<=b)(h2:b<=65535):e2 a t<=e2 b t:=by unfold e2;have:=s' h1 h h2;omega
theorem xT(l:List ab):12<=ck l:=by simp[ck]
theorem CB{next next' t:Nat}{l l':List ab}(h:next'<=281474976710655/\(κ l')<=32/\∀x∈l',cz x=true)(h0:0<e0 next l t)(ht:64<=t/\t<=1024)(hl:ck l'<=ck l):0<e0 next' l' t/\e0 next' l' t<=e0 next l t:=by obtain⟨k1,k2⟩:=lB h0;rw[hQ k1 k2 ht,hQ h ae ht];exact⟨PI _ _,J' (by grind [xT]) hl k2⟩
theorem Hc{l:List ab}(hi:i<κ l)(x:ab)(f:ab->Nat):((l.set i x).map f).sum+f (recAt l i)=(l.map f).sum+f x:=by exact NY
theorem D6{l:List ab}(hi:i<κ l)(f:ab->Nat):((l.eraseIdx i).map f).sum+f (recAt l i)=(l.map f).sum:=by exact NY
section
variable {s:Nat->Nat} {ba k:Nat} {q:au}
theorem ZH{i:Int}{x y:Nat}(h:i≠(k:Int)):sB s i x y k=s k:=FC
theorem Xg{i:Int}{x y:Nat}(h:s k≠x):sB s i x y k=s k:=FC
theorem tX(h:q.loc≠(k:Int)):gU s ba q k=s k:=by unfold gU;grind [ZH]
theorem Dh(h:s k≠2):gU s ba q k=s k:=by unfold gU;grind [Xg]
theorem v'(hq:q≠hole)(h:q.loc=(k:Int))(hk:k<1024)(h2:s k=2):gU s ba q k=if ba<q.aV then 1 else 3:=by
 unfold gU;rw[aO hq];have:∀y,sB s q.loc 2 y k=y:=λy=>FC
 grind
theorem ha:∀(l:List au){s:Nat->Nat},s k≠2->bK s ba l k=s k
 | [],_,_=>rfl
 | q::l,s,h=>by have e:=Dh (ba:=ba) (q:=q) h;exact(ha l (by rw[e];exact h)).trans e
theorem lO:∀(l:List au){s:Nat->Nat},(∀q∈l,q.loc≠(k:Int))->bK s ba l k=s k
 | [],_,_=>rfl
 | q::l,s,h=>(lO l (λx hx=>h x (bn _ hx))).trans (tX (h q cS))
theorem oC:∀(l:List au){s:Nat->Nat},(∀q∈l,q≠hole)->(∃q∈l,q.loc=(k:Int))->k<1024->s k=2->bK s ba l k=1\/bK s ba l k=3
 | [],_,_,h,_,_=>by obtain⟨q,hq,_⟩:=h;cases hq
 | q::l,s,hn,h,hk,h2=>by
  by_cases hq:q.loc=(k:Int)
  ·have e:=v' (s:=s) (ba:=ba) (hn q cS) hq hk h2;have:bK s ba (q::l) k=gU s ba q k:=ha l (by rw[e];split<;>omega);rw[this,e];split
   ·exact .inl rfl
   ·exact .inr rfl
  ·obtain⟨x,hx,e⟩:=h;rcases List.mem_cons.mp hx with rfl|hx
   ·exact absurd e hq
   ·exact oC l (λx hx=>hn x (bn _ hx)) ⟨x,hx,e⟩ hk (by rw[tX hq];exact h2)
theorem Ae:∀(l:List au){s:Nat->Nat},(∀q∈l,q≠hole/\q.aV<=ba)->(∃q∈l,q.loc=(k:Int))->k<1024->s k=2->bK s ba l k=3
 | [],_,_,h,_,_=>by obtain⟨q,hq,_⟩:=h;cases hq
 | q::l,s,hn,h,hk,h2=>by
  by_cases hq:q.loc=(k:Int)
  ·have e:=v' (s:=s) (ba:=ba) (hn q cS).1 hq hk h2;rw[aO (by have:=(hn q cS).2;omega)]at e;have:bK s ba (q::l) k=gU s ba q k:=ha l (by rw[e];omega);rw[this,e]
  ·obtain⟨x,hx,e⟩:=h;rcases List.mem_cons.mp hx with rfl|hx
   ·exact absurd e hq
   ·exact Ae l (λx hx=>hn x (bn _ hx)) ⟨x,hx,e⟩ hk (by rw[tX hq];exact h2)
theorem hS(l:List au):bK s ba l k=0↔s k=0:=by
 constructor
 ·intro h;exact Adz λh2=>by
   by_cases h3:s k=2
   ·exact absurd h (by
     have:∀(l:List au)(s:Nat->Nat),s k≠0->bK s ba l k≠0:=by
      intro l;induction l with
      | nil=>intro s h;exact h
      | cons q l ih=>
       intro s h;refine ih _ ?_;by_cases e:s k=2
       ·by_cases hq:q=hole
        ·unfold gU;rw[bp hq];exact h
        ·by_cases hl:q.loc=(k:Int)
         ·by_cases hk:k<1024
          ·rw[v' hq hl hk e];split<;>omega
          ·have:∀y,sB s q.loc 2 y k=s k:=λy=>by unfold sB;rw[aO];unfold KM;simp only[decide_eq_true_eq];omega
           unfold gU;rw[aO hq];split
           ·rw[this];exact h
           ·rw[this];exact h
         ·rw[tX hl];exact h
       ·rw[Dh e];exact h
     exact this l s h2)
   ·grind [ha]
 ·grind [ha]
theorem wb(l:List au)(h:s k<=3)(hn:∀q∈l,q≠hole)(hk:k<1024):bK s ba l k<=3:=by
 by_cases h2:s k=2
 ·by_cases hx:∃q∈l,q.loc=(k:Int)
  ·grind [oC]
  ·grind [lO]
 ·grind [ha]
end
theorem B0{s:Nat->Nat}{gone:List au}{R R' Q:Nat->Prop}(h2:∀i,i<1024->(s i=2↔R i\/Q i))(hn:∀q∈gone,q≠hole)(a:∀i,i<1024->R' i->R i/\∀p∈gone,p.loc≠(i:Int))(b:∀i,i<1024->R i->R' i\/∃p∈gone,p.loc=(i:Int))(c:∀i,i<1024->Q i->∀p∈gone,p.loc≠(i:Int)):∀i,i<1024->(bK s ba gone i=2↔R' i\/Q i):=by grind [ha,oC,lO]
structure bq(G:ch):Prop where
 ik:gg G.next G.l
 si:hJ G.P.st G.l (gC G.P.C)
 tr:∀x∈G.l,eH G.P.C x.root
 md:(G.ms.map (·.loc)).Nodup
 ml:∀q∈G.ms,4<=q.loc/\q.loc<1024/\q.aV<=G.P.ba
 mx:∀q∈G.ms,∀x∈G.l,∀p,gC G.P.C x.root p->p.loc≠q.loc
 s0:∀i,G.P.s i=0↔(i<4\/κ G.P.C<=i)
 s2:∀i,i<1024->(G.P.s i=2↔(∃x∈G.l,∃p,gC G.P.C x.root p/\p.loc=(i:Int))\/∃q∈G.ms,q.loc=(i:Int))
 s3:∀i,G.P.s i<=3
 sb:G.P.ba<G.P.st
 st:G.P.st<=281474976710655
 ln:64<=κ G.P.C/\(κ G.P.C)<=1024
 ft:ev G=true
def vw(C:List cQ)(x:ab)(j:Nat):Option cQ:=fM C (e5 C x.root (9+j))
theorem gg.Vy{next:Nat}{l:List ab}(F:gg next l){x:ab}(hx:x∈l){p:au}(hp:1<=p.aV):cL l x p↔rV l x.prev<p.aV:=by
 by_cases h0:x.prev=0
 ·rw[h0,F.aap];exact⟨λ_=>ae,λ_ y hy e=>FI⟩
 ·obtain⟨y,hy,e,h1,h2,_⟩:=F.prv hx h0;rw[h2];exact⟨λh=>h y hy e,λh z hz ez=>by rw[F.gb.inj hz hy (ez.trans e.symm)];exact h⟩
section
variable {G:ch}
theorem bq.GK(I:bq G):Ep G.P:=by
 refine⟨λj hj=>?_,I.ln.2,⟨by have:=I.sb;omega,I.st⟩⟩;have:¬(j<4\/κ G.P.C<=j):=λh=>by have:=(I.s0 j).mpr h;omega
 omega
theorem bq.taken(I:bq G){x:ab}(hx:x∈G.l){p:au}(hp:gC G.P.C x.root p):G.P.s p.loc.toNat=2:=by have:=hp.loc (I.tr x hx);exact(I.s2 p.loc.toNat ae).mpr (.inl ⟨x,hx,p,hp,ae⟩)
def bq.aar(I:bq G){x:ab}(hx:x∈G.l):ss G.P x.root:=⟨I.tr x hx,λp hp=>I.taken hx hp⟩
theorem bq.rB(I:bq G){q:au}(hq:q∈G.ms):G.P.s q.loc.toNat=2:=by have:=I.ml q hq;exact(I.s2 q.loc.toNat ae).mpr (.inr ⟨q,hq,ae⟩)
theorem bq.shape(I:bq G):(G.next<=281474976710655/\(κ G.l)<=32/\∀x∈G.l,cz x=true)/\ck G.l<=65535:=by have h:=I.ft;unfold ev at h;rw[decide_eq_true_eq]at h;exact lB h.1
theorem bq.wf(I:bq G):∀x∈G.l,x.wf:=λx hx=>by
 obtain⟨h1,h2,h3,h4,h5,h6,h7,h8,h9⟩:=(bm x).mp (I.ik.rt x hx);refine⟨ae,ae,ae,?_,ae,(I.tr x hx).p5.1,λp hp=>?_⟩
 ·split at h9<;>omega
 ·by_cases h0:x.prev=0
  ·rw[I.ik.pz x hx h0]at hp;cases hp
  ·obtain⟨y,hy,e,_⟩:=I.ik.pv x hx h0;have:=((I.si.dd x hx y hy e p).mp hp).1;exact(this.p5 (I.tr y hy).p5).1
theorem bq.lC(I:bq G){x:ab}(hx:x∈G.l):κ x.dead<=73:=by
 by_cases h0:x.prev=0
 ·rw[I.ik.pz x hx h0];exact bG _
 ·obtain⟨y,hy,e,_⟩:=I.ik.pv x hx h0;have:=eU x.dead ((Aal 73).map (e5 G.P.C y.root)) ((qD ((bm x).mp (I.ik.rt x hx)).2.2.2.2.2.2.2.1).nodup) (λp hp=>by obtain⟨_,a,ha,ea⟩:=((I.si.dd x hx y hy e p).mp hp).1;exact List.mem_map.mpr ⟨a,List.mem_range.mpr ha,ea⟩)
  assumption
theorem bq.MU(I:bq G){C':List cQ}(hc:∀j,G.P.s j≠1->C'[j]?=G.P.C[j]?){x:ab}(hx:x∈G.l):eH C' x.root/\(∀a,a<73->e5 C' x.root a=e5 G.P.C x.root a)/\(∀a,a<73->fM C' (e5 G.P.C x.root a)=fM G.P.C (e5 G.P.C x.root a)):=(I.tr x hx).congr (λp hp=>hc _ (by rw[I.taken hx hp];omega))
def bq.Zk(I:bq G){C':List cQ}(hc:∀j,G.P.s j≠1->C'[j]?=G.P.C[j]?){x:ab}(hx:x∈G.l)(p:au):gC C' x.root p↔gC G.P.C x.root p:=gC.congr (I.MU hc hx).2.1
theorem bq.Zl(I:bq G){C':List cQ}(hc:∀j,G.P.s j≠1->C'[j]?=G.P.C[j]?){x:ab}(hx:x∈G.l){j:Nat}(hj:j<64):vw C' x j=vw G.P.C x j:=by obtain⟨_,h1,h2⟩:=I.MU hc hx;grind [vw]
theorem hJ.congr{st:Nat}{l:List ab}{M M':au->au->Prop}(I:hJ st l M)(h:∀x∈l,∀p,M' x.root p↔M x.root p):hJ st l M':=by obtain⟨a1,a2,a3,a4,a5,a6⟩:=I;refine⟨λx hx p hp=>a1 x hx p ((h x hx p).mp hp),λx hx hs=>⟨(a2 x hx hs).1,λp hp=>(a2 x hx hs).2 p ((h x hx p).mp hp)⟩,λx hx y hy e p hp hb=>(h y hy p).mpr (a3 x hx y hy e p ((h x hx p).mp hp) hb),λx hx y hy e p=>aP,λx hx z hz p q hp hq=>a5 x hx z hz p q ((h x hx p).mp hp) ((h z hz q).mp hq),λx hx z hz p hp hq=>a6 x hx z hz p ((h x hx p).mp hp) ((h z hz p).mp hq)⟩
theorem bq.dev(I:bq G){C':List cQ}(m:Nat)(fl:Bool)(hl:κ C'=κ G.P.C)(hc:∀j,G.P.s j≠1->C'[j]?=G.P.C[j]?):bq {G with P:={G.P with C:=C',m:=m,fl:=fl}}:=by
 have S:∀x∈G.l,∀p,gC C' x.root p↔gC G.P.C x.root p:=λx hx p=>I.Zk hc hx p;refine⟨I.ik,I.si.congr S,λx hx=>(I.MU hc hx).1,I.md,I.ml,λq hq x hx p hp=>I.mx q hq x hx p ((S x hx p).mp hp),?_,λi hi=>?_,I.s3,I.sb,I.st,?_,?_⟩
 ·show ∀i,G.P.s i=0↔(i<4\/κ C'<=i);rw[hl];exact I.s0
 ·rw[show({G with P:={G.P with C:=C',m:=m,fl:=fl}}:ch).P.s=G.P.s from rfl,I.s2 i hi];grind
 ·show 64<=κ C'/\(κ C')<=1024;rw[hl];exact I.ln
 ·have:=I.ft;grind [ev,fc,e0]
end
theorem bq.hr(I:bq G):∀x∈G.l,κ x.dead*24<=140737488355328:=λx hx=>by have:=I.lC hx;omega
theorem bq.hl(I:bq G):κ G.l<=1000:=by have:=I.ik.len;omega
theorem bq.sI(I:bq G):κ G.ms<=1024:=by
 have:=eU (G.ms.map (·.loc)) ((Aal 1024).map (λk:Nat=>(k:Int))) I.md (λx hx=>by obtain⟨q,hq,rfl⟩:=List.mem_map.mp hx;have:=I.ml q hq;exact List.mem_map.mpr ⟨q.loc.toNat,List.mem_range.mpr ae,ae⟩)
 simp_all
def j0(l:List ab)(full:List aj)(i:Int):Except Nat Nat:=match hN full with
 | none=>.error 141
 | some _=>fz l full i
section
variable {l:List ab} {full vn:List aj} {i:Int}
theorem Hm(h:hN full=none):j0 l full i=.error 141:=by grind [j0]
theorem WC(h:hN full=some vn):j0 l full i=fz l full i:=by grind [j0]
end
theorem I1(w:af)(gb:Nat)(H:aS)(G:ch)(A:GA w gb H G)(hl:κ G.l<=1000)(hr:∀x∈G.l,κ x.dead*24<=140737488355328)(full:List aj)(hf:κ full<=9223372036854775807)(i:Int):Aaf Aag 46 #[k6 gb,.string (strOf full),i6 i] w λe w'=>My G.l (j0 G.l full i) w e w':=by
 obtain⟨w2,hw2⟩:=bE ((w.alloc (.cells #[pz gb] 100)).alloc (.cells b8 90));obtain⟨U1,U2⟩:=az (ai w (.cells #[pz gb] 100)) (ai (w.alloc (.cells #[pz gb] 100)) (.cells b8 90));obtain⟨b1,b2⟩:=az ((aI.new w 100 #[pz gb]).up U2) (aI.new (w.alloc (.cells #[pz gb] 100)) 90 b8);rw[aN]at b2;have UU:=an (U1.trans U2);rw[<-hw2]at b1 b2 UU;obtain⟨HW2,IZ,OZ,SP⟩:=bS hw2 il ie (jc w2 full hf);clear hw2;cases hs:cY full with
 | none=>have HE:=an (Hm (l:=G.l) (i:=i) (Mm hs));rw[hs]at SP;unfold gx at SP;clear hs;exact Uu
 | some vs=>
  obtain⟨vn,sn⟩:=vs;have aa:=fX sn;by_cases h0:sn=[]
  ·have HE:=an (WC (l:=G.l) (i:=i) (Mn hs h0));rw[hs]at SP;unfold gx at SP;simp only at SP;rw[show decide (sn=[])=true from ao]at aa;have ae:((strOf sn).toList != [])=false:=by grind
   clear hs h0;go_in;go_wp2_with(refine arm ?_);rw[<-HW2.out];refine SP.mono ?_;rintro e w3⟨rfl,u3⟩;obtain⟨U3,ad⟩:=aw (UU.trans u3) (b2.up u3);have c0:=(b1.up u3).cell 0;go_wp2_with fail;refine((λW (u:Up w2 W)=>fT W _ H G ((A.up UU).up u) hl hr) _ u3).mono ?_;rintro e w4⟨v4,rfl,os,u4⟩;obtain⟨U4,B2_4⟩:=aw (U3.trans u4) (ad.up u4);clear c0;go_wp2_with fail;refine((λ(W:af) (v:ah) (hv:cy W v G.l)=>DQ W _ v _ hv hr _ hf i) w4 v4 os.cA).mono ?_;exact NZ
  ·have HE:=an (Hm (l:=G.l) (i:=i) (Mo hs h0));rw[hs]at SP;unfold gx at SP;simp only at SP;rw[show decide (sn=[])=false from ao]at aa;have ae:((strOf sn).toList != [])=true:=by grind
   clear hs h0;exact Uu
def ye(G:ch):Int:=if ev G=true then 0 else 71
def Sc(id:Nat)(q:au)(x:ab):ab:=if x.id=id then {x with root:=q} else x
def mn(l:List ab)(id:Nat)(q:au):List ab:=l.map (Sc id q)
def jr(l:List ab)(id:Nat)(q:au)(k:Nat):List ab:=(l.take k).map (Sc id q)++l.drop k
theorem lI(l:List ab)(id:Nat)(q:au)(k:Nat):κ (jr l id q k)=κ l:=by grind [jr]
theorem BO{l:List ab}{id:Nat}{q:au}(hk:k<κ l)(h:k<κ (jr l id q k)):(jr l id q k)[k]=recAt l k:=by grind [jr,b0]
theorem BP{l:List ab}{id:Nat}{q:au}(hk:k<κ l):(jr l id q k).set k (Sc id q (recAt l k))=jr l id q (k+1):=by
 have e:κ ((l.take k).map (Sc id q))=k:=ao
 unfold jr;rw[yU _ _ ae,e,Nat.sub_self,qi hk,List.set_cons_zero,eo hk,Aao,b0 hk,Abe];rfl
theorem LR{l:List ab}{id:Nat}{q:au}(hk:k<κ l)(h:(recAt l k).id≠id):jr l id q (k+1)=jr l id q k:=by
 rw[<-BP hk];have:Sc id q (recAt l k)=(jr l id q k)[k]'(by grind [lI]):=by grind [BO,Sc]
 simp_all
theorem LS(l:List ab)(id:Nat)(q:au):jr l id q 0=l:=aA
theorem Rl(l:List ab)(id:Nat)(q:au):jr l id q (κ l)=mn l id q:=by simp[jr,mn]
theorem VZ(id:Nat)(q:au)(x:ab):(Sc id q x).dead=x.dead:=by grind [Sc]
theorem BQ{l:List ab}{id:Nat}{q:au}{p:List au->Prop}(h:∀x∈l,p x.dead):∀x∈mn l id q,p x.dead:=λx hx=>by obtain⟨y,hy,rfl⟩:=List.mem_map.mp hx;rw[VZ];exact h y hy
def GY(l:List ab)(id:Nat)(q:au):κ (mn l id q)=κ l:=Aac ..
theorem Ra(w:af)(gb:Nat)(H:aS)(G:ch)(A:GA w gb H G)(hl:κ G.l<=1000)(hr:∀x∈G.l,κ x.dead*24<=140737488355328)(aE:∀x∈G.l,PW x.dead)(id:Nat)(q:au)(vo:ah)(old:List au)(ho:c9 w vo old)(aY:κ old<=1000)(l2:List ab)(gone:List au)(hk:qb G.next (mn G.l id q) id old=.ok (G.next,l2,gone))(aW:κ gone<=100000)(bh:κ l2<=1000)(aU:∀x∈l2,κ x.dead*24<=140737488355328)(aK:∀x∈l2,x.wf)(hn:G.next<18446744073709551616)(sI:κ G.ms<=100000):Calls prog 49 #[k6 gb,u6 (id:Int),.agg (a6 q),vo] w λe w'=>e=.returned (i6 (ye {G with P:={G.P with s:=bK G.P.s G.P.ba gone},l:=l2}))/\GA w' gb H {G with P:={G.P with s:=bK G.P.s G.P.ba gone},l:=l2}/\Touch (λk=>PF H k\/k=gb) w w':=by
 obtain⟨oa,oc,rfl⟩:=ho.slice;obtain⟨w2,hw2⟩:=bE ((w.alloc (.cells #[pz gb] 100)).alloc (.cells (a6 q) 87));obtain⟨U1,U2⟩:=az (ai w (.cells #[pz gb] 100)) (ai (w.alloc (.cells #[pz gb] 100)) (.cells (a6 q) 87));obtain⟨b1,b2⟩:=az ((aI.new w 100 #[pz gb]).up U2) (aI.new (w.alloc (.cells #[pz gb] 100)) 87 (a6 q));rw[aN]at b2;have uu:=U1.trans U2;rw[<-hw2]at b1 b2 uu;have c0:((w.alloc (.cells #[pz gb] 100)).alloc (.cells (a6 q) 87)).cell? (ad w.heap.size 0)=some (pz gb):=by rw[<-hw2];exact b1.cell 0
 obtain⟨HW2,A2,HK,aj,a1,aX,aC,HN,aL,bg,bw⟩:=Wr hw2 (A.up uu) hk aU aK aY hl hn sI aW bh;clear hk aU aK aY hn sI aW bh;go_in;go_wp2_with(refine arm ?_);rw[<-HW2.out];clear c0;refine(fT _ _ H G A2 hl hr).mono ?_;rintro e w3⟨v3,rfl,bb,u3⟩;obtain⟨a3,c3,rfl⟩:=bb.cA.slice;have u4:=ai w3 (.cells (aQ G.next (.slice a3 (κ G.l) c3)) 73);obtain⟨U4,aH,B9,ao,B2_4,A4,aa⟩:=vL ((uu.trans u3).trans u4) (u3.trans u4) (aI.new w3 73 (aQ G.next (.slice a3 (κ G.l) c3))) ((b1.up u3).up u4) ((b2.up u3).up u4) ((A2.up u3).up u4) (bt.up bb u4);have c1:(w3.alloc (.cells (aQ G.next (.slice a3 (κ G.l) c3)) 73)).cell? (ad w3.heap.size 1)=some (.slice a3 (κ G.l) c3):=(aI.new _ _ _).cell 1;go_wp2_with(refine arm ?_);obtain⟨w4,hw4⟩:=bE (w3.alloc (.cells (aQ G.next (.slice a3 (κ G.l) c3)) 73));rw[<-hw4]at U4 aH B9 ao B2_4 A4 aa c1 ⊢;clear hw4;clear c1;go_loopw [19] (λi wr=>∃k:Nat,k<=κ G.l/\i=i6 k/\bt wr w2.heap.size (.slice a3 (κ G.l) c3) (jr G.l id q k)/\Up w2 wr/\aI wr w3.heap.size 73 (aQ G.next (.slice a3 (κ G.l) c3))) (λi _=>κ G.l-(Aaq i).toNat)
 case atStart=>exact⟨0,bG _,rfl,by rw[LS];exact aa,aH,B9⟩
 case round=>
  obtain⟨k,hk,rfl,aM,ur,br⟩:=hrel;have aR:κ G.l<=1000:=aC;by_cases hlt:k<κ G.l
  ·have b3:((k:Int)<(κ G.l:Int))=True:=by simp;omega
   obtain⟨g,cp,hv,hg⟩:=aM.at (by rw[lI];omega);rw[lI]at hv;obtain⟨rfl,rfl⟩:a3=some ⟨g,0,none⟩/\c3=cp:=by simpa using hv
   clear hv;have HG:=an hg;obtain⟨b5,o5,ar,_,da,dc,rg,dp⟩:=bZ aM.cA (show k<κ (jr G.l id q k) from y4);obtain⟨rfl,rfl⟩:g=b5/\0=o5:=by simpa using ar
   rw[b0 (show k<κ (jr G.l id q k) from y4),BO hlt]at rg dp;rw[Abn]at rg;have e1:=(cd rg).1;have c1:wr.cell? (ad w3.heap.size 1)=some (cC g (κ G.l) c3):=br.cell 1;obtain⟨RK,RA⟩:=aw (BP (id:=id) (q:=q) hlt) (show(jr G.l id q k)[k]' y4=recAt G.l k from BO hlt _);clear ar hg;by_cases hid:(recAt G.l k).id=id
   ·have b4:(((recAt G.l k).id:Int)==(id:Int))=true:=by rw[hid];simp
    have RT:=an (show Sc id q (recAt G.l k)={recAt G.l k with root:=q} from by unfold Sc;rw[bp hid]);obtain⟨cur,hb,aD,aP⟩:=aM.aai k y4 q;obtain⟨aO,bf,IP,OP⟩:=bS aP (show k*11+7+(a6 q).size<=cur.size from by show k*11+7+3<=cur.size;omega) (hU q) (kM q);clear aD aP hid;obtain⟨xi,al⟩:=bE ((recAt G.l k).id);rw[<-al]at e1 b4;clear al;go_wp2_with(first
     | refine db 87 6 (b2.up ur) ?_
     | ((with_reducible refine cB _ _ _ ?_);refine cc rfl _ (.tmp 35) (.tmp 33) rfl g (k*11+7) _ rfl rfl _ _ hb IP bf OP ?_))
    intro wz hbz ag;rw[lM]at hbz;have OZ:=an (show bt wz w2.heap.size (cC g (κ G.l) c3) (jr G.l id q (k+1))from by have:=aO wz hbz ag;rw[RA.out,<-RT.out,RK.out]at this;exact this)
    go_wp2;go_roundw
    case rel=>exact⟨k+1,ae,aq,OZ,(ur.grown ag (λk hk=>by cases hk;exact HG)),(br.grown ag (by have:=eS br hb av;simp;omega))⟩
    case measure=>simp only[Aaq];omega
   ·have b4:(((recAt G.l k).id:Int)==(id:Int))=false:=by rw[beq_eq_false_iff_ne];omega
    have OZ:=an (show bt wr w2.heap.size (cC g (κ G.l) c3) (jr G.l id q (k+1))from by rw[(LR (id:=id) (q:=q) hlt) hid];exact aM);clear hid;obtain⟨xi,al⟩:=bE ((recAt G.l k).id);rw[<-al]at e1 b4;clear al;go_wp2;go_roundw
    case rel=>exact⟨k+1,ae,aq,OZ,ur,br⟩
    case measure=>simp only[Aaq];omega
  ·obtain rfl:k=κ G.l:=by omega
   have b3:((κ G.l:Int)<(κ G.l:Int))=False:=aq
   have bj:=an (show bt wr w2.heap.size (.slice a3 (κ G.l) c3) (mn G.l id q)from by rw[<-Rl];exact aM);have KI:=an (TN _ G.next _ _ bj.cA (by rw[GY];exact hl) (BQ (id:=id) (q:=q) (p:=λd=>κ d*24<=140737488355328) hr) id _ _ ((ho.up uu).up ur) (by have:=aX.out;omega) (BQ (id:=id) (q:=q) (p:=PW) aE));rw[HK.out]at KI;go_wp2_with(refine arm ?_);refine KI.mono ?_;rintro e w5(⟨_,_,_,_,_,ay,_⟩|⟨nx,l',gn,v5,vg,he,rfl,aJ,be,u5⟩)
   case inl=>cases ay
   obtain⟨rfl,rfl,rfl⟩:G.next=nx/\l2=l'/\gone=gn:=by simpa using he
   clear he;obtain⟨a5,c5,rfl⟩:=aJ.cA.slice;have bc:=an (br.up u5);go_wp2_with(first|refine arm ?_|refine pH ?_);intro w6 aV aG;obtain⟨U6,bd⟩:=aw ((ur.trans u5).grown aG (λk hk=>by cases hk;have:=u3.size;omega)) (ak.kept be aG (.inr (eA av bc be)));obtain⟨A6,aF⟩:=aw (A2.up U6) (b1.up U6);go_wp2_with(refine arm ?_);refine(tl _ _ H G A6 _ _ (ak.row bd pw) (eC A6.pa bd) bg).mono ?_;rintro e w7⟨rfl,a7,t7⟩;have aT:=an (aF.ax t7 (A6.pa.b' aF av));have c7:w7.cell? (ad w.heap.size 0)=some (pz gb):=aT.cell 0;go_wp2_with(first
    | refine db 73 9 (aV.ax t7 (A6.pa.b' aV av)) ?_)
   refine(nX _ _ H _ a7 _ _ _ (wW A6.pa (aJ.Ik bc aG) t7).cA bw aj).mono ?_;rintro e w8⟨rfl,a8,t8⟩;obtain⟨bk,bl,g7,_⟩:=a7;obtain⟨r,hr⟩:∃r:Int,r=ye {G with P:={G.P with s:=bK G.P.s G.P.ba gone},l:=l2}:=⟨_,rfl⟩;obtain⟨aB,FT⟩:=aw hr (show Aaf Aag 44 #[k6 gb] w8 λe w'=>e=.returned (i6 r)/\Up w8 w' from by rw[hr];exact BA w8 gb H _ a8 HN a1 aL);clear hr;clear c7;go_wp2_with(first
    | refine db 100 4 (aT.ax t8 (eS aT g7 av)) ?_)
   refine FT.mono ?_;rintro e w9⟨rfl,u9⟩;go_wp2;go_ret;have hr:=aB.out;subst hr;exact⟨rfl,(a8.up u9),(((((Touch.bV (F:=λk=>PF H k\/k=gb) (uu.trans U6)).trans (t7.mono (F':=λk=>PF H k\/k=gb) (λ_ h=>.inl h)) (λ_ h _=>h)).trans (t8.mono (F':=λk=>PF H k\/k=gb) (λ_ h=>.inr h)) (λ_ h _=>h)).iD u9))⟩
theorem w2{F:List au}{SS:Nat->List au}(h:∀j,j<8->κ (SS j)=8):κ (x' root F SS st)<=73:=by grind [x',nH]
theorem LF(w:af)(gb:Nat)(H:aS)(G:ch)(A:GA w gb H G)(hl:κ G.l<=1000)(hr:∀x∈G.l,κ x.dead*24<=140737488355328)(next' base:Nat)(v':ah)(l':List ab)(hv:bt w base v' l')(ar:κ l'<=1000)(ay:∀x∈l',κ x.dead*24<=140737488355328)(x:ab)(da:Option Addr)(dc:Nat)(F:List au)(SS:Nat->List au)(hF:node8 G.P.C x.root=some F)(hS:∀k,k<8->node8 G.P.C (bB F k)=some (SS k))(gone:List au)(hg:gone=x' x.root F SS (bY G.l x.id)):Aaf Aag 132 #[k6 gb,.agg (aQ next' v'),.agg (b7 x (.slice da (κ x.dead) dc))] w λe w'=>e=.returned (i6 0)/\GA w' gb H {G with P:={G.P with s:=bK G.P.s G.P.ba gone},next:=next',l:=l'}/\Touch (λk=>PF H k\/k=gb) w w':=by
 obtain⟨a,cp,rfl⟩:=hv.cA.slice;obtain⟨U1,U2,U3⟩:=cX (ai w (.cells #[pz gb] 100)) (ai (w.alloc (.cells #[pz gb] 100)) (.cells (aQ next' (.slice a (κ l') cp)) 73)) (ai ((w.alloc (.cells #[pz gb] 100)).alloc (.cells (aQ next' (.slice a (κ l') cp)) 73)) (.cells (b7 x (.slice da (κ x.dead) dc)) 90));obtain⟨b1,b2,b3⟩:=cX (((aI.new w 100 #[pz gb]).up U2).up U3) ((aI.new (w.alloc (.cells #[pz gb] 100)) 73 (aQ next' (.slice a (κ l') cp))).up U3) (aI.new ((w.alloc (.cells #[pz gb] 100)).alloc (.cells (aQ next' (.slice a (κ l') cp)) 73)) 90 (b7 x (.slice da (κ x.dead) dc)));rw[aN]at b2;rw[aN,aN]at b3;have uu:=(U1.trans U2).trans U3;obtain⟨w3,aa⟩:=bE ((((w.alloc (.cells #[pz gb] 100)).alloc (.cells (aQ next' (.slice a (κ l') cp)) 73)).alloc (.cells (b7 x (.slice da (κ x.dead) dc)) 90)));rw[<-aa]at b1 b2 b3 uu;obtain⟨aD,UU,B2,A3⟩:=bS aa uu b2 (A.up uu);have GL:=an (show κ gone<=100000 from by rw[hg];have:=w2 (root:=x.root) (F:=F) (SS:=SS) (st:=bY G.l x.id) (λj hj=>dm (hS j hj));omega)
 obtain⟨aC,aB,AL⟩:=aW ar ay (λW (u:Up w3 W)=>Jt W H G.P (A3.up u).pa x.root (bY G.l x.id) F SS hF hS);rw[<-hg]at AL;have FSx:=an (Adc b1 b3);clear aa ar ay hF hS hg;go_in;go_wp2_with(refine arm ?_);rw[<-aD.out];refine e8 (S:=(λW=>aI W w.heap.size 100 #[pz gb]/\aI W (w.heap.size+2) 90 (b7 x (.slice da (κ x.dead) dc)))) al ?_;change Acp _ _ _ _ _ 18 _ _ (w3.drew);have UD:=an (Up.drew (Up.refl w3));obtain⟨aj,az⟩:=aw (Adc (FSx.1.up UD) (FSx.2.up UD)) (UD);generalize w3.drew=w4 at *;refine ta 0 ?_;refine tb 1 rfl (yc (λW hS=>hS.1.cell 0)) ?_;refine ta 3 ?_;refine tb 4 rfl (WU (λW hS=>hS.2.setAt.c7)) ?_;refine ta 5 ?_;refine tb 6 rfl (yc (λW hS=>hS.1.cell 0)) ?_;refine ta 9 ?_;refine tb 10 rfl (yc (λW hS=>hS.2.setAt.c0)) ?_;refine ok 2 ?_;intro K hK;go_simp;refine(j8 _ _ H G (A3.up az)).mono ?_;refine f' ?_;intro wx;refine hK _ _ aj ?_;clear hK K;refine ok 7 ?_;intro K hK;go_simp;refine((λW (u:Up w3 W)=>fT W _ H G (A3.up u) hl hr) w4 az).mono ?_;rintro e w5⟨v5,rfl,aJ,u5⟩;obtain⟨a5,c5,rfl⟩:=aJ.cA.slice;obtain⟨ae,ao⟩:=aw (Adc (aj.1.up u5) (aj.2.up u5)) (az.trans u5);refine hK _ _ ae ?_;clear hK K;refine tk 8 (.slice a5 (κ G.l) c5) rfl (qZ rfl (λW=>by have:=MH G.next a5 (κ G.l) c5 W;go_simp)) (ae) ?_;refine ok 11 ?_;intro K hK;go_simp;refine(q4 _ _ _ aJ.cA _).mono ?_;rintro e wx⟨rfl,aM⟩;rw[aM];clear aM;refine hK _ _ ae ?_;clear hK K;refine ok 12 ?_;intro K hK;go_simp;refine(AL w5 ao).mono ?_;rintro e w6⟨vg,rfl,aG,ag⟩;have NP:=A3.up ao;obtain⟨aq,A6,aE⟩:=aW (Adc (ae.1.ax ag.2 (NP.pa.b' ae.1 av)) (ae.2.ax ag.2 (NP.pa.b' ae.2 av))) (show GA w6 gb H G from NP.tp H.h.vp ag.1 ag.2) ((B2.up ao).ax ag.2 (NP.pa.b' (B2.up ao) av));refine hK _ _ aq ?_;clear hK K;refine ta 13 ?_;refine ta 14 ?_;refine ta 15 ?_;refine ta 16 ?_;refine ta 17 ?_;refine dn ?_;have aF:=an aq.1;go_wp2_with(refine arm ?_);refine(tl _ _ H G A6 _ _ (ak.row aG pw) (eC A6.pa aG) GL).mono ?_;rintro e w7⟨rfl,a7,t7⟩;have c7:w7.cell? (ad w.heap.size 0)=some (pz gb):=(aF.ax t7 (A6.pa.b' aF av)).cell 0;go_wp2_with(first
  | refine db 73 4 (aE.ax t7 (A6.pa.b' aE av)) ?_)
 refine(nX _ _ H _ a7 _ _ _ (wW A6.pa (wW NP.pa (bt.up (bt.up hv uu) ao) ag.2) t7).cA aC aB).mono ?_;rintro e w8⟨rfl,a8,t8⟩;clear c7;go_wp2;go_ret;exact⟨rfl,a8,((((Touch.bV (F:=λk=>PF H k\/k=gb) (UU.trans ao)).trans (ag.2.mono (F':=λk=>PF H k\/k=gb) (λ_ h=>.inl h)) (λ_ h _=>h)).trans (t7.mono (F':=λk=>PF H k\/k=gb) (λ_ h=>.inl h)) (λ_ h _=>h)).trans (t8.mono (F':=λk=>PF H k\/k=gb) (λ_ h=>.inr h)) (λ_ h _=>h))⟩
def zE(gb:Nat)(H:aS)(R:Int->ch->Prop)(w:af)(e:Ab3)(w':af):Prop:=∃(r:Int)(G2:ch)(vp:ah),e=.returned (.int .i64 r)/\R r G2/\GA w' gb (H.at vp) G2/\Touch (λk=>PF H k\/k=gb) w w'/\∀b,vp.ownBlock=some b->H.h.vp.ownBlock=some b\/w.heap.size<=b
def PY(G G2:ch):ch:={G with P:={G.P with C:=G2.P.C,m:=G2.P.m,fl:=G2.P.fl}}
def r1(H H':aS)(n:Nat)(vp:ah):Prop:=(∀b,vp.ownBlock=some b->H.h.vp.ownBlock=some b\/n<=b)/\∀k,PF H' k->PF H k\/n<=k
theorem r1.of{H H':aS}(hH:H'.h={H.h with vp:=vp})(hv:∀b,vp.ownBlock=some b->H.h.vp.ownBlock=some b\/n<=b)(h1:H'.pb=H.pb\/n<=H'.pb)(h2:H'.mb=H.mb\/n<=H'.mb):r1 H H' n vp:=by
 refine⟨hv,?_⟩;rintro k(rfl|rfl|h)
 ·exact h1.imp (λh=>.inl h) id
 ·exact h2.imp (λh=>.inr (.inl h)) id
 ·rw[hH]at h;rcases ud h with h|h
  ·exact .inl (.inr (.inr h))
  ·exact(hv k h).imp (λh=>.inr (.inr (.inr (.inr (.inr h))))) id
def r1.mono{H H':aS}(h:r1 H H' m vp)(hn:n<=m):r1 H H' n vp:=⟨λb hb=>(h.1 b hb).imp id (λh=>bO hn h),λk hk=>(h.2 k hk).imp id (λh=>bO hn h)⟩
theorem r1.refl(H:aS)(n:Nat):r1 H H n H.h.vp:=⟨λ_ h=>.inl h,λ_ h=>.inl h⟩
def pJ(p gb:Nat)(H:aS)(G:ch)(R:Int->ch->Prop)(w:af)(e:Ab3)(w':af):Prop:=∃(r:Int)(G2:ch)(vp:ah)(gb':Nat)(H':aS),e=.returned (.int .i64 r)/\R r G2/\H'.h={H.h with vp:=vp}/\((r=0/\bU w' p gb' H' G2)\/(r≠0/\bU w' p gb' H' (PY G G2)))/\Touch (λk=>cK H.h k\/k=p) w w'/\r1 H H' w.heap.size vp
theorem J3(gb:Nat):prog.built 100 [(0,pz gb)]=some #[pz gb]:=al
theorem El:∀W:af,(Ab9 100).run Aag W=.ok (.agg #[.pointer none]) W:=aq
theorem GA.other{w w':af}(A:GA w gb H G){t:Aab}(hb:aI w p t C)(h1:vn t=false)(h2:t≠153)(h3:t≠90)(h4:t≠87)(T:Touch (·=p) w w'):GA w' gb H G:=by obtain⟨vb,vm,g1,os,om,pa⟩:=A;have KR:∀{α:Type}{f:α->List ah}{k:Nat}{e:Aab}{v:ah}{xs:List α},ak f k e w 0 v xs->t≠e->ak f k e w' 0 v xs:=λh hn=>ak.ax h T (λb aB e=>eA hn hb h aa);obtain⟨ys,y1,y2,y3⟩:=os;exact⟨vb,vm,g1.ax T (eS g1 hb (Ne.symm h2)),⟨ys,y1,KR y2 h3,λy hy=>KR (y3 y hy) h4⟩,KR om h4,pa.ax T (λb aB e=>pa.b' hb h1 (e ▸ aB))⟩
theorem lS(w:af)(p gb:Nat)(H:aS)(G:ch)(A:bU w p gb H G)(hl:κ G.l<=1000)(hr:∀x∈G.l,κ x.dead*24<=140737488355328)(sI:κ G.ms<=100000)(f:FuncId)(ae:Array ah)(R:Int->ch->Prop)(ay:∀args W,(callFunc f args).run Aag W=.ok (.enter f args) W)(bg:∀W ab ad aa,Up w W->w.heap.size<=ab->w.heap.size<=ad->w.heap.size<=aa->GA W ab ⟨ad,aa,H.h⟩ G->Aaf Aag f (#[k6 ab]++ae) W (zE ab ⟨ad,aa,H.h⟩ R W)):Aaf Aag 39 #[.pointer (some ⟨p,0,none⟩),.func (.func f) #[] ae] w (pJ p gb H G R w):=by
 obtain⟨PD,CP⟩:=aw (wO w p gb H G A) (Dn w gb H G A.ga hl hr sI);refine Gs ?_;intro c0;obtain⟨HA,HC,IW⟩:=aW A bg Qr;clear A hl hr sI bg;go_in;go_wp2_with fail;refine zg ?_;intro wx;go_wp2_with fail;refine CP.mono ?_;rintro e w1⟨gb',pb,mb,rfl,h1,h2,h3,a1,u1⟩;obtain⟨A1,U1,B5,ag,H1,H2,H3,S1⟩:=Jw (a1.up (ai w1 (.cells #[.pointer (some ⟨gb',0,none⟩)] 100))) (u1.trans (ai w1 (.cells #[.pointer (some ⟨gb',0,none⟩)] 100))) (aI.new w1 100 #[.pointer (some ⟨gb',0,none⟩)]) (IW gb') h1 h2 h3 u1.size;clear h1 h2 h3 a1 u1 CP PD c0;go_wp2_with(first
  | ((with_reducible refine eR 100 #[(0,.tmp 13)] ?_);refine kQ rfl 100 0 (.tmp 13) rfl _ rfl #[.pointer (some ⟨gb',0,none⟩)] (J3 gb') ?_)
  | refine bH 100 El ?_
  | refine dX 100 5 14 w1 #[.pointer (some ⟨gb',0,none⟩)] 100 #[.pointer none] (hi:=ag) (h1:=rfl) ?_
  | refine db 100 5 B5 (hi:=ag) ?_)
 refine(HC _ _ _ _ U1 H1 H2 H3 A1).mono ?_;rintro e w2⟨r,G2,vp,rfl,hR,a2,t2,o2⟩;obtain⟨wv,aj⟩:=bE (w1.alloc (.cells #[.pointer (some ⟨gb',0,none⟩)] 100));rw[<-aj]at A1 U1 B5 t2 o2;have SV:=an U1.size;clear aj;refine OC ?_;intro NF;have HD:=HA.ga.pa;have PN:p<w.heap.size/\¬cK H.h p:=⟨HA.e6.lt,HD.dev.jK HA.e6 av av av⟩;have BP:=an ((HA.e6.up U1).ax t2 (NF p PN.1 PN.2));have ar:¬(PF ⟨pb,mb,H.h⟩ w1.heap.size\/w1.heap.size=gb'):=λh=>by
  obtain⟨vb,vm,g1,_,_,pa⟩:=A1.out;rcases h with h|h
  ·exact pa.b' B5 av h
  ·exact eS B5 g1 av h
 have aq:=an (B5.ax t2 ar);have T2:=an ((Touch.bV (F:=λk=>cK H.h k\/k=p) U1).trans t2 (λn hn hlt=>by
  by_cases hf:cK H.h n
  ·exact .inl hf
  ·exact absurd hn (NF n hlt hf)))
 obtain⟨O2,A2⟩:=aw (show ∀b,vp.ownBlock=some b->H.h.vp.ownBlock=some b\/w.heap.size<=b from λb hb=>(o2 b hb).imp id (λh=>bO SV h)) a2;have G1:=an (show GA w2 gb (H.at vp) (PY G G2)from by obtain⟨vb,vm,g1,os,om,pa⟩:=HA.ga;have lt:=g1.lt;have au:¬cK H.h gb:=λh=>pa.b' g1 av (.inr (.inr h));have K1:=(g1.up U1).ax t2 (NF gb lt au);have KR:∀{α:Type}{f:α->List ah}{k:Nat}{e:Aab}{v:ah}{xs:List α},ak f k e w 0 v xs->(∀b,v.ownBlock=some b->¬cK H.h b)->ak f k e w2 0 v xs:=λh hn=>ak.ax (ak.up h U1) t2 (λb hb=>NF b (h.aJ b hb).2 (hn b hb));have aD:=KR om (λb hb h=>eC pa om b hb (.inr (.inr h)));obtain⟨ys,y1,y2,y3⟩:=os;have ao:bt w2 0 vb G.l:=⟨ys,y1,KR y2 (λb hb h=>BX pa y2 b hb (.inr (.inr h))),λy hy=>KR (y3 y hy) (λb hb h=>eC pa (y3 y hy) b hb (.inr (.inr h)))⟩;have al:=pa.e6;have aC:¬cK H.h H.pb:=pa.tj;have az:¬cK H.h H.mb:=pa.s7;have PB:=(al.up U1).ax t2 (NF _ al.lt aC);have MB:cb w2 H.mb G.P.s:=a7.ax (cb.up pa.map U1) t2 (NF _ (pa.lt _ (.inr (.inl rfl))) az);exact⟨vb,vm,K1,ao,aD,⟨PB,MB,a2.pa.dev⟩⟩)
 clear a2 t2 o2 HC PN HD NF;by_cases hr:r=0
 ·subst hr;have c5:w2.cell? ⟨w1.heap.size,0,none⟩=some (.pointer (some ⟨gb',0,none⟩)):=aq.cell 0;have aB:=an hR;refine Nu ?_;intro cp BQ GQ fp;clear hR;go_wp2_with fail;have TQ:=Touch.be (F:=(·=p)) GQ (λk hk=>oN);have AQ:=A2.other BP av av av av TQ;go_ret;exact⟨0,G2,vp,gb',⟨pb,mb,{H.h with vp:=vp}⟩,rfl,aB,rfl,.inl ⟨rfl,⟨BQ,AQ⟩⟩,T2.trans (TQ.mono (F':=λk=>cK H.h k\/k=p) (λ_ h=>.inr h)) (λ_ h _=>h),r1.of rfl O2 (.inr H2) (.inr H3)⟩
 ·have nz:(r != 0)=true:=by simp[hr]
  obtain⟨aB,HR⟩:=aw hR hr;clear hR hr;go_wp2_with fail;go_ret;exact⟨r,G2,vp,gb,H.at vp,rfl,aB,rfl,.inr ⟨HR,⟨BP,G1⟩⟩,T2,r1.of rfl O2 (.inl rfl) (.inl rfl)⟩
def fB(G:ch)(X:Except Nat (Nat × List ab))(f:ch->ch)(fit:Bool)(r:Int)(G2:ch):Prop:=(∃n:Nat,X=.error n/\r=(n:Int)/\n≠0/\G2=G)\/(∃nx l',X=.ok (nx,l')/\G2=f {G with next:=nx,l:=l'}/\r=if fit=true then ye G2 else 0)
structure ot(X:Except Nat (Nat × List ab)):Prop where
 nz:∀n,X=.error n->n≠0
 ok:∀nx l',X=.ok (nx,l')->nx<18446744073709551616/\(κ l')<=1000/\(∀x∈l',x.wf)/\∀x∈l',κ x.dead*24<=140737488355328
theorem VT(w:af)(gb:Nat)(H:aS)(G:ch)(A:GA w gb H G)(hl:κ G.l<=1000)(hr:∀x∈G.l,κ x.dead*24<=140737488355328)(sI:κ G.ms<=100000)(hn:G.next<=100000000)(aF:G.P.st<=100000000)(c1:Nat)(c2:Nat)(full:List aj)(N:Int)(hf:κ full<=9223372036854775807)(h1:w.cell? ⟨c1,0,none⟩=some (.string (strOf full)))(h2:w.cell? ⟨c2,0,none⟩=some (.int .i64 N))(X:Except Nat (Nat × List ab))(hX:X=cD G.next G.l full N)(K:ot X):Aaf Aag 40 #[k6 gb,.pointer (some ⟨c1,0,none⟩),.pointer (some ⟨c2,0,none⟩)] w (zE gb H (fB G X id true) w):=by
 subst hX;have s:=Fr.start w;go_in;go_wp2_with(refine fw s ?_;intro _ w s);refine Ge ?_;intro w u s;go_wp2_with(refine fw s ?_;intro _ w s);refine kb s (λw s=>?_);repeat refine kt ?_
 refine kj 3 ?_;refine kj 4 ?_;refine CI (λw _ s=>fT w gb H G (A.up s.pure) hl hr) ?_;rintro w _ s _ w'⟨v,rfl,os,u⟩;refine zi ?_;intro ys z e;repeat(first|refine kx ?_|refine kt ?_)
 refine CI (λw _ s=>z1 w G.next _ G.l wE hl hr ae full hf N) ?_;exact N0
theorem aad(w:af)(gb:Nat)(H:aS)(G:ch)(A:GA w gb H G)(hl:κ G.l<=1000)(hr:∀x∈G.l,κ x.dead*24<=140737488355328)(sI:κ G.ms<=100000)(hn:G.next<=100000000)(aF:G.P.st<=100000000)(c1:Nat)(full:List aj)(hf:κ full<=9223372036854775807)(h1:w.cell? ⟨c1,0,none⟩=some (.string (strOf full)))(X:Except Nat (Nat × List ab))(hX:X=eG G.next G.l full G.P.st)(K:ot X):Calls prog 126 #[k6 gb,.pointer (some ⟨c1,0,none⟩)] w (zE gb H (fB G X (λg:ch=>{g with P:={g.P with st:=g.P.st+1}}) true) w):=by
 subst hX;have s:=Fr.start w;go_in;go_wp2_with(refine fw s ?_;intro _ w s);refine(j8 w gb H G (A.up s.pure)).mono ?_;rintro e _⟨rfl,rfl⟩;go_wp2_with(refine fw s ?_;intro _ w s);refine(o3 w H G.P (A.up s.pure).pa).mono ?_;rintro e _⟨rfl,rfl⟩;have t9:((G.P.st:Int)>281474976710651)=False:=cG ae;go_wp2_with(refine fw s ?_;intro _ w s);refine Ge ?_;intro w u s;go_wp2_with(refine fw s ?_;intro _ w s);refine kb s (λw s=>?_);repeat refine kt ?_
 refine kj 3 ?_;refine kj 4 ?_;refine CI (λw _ s=>fT w gb H G (A.up s.pure) hl hr) ?_;rintro w _ s _ w'⟨v,rfl,os,u⟩;refine zi ?_;intro ys z e;repeat(first|refine kx ?_|refine kt ?_)
 refine CI (λw _ s=>Jm w G.next _ G.l wE hl hr ae full hf G.P.st ae) ?_;rintro w _ s _ w'(⟨n,nx,va,vm,vc,hx,rfl,u⟩|⟨nx,l',v',hx,rfl,os,u⟩)
 ·exact KZ
 ·obtain⟨a2,c2,rfl⟩:=os.cA.slice;obtain⟨zs,e2,z⟩:=Rz.s os u s.t.size;refine⟨_,_,rfl,z,?_⟩;repeat refine kt ?_
  refine kn (λ_ w u s=>?_);refine ks (λw s=>?_);refine kt ?_;refine kd (λw u s=>?_);obtain⟨k1,k2,k3,k4⟩:=K.ok nx l' hx;go_wp2_with(refine fw s ?_;intro _ w s);have g6:=s.cA (ys:=zs);rw[e2]at g6;refine(nX w gb H G (A.up s.pure) nx _ l' g6.cA k2 k4).mono ?_;rintro e w6⟨rfl,a6,t6⟩;obtain⟨aa,ad,g1,_⟩:=A.up s.pure;have c:=s.e6 (t:=100) gB;replace c:=c.ax t6 (eS c g1 av);refine Om ?_;intro T s;have c0:=c.cell 0;go_wp2_with(refine fw s ?_;intro _ w s);refine(j8 _ gb H _ (a6.up s.pure)).mono ?_;rintro e _⟨rfl,rfl⟩;go_wp2_with(refine fw s ?_;intro _ w s);refine(Q4 _ H _ (a6.up s.pure).pa (by show G.P.st<_;omega)).mono ?_;rintro e w7⟨rfl,p7,t7⟩;have c:=(c.up s.pure).ax t7 ((a6.up s.pure).pa.b' (c.up s.pure) av);have a6:GA w7 gb H ((λg:ch=>{g with P:={g.P with st:=g.P.st+1}}) {G with next:=nx,l:=l'}):=(a6.up s.pure).tp H.h.vp p7 t7;obtain⟨T,s,rg⟩:=cX ((T.iD s.pure).trans (t7.mono (F':=λk=>PF H k\/k=gb) (λ_ h=>.inl h)) (λ_ h _=>h)) (Fr.start w7) c.range;go_wp2_with(refine fw s ?_;intro _ w s);obtain⟨r,ag⟩:∃r:Int,r=ye ((λg:ch=>{g with P:={g.P with st:=g.P.st+1}}) {G with next:=nx,l:=l'}):=⟨_,rfl⟩;have hr:=an ag;clear ag;have FT:Aaf Aag 44 #[k6 gb] w λe w'=>e=.returned (.int .i64 r)/\Up w w':=by rw[hr.out];exact BA w gb H _ (a6.up s.pure) k1 k3 sI
  refine FT.mono ?_;refine ez ?_;intro w u s;go_wp2_with fail;refine br ?_;exact⟨r,_,H.h.vp,rfl,.inr ⟨nx,l',hx,rfl,hr⟩,a6.up s.pure,T.iD s.pure,λ_ h=>.inl h⟩
theorem Ye(w:af)(gb:Nat)(H:aS)(G:ch)(A:GA w gb H G)(hl:κ G.l<=1000)(hr:∀x∈G.l,κ x.dead*24<=140737488355328)(sI:κ G.ms<=100000)(hn:G.next<=100000000)(aF:G.P.st<=100000000)(c1:Nat)(c2:Nat)(full to:List aj)(hf:κ full<=9223372036854775807)(ht:κ to<=9223372036854775807)(h1:w.cell? ⟨c1,0,none⟩=some (.string (strOf full)))(h2:w.cell? ⟨c2,0,none⟩=some (.string (strOf to)))(X:Except Nat (Nat × List ab))(hX:X=dq G.next G.l full to)(K:ot X):Aaf Aag 128 #[k6 gb,.pointer (some ⟨c1,0,none⟩),.pointer (some ⟨c2,0,none⟩)] w (zE gb H (fB G X id true) w):=by
 subst hX;have s:=Fr.start w;go_in;go_wp2_with(refine fw s ?_;intro _ w s);refine Ge ?_;intro w u s;go_wp2_with(refine fw s ?_;intro _ w s);refine kb s (λw s=>?_);repeat refine kt ?_
 refine kj 3 ?_;refine kj 4 ?_;refine CI (λw _ s=>fT w gb H G (A.up s.pure) hl hr) ?_;rintro w _ s _ w'⟨v,rfl,os,u⟩;refine zi ?_;intro ys z e;repeat(first|refine kx ?_|refine kt ?_)
 refine CI (λw _ s=>Db w G.next _ G.l wE hl hr ae full to hf ht) ?_;exact N0
theorem Q6(w:af)(gb:Nat)(H:aS)(G:ch)(A:GA w gb H G)(hl:κ G.l<=1000)(hr:∀x∈G.l,κ x.dead*24<=140737488355328)(sI:κ G.ms<=100000)(hn:G.next<=100000000)(aF:G.P.st<=100000000)(c1:Nat)(full:List aj)(hf:κ full<=9223372036854775807)(h1:w.cell? ⟨c1,0,none⟩=some (.string (strOf full)))(X:Except Nat (Nat × List ab))(hX:X=cp G.next G.l full)(K:ot X):Aaf Aag 129 #[k6 gb,.pointer (some ⟨c1,0,none⟩)] w (zE gb H (fB G X id false) w):=by
 subst hX;have s:=Fr.start w;go_in;go_wp2_with(refine fw s ?_;intro _ w s);refine kb s (λw s=>?_);repeat refine kt ?_
 refine kj 3 ?_;refine CI (λw _ s=>fT w gb H G (A.up s.pure) hl hr) ?_;rintro w _ s _ w'⟨v,rfl,os,u⟩;refine zi ?_;intro ys z e;repeat(first|refine kx ?_|refine kt ?_)
 refine CI (λw _ s=>xM w G.next _ G.l wE hl hr full hf) ?_;rintro w _ s _ w'(⟨n,nx,va,vm,vc,hx,rfl,u⟩|⟨nx,l',v',hx,rfl,os,u⟩)
 ·exact KZ
 ·obtain⟨a2,c2,rfl⟩:=os.cA.slice;obtain⟨zs,e2,z⟩:=Rz.s os u s.t.size;refine⟨_,_,rfl,z,?_⟩;repeat refine kt ?_
  refine kn (λ_ w u s=>?_);refine ks (λw s=>?_);refine kt ?_;refine kd (λw u s=>?_);obtain⟨k1,k2,k3,k4⟩:=K.ok nx l' hx;go_wp2_with(refine fw s ?_;intro _ w s);have g6:=s.cA (ys:=zs);rw[e2]at g6;refine(nX w gb H G (A.up s.pure) nx _ l' g6.cA k2 k4).mono ?_;rintro e w6⟨rfl,a6,t6⟩;obtain⟨aa,ad,g1,_⟩:=A.up s.pure;have c:=s.e6 (t:=100) gB;replace c:=c.ax t6 (eS c g1 av);refine Om ?_;intro T s;go_wp2_with fail;refine br ?_;exact⟨0,_,H.h.vp,rfl,.inr ⟨nx,l',hx,rfl,rfl⟩,a6,T,λ_ h=>.inl h⟩
theorem BB{l m:List ab}(h:l.map (·.id)=m.map (·.id))(id:Nat):aK l id=aK m id:=by
 have:∀l:List ab,aK l id=(l.map (·.id)).findIdx? (λx=>decide (x=id)):=λl=>by unfold aK eb;rw[List.findIdx?_map];rfl
 grind
theorem rP{l:List ab}(hk:k<κ l)(x:ab)(j:Nat):recAt (l.set k x) j=if j=k then x else recAt l j:=by grind [recAt]
theorem DW{l:List ab}(h:pG l)(hk:k<κ l)(q:au):mn l (recAt l k).id q=l.set k {recAt l k with root:=q}:=by
 have key:∀j(h2:j<κ l),Sc (recAt l k).id q l[j]=if k=j then {recAt l k with root:=q} else l[j]:=λj h2=>by
  rw[gj h2];unfold Sc;by_cases e:k=j
  ·simp_all
  ·rw[aO e,aO (λe2=>e (h.lq hk h2 (h.inj (aL hk) (aL h2) e2.symm)))]
 apply wC;grind [mn]
theorem gg.aaq{next:Nat}{l:List ab}(F:gg next l)(hk:k<κ l){x':ab}(e:x'.id=(recAt l k).id)(e2:x'.prev=(recAt l k).prev)(hs:(recAt l k).aT=false):bY (l.set k x') (recAt l k).id=rV l (recAt l k).prev:=by
 have hm:=aL hk;obtain⟨i,hi,h1,h2⟩:=b6 F.gb hm;have ik:i=k:=F.gb.lq hi hk h2;subst ik;have P:∀id,aK (l.set i x') id=aK l id:=BB (EI e);by_cases h0:(recAt l i).prev=0
 ·rw[An (i:=i) aa uJ,h0,F.aap]
 ·obtain⟨y,hy,ey,aG,_⟩:=F.pv _ hm h0;obtain⟨j,hj,h3,h4⟩:=b6 F.gb hy;have ji:j≠i:=λe=>by rw[<-h4,e,hs]at aG;cases aG
  rw[Ao (i:=i) (j:=j) aa uJ uJ,rP hk,aO ji,h4,<-ey,B5 F.gb hy]
structure Chg(P P3:bz)(root:au)(i:Nat)(t m b:au):Prop where
 u:Hu P.C P3.C root i P.st t m b
 st:P3.st=P.st
 ba:P3.ba=P.ba
 len:κ P3.C=κ P.C
 Sb:∀j,P.s j≠1->P3.C[j]?=P.C[j]?
 new:∀q,q≠hole->(q=t\/q=m\/q=b)->4<=q.loc/\q.loc<1024/\P.s q.loc.toNat=1/\P3.s q.loc.toNat=2
 dis:∀q q',q≠hole->q'≠hole->(q=t\/q=m\/q=b)->(q'=t\/q'=m\/q'=b)->q.loc=q'.loc->q=q'
 sl:∀j:Nat,(∀q,q≠hole->(q=t\/q=m\/q=b)->q.loc≠(j:Int))->P3.s j=P.s j
section
variable {G:ch}
theorem bq.Ws(I:bq G){k:Nat}(hk:k<κ G.l)(hs:(recAt G.l k).aT=false){P3:bz}{i:Nat}(hi:i<64){t m b:au}(K:Chg G.P P3 (recAt G.l k).root i t m b){old:List au}(hold:∀p,p∈old↔p≠hole/\(p=(recAt G.l k).root\/p=e5 G.P.C (recAt G.l k).root (1+i/8)\/p=e5 G.P.C (recAt G.l k).root (9+i)))(aB:old.Nodup):∃d gone,qb G.next (mn G.l (recAt G.l k).id t) (recAt G.l k).id old=.ok (G.next,G.l.set k {recAt G.l k with root:=t,dead:=d},gone)/\(κ gone)<=3/\PW d/\(κ d)<=73/\(∀p∈d,p.wf)/\(κ d<=κ (recAt G.l k).dead+3/\cz {recAt G.l k with root:=t,dead:=d}=true)/\
  (ev {G with P:={P3 with s:=bK P3.s P3.ba gone},l:=G.l.set k {recAt G.l k with root:=t,dead:=d}}=true->bq {G with P:={P3 with s:=bK P3.s P3.ba gone},l:=G.l.set k {recAt G.l k with root:=t,dead:=d}}):=by
 obtain⟨v,hv⟩:=bE (recAt G.l k);have vm:v∈G.l:=by grind [aL]
 obtain⟨F,SI,TV⟩:=cX I.ik I.si (I.tr v vm);obtain⟨aH,aD⟩:=az (F.aaq (x':={recAt G.l k with root:=t}) hk rfl rfl hs) (DW F.gb hk t);rw[<-hv]at K hold hs aH aD ⊢;have oldIn:∀p,p∈old->gC G.P.C v.root p:=λp hp=>by
  obtain⟨hn,h⟩:=(hold p).mp hp;rcases h with h|h|h
  ·exact⟨hn,0,ae,h.symm⟩
  ·exact⟨hn,1+i/8,ae,h.symm⟩
  ·exact⟨hn,9+i,ae,h.symm⟩
 have bl:∀p∈old,1<=p.aV:=λp hp=>(SI.brt v vm p (oldIn p hp)).1;have NW:∀p,1<=p.aV->(cL G.l v p↔rV G.l v.prev<p.aV):=λp hp=>F.Vy vm hp;have aG:PW v.dead:=qD ((bm v).mp (F.rt v vm)).2.2.2.2.2.2.2.1;have aw:∀q∈old,q ∉ v.dead:=λq hq hd=>by
  by_cases h0:v.prev=0
  ·rw[F.pz v vm h0]at hd;cases hd
  ·obtain⟨y,hy,e,_⟩:=F.pv v vm h0;exact((SI.dd v vm y hy e q).mp hd).2 (oldIn q hq)
 have ol:κ old<=3:=by
  have:=eU old [v.root,e5 G.P.C v.root (1+i/8),e5 G.P.C v.root (9+i)] aB (λp hp=>by rcases((hold p).mp hp).2 with h|h|h<;>simp[h])
  omega
 obtain⟨d,k1,k2,k3⟩:=qa (fl:=rV G.l v.prev) old v.dead [] aG (λq hq=>MM.mpr ⟨((hold q).mp hq).1,((oldIn q hq).p5 TV.p5).2⟩) aB aw (by have:=I.lC vm;omega);rw[Aa0]at k1;obtain⟨gone,aj⟩:=bE (old.filter (λq=>decide (rV G.l v.prev<q.aV)));rw[<-aj]at k1;have gm:∀p,p∈gone↔p∈old/\cL G.l v p:=λp=>aa
 have dm:∀p,p∈d↔p∈v.dead\/(p∈old/\¬cL G.l v p):=λp=>aP
 obtain⟨v2,ax⟩:∃v2:ab,v2={v with root:=t,dead:=d}:=⟨_,rfl⟩;obtain⟨l2,bh⟩:=bE (G.l.set k v2);have mem:∀z,z∈l2↔z=v2\/(z∈G.l/\z≠v):=λz=>by rw[bh,mem_set F.gb hk,<-hv]
 have e1:aK (mn G.l v.id t) v.id=some k:=by obtain⟨j,hj,h1,h2⟩:=b6 F.gb vm;have:j=k:=F.gb.lq hj hk (h2.trans hv);grind [BB,EI]
 have KX:qb G.next (mn G.l v.id t) v.id old=.ok (G.next,l2,gone):=by
  have e2:recAt (mn G.l v.id t) k={v with root:=t}:=uJ
  have e3:bY (mn G.l v.id t) v.id=rV G.l v.prev:=aa
  rw[ES (i:=k) (d:=d) (gone:=gone) e1 aa,e2,aD,y2,bh,ax];rfl
 refine⟨d,gone,aa,?_,k2,?_,?_,?_,?_⟩
 ·grind
 ·by_cases h0:v.prev=0
  ·have:d=[]:=List.eq_nil_iff_forall_not_mem.mpr (λp hp=>by
    rcases(dm p).mp hp with h|⟨_,h⟩
    ·rw[F.pz v vm h0]at h;cases h
    ·exact h (λy hy e=>FI))
   simp_all
  ·obtain⟨y,hy,e,_⟩:=F.pv v vm h0;have:=eU d ((Aal 73).map (e5 G.P.C y.root)) k2.nodup (λp hp=>by refine OD ?_;intro al;obtain⟨_,a,ha,ea⟩:=al;exact List.mem_map.mpr ⟨a,List.mem_range.mpr ha,ea⟩)
   assumption
 ·intro p hp;rcases(dm p).mp hp with h|⟨h,_⟩
  ·exact(I.wf v vm).2.2.2.2.2.2 p h
  ·exact((oldIn p h).p5 TV.p5).1
 ·have dl:κ d<=κ v.dead+3:=by have:=eU d (v.dead++old) k2.nodup (λp hp=>List.mem_append.mpr (((dm p).mp hp).imp id (λh=>h.1)));grind
  refine⟨dl,(bm _).mpr ?_⟩;obtain⟨r1,r2,r3,r4,r5,r6,r7,r8,r9⟩:=(bm v).mp (F.rt v vm);have aM:=I.lC vm;refine⟨r1,r2,r3,r4,r5,K.u.p5.2,ao,I8 k2 (λp hp=>?_),r9⟩;rcases(dm p).mp hp with h|⟨h,_⟩
  ·exact wR r8 h
  ·exact MM.mpr ⟨((hold p).mp h).1,((oldIn p h).p5 TV.p5).2⟩
 intro ar;rw[<-ax,<-bh]at ar ⊢;have KC:=λ(z:ab) (hz:z∈G.l)=>I.MU K.Sb hz;have same:∀z∈G.l,∀p,gC P3.C z.root p↔gC G.P.C z.root p:=λz hz p=>I.Zk K.Sb hz p;have aO:∀p,gC G.P.C v.root p->p.aV<=G.P.st:=λp hp=>(SI.brt v vm p hp).2;have aE:eH P3.C t:=K.u.tree TV hi aO;have aQ:v2.root=t:=by rw[ax]
 have an:∀p,gC P3.C v2.root p↔(p≠hole/\(p=t\/p=m\/p=b))\/(gC G.P.C v.root p/\¬p∈old):=λp=>by
  rw[aQ,K.u.mem TV hi p];constructor
  ·grind
  ·rintro(⟨hn,h|h|h⟩|⟨h,ho⟩)
   ·simp_all
   ·simp_all
   ·simp_all
   ·exact⟨h.1,.inr (.inr (.inr ⟨h,λe=>ho ((hold p).mpr ⟨h.1,.inl e⟩),λe=>ho ((hold p).mpr ⟨h.1,.inr (.inl e)⟩),λe=>ho ((hold p).mpr ⟨h.1,.inr (.inr e)⟩)⟩))⟩
 have av:∀p,(p≠hole/\(p=t\/p=m\/p=b))->p.aV=G.P.st/\∀z∈G.l,∀q,gC G.P.C z.root q->q.loc≠p.loc:=λp hp=>by
  refine⟨?_,λz hz q hq e=>?_⟩
  ·rcases hp.2 with h|h|h
   ·rw[h];exact(K.u.nt aa).1
   ·rw[h];exact(K.u.nm aa).1
   ·rw[h];exact(K.u.nb aa).1
  ·obtain⟨h1,h2⟩:=az (I.taken hz hq) ((K.new p hp.1 hp.2).2.2.1);simp_all
 have aN:1<=G.P.st:=by have:=I.sb;omega
 obtain⟨aJ,alone⟩:=SI.Ws F (M':=gC P3.C) vm hs mem (·∈old) (λp=>p≠hole/\(p=t\/p=m\/p=b)) same an oldIn av (λp q hp hq e=>K.dis p q hp.1 hq.1 hp.2 hq.2 e) aN aa (λp=>aa) aa aa;have sh:G.next<=281474976710655/\(κ l2)<=32/\∀x∈l2,cz x=true:=by unfold ev at ar;rw[decide_eq_true_eq]at ar;exact(lB ar.1).1
 have aR:v2∈l2:=(mem v2).mpr (.inl rfl);have gl:∀q∈gone,q≠hole:=λq hq=>((hold q).mp ((gm q).mp hq).1).1;have ai:∀p∈gone,∀q∈G.ms,q.loc≠p.loc:=λp hp q hq e=>I.mx q hq v vm p (oldIn p ((gm p).mp hp).1) e.symm;have aq:∀j:Nat,(∃q,(q≠hole/\(q=t\/q=m\/q=b))/\q.loc=(j:Int))->P3.s j=2/\G.P.s j=1:=λj ⟨q,hq,e⟩=>by have:=K.new q hq.1 hq.2;rw[e]at this;exact⟨this.2.2.2,this.2.2.1⟩
 have aI:∀j,j<1024->(P3.s j=2↔((∃z∈G.l,∃p,gC G.P.C z.root p/\p.loc=(j:Int))\/(∃q,(q≠hole/\(q=t\/q=m\/q=b))/\q.loc=(j:Int)))\/∃q∈G.ms,q.loc=(j:Int)):=λj hj=>by
  by_cases hx:∃q,(q≠hole/\(q=t\/q=m\/q=b))/\q.loc=(j:Int)
  ·grind
  ·rw[K.sl j (λq h1 h2 e=>hx ⟨q,⟨h1,h2⟩,e⟩),I.s2 j hj];grind
 have P0:∀j,P3.s j=0↔G.P.s j=0:=λj=>by
  by_cases hx:∃q,(q≠hole/\(q=t\/q=m\/q=b))/\q.loc=(j:Int)
  ·grind
  ·rw[K.sl j (λq h1 h2 e=>hx ⟨q,⟨h1,h2⟩,e⟩)]
 have aF:∀j,P3.s j<=3:=λj=>by
  by_cases hx:∃q,(q≠hole/\(q=t\/q=m\/q=b))/\q.loc=(j:Int)
  ·grind
  ·rw[K.sl j (λq h1 h2 e=>hx ⟨q,⟨h1,h2⟩,e⟩)];exact I.s3 j
 refine⟨?_,?_,λz hz=>?_,I.md,?_,λq hq z hz p hp=>?_,λj=>?_,?_,λj=>?_,?_,?_,?_,ar⟩
 ·refine F.back ⟨sh.1,sh.2.1,sh.2.2⟩ ?_ vm mem aP (λh0=>?_) (λy hy e p hp=>?_) aP aP aP aP aP
  ·show pG l2;rw[bh];exact vF F.gb aP
  ·rw[ax];exact List.eq_nil_iff_forall_not_mem.mpr (λp hp=>by
    rcases(dm p).mp hp with h|⟨_,h⟩
    ·rw[F.pz v vm h0]at h;cases h
    ·exact h (λy hy e=>FI))
  ·rw[ax]at hp;have ag:=F.eY vm hy e;refine OD ?_;intro al;exact(SI.sn y hy ag.1).2 p al
 ·show hJ P3.st l2 (gC P3.C);rw[K.st];exact aJ
 ·grind
 ·show ∀q∈G.ms,4<=q.loc/\q.loc<1024/\q.aV<=P3.ba;rw[K.ba];exact I.ml
 ·rcases(mem z).mp hz with rfl|⟨hz1,_⟩
  ·rcases(an p).mp hp with h|h
   ·intro e;obtain⟨h1,h2⟩:=az (I.rB hq) ((K.new p h.1 h.2).2.2.1);grind
   ·exact I.mx q hq v vm p h.1
  ·exact I.mx q hq z hz1 p ((same z hz1 p).mp hp)
 ·show bK P3.s P3.ba gone j=0↔(j<4\/κ P3.C<=j);rw[hS,P0,K.len];exact I.s0 j
 ·refine B0 (R:=λj=>(∃z∈G.l,∃p,gC G.P.C z.root p/\p.loc=(j:Int))\/(∃q,(q≠hole/\(q=t\/q=m\/q=b))/\q.loc=(j:Int))) aI gl ?_ ?_ ?_
  ·grind
  ·rintro j hj(⟨z,hz,p,hp,e⟩|⟨q,hq,e⟩)
   ·by_cases ak:z=v
    ·subst ak;by_cases ho:p∈old
     ·by_cases ad:cL G.l z p
      ·grind
      ·refine .inl ?_;unfold cL at ad;simp only[Ack]at ad;obtain⟨y,hy,ey,hle⟩:=ad;have ag:=F.eY vm hy ey;have aC:y≠z:=λe2=>by rw[e2,hs]at ag;cases ag.1
       exact⟨y,(mem y).mpr (.inr ⟨hy,aC⟩),p,(same y hy p).mpr (SI.el z vm y hy ey p hp ae),e⟩
     ·grind
    ·grind
   ·grind
  ·grind
 ·by_cases hj:j<1024
  ·grind [wb]
  ·show bK P3.s P3.ba gone j<=3;have:G.P.s j=0:=(I.s0 j).mpr (.inr (by have:=I.ln.2;omega));grind [hS]
 ·show P3.ba<P3.st;rw[K.ba,K.st];exact I.sb
 ·show P3.st<=_;rw[K.st];exact I.st
 ·show 64<=κ P3.C/\(κ P3.C)<=1024;rw[K.len];exact I.ln
end
theorem tR{s s':Nat->Nat}:∀n,(∀k,k<n->s k=1->s' k=1)->gZ s n<=gZ s' n
 | 0,_=>aE _
 | n+1,h=>by
  have ih:=tR n (λk hk=>h k ae);have hn:=h n ae;unfold gZ at ih ⊢;rw[Ab0,kh,kh,Aae,Aae];by_cases h1:s n=1
  ·simp only[List.filter_cons,List.filter_nil,h1,hn h1,decide_true,if_true,Aaj,Aa5];omega
  ·have:κ (List.filter (λk=>decide (s k=1)) [n])=0:=by simp[h1]
   omega
theorem hx(p:au)(n:Nat):fu p n=true↔p≠hole/\n<p.aV:=by simp[fu]
theorem Hy{C:List cQ}(T:eH C root)(st:Nat)(p:au):p∈x' root (ca C root) (λk=>ca C (bB (ca C root) k)) st↔gC C root p/\st<p.aV:=by
 have IT:∀k p,p∈xz (ca C root) (λk=>ca C (bB (ca C root) k)) st k↔fu (bB (ca C root) k) st=true/\(p=bB (ca C root) k\/(p∈ca C (bB (ca C root) k)/\fu p st=true)):=λk p=>by simp[xz]
 have IS:∀p,p∈jA (ca C root) (λk=>ca C (bB (ca C root) k)) st 8↔∃k,k<8/\p∈xz (ca C root) (λk=>ca C (bB (ca C root) k)) st k:=λp=>by simp[jA]
 unfold x';constructor
 ·intro h;split at h
  ·rename_i hr;have hr:=(hx root st).mp hr;rcases List.mem_cons.mp h with rfl|h
   ·exact⟨⟨hr.1,0,ae,rfl⟩,hr.2⟩
   ·obtain⟨k,hk,h⟩:=(IS p).mp h;obtain⟨h1,h2⟩:=(IT k p).mp h;have h1:=(hx _ st).mp h1;rcases h2 with rfl|⟨h2,h3⟩
    ·exact⟨⟨h1.1,1+k,ae,eN C root hk⟩,h1.2⟩
    ·have h3:=(hx _ st).mp h3;have hl:κ (ca C (bB (ca C root) k))=8:=dm (T.S hk);obtain⟨j,hj,e⟩:=jD h2;have:=lA C root (i:=8*k+j) ae;rw[show(8*k+j)/8=k from ae,show(8*k+j)%8=j from ae,eN C root hk,rL _ j hj,e]at this;exact⟨⟨h3.1,9+(8*k+j),ae,this⟩,h3.2⟩
  ·cases h
 ·rintro⟨⟨hn,a,ha,rfl⟩,aF⟩;have ad:=(λa ha=>T.abK ha) a ha;have hr:root≠hole:=λe=>by rw[e,lY]at hn;exact hn rfl
  rw[bp ((hx root st).mpr ⟨hr,ae⟩),Aak];by_cases h0:a=0
  ·subst h0;exact .inl rfl
  right;rw[IS];by_cases h9:a<9
  ·have e:=eN C root (k:=a-1) ae;rw[show 1+(a-1)=a from ae]at e;exact⟨a-1,ae,(IT _ _).mpr ⟨(hx _ st).mpr ⟨aa,aa⟩,.inl e⟩⟩
  ·have e:=lA C root (i:=a-9) ae;rw[show 9+(a-9)=a from ae,eN C root ae]at e;have ab:=T.aV a ae ha;unfold Bz at ab;rw[aO h9,eN C root ae]at ab;have hl:κ (ca C (bB (ca C root) ((a-9)/8)))=8:=dm (T.S ae);refine⟨(a-9)/8,ae,(IT _ _).mpr ⟨(hx _ st).mpr ⟨(λe2=>by rw[e2,o1,kW]at e;exact hn e),ae⟩,.inr ⟨?_,(hx _ st).mpr ⟨hn,aF⟩⟩⟩⟩;grind [rL,ca,bB]
section
variable {G:ch}
theorem P4{G G':ch}(hf:ev G=true)(h0:0<fc G')(h1:fc G'<=fc G)(hc:bj G.P.s<=bj G'.P.s)(hm:κ G'.ms=κ G.ms):ev G'=true:=by grind [ev]
theorem mQ{s:Nat->Nat}{ba:Nat}(l:List au):bj s<=bj (bK s ba l):=tR 1024 (λk _ h=>by grind [ha])
theorem bq.drop(I:bq G){l':List ab}{gone:List au}(F':gg G.next l')(S':hJ G.P.st l' (gC G.P.C))(ad:∀p∈gone,∃z∈G.l,gC G.P.C z.root p)(ah:∀p∈gone,∀z∈l',¬gC G.P.C z.root p)(sub:∀z∈l',∃u∈G.l,u.root=z.root)(ai:∀z∈G.l,∀p,gC G.P.C z.root p->(∃z'∈l',gC G.P.C z'.root p)\/p∈gone)(hlen:ck l'<=ck G.l):bq {G with P:={G.P with s:=bK G.P.s G.P.ba gone},l:=l'}:=by
 have gl:∀q∈gone,q≠hole:=λq hq=>by obtain⟨z,_,h⟩:=ad q hq;exact h.1
 have ag:∀p∈gone,∀z∈l',∀q,gC G.P.C z.root q->q.loc≠p.loc:=λp hp z hz q hq e=>by obtain⟨u,hu,eu⟩:=sub z hz;obtain⟨x,hx,af⟩:=ad p hp;have:=I.si.lc u hu x hx q p aa af e;simp_all
 refine⟨F',S',λz hz=>?_,I.md,I.ml,λq hq z hz p hp=>?_,λj=>?_,?_,λj=>?_,I.sb,I.st,I.ln,?_⟩
 ·obtain⟨u,hu,e⟩:=sub z hz;rw[<-e];exact I.tr u hu
 ·obtain⟨u,hu,e⟩:=sub z hz;exact I.mx q hq u hu p aa
 ·show bK G.P.s G.P.ba gone j=0↔_;rw[hS];exact I.s0 j
 ·refine B0 (R:=λj=>∃z∈G.l,∃p,gC G.P.C z.root p/\p.loc=(j:Int)) I.s2 gl ?_ ?_ ?_
  ·grind
  ·grind
  ·rintro j hj⟨q,hq,e⟩p hp ep;obtain⟨x,hx,af⟩:=ad p hp;exact I.mx q hq x hx p af ae
 ·by_cases hj:j<1024
  ·exact wb gone (I.s3 j) gl hj
  ·show bK G.P.s G.P.ba gone j<=3;have:G.P.s j=0:=(I.s0 j).mpr (.inr (by have:=I.ln.2;omega));grind [hS]
 ·have h:=I.ft;have h0:0<fc G:=by grind [ev]
  obtain⟨k1,k2⟩:=CB (next':=G.next) (t:=κ G.P.C) (l':=l') ⟨F'.nx,F'.len,F'.rt⟩ h0 I.ln hlen;exact P4 h k1 k2 (mQ gone) rfl
theorem GW{x:ab}(h:cz x=true){r:au}(hr:cw r=true):cz {x with root:=r,dead:=[]}=true:=by grind [bm,je]
theorem Eg{l:List ab}{id:Nat}:∀(n:Nat)(c:List Nat)(p:Nat),κ c<=κ (gW l id n c p).1
 | 0,c,p=>aE _
 | n+1,c,p=>by
  unfold gW;split
  ·exact aE _
  ·split
   ·exact aE _
   ·rename_i i _;split
    ·have:=Eg (l:=l) (id:=id) n (c++[p]) (recAt l i).prev;rw[Aae]at this;simp at this ⊢;exact Nat.le_of_succ_le this
    ·exact aE _
theorem gg.X7{next:Nat}{l:List ab}(F:gg next l){v:ab}(hv:v∈l)(h0:v.aT=false)(hw:¬0<κ (dO l v.id).1):∀x∈l,x.aT=true->x.owner≠v.id:=by refine F.abd hv h0 (λy hy e ho=>hw ?_);obtain⟨i,hi,h1,h2⟩:=b6 F.gb hv;obtain⟨j,hj,h3,h4⟩:=b6 F.gb hy;have:=F.KH y hy;rw[qV h1 aa,h2,<-e,oi ae h3 aa];have:=Eg (l:=l) (id:=v.id) 31 ([]++[y.id]) (recAt l j).prev;exact this
theorem bq.tZ(I:bq G){k:Nat}(hk:k<κ G.l)(hs:(recAt G.l k).aT=false)(hw:¬0<κ (dO G.l (recAt G.l k).id).1){gone:List au}(hg:∀p,p∈gone↔gC G.P.C (recAt G.l k).root p/\bY G.l (recAt G.l k).id<p.aV):bq {G with P:={G.P with s:=bK G.P.s G.P.ba gone},l:=G.l.eraseIdx k}:=by
 obtain⟨F,vm⟩:=az I.ik (aL hk);obtain⟨mem,sm⟩:=az (λz=>mem_erase (y:=z) F.gb hk) (D6 hk kC);have ab:pG (G.l.eraseIdx k):=D5 F.gb k;have ll:κ (G.l.eraseIdx k)<=32:=by rw[Fw];have:=F.len;split<;>omega
 have no:=F.X7 vm hs hw;generalize G.l.eraseIdx k=l' at *;generalize recAt G.l k=v at *;have NW:∀p,gC G.P.C v.root p->(cL G.l v p↔bY G.l v.id<p.aV):=λp hp=>T6
 obtain⟨S',AL⟩:=I.si.tZ F vm hs mem;refine I.drop (F.tZ ab ll vm hs mem no) S' (λp hp=>⟨v,vm,((hg p).mp hp).1⟩) (λp hp z hz=>?_) (λz hz=>⟨z,((mem z).mp hz).1,rfl⟩) (λz hz p hp=>?_) ?_
 ·simp_all
 ·by_cases ar:z=v
  ·subst ar;by_cases hn:bY G.l z.id<p.aV
   ·simp_all
   ·have al:¬cL G.l z p:=λh=>hn ((NW p hp).mp h);unfold cL at al;simp only[Ack]at al;obtain⟨u,hu,eu,hle⟩:=al;have ag:=(F.eY vm hu eu).1;exact .inl ⟨u,(mem u).mpr ⟨hu,λh=>aa⟩,I.si.el z vm u hu eu p hp ae⟩
  ·grind
 ·grind [ck]
theorem bq.l1(I:bq G){i j:Nat}(hi:i<κ G.l)(hs:(recAt G.l i).aT=true)(hj:j<κ G.l)(e:(recAt G.l j).prev=(recAt G.l i).id)(eo:(recAt G.l j).owner=(recAt G.l i).owner)(only:∀z∈G.l,z.prev=(recAt G.l i).id->z=recAt G.l j):∃all,ei (lp (bY G.l (recAt G.l i).id) (recAt G.l j).dead) (recAt G.l i).dead=some all/\(κ all)<=4000/\
  bq {G with P:={G.P with s:=bK G.P.s G.P.ba (hK (bY G.l (recAt G.l i).id) (recAt G.l j).dead)},l:=(G.l.set j (g' (recAt G.l j) all (recAt G.l i).prev)).eraseIdx i}:=by
 obtain⟨F,ym,jm⟩:=cX I.ik (aL hi) (aL hj);have ij:i≠j:=λh=>by have:=(F.eY jm ym e.symm).2;simp_all
 obtain⟨y,hy⟩:=bE (recAt G.l i);obtain⟨n,hn⟩:=bE (recAt G.l j);rw[<-hy]at hs e eo only ym;rw[<-hn]at e eo only jm;have pn:PW n.dead:=qD ((bm n).mp (F.rt n jm)).2.2.2.2.2.2.2.1;obtain⟨fy,fn,dn⟩:=cX (λp hp=>wR ((bm y).mp (F.rt y ym)).2.2.2.2.2.2.2.1 (p:=p) hp) (λp hp=>wR ((bm n).mp (F.rt n jm)).2.2.2.2.2.2.2.1 (p:=p) hp) (I.si.dd n jm y ym e.symm);have NW:∀p,gC G.P.C y.root p->(cL G.l y p↔bY G.l y.id<p.aV):=λp hp=>by rw[F.floor ym];exact F.Vy ym (I.si.brt y ym p hp).1
 have dy:∀p∈y.dead,¬gC G.P.C y.root p:=λp hp=>by
  by_cases h0:y.prev=0
  ·rw[F.pz y ym h0]at hp;cases hp
  ·obtain⟨u,hu,eu,_⟩:=F.pv y ym h0;exact((I.si.dd y ym u hu eu p).mp hp).2
 have po:PW (lp (bY G.l y.id) n.dead):=pn.sublist List.filter_sublist;have om:∀p,p∈lp (bY G.l y.id) n.dead↔p∈n.dead/\¬cL G.l y p:=λp=>by grind [lp]
 have gm:∀p,p∈hK (bY G.l y.id) n.dead↔p∈n.dead/\cL G.l y p:=λp=>by grind [hK]
 rcases s8 _ _ _ (aE _) po (qD ((bm y).mp (F.rt y ym)).2.2.2.2.2.2.2.1)with⟨⟨p,h1,h2⟩,_⟩|⟨_,all,hm,pa,am⟩
 ·grind
 have ah:κ all<=κ n.dead+κ y.dead:=by have:=eU all (lp (bY G.l y.id) n.dead++y.dead) pa.nodup (λp hp=>List.mem_append.mpr ((am p).mp hp));grind [lp,bY]
 obtain⟨jl,yl⟩:=az (I.lC jm) (I.lC ym);refine⟨all,aP,ae,?_⟩;rw[<-hy,<-hn];have aj:(g' n all y.prev).id=(recAt G.l j).id:=by rw[<-hn];rfl
 have aa:pG (G.l.set j (g' n all y.prev)):=vF F.gb aj;have ag:i<κ (G.l.set j (g' n all y.prev)):=ao
 have ri:recAt (G.l.set j (g' n all y.prev)) i=y:=uJ
 have aq:n.id≠y.id:=λh=>by have h2:n=y:=F.gb.inj jm ym h;have:=(F.eY jm ym e.symm).2;grind
 have mem:∀z,z∈(G.l.set j (g' n all y.prev)).eraseIdx i↔z=g' n all y.prev\/(z∈G.l/\z≠n/\z≠y):=λz=>by rw[mem_erase aa ag,mem_set F.gb hj,ri,<-hn];grind
 obtain⟨ai,an⟩:=az (Hc hj (g' n all y.prev) kC) (D6 ag kC);rw[ri]at an;rw[<-hn]at ai;have ab:pG ((G.l.set j (g' n all y.prev)).eraseIdx i):=D5 aa i;have ll:κ ((G.l.set j (g' n all y.prev)).eraseIdx i)<=32:=by rw[Fw,Aax];have:=F.len;split<;>omega
 generalize(G.l.set j (g' n all y.prev)).eraseIdx i=l' at *;have j3:∀p,p∈(g' n all y.prev).dead↔(p∈n.dead/\¬cL G.l y p)\/p∈y.dead:=λp=>by show p∈all↔_;grind
 obtain⟨S',AL⟩:=I.si.l1 F ym hs jm e only mem rfl rfl j3 rfl rfl rfl;refine I.drop ?_ S' (λp hp=>⟨y,ym,((dn p).mp ((gm p).mp hp).1).1⟩) (λp hp z hz=>?_) (λz hz=>?_) (λz hz p hp=>?_) ?_
 ·refine F.l1 ⟨F.nx,ll,λx hx=>?_⟩ ab ym hs jm e eo only mem rfl (λh0=>?_) (λz hz ez p hp=>?_) rfl rfl rfl rfl rfl
  ·rcases(mem x).mp hx with rfl|⟨h,_⟩
   ·have h:=F.rt n jm;rw[bm]at h ⊢;obtain⟨h1,h2,h3,h4,h5,h6,h7,h8,h9⟩:=h;refine⟨h1,h2,((bm y).mp (F.rt y ym)).2.2.1,h4,h5,h6,by show κ all<=4000;omega,I8 pa (λp hp=>?_),h9⟩;grind
   ·exact F.rt x h
  ·refine List.eq_nil_iff_forall_not_mem.mpr (λp hp=>?_);rcases(j3 p).mp hp with⟨_,h⟩|h
   ·exact h (λu hu eu=>by have:=F.KH u hu;omega)
   ·rw[F.pz y ym h0]at h;cases h
  ·have zs:=(F.eY ym hz ez).1;refine(I.si.sn z hz zs).2 p ?_;rcases(j3 p).mp hp with⟨h1,h2⟩|h
   ·have:p.aV<=z.ay:=Adz λh3=>h2 (λu hu eu=>by rw[F.gb.inj hu hz (eu.trans ez.symm)];omega);exact I.si.el y ym z hz ez p ((dn p).mp h1).1 this
   ·exact((I.si.dd y ym z hz ez p).mp h).1
 ·grind
 ·rcases(mem z).mp hz with rfl|⟨h,_⟩
  ·exact⟨n,jm,rfl⟩
  ·grind
 ·by_cases hzn:z=n
  ·subst hzn;exact .inl ⟨_,(mem _).mpr (.inl rfl),hp⟩
  ·by_cases al:z=y
   ·subst al;by_cases ak:gC G.P.C n.root p
    ·exact .inl ⟨_,(mem _).mpr (.inl rfl),ak⟩
    ·have hd:=(dn p).mpr ⟨hp,ak⟩;by_cases ad:cL G.l z p
     ·grind
     ·unfold cL at ad;simp only[Ack]at ad;obtain⟨u,hu,eu,hle⟩:=ad;have us:=F.eY ym hu eu;have h1:=I.si.el z ym u hu eu p hp ae;grind
   ·grind
 ·grind [ck,kC,g']
end
theorem Ck(s:Nat->Nat)(i x:Nat):fW s i x i=x:=bp rfl
theorem Cj{s:Nat->Nat}{i x j:Nat}(h:j≠i):fW s i x j=s j:=aO h
section
variable {P:bz} {root:au} {i:Nat}
theorem Yr(I:ss P root)(K:Ep P)(hi:i<64)(b:cQ){i1 i2 i3:Nat}(h1:P.s i1=1)(h2:fW P.s i1 2 i2=1)(h3:fW (fW P.s i1 2) i2 2 i3=1){F S F' S':List au}(hF:F=ca P.C root)(hS:S=ca P.C (bB F (i/8))){p1 p2 p3:au}(e1:p1=⟨(i1:Int),P.st,eP b⟩)(eS:S'=S.set (i%8) p1)(e2:p2=⟨(i2:Int),P.st,eP (dG S')⟩)(eF:F'=F.set (i/8) p2)(e3:p3=⟨(i3:Int),P.st,eP (dG F')⟩):Chg P (((P.put i1 b).put i2 (dG S')).put i3 (dG F')) root i p3 p2 p1/\fM (((P.put i1 b).put i2 (dG S')).put i3 (dG F')).C p1=some b:=by
 obtain⟨U,n12,n13,n23,s2,s3,B⟩:=Ys I K hi b h1 h2 h3 hF hS e1 eS e2 eF e3;obtain⟨a1,b1⟩:=K.free i1 h1;obtain⟨a2,b2⟩:=K.free i2 s2;obtain⟨a3,b3⟩:=K.free i3 s3;have hl:=K.len;have SS:(((P.put i1 b).put i2 (dG S')).put i3 (dG F')).s=fW (fW (fW P.s i1 2) i2 2) i3 2:=rfl;have CC:(((P.put i1 b).put i2 (dG S')).put i3 (dG F')).C=((P.C.set i1 b).set i2 (dG S')).set i3 (dG F'):=rfl;have w1:fW (fW (fW P.s i1 2) i2 2) i3 2 i1=2:=by grind [Cj,Ck]
 have w2:fW (fW (fW P.s i1 2) i2 2) i3 2 i2=2:=by rw[Cj n23,Ck]
 have w3:fW (fW (fW P.s i1 2) i2 2) i3 2 i3=2:=Ck _ _ _;have l1:p1.loc=(i1:Int):=by rw[e1]
 have l2:p2.loc=(i2:Int):=by rw[e2]
 have l3:p3.loc=(i3:Int):=by rw[e3]
 have n1:p1≠hole:=rk
 have n2:p2≠hole:=rk
 have n3:p3≠hole:=rk
 refine⟨⟨U,rfl,rfl,aa,λj hj=>?_,λq _ hq=>?_,λq q' _ _ hq ab e=>?_,λj hj=>?_⟩,B⟩
 ·grind
 ·rw[SS];grind
 ·grind
 ·rw[SS,Cj (λe=>hj p3 n3 (.inl rfl) ae),Cj (λe=>hj p2 n2 (.inr (.inl rfl)) ae),Cj (λe=>hj p1 n1 (.inr (.inr rfl)) ae)]
def Chg.read{P3:bz}{t m b:au}(K:Chg P P3 root i t m b)(hi:i<64){j:Nat}(hj:j<64):fM P3.C (e5 P3.C t (9+j))=if j=i then fM P3.C b else fM P.C (e5 P.C root (9+j)):=K.u.read hi hj
theorem P9{l:List au}{p:au}:p∈j2 l↔p∈l/\p≠hole:=by simp[j2]
theorem Z8(T:eH P.C root)(hi:i<64):(∀p,p∈j2 [bB (ca P.C (bB (ca P.C root) (i/8))) (i%8),bB (ca P.C root) (i/8),root]↔p≠hole/\(p=root\/p=e5 P.C root (1+i/8)\/p=e5 P.C root (9+i)))/\(j2 [bB (ca P.C (bB (ca P.C root) (i/8))) (i%8),bB (ca P.C root) (i/8),root]).Nodup:=by
 obtain⟨e1,e2⟩:=az (eN P.C root (k:=i/8) ae) (lA P.C root hi);rw[e1]at e2;rw[<-e2,<-e1];refine⟨λp=>?_,?_⟩
 ·grind [P9]
 ·have N:∀a b,a<73->b<73->a≠b->e5 P.C root a≠hole->e5 P.C root a≠e5 P.C root b:=λa b ha hb hne hn e=>hne (T.inj a b ha hb e hn);have a0:e5 P.C root 0=root:=rfl;grind [j2,e5,hole]
end
def abe(C:List cQ)(root:au)(i:Nat):List au:=j2 [bB (ca C (bB (ca C root) (i/8))) (i%8),bB (ca C root) (i/8),root]
def Y6(P:bz)(root:au)(i:Nat)(s:cQ)(r:Int)(t:au)(old:List au)(P3:bz):Prop:=P3.m<=P.m+3/\((r=71/\P3=P/\bj P.s<3)\/(r=0/\((∃m b,Chg P P3 root i t m b/\fM P3.C b=some s/\old=abe P.C root i)\/(P3=P/\t=root/\old=[]/\fM P.C (e5 P.C root (9+i))=some s))))
def Y5(P:bz)(H:aS)(root:au)(i:Nat)(s:cQ)(w:af)(e:Ab3)(w':af):Prop:=∃t va vm vc old r P3 vp,e=.returned (.tuple #[.agg (a6 t),.slice va vm vc,.int .i64 r])/\Y6 P root i s r t old P3/\a8 w' w.heap.size (.slice va vm vc) old/\PA w' (H.at vp) P3/\Touch (PF H) w w'/\∀b,vp.ownBlock=some b->H.h.vp.ownBlock=some b\/w.heap.size<=b
section
variable {P:bz} {H:aS} {root:au} {i:Nat} {w w':af} {e:Ab3}
theorem ZC.made(I:ss P root)(K:Ep P)(hi:i<64){b:cQ}(h:ZC P H root i b (ca P.C root) (ca P.C (bB (ca P.C root) (i/8))) w e w'):Y5 P H root i b w e w':=by
 rcases h with⟨hc,he,pg⟩|⟨hc,i1,i2,i3,v,l1,l2,l3,h1,h2,h3,he,ov,vp,pa,T,O⟩
 ·exact⟨root,none,0,0,[],71,P,H.h.vp,he,⟨ae,.inl ⟨rfl,rfl,hc⟩⟩,ak.nil _ _ _ _ _,pg.1,pg.2,λ_ h=>.inl h⟩
 ·obtain⟨va,vc,rfl⟩:=(ak.row ov pw).slice;obtain⟨C,B⟩:=Yr I K hi b h1 h2 h3 rfl rfl rfl rfl rfl rfl rfl;refine⟨_,va,_,vc,_,0,_,vp,he,⟨?_,.inr ⟨rfl,.inl ⟨_,_,C,B,rfl⟩⟩⟩,ov,pa,T,O⟩;show P.m+1+1+1<=P.m+3;omega
end
def cH(x:ab):ab:={x with root:=hole,dead:=[]}
theorem RD{l:List ab}(hk:k<κ l){x:ab}(h:cH x=cH (recAt l k)):(l.set k x).map cH=l.map cH:=by rw[qm,h];apply wC;grind [b0]
def rdI(G:ch)(id j:Nat):Option cQ:=match aK G.l id with
 | none=>none
 | some k=>vw G.P.C (recAt G.l k) j
theorem zw(F:pG G.l){x:ab}(hx:x∈G.l)(j:Nat):rdI G x.id j=vw G.P.C x j:=by grind [b6,rdI,vw,recAt]
structure aaR(G G2:ch):Prop where
 mL:bj G.P.s<=bj G2.P.s+3
 ms:G2.ms=G.ms
 sl:ck G2.l<=ck G.l+48
 sh:G2.next<=281474976710655/\(κ G2.l)<=32/\∀x∈G2.l,cz x=true
 len:κ G2.P.C=κ G.P.C
def Y4(G:ch):Prop:=bj G.P.s<3\/∃G2,aaR G G2/\ev G2=false
theorem Kb{s s':Nat->Nat}{L:List Nat}(h:∀j,j ∉ L->s' j=s j):bj s<=bj s'+κ L:=by
 have hn:((Aal 1024).filter (λk=>decide (s k=1))).Nodup:=List.nodup_range.filter _;have:=eU _ ((Aal 1024).filter (λk=>decide (s' k=1))++L) hn (λi hi=>by
  obtain⟨h1,h2⟩:=List.mem_filter.mp hi;by_cases hL:i∈L
  ·exact oJ _ hL
  ·exact nK _ (List.mem_filter.mpr ⟨h1,aa⟩))
 rw[Aae]at this;exact this
structure kJ(G:ch)(k i:Nat)(s:cQ)(G2:ch):Prop where
 inv:ev G2=true->bq G2
 next:G2.next=G.next
 strip:G2.l.map cH=G.l.map cH
 st:G2.P.st=G.P.st
 m:G2.P.m<=G.P.m+3
 u:G2.u=G.u
 len:κ G2.P.C=κ G.P.C
 Sb:∀j,G.P.s j≠1->G2.P.C[j]?=G.P.C[j]?
 rd:∀x∈G2.l,∀j,j<64->vw G2.P.C x j=if x.id=(recAt G.l k).id/\j=i then some s else rdI G x.id j
 us:aaR G G2
theorem bq.YK(I:bq G)(hk:k<κ G.l)(hs:(recAt G.l k).aT=false)(hi:i<64){s:cQ}{t:au}{old:List au}{P3:bz}(K:Y6 G.P (recAt G.l k).root i s 0 t old P3):∃l2 gone,qb G.next (mn G.l (recAt G.l k).id t) (recAt G.l k).id old=.ok (G.next,l2,gone)/\(κ old)<=3/\(κ gone)<=3/\(κ l2)<=32/\(∀x∈l2,κ x.dead<=73)/\(∀x∈l2,x.wf)/\kJ G k i s {G with P:={P3 with s:=bK P3.s P3.ba gone},l:=l2}:=by
 obtain⟨F,vm⟩:=az I.ik (aL hk);obtain⟨hm,K⟩:=K;rcases K with⟨h,_,_⟩|⟨_,⟨m,b,C,B,ho⟩|⟨hP,ht,ho,hb⟩⟩
 ·omega
 ·obtain⟨o1,o2⟩:=Z8 (P:=G.P) (I.tr _ vm) hi;rw[show j2 _=old from ho.symm]at o1 o2;obtain⟨d,gone,k1,k2,k3,k4,k5,⟨kd,kr⟩,k6⟩:=I.Ws hk hs hi C o1 o2;have mem:=λz=>mem_set (x':={recAt G.l k with root:=t,dead:=d}) (y:=z) F.gb hk;refine⟨_,gone,k1,(by rw[ho];exact ue _),k2,KU,λx hx=>?_,λx hx=>?_,⟨k6,rfl,RD hk rfl,C.st,hm,rfl,C.len,C.Sb,λx hx j hj=>?_,⟨?_,rfl,?_,⟨F.nx,KU,λx hx=>?_⟩,C.len⟩⟩⟩
  ·rcases(mem x).mp hx with rfl|⟨h,_⟩
   ·exact k4
   ·exact I.lC h
  ·rcases(mem x).mp hx with rfl|⟨h,_⟩
   ·obtain⟨w1,w2,w3,w4,w5,w6,w7⟩:=I.wf _ vm;exact⟨w1,w2,w3,w4,w5,C.u.p5.1,k5⟩
   ·exact I.wf x h
  ·show vw P3.C x j=_;rcases(mem x).mp hx with rfl|⟨h,hne⟩
   ·show fM P3.C (e5 P3.C t (9+j))=_;rw[C.read hi hj,zw F.gb vm];by_cases ad:j=i
    ·simp_all
    ·rw[aO ad,aO (λh=>ad h.2)];rfl
   ·rw[aO (λh2=>hne (F.gb.inj h vm h2.1)),zw F.gb h];exact I.Zl C.Sb h hj
  ·refine bO (Kb (L:=[t.loc.toNat,m.loc.toNat,b.loc.toNat]) (λj hj=>C.sl j (λq hq h e=>?_))) (Nat.add_le_add_right (mQ gone) 3);grind
  ·grind [Hc,recAt,kC,ck]
  ·rcases(mem x).mp hx with rfl|⟨h,_⟩
   ·exact kr
   ·exact F.rt x h
 ·subst hP;subst ho;subst ht;have e1:mn G.l (recAt G.l k).id (recAt G.l k).root=G.l:=by
   rw[DW F.gb hk];have:({recAt G.l k with root:=(recAt G.l k).root}:ab)=G.l[k]:=by rw[<-b0 hk]
   simp_all
  obtain⟨k',aa,p1,p2⟩:=b6 F.gb vm;have kk:k'=k:=F.gb.lq aa hk p2;subst kk;have e2:G.l.set k' (z6 (recAt G.l k') (recAt G.l k').dead)=G.l:=by
   have:z6 (recAt G.l k') (recAt G.l k').dead=G.l[k']:=by rw[<-b0 aa];rfl
   simp_all
  refine⟨G.l,[],?_,bG _,bG _,F.len,λx hx=>I.lC hx,I.wf,⟨λ_=>I,rfl,rfl,rfl,hm,rfl,rfl,λ_ _=>rfl,λx hx j hj=>?_,⟨Fx _ _,rfl,Fx _ _,⟨F.nx,F.len,F.rt⟩,rfl⟩⟩⟩
  ·rw[e1,ES (d:=(recAt G.l k').dead) (gone:=[]) p1 rfl,e2]
  ·rw[zw F.gb hx];split
   ·rename_i h;have:x=recAt G.l k':=F.gb.inj hx vm h.1;subst this;rw[h.2];exact hb
   ·rfl
section
variable {next nx n ay:Nat} {l l':List ab} {full aa:List aj} {blocks:Int}
theorem lR{i:Nat}(h:dM l full=.ok i):i<κ l:=by
 unfold dM at h;split at h
 ·cases h
 ·split at h
  ·cases h
  ·rename_i i' hi;split at h
   ·cases h;exact(fo hi).1
   ·split at h
    ·cases h
    ·rename_i j hj;cases h;exact(fo hj).1
theorem xm(h:cD next l full blocks=.error n):n≠0:=s4
theorem l0(h:cD next l full blocks=.ok (nx,l')):∃et,hN full=some et/\(1<=blocks/\blocks<=64)/\(κ l)<32/\a1 l full=none/\nx=next+1/\l'=l++[ec next et blocks]:=by grind [cD,et]
theorem D2(h:eG next l full ay=.error n):n≠0:=qt
theorem zT(h:dq next l full aa=.error n):n≠0:=FL
theorem Cm{n:Nat}(h:ee l full=.error n):n≠0:=by grind [tE]
theorem BF{id:Nat}:∀(ms:List Nat)(c:List ab),gO l id c ms=.error n->n≠0
 | [],c,h=>gn
 | m::r,c,h=>by
  unfold gO at h;split at h
  ·cases h
  ·split at h
   ·cases h;omega
   ·exact BF r _ h
theorem vr(h:cp next l full=.error n):n≠0:=by grind [cp,Cm,BF]
theorem t'(h:dQ next l full=.error n):n≠0:=by grind [dQ,Cm]
theorem CD(h:cE next l full=.error n):n≠0:=by unfold cE at h;grind
theorem w'{x:ab}(h:dQ next l full=.ok (nx,l',x)):∃i,ee l full=.ok i/\¬0<κ (dO l (recAt l i).id).1/\nx=next/\l'=l.eraseIdx i/\x=recAt l i:=by grind [dQ]
end
def jL(b:List aj):cQ:=if h:κ b<=128 then eV b h else e9
def W2(G G2:ch):Prop:=κ G2.P.C=κ G.P.C/\(∀j,G.P.s j≠1->G2.P.C[j]?=G.P.C[j]?)/\G2.P.m<=G.P.m+3/\Y4 G
theorem W2.refl(h:bj G.P.s<3):W2 G G:=⟨rfl,λ_ _=>rfl,Fx _ _,.inl h⟩
def pN(G:ch)(full:List aj)(N:Int)(aa:Bool)(s:cQ)(r:Int)(G2:ch):Prop:=(∃n:Nat,j0 G.l full N=.error n/\n≠0/\r=(n:Int)/\G2=G)\/(∃k,j0 G.l full N=.ok k/\((aa=true/\r=92/\G2=G)\/(aa=false/\r=71/\W2 G G2)\/(aa=false/\r=0/\kJ G k N.toNat s G2/\ev G2=true)))
theorem O7{l:List ab}{full:List aj}(h:j0 l full N=.error n):n≠0:=by grind [j0,fz]
theorem O6{next:Nat}{l:List ab}(F:gg next l){full:List aj}(h:j0 l full N=.ok k):k<κ l/\(recAt l k).aT=false/\0<=N/\N<(recAt l k).blocks/\dM l full=.ok k:=by
 unfold j0 at h;split at h
 ·cases h
 ·rename_i vn hv;unfold fz at h;split at h
  ·cases h
  ·rename_i k' hk;split at h
   ·cases h
   ·rename_i hb;cases h;refine⟨lR hk,?_,ae,ae,hk⟩;have ax:=hv;unfold hN at ax;split at ax
    ·rename_i v s hs;split at ax
     ·rename_i ad;unfold dM at hk;rw[hs]at hk;simp only at hk;split at hk
      ·cases hk
      ·rename_i i hi;rw[bp ad]at hk;cases hk;have h2:=fo hi;cases hsn:(recAt l k).aT with
       | false=>rfl
       | true=>have h3:=h2.2;unfold b9 at h3;rw[hsn,bp rfl]at h3;have h4:(recAt l k).owner=0:=ct jv.owner h3;have:=((bm _).mp (F.rt _ (aL h2.1))).2.1;omega
     ·cases ax
    ·cases ax
theorem Yi(w:af)(gb:Nat)(H:aS)(G:ch)(A:GA w gb H G)(I:bq G)(hn:G.next<=100000000)(aF:G.P.st<=100000000)(hm:G.P.m<=700000)(c1:Nat)(c2:Nat)(c3:Nat)(full:List aj)(N:Int)(hf:κ full<=9223372036854775807)(ba:Option Addr)(bc:Nat)(b:List aj)(hb:aY w (.slice ba (κ b) bc) b)(aX:∀k,(Acg ba (κ b) bc).ownBlock=some k->¬PF H k)(h1:w.cell? ⟨c1,0,none⟩=some (.string (strOf full)))(n1:¬PF H c1)(l1:c1<w.heap.size)(h2:w.cell? ⟨c2,0,none⟩=some (.int .i64 N))(n2:¬PF H c2)(l2:c2<w.heap.size)(h3:w.cell? ⟨c3,0,none⟩=some (.slice ba (κ b) bc))(n3:¬PF H c3)(l3:c3<w.heap.size):Aaf Aag 45 #[k6 gb,.pointer (some ⟨c1,0,none⟩),.pointer (some ⟨c2,0,none⟩),.pointer (some ⟨c3,0,none⟩)] w (zE gb H (pN G full N (decide (128<κ b)) (jL b)) w):=by
 obtain⟨w0,rfl⟩:=bE w;have s:=Fr.tp A.pa;go_in;go_wp2_with(refine fw s ?_;intro _ w s);refine(I1 w gb H G (A.tp H.h.vp s.pa s.t) I.hl I.hr full hf N).mono ?_;rintro e w(⟨n,hv,rfl,u⟩|⟨k,vd,hv,hkl,rfl,od,u⟩)
 ·obtain⟨s,NZ⟩:=az (s.up u) (O7 hv);have nz:((n:Int) != 0)=true:=by simp;omega
  go_wp2_with(refine fw s ?_;intro _ w s);refine br ?_;exact⟨(n:Int),G,H.h.vp,rfl,.inl ⟨n,hv,NZ,rfl,rfl⟩,A.tp H.h.vp s.pa s.t,s.t.mono (λ_ h=>.inl h),λ_ h=>.inl h⟩
 ·have VA:=O6 I.ik hv;obtain⟨da,dc,rfl⟩:=(ak.row od pw).slice;have s:=s.new (.q od u s.t.size);by_cases ab:128<κ b
  ·have b9:((κ b:Int)>128)=True:=dU ae;go_wp2_with(refine fw s ?_;intro _ w s);refine br ?_;exact⟨92,G,H.h.vp,rfl,.inr ⟨k,hv,.inl ⟨fm ab,rfl,rfl⟩⟩,A.tp H.h.vp s.pa s.t,s.t.mono (λ_ h=>.inl h),λ_ h=>.inl h⟩
  have b9:((κ b:Int)>128)=False:=cG ae;have ao:κ b<=128:=ae
  have ad:jL b=eV b ao:=dif_pos ao;go_wp2_with(refine fw s ?_;intro _ w s);have TI:ss G.P (recAt G.l k).root:=I.aar (aL VA.1);have aa:=an (show N.toNat<64/\N=(N.toNat:Int)by obtain⟨h1,h2⟩:=az VA.2.2 (((bm _).mp (I.ik.rt _ (aL VA.1))).2.2.2.1);omega)
  have TS:=an (λW (u:Touch (PF H) w0 W) (p:PA W H G.P)=>show Aaf Aag 47 #[.pointer (some ⟨H.pb,0,none⟩),.agg (a6 (recAt G.l k).root),.int .i64 N,.slice ba (κ b) bc] W (Y5 G.P H (recAt G.l k).root N.toNat (jL b) W)from by have:=Wq W H G.P p (recAt G.l k).root N.toNat aa.out.1 _ _ TI.ok.F (TI.ok.S (by have:=aa.out.1;omega)) (.slice ba (κ b) bc) b (λw' T=>hb.ax (u.trans T (λ_ h _=>h)) aX) ao ae I.GK.free I.GK.st.1 I.GK.st.2;rw[<-ad]at this;rw[show(N.toNat:Int)=N from aa.out.2.symm]at this;exact this.mono (λe w' h=>h.made TI I.GK aa.out.1))
  refine kpl s (λw s=>?_);repeat refine kt ?_
  refine kj 3 ?_;refine kj 4 ?_;refine kj 5 ?_;refine kj 6 ?_;refine kc (λw _ s=>j8 w gb H G (A.tp H.h.vp s.pa s.t)) ?_;rintro w _ s _ _⟨rfl,rfl⟩;refine nj ?_;repeat(first|refine kx ?_|refine kt ?_)
  refine ZT (λw _ s=>TS.out w s.t s.pa) ?_;rintro w _ s _ w'⟨t,va,vm,vc,old,r,P3,vp,rfl,tr,ov,pa,T,O⟩;refine⟨_,_,rfl,.pt s pa T O ov,YY,?_⟩;repeat refine kt ?_
  refine kn (λ_ w u s=>?_);have aq:=an (kM t);refine ks (λw s=>?_);repeat refine kt ?_
  refine kd (λw u s=>?_);obtain⟨bf,tr⟩:=tr;have OV:=(s.p (pl _ H vp P3) gB).2;rcases tr with⟨rfl,rfl,al⟩|⟨rfl,tr⟩
  ·go_wp2_with(refine fw s ?_;intro _ w s);refine(Q' w).mono ?_;rintro e _⟨rfl,rfl⟩;go_wp2_with(refine fw s ?_;intro _ w s);refine br ?_;exact⟨71,{G with P:=G.P},vp,rfl,.inr ⟨k,hv,.inr (.inl ⟨jb ab,rfl,W2.refl al⟩)⟩,A.tp vp s.pa s.t,s.t.mono (λ_ h=>.inl h),OV⟩
  ·obtain⟨l2,gone,hk,ol,gl,ll,dl,wf,tn⟩:=I.YK VA.1 VA.2.1 aa.out.1 (t:=t) (old:=old) (P3:=P3) (s:=jL b) ⟨bf,.inr ⟨rfl,tr⟩⟩;obtain⟨G9,ai⟩:∃g:ch,g={G with P:={P3 with s:=bK P3.s P3.ba gone},l:=l2}:=⟨_,rfl⟩;rw[<-ai]at tn;replace ai:=an ai;obtain⟨r,ag⟩:∃r:Int,r=ye G9:=⟨_,rfl⟩;have hr:=an ag;clear ag;go_wp2_with(refine fw s ?_;intro _ w s);have TU:Aaf Aag 49 #[k6 gb,.int .u64 ((recAt G.l k).id:Int),.agg (a6 t),.slice va vm vc] w λe w'=>e=.returned (.int .i64 r)/\GA w' gb (H.at vp) G9/\Touch (λk=>PF (H.at vp) k\/k=gb) w w':=by rw[hr.out,ai.out];exact Ra w gb (H.at vp) {G with P:=P3} (A.tp vp s.pa s.t) I.hl I.hr (λx hx=>qD ((bm x).mp (I.ik.rt x hx)).2.2.2.2.2.2.2.1) (recAt G.l k).id t _ old (ak.row s.I0 pw) ae l2 gone hk ae ae (λx hx=>by have:=dl x hx;omega) wf A7 (by have:=I.sI;show κ G.ms<=_;omega)
   refine TU.mono ?_;rintro e w7⟨rfl,a7,t7⟩;have s7:=Fr.start w7;go_wp2_with fail;refine p3 s7 ?_;refine⟨r,G9,vp,rfl,.inr ⟨k,hv,?_⟩,a7,(s.t.mono (λ_ h=>.inl h)).trans t7 (λn hn hlt=>?_),OV⟩
   ·replace hr:=hr.out;unfold ye at hr;split at hr
    ·rename_i hf;exact .inr (.inr ⟨jb ab,hr,tn,hf⟩)
    ·rename_i hf;exact .inr (.inl ⟨jb ab,hr,tn.len,tn.Sb,tn.m,.inr ⟨_,tn.us,by simpa using hf⟩⟩)
   ·rcases hn with hn|hn
    ·rcases VU hn with h|h
     ·exact .inl h
     ·rcases OV n h with h|h
      ·exact Gp
      ·omega
    ·exact .inr hn
section
variable {X:Except Nat (Nat × List ab × ab)} {Y:Except Nat (Nat × List ab × List au)} {W W' w w':af} {e:Ab3} {base base' nx:Nat} {v vg:ah} {y:ab}
end
def KE(G:ch)(x:ab):List au:=x' x.root (ca G.P.C x.root) (λk=>ca G.P.C (bB (ca G.P.C x.root) k)) (bY G.l x.id)
def Eo(G:ch)(X:Except Nat (Nat × List ab × ab))(r:Int)(G2:ch):Prop:=(∃n:Nat,X=.error n/\r=(n:Int)/\n≠0/\G2=G)\/(∃nx l' x,X=.ok (nx,l',x)/\r=0/\G2={G with P:={G.P with s:=bK G.P.s G.P.ba (KE G x)},next:=nx,l:=l'})
structure Mz(G:ch)(X:Except Nat (Nat × List ab × ab)):Prop where
 nz:∀n,X=.error n->n≠0
 ok:∀nx l' x,X=.ok (nx,l',x)->κ l'<=1000/\(∀x∈l',κ x.dead*24<=140737488355328)/\x∈G.l
def Sj(G:ch)(Y:Except Nat (Nat × List ab × List au))(r:Int)(G2:ch):Prop:=(∃n:Nat,Y=.error n/\r=(n:Int)/\n≠0/\G2=G)\/(∃nx l' g,Y=.ok (nx,l',g)/\r=0/\G2={G with P:={G.P with s:=bK G.P.s G.P.ba g},next:=nx,l:=l'})
structure Si(Y:Except Nat (Nat × List ab × List au)):Prop where
 nz:∀n,Y=.error n->n≠0/\n≠131
 ok:∀nx l' g,Y=.ok (nx,l',g)->κ l'<=1000/\(∀x∈l',κ x.dead*24<=140737488355328)/\(κ g)<=100000
def e'(G:ch)(full:List aj)(r:Int)(G2:ch):Prop:=match cY full with
 | none=>r=141/\G2=G
 | some (_,s)=>if s=[] then Eo G (dQ G.next G.l full) r G2 else Sj G (cE G.next G.l full) r G2
theorem Kj{full:List aj}(h:cY full=none):e' G full 141 G:=by grind [e']
theorem z8{G G2:ch}{full v s:List aj}(h:cY full=some (v,s))(h0:s=[])(k:Eo G (dQ G.next G.l full) r G2):e' G full r G2:=by grind [e']
theorem z'{G G2:ch}{full v s:List aj}(h:cY full=some (v,s))(h0:¬s=[])(k:Sj G (cE G.next G.l full) r G2):e' G full r G2:=by grind [e']
theorem Q2(w:af)(gb:Nat)(H:aS)(G:ch)(A:GA w gb H G)(I:bq G)(hn:G.next<=100000000)(c1:Nat)(full:List aj)(hf:κ full<=9223372036854775807)(h1:w.cell? ⟨c1,0,none⟩=some (.string (strOf full)))(X:Except Nat (Nat × List ab × ab))(hX:X=dQ G.next G.l full)(K:Mz G X)(Y:Except Nat (Nat × List ab × List au))(hY:Y=cE G.next G.l full)(KY:Si Y):Aaf Aag 133 #[k6 gb,.pointer (some ⟨c1,0,none⟩)] w (zE gb H (e' G full) w):=by
 subst hX;subst hY;have s:=Fr.start w;go_in;go_wp2_with(refine fw s ?_;intro _ w s);refine(jc w full hf).mono ?_;refine ez ?_;intro w u s;cases hs:cY full with
 | none=>simp only[gx];go_wp2_with fail;refine br ?_;exact⟨141,G,H.h.vp,rfl,Kj hs,A.up s.pure,Touch.bV s.pure,λ_ h=>.inl h⟩
 | some vs=>
  obtain⟨vn,sn⟩:=vs;simp only[gx];have aa:=fX sn;by_cases h0:sn=[]
  ·rw[show decide (sn=[])=true by simp[h0]]at aa;replace h0:=an h0;go_wp2_with(refine fw s ?_;intro _ w s);refine kb s (λw s=>?_);repeat refine kt ?_
   refine kj 3 ?_;refine CI (λw _ s=>fT w gb H G (A.up s.pure) I.hl I.hr) ?_;rintro w _ s _ w'⟨v,rfl,o1,u⟩;obtain⟨ys,e0,z⟩:=Rz.s o1 u s.t.size;have e:=an e0;clear e0;refine⟨_,_,rfl,z,?_⟩;repeat(first|refine kx ?_|refine kt ?_)
   refine CI (λw _ s=>xq w G.next _ G.l wE I.hl I.hr full hf) ?_;rintro w _ s _ w'(⟨n,nx,va,vm,vc,hx,rfl,u⟩|⟨nx,l',x,v',vd,hx,rfl,os,od,u⟩)
   ·refine Gr ?_;repeat refine kt ?_
    refine kn (λ_ w u s=>?_);refine kn (λ_ w u s=>?_);refine ks (λw s=>?_);refine ks (λw s=>?_);repeat refine kt ?_
    refine kd (λw u s=>?_);have nz:((n:Int) != 0)=true:=by have:=K.nz n hx;simp;omega
    go_wp2_with fail;refine br ?_;exact⟨(n:Int),G,H.h.vp,rfl,z8 hs h0.out (.inl ⟨n,hx,rfl,K.nz n hx,rfl⟩),A.up s.pure,Touch.bV s.pure,λ_ h=>.inl h⟩
   ·obtain⟨a2,c2,rfl⟩:=os.cA.slice;obtain⟨da,dc,rfl⟩:=(ak.row od pw).slice;obtain⟨zs,e2,z⟩:=Rz.s os u s.t.size;refine⟨_,_,rfl,z,?_⟩;repeat refine kt ?_
    refine kn (λ_ w u s=>?_);refine kn (λ_ w u s=>?_);refine ks (λw s=>?_);refine ks (λw s=>?_);repeat refine kt ?_
    refine kd (λw u s=>?_);obtain⟨k1,k2,k3⟩:=K.ok nx l' x hx;have TT:=I.tr x k3;go_wp2_with(refine fw s ?_;intro _ w s);have g6:=s.cA (ys:=zs);rw[e2]at g6;refine(LF w gb H G (A.up s.pure) I.hl I.hr nx _ _ l' g6 k1 k2 x da dc _ (λk=>ca G.P.C (bB (ca G.P.C x.root) k)) TT.F (λk hk=>TT.S hk) (KE G x) rfl).mono ?_;rintro e w7⟨rfl,a7,t7⟩;have s7:=Fr.start w7;go_wp2_with fail;refine p3 s7 ?_;exact⟨0,_,H.h.vp,rfl,z8 hs h0.out (.inr ⟨nx,l',x,hx,rfl,rfl⟩),a7,(Touch.bV s.pure).trans t7 (λ_ h _=>h),λ_ h=>.inl h⟩
  ·rw[show decide (sn=[])=false by simp[h0]]at aa;go_wp2_with(refine fw s ?_;intro _ w s);refine kb s (λw s=>?_);repeat refine kt ?_
   refine kj 3 ?_;refine CI (λw _ s=>fT w gb H G (A.up s.pure) I.hl I.hr) ?_;rintro w _ s _ w'⟨v,rfl,o1,u⟩;obtain⟨ys,e0,z⟩:=Rz.s o1 u s.t.size;have e:=an e0;clear e0;refine⟨_,_,rfl,z,?_⟩;repeat(first|refine kx ?_|refine kt ?_)
   refine CI (λw _ s=>tY w G.next _ G.l wE I.hl I.hr full hf) ?_;rintro w _ s _ w'(⟨n,nx,va,vm,vc,hx,rfl,u⟩|⟨nx,l',g,v',vg,hx,rfl,ox,od,u⟩)
   ·refine Gr ?_;repeat refine kt ?_
    refine kn (λ_ w u s=>?_);refine ks (λw s=>?_);repeat refine kt ?_
    refine kd (λw u s=>?_);have NZ:=KY.nz n hx;have nd:((n:Int)==131)=false:=by rw[beq_eq_false_iff_ne];omega
    have nz:((n:Int) != 0)=true:=ao
    go_wp2_with fail;refine br ?_;exact⟨(n:Int),G,H.h.vp,rfl,z' hs h0 (.inl ⟨n,hx,rfl,NZ.1,rfl⟩),A.up s.pure,Touch.bV s.pure,λ_ h=>.inl h⟩
   ·obtain⟨a2,c2,rfl⟩:=ox.cA.slice;obtain⟨da,dc,rfl⟩:=(ak.row od pw).slice;obtain⟨zs,e2,z⟩:=Rz.s ox u s.t.size;refine⟨_,_,rfl,z.sj od s.t.size,?_⟩;repeat refine kt ?_
    refine kn (λ_ w u s=>?_);refine ks (λw s=>?_);repeat refine kt ?_
    refine kd (λw u s=>?_);obtain⟨k1,k2,k3⟩:=KY.ok nx l' g hx;go_wp2_with(refine fw s ?_;intro _ w s);have A6:=A.up s.pure;obtain⟨g6,og⟩:=s.p (jn (os _ (.slice a2 (κ l') c2) zs) (op _ (.slice da (κ g) dc) g)) gB;refine(tl w gb H G A6 _ g (ak.row og pw) (eC A6.pa og) k3).mono ?_;rintro e w7⟨rfl,a7,t7⟩;obtain⟨b7,b8⟩:=az (s.e6 (t:=73) (C:=aQ nx _) gB) (s.e6 (t:=100) gB);replace b7:=(b7.ax t7 (A6.pa.b' b7 av)).range;replace b8:=(b8.ax t7 (A6.pa.b' b8 av)).cell 0;obtain⟨T,g7,s⟩:=cX ((Touch.bV (F:=λk=>PF H k\/k=gb) s.pure).trans (t7.mono (λ_ h=>.inl h)) (λ_ h _=>h)) (wW A6.pa (show bt w _ _ l' from⟨zs,e2,g6⟩) t7) (Fr.start w7);go_wp2_with(refine fw s ?_;intro _ w s);refine(nX w gb H _ (a7.up s.pure) nx _ l' (g7.up s.pure).cA k1 k2).mono ?_;rintro e w8⟨rfl,a8,t8⟩;have s8:=Fr.start w8;go_wp2_with fail;refine p3 s8 ?_;exact⟨0,_,H.h.vp,rfl,z' hs h0 (.inr ⟨nx,l',g,hx,rfl,rfl⟩),a8,(T.iD s.pure).trans (t8.mono (λ_ h=>.inr h)) (λ_ h _=>h),λ_ h=>.inl h⟩
theorem pJ.pre{R:Int->ch->Prop}{w0 w w':af}(u:Up w0 w)(h:pJ p gb H G R w e w'):pJ p gb H G R w0 e w':=by obtain⟨r,G2,vp,gb',H',he,hR,hh,hp,T,O⟩:=h;exact⟨r,G2,vp,gb',H',he,hR,hh,hp,(Touch.bV (F:=λk=>cK H.h k\/k=p) u).trans T (λ_ h _=>h),O.mono u.size⟩
structure py(G:ch):Prop where
 nx:G.next<=10000
 st:G.P.st<=10000
 m:G.P.m<=70000
 tx:G.u.du<=10000
section
variable {G:ch}
theorem QN{next:Nat}{et:List aj}{b:Int}(hn:next<=100000000)(hb:1<=b/\b<=64):(ec next et b).wf:=by refine⟨by show next<_;omega,by show next<_;omega,by show 0<_;omega,by show 0<_;omega,by show _<=b/\b<=_;omega,lP.1,λp hp=>rl⟩
theorem bq.HP(I:bq G)(B:py G)(full:List aj)(N:Int):ot (cD G.next G.l full N):=by
 refine⟨λn h=>xm h,λnx l' h=>?_⟩;obtain⟨et,hv,hb,hl,hr,rfl,rfl⟩:=l0 h;have:=B.nx;refine⟨ae,ao,λx hx=>?_,λx hx=>?_⟩
 ·rcases h7.mp hx with h|rfl
  ·exact I.wf x h
  ·grind [QN]
 ·rcases h7.mp hx with h|rfl
  ·exact I.hr x h
  ·show 0*24<=_;omega
theorem qI{next nx ay:Nat}{l l':List ab}{full:List aj}(h:eG next l full ay=.ok (nx,l')):∃et sn i,dR full=some (et,sn)/\a1 l et=some i/\(κ l)<32/\a1 l full=none/\(1<=ay/\ay<=281474976710655/\bY l (recAt l i).id<ay)/\nx=next+1/\l'=(l++[jS next (recAt l i) sn ay]).set i (nO next (recAt l i)):=by grind [eG,et]
theorem nW{next nx:Nat}{l l':List ab}{mZ to:List aj}(h:dq next l mZ to=.ok (nx,l')):∃vs et i,dR mZ=some vs/\hN to=some et/\a1 l mZ=some i/\(κ l)<32/\a1 l to=none/\nx=next+1/\l'=l++[fi next et (recAt l i)]:=FL
theorem xL{next nx:Nat}{l l':List ab}{full:List aj}(h:cp next l full=.ok (nx,l')):∃i o,ee l full=.ok i/\aK l (dO l (recAt l i).id).2=some o/\gO l (recAt l i).id l (ma l (recAt l o))=.ok l'/\nx=next:=uN
theorem bq.V9(I:bq G)(B:py G)(full:List aj)(ay:Nat):ot (eG G.next G.l full ay):=by
 refine⟨λn h=>D2 h,λnx l' h=>?_⟩;obtain⟨et,sn,i,hs,hi,hl,hr,aF,rfl,rfl⟩:=qI h;have:=B.nx;have hm:=aL (h6 hi);obtain⟨w1,w2,w3,w4,w5,w6,w7⟩:=I.wf _ hm;have M:∀x∈(G.l++[jS G.next (recAt G.l i) sn ay]).set i (nO G.next (recAt G.l i)),x∈G.l\/x=jS G.next (recAt G.l i) sn ay\/x=nO G.next (recAt G.l i):=λx hx=>aP
 refine⟨ae,ao,λx hx=>?_,λx hx=>?_⟩
 ·rcases M x hx with h|rfl|rfl
  ·exact I.wf x h
  ·exact⟨A7,w1,w3,by show ay<_;omega,w5,w6,w7⟩
  ·exact⟨w1,w2,A7,w4,w5,w6,λp hp=>rl⟩
 ·rcases M x hx with h|rfl|rfl
  ·exact I.hr x h
  ·exact I.hr (recAt G.l i) hm
  ·show 0*24<=_;omega
theorem bq.MJ(I:bq G)(B:py G)(mZ to:List aj):ot (dq G.next G.l mZ to):=by
 refine⟨λn h=>zT h,λnx l' h=>?_⟩;obtain⟨vs,et,i,hs,hv,hi,hl,hr,rfl,rfl⟩:=nW h;have:=B.nx;obtain⟨w1,w2,w3,w4,w5,w6,w7⟩:=I.wf _ (aL (h6 hi));refine⟨ae,ao,λx hx=>?_,λx hx=>?_⟩
 ·rcases h7.mp hx with h|rfl
  ·exact I.wf x h
  ·exact⟨A7,A7,w1,by show 0<_;omega,w5,w6,λp hp=>rl⟩
 ·rcases h7.mp hx with h|rfl
  ·exact I.hr x h
  ·show 0*24<=_;omega
theorem BD{l:List ab}{id:Nat}{Q:ab->Prop}(hQ:∀x,Q x->Q (DM x id)):∀(ms:List Nat)(c c':List ab),κ c=κ l->(∀x∈c,Q x)->gO l id c ms=.ok c'->κ c'=κ l/\∀x∈c',Q x
 | [],c,c',h0,h,e=>by cases e;exact⟨h0,h⟩
 | m::r,c,c',h0,h,e=>by
  unfold gO at e;split at e
  ·cases e;exact⟨h0,h⟩
  ·rename_i j hj;split at e
   ·cases e
   ·refine BD hQ r _ c' (by rw[Aax];exact h0) (λx hx=>?_) e;have aM:j<κ c:=by rw[h0];exact(cP hj).1
    rcases uD hx with h1|h1
    ·exact h x h1
    ·rw[h1];exact hQ _ (h _ (aL aM))
theorem bq.Q8(I:bq G)(B:py G)(full:List aj):ot (cp G.next G.l full):=by
 refine⟨λn h=>vr h,λnx l' h=>?_⟩;obtain⟨i,o,hi,ho,hp,rfl⟩:=xL h;have hid:(recAt G.l i).id<18446744073709551616:=by exact(I.wf _ (aL (oh hi))).1
 obtain⟨k1,k2⟩:=BD (Q:=λx=>x.wf/\(κ x.dead)*24<=140737488355328) (λx hx=>⟨⟨hx.1.1,hid,hx.1.2.2⟩,hx.2⟩) _ _ _ rfl (λx hx=>⟨I.wf x hx,I.hr x hx⟩) hp;have:=B.nx;exact⟨ae,by rw[k1];exact I.hl,λx hx=>(k2 x hx).1,λx hx=>(k2 x hx).2⟩
theorem bq.PZ(I:bq G)(full:List aj):Mz G (dQ G.next G.l full):=by refine⟨λn h=>t' h,λnx l' x h=>?_⟩;obtain⟨i,hi,hw,rfl,rfl,rfl⟩:=w' h;exact⟨by rw[Fw];have:=I.hl;split<;>omega,λx hx=>I.hr x (Fv hx),aL (oh hi)⟩
theorem gg.G4{next:Nat}{l:List ab}(F:gg next l){full:List aj}{vs:List aj × List aj}(h:dR full=some vs){i:Nat}(hi:a1 l full=some i):i<κ l/\(recAt l i).aT=true:=by
 refine⟨(h6 hi),?_⟩;unfold a1 at hi;split at hi
 ·cases hi
 ·rename_i k hk;have hkl:=lR hk;have ik:i=k:=by obtain⟨j,hj,h1,h2⟩:=b6 F.gb (aL hkl);rw[h1]at hi;cases hi;exact F.gb.lq hj hkl h2
  subst ik;unfold dR at h;split at h
  ·rename_i v s hs;split at h
   ·cases h
   ·rename_i ad;unfold dM at hk;rw[hs]at hk;simp only at hk;split at hk
    ·cases hk
    ·rename_i a ha;rw[aO ad]at hk;split at hk
     ·cases hk
     ·rename_i b hb;cases hk;obtain⟨h2,h3⟩:=az ((fo hb).2) (F.KH _ (aL (fo ha).1));cases hsn:(recAt l i).aT with
      | true=>rfl
      | false=>grind [b9,recAt]
  ·cases h
theorem gg.Z6{next:Nat}{l:List ab}(F:gg next l){i:Nat}(hi:i<κ l)(hs:(recAt l i).aT=true):∃j,j<κ l/\aK l (iO l (recAt l i).id)=some j/\(recAt l j).prev=(recAt l i).id/\(recAt l j).owner=(recAt l i).owner:=by
 have hm:=aL hi;obtain⟨i',aD,h1,h2⟩:=b6 F.gb hm;obtain⟨n,hn,e1,e2,_⟩:=F.Zh _ hm hs;cases hf:(fY l (recAt l i).id).find? (λj=>decide ((recAt l j).owner=(recAt l i').owner))with
 | none=>obtain⟨j,hj,e3⟩:=kz hn;have:=List.find?_eq_none.mp hf j (vb.mpr ⟨hj,aa⟩);simp_all
 | some j=>
  have hj:=vb.mp (List.mem_of_find?_eq_some hf);have ho:(recAt l j).owner=(recAt l i').owner:=aP
  rw[h2]at ho;rw[OL h1 aa hf];obtain⟨j',aj,h3,h4⟩:=b6 F.gb (aL hj.1);grind
theorem bq.cE(I:bq G)(full:List aj):(∃n,cE G.next G.l full=.error n/\n≠0/\n≠131)\/∃i j all,i<κ G.l/\(recAt G.l i).aT=true/\a1 G.l full=some i/\j<κ G.l/\(recAt G.l j).prev=(recAt G.l i).id/\(recAt G.l j).owner=(recAt G.l i).owner/\(∀z∈G.l,z.prev=(recAt G.l i).id->z=recAt G.l j)/\ei (lp (bY G.l (recAt G.l i).id) (recAt G.l j).dead) (recAt G.l i).dead=some all/\
  _root_.Go.Proofs.YtkpjfnbbkohciaaGreat.cE G.next G.l full=.ok (G.next,(G.l.set j (g' (recAt G.l j) all (recAt G.l i).prev)).eraseIdx i,hK (bY G.l (recAt G.l i).id) (recAt G.l j).dead):=by
 have F:=I.ik;cases h0:dR full with
 | none=>exact .inl ⟨141,mT h0,ae,ae⟩
 | some vs=>
  cases h1:a1 G.l full with
  | none=>exact .inl ⟨172,mU h0 h1,ae,ae⟩
  | some i=>
   obtain⟨hi,hs⟩:=F.G4 h0 h1;by_cases h2:0<κ (eK G.l (recAt G.l i).id)
   ·exact .inl ⟨173,mV h0 h1 h2,ae,ae⟩
   ·obtain⟨j,hj,h3,e1,e2⟩:=F.Z6 hi hs;have only:∀z∈G.l,z.prev=(recAt G.l i).id->z=recAt G.l j:=λz hz ez=>by
     by_cases ho:z.owner=(recAt G.l i).owner
     ·obtain⟨n,hn,_,_,h6⟩:=F.Zh _ (aL hi) hs;grind [aL]
     ·exfalso;apply h2;obtain⟨i',aD,p1,p2⟩:=b6 F.gb (aL hi);rw[Dc p1 aa,p2];obtain⟨k,hk,ek⟩:=kz hz;unfold ep;rw[Aac];refine List.length_pos_of_mem (a:=k) ?_;rw[wy];exact⟨vb.mpr ⟨hk,aa⟩,aa⟩
    obtain⟨all,hm,ha,_⟩:=I.l1 hi hs hj e1 e2 only;grind [mW]
theorem bq.Kk(I:bq G)(full:List aj):Si (_root_.Go.Proofs.YtkpjfnbbkohciaaGreat.cE G.next G.l full):=by
 rcases I.cE full with⟨n,h,h0,h1⟩|⟨i,j,all,hi,hs,hr,hj,e1,e2,only,hm,h⟩
 ·rw[h];exact⟨λn' e=>aa,λ_ _ _ e=>aa⟩
 ·rw[h];refine⟨λn e=>aa,λnx l' g e=>?_⟩;cases e;obtain⟨ab,aB,ad,P⟩:=I.l1 hi hs hj e1 e2 only;rw[hm]at aB;cases aB;refine⟨P.hl,P.hr,?_⟩;have h1:κ (hK (bY G.l (recAt G.l i).id) (recAt G.l j).dead)<=κ (recAt G.l j).dead:=qh _ _;have h2:=I.lC (aL hj);omega
end
theorem xI(w:af)(p gb:Nat)(H:aS)(G:ch)(A:bU w p gb H G)(I:bq G)(B:py G)(full:List aj)(hf:κ full<=9223372036854775807)(N:Int):Aaf Aag 17 #[pz p,.string (strOf full),i6 N] w (pJ p gb H G (fB G (cD G.next G.l full N) id true) w):=by
 obtain⟨u0,u1⟩:=az (ai w (.cells #[.string (strOf full)] 9)) (ai (w.alloc (.cells #[.string (strOf full)] 9)) (.cells #[i6 N] 3));obtain⟨k0,k1,uu⟩:=cX (u1.cell ((aI.new w 9 _).cell 0)) ((aI.new (w.alloc (.cells #[.string (strOf full)] 9)) 3 #[i6 N]).cell 0) ((u0).trans u1);obtain⟨w2,hw2⟩:=bE (((w.alloc (.cells #[.string (strOf full)] 9)).alloc (.cells #[i6 N] 3)));simp only[aN]at k1;rw[<-hw2]at uu k0 k1;have HW2:=an hw2;have CL:=an (lS w2 p gb H G (A.up uu) I.hl I.hr lj 40 #[pz w.heap.size,pz ((w.heap.size+1))] (fB G (cD G.next G.l full N) id true) (λ_ _=>aA) (λW ab ad aa u h1 h2 h3 a=>by
  exact VT W _ _ G a I.hl I.hr lj sW qo _ _ _ N hf (u.cell k0) (u.cell k1) _ rfl (I.HP B full N)
  ))
 clear hw2 k0 k1;go_in;exact wJ
theorem Q9(w:af)(p gb:Nat)(H:aS)(G:ch)(A:bU w p gb H G)(I:bq G)(B:py G)(full:List aj)(hf:κ full<=9223372036854775807):Calls prog 66 #[pz p,.string (strOf full)] w (pJ p gb H G (fB G (eG G.next G.l full G.P.st) (λg:ch=>{g with P:={g.P with st:=g.P.st+1}}) true) w):=by
 refine K7 ?_;intro u0 w2 hw2 uu k0 HW2;have CL:=an (lS w2 p gb H G (A.up uu) I.hl I.hr lj 126 #[pz w.heap.size] (fB G (eG G.next G.l full G.P.st) (λg:ch=>{g with P:={g.P with st:=g.P.st+1}}) true) (λ_ _=>aA) (λW ab ad aa u h1 h2 h3 a=>by
  exact aad W _ _ G a I.hl I.hr lj sW qo _ _ hf (u.cell k0) _ rfl (I.V9 B full G.P.st)
  ))
 clear hw2 k0;go_in;exact wJ
theorem IT(w:af)(p gb:Nat)(H:aS)(G:ch)(A:bU w p gb H G)(I:bq G)(B:py G)(full:List aj)(hf:κ full<=9223372036854775807)(to:List aj)(ht:κ to<=9223372036854775807):Aaf Aag 67 #[pz p,.string (strOf full),.string (strOf to)] w (pJ p gb H G (fB G (dq G.next G.l full to) id true) w):=by
 obtain⟨u0,u1⟩:=az (ai w (.cells #[.string (strOf full)] 9)) (ai (w.alloc (.cells #[.string (strOf full)] 9)) (.cells #[.string (strOf to)] 9));obtain⟨k0,k1,uu⟩:=cX (u1.cell ((aI.new w 9 _).cell 0)) ((aI.new (w.alloc (.cells #[.string (strOf full)] 9)) 9 #[.string (strOf to)]).cell 0) ((u0).trans u1);obtain⟨w2,hw2⟩:=bE (((w.alloc (.cells #[.string (strOf full)] 9)).alloc (.cells #[.string (strOf to)] 9)));simp only[aN]at k1;rw[<-hw2]at uu k0 k1;have HW2:=an hw2;have CL:=an (lS w2 p gb H G (A.up uu) I.hl I.hr lj 128 #[pz w.heap.size,pz ((w.heap.size+1))] (fB G (dq G.next G.l full to) id true) (λ_ _=>aA) (λW ab ad aa u h1 h2 h3 a=>by
  exact Ye W _ _ G a I.hl I.hr lj sW qo _ _ _ _ hf ht (u.cell k0) (u.cell k1) _ rfl (I.MJ B full to)
  ))
 clear hw2 k0 k1;go_in;exact wJ
theorem GM(w:af)(p gb:Nat)(H:aS)(G:ch)(A:bU w p gb H G)(I:bq G)(B:py G)(full:List aj)(hf:κ full<=9223372036854775807):Aaf Aag 68 #[pz p,.string (strOf full)] w (pJ p gb H G (fB G (cp G.next G.l full) id false) w):=by
 refine K7 ?_;intro u0 w2 hw2 uu k0 HW2;have CL:=an (lS w2 p gb H G (A.up uu) I.hl I.hr lj 129 #[pz w.heap.size] (fB G (cp G.next G.l full) id false) (λ_ _=>aA) (λW ab ad aa u h1 h2 h3 a=>by
  exact Q6 W _ _ G a I.hl I.hr lj sW qo _ _ hf (u.cell k0) _ rfl (I.Q8 B full)
  ))
 clear hw2 k0;go_in;exact wJ
theorem GJ(w:af)(p gb:Nat)(H:aS)(G:ch)(A:bU w p gb H G)(I:bq G)(B:py G)(full:List aj)(hf:κ full<=9223372036854775807):Aaf Aag 70 #[pz p,.string (strOf full)] w (pJ p gb H G (e' G full) w):=by
 refine K7 ?_;intro u0 w2 hw2 uu k0 HW2;have CL:=an (lS w2 p gb H G (A.up uu) I.hl I.hr lj 133 #[pz w.heap.size] (e' G full) (λ_ _=>aA) (λW ab ad aa u h1 h2 h3 a=>by
  exact Q2 W _ _ G a I sW _ _ hf (u.cell k0) _ rfl (I.PZ full) _ rfl (I.Kk full)
  ))
 clear hw2 k0;go_in;exact wJ
theorem xN(w:af)(p gb:Nat)(H:aS)(G:ch)(A:bU w p gb H G)(I:bq G)(B:py G)(full:List aj)(hf:κ full<=9223372036854775807)(N:Int)(ba:Option Addr)(bc:Nat)(b:List aj)(hb:aY w (.slice ba (κ b) bc) b)(aX:∀k,(Acg ba (κ b) bc).ownBlock=some k->¬cK H.h k/\k<w.heap.size):Aaf Aag 18 #[pz p,.string (strOf full),i6 N,.slice ba (κ b) bc] w (pJ p gb H G (pN G full N (decide (128<κ b)) (jL b)) w):=by
 obtain⟨u0,u1,u2⟩:=cX (ai w (.cells #[.string (strOf full)] 9)) (ai (w.alloc (.cells #[.string (strOf full)] 9)) (.cells #[i6 N] 3)) (ai ((w.alloc (.cells #[.string (strOf full)] 9)).alloc (.cells #[i6 N] 3)) (.cells #[.slice ba (κ b) bc] 30));obtain⟨k0,k1,k2,uu⟩:=iQ (u2.cell (u1.cell ((aI.new w 9 _).cell 0))) (u2.cell ((aI.new _ 3 _).cell 0)) ((aI.new ((w.alloc (.cells #[.string (strOf full)] 9)).alloc (.cells #[i6 N] 3)) 30 #[.slice ba (κ b) bc]).cell 0) (((u0).trans u1).trans u2);obtain⟨w2,hw2⟩:=bE ((((w.alloc (.cells #[.string (strOf full)] 9)).alloc (.cells #[i6 N] 3)).alloc (.cells #[.slice ba (κ b) bc] 30)));simp only[aN]at k1 k2;rw[<-hw2]at uu k0 k1 k2;have HW2:=an hw2;have CL:=an (lS w2 p gb H G (A.up uu) I.hl I.hr lj 45 #[pz w.heap.size,pz ((w.heap.size+1)),pz ((w.heap.size+1+1))] (pN G full N (decide (128<κ b)) (jL b)) (λ_ _=>aA) (λW ab ad aa u h1 h2 h3 a=>by
  have sz:w2.heap.size=w.heap.size+3:=by rw[hw2];simp only[aN]
  exact Yi W ab ⟨ad,aa,H.h⟩ G a I sW qo (by have:=B.m;omega) _ _ _ full N hf ba bc b ((hb.up uu).up u) (λk hk h=>by
   have h0:=aX k hk;rcases h with h|h|h
   ·simp only at h;omega
   ·simp only at h;omega
   ·exact h0.1 h) (u.cell k0) (λh=>by
   rcases h with h|h|h
   ·simp only at h;omega
   ·simp only at h;omega
   ·have:=A.ga.pa.dev.lt _ h;omega) FM (u.cell k1) (λh=>by
   rcases h with h|h|h
   ·simp only at h;omega
   ·simp only at h;omega
   ·have:=A.ga.pa.dev.lt _ h;omega) FM (u.cell k2) (λh=>by
   rcases h with h|h|h
   ·simp only at h;omega
   ·simp only at h;omega
   ·have:=A.ga.pa.dev.lt _ h;omega) FM
  ))
 clear hw2 k0 k1 k2;go_in;exact wJ
def mO(G:ch)(b:List aj)(G2:ch):Prop:=∃q ps P8,MC G b P8 q ps/\G2=Xx G P8 q ps
theorem zP(gb:Nat):prog.built 82 [(0,pz gb)]=some #[pz gb]:=al
theorem Q3(w:af)(h:iM)(C:List cQ)(m:Nat)(fl:Bool)(D:DA w h C m fl)(b:List aj)(K:Cy (tc C m fl) b):Aaf Aag 25 #[.pointer (some ⟨h.d,0,none⟩)] w λe w'=>∃p gb H G2 vp,e=.returned (.tuple #[.pointer (some ⟨p,0,none⟩),.int .i64 0])/\w.heap.size<=p/\bU w' p gb H G2/\H.h={h with vp:=vp}/\(w.heap.size<=H.pb/\w.heap.size<=H.mb)/\mO (tc C m fl) b G2/\Touch (cK h) w w'/\∀b,vp.ownBlock=some b->h.vp.ownBlock=some b\/w.heap.size<=b:=by
 obtain⟨FO,BP⟩:=aw (H6 w h C m fl D b K) zP;clear D K;go_in;go_wp2_with fail;refine FO.mono ?_;rintro e w2⟨gb,pb,mb,w1,h1,h2,h3,u1,rfl,he,q,ps,P8,vp,sv,ga,T,O⟩;obtain⟨ab,ae⟩:=aw (BP gb) ga;have u3:=ai w2 (.cells #[.pointer (some ⟨gb,0,none⟩)] 82);obtain⟨aa,B3⟩:=aw (ga.up u3) (aI.new w2 82 #[.pointer (some ⟨gb,0,none⟩)]);have T2:=an ((Touch.bV (F:=cK h) u1).trans T (λn hn hlt=>by
  rcases hn with(hn|hn|hn)|hn
  ·simp only at hn;omega
  ·simp only at hn;omega
  ·exact hn
  ·omega))
 obtain⟨T3,O3,SV,S2,ad⟩:=eQ (T2.iD u3) (show ∀b,vp.ownBlock=some b->h.vp.ownBlock=some b\/w.heap.size<=b from λb hb=>(O b hb).imp id (λh=>bO u1.size h)) sv T2.size (Adc h2 h3);clear he sv ga T O u3 u1 h1 h2 h3 FO;go_wp2_with(first
  | ((with_reducible refine eR 82 #[(0,.tmp 14)] ?_);refine kQ rfl 82 0 (.tmp 14) rfl _ rfl #[.pointer (some ⟨gb,0,none⟩)] ab ?_)
  | refine gY 82 15 #[.pointer (some ⟨gb,0,none⟩)] ?_)
 go_ret2;exact⟨w2.heap.size,gb,⟨pb,mb,{h with vp:=vp}⟩,_,vp,rfl,S2,⟨B3,aa⟩,rfl,ad,⟨q,ps,P8,SV,rfl⟩,T3,O3⟩
theorem MI(I:bq G)(B:py G):∃b,Cy G b/\(κ b)=ck G.l/\fc G<=bj G.P.s:=by
 obtain⟨s1,s2⟩:=I.shape;have hf:=I.ft;unfold ev at hf;rw[decide_eq_true_eq]at hf;have hc:fc G=e2 (ck G.l) (κ G.P.C):=hQ s1 s2 I.ln;have hb:=qC.mpr ⟨s1,s2,rfl⟩;have hl:=kF G.next G.l
 refine⟨_,⟨sW,I.wf,hb,by grind [xT],I.ln,⟨by have:=I.sb;omega,qo⟩,by have:=B.m;omega,λi hi h0=>?_,?_,lj,by have:=B.tx;omega⟩,hl,hf.2.1⟩
 ·have:=mt (I.s0 i).mpr h0;omega
 ·grind [mQ]
theorem DS(w:af)(p gb:Nat)(H:aS)(G:ch)(A:bU w p gb H G)(I:bq G)(B:py G):Aaf Aag 16 #[.pointer (some ⟨p,0,none⟩)] w λe w'=>∃b G2 gb' H' vp,e=.returned (.int .i64 0)/\(κ b)=ck G.l/\Cy G b/\mO G b G2/\H'.h={H.h with vp:=vp}/\bU w' p gb' H' G2/\Touch (λk=>cK H.h k\/k=p) w w'/\r1 H H' w.heap.size vp:=by
 obtain⟨b,K,hb,hc⟩:=MI I B;obtain⟨ae,HBL,PD,CP⟩:=bS K hb (wO w p gb H G A) (Dn w gb H G A.ga I.hl I.hr lj);refine Gs ?_;intro c0;obtain⟨HA,SY⟩:=aw A (λW ab H1 (a:GA W ab H1 G)=>Qd W ab H1 G a b K hc);clear A I B K hb hc;go_in;go_wp2_with fail;refine zg ?_;intro wx;go_wp2_with fail;refine CP.mono ?_;rintro e w1⟨gb',pb,mb,rfl,h1,h2,h3,a1,u1⟩;obtain⟨A1,U1,H1,H2,H3,aa⟩:=iC a1 u1 h1 h2 h3 (HA.e6.up u1);clear h1 h2 h3 a1 u1 CP PD c0;go_wp2_with fail;refine(SY _ _ _ A1).mono ?_;rintro e w2⟨rfl,q,ps,P8,vp,sv,ga,T,O⟩;have HD:=HA.ga.pa;refine OC ?_;intro NF;have BP:=an (aa.ax T (NF p HA.e6.lt (HD.dev.jK HA.e6 av av av)));have T2:=an ((Touch.bV (F:=λk=>cK H.h k\/k=p) U1).trans T (λn hn hlt=>by
  by_cases hf:cK H.h n
  ·exact .inl hf
  ·exact absurd hn (NF n hlt hf)))
 have ad:=an U1.size;obtain⟨O2,A2,SV⟩:=aW (show ∀b,vp.ownBlock=some b->H.h.vp.ownBlock=some b\/w.heap.size<=b from λb hb=>(O b hb).imp id (λh=>bO ad h)) ga sv;refine Nu ?_;intro cp BQ GQ fp;clear ga T O sv SY HD NF;go_wp2_with fail;have TQ:=Touch.be (F:=(·=p)) GQ (λk hk=>oN);have AQ:=A2.other BP av av av av TQ;go_ret;exact⟨b,_,gb',⟨pb,mb,{H.h with vp:=vp}⟩,vp,rfl,HBL,ae,⟨q,ps,P8,SV,rfl⟩,rfl,⟨BQ,AQ⟩,T2.trans (TQ.mono (F':=λk=>cK H.h k\/k=p) (λ_ h=>.inr h)) (λ_ h _=>h),r1.of rfl O2 (.inr H2) (.inr H3)⟩
abbrev ih(l:List ab):List ab:=l.map cH
section
variable {l:List ab} {full mZ to:List aj} {next st:Nat} {N:Int}
theorem lN:κ (ih l)=κ l:=aq
theorem oF{p:ab->Bool}(hp:∀x,p (cH x)=p x):eb p (ih l)=eb p l:=by unfold eb ih;rw[List.findIdx?_map];congr 1;grind
theorem a'(i:Nat):recAt (ih l) i=cH (recAt l i):=by unfold recAt ih;rw[sP,sP,List.getElem?_map];cases l[i]?<;>rfl
theorem dN(id:Nat):aK (ih l) id=aK l id:=oF (λ_=>rfl)
theorem BC(c:jv):ed (ih l) c=ed l c:=oF (λ_=>rfl)
theorem YG(x:ab):(cH x).id=x.id:=rfl
theorem ss2(x:ab):(cH x).name=x.name:=rfl
theorem ss3(x:ab):(cH x).aT=x.aT:=rfl
theorem ss4(x:ab):(cH x).owner=x.owner:=rfl
theorem ss5(x:ab):(cH x).prev=x.prev:=rfl
theorem ss6(x:ab):(cH x).ay=x.ay:=rfl
theorem ss7(x:ab):(cH x).blocks=x.blocks:=rfl
theorem xx(id:Nat):fY (ih l) id=fY l id:=by simp[fY,iZ,lN,a',ss5]
theorem EF(id:Nat):bY (ih l) id=bY l id:=by simp[bY,dN,a',ss5,ss6]
theorem xw(id:Nat):ea (ih l) id=ea l id:=by unfold ea;simp[dN,a',ss2,ss3,ss4]
theorem oW:dM (ih l) full=dM l full:=by simp[dM,BC,a',YG]
theorem x2(id:Nat):∀(n:Nat)(c:List Nat)(p:Nat),gW (ih l) id n c p=gW l id n c p
 | 0,_,_=>rfl
 | n+1,c,p=>by unfold gW;simp only[dN,a',ss4,ss5,x2 id n]
theorem pf(id:Nat):dO (ih l) id=dO l id:=by unfold dO;simp[dN,a',ss3,ss5,x2]
theorem xE(id:Nat):iO (ih l) id=iO l id:=by unfold iO;simp only[dN,a',YG,ss3,ss4,xx]
theorem r4(id:Nat):eK (ih l) id=eK l id:=by unfold eK ep;simp only[dN,a',YG,ss3,ss4,xx]
theorem hi:a1 (ih l) full=a1 l full:=by simp[a1,oW,dN,a',YG]
theorem vN:ee (ih l) full=ee l full:=by simp[ee,hi]
theorem pW:fz (ih l) full N=fz l full N:=by simp[fz,oW,a',ss7]
theorem Mp:j0 (ih l) full N=j0 l full N:=by simp[j0,pW]
theorem Hb(i:Nat)(x:ab):ih (l.set i x)=(ih l).set i (cH x):=aq
theorem wY:∀(l:List ab)(i:Nat),ih (l.eraseIdx i)=(ih l).eraseIdx i
 | [],_=>rfl
 | _::_,0=>rfl
 | x::l,i+1=>ct (cH x::·) (wY l i)
theorem B4(x:ab):ih (l++[x])=ih l++[cH x]:=aq
def Sd(r:Except Nat (Nat × List ab)):Except Nat (Nat × List ab):=r.map (λp=>(p.1,ih p.2))
def abt(r:Except Nat (Nat × List ab × ab)):Except Nat (Nat × List ab × ab):=r.map (λp=>(p.1,ih p.2.1,cH p.2.2))
theorem nD:cD next (ih l) full N=Sd (cD next l full N):=by
 unfold cD;simp only[lN,hi];cases hN full with
 | none=>rfl
 | some et=>
  simp only;split
  ·rfl
  ·split
   ·rfl
   ·cases a1 l full with
    | some _=>rfl
    | none=>simp only[Sd,Adf,B4];rfl
theorem qJ:eG next (ih l) full st=Sd (eG next l full st):=by
 unfold eG;simp only[lN,hi,EF,a',YG];cases dR full with
 | none=>rfl
 | some vs=>
  obtain⟨et,sn⟩:=vs;simp only;cases a1 l et with
  | none=>rfl
  | some i=>
   simp only;split
   ·rfl
   ·cases a1 l full with
    | some _=>rfl
    | none=>
     simp only;split
     ·rfl
     ·simp only[Sd,Adf,Hb,B4];rfl
theorem oz:dq next (ih l) mZ to=Sd (dq next l mZ to):=by
 unfold dq;simp only[lN,hi,a'];cases dR mZ with
 | none=>rfl
 | some vs=>
  simp only;cases hN to with
  | none=>rfl
  | some et=>
   simp only;cases a1 l mZ with
   | none=>rfl
   | some i=>
    simp only;split
    ·rfl
    ·cases a1 l to with
     | some _=>rfl
     | none=>simp only[Sd,Adf,B4];rfl
theorem HK(id:Nat)(nm:List aj):eb (eI id nm) (ih l)=eb (eI id nm) l:=oF (λ_=>rfl)
theorem vq(id:Nat):∀(ms:List Nat)(c:List ab),gO (ih l) id (ih c) ms=(gO l id c ms).map ih
 | [],c=>rfl
 | m::r,c=>by
  unfold gO;simp only[dN,a',ss2,HK];cases aK l m with
  | none=>rfl
  | some j=>
   simp only;split
   ·rfl
   ·rw[<-vq id r,Hb];rfl
theorem Gx(y:ab):ma (ih l) (cH y)=ma l y:=by simp[ma,pf,YG,ss4]
theorem BG:cp next (ih l) full=Sd (cp next l full):=by
 unfold cp;simp only[vN,a',YG,dN,pf,Gx,vq];cases ee l full with
 | error n=>rfl
 | ok i=>
  simp only;cases aK l (dO l (recAt l i).id).2 with
  | none=>rfl
  | some o=>
   simp only;cases gO l (recAt l i).id l (ma l (recAt l o))with
   | error n=>rfl
   | ok c=>rfl
theorem Ad:dQ next (ih l) full=abt (dQ next l full):=by
 unfold dQ;simp only[vN,a',YG,pf];cases ee l full with
 | error n=>rfl
 | ok i=>
  simp only;split
  ·rfl
  ·simp only[abt,Adf,wY]
theorem yd(h:cE next l full≠.error 131):(cE next (ih l) full).map (λr=>(r.1,r.2.1))=Sd ((cE next l full).map (λr=>(r.1,r.2.1))):=by
 cases hs:dR full with
 | none=>rw[mT hs,mT hs];rfl
 | some vs=>
  cases hr:a1 l full with
  | none=>rw[mU hs (by grind [hi]),mU hs hr];rfl
  | some i=>
   have ay:a1 (ih l) full=some i:=by grind [hi]
   by_cases hc:0<κ (eK l (recAt l i).id)
   ·rw[mV hs ay (by rw[a',r4];exact hc),mV hs hr hc];rfl
   ·have aa:¬0<κ (eK (ih l) (recAt (ih l) i).id):=by rw[a',r4];exact hc
    cases hp:aK l (iO l (recAt l i).id)with
    | none=>rw[pT hs ay aa (by rw[a',xE,dN];exact hp),pT hs hr hc hp];rfl
    | some j=>
     cases hm:ei (lp (bY l (recAt l i).id) (recAt l j).dead) (recAt l i).dead with
     | none=>grind [xo]
     | some all=>
      by_cases h4:4000<κ all
      ·grind [xp]
      ·have aB:ei (lp (bY (ih l) (recAt (ih l) i).id) (recAt (ih l) j).dead) (recAt (ih l) i).dead=some []:=by rw[a',a'];exact rA []
       rw[mW hs ay aa (by rw[a',xE,dN];exact hp) aB aq,mW hs hr hc hp hm h4];simp only[Sd,Adf,wY,Hb,a'];rfl
end
section
variable {next:Nat} {l:List ab}
structure WI(l:List ab)(V:ab)(c:List Nat)(p:Nat)(z:ab):Prop where
 mem:∀m∈c,∃y∈l,y.id=m/\y.aT=true/\y.owner=V.id
 pw:c.Pairwise (λa b=>rV l b<rV l a)
 zl:z∈l/\z.prev=p/\z.owner=V.id
 nx:∀x∈l,(x=V\/x.id∈c)->x.prev∈c\/x=z
 lw:∀y∈l,y.id=p->y.aT=true/\∀m∈c,y.ay<rV l m
 la:∀h:0<κ c,z.id=c[κ c-1]
 lk:∀j(h:j+1<κ c),∀x∈l,x.id=c[j]->x.prev=c[j+1]
theorem WI.start(F:gg next l){V:ab}(hV:V∈l)(h0:V.aT=false):WI l V [] V.prev V:=by refine⟨aq,Abx,⟨hV,rfl,F.own hV h0⟩,λx _ h=>.inr (h.elim id (λh=>aa)),λy hy e=>⟨(F.eY hV hy e).1,aq⟩,λh=>absurd h aq,λj h=>absurd h aq⟩
theorem WI.step(F:gg next l){V:ab}{c:List Nat}{p:Nat}{z y:ab}(W:WI l V c p z)(hy:y∈l)(e:y.id=p)(o:y.owner=V.id):WI l V (c++[p]) y.prev y:=by
 have sy:=B5 F.gb hy;rw[e]at sy;refine⟨?_,?_,⟨hy,rfl,o⟩,?_,?_,?_,?_⟩
 ·intro m hm;rcases List.mem_append.mp hm with h|h
  ·exact W.mem m h
  ·obtain rfl:m=p:=by simp_all
   exact⟨y,hy,e,(W.lw y hy e).1,o⟩
 ·refine List.pairwise_append.mpr ⟨W.pw,yN _ _,λa ha b hb=>?_⟩;obtain rfl:b=p:=by simp_all
  rw[sy];exact(W.lw y hy e).2 a ha
 ·intro x hx h;by_cases ag:x=y
  ·simp_all
  ·have h':x=V\/x.id∈c:=h.imp id (λh=>by
    rcases List.mem_append.mp h with h|h
    ·exact h
    ·exact absurd (F.gb.inj hx hy aa) ag)
   rcases W.nx x hx h' with h2|h2
   ·simp_all
   ·exact .inl (oJ _ (by rw[h2,W.zl.2.1];simp))
 ·intro u hu eu;have ps:=F.eY hy hu eu;refine⟨ps.1,λm hm=>?_⟩;have lt:=ps.2 (W.lw y hy e).1;rcases List.mem_append.mp hm with h|h
  ·have:=(W.lw y hy e).2 m h;omega
  ·simp_all
 ·simp;omega
 ·intro j h x hx ex;simp only[Aae,Aaj,Aa5]at h;by_cases hj:j+1<κ c
  ·rw[wx ae]at ex ⊢;exact W.lk j hj x hx ex
  ·have hj:j+1=κ c:=by omega
   rw[wx ae]at ex;have hz:x=z:=F.gb.inj hx W.zl.1 (by rw[ex,W.la ae];congr 1;omega)
   rw[hz,W.zl.2.1,E' ae];simp
theorem JB(F:gg next l){V:ab}(hV:V∈l)(h0:V.aT=false):∀(n:Nat)(c:List Nat)(p:Nat)(z:ab),WI l V c p z->κ c+n=32->∃z',WI l V (gW l V.id n c p).1 (gW l V.id n c p).2 z'/\∀y∈l,y.id=(gW l V.id n c p).2->y.owner≠V.id
 | 0,c,p,z,W,hl=>by
  exfalso;have nd:(V.id::c).Nodup:=by refine List.nodup_cons.mpr ⟨λh=>?_,W.pw.imp (λh=>by rintro rfl;exact ux _ h)⟩;obtain⟨y,hy,e,s,_⟩:=W.mem _ h;rw[F.gb.inj hy hV e,h0]at s;cases s
  have:=eU (V.id::c) (l.map (·.id)) nd (λm hm=>by
   rcases List.mem_cons.mp hm with rfl|h
   ·exact List.mem_map.mpr ⟨V,hV,rfl⟩
   ·obtain⟨y,hy,e,_⟩:=W.mem m h;exact List.mem_map.mpr ⟨y,hy,e⟩)
  have:=F.len;simp only[Aaj,Aac]at *;omega
 | n+1,c,p,z,W,hl=>by
  by_cases hp:p=0
  ·subst hp;rw[pe];exact⟨z,W,λy hy e=>by have:=F.KH y hy;simp only at e;omega⟩
  ·cases hq:aK l p with
   | none=>rw[pc hp hq];exact⟨z,W,λy hy e=>absurd e (xJ.mp hq y hy)⟩
   | some i=>
    have hg:=cP hq;have hm:=aL hg.1;by_cases ho:(recAt l i).owner=V.id
    ·rw[oi hp hq ho];exact JB F hV h0 n _ _ _ (W.step F hm hg.2 ho) (by simp only[Aae,Aaj,Aa5];omega)
    ·rw[nB hp hq ho];exact⟨z,W,λy hy e=>by rw[F.gb.inj hy hm (by rw[hg.2];exact e)];exact ho⟩
theorem gg.way(F:gg next l){V:ab}(hV:V∈l)(h0:V.aT=false):∃z,WI l V (dO l V.id).1 (dO l V.id).2 z/\(∀y∈l,y.id=(dO l V.id).2->y.owner≠V.id)/\∀x∈l,x.aT=true->x.owner=V.id->x.id∈(dO l V.id).1:=by
 obtain⟨i,hi,h1,h2⟩:=b6 F.gb hV;rw[qV h1 aa,h2];obtain⟨z,W,hn⟩:=JB F hV h0 32 [] V.prev V (WI.start F hV h0) rfl;refine⟨z,W,hn,?_⟩;generalize(gW l V.id 32 [] V.prev).1=c at *;generalize(gW l V.id 32 [] V.prev).2=p at *;have key:∀k:Nat,∀x∈l,x.aT=true->x.owner=V.id->281474976710655-x.ay<=k->x.id∈c:=by
  intro k;induction k with
  | zero=>
   intro x hx hs ho hk;obtain⟨n,aK,al,aO,_⟩:=F.Zh x hx hs;obtain⟨hr,lt⟩:=az ((bm n).mp (F.rt n aK)) ((F.eY aK hx al.symm).2);by_cases ad:n.aT=true
   ·grind
   ·have ad:n.aT=false:=by simp_all
    have:n=V:=F.gb.inj aK hV aa;subst this;rcases W.nx n aK (.inl rfl)with h|h
    ·simp_all
    ·exact absurd ho (hn x hx (by rw[<-al,h,W.zl.2.1]))
  | succ k ih=>
   intro x hx hs ho hk;obtain⟨n,aK,al,aO,_⟩:=F.Zh x hx hs;obtain⟨hr,lt⟩:=az ((bm n).mp (F.rt n aK)) ((F.eY aK hx al.symm).2);have fin:n=V\/n.id∈c:=by
    by_cases ad:n.aT=true
    ·grind
    ·have ad:n.aT=false:=by simp_all
     exact .inl (F.gb.inj aK hV aP)
   rcases W.nx n aK fin with h|h
   ·grind
   ·exact absurd ho (hn x hx (by rw[<-al,h,W.zl.2.1]))
 exact λx hx hs ho=>key _ x hx hs ho (aE _)
def eF(ms:List Nat)(id:Nat)(x:ab):ab:=if x.id∈ms then DM x id else x
theorem DR(S:pG l)(id:Nat):∀(ms:List Nat)(c c':List ab),gO l id c ms=.ok c'->κ c=κ l->(∀m∈ms,∃j,aK l m=some j)->κ c'=κ l/\(∀j,j<κ l->recAt c' j=if(recAt l j).id∈ms then DM (recAt c j) id else recAt c j)/\∀m∈ms,∀j,aK l m=some j->eb (eI id (recAt l j).name) l=none
 | [],c,c',h,hc,_=>by cases h;exact⟨hc,λj _=>aq,aq⟩
 | m::r,c,c',h,hc,hm=>by
  obtain⟨j,hj⟩:=hm m aq;have hg:=cP hj;cases hx:(eb (eI id (recAt l j).name) l).isSome with
  | true=>rw[IW hj hx]at h;cases h
  | false=>
   rw[IX hj hx]at h;obtain⟨a,b,d⟩:=DR S id r _ c' h (by rw[Aax];exact hc) (λm h=>hm m (bn _ h));refine⟨a,λk hk=>?_,λm' aB k hk=>?_⟩
   ·rw[b k hk,rP ae];by_cases aa:k=j
    ·subst aa;rw[bp rfl,bp (show(recAt l k).id∈m::r from by rw[hg.2];simp)];split<;>rfl
    ·rw[aO aa];have:(recAt l k).id≠m:=λe=>aa (S.lq hk hg.1 (S.inj (aL hk) (aL hg.1) (by rw[e,hg.2])));simp only[Aak,this,false_or]
   ·rcases List.mem_cons.mp aB with rfl|h2
    ·rw[hj]at hk;cases hk;simpa using hx
    ·exact d m' h2 k hk
theorem LI(S:pG l){id:Nat}{ms:List Nat}{c':List ab}(h:gO l id l ms=.ok c')(hm:∀m∈ms,∃j,aK l m=some j):c'=l.map (eF ms id)/\∀x∈l,x.id∈ms->∀z∈l,z.aT=true->z.owner=id->z.name≠x.name:=by
 obtain⟨a,b,d⟩:=DR S id ms l c' h rfl hm;refine⟨?_,λx hx hi z hz zs zo zn=>?_⟩
 ·refine yP ao (λk h1 h2=>?_);have hk:k<κ l:=by omega
  rw[Adl,gj h1,gj hk,b k hk];rfl
 ·obtain⟨j,hj,h1,h2⟩:=b6 S hx;have:=d x.id hi j h1;rw[h2]at this;have:=oE.mp this z hz;grind [eI]
theorem gg.GN(F:gg next l){v o V z0:ab}(hv:v∈l)(v0:v.aT=false)(ho:o∈l)(os:o.aT=true)(hV:V∈l)(V0:V.aT=false)(oV:o.owner=V.id)(ov:o.owner≠v.id){ms:List Nat}(P:∀x∈l,x.id∈ms↔x.aT=true/\x.owner=V.id/\x.ay<=o.ay)(cl:∀x∈l,x.id∈ms->∀z∈l,z.aT=true->z.owner=v.id->z.name≠x.name)(b0:z0∈l/\z0.prev=o.id/\z0.owner=v.id)(bn:∀x∈l,x.owner=v.id->x=z0\/∃y∈l,y.id=x.prev/\y.owner=v.id)(bs:∀x∈l,x.aT=true->x.owner=v.id->o.ay<x.ay)(up:∀x∈l,x.id∈ms->x≠o->∃n∈l,n.prev=x.id/\n.owner=V.id/\n.id∈ms):gg next (l.map (eF ms v.id)):=by
 refine uY ?_;intro J PS;have i0:=F.KH;have g1:∀x,(eF ms v.id x).id=x.id/\(eF ms v.id x).prev=x.prev/\(eF ms v.id x).aT=x.aT/\(eF ms v.id x).ay=x.ay/\(eF ms v.id x).dead=x.dead/\(eF ms v.id x).name=x.name/\(eF ms v.id x).blocks=x.blocks/\(eF ms v.id x).root=x.root:=λx=>TZ
 have gy:∀x,x.id∈ms->(eF ms v.id x).owner=v.id:=λx h=>by unfold eF;rw[bp h];rfl
 have gn:∀x,x.id ∉ ms->eF ms v.id x=x:=λx h=>by unfold eF;rw[aO h]
 have nv:∀x∈l,x.aT=false->x.id ∉ ms:=λx hx h h2=>by rw[((P x hx).mp h2).1]at h;cases h
 have mm:∀y,y∈l.map (eF ms v.id)↔∃x∈l,y=eF ms v.id x:=λy=>by rw[Abb];exact⟨λ⟨x,a,b⟩=>⟨x,a,b.symm⟩,λ⟨x,a,b⟩=>⟨x,a,b.symm⟩⟩
 refine⟨F.nx,by rw[Aac];exact F.len,?_,?_,?_,?_,?_,?_,?_,?_⟩
 ·intro y hy;obtain⟨x,hx,rfl⟩:=(mm y).mp hy;by_cases h:x.id∈ms
  ·obtain⟨r,rv⟩:=az ((bm x).mp (F.rt x hx)) ((bm v).mp (F.rt v hv));grind [bm]
  ·rw[gn x h];exact F.rt x hx
 ·refine Ha.mpr ?_;rw[nI,show((λx:ab=>x.id) ∘ eF ms v.id)=(λx=>x.id)from funext (λx=>(g1 x).1)];exact Ha.mp F.gb
 ·intro y hy;obtain⟨x,hx,rfl⟩:=(mm y).mp hy;rw[(g1 x).1];exact F.KI x hx
 ·intro y hy u hu e;obtain⟨x,hx,rfl⟩:=(mm y).mp hy;obtain⟨z,hz,rfl⟩:=(mm u).mp hu;have cy:∀x∈l,x.id∈ms->b9 (eF ms v.id x)=⟨v.id,x.name⟩:=λx hx h=>by grind [b9]
  have no:∀x∈l,x.id∈ms->∀z∈l,b9 z≠⟨v.id,x.name⟩:=λx hx h z hz e=>by
   unfold b9 at e;split at e
   ·grind
   ·grind
  by_cases h1:x.id∈ms<;>by_cases h2:z.id∈ms
  ·rw[cy x hx h1,cy z hz h2]at e;simp only[jv.mk.injEq,true_and]at e;obtain⟨p1,p2⟩:=az ((P x hx).mp h1) ((P z hz).mp h2);have:x=z:=F.nm x hx z hz uK;rw[this]
  ·grind
  ·grind
  ·rw[gn x h1,gn z h2]at e ⊢;exact F.nm x hx z hz e
 ·intro y hy h;obtain⟨x,hx,rfl⟩:=(mm y).mp hy;rw[(g1 x).2.1]at h;rw[(g1 x).2.2.2.2.1];exact F.pz x hx h
 ·intro y hy h;obtain⟨x,hx,rfl⟩:=(mm y).mp hy;rw[(g1 x).2.1]at h;obtain⟨u,hu,e,a,b,c⟩:=F.pv x hx h;refine⟨_,(mm _).mpr ⟨u,hu,rfl⟩,?_⟩;rw[(g1 u).1,(g1 x).2.1,(g1 u).2.2.1,(g1 x).2.2.1,(g1 u).2.2.2.1,(g1 x).2.2.2.1,(g1 x).2.2.2.2.1];grind
 ·intro y hy h;obtain⟨x,hx,rfl⟩:=(mm y).mp hy;by_cases h1:x.id∈ms
  ·exact⟨v,(mm v).mpr ⟨v,hv,(gn v (nv v hv v0)).symm⟩,(gy x h1).symm,v0⟩
  ·rw[gn x h1]at h ⊢;obtain⟨u,hu,e,s⟩:=F.ov x hx h;exact⟨u,(mm u).mpr ⟨u,hu,(gn u (nv u hu s)).symm⟩,e,s⟩
 ·intro y hy h;obtain⟨x,hx,rfl⟩:=(mm y).mp hy;rw[(g1 x).2.2.1]at h;rw[(g1 x).1];by_cases h1:x.id∈ms
  ·rw[gy x h1];have px:=(P x hx).mp h1;by_cases ad:x=o
   ·subst ad;have nz:z0.id ∉ ms:=λh=>ov aP;refine⟨z0,(mm z0).mpr ⟨z0,b0.1,(gn z0 nz).symm⟩,b0.2.1,b0.2.2,λm' aB e1 e2=>?_⟩;obtain⟨m,hm,rfl⟩:=(mm m').mp aB;rw[(g1 m).2.1]at e1;by_cases h2:m.id∈ms
    ·grind
    ·rw[gn m h2]at e2 ⊢;rcases bn m hm e2 with h3|⟨u,hu,eu,ou⟩
     ·exact h3
     ·grind
   ·obtain⟨n,hn,n1,n2,n3⟩:=up x hx h1 ad;refine⟨_,(mm _).mpr ⟨n,hn,rfl⟩,aP,gy n n3,λm' aB e1 e2=>?_⟩;obtain⟨m,hm,rfl⟩:=(mm m').mp aB;rw[(g1 m).2.1]at e1;obtain⟨n',ag,_,_,un⟩:=F.Zh x hx h;by_cases h2:m.id∈ms
    ·have pm:=(P m hm).mp h2;rw[un m hm e1 ae,un n hn n1 ae]
    ·rw[gn m h2]at e2;rcases bn m hm e2 with h3|⟨u,hu,eu,ou⟩
     ·grind
     ·grind
  ·rw[gn x h1];obtain⟨n,hn,n1,n2,un⟩:=F.Zh x hx h;have nn:n.id ∉ ms:=λh2=>by grind
   refine⟨n,(mm n).mpr ⟨n,hn,(gn n nn).symm⟩,n1,n2,λm' aB e1 e2=>?_⟩;obtain⟨m,hm,rfl⟩:=(mm m').mp aB;rw[(g1 m).2.1]at e1;by_cases h2:m.id∈ms
   ·grind
   ·grind
theorem gg.cp(F:gg next l){full:List aj}{nx:Nat}{l':List ab}(h:_root_.Go.Proofs.YtkpjfnbbkohciaaGreat.cp next l full=.ok (nx,l'))(hs:∀i,ee l full=.ok i->(recAt l i).aT=false):nx=next/\∃ms id,l'=l.map (eF ms id)/\gg next l':=by
 obtain⟨i,oi,hi,ho,hp,rfl⟩:=xL h;obtain⟨vm,v0⟩:=az (aL (oh hi)) (hs i hi);obtain⟨z0,W,no,al⟩:=F.way vm v0;have og:=cP ho;have om:=aL og.1;obtain⟨os,ol⟩:=W.lw _ om og.2;have ov:=no _ om og.2;obtain⟨V,hV,eV,V0⟩:=F.ov _ om os;obtain⟨zv,WV,nV,aV⟩:=F.way hV V0;have hk:∃k,∃hk:k<κ (dO l V.id).1,(dO l V.id).1[k]=(recAt l oi).id/\ma l (recAt l oi)=(dO l V.id).1.drop k:=by
  unfold ma;rw[<-eV];cases hx:pE (dO l V.id).1 (recAt l oi).id with
  | none=>grind [pE]
  | some k=>unfold pE at hx;obtain⟨hk,h1,_⟩:=List.findIdx?_eq_some_iff_getElem.mp hx;grind
 obtain⟨k,hk,ck,a7⟩:=hk;rw[a7]at hp;obtain⟨e,cl⟩:=LI F.gb hp (λm hm=>by obtain⟨y,hy,e,_⟩:=WV.mem m (sT hm);obtain⟨j,_,hj,_⟩:=b6 F.gb hy;exact⟨j,aa⟩)
 refine⟨rfl,_,_,e,?_⟩;rw[e];have st:∀x∈l,rV l x.id=x.ay:=λx hx=>B5 F.gb hx;have ix:∀a b(ha:a<κ (dO l V.id).1)(hb:b<κ (dO l V.id).1),a<b->rV l (dO l V.id).1[b]<rV l (dO l V.id).1[a]:=λa b ha hb ar=>List.pairwise_iff_getElem.mp WV.pw a b ha hb ar;have P:∀x∈l,x.id∈(dO l V.id).1.drop k↔x.aT=true/\x.owner=V.id/\x.ay<=(recAt l oi).ay:=λx hx=>by
  constructor
  ·intro h;obtain⟨y,hy,e,s,o⟩:=WV.mem _ (sT h);have:=F.gb.inj hy hx e;subst this;refine⟨s,o,?_⟩;obtain⟨j,hj,ej⟩:=List.mem_drop_iff_getElem.mp h;rcases Nat.eq_zero_or_pos j with h0|h0
   ·subst h0;grind
   ·grind
  ·rintro⟨s,o,hle⟩;obtain⟨j,hj,ej⟩:=jD (aV x hx s o);rcases jE j k with h|h
   ·grind
   ·exact List.mem_drop_iff_getElem.mpr ⟨j-k,ae,aa⟩
 refine F.GN vm v0 om os hV V0 eV.symm ov P cl ⟨W.zl.1,by rw[W.zl.2.1,og.2],W.zl.2.2⟩ (λx hx ad=>?_) (λx hx hs ho=>?_) (λx hx hm ad=>?_)
 ·have:x=recAt l i\/x.id∈(dO l (recAt l i).id).1:=by
   by_cases au:x.aT=true
   ·simp_all
   ·have au:x.aT=false:=by simp_all
    exact .inl (F.gb.inj hx vm (by rw[<-F.own hx au,ad]))
  rcases W.nx x hx this with h|h
  ·obtain⟨y,hy,e,_,o⟩:=W.mem _ h;grind
  ·simp_all
 ·grind
 ·obtain⟨j,hj,ej⟩:=List.mem_drop_iff_getElem.mp hm;have j0:0<j:=by
   rcases Nat.eq_zero_or_pos j with h0|h0
   ·subst h0;exact absurd (F.gb.inj hx om aa) ad
   ·exact h0
  obtain⟨n,hn,e,s,o⟩:=WV.mem ((dO l V.id).1[k+j-1]) (cm _);have:=WV.lk (k+j-1) ae n hn e;refine⟨n,hn,?_,o,?_⟩
  ·grind
  ·rw[e];exact List.mem_drop_iff_getElem.mpr ⟨j-1,ae,by congr 1;omega⟩
end
theorem O5{full et:List aj}(h:hN full=some et):cY full=some (et,[]):=by grind [hN]
theorem V8{full et sn:List aj}(h:dR full=some (et,sn)):cY full=some (et,sn)/\sn≠[]:=by grind [dR]
theorem Ma{full et sn:List aj}(h:cY full=some (et,sn)):ef et=true/\(sn≠[]->ef sn=true):=by
 rcases iU full 64 with h1|⟨k,h1,_⟩
 ·grind [qN]
 ·rw[qO h1]at h;grind
section
variable {next:Nat} {l:List ab} {full et sn:List aj} {i:Nat}
theorem gg.named(F:gg next l)(hi:a1 l full=some i):dM l full=.ok i:=by
 unfold a1 at hi;split at hi
 ·cases hi
 ·rename_i k hk;have hkl:=lR hk;obtain⟨j,hj,h1,h2⟩:=b6 F.gb (aL hkl);rw[h1]at hi;cases hi;rw[hk,F.gb.lq hj hkl h2]
theorem gg.Bk(F:gg next l)(hi:a1 l full=none):∃n,dM l full=.error n:=by
 unfold a1 at hi;split at hi
 ·simp_all
 ·rename_i k hk;obtain⟨j,hj,h1,h2⟩:=b6 F.gb (aL (lR hk));simp_all
theorem gg.Zt(F:gg next l)(hs:cY full=some (et,[]))(hi:dM l full=.ok i):i<κ l/\(recAt l i).aT=false/\ed l ⟨0,et⟩=some i/\(recAt l i).name=et:=by
 unfold dM at hi;rw[hs]at hi;simp only at hi;split at hi
 ·cases hi
 ·rename_i k hk;rw[bp trivial]at hi;cases hi;obtain⟨h1,h2⟩:=fo hk;unfold b9 at h2;have:=(bm _).mp (F.rt _ (aL h1));grind
theorem gg.Zs(F:gg next l)(hi:ee l full=.ok i):i<κ l/\(recAt l i).aT=false:=by
 unfold ee at hi;split at hi
 ·cases hi
 ·rename_i et hv;split at hi
  ·cases hi
  ·rename_i k hk;cases hi;have:=F.Zt (O5 hv) (F.named hk);simp_all
theorem vm{c:jv}(h:ed l c=none):∀y∈l,b9 y≠c:=λy hy e=>by have:=oE.mp h y hy;simp[e]at this
theorem gg.MP(F:gg next l)(hv:hN full=some et)(h:a1 l full=none):∀y∈l,b9 y≠⟨0,et⟩:=by obtain⟨n,hn⟩:=F.Bk h;unfold dM at hn;rw[O5 hv]at hn;grind [vm]
theorem gg.Ar(F:gg next l)(hs:dR full=some (et,sn))(hv:a1 l et=some i)(h:a1 l full=none):(i<κ l/\(recAt l i).aT=false)/\∀y∈l,b9 y≠⟨(recAt l i).id,sn⟩:=by obtain⟨e,e0⟩:=V8 hs;obtain⟨a,b,c,d⟩:=F.Zt (Bi ((Ma e).1)) (F.named hv);refine⟨⟨a,b⟩,?_⟩;obtain⟨n,hn⟩:=F.Bk h;grind [dM,vm]
end
theorem hJ.mono{st aa:Nat}{l:List ab}{M:au->au->Prop}(I:hJ st l M)(h:st<=aa):hJ aa l M:=by obtain⟨a,b,c,d,e,f⟩:=I;exact⟨λx hx p hp=>aP,λx hx hs=>⟨aP,(b x hx hs).2⟩,c,d,e,f⟩
section
variable {G:ch}
theorem sG(hf:ev G=true):Shape G.next G.l/\ck G.l<=65535:=by unfold ev at hf;have h:=lB (ia hf).1;exact⟨⟨h.1.1,h.1.2.1,h.1.2.2⟩,h.2⟩
theorem bq.book(I:bq G){next' aa:Nat}{l':List ab}(F':gg next' l')(S':hJ aa l' (gC G.P.C))(h1:∀z∈l',z.root=hole\/∃u∈G.l,u.root=z.root)(h2:∀z∈G.l,∃z'∈l',z'.root=z.root)(aF:G.P.st<=aa)(ad:aa<=281474976710655)(hf:ev {G with P:={G.P with st:=aa},next:=next',l:=l'}=true):bq {G with P:={G.P with st:=aa},next:=next',l:=l'}:=by
 refine⟨F',S',λz hz=>?_,I.md,I.ml,λq hq z hz p hp=>?_,I.s0,λi hi=>?_,I.s3,?_,ad,I.ln,hf⟩
 ·rcases h1 z hz with h|⟨u,hu,e⟩
  ·grind [eH,Qi]
  ·show eH G.P.C z.root;rw[<-e];exact I.tr u hu
 ·have hp:=hp;rcases h1 z hz with h|⟨u,hu,e⟩
  ·grind [Ay]
  ·rw[<-e]at hp;exact I.mx q hq u hu p hp
 ·refine(I.s2 i hi).trans (or_congr ?_ Iff.rfl);grind [gC,Ay]
 ·have:=I.sb;simp;omega
theorem bq.create(I:bq G)(hn:1<=G.next){full:List aj}{N:Int}{nx:Nat}{l':List ab}(h:cD G.next G.l full N=.ok (nx,l'))(hf:ev {G with next:=nx,l:=l'}=true):bq {G with next:=nx,l:=l'}:=by
 obtain⟨et,hv,hb,hl,hr,rfl,rfl⟩:=l0 h;exact I.book (I.ik.create ((sG hf).1) rfl rfl rfl rfl (I.ik.MP hv hr)) (I.si.create I.ik (λy=>by rw[h7,or_comm]) rfl rfl rfl rfl hn (Ay _)) (λz hz=>by
  rcases h7.mp hz with h|rfl
  ·exact .inr ⟨z,h,rfl⟩
  ·exact .inl rfl) (λz hz=>⟨z,h7.mpr (.inl hz),rfl⟩) (aE _) I.st hf
theorem bq.clone(I:bq G){mZ to:List aj}{nx:Nat}{l':List ab}(h:dq G.next G.l mZ to=.ok (nx,l'))(hf:ev {G with next:=nx,l:=l'}=true):bq {G with next:=nx,l:=l'}:=by
 obtain⟨vs,et,i,hs,hv,hi,hl,hr,rfl,rfl⟩:=nW h;obtain⟨aH,aa⟩:=I.ik.G4 hs hi;have hm:=aL aH;exact I.book (I.ik.clone ((sG hf).1) hm aa rfl rfl rfl rfl rfl (I.ik.MP hv hr)) (I.si.clone (x:=fi G.next et (recAt G.l i)) (s:=recAt G.l i) I.ik (λy=>aP) hm aa rfl rfl rfl rfl rfl) (λz hz=>by
  rcases h7.mp hz with h|rfl
  ·exact .inr ⟨z,h,rfl⟩
  ·exact .inr ⟨_,hm,rfl⟩) (λz hz=>⟨z,h7.mpr (.inl hz),rfl⟩) (aE _) I.st hf
theorem qu{l:List ab}(S:pG l){next i:Nat}(hi:i<κ l)(hn:∀x∈l,x.id<next){s v':ab}(hs:s.id=next)(hv:v'.id=(recAt l i).id):pG ((l++[s]).set i v')/\∀y,y∈(l++[s]).set i v'↔y=v'\/y=s\/(y∈l/\y≠recAt l i):=by grind [recAt,b0,vF,mem_set,h7]
theorem bq.aT(I:bq G)(aF:G.P.st<281474976710655){full:List aj}{nx:Nat}{l':List ab}(h:eG G.next G.l full G.P.st=.ok (nx,l'))(hf:ev {G with P:={G.P with st:=G.P.st+1},next:=nx,l:=l'}=true):bq {G with P:={G.P with st:=G.P.st+1},next:=nx,l:=l'}:=by
 obtain⟨et,sn,i,hs,hi,hl,hr,ad,rfl,rfl⟩:=qI h;obtain⟨⟨aH,aa⟩,fr⟩:=I.ik.Ar hs hi hr;obtain⟨hm,F⟩:=az (aL aH) I.ik;obtain⟨sr,mm⟩:=qu F.gb aH F.KI (s:=jS G.next (recAt G.l i) sn G.P.st) (v':=nO G.next (recAt G.l i)) rfl rfl;have F':=F.aT (st:=G.P.st) ((sG hf).1) sr (λx hx hs=>(I.si.sn x hx hs).1) (λx hx y hy e p hp=>by
  by_cases h0:x.prev=0
  ·have:=F.KH y hy;omega
  ·obtain⟨u,hu,eu,_,_,k⟩:=F.pv x hx h0;rw[F.gb.inj hy hu ae];exact k p hp) hm aa mm rfl rfl rfl rfl rfl rfl rfl rfl aa rfl rfl rfl (λy hy e=>fr y hy e)
 exact I.book F' (I.si.aT F hm aa mm rfl rfl rfl rfl rfl rfl rfl rfl rfl aa rfl) (λz hz=>by
  rcases(mm z).mp hz with rfl|rfl|h
  ·exact .inr ⟨_,hm,rfl⟩
  ·exact .inr ⟨_,hm,rfl⟩
  ·exact .inr ⟨z,h.1,rfl⟩) (λz hz=>by
  by_cases h:z=recAt G.l i
  ·exact⟨_,(mm _).mpr (.inl rfl),nM⟩
  ·exact⟨z,(mm z).mpr (.inr (.inr ⟨hz,h⟩)),rfl⟩) ae ae hf
theorem mc(ms:List Nat)(id:Nat)(x:ab):(eF ms id x).root=x.root/\(eF ms id x).prev=x.prev/\(eF ms id x).dead=x.dead/\(eF ms id x).aT=x.aT/\(eF ms id x).ay=x.ay/\(eF ms id x).id=x.id/\(eF ms id x).name=x.name/\(eF ms id x).blocks=x.blocks:=TZ
theorem Jh(ms:List Nat)(id:Nat)(l:List ab):ck (l.map (eF ms id))=ck l:=by unfold ck;rw[nI];congr 2;refine E2 (λx _=>?_);grind [mc,kC,eF]
theorem bq.GN(I:bq G){full:List aj}{nx:Nat}{l':List ab}(h:cp G.next G.l full=.ok (nx,l')):nx=G.next/\∃ms id,l'=G.l.map (eF ms id)/\bq {G with next:=nx,l:=l'}:=by
 obtain⟨rfl,ms,id,rfl,F'⟩:=I.ik.cp h (λi hi=>(I.ik.Zs hi).2);refine⟨rfl,ms,id,rfl,?_⟩;have mm:∀y,y∈G.l.map (eF ms id)↔∃x∈G.l,y=eF ms id x:=λy=>aP
 exact I.drop (gone:=[]) F' (I.si.map (eF ms id) mm (λx=>by simp[mc])) (λp hp=>aa) (λp hp=>aa) (λz hz=>by obtain⟨x,hx,rfl⟩:=(mm z).mp hz;exact⟨x,hx,(mc ms id x).1.symm⟩) (λz hz p hp=>.inl ⟨_,(mm _).mpr ⟨z,hz,rfl⟩,by grind [mc]⟩) (y3 (Jh ms id G.l))
end
theorem sE:∀(l:List au){s:Nat->Nat}{ba k:Nat},(∀q∈l,q.aV<=ba)->(bK s ba l k=1↔s k=1)
 | [],_,_,_,_=>Iff.rfl
 | q::l,s,ba,k,h=>by
  show bK (gU s ba q) ba l k=1↔_;rw[sE l (λx hx=>h x (bn _ hx))];have hq:=h q aq;unfold gU;split
  ·exact Iff.rfl
  ·rw[aO ae];unfold sB;split
   ·rename_i hb;unfold fW;split
    ·rename_i hk;unfold KM at hb;simp only[Aa8,decide_eq_true_eq]at hb;rw[<-hk]at hb;constructor
     ·intro h;cases h
     ·intro h;omega
    ·exact Iff.rfl
   ·exact Iff.rfl
theorem Ko{s:Nat->Nat}(hk:k<1024){l:List au}(hn:∀q∈l,q≠hole):bK s ba l k=2↔s k=2/\∀q∈l,q.loc≠(k:Int):=by
 constructor
 ·intro h;by_cases hc:∀q∈l,q.loc≠(k:Int)
  ·grind [lO]
  ·by_cases h2:s k=2
   ·have hx:∃q∈l,q.loc=(k:Int):=by simp_all
    grind [oC]
   ·grind [ha]
 ·grind [lO]
section
variable {G:ch} {b:List aj} {P8:bz} {q:au} {ps:List au}
structure JN(G:ch)(b:List aj)(G2:ch)(ats:List Nat):Prop where
 len:κ ats=e2 (κ b) (κ G.P.C)
 nd:ats.Nodup
 fr:∀i∈ats,i<1024/\G.P.s i=1
 loc:(G2.ms.map (·.loc)).Perm (ats.map (λk:Nat=>(k:Int)))
 bir:∀p∈G2.ms,p.aV=G.P.st
 cl:κ G2.P.C=κ G.P.C
 Sb:∀i,4<=i->i ∉ ats->G2.P.C[i]?=G.P.C[i]?
 one:∀i,i<1024->(G2.P.s i=1↔(G.P.s i=1/\i ∉ ats)\/(bK G.P.s G.P.ba G.ms i=3/\i ∉ ats))
 two:∀i,i<1024->(G2.P.s i=2↔i∈ats\/(G.P.s i=2/\∀q∈G.ms,q.loc≠(i:Int)))
 zer:∀i,G2.P.s i=0↔G.P.s i=0
 le:∀i,G2.P.s i<=3
 no3:∀i,i<1024->G2.P.s i≠3
 nx:G2.next=G.next
 l:G2.l=G.l
 st:G2.P.st=G.P.st+1
 ba:G2.P.ba=G.P.st
 m:G2.P.m=0
 tx:G2.u.du=G.u.du+1
theorem Ey(I:bq G){G2:ch}(h:mO G b G2):∃ats,JN G b G2 ats:=by
 obtain⟨q,ps,P8,⟨ats,h1,h2,h3,h4,h5,h6,h7⟩,rfl⟩:=h;obtain⟨w1,w2,w3,w4,w5,w6,w7,w8⟩:=h5;have old:∀q∈G.ms,q.aV<=G.P.ba:=λq hq=>(I.ml q hq).2.2;have nh:∀q∈G.ms,q≠hole:=λq hq e=>T7
 have w4:κ P8.C=κ G.P.C:=w4;have w2:P8.st=G.P.st:=w2;have w3:P8.ba=G.P.ba:=w3;have w6:∀i,i ∉ ats->P8.C[i]?=G.P.C[i]?:=w6;clear w5;have s8:∀i,(Xx G P8 q ps).P.s i=if i<1024/\(if i∈ats then 2 else bK G.P.s G.P.ba G.ms i)=3 then 1 else if i∈ats then 2 else bK G.P.s G.P.ba G.ms i:=λi=>by show iG P8.s 1024 i=_;rw[w1];rfl
 have le:∀i,bK G.P.s G.P.ba G.ms i<=3:=λi=>by
  by_cases hi:i<1024
  ·exact wb G.ms (I.s3 i) nh hi
  ·rw[lO G.ms (λq hq e=>by have:=(I.ml q hq).2.1;omega)];exact I.s3 i
 refine⟨ats,⟨h1,h2,(λi hi=>⟨(h3 i hi).1,(sE G.ms old).mp (h3 i hi).2⟩),w7,w8,?_,λi hi hn=>?_,λi hi=>?_,λi hi=>?_,λi=>?_,λi=>?_,λi hi=>?_,rfl,rfl,?_,?_,rfl,rfl⟩⟩
 ·show(P8.C.set _ _).length=_;simp;omega
 ·show(P8.C.set _ _)[i]?=_;grind
 ·grind [sE]
 ·grind [Ko]
 ·grind [hS]
 ·grind
 ·grind
 ·show P8.st+1=_;rw[w2]
 ·exact w2
theorem HO{s:Nat->Nat}{L:List Nat}(hn:L.Nodup)(h:∀i∈L,i<1024/\s i=1):κ L<=bj s:=by unfold bj gZ;exact eU L _ hn (λi hi=>List.mem_filter.mpr ⟨List.mem_range.mpr (h i hi).1,aa⟩)
theorem Kr{L ats:List Nat}(hn:L.Nodup):κ L<=κ (L.filter (λi=>decide (i ∉ ats)))+κ ats:=by
 have h1:κ L=κ (L.filter (λi=>decide (i ∉ ats)))+κ (L.filter (λi=>decide (i∈ats))):=by
  induction L with
  | nil=>rfl
  | cons x L ih=>grind
 have h2:=eU (L.filter (λi=>decide (i∈ats))) ats (hn.filter _) (λi hi=>aa);omega
theorem JN.count(I:bq G){G2:ch}{ats:List Nat}(K:JN G b G2 ats):bj G.P.s+κ G.ms<=bj G2.P.s+κ ats:=by
 have nh:∀q∈G.ms,q≠hole:=λq hq e=>T7
 have loc:∀q∈G.ms,((q.loc.toNat:Nat):Int)=q.loc/\q.loc.toNat<1024:=λq hq=>by have:=I.ml q hq;omega
 have mt:∀q∈G.ms,G.P.s q.loc.toNat=2:=λq hq=>I.rB hq;let A:=(Aal 1024).filter (λk=>decide (G.P.s k=1));let L:=A++G.ms.map (·.loc.toNat);have nd:L.Nodup:=by
  refine List.nodup_append.mpr ⟨List.nodup_range.filter _,?_,?_⟩
  ·have:=I.md;rw[show G.ms.map (·.loc.toNat)=(G.ms.map (·.loc)).map Adu from aq];refine List.pairwise_map.mpr (List.Pairwise.imp_of_mem (λ{a c} ha hc hne=>?_) this);grind
  ·grind
 have hl:κ L=bj G.P.s+κ G.ms:=by show(A++_).length=_;rw[Aae,Aac];rfl
 have h1:=Kr (ats:=ats) nd;have h2:κ (L.filter (λi=>decide (i ∉ ats)))<=bj G2.P.s:=HO (nd.filter _) (λi hi=>by
  obtain⟨ag,ai⟩:=List.mem_filter.mp hi;have ai:i ∉ ats:=by simpa using ai
  rcases List.mem_append.mp ag with h|h
  ·obtain⟨r,s⟩:=List.mem_filter.mp h;have r:=List.mem_range.mp r;exact⟨r,(K.one i r).mpr (.inl ⟨aa,ai⟩)⟩
  ·obtain⟨q,hq,rfl⟩:=List.mem_map.mp h;refine⟨(loc q hq).2,(K.one _ (loc q hq).2).mpr (.inr ⟨?_,ai⟩)⟩;exact Ae G.ms (λx hx=>⟨nh x hx,(I.ml x hx).2.2⟩) ⟨q,hq,(loc q hq).1.symm⟩ (loc q hq).2 (mt q hq))
 omega
theorem JN.Zg(I:bq G){G2:ch}{ats:List Nat}(K:JN G b G2 ats){x:ab}(hx:x∈G.l){p:au}(hp:gC G.P.C x.root p):p.loc.toNat ∉ ats/\4<=p.loc/\p.loc<1024:=by obtain⟨h2,hl⟩:=az (I.taken hx hp) (I.tr x hx);have:=gC.loc hl hp;exact⟨λh=>by have:=(K.fr _ h).2;omega,ae,ae⟩
theorem JN.tree(I:bq G){G2:ch}{ats:List Nat}(K:JN G b G2 ats){x:ab}(hx:x∈G.l):eH G2.P.C x.root/\(∀a,a<73->e5 G2.P.C x.root a=e5 G.P.C x.root a)/\(∀a,a<73->fM G2.P.C (e5 G.P.C x.root a)=fM G.P.C (e5 G.P.C x.root a)):=(I.tr x hx).congr (λp hp=>by obtain⟨h1,h2,_⟩:=K.Zg I hx hp;exact K.Sb _ ae h1)
def JN.inT(I:bq G){G2:ch}{ats:List Nat}(K:JN G b G2 ats){x:ab}(hx:x∈G.l)(p:au):gC G2.P.C x.root p↔gC G.P.C x.root p:=gC.congr (K.tree I hx).2.1
theorem JN.read(I:bq G){G2:ch}{ats:List Nat}(K:JN G b G2 ats){x:ab}(hx:x∈G.l){j:Nat}(hj:j<64):vw G2.P.C x j=vw G.P.C x j:=by obtain⟨_,h2,h3⟩:=K.tree I hx;grind [vw]
theorem JN.cost{G2:ch}{ats:List Nat}(K:JN G b G2 ats):fc G2=fc G:=by unfold fc;rw[K.nx,K.l,K.cl]
theorem JN.at(I:bq G){G2:ch}{ats:List Nat}(K:JN G b G2 ats)(i:Nat):(∃p∈G2.ms,p.loc=(i:Int))↔i∈ats:=by have:=K.loc.mem_iff (a:=(i:Int));grind
theorem bq.com(I:bq G){G2:ch}{ats:List Nat}(K:JN G b G2 ats)(hb:κ b=ck G.l)(aF:G.P.st<281474976710655):bq G2:=by
 have sh:=I.shape;have hk:κ ats=fc G:=by rw[K.len,hb];exact(hQ sh.1 sh.2 I.ln).symm
 have ml:κ G2.ms=κ ats:=by have:=K.loc.length_eq;simp_all
 have ab:∀q∈G2.ms,q.loc.toNat∈ats/\((q.loc.toNat:Nat):Int)=q.loc:=λq hq=>by have:=K.loc.mem_iff.mp (List.mem_map.mpr ⟨q,hq,rfl⟩);grind
 refine⟨by rw[K.nx,K.l];exact I.ik,?_,?_,?_,?_,?_,?_,?_,K.le,?_,?_,?_,?_⟩
 ·rw[K.l,K.st];exact(I.si.mono (gM _)).congr (λx hx p=>K.inT I hx p)
 ·rw[K.l];exact λx hx=>(K.tree I hx).1
 ·exact(K.loc.nodup_iff).mpr (List.pairwise_map.mpr (List.Pairwise.imp (λ{a c:Nat} (h:a≠c) (e:(a:Int)=(c:Int))=>h ae) (by have h:List.Pairwise Ne ats:=K.nd;exact h)))
 ·intro q hq;obtain⟨h1,h2⟩:=ab q hq;obtain⟨h3,h4⟩:=K.fr _ h1;have h5:=mt (I.s0 q.loc.toNat).mpr ae;rw[K.bir q hq,K.ba];omega
 ·rw[K.l];intro q hq x hx p hp e;obtain⟨h1,h2⟩:=ab q hq;exact(K.Zg I hx ((K.inT I hx p).mp hp)).1 aa
 ·intro i;rw[K.zer,K.cl];exact I.s0 i
 ·intro i hi;rw[K.two i hi,K.l];obtain⟨e,eA⟩:=az (I.s2 i hi) (K.at I i);constructor
  ·rintro(h|⟨h,h2⟩)
   ·simp_all
   ·rcases e.mp h with⟨x,hx,p,hp,e⟩|⟨q,hq,e⟩
    ·exact .inl ⟨x,hx,p,(K.inT I hx p).mpr hp,e⟩
    ·simp_all
  ·rintro(⟨x,hx,p,hp,e1⟩|h)
   ·have hp:=(K.inT I hx p).mp hp;exact .inr ⟨e.mpr (.inl ⟨x,hx,p,hp,e1⟩),λq hq e2=>I.mx q hq x hx p hp ae⟩
   ·simp_all
 ·rw[K.ba,K.st];omega
 ·rw[K.st];omega
 ·rw[K.cl];exact I.ln
 ·obtain⟨h,hf⟩:=az (K.count I) I.ft;unfold ev at hf ⊢;have hf:=ia hf;rw[K.cost,ml];simp;omega
end
def aaP(G:ch)(p gb:Nat)(H:aS)(full:List aj)(N:Int)(w:af)(e:Ab3)(w':af):Prop:=((∃n:Nat,fz G.l full N=.error n/\e=.returned (.tuple #[.agg (aD aM),.int .i64 (n:Int)]))\/(∃k s,fz G.l full N=.ok k/\vw G.P.C (recAt G.l k) N.toNat=some s/\e=.returned (.tuple #[.agg (aD s.val),.int .i64 0])))/\bU w' p gb H G/\Touch (PF H) w w'
theorem GA.sec{W W':af}(a:GA W gb H G)(hg:aI W g 60 C)(T:Touch (·=g) W W')(hn:∀b,PF H b->b≠g):GA W' gb H G:=by obtain⟨vb,vm,g1,os,om,pa⟩:=a;exact⟨vb,vm,g1.ax T (eS g1 hg av),(by obtain⟨ys,y1,y2,y3⟩:=os;exact⟨ys,y1,ak.ax y2 T (λb hb e=>eA av hg y2 aa),λy hy=>ak.ax (y3 y hy) T (λb hb e=>eA av hg (y3 y hy) aa)⟩),ak.ax om T (λb hb e=>eA av hg om aa),pa.ax T (λb hb e=>hn b hb e)⟩
theorem uc{l:List ab}{full:List aj}(h:fz l full N=.ok k):k<κ l/\0<=N/\N<(recAt l k).blocks:=by
 unfold fz at h;split at h
 ·cases h
 ·rename_i k' hk;split at h
  ·cases h
  ·cases h;exact⟨lR hk,ae,ae⟩
theorem HZ{l:List ab}{full:List aj}(h:fz l full N=.error n):n≠0:=uO
theorem bU.go{w w':af}(A:bU w p gb H G)(pa:PA w' H G.P)(t:Touch (PF H) w w'):bU w' p gb H G:=⟨A.e6.ax t (A.ga.pa.b' A.e6 av),A.ga.tp H.h.vp pa t⟩
theorem wP(w:af)(p gb:Nat)(H:aS)(G:ch)(A:bU w p gb H G)(I:bq G)(full:List aj)(hf:κ full<=9223372036854775807)(N:Int):Aaf Aag 21 #[.pointer (some ⟨p,0,none⟩),.string (strOf full),.int .i64 N] w (aaP G p gb H full N w):=by
 have cp:w.cell? ⟨p,0,none⟩=some (.pointer (some ⟨gb,0,none⟩)):=A.e6.cell 0;have np:¬PF H p:=A.ga.pa.b' A.e6 av;have s:=Fr.tp A.ga.pa;have ag:=an (dE e9);go_in;go_wp2_with(refine fw s ?_;intro _ w s);refine(wO w p gb H G (A.go s.pa s.t)).mono ?_;rintro e _⟨rfl,rfl⟩;go_wp2_with(refine fw s ?_;intro _ w s);refine(fT w gb H G (A.go s.pa s.t).ga I.hl I.hr).mono ?_;rintro e w⟨v2,rfl,ao,u⟩;obtain⟨a2,c2,rfl⟩:=ao.cA.slice;obtain⟨ys,e0,z⟩:=Rz.s ao u s.t.size;have e:=an e0;clear e0;have s:=s.new z;go_wp2_with(refine fw s ?_;intro _ w s);refine(DQ w G.next _ G.l (by have:=s.cA (ys:=ys);rw[e.out]at this;exact this.cA) I.hr full hf N).mono ?_;rintro e w(⟨n,hn,rfl,u⟩|⟨k,vd,hk,hkl,rfl,od,u⟩)
 ·have s:=s.up u;have nz:((n:Int) != 0)=true:=by have:=HZ hn;simp;omega
  go_wp2_with(refine fw s ?_;intro _ w s);refine br ?_;exact⟨.inl ⟨n,hn,rfl⟩,A.go s.pa s.t,s.t⟩
 ·have VA:=uc hk;obtain⟨da,dc,rfl⟩:=(ak.row od pw).slice;obtain⟨s,xm⟩:=az (s.new (.q od u s.t.size)) (aL hkl);have aa:=an (show N.toNat<64/\N=(N.toNat:Int)by obtain⟨h1,h2⟩:=az VA.2 (((bm _).mp (I.ik.rt _ xm)).2.2.2.1);omega)
  obtain⟨sc,aR,aJ⟩:=(I.tr _ xm).get (i:=N.toNat) aa.out.1;obtain⟨ad,ai,ab⟩:=aW (dE sc) (dr sc.val) (show(aD aM).size=(aD sc.val).size from by rw[oc];exact oc e9);have TG:=an (λW (a:PA W H G.P)=>show Aaf Aag 52 #[.pointer (some ⟨H.pb,0,none⟩),.agg (a6 (recAt G.l k).root),.int .i64 N] W (λe w'=>e=.returned (.tuple #[.agg (aD sc.val),.int .i64 0])/\PG W H G.P w')from by have:=Wo W H G.P a (recAt G.l k).root N.toNat aa.out.1 sc aR;rw[show(N.toNat:Int)=N from aa.out.2.symm]at this;exact this)
  replace aR:=an aR;replace aJ:=an aJ;go_wp2_with(refine fw s ?_;intro _ w s);refine kpl s (λw s=>?_);repeat refine kt ?_
  refine kj 5 ?_;refine kj 6 ?_;refine kj 7 ?_;refine kc (λw _ s=>j8 w gb H G (A.go s.pa s.t).ga) ?_;rintro w _ s _ _⟨rfl,rfl⟩;refine nj ?_;repeat(first|refine kx ?_|refine kt ?_)
  refine ZT (λw _ s=>TG.out w s.pa) ?_;rintro w _ s _ w'⟨rfl,pg⟩;refine⟨_,_,rfl,.pg s pg,YY,?_⟩;repeat refine kt ?_
  refine kn (λ_ w u s=>?_);refine ks (λw s=>?_);repeat refine kt ?_
  refine kd (λw u s=>?_);go_wp2_with(refine fw s ?_;intro _ w s);refine br ?_;exact⟨.inr ⟨k,sc,hk,aJ.out,rfl⟩,A.go s.pa s.t,s.t⟩
structure hP where
 name:List aj
 blocks:Int
 dead:Int
 mZ:List aj
deriving DecidableEq
def hB(x:hP):Array ah:=#[.string (strOf x.name),.int .i64 x.blocks,.int .i64 x.dead,.string (strOf x.mZ)]
def nG(x:hP):List ah:=(hB x).toList
theorem iw:gi nG 4:=⟨ae,λ_=>rfl,λx u hu=>by simp[nG,hB]at hu;rcases hu with rfl|rfl|rfl|rfl<;>rfl⟩
theorem AE(x:hP):(hB x).all (·.oneCell')=true:=by simp[hB,Ac9]
theorem AF(x:hP):(prog.info? 45).map (·.size)=some (hB x).size:=al
def aaE:hP:=⟨[],0,0,[]⟩
theorem WV:∀W:af,(Ab9 45).run Aag W=.ok (.agg (hB aaE)) W:=wI
theorem Ds:(prog.info? 45).map (λi=>(i.zero,i.size,i.bytes))=some (some (.agg (hB aaE)),4,48):=al
theorem JY(s:List aj)(b d:Int):prog.built 45 [(0,.string (strOf s)),(1,i6 b),(2,i6 d)]=some (hB ⟨s,b,d,[]⟩):=al
theorem JX(s:List aj)(b:Int):prog.built 45 [(0,.string (strOf s)),(1,i6 b)]=some (hB ⟨s,b,0,[]⟩):=al
abbrev Em(w:af)(v:ah)(l:List hP):Prop:=aG nG w v l
abbrev zG(w:af)(base:Nat)(v:ah)(l:List hP):Prop:=ak nG 4 45 w base v l
def Kx(l:List ab)(x:ab):List aj:=if x.aT=true then [] else ea l (dO l x.id).2
def iH(l:List ab)(x:ab):hP:=⟨ea l x.id,x.blocks,κ x.dead,Kx l x⟩
def fE(l:List ab)(x:ab):hP:=⟨ea l x.id,x.blocks,0,Kx l x⟩
section
variable {P:bu} {ops:Array Abi} {S:af->Prop} {o:Abi} {a:Act}
end
theorem acf:zc Aag 45=hB aaE:=al
theorem rJ(w:af)(p gb:Nat)(H:aS)(G:ch)(A:bU w p gb H G)(I:bq G):Aaf Aag 11 #[.pointer (some ⟨p,0,none⟩)] w λe w'=>∃v,e=.returned v/\zG w' w.heap.size v (G.l.map (iH G.l))/\Up w w':=by
 refine Gs ?_;intro c0;obtain⟨BK,HL⟩:=az (fT w gb H G A.ga I.hl I.hr) I.hl;clear A I;generalize G.l=l at *;generalize G.next=nx at *
 go_in;go_wp2_with fail;refine BK.mono ?_;rintro e w0⟨v0,rfl,aa,U0⟩;obtain⟨a,cap,rfl⟩:=aa.cA.slice;obtain⟨BF,hv,s⟩:=cX (MH nx a (κ l) cap) aa.cA (Fr.start w0);go_wp2_with fail;have s:=s.Z7 (f:=nG) (j:=4) (e:=45);go_loopw [4,16] (λv i wr=>∃k:Nat,k<=κ l/\i=.int .i64 k/\Fr no w0 [qy nG 4 45 w0.heap.size v ((l.take k).map (iH l))] wr) (λ_ i _=>κ l-(Aaq i).toNat)
 case atStart=>exact⟨0,bG _,rfl,s⟩
 case round=>
  obtain⟨k,hk,rfl,s⟩:=hrel;by_cases hlt:k<κ l
  ·refine oS ?_;intro b3;have NX:=an (show(l.take (k+1)).map (iH l)=(l.take k).map (iH l)++[iH l (recAt l k)] from KS);have LL:κ ((l.take k).map (iH l))<=1000:=by rw[Aac,ey];omega
   obtain⟨b,off,ar,_,da,dc,rg,_⟩:=bZ hv hlt;subst ar;have HIO:=an (show iH l (recAt l k)=⟨ea l (recAt l k).id,(recAt l k).blocks,(κ (recAt l k).dead:Int),if(recAt l k).aT=true then [] else ea l (dO l (recAt l k).id).2⟩ from rfl);generalize recAt l k=x at *;generalize(l.take k).map (iH l)=il at *;obtain⟨va,vc,rfl⟩:=(ak.row s.row iw).slice;obtain⟨i0,i1,i2,i3,i4,i5,ad,i7,i8⟩:=cd rg;have BU:=an (JY (ea l x.id) x.blocks (κ x.dead:Int));go_wp2_with(refine fw s ?_;intro _ w s);refine kb s (λw s=>?_);repeat refine kt ?_
   refine kj 6 ?_;refine kj 7 ?_;refine kj 8 ?_;refine kj 9 ?_;refine kj 10 ?_;refine kj 11 ?_;refine kj 12 ?_;refine kj 13 ?_;refine kj 14 ?_;refine kc (λw _ s=>uf w _ l (hv.up s.pure) x.id) ?_;rintro w _ s _ w'⟨rfl,u⟩;refine⟨_,rfl,u,?_⟩;repeat(first|refine kx ?_|refine kt ?_)
   refine kn (λ_ w u s=>?_);obtain⟨II,OO⟩:=aw (AF ⟨ea l x.id,x.blocks,(κ x.dead:Int),[]⟩) (AE ⟨ea l x.id,x.blocks,(κ x.dead:Int),[]⟩);refine ks (λw s=>?_);refine kd (λw u s=>?_);have I3:=Ds;cases hsn:x.aT with
   | true=>
    rw[hsn]at i2;go_wp2_with(first|(refine fw s ?_;intro _ w s)|(refine Xp s ?_;intro _ w s)|(at_builtin;refine ZK iw ⟨ea l x.id,x.blocks,(κ x.dead:Int),[]⟩ s ?_;intro a7 c7 w s));go_roundw
    case rel=>exact⟨k+1,ae,aq,FV⟩
    case measure=>simp only[Aaq];omega
   | false=>
    rw[hsn]at i2;go_wp2_with(refine fw s ?_;intro _ w s);refine(ti w _ l (hv.up s.pure) x.id).mono ?_;refine ez ?_;intro w u s;go_wp2_with(refine fw s ?_;intro _ w s);refine(uf w _ l (hv.up s.pure) _).mono ?_;refine ez ?_;intro w u s;have SP:(Abz (hB ⟨ea l x.id,x.blocks,(κ x.dead:Int),[]⟩).toList 3 (#[.string (strOf (ea l (dO l x.id).2))]:Array ah).toList).toArray=hB ⟨ea l x.id,x.blocks,(κ x.dead:Int),ea l (dO l x.id).2⟩:=rfl;go_wp2_with(first|(refine fw s ?_;intro _ w s)|(refine Xp s ?_;intro _ w s)|(at_builtin;refine ZK iw ⟨ea l x.id,x.blocks,(κ x.dead:Int),ea l (dO l x.id).2⟩ s ?_;intro a7 c7 w s));go_roundw
    case rel=>exact⟨k+1,ae,aq,FV⟩
    case measure=>simp only[Aaq];omega
  ·obtain rfl:k=κ l:=by omega
   have b3:((κ l:Int)<(κ l:Int))=False:=aq
   go_wp2_with fail;refine br ?_;have r:=s.row (f:=nG) (j:=4) (e:=45);rw[dk (aE _)]at r;exact⟨_,rfl,r.mono U0.size,U0.trans s.pure⟩
def n3(next:Nat)(vb:ah)(vm:ah)(st made:Nat):Array ah:=#[.int .u64 (next:Int),vb,vm,.int .u64 (st:Int),.int .u64 (made:Int)]
theorem QC(w:af)(mb next:Nat)(vb vm:ah)(st made:Nat)(l:List ab)(BM:aI w mb 76 (n3 next vb vm st made))(hv:cy w vb l)(hl:κ l<=1000):Aaf Aag 12 #[.pointer (some ⟨mb,0,none⟩)] w λe w'=>∃v,e=.returned v/\zG w' w.heap.size v (l.map (fE l))/\Up w w':=by
 obtain⟨a,cap,rfl⟩:=hv.slice;have c1:w.cell? ⟨mb,1,none⟩=some (.slice a (κ l) cap):=BM.cell 1;clear BM;have s:=Fr.start w;go_in;go_wp2_with fail;have s:=s.Z7 (f:=nG) (j:=4) (e:=45);go_loopw [4,15] (λv i wr=>∃k:Nat,k<=κ l/\i=.int .i64 k/\Fr no w [qy nG 4 45 w.heap.size v ((l.take k).map (fE l))] wr) (λ_ i _=>κ l-(Aaq i).toNat)
 case atStart=>exact⟨0,bG _,rfl,s⟩
 case round=>
  obtain⟨k,hk,rfl,s⟩:=hrel;by_cases hlt:k<κ l
  ·refine oS ?_;intro b3;have NX:=an (show(l.take (k+1)).map (fE l)=(l.take k).map (fE l)++[fE l (recAt l k)] from KS);have LL:κ ((l.take k).map (fE l))<=1000:=by rw[Aac,ey];omega
   obtain⟨b,off,ar,_,da,dc,rg,_⟩:=bZ hv hlt;subst ar;have HIO:=an (show fE l (recAt l k)=⟨ea l (recAt l k).id,(recAt l k).blocks,0,if(recAt l k).aT=true then [] else ea l (dO l (recAt l k).id).2⟩ from rfl);generalize recAt l k=x at *;generalize(l.take k).map (fE l)=il at *;obtain⟨va,vc,rfl⟩:=(ak.row s.row iw).slice;obtain⟨i0,i1,i2,i3,i4,i5,ad,i7,i8⟩:=cd rg;have BU:=an (JX (ea l x.id) x.blocks);go_wp2_with(refine fw s ?_;intro _ w s);refine kb s (λw s=>?_);repeat refine kt ?_
   refine kj 6 ?_;refine kj 7 ?_;refine kj 8 ?_;refine kj 9 ?_;refine kc (λw _ s=>uf w _ l (hv.up s.pure) x.id) ?_;rintro w _ s _ w'⟨rfl,u⟩;refine⟨_,rfl,u,?_⟩;repeat(first|refine kx ?_|refine kt ?_)
   refine kn (λ_ w u s=>?_);obtain⟨II,OO⟩:=aw (AF ⟨ea l x.id,x.blocks,0,[]⟩) (AE ⟨ea l x.id,x.blocks,0,[]⟩);refine ks (λw s=>?_);refine kd (λw u s=>?_);have I3:=Ds;cases hsn:x.aT with
   | true=>
    rw[hsn]at i2;go_wp2_with(first|(refine fw s ?_;intro _ w s)|(refine Xp s ?_;intro _ w s)|(at_builtin;refine ZK iw ⟨ea l x.id,x.blocks,0,[]⟩ s ?_;intro a7 c7 w s));go_roundw
    case rel=>exact⟨k+1,ae,aq,FV⟩
    case measure=>simp only[Aaq];omega
   | false=>
    rw[hsn]at i2;go_wp2_with(refine fw s ?_;intro _ w s);refine(ti w _ l (hv.up s.pure) x.id).mono ?_;refine ez ?_;intro w u s;go_wp2_with(refine fw s ?_;intro _ w s);refine(uf w _ l (hv.up s.pure) _).mono ?_;refine ez ?_;intro w u s;have SP:(Abz (hB ⟨ea l x.id,x.blocks,0,[]⟩).toList 3 (#[.string (strOf (ea l (dO l x.id).2))]:Array ah).toList).toArray=hB ⟨ea l x.id,x.blocks,0,ea l (dO l x.id).2⟩:=rfl;go_wp2_with(first|(refine fw s ?_;intro _ w s)|(refine Xp s ?_;intro _ w s)|(at_builtin;refine ZK iw ⟨ea l x.id,x.blocks,0,ea l (dO l x.id).2⟩ s ?_;intro a7 c7 w s));go_roundw
    case rel=>exact⟨k+1,ae,aq,FV⟩
    case measure=>simp only[Aaq];omega
  ·obtain rfl:k=κ l:=by omega
   have b3:((κ l:Int)<(κ l:Int))=False:=aq
   go_wp2_with fail;refine br ?_;have r:=s.row (f:=nG) (j:=4) (e:=45);rw[dk (aE _)]at r;exact⟨_,rfl,r,s.pure⟩
def hP.live(x:hP):hP:={x with dead:=0}
theorem Tz(x y:hP)(W:af):(Ac3 10000 45 (.agg (hB x)) (.agg (hB y))).run Aag W=.ok (decide (x=y)) W:=by
 obtain⟨n,b,d,f⟩:=x;obtain⟨n2,b2,d2,f2⟩:=y;have e:decide ((⟨n,b,d,f⟩:hP)=⟨n2,b2,d2,f2⟩)=((((strOf n).toList==(strOf n2).toList)) && ((b==b2) && ((d==d2) && ((strOf f).toList==(strOf f2).toList)))):=by rw[yI];simp[Ado,mA]
 rw[e];clear e;show(Ac3 (9999+1) 45 (.agg #[.string (strOf n),.int .i64 b,.int .i64 d,.string (strOf f)]) (.agg #[.string (strOf n2),.int .i64 b2,.int .i64 d2,.string (strOf f2)])).run Aag W=_;rw[yH W 9999 45 _ _ al al];cases h:((strOf n).toList==(strOf n2).toList)<;>cases h1:(b==b2)<;>cases h2:(d==d2)<;>cases h3:((strOf f).toList==(strOf f2).toList);all_goals go_simp
theorem XE(x1 x2:bR)(ho:o.op=.binOp .neq 45 x1 x2 45)(y:hP)(h1:a.eval x1=.agg (hB y))(h2:a.eval x2=.agg (hB y))(W:af):(Abt a.eval o).run Aag W=.ok (.value (.bool false)) W:=by
 have e:(Ac3 Op.maxDepth 45 (.agg (hB y)) (.agg (hB y))).run Aag W=.ok (decide (y=y)) W:=Tz y y W;rw[show decide (y=y)=true from aq]at e;unfold Abt;simp only[ho,h1,h2,binOp,Op.equal];have g:(eqGuard .neq 45 x1 x2 (.agg (hB y)) (.agg (hB y))).run Aag W=.ok () W:=by unfold eqGuard;go_simp
 simp only[Aa1,g,Aay,Ac7];rw[e];rfl
theorem EJ{a:Option Addr}{l:List hP}(h:Em w (.slice a n cap) l)(hk:k<κ l):∃b off,a=some ⟨b,off,none⟩/\b<w.heap.size/\w.rangeAt b (off+k*4) (hB l[k]).toList:=by obtain⟨b,off,e,hb,_,hc⟩:=aG.get h iw ae;exact Gf
def yq(l m:List hP):Prop:=m=l.map hP.live
section
open Go.Maps
abbrev k3:=cQ × Nat
def R6(x:k3):List ah:=x.1.val.map aH++[.int .u64 (x.2:Int)]
def vX(x:k3):Array ah:=(R6 x).toArray
def Mu:k3:=(⟨aM,rfl⟩,0)
def kR(l:List k3):Array ah:=(l.flatMap R6).toArray
def pF:List k3:=Aad 64 Mu
theorem q1(x:k3):κ (R6 x)=129:=by grind [R6]
theorem pP(x:k3):(vX x).size=129:=by simp[vX,q1]
theorem nU:∀l:List k3,(kR l).size=κ l*129
 | []=>rfl
 | x::l=>by have:=nU l;simp only[kR,Abj,Abd,Aae,q1,Aaj]at this ⊢;omega
theorem XF:(prog.info? 145).map (·.size)=some 129:=al
theorem TC:(prog.info? 146).map (·.size)=some 8256:=al
theorem YW:∀W:af,(Ab9 145).run Aag W=.ok (.agg (vX Mu)) W:=(lb (P:=Aag) (t:=145) (v:=.agg (vX Mu)) (n:=129) aA).1
theorem JL:∀W:af,(Ab9 146).run Aag W=.ok (.agg (kR pF)) W:=(lb (P:=Aag) (t:=146) (v:=.agg (kR pF)) (n:=8256) al).1
theorem Et(x:k3):∀v∈R6 x,∃k a,v=Acd k a:=λv hv=>by
 unfold R6 at hv;rw[Aa3,Abb,jF]at hv;rcases hv with⟨y,_,rfl⟩|rfl
 ·exact⟨_,_,rfl⟩
 ·exact⟨_,_,rfl⟩
theorem HC(l:List k3):∀v∈(kR l).toList,∃k a,v=Acd k a:=by grind [kR,Et]
theorem Ie(h:∀v∈C.toList,∃k a,v=Acd k a):C.all (·.oneCell')=true:=by rw[wu];intro v hv;obtain⟨k,a,rfl⟩:=h v (Array.mem_toList_iff.2 hv);rfl
def MG(x:k3):(vX x).all (·.oneCell')=true:=Ie (λv hv=>Et x v hv)
def SI(l:List k3):(kR l).all (·.oneCell')=true:=Ie (HC l)
def Tg:ah->DataW Unit
 | .int k a=>.lit (.int k a)
 | _=>.nil
def Kp(C:Array ah):DataW Unit:=.agg (C.toList.map Tg)
theorem Th{v:ah}{k:IntKind}{a:Int}(h:Tg v=.lit (.int k a)):v=.int k a:=by unfold Tg at h;grind
theorem Dj:∀{l m:List ah},l.map Tg=m.map Tg->(∀v∈m,∃k a,v=Acd k a)->l=m
 | [],[],_,_=>rfl
 | [],_::_,h,_=>by simp at h
 | _::_,[],h,_=>by simp at h
 | x::l,y::m,h,hi=>by simp only[Ab8,List.cons.injEq]at h;obtain⟨k,a,rfl⟩:=hi y (cS ..);rw[Th h.1,Dj h.2 (λv hv=>hi v (bn _ hv))]
def RB:ah->Option (DataW Unit × List MemPlace)
 | .agg C=>some (Kp C,[])
 | _=>none
theorem ZA{v:ah}{l:List k3}{ps:List MemPlace}(h:RB v=some (Kp (kR l),ps)):v=.agg (kR l):=by
 unfold RB at h;split at h
 ·rename_i C;simp only[Kp,Aai,Adh,DataW.agg.injEq]at h;rw[hn.1 (Dj h.1 (HC l))]
 ·cases h
def w0:Keyed Aag 70:=int_keyed underlying70
theorem aat(n:Nat)(h:n<18446744073709551616):(Lit.int .u64 (n:Int)).wf=true:=by exact NX
def Hg(n:Nat)(h:n<18446744073709551616):keyOf Aag 70 (.int .u64 (n:Int))=some (.int .u64 (n:Int)):=keyOf_int_mk underlying70 (aat n h)
def eL(w:af)(b n:Nat)(B:Nat->List k3):Prop:=(∀i,κ (B i)=64)/\∃D:DataW Unit,w.ownsMap Aag 70 RB b n D/\∀i:Nat,i<18446744073709551616->D.atKey (.int .u64 (i:Int)) (Kp (kR pF))=Kp (kR (B i))
def tD(B:Nat->List k3)(i:Nat)(l:List k3):Nat->List k3:=λj=>if j=i then l else B j
theorem eL.made(w:af):eL (w.alloc (.map #[] 0)) w.heap.size 0 (λ_=>pF):=⟨λ_=>aA,.map [],Fu w _ _ _,λ_ _=>rfl⟩
theorem eL.lt{B:Nat->List k3}(h:eL w b n B):b<w.heap.size:=by obtain⟨_,D,h,_⟩:=h;exact h.lt
theorem eL.heap{w w':af}{b b' n:Nat}{B:Nat->List k3}(h:eL w b n B)(e:w'.heap[b']?=w.heap[b]?):eL w' b' n B:=by obtain⟨h0,D,⟨es,clock,hb,F,hs,hD⟩,CF⟩:=h;exact⟨h0,D,⟨es,clock,e.trans hb,F,hs,hD⟩,CF⟩
theorem eL.mono{b n n':Nat}{B:Nat->List k3}(h:eL w b n B)(hn:n<=n'):eL w b n' B:=by obtain⟨h0,D,ho,CF⟩:=h;exact⟨h0,D,ho.mono hn,CF⟩
theorem eL.look{B:Nat->List k3}(h:eL w b n B)(i:Nat)(hi:i<18446744073709551616):(Instr.lookup 74 (.map (some b)) (u6 (i:Int)) false).run Aag w=.ok (.agg (kR (B i))) w:=by obtain⟨h0,D,ho,CF⟩:=h;obtain⟨v,ps,hr,hv⟩:=ho.lookup w0 underlying74 (JL w) (zd:=Kp (kR pF)) (zp:=[]) rfl (Hg i hi);grind [ZA]
theorem XI(j:Nat):WideAt.IsKeyLit (.int .u64 (j:Int)):=by unfold WideAt.IsKeyLit;trivial
theorem TQ(h:j≠i):(Lit.int .u64 (j:Int))≠.int .u64 (i:Int):=ao
theorem eL.put{B:Nat->List k3}(h:eL w b n B)(hn:n<1000000)(i:Nat)(hi:i<18446744073709551616)(l:List k3)(hl:κ l=64):∃w',(Instr.mapUpdate 74 (.map (some b)) (u6 (i:Int)) (.agg (kR l))).run Aag w=.ok () w'/\eL w' b (n+1) (tD B i l)/\w.grownBy w' (some b):=by
 obtain⟨h0,D,ho,CF⟩:=h;obtain⟨w',hr,av,hg⟩:=ho.update w0 underlying74 dy (Hg i hi) (val:=.agg (kR l)) (d:=Kp (kR l)) (ps:=[]) rfl;refine⟨w',hr,⟨λj=>by grind [tD],_,av,λj hj=>?_⟩,hg⟩;unfold tD;split
 ·rename_i e;subst e;exact atKey_put_same ho.isMap (XI j) _ _
 ·rename_i e;rw[atKey_put_other (TQ e),CF j hj]
theorem eL.del{B:Nat->List k3}(h:eL w b n B)(i:Nat)(hi:i<18446744073709551616)(ty:Aab):∃w',(Builtin.delete_ #[74,70] ty #[.map (some b),u6 (i:Int)]).run Aag w=.ok (.tuple #[]) w'/\eL w' b n (tD B i pF)/\w.grownBy w' (some b):=by
 obtain⟨h0,D,ho,CF⟩:=h;obtain⟨w',hr,av,ht⟩:=ho.drop w0 underlying74 (Hg i hi) ty;refine⟨w',hr,⟨λj=>by grind [tD,pF],_,av,λj hj=>?_⟩,ht.grown⟩;unfold tD;split
 ·rename_i e;subst e;exact atKey_del_same _
 ·rename_i e;rw[atKey_del_other (TQ e),CF j hj]
end
section
open Go.Maps
def sx(l:List k3)(k:Nat):k3:=l.getD k Mu
theorem SE{l:List k3}(h:k<κ l):sx l k=l[k]:=by simp[sx,h]
theorem bw:gi R6 129:=⟨ae,q1,λx u hu=>by obtain⟨k,a,rfl⟩:=Et x u hu;rfl⟩
theorem vZ(l:List k3):(kR l).toList=l.flatMap R6:=aA
theorem Pp(l:List k3)(k:Nat)(h:k<κ l):(kR l).extract (k*129) (k*129+129)=vX (sx l k):=by
 apply hn.1;rw[Array.toList_extract,vZ,SE h];show _=R6 l[k];apply wC;intro j;simp only[List.getElem?_take,List.getElem?_drop,List.extract];by_cases hj:j<129
 ·have h1:=bw.at l k h j hj;simp_all
 ·grind [q1]
theorem Qn(l:List k3)(hl:κ l=64)(k:Nat)(h:k<64)(W:af):(Ac0 146 (.agg (kR l)) (i6 (k:Int))).run Aag W=.ok (.agg (vX (sx l k))) W:=by
 have hs:(sizeOf 145).run Aag W=.ok 129 W:=al
 have hg:(isAgg 145).run Aag W=.ok true W:=al
 simp[Ac0,asIntOf,run_underlying (P:=Aag) underlying146,ae,hs,part,hg,(Pp l k ae)];omega
theorem Xc(x:k3):(vX x).extract 0 128=aD x.1.val:=by grind [rR,vX,R6]
theorem Ti(x:k3)(W:af):(Instr.field 145 (.agg (vX x)) 0).run Aag W=.ok (.agg (aD x.1.val)) W:=by
 have hp:=Xc x;have hs:(sizeOf 60).run Aag W=.ok 128 W:=al
 have hg:(isAgg 60).run Aag W=.ok true W:=al
 generalize vX x=C at *;simp[Instr.field,run_underlying (P:=Aag) underlying145,hs,part,hg,hp,asAgg,Aar]
theorem C6:prog.built 145 []=some (vX Mu):=al
theorem Pr(v:Nat):prog.built 145 [(1,u6 (v:Int))]=some (vX (Mu.1,v)):=al
theorem SH(l:List k3)(k:Nat)(hk:k<κ l)(x:k3):(Abz (kR l).toList (k*129) (vX x).toList).toArray=kR (l.set k x):=by apply hn.1;rw[lM,vZ,vZ];have:=pY bw l k hk 0 (R6 x) x (by simp[q1]) (by simp[hs,q1]);rw[this];rfl
theorem Xb(b:List aj)(hb:κ b<=128)(v:Nat):(Abz (vX (Mu.1,v)).toList 0 (b.map aH)).toArray=vX (eV b hb,v):=by apply hn.1;rw[lM];unfold hs vX R6 eV fe;simp only[Abl,Aa0,Abn,Aac];show _++List.drop (κ b) (aM.map aH++_)=_;rw[show aM.map aH=Aad 128 (aH 0)from List.map_replicate,List.drop_append_of_le_length cq,yY,Aao,List.map_replicate,Abe]
end
section
open Go.Maps
structure cO where
 next:Nat
 l:List ab
 B:Nat->List k3
 st:Nat
 made:Nat
def bg(w:af)(mb kb n:Nat)(M:cO):Prop:=∃vb,aI w mb 76 (n3 M.next vb (.map (some kb)) M.st M.made)/\bt w 0 vb M.l/\eL w kb n M.B
section
variable {w w':af} {mb kb n:Nat} {M:cO}
def eL.up{b:Nat}{B:Nat->List k3}(h:eL w b n B)(u:Up w w'):eL w' b n B:=h.heap (oH u b h.lt)
theorem eL.ax{F:Nat->Prop}{b:Nat}{B:Nat->List k3}(h:eL w b n B)(T:Touch F w w')(hb:¬F b):eL w' b n B:=h.heap (T.block b h.lt hb)
theorem eL.ne{b g:Nat}{B:Nat->List k3}{t:Aab}{C:Array ah}(h:eL w b n B)(hg:aI w g t C):b≠g:=λe=>by subst e;obtain⟨_,D,⟨es,clock,hb,_⟩,_⟩:=h;unfold aI at hg;rw[hg]at hb;cases hb
theorem bg.up(h:bg w mb kb n M)(u:Up w w'):bg w' mb kb n M:=by obtain⟨vb,h1,h2,h3⟩:=h;exact⟨vb,h1.up u,h2.up u,h3.up u⟩
theorem vA{F:Nat->Prop}{v:ah}{l:List ab}(h:bt w 0 v l)(T:Touch F w w')(hF:∀b,F b->(∃t C,aI w b t C/\t≠90/\t≠87)\/∃es c,w.heap[b]?=some (.map es c)):bt w' 0 v l:=by
 have KR:∀{α:Type}{f:α->List ah}{k:Nat}{e:Aab}{v:ah}{xs:List α},ak f k e w 0 v xs->(∀t:Aab,t≠90/\t≠87->t≠e)->ak f k e w' 0 v xs:=λho hn=>ak.ax ho T (λb hb hf=>by
  rcases hF b hf with⟨t,C,hg,ht⟩|⟨es,c,hm⟩
  ·exact eA (hn t ht) hg ho hb
  ·obtain⟨_,h2⟩:=ho;rcases h2 with⟨rfl,_⟩|⟨g',cap,cur,rfl,_,hh,_⟩
   ·simp[Aan]at hb
   ·simp[Aan]at hb;subst hb;rw[hm]at hh;cases hh)
 obtain⟨ys,y1,y2,y3⟩:=h;exact⟨ys,y1,KR y2 (λt h=>h.1),λy hy=>KR (y3 y hy) (λt h=>h.2)⟩
theorem bg.ax{F:Nat->Prop}(h:bg w mb kb n M)(T:Touch F w w')(h1:¬F mb)(h2:¬F kb)(hF:∀b,F b->(∃t C,aI w b t C/\t≠90/\t≠87)\/∃es c,w.heap[b]?=some (.map es c)):bg w' mb kb n M:=by obtain⟨vb,g1,g2,g3⟩:=h;exact⟨vb,g1.ax T h1,vA g2 T hF,g3.ax T h2⟩
end
theorem DD(w:af)(mb kb n:Nat)(M:cO)(A:bg w mb kb n M)(hr:∀x∈M.l,κ x.dead*24<=140737488355328)(full:List aj)(hf:κ full<=9223372036854775807)(i:Int):Aaf Aag 140 #[pz mb,.string (strOf full),i6 i] w λe w'=>My M.l (fz M.l full i) w e w':=by
 obtain⟨vb,bm,os,_⟩:=A;have hv:=os.cA;obtain⟨a,cap,rfl⟩:=hv.slice;obtain⟨l,aL⟩:=bE (M.l);rw[<-aL]at hv hr bm ⊢;have u1:=ai w (.cells b8 90);have c1:(w.alloc (.cells b8 90)).cell? (ad mb 1)=some (.slice a (κ l) cap):=(bm.up u1).cell 1;obtain⟨w2,hw2⟩:=bE (w.alloc (.cells b8 90));have b2:=aI.new w 90 b8;rw[<-hw2]at b2 u1;obtain⟨HW2,IZ,OZ⟩:=aW hw2 il ie;clear hw2 aL;go_in;go_wp2_with(refine arm ?_);rw[<-HW2.out];clear c1;refine(rC _ _ l (hv.up u1) hr _ hf).mono ?_;rintro e w3(⟨n,hn,rfl,u3⟩|⟨k,vd,hk,hkl,rfl,od,u3⟩)
 ·have U3:=an (u1.trans u3);exact Nt
 ·have U3:=an (u1.trans u3);obtain⟨x,hx⟩:=bE (recAt l k);obtain⟨HX,E2,E3,HK⟩:=bS hx (ML (i:=i) hk) (EE (i:=i) hk) hkl;rw[<-hx]at od E2 E3 ⊢;obtain⟨da,dc,rfl⟩:=(ak.row od pw).slice;refine UW ?_;clear hx hk hkl;intro OD U4 B2_4 c6 g1 bl aT HBL;rw[<-aT]at c6 g1 E2 E3;clear aT;rcases g1 with g1|⟨g1,g2,g3⟩|⟨g1,g2,g3⟩
  ·exact U5
  ·exact U6
  ·have HE:=an (E3 (λh=>by
    rcases h with h|h
    ·rw[g1]at h;exact h
    ·rw[g3]at h;exact h))
   go_wp2_with(first|refine arm ?_|refine pH ?_);intro wz hbz ag;obtain⟨UZ,OZ⟩:=aw (U4.grown ag (λk hk=>aP)) (ak.kept OD ag (.inr (eA av B2_4 OD)));go_wp2_with fail;exact bN (.tuple #[.agg (b7 x (.slice da (κ x.dead) dc)),i6 0]) hbz (.inr ⟨k,_,HE,HK,by rw[<-HX.out],by rw[<-HX.out];exact OZ.mono (by have:=u1.size;omega),UZ⟩)
end
section
open Go.Maps
theorem Iy(w:af)(mb kb n:Nat)(G:cO)(A:bg w mb kb n G)(hr:∀x∈G.l,κ x.dead*24<=140737488355328)(full:List aj)(hf:κ full<=9223372036854775807)(i:Int):Aaf Aag 138 #[pz mb,.string (strOf full),i6 i] w λe w'=>My G.l (j0 G.l full i) w e w':=by
 have u1:=ai w (.cells b8 90);obtain⟨w2,hw2⟩:=bE (w.alloc (.cells b8 90));have b2:=aI.new w 90 b8;rw[<-hw2]at b2 u1;obtain⟨HW2,IZ,OZ,SP⟩:=bS hw2 il ie (jc w2 full hf);clear hw2;cases hs:cY full with
 | none=>have HE:=an (Hm (l:=G.l) (i:=i) (Mm hs));rw[hs]at SP;unfold gx at SP;clear hs;exact Uw
 | some vs=>
  obtain⟨vn,sn⟩:=vs;have aa:=fX sn;by_cases h0:sn=[]
  ·have HE:=an (WC (l:=G.l) (i:=i) (Mn hs h0));rw[hs]at SP;unfold gx at SP;simp only at SP;rw[show decide (sn=[])=true from ao]at aa;have ae:((strOf sn).toList != [])=false:=by grind
   clear hs h0;go_in;go_wp2_with(refine arm ?_);rw[<-HW2.out];refine SP.mono ?_;rintro e w3⟨rfl,u3⟩;obtain⟨U3,ad⟩:=aw (u1.trans u3) (b2.up u3);go_wp2_with fail;obtain⟨U4,B2_4⟩:=aw U3 ad;refine((λ(W:af) (u:Up w2 W)=>DD W _ _ n G ((A.up u1).up u) hr _ hf i) w3 u3).mono ?_;exact NZ
  ·have HE:=an (Hm (l:=G.l) (i:=i) (Mo hs h0));rw[hs]at SP;unfold gx at SP;simp only at SP;rw[show decide (sn=[])=false from ao]at aa;have ae:((strOf sn).toList != [])=true:=by grind
   clear hs h0;exact Uw
end
section
open Go.Maps
theorem O9(hg:o.guard=none)(m x v:bR)(hop:o.op=Op.mapUpdate 74 m x v)(kb n:Nat)(B:Nat->List k3)(hm:a.eval m=.map (some kb))(h:eL w kb n B)(hn:n<1000000)(i:Nat)(hx:a.eval x=u6 (i:Int))(hi:i<18446744073709551616)(l:List k3)(hv:a.eval v=.agg (kR l))(hl:κ l=64)(hK:∀w',eL w' kb (n+1) (tD B i l)->w.grownBy w' (some kb)->Aam Aag ops Q rest (a.put o.dst Aat) w'):Aam Aag ops Q (o::rest) a w:=by refine h' hg λK' hK'=>?_;obtain⟨w',hrun,r1,r2⟩:=h.put hn i hi l hl;exact N1
def eL.len{B:Nat->List k3}(h:eL w b n B)(i:Nat):κ (B i)=64:=h.1 i
theorem C4{l:List k3}(h:κ l=64):(prog.info? 146).map (·.size)=some (kR l).size:=by rw[TC,nU,h]
theorem zL(x:k3):(prog.info? 145).map (·.size)=some (vX x).size:=by rw[XF,pP]
theorem Vo(w:af)(mb kb n:Nat)(M:cO)(A:bg w mb kb n M)(hn:n<1000000)(id:Nat)(hid:id<18446744073709551616)(k:Nat)(hk:k<64)(x:k3):Aaf Aag 139 #[pz mb,u6 (id:Int),i6 (k:Int),.agg (vX x)] w λe w'=>e=rt #[]/\bg w' mb kb (n+1) {M with B:=tD M.B id ((M.B id).set k x)}/\Touch (·=kb) w w':=by
 have HA:=an A;obtain⟨vb,bm,os,ma⟩:=A;have u1:=ai w (.cells (vX x) 145);have c2:(w.alloc (.cells (vX x) 145)).cell? (ad mb 2)=some (.map (some kb)):=(bm.up u1).cell 2;have lk:=(ma.up u1).look id hid;have LL:=an (ma.len id);obtain⟨l,hl⟩:=bE (M.B id);have aC:=an hl;rw[<-hl]at lk LL;have IL:=an (zL x);obtain⟨u2,nb⟩:=az (ai (w.alloc (.cells (vX x) 145)) (.cells (kR l) 146)) (aI.new (w.alloc (.cells (vX x) 145)) 146 (kR l));rw[aN]at nb;have NB:=an nb;have hb:(0:Int)<=(k:Int)/\(k:Int)<((64:Nat):Int):=ae
 have aj:((k:Int)<64)=True:=ao
 obtain⟨HN,HI,HK,HM,HB,HO⟩:=iC hn hid hk ma bm os;clear hl hn hid;go_in;go_wp2_with(first
  | refine arm ?_
  | ((with_reducible refine cB _ _ _ ?_);refine fK _ rfl _ (.tmp 8) (.tmp 14) rfl _ _ (kR pF) rfl rfl rfl (C4 LL) (by rw[nU,nU,LL.out];rfl) (SI l) ?_)
  | ((with_reducible refine cB _ _ _ ?_);refine cc rfl _ (.tmp 17) (.tmp 16) rfl _ (k*129) _ rfl rfl _ _ NB IL (by rw[pP,nU,LL.out];omega) (MG x) ?_))
 intro wz hbz ag;rw[(SH l k cr x)]at hbz;obtain⟨BZ,UZ⟩:=aw hbz ((u1.trans u2).grown ag (λk hk=>aP));have c2:=(HB.up UZ).cell 2;have MZ:=an (HM.up UZ);clear lk hb aj;go_wp2;refine Oe ?_;change Adq _ _ (wz).drew (λa'=>Aam _ _ _ _ a' (wz).drew) _ _;have UD:=an (Up.drew (Up.refl (wz)));replace c2:=UD.cell c2;generalize(wz).drew=w5 at *;try simp only[Aap,fL]
 repeat(first
  | refine iz rfl _ (.tmp 8) rfl _ rfl _ _ (BZ.up UD) _ underlying146 rfl (C4 (l:=l.set k x) (by rw[Aax];exact LL)) ?_
  | still_step)
 refine hT ?_;go_wp2_with(first
  | (at_mapUpdate;refine O9 rfl (.tmp 21) (.tmp 22) (.tmp 23) rfl _ n _ rfl (MZ.up UD) HN id rfl HI (l.set k x) rfl (by rw[Aax];exact LL) ?_))
 intro w6 aF g6;go_wp2;go_end0;obtain⟨U5,aa⟩:=az (UZ.trans UD) (MZ.up UD);have T5:=Touch.be (F:=(·=kb)) g6 (λk hk=>aP);refine⟨rfl,⟨vb,(HB.up U5).ax T5 (λe=>aa.ne (HB.up U5) e.symm),vA (HO.up U5) T5 (λb hb=>.inr ?_),?_⟩,(Touch.bV U5).trans T5 (λ_ h _=>h)⟩
 ·subst hb;obtain⟨_,D,⟨es,clock,h,_⟩,_⟩:=aa;grind
 ·have:=aF;rw[aC.out]at this;exact this
end
section
open Go.Maps
def Bf(nx:Nat)(vb vm:ah)(st made aa:Nat)(ab:ah):(Abz (n3 nx vb vm st made).toList 0 (aQ aa ab).toList).toArray=n3 aa ab vm st made:=rfl
theorem Touch.and{F:Nat->Prop}{w w1 w2:af}(T:Touch F w w1){G:Nat->Prop}(S:Touch G w1 w2)(h:∀b,G b->F b\/w.heap.size<=b):Touch F w w2:=T.trans S (λb hb hl=>(h b hb).resolve_right ae)
def Au(x:ab):Nat:=if x.aT=true then x.owner else x.prev
def r5(M:cO)(nx:Nat)(l':List ab)(x:ab):cO:={M with next:=nx,l:=l',B:=tD M.B x.id (M.B (Au x))}
theorem K9(w:af)(mb nx n:Nat)(va:Option Addr)(vm vc:Nat)(hn:n≠0):Aaf Aag 73 #[.pointer (some ⟨mb,0,none⟩),.agg (aQ nx (.slice va vm vc)),.int .i64 (n:Int)] w λe w'=>e=.returned (.int .i64 (n:Int))/\Up w w':=by
 have nz:((n:Int) != 0)=true:=ao
 have U1:=an (ai w (.cells (aQ nx (.slice va vm vc)) 73));go_in;go_wp2_with(first
  | refine gY 73 1 (aQ nx (.slice va vm vc)) ?_)
 go_ret;exact⟨rfl,U1⟩
theorem QB(w:af)(mb kb n:Nat)(M:cO)(A:bg w mb kb n M)(hn:n<1000000)(nx:Nat)(v:ah)(l:List ab)(base:Nat)(hv:bt w base v l)(hr:∀x∈l,κ x.dead*24<=140737488355328)(k:Nat)(hk:aK l M.next=some k)(hw:∀x∈l,x.wf):Aaf Aag 73 #[.pointer (some ⟨mb,0,none⟩),.agg (aQ nx v),.int .i64 0] w λe w'=>e=.returned (.int .i64 0)/\bg w' mb kb (n+1) (r5 M nx l (recAt l k))/\Touch (λb=>b=mb\/b=kb) w w':=by
 obtain⟨w0,rfl⟩:=bE w;obtain⟨a,cap,rfl⟩:=hv.cA.slice;obtain⟨vb,bm,os,ma⟩:=A;have c0:w0.cell? ⟨mb,0,none⟩=some (.int .u64 (M.next:Int)):=bm.cell 0;obtain⟨WF,s⟩:=az (hw _ (aL (cP hk).1)) (Fr.start w0);go_in;go_wp2_with(refine fw s ?_;intro _ w s);refine ka _ s (λ_ h=>h) (λw s=>?_) al;repeat refine kt ?_
 refine CI (λw _ s=>Am w _ l (hv.cA.up s.pure) hr M.next) ?_;rintro w _ s _ w'(⟨ay,_⟩|⟨j2,vd,aa,rfl,od,u⟩)
 case inl=>rw[hk]at ay;cases ay
 obtain rfl:k=j2:=dC (hk.symm.trans aa);obtain⟨na,nc,rfl⟩:=(ak.row od pw).slice;refine⟨_,_,rfl,.q od u s.t.size,?_⟩;repeat(first|refine kx ?_|refine kt ?_)
 refine kn (λ_ w u s=>?_);refine ks (λw s=>?_);repeat(first|refine kx ?_|refine kt ?_)
 refine kd (λw u s=>?_);clear hk aa;generalize hy:recAt l k=y at *;replace hy:=an hy;have e0:w.cell? ⟨_,0,none⟩=some (.int .u64 (y.id:Int)):=(s.e6 (t:=90) gB).cell 0;have e2:w.cell? ⟨_,2,none⟩=some (.bool y.aT):=(s.e6 (t:=90) gB).cell 2;have e3:w.cell? ⟨_,3,none⟩=some (.int .u64 (y.owner:Int)):=(s.e6 (t:=90) gB).cell 3;have e4:w.cell? ⟨_,4,none⟩=some (.int .u64 (y.prev:Int)):=(s.e6 (t:=90) gB).cell 4;have c2:w.cell? ⟨mb,2,none⟩=some (.map (some kb)):=(bm.up s.pure).cell 2;obtain⟨fr,aS⟩:=bE (Au y);have ag:fr<18446744073709551616:=by rw[aS];unfold Au;split<;>first|exact WF.2.1|exact WF.2.2.1
 have HE:fr=if y.aT=true then y.owner else y.prev:=aS;replace aS:=an aS;have lk:=((ma.up s.pure).up (Up.drew (Up.refl w))).look fr ag;generalize y.aT=sn at *;cases sn;case' false=>rw[aO av]at HE;rw[<-HE]at e4;replace HE:=an HE;go_wp2_with fail
 case' true=>rw[bp rfl]at HE;rw[<-HE]at e3;replace HE:=an HE;go_wp2_with fail
 all_goals
  refine uy 12 al al ?_;refine ve ?_;change Adq _ _ w.drew (λa'=>Aam _ _ _ _ a' w.drew) _ _;have UD:=Up.drew (Up.refl w);replace e0:=UD.cell e0;replace c2:=UD.cell c2;have s:=s.up UD;generalize w.drew=w7 at *;repeat still_step
  refine hT ?_;have m7:=ma.up s.pure;have B7:aI w7 _ 73 (aQ nx (.slice a (κ l) cap)):=s.e6 gB;go_wp2_with(at_mapUpdate;refine O9 rfl (.tmp 33) (.tmp 35) (.tmp 41) rfl kb n M.B rfl m7 hn y.id rfl WF.1 (M.B fr) rfl (ma.len fr) ?_);intro w8 ad g8;have T8:=Touch.be (F:=(·=kb)) g8 (λk hk=>oN);have B8:=an (B7.ax T8 (λe=>m7.ne B7 e.symm));have D8:=(bm.up s.pure).ax T8 (λe=>m7.ne (bm.up s.pure) e.symm);clear lk e0 c2 e2;go_wp2_with(first
   | refine db 73 4 B8 ?_
   | ((with_reducible refine cB 73 (.tmp 45) (.tmp 43) ?_);refine cc rfl 73 (.tmp 45) (.tmp 43) rfl mb 0 (aQ nx (.slice a (κ l) cap)) rfl rfl 76 _ D8 (eu nx _) (by simp[n3,aQ]) (jh nx a (κ l) cap) ?_))
  intro w9 aM aH;rw[Bf]at aM;go_wp2_with fail;go_ret;have T9:=Touch.be (F:=(·=mb)) aH (λk hk=>oN);have s8:=vA ((hv.mono (bG _)).up s.pure) T8 (λb hb=>.inr (by subst hb;obtain⟨_,D,⟨es,clock,h,_⟩,_⟩:=m7;exact⟨es,clock,h⟩));have s9:=vA s8 T9 (λb hb=>.inl ⟨_,_,by subst hb;exact D8,av,av⟩);refine⟨rfl,⟨_,aM,s9,?_⟩,((Touch.bV (F:=λb=>b=mb\/b=kb) s.pure).and T8 (λb hb=>.inl (.inr hb))).and T9 (λb hb=>.inl (.inl hb))⟩;have:=ad.ax T9 (λe=>ad.ne D8 e);rw[aS.out,<-hy.out]at this;exact this
end
section
open Go.Maps
theorem aC.Wp{α:Type}{f:α->ah}{w w':af}{v:ah}{l:List α}{F:Nat->Prop}(h:aC f w v l)(T:Touch F w w')(hF:l≠[]->∀b,v.ownBlock=some b->¬F b):aC f w' v l:=by
 rcases h with h|⟨b,off,cap,h1,h2,h3,h4,h5⟩
 ·exact .inl h
 ·exact .inr ⟨b,off,cap,h1,h2,h3,h4,λi hi=>fC (h5 i hi) T (hF aP b uI)⟩
def Cz(mb kb n:Nat)(r:Nat × cO)(w:af)(e:Ab3)(w':af):Prop:=e=.returned (.int .i64 (r.1:Int))/\bg w' mb kb (n+1) r.2/\Touch (λb=>b=mb\/b=kb) w w'
theorem bg.more{w:af}{mb kb n:Nat}{M:cO}(h:bg w mb kb n M):bg w mb kb (n+1) M:=by obtain⟨vb,a,b,c⟩:=h;exact⟨vb,a,b,c.mono (gM _)⟩
structure JO(M:cO):Prop where
 hl:κ M.l<=1000
 hd:∀x∈M.l,x.dead=[]
 wf:∀x∈M.l,x.wf
 bl:∀x∈M.l,x.blocks<=64
 nx:M.next<=100000000
 st:M.st<=100000000
 mv:M.made<=100000000
theorem JO.hr{M:cO}(h:JO M):∀x∈M.l,κ x.dead*24<=140737488355328:=λx hx=>by rw[h.hd x hx];simp
def Rb(M:cO)(id k:Nat)(x:k3):cO:={M with B:=tD M.B id ((M.B id).set k x)}
def jW(M:cO)(full:List aj)(i:Int)(b:List aj):Nat × cO:=match j0 M.l full i with
 | .error n=>(n,M)
 | .ok k=>if h:κ b<=128 then(0,Rb {M with made:=M.made+1} (recAt M.l k).id i.toNat (eV b h,M.made+1))else(92,M)
def abD(M:cO)(full:List aj)(i:Int):Nat × cO:=match j0 M.l full i with
 | .error n=>(n,M)
 | .ok k=>(0,Rb M (recAt M.l k).id i.toNat Mu)
section
variable {M:cO} {full b:List aj} {i:Int} {n k:Nat}
theorem JI(h:j0 M.l full i=.error n):jW M full i b=(n,M):=by grind [jW]
theorem JJ(h:j0 M.l full i=.ok k)(hb:¬κ b<=128):jW M full i b=(92,M):=by grind [jW]
theorem Cu(h:j0 M.l full i=.ok k)(hb:κ b<=128):jW M full i b=(0,Rb {M with made:=M.made+1} (recAt M.l k).id i.toNat (eV b hb,M.made+1)):=by grind [jW]
end
theorem Cz.bV{w w':af}{mb kb n r:Nat}{M:cO}(A:bg w mb kb n M)(u:Up w w'):Cz mb kb n (r,M) w (.returned (i6 (r:Int))) w':=⟨rfl,(A.up u).more,Touch.bV u⟩
def X1(nx:Nat)(vb vm:ah)(st made:Nat):(n3 nx vb vm st made).setIfInBounds 4 (u6 ((made:Int)+1))=n3 nx vb vm st (made+1):=rfl
theorem bg.made{mb kb n:Nat}{M:cO}(h:bg w mb kb n M):bg (w.setCell ⟨mb,4,none⟩ (u6 ((M.made:Int)+1))) mb kb n {M with made:=M.made+1}/\Touch (λb=>b=mb\/b=kb) w (w.setCell ⟨mb,4,none⟩ (u6 ((M.made:Int)+1))):=by obtain⟨vb,a,b,c⟩:=h;have T:=Touch.be (F:=(·=mb)) (bX a 4 (u6 ((M.made:Int)+1))) (λk hk=>aa);have a':=a.setCell 4 (u6 ((M.made:Int)+1));rw[X1]at a';exact OE
theorem Ix(w:af)(mb kb n:Nat)(M:cO)(A:bg w mb kb n M)(hn:n<1000000)(I:JO M)(full:List aj)(hf:κ full<=9223372036854775807)(i:Int)(v:ah)(b:List aj)(hb:aY w v b)(aX:b≠[]->∀k,v.ownBlock=some k->k≠mb/\k≠kb):Aaf Aag 74 #[pz mb,.string (strOf full),i6 i,v] w (Cz mb kb n (jW M full i b) w):=by
 obtain⟨ba,bc,rfl⟩:=hb.slice;obtain⟨HN,bX,IZ,OZ⟩:=bS hn aX il ie;clear hn aX;go_in;go_wp2_with fail;refine(Iy w _ _ n M A I.hr _ hf i).mono ?_;rintro e w2(⟨r,hv,rfl,u2⟩|⟨k,vd,hv,hkl,rfl,od,u2⟩)
 ·have E:=an (JI (b:=b) hv);have nz:((r:Int) != 0)=true:=by have:=O7 hv;simp;omega
  clear hv;go_wp2_with(refine arm ?_);go_ret;rw[E.out];exact Cz.bV A (u2.trans (ai _ _))
 ·obtain⟨x,hx⟩:=bE (recAt M.l k);obtain⟨HX,HV,aM⟩:=aW hx hv hkl;rw[<-hx]at od ⊢;obtain⟨da,dc,rfl⟩:=(ak.row od pw).slice;obtain⟨b3,u3⟩:=az (aI.new w2 90 (b7 x (.slice da (κ x.dead) dc))) (u2.trans (ai w2 (.cells (b7 x (.slice da (κ x.dead) dc)) 90)));clear hv hx hkl;by_cases ab:κ b<=128
  ·have b9:((κ b:Int)>128)=False:=cG ae;have ag:=an ab;have E:=an (Cu HV ag);obtain⟨ao,aT,aK⟩:=cX (uc (show fz M.l full i=.ok k from by have hv:=HV.out;unfold j0 at hv;split at hv;cases hv;exact hv)) (I.bl _ (aL aM)) (I.wf _ (aL aM));rw[<-HX.out]at ao aT aK E;obtain⟨j,hj⟩:∃j:Nat,i=(j:Int):=⟨i.toNat,ae⟩;subst hj;obtain⟨HJ,HW⟩:=aw (show j<64 from ae) aK.1;obtain⟨m,hm⟩:=bE (M.made);have aO:m<=100000000:=by rw[hm];exact I.mv
   have aq:=an hm;obtain⟨w3,aa⟩:=bE (w2.alloc (.cells (b7 x (.slice da (κ x.dead) dc)) 90));rw[<-aa]at u3 b3;have A3:=A.up u3;have au:=an A3.made;obtain⟨vm,ar,bb,ay⟩:=A3;have c4:w3.cell? (ad mb 4)=some (u6 (m:Int)):=by rw[hm];exact ar.cell 4
   have f4:=ar.free 4;rw[aa]at c4 f4;have aD:=an aa;clear ao aT hm aa ab;go_wp2_with(first
    | refine bH 90 q0 ?_
    | refine dX 90 9 17 w2 (b7 x (.slice da (κ x.dead) dc)) 90 b8 ?_
    | ((with_reducible refine WK _ ?_);refine ix ?_))
   rw[<-aD.out];have h4:=au.out;rw[<-aq.out]at h4;obtain⟨w4,hw4⟩:=bE (w3.setCell ⟨mb,4,none⟩ (u6 ((m:Int)+1)));rw[<-hw4]at h4 ⊢;have A4:=an h4.1;clear c4 f4 hw4;refine an ?_;go_wp2_with(first
    | refine arm ?_
    | ((with_reducible refine eR _ _ ?_);refine w5 rfl _ 1 (.tmp 35) rfl _ _ (Pr _) rfl ?_)
    | ((with_reducible refine cB 145 (.tmp 11) (.tmp 36) ?_);refine fK w4 rfl 145 (.tmp 11) (.tmp 36) rfl (vX (Mu.1,m+1)) 145 (vX Mu) rfl rfl rfl (zL (Mu.1,m+1)) (by rw[pP,pP]) (MG (Mu.1,m+1)) ?_)
    | ((with_reducible refine zA (.tmp 38) (.tmp 39) 30 30 ?_);refine hC rfl (.tmp 38) (.tmp 39) 30 30 rfl 5 Aau al aH cg w4.heap.size 0 128 128 rfl (.slice ba (κ b) bc) b rfl (aC.up ((aC.up hb u3).Wp h4.2 (λhne k hk=>by have:=bX hne k hk;omega)) (ai w4 (.cells (vX (Mu.1,m+1)) 145))) ag 145 _ (aI.new w4 145 (vX (Mu.1,m+1))) (by rw[pP];have:=ag.out;omega) ?_))
   intro w6 aV _ aG;rw[Xb b ag.out]at aV;have U6:=an ((ai w4 (.cells (vX (Mu.1,m+1)) 145)).grown aG (λk hk=>wH));have e0:w6.cell? (ad w2.heap.size 0)=some (u6 (x.id:Int)):=((b3.ax h4.2 (by have:=ar;have hx:=eS b3 this av;have hy:=ay.ne b3;rintro(h|h);exact hx h;exact hy h.symm)).up U6).cell 0;have PU:=an (Vo w6 mb kb n {M with made:=m+1} (A4.up U6) HN x.id HW j HJ (eV b ag,m+1));go_wp2_with(first
    | refine db 145 11 aV (hi:=(zL (eV b ag,m+1))) ?_)
   refine PU.mono ?_;rintro e w7⟨rfl,A7,T7⟩;clear e0;go_wp2;go_ret;rw[E.out,<-aq.out];exact⟨rfl,A7,((Touch.bV u3).and h4.2 (λb hb=>.inl hb)).and ((Touch.bV (F:=λb=>b=mb\/b=kb) U6).and T7 (λb hb=>.inl (.inr hb))) (λb hb=>.inl hb)⟩
  ·have b9:((κ b:Int)>128)=True:=dU ae;have E:=an (JJ HV ab);clear ab;go_wp2_with(first
    | refine bH 90 q0 ?_
    | refine dX 90 9 17 w2 (b7 x (.slice da (κ x.dead) dc)) 90 b8 ?_)
   go_ret;rw[E.out];exact Cz.bV A u3
end
section
open Go.Maps
def j4(M:cO)(full:List aj)(i:Int):cQ × Nat:=match fz M.l full i with
 | .error n=>(⟨aM,rfl⟩,n)
 | .ok k=>((sx (M.B (recAt M.l k).id) i.toNat).1,0)
section
variable {M:cO} {full:List aj} {i:Int} {n k:Nat}
theorem O1(h:fz M.l full i=.error n):j4 M full i=(⟨aM,rfl⟩,n):=by grind [j4]
theorem GS(h:fz M.l full i=.ok k):j4 M full i=((sx (M.B (recAt M.l k).id) i.toNat).1,0):=by grind [j4]
end
theorem Lc(w:af)(mb kb n:Nat)(M:cO)(A:bg w mb kb n M)(I:JO M)(full:List aj)(hf:κ full<=9223372036854775807)(i:Int):Aaf Aag 76 #[pz mb,.string (strOf full),i6 i] w λe w'=>e=rt #[.agg (aD (j4 M full i).1.val),i6 ((j4 M full i).2:Int)]/\Up w w':=by
 obtain⟨u1,b1⟩:=az (ai w (.cells (aD aM) 60)) (aI.new w 60 (aD aM));obtain⟨w1,ay⟩:=bE (w.alloc (.cells (aD aM) 60));rw[<-ay]at u1 b1;obtain⟨HI,U1,B1,HW1,IZ,OZ,IS⟩:=vL I u1 b1 ay il ie (show(prog.info? 60).map (·.size)=some (aD aM).size from dI);clear ay;go_in;go_wp2_with(refine arm ?_);rw[<-HW1.out];refine(DD _ _ _ n M (A.up u1) I.hr _ hf i).mono ?_;rintro e w2(⟨r,hv,rfl,u2⟩|⟨k,vd,hv,hkl,rfl,od,u2⟩)
 ·have E:=an (O1 hv);have nz:((r:Int) != 0)=true:=by have:=HZ hv;simp;omega
  clear hv;go_wp2_with(first
   | refine bH 90 q0 ?_
   | refine dX 90 8 15 w2 b8 90 b8 (hi:=IZ) (h1:=OZ) ?_
   | refine lX 60 hZ ?_
   | refine dL 60 6 19 (aD aM) ((B1.up u2).up (ai _ _)) (hi:=IS) ?_)
  intro wz hbz ag;obtain⟨BZ,UZ⟩:=aw hbz ((U1.trans (u2.trans (ai _ _))).grown ag (λk hk=>aP));go_wp2;exact bN (hi:=IS) (.tuple #[.agg (aD aM),i6 (r:Int)]) BZ ⟨by rw[E.out],UZ⟩
 ·have E:=an (GS hv);obtain⟨ao,aT,aK⟩:=cX (uc hv) (HI.bl _ (aL hkl)) (HI.wf _ (aL hkl));obtain⟨x,hx⟩:=bE (recAt M.l k);rw[<-hx]at od ao aT aK E ⊢;obtain⟨da,dc,rfl⟩:=(ak.row od pw).slice;obtain⟨b3,u3⟩:=az (aI.new w2 90 (b7 x (.slice da (κ x.dead) dc))) (u2.trans (ai w2 (.cells (b7 x (.slice da (κ x.dead) dc)) 90)));have e0:(w2.alloc (.cells (b7 x (.slice da (κ x.dead) dc)) 90)).cell? (ad w2.heap.size 0)=some (u6 (x.id:Int)):=b3.cell 0;obtain⟨j,hj⟩:∃j:Nat,i=(j:Int):=⟨i.toNat,ae⟩;subst hj;have aa:j<64:=by omega
  have A3:=(A.up u1).up u3;obtain⟨vb,bm,os,ma⟩:=A3;have c2:(w2.alloc (.cells (b7 x (.slice da (κ x.dead) dc)) 90)).cell? (ad mb 2)=some (.map (some kb)):=bm.cell 2;obtain⟨lk,ix⟩:=az ((ma.up (Up.drew (Up.refl _))).look x.id aK.1) (Qn (M.B x.id) (ma.len x.id) j aa);obtain⟨y,hy⟩:=bE (sx (M.B x.id) j);rw[<-hy]at ix;have HY:=an hy;have fx:=Ti y;have IY:=an (show(prog.info? 60).map (·.size)=some (aD y.1.val).size from by rw[dI,bT,y.1.2]);clear hv hx hkl ao aT hy aa;go_wp2_with(refine arm ?_);refine uy 10 aA al ?_;refine ve ?_;change Adq _ _ (w2.alloc (.cells (b7 x (.slice da (κ x.dead) dc)) 90)).drew (λa'=>Aam _ _ _ _ a' (w2.alloc (.cells (b7 x (.slice da (κ x.dead) dc)) 90)).drew) _ _;have UD:=an (Up.drew (Up.refl (w2.alloc (.cells (b7 x (.slice da (κ x.dead) dc)) 90))));replace e0:=UD.cell e0;replace c2:=UD.cell c2;generalize(w2.alloc (.cells (b7 x (.slice da (κ x.dead) dc)) 90)).drew=w5 at *;try simp only[Aap,fL]
  repeat(first
   | still_step)
  refine hT ?_;go_wp2_with(first
   | refine dL 60 6 30 (aD y.1.val) ((B1.up u3).up UD) (hi:=IY) (hold:=(by rw[bT,bT,y.1.2];rfl)) ?_)
  intro wz hbz ag;have UZ:=an (((U1.trans u3).trans UD).grown ag (λk hk=>aP));clear ix fx lk e0 c2;go_wp2;exact bN (hi:=IY) (.tuple #[.agg (aD y.1.val),i6 0]) hbz ⟨by rw[E.out,HY.out];rfl,UZ⟩
end
section
open Go.Maps
theorem n5{w:af}{mb nx st made:Nat}{vb vm:ah}(h:aI w mb 76 (n3 nx vb vm st made)):w.rangeAt mb 0 (aQ nx vb).toList:=λj v hj=>by
 rw[h.cell,Abn];match j,hj with
 | 0,hj=>exact hj
 | 1,hj=>exact hj
def aaV(M:cO)(full:List aj):Nat × cO:=match Y7 M.next M.l full with
 | .error n=>(n,M)
 | .ok (nx,l',x)=>(0,{M with next:=nx,l:=l',B:=tD M.B x.id (M.B x.prev)})
section
variable {M:cO} {full:List aj} {n nx:Nat} {l':List ab} {x:ab}
end
theorem X3{w w1 w2:af}{mb kb n nx:Nat}{M:cO}{B:Nat->List k3}{v:ah}{l:List ab}(A:bg w mb kb n M)(hs:bt w 0 v l)(m1:eL w1 kb (n+1) B)(g1:w.grownBy w1 (some kb))(b2:aI w2 mb 76 (n3 nx v (.map (some kb)) M.st M.made))(g2:w1.grownBy w2 (some mb)):bg w2 mb kb (n+1) {M with next:=nx,l:=l,B:=B}/\Touch (λb=>b=mb\/b=kb) w w2:=by obtain⟨vb,a,b,c⟩:=A;have T1:=Touch.be (F:=(·=kb)) g1 (λk hk=>aa);obtain⟨T2,a1⟩:=az (Touch.be (F:=(·=mb)) g2 (λk hk=>aa)) (a.ax T1 (λe=>c.ne a e.symm));exact⟨⟨_,b2,(vA (vA hs T1 (λb hb=>.inr (by subst hb;obtain⟨_,D,⟨es,clock,h,_⟩,_⟩:=c;exact⟨es,clock,h⟩))) T2 (λb hb=>.inl ⟨_,_,by subst hb;exact a1,av,av⟩)),m1.ax T2 (λe=>m1.ne a1 e)⟩,(T1.mono (λ_ h=>.inr h)).and T2 (λb hb=>.inl (.inl hb))⟩
end
section
open Go.Maps
def Bv(l:List ab)(full:List aj):ab:=match dM l full with
 | .ok k=>recAt l k
 | .error _=>tI
def PX(M:cO)(nx:Nat)(l':List ab)(id:Nat):cO:={M with next:=nx,l:=l',B:=tD M.B id pF}
def pS(M:cO)(full:List aj):Bool->Except Nat (Nat × List ab)
 | true=>(dQ M.next M.l full).map (λr=>(r.1,r.2.1))
 | false=>(cE M.next M.l full).map (λr=>(r.1,r.2.1))
def v8(M:cO)(full:List aj)(r:Except Nat (Nat × List ab)):Nat × cO:=match r with
 | .error n=>(n,M)
 | .ok (nx,l')=>(0,PX M nx l' (Bv M.l full).id)
def ls(M:cO)(full:List aj):Nat × cO:=match cY full with
 | none=>(141,M)
 | some (_,sn)=>v8 M full (pS M full (decide (sn=[])))
theorem YT(hg:o.guard=none)(m x:bR)(hop:o.op=Op.call {callee:=Callee.builtin Builtin.delete,args:=#[m,x],argTypes:=#[74,70]})(kb n:Nat)(B:Nat->List k3)(hm:a.eval m=.map (some kb))(h:eL w kb n B)(i:Nat)(hx:a.eval x=u6 (i:Int))(hi:i<18446744073709551616)(hK:∀w',eL w' kb n (tD B i pF)->w.grownBy w' (some kb)->wpList prog ops Q rest (a.put o.dst (.tuple #[])) w'):wpList prog ops Q (o::rest) a w:=by refine h' hg λK' hK'=>?_;obtain⟨w',hrun,r1,r2⟩:=h.del i hi o.type;unfold Ace;simp[Abt,hop,resolve,invoke,builtin,hm,hx,hrun,Aar];exact hK' _ _ (hK w' r1 r2)
def JT(l:List ab)(full:List aj)(w:af)(e:Ab3)(w':af):Prop:=∃(y:ab)(da:Option Addr)(dc n:Nat),y=Bv l full/\e=.returned (.tuple #[.agg (b7 y (.slice da (κ y.dead) dc)),.int .i64 (n:Int)])/\Up w w'
theorem JT.of{l:List ab}{full:List aj}{w w':af}(h:Sn l (dM l full) w e w'):JT l full w e w':=by
 rcases h with⟨n,hn,rfl,u⟩|⟨k,vd,hk,hkl,rfl,od,u⟩
 ·exact⟨tI,none,0,n,by grind [Bv],rfl,u⟩
 ·obtain⟨da,dc,rfl⟩:=(ak.row od pw).slice;exact⟨recAt l k,da,dc,0,by grind [Bv],rfl,u⟩
theorem Lb(w:af)(mb kb n:Nat)(M:cO)(A:bg w mb kb n M)(hn:n<1000000)(I:JO M)(full:List aj)(hf:κ full<=9223372036854775807):Aaf Aag 81 #[.pointer (some ⟨mb,0,none⟩),.string (strOf full)] w (Cz mb kb n (ls M full) w):=by
 obtain⟨w0,rfl⟩:=bE w;have HA:=an A;obtain⟨vb,bm,os,ma⟩:=A;have hv:=os.cA;obtain⟨a,cap,rfl⟩:=hv.slice;have c1:w0.cell? ⟨mb,1,none⟩=some (.slice a (κ M.l) cap):=bm.cell 1;have rg:=n5 bm;have YI:(Bv M.l full).id<18446744073709551616:=by
  unfold Bv;split
  ·rename_i k hk;exact(I.wf _ (aL (lR hk))).1
  ·show(0:Nat)<_;omega
 have s:=Fr.start w0;go_in;go_wp2_with(refine fw s ?_;intro _ w s);refine(jc _ full hf).mono ?_;refine ez ?_;intro w u s;cases hs:cY full with
 | none=>simp only[gx];go_wp2_with(refine fw s ?_;intro _ w s);refine br ?_;rw[show ls M full=(141,M)from by unfold ls;rw[hs]];exact Cz.bV HA s.pure
 | some vs=>
  obtain⟨vn,sn⟩:=vs;simp only[gx];have aa:=fX sn;have DM:=an (show ls M full=v8 M full (pS M full (decide (sn=[])))from by unfold ls;rw[hs]);replace hs:=an hs;generalize decide (sn=[])=bs at *;go_wp2_with(refine fw s ?_;intro _ w s);refine(rC w _ M.l (hv.up s.pure) I.hr full hf).mono ?_;intro e w h4;obtain⟨y,da,dc,n4,ay,rfl,u⟩:=JT.of h4;have hy:=an ay;rw[<-ay]at YI;clear ay h4;have s:=s.up u;cases bs
  ·go_wp2_with(refine fw s ?_;intro _ w s);refine(tY w M.next _ M.l (hv.up s.pure) I.hl I.hr full hf).mono ?_;rintro e w(⟨r,nx,va,vm,vc,hr,rfl,u⟩|⟨nx,l2,x,v',vd,hr,rfl,os7,aq,u⟩)
   ·have nz:((r:Int) != 0)=true:=by have:=CD hr;simp;omega
    exact M9
   ·exact Zc
  ·go_wp2_with(refine fw s ?_;intro _ w s);refine(xq w M.next _ M.l (hv.up s.pure) I.hl I.hr full hf).mono ?_;rintro e w(⟨r,nx,va,vm,vc,hr,rfl,u⟩|⟨nx,l2,x,v',vd,hr,rfl,os7,aq,u⟩)
   ·have nz:((r:Int) != 0)=true:=by have:=t' hr;simp;omega
    exact M9
   ·exact Zc
end
section
open Go.Maps
structure iR where
 kind:Int
 name:List aj
 to:List aj
 n:Int
 data:List aj
def hX(o:iR)(vd vk:ah):Array ah:=#[.int .i64 o.kind,.string (strOf o.name),.string (strOf o.to),.int .i64 o.n,vd,vk]
def jg(r:Except Nat (Nat × List ab))(W:af)(nx:Nat)(va:Option Addr)(vm vc n:Nat):Prop:=(r=.error n/\n≠0)\/∃l',r=.ok (nx,l')/\n=0/\bt W 0 (.slice va vm vc) l'
section
variable {r:Except Nat (Nat × List ab)} {w w':af} {e:Ab3} {nx:Nat} {va:Option Addr} {vm vc n:Nat}
theorem jg.of(h:Ht r w e w')(hn:∀n,r=.error n->n≠0):∃nx va vm vc n,e=rt #[.agg (aQ nx (.slice va vm vc)),i6 ((n:Nat):Int)]/\jg r w' nx va vm vc n/\Up w w':=by
 rcases h with⟨n,nx,va,vm,vc,hr,rfl,u⟩|⟨nx,l',v',hr,rfl,os,u⟩
 ·exact⟨nx,va,vm,vc,n,rfl,.inl ⟨hr,hn n hr⟩,u⟩
 ·obtain⟨a,c,rfl⟩:=os.cA.slice;exact⟨nx,a,κ l',c,0,rfl,.inr ⟨l',hr,rfl,os.mono (bG _)⟩,u⟩
theorem jg.up(h:jg r w nx va vm vc n)(u:Up w w'):jg r w' nx va vm vc n:=by
 rcases h with h|⟨l',hr,h0,os⟩
 ·exact .inl h
 ·exact .inr ⟨l',hr,h0,os.up u⟩
theorem jg.grown{q:Nat}{t:Aab}{C:Array ah}(h:jg r w nx va vm vc n)(b:aI w q t C)(ht:t≠90/\t≠87)(g:w.grownBy w' (some q)):jg r w' nx va vm vc n:=by
 rcases h with h|⟨l',hr,h0,os⟩
 ·exact .inl h
 ·exact .inr ⟨l',hr,h0,vA os (Touch.be (F:=(·=q)) g (λk hk=>aa)) (λk hk=>.inl ⟨_,_,by subst hk;exact b,ht⟩)⟩
end
def ID(M:cO)(l':List ab):ab:=match aK l' M.next with
 | some k=>recAt l' k
 | none=>tI
def h2(M:cO)(r:Except Nat (Nat × List ab)):Nat × cO:=match r with
 | .error n=>(n,M)
 | .ok (nx,l')=>(0,r5 M nx l' (ID M l'))
def vC(M:cO)(r:Except Nat (Nat × List ab)):Nat × cO:=match r with
 | .error n=>(n,M)
 | .ok (nx,l')=>(0,r5 {M with st:=M.st+1} nx l' (ID M l'))
def xg(M:cO)(r:Except Nat (Nat × List ab)):Nat × cO:=match r with
 | .error n=>(n,M)
 | .ok (nx,l')=>(0,{M with next:=nx,l:=l'})
def cZ:cQ:=⟨aM,rfl⟩
def Sh(mb kb n:Nat)(s:cQ)(r:Nat × cO)(w:af)(e:Ab3)(w':af):Prop:=e=.returned (.tuple #[.agg (aD s.val),.int .i64 (r.1:Int)])/\bg w' mb kb (n+1) r.2/\Touch (λb=>b=mb\/b=kb) w w'
theorem nE{w w7 wz:af}{mb kb n q:Nat}{M:cO}{F:Nat->Prop}(A:bg w7 mb kb n M)(T:Touch F w w7)(B:aI w7 q 60 C)(hq:w.heap.size<=q)(hg:w7.grownBy wz (some q)):bg wz mb kb n M/\Touch F w wz:=by have T1:=Touch.be (F:=(·=q)) hg (λk hk=>aa);obtain⟨vb,a,b,c⟩:=A;refine⟨bg.ax ⟨vb,a,b,c⟩ T1 (λe=>eS a B av e) (λe=>c.ne B e) (λk hk=>.inl ⟨_,_,by subst hk;exact B,av,av⟩),T.and T1 (λk hk=>.inr ae)⟩
def Kf{next:Nat}{l:List ab}{full:List aj}{b:Int}(n:Nat)(h:cD next l full b=.error n):n≠0:=xm h
def PD{next:Nat}{l:List ab}{full to:List aj}(n:Nat)(h:dq next l full to=.error n):n≠0:=zT h
def V'{next:Nat}{l:List ab}{full:List aj}(n:Nat)(h:eG next l full st=.error n):n≠0:=D2 h
def IY{next:Nat}{l:List ab}{full:List aj}(n:Nat)(h:cp next l full=.error n):n≠0:=vr h
theorem do8(w:af)(mb kb n:Nat)(M:cO)(A:bg w mb kb n M)(hn:n<1000000)(I:JO M)(o:iR)(vd vk:ah)(hk:o.kind=8)(hf:κ o.name<=9223372036854775807):Aaf Aag 29 #[pz mb,.agg (hX o vd vk)] w (Sh mb kb n cZ (ls M o.name) w):=by refine Uo ?_;intro w2 hw2 u1 u2 b1 b2 UU HW2 HA HN IS c0 c1;rw[hw2]at c1;rw[hw2]at c0;rw[hk]at c0;clear hk;go_in;go_wp2_with(refine arm ?_);rw[<-HW2.out];refine(Lb _ _ _ n M HA hn I _ hf).mono ?_;rintro e w3⟨rfl,A3,T3⟩;have B3:=an (b2.ax T3 (by obtain⟨vb,a,b,c⟩:=HA.out;rintro(h|h);exact eS a b2 av h.symm;exact c.ne b2 h.symm));clear c0 c1;go_wp2_with(first|refine arm ?_|refine pH ?_);intro wz hbz ag;have H:=an (nE A3 ((Touch.bV (F:=λb=>b=mb\/b=kb) UU).and T3 (λb hb=>.inl hb)) B3 (gM _) ag);go_wp2;exact bN (hi:=IS) (.tuple #[.agg (aD aM),i6 (((ls M o.name).1:Nat):Int)]) hbz ⟨rfl,H.1,H.2⟩
theorem do1(w:af)(mb kb n:Nat)(M:cO)(A:bg w mb kb n M)(hn:n<1000000)(I:JO M)(o:iR)(vd vk:ah)(hk:o.kind=1)(hf:κ o.name<=9223372036854775807)(hb:aY w vd o.data)(aX:o.data≠[]->∀k,vd.ownBlock=some k->k≠mb/\k≠kb):Aaf Aag 29 #[pz mb,.agg (hX o vd vk)] w (Sh mb kb n cZ (jW M o.name o.n o.data) w):=by refine Uo ?_;intro w2 hw2 u1 u2 b1 b2 UU HW2 HA HN IS c0 c1;have c3:w2.cell? (ad w.heap.size 3)=some (i6 o.n):=b1.cell 3;have c4:w2.cell? (ad w.heap.size 4)=some vd:=b1.cell 4;rw[hw2]at c1;rw[hw2]at c3;rw[hw2]at c4;rw[hw2]at c0;rw[hk]at c0;clear hk;go_in;go_wp2_with(refine arm ?_);rw[<-HW2.out];refine(Ix _ _ _ n M HA hn I _ hf _ _ _ (aC.up hb UU) aX).mono ?_;rintro e w3⟨rfl,A3,T3⟩;have B3:=an (b2.ax T3 (by obtain⟨vb,a,b,c⟩:=HA.out;rintro(h|h);exact eS a b2 av h.symm;exact c.ne b2 h.symm));clear c0 c1 c3 c4;go_wp2_with(first|refine arm ?_|refine pH ?_);intro wz hbz ag;have H:=an (nE A3 ((Touch.bV (F:=λb=>b=mb\/b=kb) UU).and T3 (λb hb=>.inl hb)) B3 (gM _) ag);go_wp2;exact bN (hi:=IS) (.tuple #[.agg (aD aM),i6 (((jW M o.name o.n o.data).1:Nat):Int)]) hbz ⟨rfl,H.1,H.2⟩
theorem do3(w:af)(mb kb n:Nat)(M:cO)(A:bg w mb kb n M)(hn:n<1000000)(I:JO M)(o:iR)(vd vk:ah)(hk:o.kind=3)(hf:κ o.name<=9223372036854775807):Aaf Aag 29 #[pz mb,.agg (hX o vd vk)] w (Sh mb kb n (j4 M o.name o.n).1 ((j4 M o.name o.n).2,M) w):=by
 refine UB ?_;intro w2 hw2 u1 u2 b1 b2 UU HW2 HA HN;have CA:=an (Lc _ _ _ n M HA I o.name hf o.n);obtain⟨sr,aa⟩:=bE (j4 M o.name o.n);rw[<-aa]at CA ⊢;have IR:=an (show(prog.info? 60).map (·.size)=some (aD sr.1.val).size from by rw[dI,bT,sr.1.2]);clear aa;refine N2 ?_;intro c0 c1 c3;rw[hw2]at c1;rw[hw2]at c3;rw[hw2]at c0;clear hn;rw[hk]at c0;clear hf hk;go_in;go_wp2_with(refine arm ?_);rw[<-HW2.out];refine CA.mono ?_;rintro e w3⟨rfl,u3⟩;have B3:=an (b2.up u3);clear c0 c1 c3;go_wp2_with(first
  | refine dL 60 4 63 (aD sr.1.val) B3 (hi:=IR) (hold:=(by rw[bT,bT,sr.1.2];rfl)) ?_)
 intro wz hbz ag;have H:=an (nE ((HA.up u3).more) (Touch.bV (F:=λb=>b=mb\/b=kb) (UU.trans u3)) B3 (gM _) ag);go_wp2;exact bN (hi:=IR) (.tuple #[.agg (aD sr.1.val),i6 (sr.2:Int)]) hbz ⟨rfl,H.1,H.2⟩
def Vl(nx:Nat)(vb vm:ah)(st made:Nat):(n3 nx vb vm st made).setIfInBounds 3 (u6 ((st:Int)+1))=n3 nx vb vm (st+1) made:=rfl
theorem bg.stamped{mb kb n:Nat}{M:cO}(h:bg w mb kb n M):bg (w.setCell ⟨mb,3,none⟩ (u6 ((M.st:Int)+1))) mb kb n {M with st:=M.st+1}/\Touch (λb=>b=mb\/b=kb) w (w.setCell ⟨mb,3,none⟩ (u6 ((M.st:Int)+1))):=by obtain⟨vb,a,b,c⟩:=h;have T:=Touch.be (F:=(·=mb)) (bX a 3 (u6 ((M.st:Int)+1))) (λk hk=>aa);have a':=a.setCell 3 (u6 ((M.st:Int)+1));rw[Vl]at a';exact OE
theorem bg.IB{mb kb n:Nat}{M:cO}(h:bg w mb kb n M){q:Nat}{t:Aab}(b:aI w q t C)(ht:t≠76):¬(q=mb\/q=kb):=by
 obtain⟨vb,a,_,c⟩:=h;rintro(h|h)
 ·grind [eS]
 ·exact c.ne b h.symm
theorem do9(w:af)(mb kb n:Nat)(M:cO)(A:bg w mb kb n M)(hn:n<1000000)(I:JO M)(o:iR)(vd vk:ah)(hk:o.kind=9):Aaf Aag 29 #[pz mb,.agg (hX o vd vk)] w (Sh mb kb n cZ (0,{M with st:=M.st+1}) w):=by
 refine UB ?_;intro w2 hw2 u1 u2 b1 b2 UU HW2 HA HN;refine zo ?_;intro IS c0;clear hn;rw[hk]at c0;obtain⟨m,hm⟩:=bE (M.st);have aO:m<=100000000:=by rw[hm];exact I.st
 have aq:=an hm;have A2:=HA.out;have HS:=an A2.stamped;obtain⟨vm,bm,_,_⟩:=A2;have c4:w2.cell? (ad mb 3)=some (u6 (m:Int)):=by rw[hm];exact bm.cell 3
 have f4:=bm.free 3;rw[hw2]at c4 f4;clear hk hm hw2;go_in;go_wp2_with(first
  | refine gY 33 1 (hX o vd vk) ?_
  | refine bH 60 hM ?_
  | ((with_reducible refine eR _ _ ?_);refine ix ?_))
 rw[<-HW2.out];have h4:=HS.out;rw[<-aq.out]at h4;have b3:=b2.ax h4.2 (HA.IB b2 av);obtain⟨w4,hw4⟩:=bE (w2.setCell ⟨mb,3,none⟩ (u6 ((m:Int)+1)));rw[<-hw4]at h4 b3 ⊢;clear c4 f4 hw4 c0;refine an ?_;go_wp2_with(first
  | refine lX 60 hZ ?_
  | refine dL 60 4 157 (aD aM) b3 (hi:=IS) ?_)
 intro wz hbz ag;have H:=an (nE h4.1.more ((Touch.bV (F:=λb=>b=mb\/b=kb) UU).and h4.2 (λb hb=>.inl hb)) b3 (gM _) ag);go_wp2;exact bN (hi:=IS) (.tuple #[.agg (aD aM),i6 0]) hbz ⟨rfl,by have:=H.1;rw[aq.out]at this;exact this,H.2⟩
theorem doN(w:af)(mb kb n:Nat)(M:cO)(A:bg w mb kb n M)(hn:n<1000000)(I:JO M)(o:iR)(vd vk:ah)(hk:o.kind<0\/9<o.kind):Aaf Aag 29 #[pz mb,.agg (hX o vd vk)] w (Sh mb kb n cZ (0,M) w):=by
 refine Gt ?_;intro w2 hw2 u1 u2 b1 b2 UU HW2;have HN:=an hn;refine zo ?_;intro IS c0;clear hn;obtain⟨kd,aa⟩:=bE (o.kind);rw[<-aa]at c0 hk;refine UC ?_;intro e0 e1 e2 e3 e4 e5 e6 e7 e8 e9 B3;clear hk aa hw2;go_in;go_wp2_with(first
  | refine gY 33 1 (hX o vd vk) ?_
  | refine bH 60 hM ?_
  | ((with_reducible refine eR _ _ ?_);refine ix ?_))
 rw[<-HW2.out];clear c0;refine an ?_;go_wp2_with(first
  | refine lX 60 hZ ?_
  | refine dL 60 4 157 (aD aM) B3 (hi:=IS) ?_)
 intro wz hbz ag;have H:=an (nE ((A.up UU).more) (Touch.bV (F:=λb=>b=mb\/b=kb) UU) B3 (gM _) ag);go_wp2;exact bN (hi:=IS) (.tuple #[.agg (aD aM),i6 0]) hbz ⟨rfl,H.1,H.2⟩
end
section
open Go.Maps
def xf(next:Nat)(r:Except Nat (Nat × List ab)):Prop:=∀nx l',r=.ok (nx,l')->(∀x∈l',x.dead=[]/\x.wf)/\∃k,aK l' next=some k
theorem wK(w:af)(mb kb n:Nat)(M:cO)(A:bg w mb kb n M)(hn:n<1000000)(r:Except Nat (Nat × List ab))(nx:Nat)(va:Option Addr)(vm vc nn:Nat)(Q:jg r w nx va vm vc nn)(N:xf M.next r):Aaf Aag 73 #[pz mb,.agg (aQ nx (.slice va vm vc)),i6 (nn:Int)] w (Cz mb kb n (h2 M r) w):=by
 rcases Q with⟨hr,h0⟩|⟨l',hr,rfl,os⟩
 ·refine(K9 w mb nx nn va vm vc h0).mono ?_;grind [h2,Cz.bV]
 ·obtain⟨h1,k,hk⟩:=N nx l' hr;refine(QB w mb kb n M A hn nx _ l' 0 os (λx hx=>aa) k hk (λx hx=>(h1 x hx).2)).mono ?_;rintro e w'⟨rfl,a,t⟩;rw[show h2 M r=(0,r5 M nx l' (recAt l' k))from by grind [h2,ID]];exact⟨rfl,a,t⟩
theorem do0(w:af)(mb kb n:Nat)(M:cO)(A:bg w mb kb n M)(hn:n<1000000)(I:JO M)(o:iR)(vd vk:ah)(hk:o.kind=0)(hf:κ o.name<=9223372036854775807)(aj:xf M.next (cD M.next M.l o.name o.n)):Aaf Aag 29 #[pz mb,.agg (hX o vd vk)] w (Sh mb kb n cZ (h2 M (cD M.next M.l o.name o.n)) w):=by
 refine F4 ?_;intro w2 hw2 u1 u2 b1 b2 UU B1 B2 HW2 HA HN HI IS vb bm os ma hv;obtain⟨a,cap,rfl⟩:=hv.slice;obtain⟨CA,RNZ⟩:=aw (λW (u:Up w2.drew W)=>z1 W M.next _ M.l ((hv.up (Up.drew (Up.refl w2))).up u) I.hl I.hr FR o.name hf o.n) (λn (h:cD M.next M.l o.name o.n=.error n)=>Kf n h);obtain⟨RR,ak⟩:∃z:Subtype (λ_:Except Nat (Nat × List ab)=>True),z=⟨cD M.next M.l o.name o.n,trivial⟩:=⟨_,rfl⟩;have aB:=an (show RR.val=cD M.next M.l o.name o.n from by rw[ak]);rw[<-aB.out]at CA RNZ aj ⊢;have HNEW:=an aj;refine K8 ?_;clear hn hf hk ak;intro c0;go_wp2_with(refine arm ?_);refine Vb ?_;clear c0 hw2 HW2;intro UD ao;generalize w2.drew=w4 at *;refine zj ?_;intro us;refine tb 3 rfl (yp (λ_ h=>h.range (UD.range (n5 bm))) (eu _ _) underlying73) ?_;refine ta 4 ?_;refine tb 5 rfl (yc (λ_ h=>h.cell (ao.cell 1))) ?_;refine ta 6 ?_;refine tb 7 rfl (yc (λ_ h=>h.cell (ao.cell 3))) ?_;refine bx ?_;refine(λ(FIN:∀(q:Nat)(W:af)(nx:Nat)(va:Option Addr)(vm vc nn:Nat),Hid (Up w4 W/\aI W q 73 (aQ 0 (nl))/\w4.heap.size<=q/\jg RR.val W nx va vm vc nn)->(?G1:Nat->af->Nat->Option Addr->Nat->Nat->Nat->Prop) q W nx va vm vc nn)=>?main) ?tail
 case main=>exact N3
 case tail=>intro q W nx va vm vc nn HP;refine ok 13 ?_;intro K hK;refine iA _ (.tmp 6) (.tmp 28) rfl q _ rfl rfl _ _ HP.2.1 (eu _ _) rfl (jh _ _ _ _) ?_;exact Zf
end
section
open Go.Maps
theorem do5(w:af)(mb kb n:Nat)(M:cO)(A:bg w mb kb n M)(hn:n<1000000)(I:JO M)(o:iR)(vd vk:ah)(hk:o.kind=5)(hf:κ o.name<=9223372036854775807)(av:κ o.to<=9223372036854775807)(aj:xf M.next (dq M.next M.l o.name o.to)):Aaf Aag 29 #[pz mb,.agg (hX o vd vk)] w (Sh mb kb n cZ (h2 M (dq M.next M.l o.name o.to)) w):=by
 refine F4 ?_;intro w2 hw2 u1 u2 b1 b2 UU B1 B2 HW2 HA HN HI IS vb bm os ma hv;obtain⟨a,cap,rfl⟩:=hv.slice;obtain⟨CA,RNZ⟩:=aw (λW (u:Up w2.drew W)=>Db W M.next _ M.l ((hv.up (Up.drew (Up.refl w2))).up u) I.hl I.hr FR o.name o.to hf av) (λn (h:dq M.next M.l o.name o.to=.error n)=>PD n h);obtain⟨RR,ak⟩:∃z:Subtype (λ_:Except Nat (Nat × List ab)=>True),z=⟨dq M.next M.l o.name o.to,trivial⟩:=⟨_,rfl⟩;have aB:=an (show RR.val=dq M.next M.l o.name o.to from by rw[ak]);rw[<-aB.out]at CA RNZ aj ⊢;have HNEW:=an aj;have c0:w2.cell? (ad w.heap.size 0)=some (i6 o.kind):=B1.cell 0;rw[hw2]at c0;clear hn;rw[hk]at c0;clear hf hk ak av;go_in;go_wp2_with(refine arm ?_);refine Vb ?_;clear c0 hw2 HW2;intro UD ao;generalize w2.drew=w4 at *;refine zj ?_;intro us;refine tb 3 rfl (yp (λ_ h=>h.range (UD.range (n5 bm))) (eu _ _) underlying73) ?_;refine ta 4 ?_;refine tb 5 rfl (yc (λ_ h=>h.cell (ao.cell 1))) ?_;refine ta 6 ?_;refine tb 7 rfl (yc (λ_ h=>h.cell (ao.cell 2))) ?_;refine bx ?_;refine(λ(FIN:∀(q:Nat)(W:af)(nx:Nat)(va:Option Addr)(vm vc nn:Nat),Hid (Up w4 W/\aI W q 73 (aQ 0 (nl))/\w4.heap.size<=q/\jg RR.val W nx va vm vc nn)->(?G1:Nat->af->Nat->Option Addr->Nat->Nat->Nat->Prop) q W nx va vm vc nn)=>?main) ?tail
 case main=>exact N3
 case tail=>intro q W nx va vm vc nn HP;refine ok 13 ?_;intro K hK;refine iA _ (.tmp 10) (.tmp 107) rfl q _ rfl rfl _ _ HP.2.1 (eu _ _) rfl (jh _ _ _ _) ?_;exact Zf
end
section
open Go.Maps
theorem do6(w:af)(mb kb n:Nat)(M:cO)(A:bg w mb kb n M)(hn:n<1000000)(I:JO M)(o:iR)(vd vk:ah)(hk:o.kind=6)(hf:κ o.name<=9223372036854775807):Aaf Aag 29 #[pz mb,.agg (hX o vd vk)] w (Sh mb kb n cZ (xg M (cp M.next M.l o.name)) w):=by
 refine F4 ?_;intro w2 hw2 u1 u2 b1 b2 UU B1 B2 HW2 HA HN HI IS vb bm os ma hv;obtain⟨a,cap,rfl⟩:=hv.slice;obtain⟨CA,RNZ⟩:=aw (λW (u:Up w2.drew W)=>xM W M.next _ M.l ((hv.up (Up.drew (Up.refl w2))).up u) I.hl I.hr o.name hf) (λn (h:cp M.next M.l o.name=.error n)=>IY n h);obtain⟨RR,ak⟩:∃z:Subtype (λ_:Except Nat (Nat × List ab)=>True),z=⟨cp M.next M.l o.name,trivial⟩:=⟨_,rfl⟩;have aB:=an (show RR.val=cp M.next M.l o.name from by rw[ak]);rw[<-aB.out]at CA RNZ ⊢;refine K8 ?_;clear hn hf hk ak;intro c0;go_wp2_with(refine arm ?_);rw[<-HW2.out];refine e8 (S:=Up w2.drew) al ?_;refine On ?_;intro UD;clear c0 hw2 HW2;generalize w2.drew=w4 at *;refine zj ?_;intro us;refine tb 3 rfl (yp (λ_ h=>h.range (UD.range (n5 bm))) (eu _ _) underlying73) ?_;refine ta 4 ?_;refine tb 5 rfl (yc (λ_ h=>h.cell ((B1.up UD).cell 1))) ?_;refine bx ?_;refine(λ(FIN:∀(q:Nat)(W:af)(nx:Nat)(va:Option Addr)(vm vc nn:Nat),Hid (Up w4 W/\aI W q 73 (aQ 0 (nl))/\w4.heap.size<=q/\jg RR.val W nx va vm vc nn)->(?G1:Nat->af->Nat->Option Addr->Nat->Nat->Nat->Prop) q W nx va vm vc nn)=>?main) ?tail
 case main=>
  refine pX 6 10 al rfl rfl rfl rfl ?_ ?_
  ·intro K hK;go_simp;refine(CA w4 (Up.refl _)).mono ?_;intro e w5 h;obtain⟨nx,va,vm,vc,nn,rfl,rq,u5⟩:=jg.of h RNZ;refine U2 ?_;clear hK K;intro u6 b6 aC s5;refine F' ?_;refine ok 10 ?_;exact UX
  ·refine U3 ?_;intro u5 b5;refine ok 6 ?_;intro K hK;go_simp;refine(CA _ u5).mono ?_;intro e W h;obtain⟨nx,va,vm,vc,nn,rfl,rq,au⟩:=jg.of h RNZ;obtain⟨u6,b6,s5⟩:=cX (u5.trans au) (b5.up au) (aE w4.heap.size);refine hK _ _ u6 ?_;refine gF ?_;clear hK K;obtain⟨q,hq⟩:=bE (w4.heap.size);rw[<-hq]at b6 ⊢;refine F' ?_;exact FIN q W nx va vm vc nn (an ⟨u6,b6,ae,rq⟩)
 case tail=>
  intro q W nx va vm vc nn HP;obtain⟨IB,OB⟩:=aw (eu nx (.slice va vm vc)) (jh nx va vm vc);refine ok 11 ?_;intro K hK;refine iA _ (.tmp 12) (.tmp 124) rfl q _ rfl rfl _ _ HP.2.1 IB rfl OB ?_;intro w6 aV aG;have u6:=HP.1.grown aG (λk hk=>by cases hk;exact HP.2.2.1);obtain⟨U6,A6,aa⟩:=aW ((UU.trans UD).trans u6) ((HA.up UD).up u6) ((B2.up UD).up u6);refine hK _ _ u6 ?_;clear hK K CA RNZ;refine bx ?_;refine ta 12 ?_;refine ng ?_;rcases(HP.2.2.2.grown HP.2.1 av aG)with⟨hr,h0⟩|⟨l2,hr,h0,ao⟩
  ·have hne:((nn:Int)==0)=false:=by simp;omega
   obtain⟨E,AA,TT⟩:=aW (show xg M RR.val=(nn,M)from by rw[hr];rfl) A6.more (Touch.bV (F:=λb=>b=mb\/b=kb) U6);clear hr h0;go_wp2_with(first|refine arm ?_|refine pH ?_);intro wz hbz ag;obtain⟨BZ,H⟩:=aw hbz (nE AA TT aa (gM _) ag);go_wp2;(try simp only[exi]);exact bN (hi:=IS) (.tuple #[.agg (aD aM),i6 (nn:Int)]) BZ ⟨y',F3,H.2⟩
  ·subst h0;have E:=an (show xg M RR.val=(0,{M with next:=nx,l:=l2})from by rw[hr];rfl);have aJ:=A6;obtain⟨aK,ar,aP,aF⟩:=aJ;clear hr;go_wp2_with(first
    | refine arm ?_
    | ((with_reducible refine cB _ _ _ ?_);refine cc rfl _ (.tmp 131) (.tmp 129) rfl _ 0 _ rfl rfl _ _ ar IB (by simp[n3,aQ]) OB ?_))
   intro w8 aj ay;rw[Bf]at aj;have T8:=Touch.be (F:=(·=mb)) ay (λk hk=>oN);obtain⟨AA,TT,B8⟩:=aW (show bg w8 mb kb (n+1) {M with next:=nx,l:=l2} from⟨_,aj,vA ao T8 (λb hb=>.inl ⟨_,_,by subst hb;exact ar,av,av⟩),(aF.ax T8 (λe=>aF.ne ar e)).mono (gM _)⟩) ((Touch.bV (F:=λb=>b=mb\/b=kb) U6).and T8 (λb hb=>.inl (.inl hb))) (aa.ax T8 (λe=>eS ar aa av e.symm));go_wp2_with(first|refine arm ?_|refine pH ?_);intro wz hbz ag;have H:=an (nE AA TT B8 (gM _) ag);go_wp2;(try simp only[exi]);exact bN (hi:=IS) (.tuple #[.agg (aD aM),i6 0]) hbz ⟨y',F3,H.2⟩
end
section
open Go.Maps
theorem do4(w:af)(mb kb n:Nat)(M:cO)(A:bg w mb kb n M)(hn:n<1000000)(I:JO M)(o:iR)(vd vk:ah)(hk:o.kind=4)(hf:κ o.name<=9223372036854775807)(aj:xf M.next (eG M.next M.l o.name M.st)):Aaf Aag 29 #[pz mb,.agg (hX o vd vk)] w (Sh mb kb n cZ (vC M (eG M.next M.l o.name M.st)) w):=by
 refine F4 ?_;intro w2 hw2 u1 u2 b1 b2 UU B1 B2 HW2 HA HN HI IS vb bm os ma hv;obtain⟨a,cap,rfl⟩:=hv.slice;obtain⟨CA,RNZ⟩:=aw (λW (u:Up w2.drew W)=>Jm W M.next _ M.l ((hv.up (Up.drew (Up.refl w2))).up u) I.hl I.hr FR o.name hf M.st (by have:=I.st;omega)) (λn (h:eG M.next M.l o.name M.st=.error n)=>V' n h);obtain⟨RR,ak⟩:∃z:Subtype (λ_:Except Nat (Nat × List ab)=>True),z=⟨eG M.next M.l o.name M.st,trivial⟩:=⟨_,rfl⟩;have aB:=an (show RR.val=eG M.next M.l o.name M.st from by rw[ak]);rw[<-aB.out]at CA RNZ aj ⊢;have HNEW:=an aj;refine K8 ?_;clear hn hf hk ak;intro c0;go_wp2_with(refine arm ?_);rw[<-HW2.out];refine e8 (S:=Up w2.drew) al ?_;change Acp _ _ _ _ _ 17 #[false,false,false,false,false,false,false,false,false,false,false,false,false,false,false,false,false] _ (w2.drew);have UD:=an (Up.drew (Up.refl w2));have A4:=an (HA.up UD);clear c0 hw2 HW2;generalize w2.drew=w4 at *;refine zj ?_;intro us;refine tb 3 rfl (yp (λ_ h=>h.range (UD.range (n5 bm))) (eu _ _) underlying73) ?_;refine ta 4 ?_;refine tb 5 rfl (yc (λ_ h=>h.cell ((B1.up UD).cell 1))) ?_;refine ta 6 ?_;refine ta 7 ?_;refine ta 8 ?_;refine tb 9 rfl (yc (λ_ h=>h.cell (by obtain⟨_,bm,_,_⟩:=A4.out;exact bm.cell 3))) ?_;refine bx ?_;refine(λ(FIN:∀(q:Nat)(W:af)(nx:Nat)(va:Option Addr)(vm vc nn:Nat),Hid (Up w4 W/\aI W q 73 (aQ 0 (nl))/\w4.heap.size<=q/\jg RR.val W nx va vm vc nn)->(?G1:Nat->af->Nat->Option Addr->Nat->Nat->Nat->Prop) q W nx va vm vc nn)=>?main) ?tail
 case main=>
  refine pX 10 14 al rfl rfl rfl rfl ?_ ?_
  ·intro K hK;go_simp;refine(CA w4 (Up.refl _)).mono ?_;intro e w5 h;obtain⟨nx,va,vm,vc,nn,rfl,rq,u5⟩:=jg.of h RNZ;refine U2 ?_;clear hK K;intro u6 b6 aC s5;refine ta 11 ?_;refine ta 12 ?_;refine ta 13 ?_;refine bx ?_;refine ok 14 ?_;exact UX
  ·refine U3 ?_;intro u5 b5;refine ok 10 ?_;intro K hK;go_simp;refine(CA _ u5).mono ?_;intro e W h;obtain⟨nx,va,vm,vc,nn,rfl,rq,au⟩:=jg.of h RNZ;obtain⟨u6,b6,s5⟩:=cX (u5.trans au) (b5.up au) (aE w4.heap.size);refine hK _ _ u6 ?_;refine gF ?_;clear hK K;obtain⟨q,hq⟩:=bE (w4.heap.size);rw[<-hq]at b6 ⊢;refine ta 11 ?_;refine ta 12 ?_;refine ta 13 ?_;refine bx ?_;exact FIN q W nx va vm vc nn (an ⟨u6,b6,ae,rq⟩)
 case tail=>
  intro q W nx va vm vc nn HP;refine ok 15 ?_;intro K hK;refine iA _ (.tmp 8) (.tmp 79) rfl q _ rfl rfl _ _ HP.2.1 (eu _ _) rfl (jh _ _ _ _) ?_;intro w6 aV aG;have u6:=HP.1.grown aG (λk hk=>by cases hk;exact HP.2.2.1);obtain⟨U6,RQ,BQ,A6,aa⟩:=eQ ((UU.trans UD).trans u6) (HP.2.2.2.grown HP.2.1 av aG) aV (A4.up u6) ((B2.up UD).up u6);refine hK _ _ u6 ?_;clear hK K HP aG aV CA RNZ;refine bx ?_;refine ta 16 ?_;refine bx ?_;refine yC al ?_ _;clear u6;rcases RQ.out with⟨hr,h0⟩|⟨l2,hr,h0,ao⟩
  ·have hne:((nn:Int)==0)=false:=by simp;omega
   have E:=an (show vC M RR.val=h2 M RR.val from by rw[hr];rfl);clear hr h0;go_wp2_with(refine arm ?_);refine(wK _ _ _ n M A6 HN RR.val _ _ _ _ _ RQ HNEW).mono ?_;rintro e w7⟨rfl,A7,T7⟩;obtain⟨B7,AA,TT⟩:=aW (aa.ax T7 ((A6).IB aa av)) A7 ((Touch.bV (F:=λb=>b=mb\/b=kb) U6).and T7 (λb hb=>.inl hb));clear A7 T7;go_wp2_with(first|refine arm ?_|refine pH ?_);intro wz hbz ag;obtain⟨BZ,H⟩:=aw hbz (nE AA TT B7 (gM _) ag);clear hbz ag;go_wp2_with fail;(try simp only[exi]);exact bN (hi:=IS) (.tuple #[.agg (aD aM),i6 ((h2 (M) RR.val).1:Int)]) BZ ⟨y',F3,H.2⟩
  ·subst h0;have E:=an (show vC M RR.val=h2 {M with st:=M.st+1} RR.val from by rw[hr];rfl);obtain⟨m,hm⟩:=bE (M.st);have aO:m<=100000000:=by rw[hm];exact HI.st
   have aq:=an hm;have aJ:=A6;obtain⟨aK,ar,aP,aF⟩:=aJ;have c4:w6.cell? (ad mb 3)=some (u6 (m:Int)):=by rw[hm];exact ar.cell 3
   have f4:=ar.free 3;have ay:=an (show jg RR.val (w6.setCell ⟨mb,3,none⟩ (u6 ((M.st:Int)+1))) nx va vm vc 0 from RQ.grown ar av (bX ar 3 _));clear hr ao ar aP aF hm;go_wp2_with(first
    | ((with_reducible refine eR _ _ ?_);refine ix ?_))
   obtain⟨h8,r8⟩:=az A6.stamped ay.out;rw[<-aq.out]at h8 r8;have b8:=aa.ax h8.2 (A6.IB aa av);have q8:=BQ.ax h8.2 (A6.IB BQ av);obtain⟨w8,aH⟩:=bE (w6.setCell ⟨mb,3,none⟩ (u6 ((m:Int)+1)));rw[<-aH]at h8 b8 q8 r8 ⊢;obtain⟨A8,B8,Q8,R8⟩:=bS (show bg w8 mb kb n {M with st:=M.st+1} from by have:=h8.1;rw[aq.out]at this;exact this) b8 q8 r8;clear c4 f4 aH b8 q8 r8 ay;refine an ?_;go_wp2_with(refine arm ?_);refine(wK _ _ _ n _ A8 HN RR.val _ _ _ _ _ R8 HNEW).mono ?_;rintro e w7⟨rfl,A7,T7⟩;obtain⟨B7,AA,TT⟩:=aW (B8.ax T7 ((A8).IB B8 av)) A7 (((Touch.bV (F:=λb=>b=mb\/b=kb) U6).and h8.2 (λb hb=>.inl hb)).and T7 (λb hb=>.inl hb));clear A7 T7;go_wp2_with(first|refine arm ?_|refine pH ?_);intro wz hbz ag;obtain⟨BZ,H⟩:=aw hbz (nE AA TT B7 (gM _) ag);clear hbz ag;go_wp2_with fail;(try simp only[exi]);exact bN (hi:=IS) (.tuple #[.agg (aD aM),i6 ((h2 ({M with st:=M.st+1}) RR.val).1:Int)]) BZ ⟨y',F3,H.2⟩
end
section
open Go.Maps
theorem LX(w:af)(v:ah)(l:List ab)(hv:bt w 0 v l)(hl:κ l<=1000):Aaf Aag 71 #[v] w λe w'=>∃v',e=.returned v'/\bt w' 0 v' l/\Up w w':=by
 obtain⟨ys,hy,hr,hd⟩:=hv;have bh:κ ys<=1000:=aP
 have row:=ak.row hr lK;obtain⟨a,cap,rfl⟩:=row.slice;obtain⟨HD,HY⟩:=aw hd hy;cases a with
 | none=>
  have h0:ys=[]:=by
   rcases row with⟨h,_⟩|⟨b,off,cp,h1,_⟩
   ·exact h
   ·simp at h1
  subst h0;have EQ:∀W,(binOp .eql 71 (.slice none 0 cap) (nl)).run Aag W=.ok (.bool true) W:=λW=>y0 W 71 90 none _ cap 0 0 underlying71;clear hd hy;rw[Aa5];go_in;go_wp2;go_ret;exact⟨_,rfl,⟨[],HY,ak.nil _ _ _ _ _,λy hy=>aP⟩,Up.refl _⟩
 | some ad=>
  have U0:=an (ai w (.cells #[] 90));have EQ:∀W,(binOp .eql 71 (.slice (some ad) (κ ys) cap) (nl)).run Aag W=.ok (.bool false) W:=λW=>y0 W 71 90 (some ad) _ cap 0 0 underlying71;clear hd hy;go_in;go_wp2_with(first
   | (at_builtin;refine bI lK rfl (.tmp 5) (.tmp 6) 71 rfl _ _ _ _ underlying71 j' rfl _ _ rfl (ak.made _ _ _ w _ (aE _)) _ _ rfl (aG.up row U0) ao ao U0.size ?_))
  intro v2 w2 aa ag ae;have U2:=an (U0.aF ae (aE _));go_wp2_with fail;go_ret;exact⟨_,rfl,⟨ys,HY,aa.mono (bG _),λy hy=>ak.up (HD y hy) U2⟩,U2⟩
theorem CE(w:af)(d:Nat)(t k e:Aab)(p:Option Nat)(h:P.underlying t=some (.map k e)):(Ac3 (d+1) t (.map p) (.map none)).run P w=.ok p.isNone w:=by cases p<;>simp[Ac3,run_underlying h]
theorem HV(w:af)(t k e:Aab)(p:Option Nat)(h:P.underlying t=some (.map k e)):(binOp .eql t (.map p) (.map none)).run P w=.ok (.bool p.isNone) w:=by simp only[binOp];simp[show Op.equal t (.map p) (.map none)=Ac3 (9999+1) t (.map p) (.map none)from rfl,CE w 9999 t k e p h]
theorem JV(w:af)(t k e xT:Aab)(v:ah)(h:P.underlying t=some (.map k e)):(Instr.typeAssert (.iface t v) xT t false).run P w=.ok v w:=by simp[Instr.typeAssert,run_underlying h,go_sem,Aar]
theorem HL(w:af){r:Nat}{es:Array MapEntry}{clock:Nat}(t:Aab)(hb:w.heap[r]?=some (.map es clock)):(Acn #[.iface t (.map (some r))]).run Aag w=.ok (.iface t (.map (some w.heap.size))) (w.alloc (.map es clock)):=by
 have e:Acn #[.iface t (.map (some r))]=(getObj r >>= λo=>match o with
  | .map entries clock=>(newObj (.map entries clock) >>= λn=>pure (.iface t (.map (some n))))
  | _=>stuck "maps.clone: a map expected"):=rfl
 rw[e];simp[MapKept.run_getObj_map hb,Aar,go_sem]
theorem Gw(w:af)(kb n:Nat)(B:Nat->List k3)(h:eL w kb n B):Aaf Aag 72 #[.map (some kb)] w λe w'=>e=.returned (.map (some w.heap.size))/\eL w' w.heap.size n B/\Up w w':=by have HH:=an h;obtain⟨_,D,⟨es,clock,hb,_⟩,_⟩:=h;have hq:=λW=>HV (P:=Aag) W 74 _ _ (some kb) underlying74;go_in;go_wp2;rw[run_callFunc_extern func136 aA aA al (e:=Acn) al,HL w _ hb];simp only[Aar];rw[Fg];go_wp2;rw[JV _ _ _ _ _ _ underlying74];simp only[Aar];rw[Fg];go_wp2;go_ret;have hB:Up w (w.alloc (.map es clock)):=ai w _;exact⟨rfl,HH.heap ((MapKept.heap_alloc w _).1.trans hb.symm),hB⟩
theorem Ps(nx:Nat)(a:Option Addr)(k c kb st made:Nat):prog.built 76 [(0,.agg (aQ nx (.slice a k c))),(1,.map (some kb)),(2,u6 (st:Int)),(3,u6 (made:Int))]=some (n3 nx (.slice a k c) (.map (some kb)) st made):=al
theorem Pq(nx:Nat)(a:Option Addr)(k c:Nat):prog.built 73 [(0,u6 (nx:Int)),(1,.slice a k c)]=some (aQ nx (.slice a k c)):=al
theorem La(w:af)(mb kb n:Nat)(M:cO)(A:bg w mb kb n M)(hl:κ M.l<=1000):Aaf Aag 28 #[pz mb] w λe w'=>∃aa ab,e=.returned (pz aa)/\w.heap.size<=aa/\w.heap.size<=ab/\bg w' aa ab n M/\Up w w':=by have ud:=Up.drew (Up.refl w);obtain⟨vb,bm,os,ma⟩:=A.up ud;obtain⟨a,cap,rfl⟩:=os.cA.slice;obtain⟨SC,MC,BM,UD,HS⟩:=eQ (λW (u:Up w.drew W)=>LX W _ M.l (os.up u) hl) (λW (u:Up w.drew W)=>Gw W kb n M.B (ma.up u)) bm ud (show w.heap.size<=w.drew.heap.size from ud.size);clear hl;go_in;go_wp2;refine e8 (S:=Up w.drew) al ?_;change Acp _ _ _ _ _ 28 #[false,false,false,false,false,false,false,false,false,false,false,false,false,false,false,false,false,false,false,false,false,false,false,false,false,false,false,false] _ (w.drew);generalize w.drew=w1 at *;have us:=Up.refl w1;refine oP ?_;refine ta 3 ?_;refine tb 4 rfl (yc (λ_ h=>h.cell (BM.cell 0))) ?_;refine uU ?_;refine ta 8 ?_;refine tb 9 rfl (yc (λ_ h=>h.cell (BM.cell 1))) ?_;refine ta 12 ?_;refine ta 13 ?_;refine ta 14 ?_;refine tb 15 rfl (yc (λ_ h=>h.cell (BM.cell 2))) ?_;refine ta 17 ?_;refine ta 18 ?_;refine ta 19 ?_;refine tb 20 rfl (yc (λ_ h=>h.cell (BM.cell 3))) ?_;refine ta 21 ?_;refine ta 22 ?_;refine ta 23 ?_;refine tb 24 rfl (yc (λ_ h=>h.cell (BM.cell 4))) ?_;refine ok 10 ?_;intro K hK;go_simp;refine(SC w1 us).mono ?_;rintro e w2⟨v2,rfl,ao,u2⟩;obtain⟨a2,c2,rfl⟩:=ao.cA.slice;have aj:=MC w2 u2;refine hK _ _ u2 ?_;clear hK K SC MC;refine tb 11 rfl (xc al _ 0 1 (.tmp 7) (.tmp 13) rfl _ _ _ (Pq _ _ _ _) rfl rfl) ?_;refine ok 16 ?_;intro K hK;go_simp;refine aj.mono ?_;rintro e w3⟨rfl,ag,u3⟩;obtain⟨S2,u4⟩:=az u2.size (u2.trans u3);obtain⟨k3,ak⟩:=bE (w2.heap.size);rw[<-ak]at ag ⊢;have K3:=an (show w1.heap.size<=k3 from ae);refine hK _ _ u4 ?_;clear hK K S2 ak;refine tb 25 rfl (Ej al _ 0 1 2 3 (.tmp 14) (.tmp 19) (.tmp 23) (.tmp 27) rfl _ _ _ _ _ (Ps _ _ _ _ _ _ _) rfl rfl rfl rfl) ?_;refine ok 26 ?_;intro K hK;refine Ct _ (.tmp 28) rfl _ rfl ?_;have u5:=ai w3 (.cells (n3 M.next (.slice a2 (κ M.l) c2) (.map (some k3)) M.st M.made) 76);have B5:=an (aI.new w3 76 (n3 M.next (.slice a2 (κ M.l) c2) (.map (some k3)) M.st M.made));refine hK _ _ (u4.trans u5) ?_;clear hK K;refine tk 27 (pz w3.heap.size) rfl ya (u4.trans u5) ?_;refine dn ?_;go_wp2;go_ret;exact⟨_,k3,rfl,by have h1:=HS.out;have h2:=u4.size;omega,by have h1:=HS.out;have h2:=K3.out;omega,⟨_,B5,(ao.up u3).up u5,ag.up u5⟩,(UD.trans u4).trans u5⟩
end
section
open Go.Maps
theorem Eh(hw:Aaa o (Aaz ops a.tmps)=true)(t:Aab)(i0 i1 i2:Nat)(x0 x1 x2:bR)(ho:o.op=.build t #[(i0,x0),(i1,x1),(i2,x2)])(v0 v1 v2:ah)(C:Array ah)(hb:P.built t [(i0,v0),(i1,v1),(i2,v2)]=some C)(h0:a.eval x0=v0)(h1:a.eval x1=v1)(h2:a.eval x2=v2)(h:Aam P ops Q rest (a.put o.dst (.agg C)) w):Aam P ops Q (o::rest) a w:=qg hw λ_ hK=>wp_build t #[(i0,x0),(i1,x1),(i2,x2)] ho (by simp[hb,h0,h1,h2]) (hK _ _ (by simpa[hb,h0,h1,h2]using h))
def Lg:cO:=⟨1,[],λ_=>pF,2,0⟩
theorem JZ(kb:Nat):prog.built 76 [(0,.agg (aQ 1 (nl))),(1,.map (some kb)),(2,u6 2)]=some (n3 1 (nl) (.map (some kb)) 2 0):=al
theorem QD(w:af):Aaf Aag 8 #[] w λe w'=>∃mb kb,e=.returned (.pointer (some ⟨mb,0,none⟩))/\w.heap.size<=mb/\w.heap.size<=kb/\bg w' mb kb 0 Lg/\Up w w':=by
 obtain⟨ma,u1,u2,b2⟩:=iQ (eL.made w) (ai w (.map #[] 0)) (ai (w.alloc (.map #[] 0)) (.cells (n3 1 (.slice none 0 0) (.map (some w.heap.size)) 2 0) 76)) (aI.new (w.alloc (.map #[] 0)) 76 (n3 1 (.slice none 0 0) (.map (some w.heap.size)) 2 0));rw[aN]at b2;obtain⟨MA,B2,UU,BM⟩:=bS (ma.up u2) b2 (u1.trans u2) (JZ w.heap.size);have aP:=@run_makeMap Aag;clear ma u1 u2 b2;go_in;go_wp2_with(first
  | ((with_reducible refine eR 73 _ ?_);refine w5 rfl 73 0 (.const (.int .u64 1)) rfl _ _ HD rfl ?_)
  | ((with_reducible refine eR 76 _ ?_);refine Eh rfl 76 0 1 2 (.tmp 1) (.tmp 2) (.const (.int .u64 2)) rfl _ _ _ _ BM rfl rfl rfl ?_)
  | refine gY 76 3 (n3 1 (.slice none 0 0) (.map (some w.heap.size)) 2 0) ?_)
 go_ret;exact⟨_,w.heap.size,rfl,gM _,aE _,⟨_,B2,⟨[],rfl,ak.nil _ _ _ _ _,λy hy=>by cases hy⟩,MA⟩,UU⟩
end
section
open Go.Maps
def jY(M:cO)(o:iR):cQ × (Nat × cO):=if o.kind=0 then(cZ,h2 M (cD M.next M.l o.name o.n)) else if o.kind=1 then(cZ,jW M o.name o.n o.data) else if o.kind=2 then(cZ,abD M o.name o.n) else if o.kind=3 then((j4 M o.name o.n).1,((j4 M o.name o.n).2,M)) else if o.kind=4 then(cZ,vC M (eG M.next M.l o.name M.st)) else if o.kind=5 then(cZ,h2 M (dq M.next M.l o.name o.to)) else if o.kind=6 then(cZ,xg M (cp M.next M.l o.name)) else if o.kind=7 then(cZ,aaV M o.name) else if o.kind=8 then(cZ,ls M o.name) else if o.kind=9 then(cZ,(0,{M with st:=M.st+1})) else(cZ,(0,M))
structure Sp(w:af)(vd:ah)(o:iR):Prop where
 nm:κ o.name<=9223372036854775807
 to:κ o.to<=9223372036854775807
 bs:aY w vd o.data
structure Y1(M:cO)(o:iR):Prop where
 k0:xf M.next (cD M.next M.l o.name o.n)
 k4:xf M.next (eG M.next M.l o.name M.st)
 k5:xf M.next (dq M.next M.l o.name o.to)
theorem Bg(w:af)(mb kb n:Nat)(M:cO)(A:bg w mb kb n M)(hn:n<1000000)(I:JO M)(o:iR)(aa:o.kind≠2/\o.kind≠7)(vd vk:ah)(hi:Sp w vd o)(aX:o.data≠[]->∀k,vd.ownBlock=some k->k≠mb/\k≠kb)(N:Y1 M o):Aaf Aag 29 #[pz mb,.agg (hX o vd vk)] w (Sh mb kb n (jY M o).1 (jY M o).2 w):=by
 refine OF ?_;intro hk;rcases hk with h|h|h|h|h|h|h|h|h|h|h
 ·rw[show jY M o=(cZ,h2 M (cD M.next M.l o.name o.n))from iJ];exact do0 w mb kb n M A hn I o vd vk h hi.nm N.k0
 ·rw[show jY M o=(cZ,jW M o.name o.n o.data)from iJ];exact do1 w mb kb n M A hn I o vd vk h hi.nm hi.bs aX
 ·exact absurd h aa.1
 ·rw[show jY M o=((j4 M o.name o.n).1,((j4 M o.name o.n).2,M))from iJ];exact do3 w mb kb n M A hn I o vd vk h hi.nm
 ·rw[show jY M o=(cZ,vC M (eG M.next M.l o.name M.st))from iJ];exact do4 w mb kb n M A hn I o vd vk h hi.nm N.k4
 ·rw[show jY M o=(cZ,h2 M (dq M.next M.l o.name o.to))from iJ];exact do5 w mb kb n M A hn I o vd vk h hi.nm hi.to N.k5
 ·rw[show jY M o=(cZ,xg M (cp M.next M.l o.name))from iJ];exact do6 w mb kb n M A hn I o vd vk h hi.nm
 ·exact absurd h aa.2
 ·rw[show jY M o=(cZ,ls M o.name)from iJ];exact do8 w mb kb n M A hn I o vd vk h hi.nm
 ·grind [jY,cZ,do9]
 ·rw[show jY M o=(cZ,(0,M))by unfold jY;rw[aO ae,aO ae,aO ae,aO ae,aO ae,aO ae,aO ae,aO ae,aO ae,aO ae]]
  grind [doN]
end
section
open Go.Maps
def dT(G:ch)(R:Int->ch->Prop)(s:cQ)(r:Int)(G3:ch):Prop:=s=cZ/\∃G2,R r G2/\((r=0/\G3=G2)\/(r≠0/\G3=PY G G2))
def MA(G:ch)(full:List aj)(N:Int)(s:cQ)(r:Int)(G3:ch):Prop:=G3=G/\((∃n:Nat,fz G.l full N=.error n/\r=(n:Int)/\s=cZ)\/(∃k,fz G.l full N=.ok k/\vw G.P.C (recAt G.l k) N.toNat=some s/\r=0))
def MD(G:ch)(s:cQ)(r:Int)(G3:ch):Prop:=s=cZ/\r=0/\∃b,κ b=ck G.l/\Cy G b/\mO G b G3
def WR(p:Nat)(H:aS)(R:cQ->Int->ch->Prop)(w:af)(e:Ab3)(w':af):Prop:=∃(s:cQ)(r:Int)(G3:ch)(gb':Nat)(H':aS)(vp:ah),e=.returned (.tuple #[.agg (aD s.val),.int .i64 r])/\R s r G3/\bU w' p gb' H' G3/\H'.h={H.h with vp:=vp}/\Touch (λk=>PF H k\/k=p) w w'/\r1 H H' w.heap.size vp
theorem bU.sec{w w':af}{p gb q:Nat}(A:bU w p gb H G)(hq:aI w q 60 C)(hn:∀b,PF H b->b≠q)(g:w.grownBy w' (some q)):bU w' p gb H G:=by have T:=Touch.be (F:=(·=q)) g (λk hk=>aa);exact⟨A.e6.ax T (eS A.e6 hq av),A.ga.sec hq T hn⟩
theorem PA.X9{w0 w w':af}{H H':aS}{P:bz}{q:Nat}(A:PA w' H' P)(hq:aI w' q 60 C)(hH:H'.h={H.h with vp:=vp})(hF:∀b,cK H.h b->b≠q)(hv:∀b,vp.ownBlock=some b->b≠q):∀b,PF H' b->b≠q:=by
 rintro b(rfl|rfl|hb)
 ·exact eS A.e6 hq av
 ·exact λe=>sA hq A.map av e.symm
 ·grind [ud]
theorem pd0(w:af)(p gb:Nat)(H:aS)(G:ch)(A:bU w p gb H G)(I:bq G)(B:py G)(o:iR)(vd vk:ah)(hk:o.kind=0)(hf:κ o.name<=9223372036854775807):Aaf Aag 26 #[pz p,.agg (hX o vd vk)] w (WR p H (dT G (fB G (cD G.next G.l o.name o.n) id true)) w):=by
 refine Uq ?_;intro w2 hw2 u1 u2 b1 b2 UU HW2 S2 LT IS c0 c1;have c3:w2.cell? (ad w.heap.size 3)=some (i6 o.n):=b1.cell 3;rw[hw2]at c0;rw[hw2]at c1;rw[hw2]at c3;rw[hk]at c0;clear hk;go_in;go_wp2_with(refine arm ?_);rw[<-HW2.out];refine(xI _ p _ H G (A.up UU) I B _ hf _).mono ?_;refine uZ ?_;intro w3 r G2 vp gb' H' hR hH hAt T3 ab B3;have PP:=an (show ∃G3,dT G (fB G (cD G.next G.l o.name o.n) id true) cZ r G3/\bU w3 p gb' H' G3 from by
  rcases hAt with⟨h0,ha⟩|⟨h0,ha⟩
  ·exact rr
  ·exact⟨_,⟨rfl,G2,hR,.inr ⟨h0,rfl⟩⟩,ha⟩)
 have HH:=an hH;clear hH hAt c0 c1 c3;exact M'
theorem pd4(w:af)(p gb:Nat)(H:aS)(G:ch)(A:bU w p gb H G)(I:bq G)(B:py G)(o:iR)(vd vk:ah)(hk:o.kind=4)(hf:κ o.name<=9223372036854775807):Calls prog 26 #[pz p,.agg (hX o vd vk)] w (WR p H (dT G (fB G (eG G.next G.l o.name G.P.st) (λg:ch=>{g with P:={g.P with st:=g.P.st+1}}) true)) w):=by
 refine KX ?_;clear hk;intro w2 hw2 u1 u2 b1 b2 UU HW2 S2 LT IS c1 c0;go_wp2_with(refine arm ?_);rw[<-HW2.out];refine(Q9 _ p _ H G (A.up UU) I B _ hf).mono ?_;refine uZ ?_;intro w3 r G2 vp gb' H' hR hH hAt T3 ab B3;have PP:=an (show ∃G3,dT G (fB G (eG G.next G.l o.name G.P.st) (λg:ch=>{g with P:={g.P with st:=g.P.st+1}}) true) cZ r G3/\bU w3 p gb' H' G3 from by
  rcases hAt with⟨h0,ha⟩|⟨h0,ha⟩
  ·exact rr
  ·exact⟨_,⟨rfl,G2,hR,.inr ⟨h0,rfl⟩⟩,ha⟩)
 exact K4
theorem pd5(w:af)(p gb:Nat)(H:aS)(G:ch)(A:bU w p gb H G)(I:bq G)(B:py G)(o:iR)(vd vk:ah)(hk:o.kind=5)(hf:κ o.name<=9223372036854775807)(av:κ o.to<=9223372036854775807):Aaf Aag 26 #[pz p,.agg (hX o vd vk)] w (WR p H (dT G (fB G (dq G.next G.l o.name o.to) id true)) w):=by
 refine Uq ?_;intro w2 hw2 u1 u2 b1 b2 UU HW2 S2 LT IS c0 c1;have c2:w2.cell? (ad w.heap.size 2)=some (.string (strOf o.to)):=b1.cell 2;rw[hw2]at c0;rw[hw2]at c1;rw[hw2]at c2;rw[hk]at c0;clear hk;go_in;go_wp2_with(refine arm ?_);rw[<-HW2.out];refine(IT _ p _ H G (A.up UU) I B _ hf _ av).mono ?_;refine uZ ?_;intro w3 r G2 vp gb' H' hR hH hAt T3 ab B3;have PP:=an (show ∃G3,dT G (fB G (dq G.next G.l o.name o.to) id true) cZ r G3/\bU w3 p gb' H' G3 from by
  rcases hAt with⟨h0,ha⟩|⟨h0,ha⟩
  ·exact rr
  ·exact⟨_,⟨rfl,G2,hR,.inr ⟨h0,rfl⟩⟩,ha⟩)
 have HH:=an hH;clear hH hAt c0 c1 c2;exact M'
theorem pd6(w:af)(p gb:Nat)(H:aS)(G:ch)(A:bU w p gb H G)(I:bq G)(B:py G)(o:iR)(vd vk:ah)(hk:o.kind=6)(hf:κ o.name<=9223372036854775807):Aaf Aag 26 #[pz p,.agg (hX o vd vk)] w (WR p H (dT G (fB G (cp G.next G.l o.name) id false)) w):=by
 refine KX ?_;clear hk;intro w2 hw2 u1 u2 b1 b2 UU HW2 S2 LT IS c1 c0;go_wp2_with(refine arm ?_);rw[<-HW2.out];refine(GM _ p _ H G (A.up UU) I B _ hf).mono ?_;refine uZ ?_;intro w3 r G2 vp gb' H' hR hH hAt T3 ab B3;have PP:=an (show ∃G3,dT G (fB G (cp G.next G.l o.name) id false) cZ r G3/\bU w3 p gb' H' G3 from by
  rcases hAt with⟨h0,ha⟩|⟨h0,ha⟩
  ·exact rr
  ·exact⟨_,⟨rfl,G2,hR,.inr ⟨h0,rfl⟩⟩,ha⟩)
 exact K4
theorem pd8(w:af)(p gb:Nat)(H:aS)(G:ch)(A:bU w p gb H G)(I:bq G)(B:py G)(o:iR)(vd vk:ah)(hk:o.kind=8)(hf:κ o.name<=9223372036854775807):Aaf Aag 26 #[pz p,.agg (hX o vd vk)] w (WR p H (dT G (e' G o.name)) w):=by
 refine KX ?_;clear hk;intro w2 hw2 u1 u2 b1 b2 UU HW2 S2 LT IS c1 c0;go_wp2_with(refine arm ?_);rw[<-HW2.out];refine(GJ _ p _ H G (A.up UU) I B _ hf).mono ?_;refine uZ ?_;intro w3 r G2 vp gb' H' hR hH hAt T3 ab B3;have PP:=an (show ∃G3,dT G (e' G o.name) cZ r G3/\bU w3 p gb' H' G3 from by
  rcases hAt with⟨h0,ha⟩|⟨h0,ha⟩
  ·exact rr
  ·exact⟨_,⟨rfl,G2,hR,.inr ⟨h0,rfl⟩⟩,ha⟩)
 exact K4
end
section
open Go.Maps
theorem pd9(w:af)(p gb:Nat)(H:aS)(G:ch)(A:bU w p gb H G)(I:bq G)(B:py G)(o:iR)(vd vk:ah)(hk:o.kind=9):Aaf Aag 26 #[pz p,.agg (hX o vd vk)] w (WR p H (MD G) w):=by refine Gt ?_;intro w2 hw2 u1 u2 b1 b2 UU HW2;refine Oo ?_;intro S2 LT;refine zo ?_;intro IS c0;rw[hk]at c0;clear hk;go_in;go_wp2_with(refine arm ?_);rw[<-HW2.out];refine(DS _ p _ H G (A.up UU) I B).mono ?_;rintro e w3⟨b,G3,gb',H',vp,rfl,hb1,hb2,aB,hH,aa,T3,ab⟩;obtain⟨B3,HH⟩:=aw (b2.ax T3 KR) hH;clear hH c0;go_wp2_with(first|refine arm ?_|refine pH ?_);intro wz hbz ag;have TZ:=an (((Touch.bV (F:=λk=>PF H k\/k=p) UU).and T3 (λb hb=>.inl (hb.imp (λh=>.inr (.inr h)) id))).and (Touch.be (F:=(·=w.heap.size+1)) ag (λk hk=>aP)) (λb hb=>.inr ae));go_wp2;exact bN (hi:=IS) (.tuple #[.agg (aD aM),i6 0]) hbz (by obtain⟨h1,h2⟩:=(Adc (show MD G cZ 0 G3 from⟨rfl,rfl,b,hb1,hb2,aB⟩) aa);exact⟨cZ,0,G3,gb',H',vp,rfl,h1,h2.sec B3 (PA.X9 (w0:=w) (w:=w) h2.ga.pa B3 HH (λb hb e=>by have:=LT.1 b hb;omega) (λb hb e=>by rcases ab.1 b hb with h|h;have:=LT.1 b (.inr (.inr (.inr h)));omega;have:=S2.out;omega)) ag,HH,TZ,ab.mono UU.size⟩)
theorem pdN(w:af)(p gb:Nat)(H:aS)(G:ch)(A:bU w p gb H G)(I:bq G)(B:py G)(o:iR)(vd vk:ah)(hk:o.kind<0\/9<o.kind):Aaf Aag 26 #[pz p,.agg (hX o vd vk)] w (WR p H (λs r G3=>s=cZ/\r=0/\G3=G) w):=by
 refine Gt ?_;intro w2 hw2 u1 u2 b1 b2 UU HW2;have HA:=an (A.up UU);refine zo ?_;intro IS c0;obtain⟨kd,aa⟩:=bE (o.kind);rw[<-aa]at c0 hk;refine UC ?_;intro e0 e1 e2 e3 e4 e5 e6 e7 e8 e9 B3;clear aa hw2;go_in;go_wp2_with(first
  | refine gY 33 1 (hX o vd vk) ?_
  | refine bH 60 hM ?_
  | ((with_reducible refine eR _ _ ?_);refine ix ?_))
 rw[<-HW2.out];clear c0;refine an ?_;go_wp2_with(first
  | refine lX 60 hZ ?_
  | refine dL 60 4 91 (aD aM) B3 (hi:=IS) ?_)
 intro wz hbz ag;go_wp2;exact bN (hi:=IS) (.tuple #[.agg (aD aM),i6 0]) hbz ⟨cZ,0,G,gb,H,H.h.vp,rfl,⟨rfl,rfl,rfl⟩,HA.sec B3 (λb hb e=>by have:=HA.ga.pa.lt b hb;have h9:=(λk (hk:PF H k)=>A.ga.pa.lt k hk) b hb;omega) ag,rfl,((Touch.bV (F:=λk=>PF H k\/k=p) UU).and (Touch.be (F:=(·=w.heap.size+1)) ag (λk hk=>aP)) (λb hb=>.inr ae)),r1.refl _ _⟩
theorem pd3(w:af)(p gb:Nat)(H:aS)(G:ch)(A:bU w p gb H G)(I:bq G)(B:py G)(o:iR)(vd vk:ah)(hk:o.kind=3)(hf:κ o.name<=9223372036854775807):Aaf Aag 26 #[pz p,.agg (hX o vd vk)] w (WR p H (MA G o.name o.n) w):=by
 refine Gt ?_;intro w2 hw2 u1 u2 b1 b2 UU HW2;have ao:=an (λk (hk:PF H k)=>A.ga.pa.lt k hk);refine N2 ?_;intro c0 c1 c3;rw[hw2]at c0;rw[hw2]at c1;rw[hw2]at c3;rw[hk]at c0;clear hk;go_in;go_wp2_with(refine arm ?_);rw[<-HW2.out];refine(wP _ p _ H G (A.up UU) I _ hf _).mono ?_;intro e w3 hR;have ab:∃(s:cQ)(r:Int),e=rt #[.agg (aD s.val),i6 r]/\MA G o.name o.n s r G/\bU w3 p gb H G/\Touch (PF H) w2 w3:=by
  obtain⟨h,hp,ht⟩:=hR;rcases h with⟨n,h1,h2⟩|⟨k,s,h1,h2,h3⟩
  ·exact⟨cZ,_,h2,⟨rfl,.inl ⟨n,h1,rfl,rfl⟩⟩,hp,ht⟩
  ·exact⟨s,_,h3,⟨rfl,.inr ⟨k,h1,h2,rfl⟩⟩,hp,ht⟩
 obtain⟨s,r,rfl,hq,aa,T3⟩:=ab;obtain⟨B3,PP,IR⟩:=aW (b2.ax T3 (λh=>by have:=ao _ h;omega)) (Adc hq aa) (show(prog.info? 60).map (·.size)=some (aD s.val).size from by rw[dI,bT,s.2]);clear c0 c1 c3;go_wp2_with(first
  | refine dL 60 4 47 (aD s.val) B3 (hi:=IR) (hold:=(by rw[bT,bT,s.2];rfl)) ?_)
 intro wz hbz ag;go_wp2;exact bN (hi:=IR) (.tuple #[.agg (aD s.val),i6 r]) hbz ⟨s,r,G,gb,H,H.h.vp,rfl,PP.1,PP.2.sec B3 (λb hb e=>by have h9:=ao b hb;omega) ag,rfl,(((Touch.bV (F:=λk=>PF H k\/k=p) UU).and T3 (λb hb=>.inl (.inl hb))).and (Touch.be (F:=(·=w.heap.size+1)) ag (λk hk=>aP)) (λb hb=>.inr ae)),r1.refl _ _⟩
end
section
open Go.Maps
section
variable {P:bu} {ops:Array Abi} {S:af->Prop} {o:Abi} {a:Act}
theorem R4(hw:Aaa o (Aaz ops a.tmps)=true)(t:Aab)(ho:o.op=.build t #[])(C:Array ah)(hb:P.built t []=some C):Ach P ops S o (.agg C) a:=.inl ⟨hw,λw _=>by
  unfold Abt;simp only[ho,List.map_toArray,Ab8,List.map_nil,Aa1,run_build w t _ C hb,Aay,Ac7]⟩
end
theorem pd1(w:af)(p gb:Nat)(H:aS)(G:ch)(A:bU w p gb H G)(I:bq G)(B:py G)(o:iR)(vd vk:ah)(hk:o.kind=1)(hf:κ o.name<=9223372036854775807)(hb:aY w vd o.data)(hd:κ o.data<=140737488351232):Aaf Aag 26 #[pz p,.agg (hX o vd vk)] w (WR p H (dT G (pN G o.name o.n (decide (128<κ o.data)) (jL o.data))) w):=by
 obtain⟨w2,hw2⟩:=bE ((w.alloc (.cells (hX o vd vk) 33)).alloc (.cells (aD aM) 60));obtain⟨u1,u2⟩:=az (ai w (.cells (hX o vd vk) 33)) (ai (w.alloc (.cells (hX o vd vk) 33)) (.cells (aD aM) 60));obtain⟨b1,b2⟩:=az ((aI.new w 33 (hX o vd vk)).up u2) (aI.new (w.alloc (.cells (hX o vd vk) 33)) 60 (aD aM));rw[aN]at b2;have UU:=an (u1.trans u2);rw[<-hw2]at b1 b2 UU;obtain⟨B1,B2,HW2⟩:=aW b1 b2 hw2;refine Oo ?_;intro S2 LT;have IS:=an (show(prog.info? 60).map (·.size)=some (aD aM).size from dI);have c0:w2.cell? (ad w.heap.size 0)=some (i6 o.kind):=B1.cell 0;rw[hw2]at c0;obtain⟨ba,bc,rfl⟩:=hb.slice;obtain⟨HB,HD⟩:=aw (aC.up (aC.up hb UU) (Up.drew (Up.refl w2))) hd;rw[hk]at c0;have CA:=an (λ(W:af) (u:Up w2.drew W) (va:Option Addr) (n c:Nat) (h1:aY W (.slice va n c) o.data) (h2:n=κ o.data) (h3:∀k,(Acg va n c).ownBlock=some k->w2.drew.heap.size<=k/\k<W.heap.size)=>show Aaf Aag 18 #[pz p,.string (strOf o.name),i6 o.n,.slice va n c] W (pJ p gb H G (pN G o.name o.n (decide (128<κ o.data)) (jL o.data)) W)from by subst h2;exact xN W p gb H G (((A.up UU).up (Up.drew (Up.refl w2))).up u) I B o.name hf o.n va c o.data h1 (λk hk=>⟨λhF=>by have h5:=h3 k hk;have h6:=LT.1 k hF;have h7:=S2.out;have h8:=(Up.drew (Up.refl w2)).size;omega,(h3 k hk).2⟩))
 clear hk hf hd;go_in;go_wp2_with(refine arm ?_);rw[<-HW2.out];refine e8 (S:=λW=>aI W w.heap.size 33 (hX o (.slice ba (κ o.data) bc) vk)) al ?_;refine On ?_;intro UD;obtain⟨ao,S4⟩:=aw (B1.up UD) (show w.heap.size+2<=w2.drew.heap.size from by have h7:=S2.out;have h8:=UD.size;omega);clear c0 hw2 HW2 S2;generalize w2.drew=w4 at *;have us:=ao.out;refine tb 0 rfl (R4 al 60 rfl _ hZ) ?_;refine ta 1 ?_;refine ta 2 ?_;refine tb 3 rfl (yc (λ_ h=>h.cell 1)) ?_;refine ta 4 ?_;refine tb 5 rfl (yc (λ_ h=>h.cell 3)) ?_;refine ta 7 ?_;refine tb 8 rfl (yc (λ_ h=>h.cell 4)) ?_;refine ok 6 ?_;intro K hK;go_simp;have u5:=ai w4 (.cells #[] 5);obtain⟨O5,a1,m1,m2,m3⟩:=eQ (Own.made aH 5 w4 w4.heap.size (aE _)) (aC.up HB u5) (show(κ ([]:List aj)+κ o.data)*1<=140737488355328 by have:=HD.out;simp;omega) (show([]:List aj).length+κ o.data<=9223372036854775807 by have:=HD.out;simp;omega) u5.size;refine hK _ _ (ao.up u5) ?_;clear hK K;refine ok 9 ?_;intro K hK;refine jV _ cg _ _ 30 rfl _ 5 _ 1 Aau ew rfl _ _ rfl O5 _ _ rfl a1 m1 m2 m3 ?_;intro v6 w6 aa _ aK;obtain⟨u6,aV⟩:=az (u5.aF aK (aE _)) aa.cv;obtain⟨va,vc,rfl⟩:=aV.slice;refine hK _ _ (ao.up u6) ?_;clear hK K;refine ok 10 ?_;intro K hK;go_simp;refine(CA w6 u6 va _ vc aV rfl (λk hk=>aa.aJ k hk)).mono ?_;rintro e w7⟨r,G2,vp,gb',H',rfl,hR,hH,hAt,T7,ab⟩;obtain⟨B3,C3⟩:=aw (((B2.up UD).up u6).ax T7 KR) ((ao.up u6).ax T7 KR);have PP:=an (show ∃G3,dT G (pN G o.name o.n (decide (128<κ o.data)) (jL o.data)) cZ r G3/\bU w7 p gb' H' G3 from by
  rcases hAt with⟨h0,ha⟩|⟨h0,ha⟩
  ·exact rr
  ·exact⟨_,⟨rfl,G2,hR,.inr ⟨h0,rfl⟩⟩,ha⟩)
 obtain⟨HH,S6⟩:=aw hH (show w.heap.size+2<=w6.heap.size from by have:=S4.out;have:=u6.size;omega);refine hK _ _ C3 ?_;clear hK K hH hAt;refine ok 11 ?_;intro K hK;refine iA _ (.tmp 4) (.tmp 19) rfl _ _ rfl rfl _ _ B3 IS rfl (dr _) ?_;intro wz hbz ag;have CZ:=an (C3.grown ag aq);refine hK _ _ CZ ?_;clear hK K;refine ta 12 ?_;refine dn ?_;go_wp2;exact bN (hi:=IS) (.tuple #[.agg (aD aM),i6 r]) hbz (by obtain⟨G3,h1,h2⟩:=PP.out;exact⟨cZ,r,G3,gb',H',vp,rfl,h1,h2.sec B3 (PA.X9 (w0:=w) (w:=w) h2.ga.pa B3 HH (λb hb e=>by have:=LT.1 b hb;omega) (λb hb e=>by rcases ab.1 b hb with h|h;have:=LT.1 b (.inr (.inr (.inr h)));omega;have:=S6.out;omega)) ag,HH,(((Touch.bV (F:=λk=>PF H k\/k=p) ((UU.trans UD).trans u6)).and T7 (λb hb=>.inl (hb.imp (λh=>.inr (.inr h)) id))).and (Touch.be (F:=(·=w.heap.size+1)) ag (λk hk=>oN)) (λb hb=>.inr ae)),ab.mono (by have:=S6.out;omega)⟩)
end
section
open Go.Maps
def Cv(G:ch)(o:iR):cQ->Int->ch->Prop:=if o.kind=0 then dT G (fB G (cD G.next G.l o.name o.n) id true) else if o.kind=1 then dT G (pN G o.name o.n (decide (128<κ o.data)) (jL o.data)) else if o.kind=2 then dT G (pN G o.name o.n false e9) else if o.kind=3 then MA G o.name o.n else if o.kind=4 then dT G (fB G (eG G.next G.l o.name G.P.st) (λg:ch=>{g with P:={g.P with st:=g.P.st+1}}) true) else if o.kind=5 then dT G (fB G (dq G.next G.l o.name o.to) id true) else if o.kind=6 then dT G (fB G (cp G.next G.l o.name) id false) else if o.kind=7 then dT G (Eo G (Y7 G.next G.l o.name)) else if o.kind=8 then dT G (e' G o.name) else if o.kind=9 then MD G else λs r G3=>s=cZ/\r=0/\G3=G
theorem Yf(w:af)(p gb:Nat)(H:aS)(G:ch)(A:bU w p gb H G)(I:bq G)(B:py G)(o:iR)(aa:o.kind≠2/\o.kind≠7)(vd vk:ah)(hi:Sp w vd o)(hd:κ o.data<=140737488351232):Aaf Aag 26 #[pz p,.agg (hX o vd vk)] w (WR p H (Cv G o) w):=by
 refine OF ?_;intro hk;rcases hk with h|h|h|h|h|h|h|h|h|h|h
 ·unfold Cv;rw[h];exact pd0 w p gb H G A I B o vd vk h hi.nm
 ·unfold Cv;rw[h];exact pd1 w p gb H G A I B o vd vk h hi.nm hi.bs hd
 ·exact absurd h aa.1
 ·unfold Cv;rw[h];exact pd3 w p gb H G A I B o vd vk h hi.nm
 ·unfold Cv;rw[h];exact pd4 w p gb H G A I B o vd vk h hi.nm
 ·unfold Cv;rw[h];exact pd5 w p gb H G A I B o vd vk h hi.nm hi.to
 ·unfold Cv;rw[h];exact pd6 w p gb H G A I B o vd vk h hi.nm
 ·exact absurd h aa.2
 ·unfold Cv;rw[h];exact pd8 w p gb H G A I B o vd vk h hi.nm
 ·grind [Cv,pd9]
 ·unfold Cv;rw[aO ae,aO ae,aO ae,aO ae,aO ae,aO ae,aO ae,aO ae,aO ae,aO ae];grind [pdN]
end
section
open Go.Maps
def hq(o:iR):Bool:=decide (o.kind=0\/o.kind=1\/o.kind=2\/o.kind=4\/o.kind=5)
theorem DB(w:af)(o:iR)(vd vk:ah):Aaf Aag 27 #[.agg (hX o vd vk)] w λe w'=>e=.returned (.bool (hq o))/\Up w w':=by
 have U:=an (ai w (.cells (hX o vd vk) 33));have c0:(w.alloc (.cells (hX o vd vk) 33)).cell? ⟨w.heap.size,0,none⟩=some (.int .i64 o.kind):=(aI.new w 33 (hX o vd vk)).cell 0;have M:=an (show hq o=(decide (o.kind=0\/o.kind=1\/o.kind=2\/o.kind=4\/o.kind=5))from rfl);obtain⟨k,hk⟩:=bE (o.kind);rw[<-hk]at c0 M;clear hk;have key:(k=0)\/(k=1)\/(k=2)\/(k=4)\/(k=5)\/((k==0)=false/\(k==1)=false/\(k==2)=false/\(k==4)=false/\(k==5)=false):=by simp only[beq_eq_false_iff_ne];omega
 rcases key with rfl|rfl|rfl|rfl|rfl|⟨e0,e1,e2,e4,e5⟩
 ·exact uT
 ·exact uT
 ·exact uT
 ·exact uT
 ·exact uT
 ·have MF:=an (show hq o=false from by rw[M.out];simp only[beq_eq_false_iff_ne]at e0 e1 e2 e4 e5;simp[e0,e1,e2,e4,e5])
  go_in;go_wp2_with(first
   | refine gY 33 0 (hX o vd vk) ?_)
  go_ret;exact⟨by rw[MF.out];rfl,U⟩
end
structure oq(G:ch)(M:cO):Prop where
 nx:M.next=G.next
 l:M.l=ih G.l
 n1:1<=G.next
 z0:M.B 0=pF
 len:∀i,κ (M.B i)=64
 rd:∀x∈G.l,∀j,j<64->vw G.P.C x j=some (sx (M.B x.id) j).1
theorem VY(C:List cQ){x:ab}(h:x.root=hole)(j:Nat):vw C x j=some e9:=by grind [vw,lY,j6]
theorem ZF(j:Nat):(sx pF j).1=e9:=by unfold sx pF;rw[sP,List.getElem?_replicate];split<;>rfl
theorem SF{l:List k3}(h:i<κ l)(x:k3)(j:Nat):sx (l.set i x) j=if j=i then x else sx l j:=by grind [sx]
section
variable {G G2:ch} {M:cO}
theorem oq.grow(S:oq G M){next':Nat}{l':List ab}{x:ab}(hn:next'=G.next+1)(e1:G2.next=next')(e2:G2.l=l')(e3:G2.P.C=G.P.C)(S':pG l')(hx:x∈l')(xi:x.id=G.next)(B':Nat->List k3)(hB:B'=tD M.B (cH x).id (M.B (Au (cH x))))(M':cO)(m1:M'.next=next')(m2:M'.l=ih l')(m3:M'.B=B')(src:(Au x=0/\x.root=hole)\/∃u∈G.l,u.id=Au x/\u.root=x.root)(rest:∀z∈l',z=x\/∃u∈G.l,u.id=z.id/\u.root=z.root):oq G2 M':=by
 have hb:∀i,M'.B i=if i=x.id then M.B (Au x)else M.B i:=λi=>by rw[m3,hB];rfl
 have n1:=S.n1;refine⟨ae,aa,ae,?_,λi=>?_,λz hz j hj=>?_⟩
 ·rw[hb,aO ae];exact S.z0
 ·rw[hb];split<;>exact S.len _
 ·rw[e2]at hz;rw[e3,hb];by_cases h:z=x
  ·subst h;rw[bp rfl];rcases src with⟨h1,h2⟩|⟨u,hu,h1,h2⟩
   ·rw[h1,S.z0,ZF];exact VY _ h2 j
   ·rw[<-h1,<-S.rd u hu j hj];grind [vw]
  ·rw[aO (λe=>h (S'.inj hz hx e))];rcases rest z hz with h2|⟨u,hu,h1,h2⟩
   ·simp_all
   ·rw[<-h1,<-S.rd u hu j hj];grind [vw]
theorem Gz(S:oq G M){l':List ab}(S':pG l'){x:ab}(hx:x∈l')(xi:x.id=G.next):ID M (ih l')=cH x:=by obtain⟨i,hi,h1,h2⟩:=b6 S' hx;unfold ID;rw[dN,S.nx,<-xi,h1];grind [a']
theorem oq.dev(S:oq G M)(I:bq G)(hc:∀j,G.P.s j≠1->G2.P.C[j]?=G.P.C[j]?)(e1:G2.next=G.next)(e2:G2.l=G.l):oq G2 M:=⟨by rw[e1];exact S.nx,by rw[e2];exact S.l,by rw[e1];exact S.n1,S.z0,S.len,λx hx j hj=>by rw[e2]at hx;rw[I.Zl hc hx hj];exact S.rd x hx j hj⟩
theorem oq.Ws(S:oq G M)(I:bq G){k i:Nat}{s:cQ}(T:kJ G k i s G2)(hk:k<κ G.l)(hi:i<64)(v:Nat)(M':cO)(m1:M'.next=M.next)(m2:M'.l=M.l)(m3:M'.B=tD M.B (recAt G.l k).id ((M.B (recAt G.l k).id).set i (s,v))):oq G2 M':=by
 have hb:∀a,M'.B a=if a=(recAt G.l k).id then(M.B (recAt G.l k).id).set i (s,v)else M.B a:=λa=>by rw[m3];rfl
 have i0:=I.ik.KH _ (aL hk);refine⟨by rw[m1,T.next];exact S.nx,by rw[m2,S.l];exact T.strip.symm,by rw[T.next];exact S.n1,?_,λa=>?_,λx hx j hj=>?_⟩
 ·rw[hb,aO ae];exact S.z0
 ·rw[hb];split
  ·rw[Aax];exact S.len _
  ·exact S.len _
 ·rw[T.rd x hx j hj,hb];have hu:∃u∈G.l,u.id=x.id:=by
   have:cH x∈G.l.map cH:=by rw[<-T.strip];exact List.mem_map.mpr ⟨x,hx,rfl⟩
   obtain⟨u,hu,e⟩:=List.mem_map.mp this;exact⟨u,hu,by have:=ct ab.id e;exact this⟩
  obtain⟨u,hu,eu⟩:=hu;have old:rdI G x.id j=some (sx (M.B x.id) j).1:=by rw[<-eu,zw I.ik.gb hu];exact S.rd u hu j hj
  by_cases h:x.id=(recAt G.l k).id
  ·rw[bp h,SF (by rw[S.len];exact hi)];grind
  ·simp_all
theorem oq.sub(S:oq G M){l':List ab}{B':Nat->List k3}(e1:G2.next=G.next)(e2:G2.l=l')(M':cO)(m1:M'.next=M.next)(m2:M'.l=ih l')(b0:M'.B 0=pF)(bl:∀i,κ (M'.B i)=64)(rd:∀x∈l',∀j,j<64->vw G2.P.C x j=some (sx (M'.B x.id) j).1):oq G2 M':=⟨by rw[m1,e1];exact S.nx,aa,by rw[e1];exact S.n1,b0,bl,λx hx=>rd x aa⟩
end
theorem Jl{next st n:Nat}{l:List ab}{full:List aj}(h:eG next l full st=.error n):n≠71:=qt
theorem zZ{next n:Nat}{l:List ab}{full:List aj}(h:cD next l full N=.error n):n≠71:=s4
theorem C'{next n:Nat}{l:List ab}{mZ to:List aj}(h:dq next l mZ to=.error n):n≠71:=FL
theorem YR{l:List ab}{full:List aj}(h:j0 l full N=.error n):n≠71:=by grind [j0,fz]
def Ag(M:cO)(o:iR)(s:cQ)(r:Int):Prop:=(r=71/\hq o=true/\(jY M o).2.1=0)\/(¬(r=71/\hq o=true)/\r=((jY M o).2.1:Int)/\s=(jY M o).1)
structure Step(G:ch)(M:cO)(o:iR)(s:cQ)(r:Int)(M':cO)(G3:ch):Prop where
 ag:Ag M o s r
 pick:(r=71/\hq o=true/\M'=M)\/(¬(r=71/\hq o=true)/\M'=(jY M o).2.2)
 inv:bq G3
 sim:oq G3 M'
 st:M.st=G.P.st->M'.st=G3.P.st
 b1:G3.next<=G.next+1
 b2:G3.P.st<=G.P.st+1
 b3:G3.P.m<=G.P.m+3
 b4:G3.u.du<=G.u.du+1
 b5:κ G3.P.C=κ G.P.C
 c1:M'.st<=M.st+1
 c2:M'.made<=M.made+1
section
variable {G G3:ch} {M:cO} {o:iR} {s:cQ} {r:Int}
theorem Step.same(I:bq G)(S:oq G M){n:Nat}(hn:r=71->hq o=false)(hd:jY M o=(s,(n,M)))(hr:r=(n:Int)):Step G M o s r M G:=by
 have h:¬(r=71/\hq o=true):=λh=>by have:=hn h.1;rw[this]at h;cases h.2
 exact⟨.inr ⟨h,aa,aa⟩,.inr ⟨h,aa⟩,I,S,id,ae,ae,ae,ae,rfl,ae,ae⟩
theorem Step.full(I:bq G)(S:oq G M){M2:cO}(hm:hq o=true)(hd:(jY M o).2.1=0)(hc:∀j,G.P.s j≠1->G3.P.C[j]?=G.P.C[j]?)(hl:κ G3.P.C=κ G.P.C)(bf:G3.P.m<=G.P.m+3)(e:G3=PY G G3):Step G M o s 71 M G3:=by
 have e2:G3.next=G.next:=sY
 refine⟨.inl ⟨rfl,hm,hd⟩,.inl ⟨rfl,hm,rfl⟩,?_,S.dev I hc e2 sY,λh=>by rw[h,e];rfl,ae,?_,bf,?_,hl,ae,ae⟩
 ·rw[e];exact I.dev _ _ hl hc
 ·rw[show G3.P.st=G.P.st from sY];omega
 ·rw[show G3.u=G.u from sY];omega
theorem Step.done{M':cO}(I:bq G3)(S:oq G3 M')(hd:jY M o=(s,(0,M')))(aF:M.st=G.P.st->M'.st=G3.P.st)(b1:G3.next<=G.next+1)(b2:G3.P.st<=G.P.st+1)(b3:G3.P.m<=G.P.m+3)(b4:G3.u.du<=G.u.du+1)(b5:κ G3.P.C=κ G.P.C)(c1:M'.st<=M.st+1)(c2:M'.made<=M.made+1):Step G M o s 0 M' G3:=by
 have h:¬((0:Int)=71/\hq o=true):=λh=>by have:=h.1;omega
 exact⟨.inr ⟨h,aa,aa⟩,.inr ⟨h,aa⟩,I,S,aF,b1,b2,b3,b4,b5,c1,c2⟩
theorem sF(G:ch):(ev G=true/\ye G=0)\/(ev G=false/\ye G=71):=by grind [ye,ev]
theorem abu(I:bq G)(S:oq G M)(hk:o.kind=0)(h:dT G (fB G (cD G.next G.l o.name o.n) id true) s r G3):∃M',Step G M o s r M' G3:=by
 have hd:jY M o=(cZ,h2 M (cD M.next M.l o.name o.n)):=iJ
 rw[S.nx,S.l,nD]at hd;obtain⟨rfl,G2,R,e⟩:=h;rcases R with⟨n,hX,rfl,hn,rfl⟩|⟨nx,l',hX,rfl,rfl⟩
 ·obtain rfl:G3=G2:=by rcases e with⟨_,e⟩|⟨_,e⟩<;>exact e
  exact⟨M,Step.same I S (λh=>by grind [zZ]) Ba rfl⟩
 ·rw[hX]at hd;obtain⟨et,hv,hb,hl,hr,rfl,rfl⟩:=l0 hX;have SR:=mz (x:=ec G.next et o.n) I.ik.gb I.ik.KI;have hx:ec G.next et o.n∈G.l++[ec G.next et o.n]:=by simp
  have hd:jY M o=(cZ,(0,r5 M (G.next+1) (ih (G.l++[ec G.next et o.n])) (ID M (ih (G.l++[ec G.next et o.n]))))):=hd;rw[Gz S SR hx rfl]at hd;rcases sF (id {G with next:=G.next+1,l:=G.l++[ec G.next et o.n]})with⟨hf,hf2⟩|⟨hf,hf2⟩
  ·simp only[if_true]at e ⊢;rw[hf2]at e ⊢;obtain rfl:G3={G with next:=G.next+1,l:=G.l++[ec G.next et o.n]}:=by simp_all
   refine⟨_,Step.done (I.create S.n1 hX hf) (S.grow (G2:={G with next:=G.next+1,l:=G.l++[ec G.next et o.n]}) (next':=G.next+1) (l':=G.l++[ec G.next et o.n]) (x:=ec G.next et o.n) rfl rfl rfl rfl SR hx rfl _ rfl (r5 M (G.next+1) (ih (G.l++[ec G.next et o.n])) (cH (ec G.next et o.n))) rfl rfl rfl (.inl ⟨rfl,rfl⟩) (λz hz=>?_)) hd (λh=>h) (aE _) aq aq aq rfl FN FF⟩;grind
  ·exact Nv
theorem abx(I:bq G)(B:py G)(S:oq G M)(aF:M.st=G.P.st)(hk:o.kind=4)(h:dT G (fB G (eG G.next G.l o.name G.P.st) (λg:ch=>{g with P:={g.P with st:=g.P.st+1}}) true) s r G3):∃M',Step G M o s r M' G3:=by
 have hd:jY M o=(cZ,vC M (eG M.next M.l o.name M.st)):=iJ
 rw[S.nx,S.l,aF,qJ]at hd;obtain⟨rfl,G2,R,e⟩:=h;rcases R with⟨n,hX,rfl,hn,rfl⟩|⟨nx,l',hX,rfl,rfl⟩
 ·obtain rfl:G3=G2:=by rcases e with⟨_,e⟩|⟨_,e⟩<;>exact e
  exact⟨M,Step.same I S (λh=>by grind [Jl]) Ba rfl⟩
 ·rw[hX]at hd;obtain⟨et,sn,i,hs,hi,hl,hr,ad,rfl,rfl⟩:=qI hX;obtain⟨⟨aH,aa⟩,fr⟩:=I.ik.Ar hs hi hr;have aQ:=aL aH;obtain⟨SR,mm⟩:=qu I.ik.gb aH I.ik.KI (s:=jS G.next (recAt G.l i) sn G.P.st) (v':=nO G.next (recAt G.l i)) rfl rfl;have hx:=(mm (jS G.next (recAt G.l i) sn G.P.st)).mpr (.inr (.inl rfl));obtain⟨l',ar⟩:∃y,y=(G.l++[jS G.next (recAt G.l i) sn G.P.st]).set i (nO G.next (recAt G.l i)):=⟨_,rfl⟩;rw[<-ar]at hd SR mm hx hX e;have hd:jY M o=(cZ,(0,r5 {M with st:=M.st+1} (G.next+1) (ih l') (ID M (ih l')))):=hd;rw[Gz S SR hx rfl]at hd;simp only[if_true]at e ⊢;rcases sF {G with P:={G.P with st:=G.P.st+1},next:=G.next+1,l:=l'} with⟨hf,hf2⟩|⟨hf,hf2⟩
  ·rw[hf2]at e;rw[<-ar,hf2];obtain rfl:G3={G with P:={G.P with st:=G.P.st+1},next:=G.next+1,l:=l'}:=by simp_all
   refine⟨_,Step.done (I.aT qo hX hf) (S.grow (G2:={G with P:={G.P with st:=G.P.st+1},next:=G.next+1,l:=l'}) (next':=G.next+1) (l':=l') (x:=jS G.next (recAt G.l i) sn G.P.st) rfl rfl rfl rfl SR hx rfl _ rfl (r5 {M with st:=M.st+1} (G.next+1) (ih l') (cH (jS G.next (recAt G.l i) sn G.P.st))) rfl rfl rfl (.inr ⟨_,aQ,rfl,rfl⟩) (λz hz=>?_)) hd (λh=>by show M.st+1=G.P.st+1;omega) (aE _) (aE _) aq aq rfl (aE _) FF⟩;rcases(mm z).mp hz with h|h|h
   ·exact .inr ⟨_,aQ,nM,nM⟩
   ·simp_all
   ·grind
  ·rw[hf2]at e;rw[<-ar,hf2];obtain rfl:G3=G:=by exact Ny
   exact⟨M,Step.full (M2:=M) I S rh aP (λ_ _=>rfl) rfl ae rfl⟩
theorem aby(I:bq G)(S:oq G M)(hk:o.kind=5)(h:dT G (fB G (dq G.next G.l o.name o.to) id true) s r G3):∃M',Step G M o s r M' G3:=by
 have hd:jY M o=(cZ,h2 M (dq M.next M.l o.name o.to)):=iJ
 rw[S.nx,S.l,oz]at hd;obtain⟨rfl,G2,R,e⟩:=h;rcases R with⟨n,hX,rfl,hn,rfl⟩|⟨nx,l',hX,rfl,rfl⟩
 ·obtain rfl:G3=G2:=by rcases e with⟨_,e⟩|⟨_,e⟩<;>exact e
  exact⟨M,Step.same I S (λh=>by grind [C']) Ba rfl⟩
 ·rw[hX]at hd;obtain⟨vs,et,i,hs,hv,hi,hl,hr,rfl,rfl⟩:=nW hX;obtain⟨aH,aa⟩:=I.ik.G4 hs hi;have SR:=mz (x:=fi G.next et (recAt G.l i)) I.ik.gb I.ik.KI;have hx:fi G.next et (recAt G.l i)∈G.l++[fi G.next et (recAt G.l i)]:=by simp
  have hd:jY M o=(cZ,(0,r5 M (G.next+1) (ih (G.l++[fi G.next et (recAt G.l i)])) (ID M (ih (G.l++[fi G.next et (recAt G.l i)]))))):=hd;rw[Gz S SR hx rfl]at hd;rcases sF (id {G with next:=G.next+1,l:=G.l++[fi G.next et (recAt G.l i)]})with⟨hf,hf2⟩|⟨hf,hf2⟩
  ·simp only[if_true]at e ⊢;rw[hf2]at e ⊢;obtain rfl:G3={G with next:=G.next+1,l:=G.l++[fi G.next et (recAt G.l i)]}:=by simp_all
   refine⟨_,Step.done (I.clone hX hf) (S.grow (G2:={G with next:=G.next+1,l:=G.l++[fi G.next et (recAt G.l i)]}) (next':=G.next+1) (l':=G.l++[fi G.next et (recAt G.l i)]) (x:=fi G.next et (recAt G.l i)) rfl rfl rfl rfl SR hx rfl _ rfl (r5 M (G.next+1) (ih (G.l++[fi G.next et (recAt G.l i)])) (cH (fi G.next et (recAt G.l i)))) rfl rfl rfl (.inr ⟨_,(aL aH),rfl,rfl⟩) (λz hz=>?_)) hd (λh=>h) (aE _) aq aq aq rfl FN FF⟩;grind
  ·exact Nv
theorem abz(I:bq G)(S:oq G M)(hk:o.kind=6)(h:dT G (fB G (cp G.next G.l o.name) id false) s r G3):∃M',Step G M o s r M' G3:=by
 have hd:jY M o=(cZ,xg M (cp M.next M.l o.name)):=iJ
 rw[S.nx,S.l,BG]at hd;obtain⟨rfl,G2,R,e⟩:=h;rcases R with⟨n,hX,rfl,hn,rfl⟩|⟨nx,l',hX,rfl,rfl⟩
 ·obtain rfl:G3=G2:=by rcases e with⟨_,e⟩|⟨_,e⟩<;>exact e
  exact⟨M,Step.same I S (λ_=>rh) Ba rfl⟩
 ·rw[hX]at hd;obtain⟨rfl,ms,aa,rfl,I3⟩:=I.GN hX;obtain rfl:G3={G with next:=G.next,l:=G.l.map (eF ms aa)}:=by simp_all
  have hd:=hd;refine⟨_,Step.done I3 ?_ hd (λh=>h) aq aq aq aq rfl aq aq⟩;refine S.sub (G2:={G with next:=G.next,l:=G.l.map (eF ms aa)}) (l':=G.l.map (eF ms aa)) (B':=M.B) rfl rfl {M with next:=G.next,l:=ih (G.l.map (eF ms aa))} S.nx.symm rfl S.z0 S.len (λx hx j hj=>?_);obtain⟨u,hu,rfl⟩:=List.mem_map.mp hx;obtain⟨a,_,_,_,_,b,_⟩:=mc ms aa u;rw[b];show vw G.P.C _ j=_;rw[<-S.rd u hu j hj];grind [vw]
end
section
variable {G G3:ch} {M:cO} {o:iR} {s:cQ} {r:Int}
theorem abv(I:bq G)(S:oq G M)(hk:o.kind=1)(h:dT G (pN G o.name o.n (decide (128<κ o.data)) (jL o.data)) s r G3):∃M',Step G M o s r M' G3:=by
 have hm:hq o=true:=rh
 have hd:jY M o=(cZ,jW M o.name o.n o.data):=iJ
 have hv:j0 M.l o.name o.n=j0 G.l o.name o.n:=by rw[S.l,Mp]
 obtain⟨rfl,G2,R,e⟩:=h;rcases R with⟨n,hX,hn,rfl,rfl⟩|⟨k,hX,R⟩
 ·obtain rfl:G3=G2:=by rcases e with⟨_,e⟩|⟨_,e⟩<;>exact e
  exact⟨M,Step.same I S (λh=>by grind [YR]) (by grind [JI]) rfl⟩
 ·obtain⟨a1,a2,a3,a4,a5⟩:=O6 I.ik hX;have hb:=((bm _).mp (I.ik.rt _ (aL a1))).2.2.2.1.2;rcases R with⟨h1,rfl,rfl⟩|⟨h1,rfl,R⟩|⟨h1,rfl,T,hf⟩
  ·obtain rfl:G3=G2:=by rcases e with⟨_,e⟩|⟨_,e⟩<;>exact e
   have h1:=ia h1;exact⟨M,Step.same I S (n:=92) (λh=>ae) (by grind [JJ]) rfl⟩
  ·have h1:=Fy h1;obtain rfl:G3=PY G G2:=by simp_all
   exact⟨M,Step.full (M2:=M) I S hm (by rw[hd,Cu FT ae]) R.2.1 R.1 R.2.2.1 rfl⟩
  ·have h1:=Fy h1;obtain rfl:G3=G2:=by simp_all
   have hp:jL o.data=eV o.data ae:=by grind [jL]
   rw[hp]at T;refine⟨Rb {M with made:=M.made+1} (recAt M.l k).id o.n.toNat (eV o.data ae,M.made+1),Step.done (T.inv hf) (S.Ws I T a1 ae (M.made+1) _ rfl rfl ?_) (by grind [Cu]) (λh=>by rw[T.st];exact h) (by rw[T.next];omega) (by rw[T.st];omega) T.m (by rw[T.u];omega) T.len FN (aE _)⟩;show(Rb _ _ _ _).B=_;unfold Rb;rw[S.l,a'];rfl
theorem abw(I:bq G)(S:oq G M)(hk:o.kind=3)(h:MA G o.name o.n s r G3):∃M',Step G M o s r M' G3:=by
 have hm:hq o=false:=rh
 have hd:jY M o=((j4 M o.name o.n).1,((j4 M o.name o.n).2,M)):=iJ
 have hv:fz M.l o.name o.n=fz G.l o.name o.n:=by rw[S.l,pW]
 obtain⟨rfl,⟨n,hX,rfl,rfl⟩|⟨k,hX,hr,rfl⟩⟩:=h
 ·exact⟨M,Step.same I S (λ_=>hm) (by rw[hd,O1 FT];rfl) rfl⟩
 ·obtain⟨a1,a2,a3⟩:=uc hX;have km:=aL a1;have hb:=((bm _).mp (I.ik.rt _ km)).2.2.2.1.2;refine⟨M,Step.same (n:=0) I S (λ_=>hm) ?_ rfl⟩;rw[hd,GS FT,S.l,a'];have:=S.rd _ km o.n.toNat ae;rw[hr]at this;cases this;rfl
def To(I:bq G){x:ab}(hx:x∈G.l)(p:au):p∈KE G x↔gC G.P.C x.root p/\bY G.l x.id<p.aV:=Hy (I.tr x hx) _ p
theorem Hl{l:List ab}{full:List aj}{i:Nat}(h:ee l full=.ok i):a1 l full=some i:=uM
theorem oq.gone(S:oq G M)(I:bq G){G3:ch}{l':List ab}{i:Nat}(hi:i<κ G.l)(e1:G3.next=G.next)(e2:G3.l=l')(e3:G3.P.C=G.P.C)(h:∀z∈l',z.id≠(recAt G.l i).id/\∃u∈G.l,u.id=z.id/\u.root=z.root):oq G3 (PX M G.next (ih l') (recAt G.l i).id):=by
 have i0:=I.ik.KH _ (aL hi);have hb:∀a,(PX M G.next (ih l') (recAt G.l i).id).B a=if a=(recAt G.l i).id then pF else M.B a:=λa=>rfl;refine S.sub (B':=M.B) e1 e2 _ S.nx.symm rfl ?_ (λa=>?_) (λx hx k hk=>?_)
 ·rw[hb,aO ae];exact S.z0
 ·rw[hb];split
  ·rfl
  ·exact S.len _
 ·obtain⟨h1,u,hu,h2,h3⟩:=h x hx;rw[e3,hb,aO h1,<-h2,<-S.rd u hu k hk];grind [vw]
theorem abA(I:bq G)(S:oq G M)(hk:o.kind=8)(h:dT G (e' G o.name) s r G3):∃M',Step G M o s r M' G3:=by
 have hm:hq o=false:=rh
 have hd:jY M o=(cZ,ls M o.name):=iJ
 obtain⟨rfl,G2,R,e⟩:=h;have hold:∀i,dM G.l o.name=.ok i->(Bv M.l o.name).id=(recAt G.l i).id:=λi hi=>by unfold Bv;rw[S.l,oW,hi];simp only;rw[a'];rfl
 unfold e' at R;unfold ls at hd;cases hs:cY o.name with
 | none=>
  rw[hs]at R hd;obtain⟨rfl,rfl⟩:=R;obtain rfl:G3=G2:=by rcases e with⟨_,e⟩|⟨_,e⟩<;>exact e
  exact⟨M,Step.same I S (n:=141) (λ_=>hm) hd rfl⟩
 | some vs=>
  obtain⟨v,sn⟩:=vs;rw[hs]at R hd;simp only at R hd;by_cases h0:sn=[]
  ·rw[bp h0]at R;rw[show decide (sn=[])=true from fm h0]at hd;have hv:pS M o.name true=Sd ((dQ G.next G.l o.name).map (λr=>(r.1,r.2.1))):=by show(dQ M.next M.l o.name).map _=_;rw[S.nx,S.l,Ad];cases dQ G.next G.l o.name<;>rfl
   rw[hv]at hd;rcases R with⟨n,hX,rfl,hn,rfl⟩|⟨nx,l',x,hX,rfl,rfl⟩
   ·obtain rfl:G3=G2:=by rcases e with⟨_,e⟩|⟨_,e⟩<;>exact e
    exact⟨M,Step.same I S (λ_=>hm) Ba rfl⟩
   ·rw[hX]at hd;obtain⟨i,hi,hw,rfl,rfl,rfl⟩:=w' hX;obtain⟨il,is⟩:=I.ik.Zs hi;have im:=aL il;obtain rfl:=(by
     rcases e with⟨_,e⟩|⟨e,_⟩
     ·exact e
     ·exact absurd rfl e:G3=_)
    have I3:=I.tZ il is hw (To I im);have hd:jY M o=(cZ,(0,PX M G.next (ih (G.l.eraseIdx i)) (Bv M.l o.name).id)):=hd;rw[hold i (I.ik.named (Hl hi))]at hd;refine OG ?_;intro z hz;obtain⟨h1,h2⟩:=(mem_erase I.ik.gb il).mp hz;exact⟨λe=>h2 (I.ik.gb.inj h1 im e),z,h1,rfl,rfl⟩
  ·rw[aO h0]at R;rw[show decide (sn=[])=false from jb h0]at hd;have ds:=I.cE o.name;have n131:cE G.next G.l o.name≠.error 131:=λh=>by simp_all
   have hv:pS M o.name false=Sd ((cE G.next G.l o.name).map (λr=>(r.1,r.2.1))):=by show(cE M.next M.l o.name).map _=_;rw[S.nx,S.l,yd n131]
   rw[hv]at hd;rcases ds with⟨n,hX,h1,h2⟩|⟨i,j,all,il,is,hi,jl,e1,e2,e3,aN,hX⟩
   ·rcases R with⟨n',aa,rfl,hn,rfl⟩|⟨nx,l',x,aa,rfl,rfl⟩
    ·obtain rfl:G3=G2:=by rcases e with⟨_,e⟩|⟨_,e⟩<;>exact e
     exact⟨M,Step.same I S (λ_=>hm) (by rw[hd,aa];rfl) rfl⟩
    ·simp_all
   ·rcases R with⟨n',aa,rfl,hn,rfl⟩|⟨nx,l',x,aa,rfl,rfl⟩
    ·simp_all
    ·rw[hX]at hd aa;cases aa;obtain⟨im,jm⟩:=az (aL il) (aL jl);obtain rfl:=(by
      rcases e with⟨_,e⟩|⟨e,_⟩
      ·exact e
      ·exact absurd rfl e:G3=_)
     obtain⟨ae,ab,_,I3⟩:=I.l1 il is jl e1 e2 e3;rw[aN]at ab;cases ab;have hd:jY M o=(cZ,(0,PX M G.next (ih ((G.l.set j (g' (recAt G.l j) all (recAt G.l i).prev)).eraseIdx i)) (Bv M.l o.name).id)):=hd;rw[hold i (I.ik.named hi)]at hd;have ad:(recAt G.l j).id≠(recAt G.l i).id:=λe=>by have e4:=I.ik.gb.inj jm im e;have:=(I.ik.eY jm im e1.symm).2;grind
     refine OG ?_;intro z hz;have S2:pG (G.l.set j (g' (recAt G.l j) all (recAt G.l i).prev)):=vF I.ik.gb rfl;obtain⟨h1,h2⟩:=(mem_erase S2 ao).mp hz;rw[rP jl,aO (λe=>ad (by rw[e]))]at h2;rcases(mem_set I.ik.gb jl).mp h1 with rfl|⟨h3,h4⟩
     ·exact⟨ad,_,jm,rfl,rfl⟩
     ·exact⟨λe=>h2 (I.ik.gb.inj h3 im e),z,h3,rfl,rfl⟩
theorem abB(I:bq G)(B:py G)(S:oq G M)(hk:o.kind=9)(h:MD G s r G3):∃M',Step G M o s r M' G3:=by
 have hd:jY M o=(cZ,(0,{M with st:=M.st+1})):=iJ
 obtain⟨rfl,rfl,b,hb,_,hc⟩:=h;obtain⟨ats,K⟩:=Ey I hc;refine⟨_,Step.done (I.com K hb qo) ?_ hd (λh=>by rw[K.st];show M.st+1=_;omega) (by rw[K.nx];omega) (by rw[K.st];omega) (by rw[K.m];omega) (by rw[K.tx];omega) K.cl (aE _) aq⟩;exact S.sub (B':=M.B) K.nx K.l _ rfl S.l S.z0 S.len (λx hx j hj=>by rw[K.read I hx hj];exact S.rd x hx j hj)
theorem Wf(aa:o.kind≠2/\o.kind≠7)(I:bq G)(B:py G)(S:oq G M)(aF:o.kind=4->M.st=G.P.st)(h:Cv G o s r G3):∃M',Step G M o s r M' G3:=by
 unfold Cv at h;split at h
 ·grind [abu]
 split at h
 ·grind [abv]
 split at h
 ·omega
 split at h
 ·grind [abw]
 split at h
 ·grind [abx]
 split at h
 ·grind [aby]
 split at h
 ·grind [abz]
 split at h
 ·omega
 split at h
 ·grind [abA]
 split at h
 ·grind [abB]
 obtain⟨rfl,rfl,rfl⟩:=h;rename_i k0 k1 k2 k3 k4 k5 k6 k7 k8 k9;exact⟨M,Step.same (n:=0) I S (λ_=>rh) iJ rfl⟩
theorem BR{next:Nat}{X:Except Nat (Nat × List ab)}(K:ot X)(h:∀nx l',X=.ok (nx,l')->pG l'/\∃x∈l',x.id=next):xf next (Sd X):=by
 intro nx l' e;cases X with
 | error n=>cases e
 | ok p=>
  obtain⟨aa,l0⟩:=p;cases e;obtain⟨_,_,h3,_⟩:=K.ok aa l0 rfl;obtain⟨S',x,hx,xi⟩:=h aa l0 rfl;refine⟨λy hy=>?_,?_⟩
  ·obtain⟨u,hu,rfl⟩:=List.mem_map.mp hy;obtain⟨w1,w2,w3,w4,w5,w6,w7⟩:=h3 u hu;exact⟨rfl,w1,w2,w3,w4,w5,lP.1,λp hp=>rl⟩
  ·grind [b6,dN]
theorem IE(I:bq G)(B:py G)(S:oq G M)(o:iR):Y1 M o:=by
 have F:=I.ik;refine⟨?_,?_,?_⟩
 ·rw[S.nx,S.l,nD];refine BR (I.HP B _ _) (λnx l' h=>?_);obtain⟨et,_,_,_,_,_,rfl⟩:=l0 h;exact⟨mz F.gb F.KI,ec G.next et o.n,aq,rfl⟩
 ·rw[S.nx,S.l,qJ];refine BR (I.V9 B _ _) (λnx l' h=>?_);obtain⟨et,sn,i,_,hi,_,_,_,_,rfl⟩:=qI h;obtain⟨SR,mm⟩:=qu F.gb (h6 hi) F.KI (s:=jS G.next (recAt G.l i) sn M.st) (v':=nO G.next (recAt G.l i)) rfl rfl;exact⟨SR,_,(mm _).mpr (.inr (.inl rfl)),rfl⟩
 ·rw[S.nx,S.l,oz];refine BR (I.MJ B _ _) (λnx l' h=>?_);obtain⟨vs,et,i,_,_,hi,_,_,_,rfl⟩:=nW h;exact⟨mz F.gb F.KI,fi G.next et (recAt G.l i),aq,rfl⟩
theorem TT(I:bq G)(B:py G)(S:oq G M)(h1:M.st<=100000000)(h2:M.made<=100000000):JO M:=by
 have:=B.nx;refine⟨by rw[S.l,lN];exact I.hl,λx hx=>?_,λx hx=>?_,λx hx=>?_,by rw[S.nx];omega,h1,h2⟩;all_goals rw[S.l]at hx;obtain⟨u,hu,rfl⟩:=List.mem_map.mp hx
 ·rfl
 ·obtain⟨w1,w2,w3,w4,w5,w6,w7⟩:=I.wf u hu;exact⟨w1,w2,w3,w4,w5,lP.1,λp hp=>rl⟩
 ·exact((bm _).mp (I.ik.rt u hu)).2.2.2.1.2
end
section
open Go.Shelf
def L7:Go.Shelf.Ren:=⟨λ|6=>170|15=>122|14=>232|28=>201|29=>202|20=>265|21=>266|22=>267|23=>268|24=>269|25=>270|26=>271|27=>272|46=>286|47=>251|48=>252|49=>287|50=>288|57=>294|n=>n,λ|22=>192|24=>122|25=>253|3=>3|39=>210|0=>0|53=>85|55=>70|4=>4|46=>280|45=>279|50=>267|5=>5|9=>9|66=>331|70=>334|76=>348|77=>349|n=>n,λ|n=>n⟩
theorem Wa:Go.Proofs.SlLaysF0.n6 Aag L7:={mixed:=al,f6:=⟨Tryz.f170.name,av,func170.trans (ct some aA)⟩,f14:=⟨Tryz.f232.name,av,func232.trans (ct some aA)⟩,f15:=func122.trans (ct some aA),f20:=⟨Tryz.f265.name,av,func265.trans (ct some aA)⟩,f21:=⟨Tryz.f266.name,av,func266.trans (ct some aA)⟩,f22:=⟨Tryz.f267.name,av,func267.trans (ct some aA)⟩,f23:=⟨Tryz.f268.name,av,func268.trans (ct some aA)⟩,f24:=⟨Tryz.f269.name,av,func269.trans (ct some aA)⟩,f25:=⟨Tryz.f270.name,av,func270.trans (ct some aA)⟩,f26:=⟨Tryz.f271.name,av,func271.trans (ct some aA)⟩,f27:=⟨Tryz.f272.name,av,func272.trans (ct some aA)⟩,f28:=func201.trans (ct some aA),f29:=func202.trans (ct some aA),f46:=⟨Tryz.f286.name,av,func286.trans (ct some aA)⟩,f47:=func251.trans (ct some aA),f48:=func252.trans (ct some aA),f49:=⟨Tryz.f287.name,av,func287.trans (ct some aA)⟩,f50:=⟨Tryz.f288.name,av,func288.trans (ct some aA)⟩,f57:=⟨Tryz.f294.name,av,func294.trans (ct some aA)⟩,t0:=underlying0,a0:=Tryz.isAgg0,z0:=Tryz.sizeOf0,v0:=Tryz.zeroValue0,t3:=underlying3,a3:=Tryz.isAgg3,z3:=Tryz.sizeOf3,v3:=Tryz.zeroValue3,t4:=underlying4,a4:=Tryz.isAgg4,z4:=Tryz.sizeOf4,v4:=Tryz.zeroValue4,t5:=underlying5,a5:=Tryz.isAgg5,z5:=Tryz.sizeOf5,v5:=Tryz.zeroValue5,t9:=underlying9,a9:=Tryz.isAgg9,z9:=Tryz.sizeOf9,v9:=Tryz.zeroValue9,t22:=underlying192,a22:=Tryz.isAgg192,z22:=Tryz.sizeOf192,v22:=Tryz.zeroValue192,t25:=underlying253,a25:=Tryz.isAgg253,z25:=Tryz.sizeOf253,v25:=Tryz.zeroValue253,t39:=underlying210,a39:=Tryz.isAgg210,z39:=Tryz.sizeOf210,v39:=Tryz.zeroValue210,t45:=underlying279,a45:=Tryz.isAgg279,z45:=Tryz.sizeOf279,v45:=Tryz.zeroValue279,t46:=underlying280,a46:=Tryz.isAgg280,z46:=Tryz.sizeOf280,v46:=Tryz.zeroValue280,t50:=underlying267,a50:=Tryz.isAgg267,z50:=Tryz.sizeOf267,v50:=Tryz.zeroValue267,t53:=underlying85,a53:=Tryz.isAgg85,z53:=Tryz.sizeOf85,v53:=Tryz.zeroValue85,t55:=underlying70,a55:=Tryz.isAgg70,z55:=Tryz.sizeOf70,v55:=Tryz.zeroValue70,t66:=underlying331,a66:=Tryz.isAgg331,z66:=Tryz.sizeOf331,v66:=Tryz.zeroValue331,t70:=underlying334,a70:=Tryz.isAgg334,z70:=Tryz.sizeOf334,v70:=Tryz.zeroValue334,t76:=underlying348,a76:=Tryz.isAgg348,z76:=Tryz.sizeOf348,v76:=Tryz.zeroValue348,t77:=underlying349,a77:=Tryz.isAgg349,z77:=Tryz.sizeOf349,v77:=Tryz.zeroValue349}
def G5:Go.Shelf.Ren:=⟨λ|189=>61|125=>122|257=>121|128=>201|129=>202|294=>192|295=>193|296=>194|297=>195|298=>196|299=>197|216=>198|300=>199|301=>200|328=>250|329=>251|330=>252|331=>253|332=>254|215=>255|343=>277|n=>n,λ|28=>41|3=>3|46=>210|0=>0|51=>85|53=>70|4=>4|183=>280|182=>279|131=>267|5=>5|9=>9|218=>331|222=>334|228=>348|229=>349|n=>n,λ|n=>n⟩
theorem Jn:Go.Proofs.Lays.n189 Aag G5:={mixed:=al,f125:=func122.trans (ct some aA),f128:=func201.trans (ct some aA),f129:=func202.trans (ct some aA),f189:=func61.trans (ct some aA),f215:=func255.trans (ct some aA),f216:=func198.trans (ct some aA),f257:=func121.trans (ct some aA),f294:=func192.trans (ct some aA),f295:=func193.trans (ct some aA),f296:=func194.trans (ct some aA),f297:=func195.trans (ct some aA),f298:=func196.trans (ct some aA),f299:=func197.trans (ct some aA),f300:=func199.trans (ct some aA),f301:=func200.trans (ct some aA),f328:=func250.trans (ct some aA),f329:=func251.trans (ct some aA),f330:=func252.trans (ct some aA),f331:=func253.trans (ct some aA),f332:=func254.trans (ct some aA),f343:=func277.trans (ct some aA),t0:=underlying0,a0:=Tryz.isAgg0,z0:=Tryz.sizeOf0,v0:=Tryz.zeroValue0,t3:=underlying3,a3:=Tryz.isAgg3,z3:=Tryz.sizeOf3,v3:=Tryz.zeroValue3,t4:=underlying4,a4:=Tryz.isAgg4,z4:=Tryz.sizeOf4,v4:=Tryz.zeroValue4,t5:=underlying5,a5:=Tryz.isAgg5,z5:=Tryz.sizeOf5,v5:=Tryz.zeroValue5,t9:=underlying9,a9:=Tryz.isAgg9,z9:=Tryz.sizeOf9,v9:=Tryz.zeroValue9,t28:=underlying41,a28:=Tryz.isAgg41,z28:=Tryz.sizeOf41,v28:=Tryz.zeroValue41,t46:=underlying210,a46:=Tryz.isAgg210,z46:=Tryz.sizeOf210,v46:=Tryz.zeroValue210,t51:=underlying85,a51:=Tryz.isAgg85,z51:=Tryz.sizeOf85,v51:=Tryz.zeroValue85,t53:=underlying70,a53:=Tryz.isAgg70,z53:=Tryz.sizeOf70,v53:=Tryz.zeroValue70,t131:=underlying267,a131:=Tryz.isAgg267,z131:=Tryz.sizeOf267,v131:=Tryz.zeroValue267,t182:=underlying279,a182:=Tryz.isAgg279,z182:=Tryz.sizeOf279,v182:=Tryz.zeroValue279,t183:=underlying280,a183:=Tryz.isAgg280,z183:=Tryz.sizeOf280,v183:=Tryz.zeroValue280,t218:=underlying331,a218:=Tryz.isAgg331,z218:=Tryz.sizeOf331,v218:=Tryz.zeroValue331,t222:=underlying334,a222:=Tryz.isAgg334,z222:=Tryz.sizeOf334,v222:=Tryz.zeroValue334,t228:=underlying348,a228:=Tryz.isAgg348,z228:=Tryz.sizeOf348,v228:=Tryz.zeroValue348,t229:=underlying349,a229:=Tryz.isAgg349,z229:=Tryz.sizeOf349,v229:=Tryz.zeroValue349}
end
instance:Inhabited hL:=⟨tJ⟩
def AJ(u:hL):List hL->List hL
 | []=>[u]
 | x::l=>if u.du<x.du then u::x::l else x::AJ u l
def O3(l:List hL):List hL:=l.foldl (λout u=>AJ u out) []
theorem q9(u:hL):∀l,(AJ u l).Perm (u::l)
 | []=>Adp _
 | x::l=>by
  rw[AJ];split
  ·exact Adp _
  ·exact((q9 u l).cons x).trans (List.Perm.swap _ _ _)
theorem Dk:∀(l out:List hL),(l.foldl (λout u=>AJ u out) out).Perm (out++l)
 | [],out=>aq
 | u::l,out=>by rw[yM];refine(Dk l (AJ u out)).trans ?_;refine((q9 u out).append_right l).trans ?_;rw[Aa2];exact List.perm_middle.symm
theorem tv(l:List hL):(O3 l).Perm l:=by have:=Dk l [];assumption
def Y0(l:List hL):Prop:=l.Pairwise (λa b=>a.du<b.du)
theorem Ib(u:hL):∀l:List hL,Y0 l->(∀x∈l,x.du≠u.du)->Y0 (AJ u l)
 | [],_,_=>by unfold Y0 AJ;simp
 | x::l,h,hn=>by
  unfold Y0 at *;rw[AJ];have hx:=fk.1 h;split
  ·rename_i hlt;refine fk.2 ⟨λy hy=>?_,h⟩;rcases Aak.1 hy with rfl|hy
   ·exact hlt
   ·exact Nat.lt_trans hlt (hx.1 y hy)
  ·rename_i hlt;have hne:=hn x cS;refine fk.2 ⟨λy hy=>?_,Ib u l hx.2 (λz hz=>hn z (bn _ hz))⟩;rcases Aak.1 ((q9 u l).mem_iff.1 hy)with rfl|hy
   ·omega
   ·exact hx.1 y hy
def Pg(l:List hL):Prop:=l.Pairwise (λa b=>a.du≠b.du)
theorem H3:∀(l out:List hL),Y0 out->Pg l->(∀x∈out,∀y∈l,x.du≠y.du)->Y0 (l.foldl (λout u=>AJ u out) out)
 | [],out,h,_,_=>h
 | u::l,out,h,hd,hx=>by
  rw[yM];have ab:=fk.1 hd;refine H3 l (AJ u out) (Ib u out h (λx aa=>hx x aa u cS)) ab.2 (λx aa y hy=>?_);rcases Aak.1 ((q9 u out).mem_iff.1 aa)with rfl|aa
  ·exact ab.1 y hy
  ·exact hx x aa y (bn _ hy)
theorem D3{l:List hL}(h:Pg l):Y0 (O3 l):=H3 l [] Abx h (λx hx=>aa)
theorem MK:∀{l:List hL},Pg l->∀a∈l,∀b∈l,a.du=b.du->a=b
 | [],_,a,ha,_,_,_=>by cases ha
 | x::l,h,a,ha,b,hb,e=>by
  have hx:=fk.1 h;rcases Aak.1 ha with h1|h1
  ·rcases Aak.1 hb with h2|h2
   ·rw[h1,h2]
   ·subst h1;exact absurd e (hx.1 b h2)
  ·rcases Aak.1 hb with h2|h2
   ·subst h2;exact absurd e.symm (hx.1 a h1)
   ·exact MK hx.2 a h1 b h2 e
theorem L6{l m:List hL}(h:Pg l)(hp:m.Perm l)(hs:m.Pairwise (λa b=>¬b.du<a.du)):m=O3 l:=by refine List.Perm.eq_of_pairwise (le:=λa b=>a.du<=b.du) (λa b ha hb h1 h2=>?_) (hs.imp (λh=>ae)) ((D3 h).imp (λh=>oI h)) (hp.trans (tv l).symm);grind [MK,tv]
theorem yx(u v:hL):ltOf HN u v=decide (u.du<v.du):=by unfold ltOf HN;simp;omega
theorem Wm:SWO (ltOf HN) where
 irrefl x:=by rw[yx];simp
 trans x y z h1 h2:=by rw[yx]at *;simp at *;omega
 ntrans x y z h1 h2:=by rw[yx]at *;simp at *;omega
theorem S4(e6 off size:Nat)(w:af):CmpLays Aag 171 #[] fR 7 HN e6 off size w:=λm os dk _ x y=>by show Aaf Aag 171 #[.agg (uC x),.agg (uC y)] _ _;exact(Wv _ x y).mono λe w' h=>⟨h.1,0,#[.cells (uC x) 122]++#[.cells (uC y) 122],h.2.trans aA⟩
theorem aG.ZQ{l:List hL}(hc:∀i(hi:i<κ l) j u,(fR l[i])[j]?=some u->w.cell? (ad g (0+(i*7+j)))=some u)(hf:∀i:Nat,w.frozen? ⟨g,i,none⟩=false):HoldsK fR 7 w g 0 l.toArray:=by
 intro j hj;rw[size_flatK]at hj;refine⟨?_,aa⟩;have hi:j/7<κ l:=aP
 have hlen:κ (fR l[j/7])=7:=rfl;have ag:j%7<κ (fR l[j/7]):=ae
 have:=hc (j/7) hi (j%7) (fR l[j/7])[j%7] (iI ag);rw[get_flatK _ _ _ _ ae];grind
theorem aG.VE{d:Array hL}(h:HoldsK fR 7 w g 0 d)(h0:0<d.size)(hc:d.size<=cap)(hm:cap<=maxLen):aG fR w (cC g d.size cap) d.toList:=by
 refine .inr ⟨g,0,cap,aq,ae,ae,hm,λj u hj=>?_⟩;have hlt:j<d.size*7:=by have:=(ki.1 hj).1;rw[uw.flat]at this;omega
 have h7:j%7<7:=uz _ ae;have hi:j/7<κ d.toList:=ao
 have CF:=uw.at d.toList (j/7) hi (j%7) h7;rw[show j/7*7+j%7=j from ae,hj]at CF;have al:=(h.cell (i:=j/7) (c:=j%7) ae h7).1;grind
theorem Wb(w:af)(base:Nat)(v:ah)(l:List hL)(h:ak fR 7 122 w base v l)(hl:κ l<=1000):Aaf Aag 170 #[v,.func (.func 171) #[] #[]] w λe w'=>e=rt #[]/\∃l',l'.Perm l/\l'.Pairwise (λa b=>¬b.du<a.du)/\aG fR w' v l'/\Touch (λb=>v.ownBlock=some b) w w':=by
 by_cases h0:l=[]
 ·subst h0;have hr:=ak.row h uw;obtain⟨a,cap,hv⟩:=hr.slice;rw[Aa5]at hv;subst hv;have ab:=AnyF.slices_SortFunc_none Wa a cap (.func (.func 171) #[] #[]) w;change Aaf Aag 170 _ _ _ at ab;refine ab.mono λe w' hh=>?_;obtain⟨he,rfl⟩:=hh;exact⟨he,[],Adp _,Abx,hr,Touch.refl _ _⟩
 ·have hr:=ak.row h uw;have ad:0<κ l:=Fz.2 h0;obtain⟨_,h2⟩:=id h;rcases h2 with⟨_,hz⟩|⟨g,cap,cur,rfl,aX,ag,hn,hm,aD,aI⟩
  ·omega
  obtain⟨b,off,hb,hlt,aR,hc⟩:=aG.get hr uw ad;simp only[Aai,Abm,and_true]at hb;obtain⟨rfl,rfl⟩:=hb;have hH:=aG.ZQ hc (λi=>World.ownsRow.frozenAt h i);have ab:=AnyQ.slices_SortFunc Wa 7 (λw=>aA) (λw=>aA) fR uw.len uw.one HN Wm 171 #[] g 0 cap l.toArray w (enters_of func171 aA rfl) (S4 g 0 l.toArray.size w) hH hlt ao;change Aaf Aag 170 _ _ _ at ab;rw[show l.toArray.size=κ l from aq]at ab;refine ab.mono λe w' hh=>?_;obtain⟨he,d',n,os,hp,hs,hw⟩:=hh;have aN:d'.size=κ l:=by rw[hp.1];simp
  refine⟨he,d'.toList,?_,?_,?_,?_⟩
  ·have h3:=hp.2.2;rw[M1 ae,M1 aq]at h3;exact h3
  ·rw[List.pairwise_iff_getElem];intro i j hi hj ai;have h3:=hs i j (bG _) ai aa;grind [yx]
  ·have aH:HoldsK fR 7 (sortWorldK fR 7 w g 0 n d' os) g 0 d':=by unfold sortWorldK;refine holdsK_grow fR 7 _ os g 0 d' ?_ (holdsK_putRowK fR 7 (Sort.ahead w n) g 0 l.toArray d' (holdsK_ahead fR 7 w n g 0 _ hH) ae);unfold putRowK putRow mapBlock Sort.ahead;simp;omega
   grind [aG.VE]
  ·rw[hw];unfold sortWorldK putRowK putRow mapBlock Sort.ahead grow;exact N4
def bD.counts(v:bD):Nat->bD
 | 0=>v
 | k+1=>(v.counts k).bb
theorem EB(v:bD):v.bb.aR=v.aR/\v.bb.cx=v.cx/\v.bb.bL=v.bL/\v.bb.dead=v.dead/\v.bb.left=v.left:=by simp[bD.bb]
theorem pQ(v:bD):∀k,(v.counts k).aR=v.aR/\(v.counts k).cx=v.cx/\(v.counts k).bL=v.bL/\(v.counts k).dead=v.dead/\(v.counts k).left=v.left
 | 0=>⟨rfl,rfl,rfl,rfl,rfl⟩
 | k+1=>by obtain⟨h1,h2,h3,h4,h5⟩:=pQ v k;obtain⟨g1,g2,g3,g4,g5⟩:=EB (v.counts k);exact⟨g1.trans h1,g2.trans h2,g3.trans h3,g4.trans h4,g5.trans h5⟩
theorem xl(v:bD)(k:Nat)(i:Int):(v.counts k).jQ i=v.jQ i/\(v.counts k).mj i=v.mj i:=by simp[pQ,bD.jQ,bD.mj,bD.nowAt,bD.hasB]
def bD.su(v:bD)(i:Nat):Option hL:=if v.jQ (i:Int)=0 then(k2 (v.mj (i:Int)).val).bind λu=>if u.du%4=i then some u else none else none
def bD.kX(v:bD):Nat->List hL
 | 0=>[]
 | k+1=>v.kX k++(v.su k).toList
def bD.I9(v:bD):List hL:=O3 (v.kX 4)
theorem MF{v:bD}(h:v.su i=some u):u.du%4=i:=by grind [bD.su,k2]
theorem I2{v:bD}:∀k,∀u∈v.kX k,u.du%4<k
 | 0,u,h=>gn
 | k+1,u,h=>by
  rw[bD.kX]at h;rcases Aa3.1 h with h|h
  ·exact Nat.lt_succ_of_lt (I2 k u h)
  ·have:=MF (Option.mem_toList.1 h);omega
theorem wQ(v:bD):∀k,Pg (v.kX k)
 | 0=>Abx
 | k+1=>by
  unfold Pg;rw[bD.kX,A3];refine⟨wQ v k,?_,λa ha b hb=>?_⟩
  ·cases v.su k with
   | none=>exact Abx
   | some x=>exact yN _ _
  ·obtain⟨h1,h2⟩:=az (I2 k a ha) (MF (Option.mem_toList.1 hb));intro e;rw[e]at h1;omega
theorem qz(v:bD):∀k,κ (v.kX k)<=k
 | 0=>aE _
 | k+1=>by
  have:=qz v k;rw[bD.kX,Aae];have h2:κ (v.su k).toList<=1:=by cases v.su k<;>simp
  omega
theorem I4(v:bD)(i:Int):v.jQ i=0\/v.jQ i=42\/v.jQ i=41:=by grind [bD.jQ]
theorem TF:(prog.info? 122).map (λi=>(i.zero,i.size,i.bytes))=some (some (.agg (uC tJ)),7,56):=al
def Sl(v:bD)(h:iM)(w:af)(e:Ab3)(w':af):Prop:=∃a n c,e=.returned (.slice a n c)/\aG fR w' (.slice a n c) v.I9/\(∀b,Aan (.slice a n c)=some b->w.heap.size<=b)/\Dv w' h (v.counts 4)/\Touch (cK h) w w'
theorem TP(w:af)(h:iM)(v:bD)(D:Dv w h v):Aaf Aag 110 #[pz h.d] w λe w'=>Sl v h w e w':=by
 obtain⟨DH,aj⟩:=aw D D.oG;go_in;go_wp2;go_loopw [3,9] (λlv i wr=>∃k:Nat,k<=4/\i=i6 k/\ak fR 7 122 wr w.heap.size lv (v.kX k)/\Dv wr h (v.counts k)/\Touch (cK h) w wr) (λ_ i _=>4-(Aaq i).toNat)
 case atStart=>exact⟨0,bG _,rfl,(ak.nil _ 7 _ w _),DH,Touch.refl _ _⟩
 case round=>
  obtain⟨k,hk,rfl,ow,dv,tc⟩:=hrel;obtain⟨OW,DK,TC⟩:=aW ow dv tc;by_cases hlt:k<4
  ·have b2:((k:Int)<4)=True:=by simp;omega
   have RD:=Dg _ h _ DK (k:Int) ae;rw[(xl v k _).1,(xl v k _).2]at RD;obtain⟨aP,RS,AT,RL⟩:=bS RD (show v.kX (k+1)=v.kX k++(v.su k).toList from rfl) (show v.su k=if v.jQ (k:Int)=0 then(k2 (v.mj (k:Int)).val).bind λu=>if u.du%4=k then some u else none else none from rfl) (qz v k);have EC:=I4 v (k:Int);generalize v.mj (k:Int)=sv at *;generalize v.jQ (k:Int)=se at *;go_wp2_with fail;refine aP.mono ?_;rintro e w2⟨rfl,D2,T2⟩;have UX:=ai w2 (.cells (aD sv.val) 60);obtain⟨aE,aC,aH,ar,D3⟩:=eQ (wg sv) (dr sv.val) (show(aD aM).size=(aD sv.val).size by rw[bT,bT,sv.property];rfl) ((TC.trans T2 (λn hn _=>hn)).trans (Touch.bV (F:=λ_=>False) UX) (λn hn _=>hn.elim)) (show Dv _ h (v.counts (k+1))from D2.up UX);have al:=an (ak.up (ak.ax OW T2 (λb hb hf=>by obtain⟨h1,h2⟩:=az ((ak.aJ OW b hb).1) (aj b hf);omega)) UX)
   rcases EC with rfl|he
   rotate_left
   ·have ag:=an (show v.kX (k+1)=v.kX k by rw[RS.out,AT.out,aO ae];simp);have ad:=al.out;rw[<-ag.out]at ad;have hb:∃z:Int,z=se/\z≠0:=⟨se,rfl,ae⟩;rcases he with rfl|rfl
    all_goals
     go_wp2_with(first
      | refine arm ?_
      | ((with_reducible refine cB _ _ _ ?_);refine fK _ rfl _ (.tmp 5) (.tmp 16) rfl _ _ (aD aM) rfl rfl rfl aE aH aC ?_))
     refine⟨⟨k+1,ae,aq,ad,D3,ar⟩,?_⟩;simp only[Aaq];omega
   ·have bP:=an (show v.su k=(k2 sv.val).bind λu=>if u.du%4=k then some u else none by rw[AT.out,bp rfl]);go_wp2_with(first
     | refine arm ?_
     | ((with_reducible refine cB _ _ _ ?_);refine fK _ rfl _ (.tmp 5) (.tmp 16) rfl _ _ (aD aM) rfl rfl rfl aE aH aC ?_))
    refine((λW=>RT W _ sv.property) _).mono ?_;rintro e w4 aN;unfold Sx at aN;obtain⟨rfl,U4⟩:=aN;cases hs:k2 sv.val with
    | none=>have ag:=an (show v.kX (k+1)=v.kX k by rw[RS.out,bP.out,hs];simp);have UX:=U4.trans (ai w4 (.cells (uC tJ) 122));have ad:=ak.up al UX;rw[<-ag.out]at ad;obtain⟨D4,au⟩:=aw (D3.up UX) (ar.trans (Touch.bV (F:=λ_=>False) UX) (λn hn _=>hn.elim));have SC:=run_storeCells_new (P:=Aag) w4 122 (uC tJ) (uC tJ) (EL tJ) rfl (xb tJ);clear hs;simp only[Option.getD_none,Option.isSome_none];go_wp2_with(refine arm ?_);refine⟨⟨k+1,ae,aq,ad,D4,au⟩,?_⟩;simp only[Aaq];omega
    | some u=>
     have UX:=U4.trans (ai w4 (.cells (uC u) 122));obtain⟨BU,ad,D4,au,ao,bM⟩:=iC (aI.new w4 122 (uC u)) (ak.up al UX) (D3.up UX) (ar.trans (Touch.bV (F:=λ_=>False) UX) (λn hn _=>hn.elim)) (Jk (w4.alloc (.cells (uC u) 122)) u) (show v.su k=if u.du%4=k then some u else none by rw[bP.out,hs];rfl);clear hs;simp only[Option.getD_some,Option.isSome_some];generalize u.du%4=tx at *;go_wp2_with(first
      | refine arm ?_
      | ((with_reducible refine cB _ _ _ ?_);refine fK _ rfl _ (.tmp 7) (.tmp 23) rfl _ _ (uC tJ) rfl rfl rfl (EL u) rfl (xb u) ?_))
     refine ao.mono ?_;rintro e w6⟨rfl,U6⟩;obtain⟨av,D6,aK⟩:=aW (ak.up ad U6) (D4.up U6) (au.trans (Touch.bV (F:=λ_=>False) U6) (λn hn _=>hn.elim));by_cases aa:tx=k;rotate_left
     ·have ag:=an (show v.kX (k+1)=v.kX k by rw[RS.out,bM.out,aO aa];simp);have ow:=av.out;rw[<-ag.out]at ow;have bt:((tx:Int)==(k:Int))=false:=by simp;omega
      clear aa;go_wp2;refine⟨⟨k+1,ae,aq,ow,D6,aK⟩,?_⟩;simp only[Aaq];omega
     ·have ag:=an (show v.kX (k+1)=v.kX k++[u] by rw[RS.out,bM.out,bp aa];rfl);have bt:((tx:Int)==(k:Int))=true:=by simp;omega
      have UY:=ai w6 (.cells (uC u) 122);obtain⟨RW,aF,D7,aL,hb1,hb2⟩:=iC (show aG fR (w6.alloc (.cells (uC u) 122)) (cC w6.heap.size 1 1) [u] from aG.er _ _ rfl (uC u) 122 (0,0) [u] 1 rfl dy (by simp[fR])) (ak.up av UY) (D6.up UY) (aK.trans (Touch.bV (F:=λ_=>False) UY) (λn hn _=>hn.elim)) (show(κ (v.kX k) + [u].length)*56<=140737488355328 by have:=RL.out;simp;omega) (show(v.kX k).length + [u].length<=9223372036854775807 by have:=RL.out;simp;omega);obtain⟨aB,II⟩:=aw aL.size TF;clear aa;go_wp2_with(first
       | refine arm ?_
       | ((with_reducible refine dS _ 1 _ ?_);refine tF rfl 192 _ (.tmp 33) rfl _ 7 _ _ rfl underlying192 II ae ae rfl ?_)
       | (at_builtin;refine bI uw rfl (.tmp 32) (.tmp 34) 192 rfl _ _ _ _ underlying192 II rfl _ _ rfl aF _ _ rfl RW hb1 hb2 aB ?_))
      intro v8 w8 ab ay aR;rw[<-ag.out]at ab;have GT:=Touch.be (F:=λb=>w.heap.size<=b) ay (λb hb=>(ak.aJ aF b hb).1);obtain⟨D8,aQ⟩:=aw (D7.ax GT (λb hb hle=>by have:=aj b hb;omega)) (aL.trans GT (λn hn hl=>ae));go_wp2;refine⟨⟨k+1,ae,aq,ab,D8,aQ⟩,?_⟩;simp only[Aaq];omega
  ·obtain rfl:k=4:=by omega
   have b2:((4:Nat):Int)=4:=rfl;obtain⟨sa,sc,ba⟩:=(ak.row OW uw).slice;subst ba;have SO:=an (Wb wr w.heap.size _ (v.kX 4) OW (by have:=qz v 4;omega));generalize(v.kX 4).length=rn at *;go_wp2_with fail;refine SO.mono ?_;rintro e w6⟨rfl,l',hp,hs,hr,T6⟩;have hl:=L6 (wQ v 4) hp hs;subst hl;go_wp2;go_ret;refine⟨sa,rn,sc,rfl,hr,λb hb=>(ak.aJ OW b hb).1,DK.ax T6 (λb hb hf=>?_),TC.trans T6 (λn hn hlt=>?_)⟩
   ·obtain⟨h1,h2⟩:=az ((ak.aJ OW b hf).1) (aj b hb);omega
   ·have h1:=(ak.aJ OW n hn).1;omega
def bD.zK(v:bD):Option hL:=v.I9.getLast?
def Sf(v:bD)(h:iM)(w:af)(e:Ab3)(w':af):Prop:=e=.returned (.tuple #[.agg (uC (v.zK.getD tJ)),.bool v.zK.isSome])/\Dv w' h (v.counts 4)/\Touch (cK h) w w'
theorem SD(w:af)(h:iM)(v:bD)(D:Dv w h v):Aaf Aag 54 #[pz h.d] w λe w'=>Sf v h w e w':=by
 obtain⟨aj,U1,BZ,BB⟩:=bS D.oG (ai w (.cells (uC tJ) 122)) Da (show v.zK=v.I9.getLast? from rfl);go_in;go_wp2_with(refine arm ?_);refine(TP _ h v (D.up U1)).mono ?_;rintro e w3⟨a,n,c,rfl,IR,FR,D3,T3⟩;have T3':=an ((Touch.bV (F:=cK h) U1).trans T3 (λn hn _=>hn));have Z3:=an ((aI.new w 122 (uC tJ)).ax T3 (λhf=>by have:=aj _ hf;omega));obtain⟨l,hl⟩:=bE (v.I9);rw[<-hl]at IR BB;clear hl FR;obtain rfl:n=κ l:=by obtain⟨_,_,h⟩:=IR.slice;simp at h;exact h.2.1
 have NF:=an (show ¬cK h w.heap.size from λhf=>by have:=aj _ hf;omega);by_cases h0:κ l=0
 ·have HB:=an (show v.zK=none by rw[BB.out,qe.1 h0];rfl);rw[h0];clear h0 BB;go_wp2_with(first|refine arm ?_|refine pH ?_);refine Nw ?_;intro w9 b9 g9 GT D9 T9;go_wp2;exact bN (.tuple #[.agg (uC tJ),.bool false]) b9 ⟨by rw[HB.out];rfl,D9,T9⟩
 obtain⟨m,hm⟩:∃m,κ l=m+1:=⟨κ l-1,ae⟩;have aS:m<κ l:=ae
 obtain⟨b,off,rfl,_,_,hc⟩:=aG.get IR uw ae;have RG:=an (show w3.rangeAt b (off+m*7) (uC l[m]).toList from λj u hj=>by have:=hc m aS j u hj;rwa [show off+(m*7+j)=off+m*7+j from ae]at this)
 have HB:=an (show v.zK=some l[m] by rw[BB.out,List.getLast?_eq_getElem?,hm,Nat.add_sub_cancel,iI aS])
 have hlen:=IR.length_le;generalize l[m]=u at *;rw[hm]at hlen ⊢;have b1:(((m+1:Nat):Int)==0)=false:=aA
 have wm:((m+1:Nat):Int)-1=(m:Int):=ae
 have aa:m<m+1:=ae
 obtain⟨n,hn⟩:=bE (m+1);rw[<-hn]at b1 wm hlen aa ⊢;have ab:=bc m ae;clear hm aS hc h0 BB hn;go_wp2_with(first|refine arm ?_|refine pH ?_);refine Nw ?_;intro w9 b9 g9 GT D9 T9;go_wp2;exact bN (.tuple #[.agg (uC u),.bool true]) b9 ⟨by rw[HB.out];rfl,D9,T9⟩
theorem Mh(hr:eW u=true)(hw:u.wf):Ce (eZ u)=u:=by
 obtain⟨⟨g1,g2⟩,⟨g3,g4⟩,⟨hg,_⟩,⟨g5,g6⟩,⟨g7,g8⟩⟩:=(kD u).1 hr;obtain⟨rest,hs⟩:∃rest,eZ u=l9++(aZ u.du 8++(aZ u.ay 8++(bM u.iL++(aZ u.len.toNat 4++(aZ u.sec.toNat 4++rest))))):=by simp[aX,Cf,eZ,qS,Ec]
 have d4:(eZ u).drop 4=aZ u.du 8++(aZ u.ay 8++(bM u.iL++(aZ u.len.toNat 4++(aZ u.sec.toNat 4++rest)))):=by rw[hs];exact lh rfl
 have d12:(eZ u).drop 12=aZ u.ay 8++(bM u.iL++(aZ u.len.toNat 4++(aZ u.sec.toNat 4++rest))):=by rw[show(12:Nat)=4+8 from rfl,<-Ac4,d4];exact lh (bC _ _)
 have d20:(eZ u).drop 20=bM u.iL++(aZ u.len.toNat 4++(aZ u.sec.toNat 4++rest)):=by rw[show(20:Nat)=12+8 from rfl,<-Ac4,d12];exact lh (bC _ _)
 have d36:(eZ u).drop 36=aZ u.len.toNat 4++(aZ u.sec.toNat 4++rest):=by rw[show(36:Nat)=20+16 from rfl,<-Ac4,d20];exact lh (fA _)
 have d40:(eZ u).drop 40=aZ u.sec.toNat 4++rest:=by rw[show(40:Nat)=36+4 from rfl,<-Ac4,d36];exact lh (bC _ _)
 have hp:mg (bM u.iL)=u.iL:=by have:=nv u.iL hw.2.2.1 hg;unfold mi at this;simp_all
 unfold Ce;rw[d4,d12,d20,d36,d40,h0 (bC _ _),h0 (bC _ _),h0 (fA _),h0 (bC _ _),h0 (bC _ _),hc 8 u.du ae,hc 8 u.ay ae,hc 4 u.len.toNat ae,hc 4 u.sec.toNat ae,hp];obtain⟨t,s,p,l,m⟩:=u;grind
theorem Mj(hr:eW u=true)(hw:u.wf):k2 (eZ u)=some u:=by grind [k2,Mh]
def su(C:List cQ)(i:Nat):Option hL:=(C[i]?).bind (λs=>(k2 s.val).bind λu=>if u.du%4=i then some u else none)
theorem SB{l:List hL}(h:Y0 l)(hu:u∈l)(hm:∀x∈l,x.du<=u.du):l.getLast?=some u:=by
 rcases Fp l with rfl|⟨l',z,rfl⟩
 ·cases hu
 ·rw[Fq]at *;rw[List.getLast?_append];simp only[List.getLast?_singleton,Option.some_or,Aai];rcases List.mem_append.mp hu with h1|h1
  ·have h2:=(List.pairwise_append.mp h).2.2 u h1 z aq;grind
  ·simp_all
theorem bD.ZE{v:bD}(hd:v.dead=false)(hs:κ v.cx=κ v.aR)(hi:i<κ v.cx):v.su i=_root_.Go.Proofs.YtkpjfnbbkohciaaGreat.su v.cx i:=by have hb:v.hasB (i:Int)=true:=(nY v i).2 ae;unfold bD.su _root_.Go.Proofs.YtkpjfnbbkohciaaGreat.su;grind [bD.jQ,bD.mj,bD.nowAt]
theorem Xa{v:bD}(hd:v.dead=false)(hs:κ v.cx=κ v.aR)(h4:4<=κ v.cx)(hu:_root_.Go.Proofs.YtkpjfnbbkohciaaGreat.su v.cx (u.du%4)=some u)(hm:∀i,i<4->∀x,_root_.Go.Proofs.YtkpjfnbbkohciaaGreat.su v.cx i=some x->x.du<=u.du):v.zK=some u:=by
 have mem:∀k,k<=4->∀x,x∈v.kX k↔∃i,i<k/\_root_.Go.Proofs.YtkpjfnbbkohciaaGreat.su v.cx i=some x:=by
  intro k;induction k with
  | zero=>simp[bD.kX]
  | succ k ih=>grind [bD.kX,bD.ZE]
 unfold bD.zK bD.I9;grind [SB,D3,wQ,tv]
theorem W'(w:af)(h:iM)(C:List cQ)(m:Nat)(fl:Bool)(D:DA w h C m fl)(h4:4<=κ C)(u:hL)(hu:su C (u.du%4)=some u)(hm:∀i,i<4->∀x,su C i=some x->x.du<=u.du):Aaf Aag 54 #[pz h.d] w λe w'=>e=rt #[.agg (uC u),.bool true]/\DA w' h C m fl/\Touch (cK h) w w':=by obtain⟨v,h1,h2,h3,h5,h6,h7,h8⟩:=D;refine(SD w h v h1).mono ?_;rintro e w'⟨rfl,D',T⟩;rw[(Xa (v:=v) h3 h1.len aa (u:=u) aa aP)];obtain⟨c1,c2,c3,c4,c5⟩:=pQ v 4;exact⟨rfl,⟨v.counts 4,D',cq,cq,ae,cq,aa,cq⟩,T⟩
theorem Bn(h1:1<=n)(h2:n<=128):dF n=1:=by grind [dF,eD,ly,hf]
theorem Vv:dF 1024=9:=by simp[dF,eD,ly,jl,hf]
theorem oX(ht:64<=t/\t<=400):dF (cJ t)<=9:=by
 have h:cJ t=2+5*((t+1)/2):=by grind [cJ]
 rw[<-Vv];exact s' ae ae ae
theorem De(hn:n<=1024):n-4<=bj (jZ n):=by
 have h:((Aal (n-4)).map (· + 4)).Nodup:=List.pairwise_map.mpr (List.nodup_range.imp (λh e=>h ae));have:=HO (s:=jZ n) h (λi hi=>by obtain⟨k,hk,rfl⟩:=List.mem_map.mp hi;have:=List.mem_range.mp hk;exact⟨ae,by grind [jZ]⟩)
 simp_all
theorem QJ{C:List cQ}{fl:Bool}(h:64<=κ C/\(κ C)<=400):fc (tc C m fl)<=11/\0<fc (tc C m fl):=by have e:fc (tc C m fl)=e2 12 (κ C):=hQ (next:=1) (l:=[]) ⟨ae,aq,aq⟩ av Uc;grind [e2,Bn,oX]
theorem IC{C:List cQ}{fl:Bool}(h:64<=κ C/\(κ C)<=400):bq (tc C m fl):=by
 have hc:=De (n:=κ C) ae;obtain⟨f1,f2⟩:=QJ (m:=m) (fl:=fl) h;refine⟨⟨y7,qp,?_,Abx,?_,?_,?_,?_,?_,?_⟩,⟨?_,?_,?_,?_,?_,?_⟩,?_,Abx,?_,?_,λi=>?_,λi hi=>?_,λi=>?_,by show 0<1;omega,y7,Uc,?_⟩;all_goals first
  | (intro x hx;cases hx;done)
  | skip
 ·show jZ (κ C) i=0↔(i<4\/κ C<=i);grind [jZ]
 ·show jZ (κ C) i=2↔_;constructor
  ·grind [jZ]
  ·rintro(⟨x,hx,_⟩|⟨q,hq,_⟩)
   ·cases hx
   ·cases hq
 ·show jZ (κ C) i<=3;grind [jZ]
 ·unfold ev;refine fm ⟨f2,?_,?_⟩
  ·show _<=bj (jZ (κ C));omega
  ·show _<=bj (jZ (κ C))+0;omega
structure Ring(G:ch):Prop where
 le:∀i,i<4->∀u,su G.P.C i=some u->u.du<=G.u.du
 here:1<=G.u.du->su G.P.C (G.u.du%4)=some G.u
theorem Ring.congr{G G2:ch}(R:Ring G)(I:bq G)(hu:G2.u=G.u)(hc:∀j,G.P.s j≠1->G2.P.C[j]?=G.P.C[j]?):Ring G2:=by
 have e:∀i,i<4->su G2.P.C i=su G.P.C i:=λi hi=>by unfold su;rw[hc i (by have:=(I.s0 i).mpr (.inl hi);omega)]
 exact⟨λi hi u h=>by rw[hu];exact R.le i hi u aa,λh=>by rw[hu]at h ⊢;rw[e _ ae];exact R.here h⟩
section
variable {G:ch} {b:List aj}
structure W3(G:ch)(b:List aj):Prop where
 ex:k9 G.P.C G.u.iL b (iK (κ G.P.C) (aB (gy G.P.s) 4096)) G.ms
 Zp:e3 G.next G.l=some b
 ub:G.u.sec=(κ G.P.C:Int)/\G.u.len=40/\G.u.ay=G.P.ba/\G.P.st=G.P.ba+1/\1<=G.u.du
 no3:∀i,G.P.s i≠3
theorem Ex(I:bq G)(B:py G)(R:Ring G){G2:ch}(h:mO G b G2)(K:Cy G b):W3 G2 b/\Ring G2:=by
 obtain⟨ats,CO⟩:=Ey I h;obtain⟨q,ps,P8,⟨ab,h1,h2,h3,h4,h5,h6,h7⟩,rfl⟩:=h;have qn:q≠hole:=Jc ⟨ab,h1,h2,h3,h4,h5,h6,h7⟩;obtain⟨ln,aF,hba,aa⟩:=iQ I.ln I.st I.sb B.tx;have ru:eW (nQ G q)=true:=(kD _).mpr ⟨⟨Nat.le_add_left _ _,by show G.u.du+1<=_;omega⟩,⟨by show 1<=G.P.st;omega,aF⟩,⟨h7,qn⟩,⟨by show(1:Int)<=40;omega,by show(40:Int)<=_;omega⟩,⟨by show(64:Int)<=(κ G.P.C:Int);omega,by show(κ G.P.C:Int)<=_;omega⟩⟩;have wu:(nQ G q).wf:=⟨by show G.u.du+1<_;omega,by show G.P.st<_;omega,h6,by show(_:Int)<=40/\(40:Int)<=_;omega,by show(_:Int)<=(κ G.P.C:Int)/\(κ G.P.C:Int)<=_;omega⟩;have c4:∀i,i<4->P8.C[i]?=G.P.C[i]?:=λi hi=>h5.other i (λha=>by have:=(h3 i ha).2;have hz:=(hS (s:=G.P.s) (ba:=G.P.ba) (k:=i) G.ms).mpr ((I.s0 i).mpr (.inl hi));omega)
 have ad:∀i,i<4->su (Xx G P8 q ps).P.C i=if i=(G.u.du+1)%4 then some (nQ G q)else su G.P.C i:=λi hi=>by show su (P8.C.set _ _) i=_;grind [su,qT,nQ,eZ,Mj]
 refine⟨⟨?_,K.Zp,⟨by rw[CO.cl];rfl,rfl,?_,?_,Nat.le_add_left _ _⟩,λi=>?_⟩,⟨λi hi u hu=>?_,λ_=>?_⟩⟩
 ·have tf:gy (Xx G P8 q ps).P.s=gy (fv (bK G.P.s G.P.ba G.ms) ab):=by funext i;show decide (i<1024/\iG P8.s 1024 i=2)=decide (i<1024/\fv (bK G.P.s G.P.ba G.ms) ab i=2);rw[h5.s];grind [iG]
  have e:W0 {G.P with s:=fv (bK G.P.s G.P.ba G.ms) ab}=iK (κ (Xx G P8 q ps).P.C) (aB (gy (Xx G P8 q ps).P.s) 4096):=by rw[tf,CO.cl];rfl
  rw[<-e];show k9 (P8.C.set _ _) q b _ ps;refine h4.congr (λp hp=>Ft (λh=>?_));obtain⟨k,hk,e⟩:=(List.mem_map.mp (h5.AV.mem_iff.mp (List.mem_map.mpr ⟨p,hp,rfl⟩)));have hz:=mt (I.s0 k).mpr (λh=>by grind [hS]);omega
 ·show G.P.st=P8.st;rw[h5.st]
 ·rfl
 ·by_cases hi:i<1024
  ·exact CO.no3 i hi
  ·have:(Xx G P8 q ps).P.s i=0:=(CO.zer i).mpr ((I.s0 i).mpr (.inr ae));omega
 ·rw[ad i hi]at hu;split at hu
  ·cases hu;exact aE _
  ·have:=R.le i hi u hu;show u.du<=G.u.du+1;omega
 ·have:(Xx G P8 q ps).u.du%4=(G.u.du+1)%4:=rfl;rw[this,ad _ ae,bp rfl];rfl
end
theorem Mk:k2 aM=none:=aA
theorem QK(n m:Nat)(fl:Bool):Ring (tc (Aad n e9) m fl):=by
 refine⟨λi hi u h=>?_,λh=>by have h:1<=0:=h;omega⟩;have h:su (Aad n e9) i=some u:=h;unfold su at h;rw[List.getElem?_replicate]at h;split at h
 ·have e:k2 e9.val=none:=Mk;simp_all
 ·cases h
structure gX(n:Nat)(G:ch)(b:List aj):Prop where
 inv:bq G
 ring:Ring G
 dsk:W3 G b
 nx:G.next=1
 l:G.l=[]
 st:G.P.st=2
 tx:G.u.du=1
 m:G.P.m=0
 len:κ G.P.C=n
 room:n<=bj G.P.s+κ G.ms+4
 few:κ G.ms<=11
theorem xD(n:Nat):py (tc (Aad n e9) 0 true):=⟨y7,y7,qp,qp⟩
theorem Lh(hn:64<=n/\n<=400){b:List aj}(h:mO (tc (Aad n e9) 0 true) b G)(K:Cy (tc (Aad n e9) 0 true) b)(hb:κ b=ck []):gX n G b:=by
 have I:=IC (C:=Aad n e9) (m:=0) (fl:=true) ao;obtain⟨ats,CO⟩:=Ey I h;obtain⟨d,r⟩:=Ex I (xD n) (QK n 0 true) h K;have hc:=CO.count I;have hl:κ (Aad n e9)=n:=wz;have h2:n-4<=bj (tc (Aad n e9) 0 true).P.s:=by have:=De (n:=n) ae;show n-4<=bj (jZ (κ (Aad n e9)));simp;omega
 have ml:κ G.ms=κ ats:=by have:=CO.loc.length_eq;simp_all
 have hc:=hc;exact⟨I.com CO hb (by show 1<_;omega),r,d,CO.nx,CO.l,CO.st,CO.tx,CO.m,by rw[CO.cl];exact hl,ae,by rw[ml,CO.len,hb];show e2 12 (κ (Aad n e9))<=11;rw[hl];unfold e2;rw[Bn ae ae];have:=oX hn;omega⟩
end Go.Proofs.YtkpjfnbbkohciaaGreat
