import Derived.Test.YtkpjfnbbkohciaaGreatAe
import Derived.Shelf.SlSortCmp.WholeK
import Derived.Shelf.Sort.Plain
import Derived.Shelf.SlSortCmp.NoneTotal
set_option maxRecDepth 100000
set_option maxHeartbeats 16000000
set_option linter.all false
open Go renaming Oper->Abn,Ending->Ab2,Calls->Aae,Addr->Adr,wpAnyH->Acp,zeroValue->Acj,TypeId->Aab,splice->Abx,execOp->Abt,wpList->Aal,undef->Aas,wpStill->Ade,yielded->Aa1,YieldsIf->Acb
open List renaming length_cons->Aaj,mem_cons->Aam,flatMap_cons->Abc,length_append->Aaf,map_cons->Acd,sum_cons->Ace,range->Aak,map_append->Aar,append_assoc->Aa9,length_map->Aac,nil_append->Aaz,range_succ->Ab5,length_nil->Aa4,length_set->Aat,mem_map->Abd,replicate->Aad,size_toArray->Abh,mem_append->Aa8,take_zero->Abk,cons_append->Aa2,length->κ
open Classical renaming byContradiction->Adx,not_forall->Acl
open Go.Proofs.Tryz renaming prog->Aag,underlying30->Aa0
open Go.RowKit renaming intOf->Aau
open Nat renaming zero_add->Aby
open And renaming intro->Adc
open Go.Value renaming slice->Acr,int->Ack,ownBlock->Aan
open Except renaming map->Ac1
open List.Pairwise renaming nil->Abz
open Bool renaming and_eq_true->Abe
open Int renaming toNat->Adp
open Go.Op renaming equalIn->Ach
open Go.ByteArray renaming toList_eq->Adl
open Go.Sem renaming run_bind->Aay,run_pure->Ac7
open Go.Result renaming andThen_ok->Aax,andThen->Aap
open Option.some renaming injEq->Aai
open Go.Instr renaming index->Adf
open Go.Act renaming put->Aao
open Go.Oper renaming wp->Aca
open Go.Extern.MapsClone renaming clone->Acn
open Go.Region renaming wanted->Aaa
open List.Perm renaming refl->Adm
open Go.Addr.mk renaming injEq->Abq
namespace Go.Proofs.YtkpjfnbbkohciaaGreat
open Go.Proofs.Tryz Go.RowKit Go.Sort
variable{b ba cap g i j k m n p st:Nat}{rest:List Abn}{N r:Int}{vp:ah}{o:Abn}{e:Ab2}{H:aR}{w:af}{Q:Exit->Act->af->Prop}{C:Array ah}{G:ct}{a:Act}{ops:Array Abn}{P:bp}{root:au}
theorem eR{α:Type}[DecidableEq α]:∀(l m:List α),l.Nodup->(∀x∈l,x∈m)->κ l<=κ m
 | [],_,_,_=>bT _
 | x::l,m,h,hs=>by obtain⟨h1,h2⟩:=List.nodup_cons.mp h;have hx:=hs x df;have:=eR l (m.erase x) h2 (λy hy=>(List.mem_erase_of_ne (λe=>h1 (by rw[<-e];exact hy))).mpr (hs y (bt _ hy)));rw[List.length_erase_of_mem hx]at this;have:=List.length_pos_of_mem hx;rw[Aaj];omega
theorem PW.nodup{l:List au}(h:PW l):l.Nodup:=h.imp (λ{a b} ar e=>by grind [uF])
theorem I7{l:List au}(h:PW l)(hf:∀p∈l,nK p=true):hn l=true:=by
 rw[jo];intro i hi;unfold tw;rw[hf _ (cw hi),Bool.true_and];split
 ·rfl
 ·exact r1.mp h (i-1) i hi ae
def qR{l:List au}(h:hn l=true):PW l:=r1.mpr (GX h)
theorem w1{l:List au}(h:hn l=true){p:au}(hp:p∈l):nK p=true:=by obtain⟨i,hi,rfl⟩:=jP hp;grind [jo,tw]
theorem MH{p:au}:nK p=true↔p≠hole/\cA p=true:=by simp[nK]
theorem qn{fl:Nat}:∀(ps d gone:List au),PW d->(∀q∈ps,nK q=true)->ps.Nodup->(∀q∈ps,q ∉ d)->κ d+κ ps<=4000->∃d',jh fl d gone ps=some (d',gone++ps.filter (λq=>decide (fl<q.aU)))/\PW d'/\(∀p,p∈d'↔p∈d\/(p∈ps/\¬fl<p.aU))
 | [],d,gone,hd,_,_,_,_=>⟨d,by simp[jh],hd,aq⟩
 | q::r,d,gone,hd,hf,hn,ho,hl=>by
  obtain⟨n1,n2⟩:=List.nodup_cons.mp hn;have aa:=λx hx=>hf x (bt q hx);rw[Aaj]at hl;by_cases h:fl<q.aU
  ·obtain⟨d',h1,h2,h3⟩:=qn r d (gone++[q]) hd aa n2 (λx hx=>ho x (bt q hx)) ae;refine⟨d',?_,h2,λp=>?_⟩
   ·rw[Ip h,h1,List.filter_cons_of_pos jR];simp
   ·rw[h3 p,Aam];constructor
    ·rintro(h4|⟨h4,h5⟩)
     ·exact .inl h4
     ·exact .inr ⟨.inr h4,h5⟩
    ·rintro(h4|⟨rfl|h4,h5⟩)
     ·exact .inl h4
     ·exact absurd h h5
     ·exact .inr ⟨h4,h5⟩
  ·rcases Hw d q hd (hf q df)with⟨h1,_⟩|⟨_,m,h2,h3,h4⟩
   ·exact absurd h1 (ho q df)
   ·have hm:κ m<=κ d+1:=by have:=eR m (q::d) h3.nodup (λx hx=>List.mem_cons.mpr ((h4 x).mp hx));simpa using this
    obtain⟨d',k1,k2,k3⟩:=qn r m gone h3 aa n2 (λx hx hm=>by
     rcases(h4 x).mp hm with rfl|hm
     ·exact n1 hx
     ·exact ho x (bt q hx) hm) ae
    refine⟨d',?_,k2,λp=>?_⟩
    ·rw[Io h h2 ae,k1,List.filter_cons_of_neg jR]
    ·rw[k3 p,h4 p,Aam];constructor
     ·rintro((rfl|h6)|⟨h6,h7⟩)
      ·exact .inr ⟨.inl rfl,h⟩
      ·exact .inl h6
      ·exact .inr ⟨.inr h6,h7⟩
     ·rintro(h6|⟨rfl|h6,h7⟩)
      ·exact .inl (.inr h6)
      ·exact .inl (.inl rfl)
      ·exact .inr ⟨h6,h7⟩
def my(x:ao):Nat:=60+κ x.name+16*κ x.dead
def cO(l:List ao):Nat:=12+(l.map my).sum
theorem pP:∀ts:List (List aj),κ (de ts)=(ts.map (λt=>2+κ t)).sum
 | []=>rfl
 | t::ts=>by have:=pP ts;unfold de at this ⊢;rw[Abc,Aaf,this,Acd,Ace];simp[uD,bx]
theorem yx(x:ao):κ (fe x)=58+κ x.name+16*κ x.dead:=by simp[fe,oe,im,eb]
theorem kU(next:Nat)(l:List ao):κ (eD (ek next l))=cO l:=by
 unfold eD ek cO;rw[Aaf,pP,Acd,Ace,gK,bx,qu];have:((λt:List aj=>2+κ t) ∘ fe)=my:=by grind [fe,my,yx]
 grind
theorem qQ{next:Nat}{l:List ao}{b:List aj}:e2 next l=some b↔(next<=281474976710655/\(κ l)<=32/\∀x∈l,cK x=true)/\cO l<=65535/\b=eD (ek next l):=by grind [e2,lL,kU]
theorem Jv{a b k:Nat}(h:a<=b):lZ a k<=lZ b k:=Nat.div_le_div_right ae
theorem KL:∀(b a:Nat),a<=b->(a::mf a).sum<=(b::mf b).sum:=by
 intro b;induction b using Nat.strongRecOn with
 | ind b ih=>
  intro a h;rw[Ace,Ace];by_cases ha:a<=1
  ·grind [hx]
  ·rw[kC ae,kC (by omega:1<b)];have:=ih (lZ b 8) (by grind [lZ]) (lZ a 8) (Jv h);omega
theorem BE{a b:Nat}(h1:1<=a)(h:a<=b)(h2:b<=65535):dN a<=dN b:=by unfold dN eG;rw[bI ae,bI ae];exact KL _ _ (Jv h)
theorem jt{next t:Nat}{l:List ao}(h:next<=281474976710655/\(κ l)<=32/\∀x∈l,cK x=true)(h2:cO l<=65535)(ht:64<=t/\t<=1024):eZ next l t=e8 (cO l) t:=by unfold eZ;rw[qQ.mpr ⟨h,h2,rfl⟩];grind [cL,e8,eD,ek,kU]
theorem lN{next t:Nat}{l:List ao}(h:0<eZ next l t):(next<=281474976710655/\(κ l)<=32/\∀x∈l,cK x=true)/\cO l<=65535:=by
 unfold eZ at h;split at h
 ·rename_i m hm;have:=qQ.mp hm;simp_all
 ·omega
theorem P2(k t:Nat):1<=e8 k t:=by grind [e8]
theorem J6{a b t:Nat}(h1:1<=a)(h:a<=b)(h2:b<=65535):e8 a t<=e8 b t:=by unfold e8;have:=BE h1 h h2;omega
theorem x4(l:List ao):12<=cO l:=by simp[cO]
theorem CK{next next' t:Nat}{l l':List ao}(h:next'<=281474976710655/\(κ l')<=32/\∀x∈l',cK x=true)(h0:0<eZ next l t)(ht:64<=t/\t<=1024)(hl:cO l'<=cO l):0<eZ next' l' t/\eZ next' l' t<=eZ next l t:=by obtain⟨k1,k2⟩:=lN h0;rw[jt k1 k2 ht,jt h ae ht];exact⟨P2 _ _,J6 (by grind [x4]) hl k2⟩
theorem Ha{l:List ao}(hi:i<κ l)(x:ao)(f:ao->Nat):((l.set i x).map f).sum+f (recAt l i)=(l.map f).sum+f x:=by exact N9
theorem Eg{l:List ao}(hi:i<κ l)(f:ao->Nat):((l.eraseIdx i).map f).sum+f (recAt l i)=(l.map f).sum:=by exact N9
section
variable {s:Nat->Nat} {ba k:Nat} {q:au}
theorem ZV{i:Int}{x y:Nat}(h:i≠(k:Int)):sS s i x y k=s k:=FF
theorem Xu{i:Int}{x y:Nat}(h:s k≠x):sS s i x y k=s k:=FF
theorem uj(h:q.loc≠(k:Int)):gX s ba q k=s k:=by unfold gX;grind [ZV]
theorem Dr(h:s k≠2):gX s ba q k=s k:=by unfold gX;grind [Xu]
theorem wo(hq:q≠hole)(h:q.loc=(k:Int))(hk:k<1024)(h2:s k=2):gX s ba q k=if ba<q.aU then 1 else 3:=by
 unfold gX;rw[aY hq];have:∀y,sS s q.loc 2 y k=y:=λy=>FF
 grind
theorem hf:∀(l:List au){s:Nat->Nat},s k≠2->bO s ba l k=s k
 | [],_,_=>rfl
 | q::l,s,h=>by have e:=Dr (ba:=ba) (q:=q) h;exact(hf l (by rw[e];exact h)).trans e
theorem l0:∀(l:List au){s:Nat->Nat},(∀q∈l,q.loc≠(k:Int))->bO s ba l k=s k
 | [],_,_=>rfl
 | q::l,s,h=>(l0 l (λx hx=>h x (bt _ hx))).trans (uj (h q df))
theorem oQ:∀(l:List au){s:Nat->Nat},(∀q∈l,q≠hole)->(∃q∈l,q.loc=(k:Int))->k<1024->s k=2->bO s ba l k=1\/bO s ba l k=3
 | [],_,_,h,_,_=>by obtain⟨q,hq,_⟩:=h;cases hq
 | q::l,s,hn,h,hk,h2=>by
  by_cases hq:q.loc=(k:Int)
  ·have e:=wo (s:=s) (ba:=ba) (hn q df) hq hk h2;have:bO s ba (q::l) k=gX s ba q k:=hf l (by rw[e];split<;>omega);rw[this,e];split
   ·exact .inl rfl
   ·exact .inr rfl
  ·obtain⟨x,hx,e⟩:=h;rcases List.mem_cons.mp hx with rfl|hx
   ·exact absurd e hq
   ·exact oQ l (λx hx=>hn x (bt _ hx)) ⟨x,hx,e⟩ hk (by rw[uj hq];exact h2)
theorem Az:∀(l:List au){s:Nat->Nat},(∀q∈l,q≠hole/\q.aU<=ba)->(∃q∈l,q.loc=(k:Int))->k<1024->s k=2->bO s ba l k=3
 | [],_,_,h,_,_=>by obtain⟨q,hq,_⟩:=h;cases hq
 | q::l,s,hn,h,hk,h2=>by
  by_cases hq:q.loc=(k:Int)
  ·have e:=wo (s:=s) (ba:=ba) (hn q df).1 hq hk h2;rw[aY (by have:=(hn q df).2;omega)]at e;have:bO s ba (q::l) k=gX s ba q k:=hf l (by rw[e];omega);rw[this,e]
  ·obtain⟨x,hx,e⟩:=h;rcases List.mem_cons.mp hx with rfl|hx
   ·exact absurd e hq
   ·exact Az l (λx hx=>hn x (bt _ hx)) ⟨x,hx,e⟩ hk (by rw[uj hq];exact h2)
theorem h9(l:List au):bO s ba l k=0↔s k=0:=by
 constructor
 ·intro h;exact Adx λh2=>by
   by_cases h3:s k=2
   ·exact absurd h (by
     have:∀(l:List au)(s:Nat->Nat),s k≠0->bO s ba l k≠0:=by
      intro l;induction l with
      | nil=>intro s h;exact h
      | cons q l ih=>
       intro s h;refine ih _ ?_;by_cases e:s k=2
       ·by_cases hq:q=hole
        ·unfold gX;rw[bI hq];exact h
        ·by_cases hl:q.loc=(k:Int)
         ·by_cases hk:k<1024
          ·rw[wo hq hl hk e];split<;>omega
          ·have:∀y,sS s q.loc 2 y k=s k:=λy=>by unfold sS;rw[aY];unfold KH;simp only[decide_eq_true_eq];omega
           unfold gX;rw[aY hq];split
           ·rw[this];exact h
           ·rw[this];exact h
         ·rw[uj hl];exact h
       ·rw[Dr e];exact h
     exact this l s h2)
   ·grind [hf]
 ·grind [hf]
theorem wq(l:List au)(h:s k<=3)(hn:∀q∈l,q≠hole)(hk:k<1024):bO s ba l k<=3:=by
 by_cases h2:s k=2
 ·by_cases hx:∃q∈l,q.loc=(k:Int)
  ·grind [oQ]
  ·grind [l0]
 ·grind [hf]
end
theorem Ce{s:Nat->Nat}{gone:List au}{R R' Q:Nat->Prop}(h2:∀i,i<1024->(s i=2↔R i\/Q i))(hn:∀q∈gone,q≠hole)(a:∀i,i<1024->R' i->R i/\∀p∈gone,p.loc≠(i:Int))(b:∀i,i<1024->R i->R' i\/∃p∈gone,p.loc=(i:Int))(c:∀i,i<1024->Q i->∀p∈gone,p.loc≠(i:Int)):∀i,i<1024->(bO s ba gone i=2↔R' i\/Q i):=by grind [hf,oQ,l0]
structure bm(G:ct):Prop where
 hY:gd G.next G.l
 si:gV G.P.st G.l (gf G.P.C)
 tr:∀x∈G.l,eA G.P.C x.root
 md:(G.ms.map (·.loc)).Nodup
 ml:∀q∈G.ms,4<=q.loc/\q.loc<1024/\q.aU<=G.P.ba
 mx:∀q∈G.ms,∀x∈G.l,∀p,gf G.P.C x.root p->p.loc≠q.loc
 s0:∀i,G.P.s i=0↔(i<4\/κ G.P.C<=i)
 s2:∀i,i<1024->(G.P.s i=2↔(∃x∈G.l,∃p,gf G.P.C x.root p/\p.loc=(i:Int))\/∃q∈G.ms,q.loc=(i:Int))
 s3:∀i,G.P.s i<=3
 sb:G.P.ba<G.P.st
 st:G.P.st<=281474976710655
 ln:64<=κ G.P.C/\(κ G.P.C)<=1024
 ft:e0 G=true
def tT(C:List cS)(x:ao)(j:Nat):Option cS:=fM C (eK C x.root (9+j))
theorem gd.VL{next:Nat}{l:List ao}(F:gd next l){x:ao}(hx:x∈l){p:au}(hp:1<=p.aU):cz l x p↔tU l x.prev<p.aU:=by
 by_cases h0:x.prev=0
 ·rw[h0,F.aaE];exact⟨λ_=>ae,λ_ y hy e=>FK⟩
 ·obtain⟨y,hy,e,h1,h2,_⟩:=F.prv hx h0;rw[h2];exact⟨λh=>h y hy e,λh z hz ez=>by rw[F.fP.inj hz hy (ez.trans e.symm)];exact h⟩
section
variable {G:ct}
theorem bm.qL(I:bm G):oH G.P:=by
 refine⟨λj hj=>?_,I.ln.2,⟨by have:=I.sb;omega,I.st⟩⟩;have:¬(j<4\/κ G.P.C<=j):=λh=>by have:=(I.s0 j).mpr h;omega
 omega
theorem bm.taken(I:bm G){x:ao}(hx:x∈G.l){p:au}(hp:gf G.P.C x.root p):G.P.s p.loc.toNat=2:=by have:=hp.loc (I.tr x hx);exact(I.s2 p.loc.toNat ae).mpr (.inl ⟨x,hx,p,hp,ae⟩)
def bm.aaG(I:bm G){x:ao}(hx:x∈G.l):jF G.P x.root:=⟨I.tr x hx,λp hp=>I.taken hx hp⟩
theorem bm.rP(I:bm G){q:au}(hq:q∈G.ms):G.P.s q.loc.toNat=2:=by have:=I.ml q hq;exact(I.s2 q.loc.toNat ae).mpr (.inr ⟨q,hq,ae⟩)
theorem bm.shape(I:bm G):(G.next<=281474976710655/\(κ G.l)<=32/\∀x∈G.l,cK x=true)/\cO G.l<=65535:=by have h:=I.ft;unfold e0 at h;rw[decide_eq_true_eq]at h;exact lN h.1
theorem bm.wf(I:bm G):∀x∈G.l,x.wf:=λx hx=>by
 obtain⟨h1,h2,h3,h4,h5,h6,h7,h8,h9⟩:=(br x).mp (I.hY.rt x hx);refine⟨ae,ae,ae,?_,ae,(I.tr x hx).qh.1,λp hp=>?_⟩
 ·split at h9<;>omega
 ·by_cases h0:x.prev=0
  ·rw[I.hY.pz x hx h0]at hp;cases hp
  ·obtain⟨y,hy,e,_⟩:=I.hY.pv x hx h0;have:=((I.si.dd x hx y hy e p).mp hp).1;exact(this.qh (I.tr y hy).qh).1
theorem bm.mZ(I:bm G){x:ao}(hx:x∈G.l):κ x.dead<=73:=by
 by_cases h0:x.prev=0
 ·rw[I.hY.pz x hx h0];exact bT _
 ·obtain⟨y,hy,e,_⟩:=I.hY.pv x hx h0;have:=eR x.dead ((Aak 73).map (eK G.P.C y.root)) ((qR ((br x).mp (I.hY.rt x hx)).2.2.2.2.2.2.2.1).nodup) (λp hp=>by obtain⟨_,a,ha,ea⟩:=((I.si.dd x hx y hy e p).mp hp).1;exact List.mem_map.mpr ⟨a,List.mem_range.mpr ha,ea⟩)
  assumption
theorem bm.MP(I:bm G){C':List cS}(hc:∀j,G.P.s j≠1->C'[j]?=G.P.C[j]?){x:ao}(hx:x∈G.l):eA C' x.root/\(∀a,a<73->eK C' x.root a=eK G.P.C x.root a)/\(∀a,a<73->fM C' (eK G.P.C x.root a)=fM G.P.C (eK G.P.C x.root a)):=(I.tr x hx).congr (λp hp=>hc _ (by rw[I.taken hx hp];omega))
def bm.ZA(I:bm G){C':List cS}(hc:∀j,G.P.s j≠1->C'[j]?=G.P.C[j]?){x:ao}(hx:x∈G.l)(p:au):gf C' x.root p↔gf G.P.C x.root p:=gf.congr (I.MP hc hx).2.1
theorem bm.ZB(I:bm G){C':List cS}(hc:∀j,G.P.s j≠1->C'[j]?=G.P.C[j]?){x:ao}(hx:x∈G.l){j:Nat}(hj:j<64):tT C' x j=tT G.P.C x j:=by obtain⟨_,h1,h2⟩:=I.MP hc hx;grind [tT]
theorem gV.congr{st:Nat}{l:List ao}{M M':au->au->Prop}(I:gV st l M)(h:∀x∈l,∀p,M' x.root p↔M x.root p):gV st l M':=by obtain⟨a1,a2,a3,a4,a5,a6⟩:=I;refine⟨λx hx p hp=>a1 x hx p ((h x hx p).mp hp),λx hx hs=>⟨(a2 x hx hs).1,λp hp=>(a2 x hx hs).2 p ((h x hx p).mp hp)⟩,λx hx y hy e p hp hb=>(h y hy p).mpr (a3 x hx y hy e p ((h x hx p).mp hp) hb),λx hx y hy e p=>aQ,λx hx z hz p q hp hq=>a5 x hx z hz p q ((h x hx p).mp hp) ((h z hz q).mp hq),λx hx z hz p hp hq=>a6 x hx z hz p ((h x hx p).mp hp) ((h z hz p).mp hq)⟩
theorem bm.dev(I:bm G){C':List cS}(m:Nat)(fl:Bool)(hl:κ C'=κ G.P.C)(hc:∀j,G.P.s j≠1->C'[j]?=G.P.C[j]?):bm {G with P:={G.P with C:=C',m:=m,fl:=fl}}:=by
 have S:∀x∈G.l,∀p,gf C' x.root p↔gf G.P.C x.root p:=λx hx p=>I.ZA hc hx p;refine⟨I.hY,I.si.congr S,λx hx=>(I.MP hc hx).1,I.md,I.ml,λq hq x hx p hp=>I.mx q hq x hx p ((S x hx p).mp hp),?_,λi hi=>?_,I.s3,I.sb,I.st,?_,?_⟩
 ·show ∀i,G.P.s i=0↔(i<4\/κ C'<=i);rw[hl];exact I.s0
 ·rw[show({G with P:={G.P with C:=C',m:=m,fl:=fl}}:ct).P.s=G.P.s from rfl,I.s2 i hi];grind
 ·show 64<=κ C'/\(κ C')<=1024;rw[hl];exact I.ln
 ·have:=I.ft;grind [e0,fu,eZ]
end
theorem bm.hr(I:bm G):∀x∈G.l,κ x.dead*24<=140737488355328:=λx hx=>by have:=I.mZ hx;omega
theorem bm.hl(I:bm G):κ G.l<=1000:=by have:=I.hY.len;omega
theorem bm.s4(I:bm G):κ G.ms<=1024:=by
 have:=eR (G.ms.map (·.loc)) ((Aak 1024).map (λk:Nat=>(k:Int))) I.md (λx hx=>by obtain⟨q,hq,rfl⟩:=List.mem_map.mp hx;have:=I.ml q hq;exact List.mem_map.mpr ⟨q.loc.toNat,List.mem_range.mpr ae,ae⟩)
 simp_all
def iU(l:List ao)(full:List aj)(i:Int):Except Nat Nat:=match hS full with
 | none=>.error 141
 | some _=>e9 l full i
section
variable {l:List ao} {full vn:List aj} {i:Int}
theorem Hl(h:hS full=none):iU l full i=.error 141:=by grind [iU]
theorem WS(h:hS full=some vn):iU l full i=e9 l full i:=by grind [iU]
end
theorem xX(w:af)(gb:Nat)(H:aR)(G:ct)(A:GA w gb H G)(hl:κ G.l<=1000)(hr:∀x∈G.l,κ x.dead*24<=140737488355328)(full:List aj)(hf:κ full<=9223372036854775807)(i:Int):Aae Aag 46 #[j9 gb,.string (strOf full),i6 i] w λe w'=>Mp G.l (iU G.l full i) w e w':=by
 obtain⟨w2,hw2⟩:=bE ((w.alloc (.cells #[pz gb] 100)).alloc (.cells b6 90));obtain⟨U1,U2⟩:=az (ai w (.cells #[pz gb] 100)) (ai (w.alloc (.cells #[pz gb] 100)) (.cells b6 90));obtain⟨b1,b2⟩:=az ((aF.new w 100 #[pz gb]).up U2) (aF.new (w.alloc (.cells #[pz gb] 100)) 90 b6);rw[aN]at b2;have UU:=an (U1.trans U2);rw[<-hw2]at b1 b2 UU;obtain⟨HW2,IZ,OZ,SP⟩:=bW hw2 gM gU (jl w2 full hf);clear hw2;cases hs:dm full with
 | none=>have HE:=an (Hl (l:=G.l) (i:=i) (Mg hs));rw[hs]at SP;unfold gw at SP;clear hs;exact UK
 | some vs=>
  obtain⟨vn,sn⟩:=vs;have aa:=fX sn;by_cases h0:sn=[]
  ·have HE:=an (WS (l:=G.l) (i:=i) (Mh hs h0));rw[hs]at SP;unfold gw at SP;simp only at SP;rw[show decide (sn=[])=true from ab]at aa;have ae:((strOf sn).toList != [])=false:=by grind
   clear hs h0;go_in;go_wp2_with(refine arm ?_);rw[<-HW2.out];refine SP.mono ?_;rintro e w3⟨rfl,u3⟩;obtain⟨U3,ad⟩:=aw (UU.trans u3) (b2.up u3);have c0:=(b1.up u3).cell 0;go_wp2_with fail;refine((λW (u:Up w2 W)=>fz W _ H G ((A.up UU).up u) hl hr) _ u3).mono ?_;rintro e w4⟨v4,rfl,os,u4⟩;obtain⟨U4,B2_4⟩:=aw (U3.trans u4) (ad.up u4);clear c0;go_wp2_with fail;refine((λ(W:af) (v:ah) (hv:cq W v G.l)=>DY W _ v _ hv hr _ hf i) w4 v4 os.cm).mono ?_;exact N'
  ·have HE:=an (Hl (l:=G.l) (i:=i) (Mi hs h0));rw[hs]at SP;unfold gw at SP;simp only at SP;rw[show decide (sn=[])=false from ab]at aa;have ae:((strOf sn).toList != [])=true:=by grind
   clear hs h0;exact UK
def wu(G:ct):Int:=if e0 G=true then 0 else 71
def SB(id:Nat)(q:au)(x:ao):ao:=if x.id=id then {x with root:=q} else x
def mA(l:List ao)(id:Nat)(q:au):List ao:=l.map (SB id q)
def jB(l:List ao)(id:Nat)(q:au)(k:Nat):List ao:=(l.take k).map (SB id q)++l.drop k
theorem lT(l:List ao)(id:Nat)(q:au)(k:Nat):κ (jB l id q k)=κ l:=by grind [jB]
theorem B4{l:List ao}{id:Nat}{q:au}(hk:k<κ l)(h:k<κ (jB l id q k)):(jB l id q k)[k]=recAt l k:=by grind [jB,b9]
theorem B5{l:List ao}{id:Nat}{q:au}(hk:k<κ l):(jB l id q k).set k (SB id q (recAt l k))=jB l id q (k+1):=by
 have e:κ ((l.take k).map (SB id q))=k:=ab
 unfold jB;rw[y4 _ _ ae,e,Nat.sub_self,td hk,List.set_cons_zero,et hk,Aar,b9 hk,Aa9];rfl
theorem LK{l:List ao}{id:Nat}{q:au}(hk:k<κ l)(h:(recAt l k).id≠id):jB l id q (k+1)=jB l id q k:=by
 rw[<-B5 hk];have:SB id q (recAt l k)=(jB l id q k)[k]'(by grind [lT]):=by grind [B4,SB]
 simp_all
theorem LL(l:List ao)(id:Nat)(q:au):jB l id q 0=l:=aA
theorem RD(l:List ao)(id:Nat)(q:au):jB l id q (κ l)=mA l id q:=by simp[jB,mA]
theorem Wc(id:Nat)(q:au)(x:ao):(SB id q x).dead=x.dead:=by grind [SB]
theorem B6{l:List ao}{id:Nat}{q:au}{p:List au->Prop}(h:∀x∈l,p x.dead):∀x∈mA l id q,p x.dead:=λx hx=>by obtain⟨y,hy,rfl⟩:=List.mem_map.mp hx;rw[Wc];exact h y hy
def GY(l:List ao)(id:Nat)(q:au):κ (mA l id q)=κ l:=Aac ..
theorem Rr(w:af)(gb:Nat)(H:aR)(G:ct)(A:GA w gb H G)(hl:κ G.l<=1000)(hr:∀x∈G.l,κ x.dead*24<=140737488355328)(aG:∀x∈G.l,PW x.dead)(id:Nat)(q:au)(vo:ah)(old:List au)(ho:c9 w vo old)(aW:κ old<=1000)(l2:List ao)(gone:List au)(hk:qo G.next (mA G.l id q) id old=.ok (G.next,l2,gone))(aV:κ gone<=100000)(aB:κ l2<=1000)(aP:∀x∈l2,κ x.dead*24<=140737488355328)(aL:∀x∈l2,x.wf)(hn:G.next<18446744073709551616)(s4:κ G.ms<=100000):Calls prog 49 #[j9 gb,u6 (id:Int),.agg (be q),vo] w λe w'=>e=.returned (i6 (wu {G with P:={G.P with s:=bO G.P.s G.P.ba gone},l:=l2}))/\GA w' gb H {G with P:={G.P with s:=bO G.P.s G.P.ba gone},l:=l2}/\Touch (λk=>PF H k\/k=gb) w w':=by
 obtain⟨oa,oc,rfl⟩:=ho.slice;obtain⟨w2,hw2⟩:=bE ((w.alloc (.cells #[pz gb] 100)).alloc (.cells (be q) 87));obtain⟨U1,U2⟩:=az (ai w (.cells #[pz gb] 100)) (ai (w.alloc (.cells #[pz gb] 100)) (.cells (be q) 87));obtain⟨b1,b2⟩:=az ((aF.new w 100 #[pz gb]).up U2) (aF.new (w.alloc (.cells #[pz gb] 100)) 87 (be q));rw[aN]at b2;have uu:=U1.trans U2;rw[<-hw2]at b1 b2 uu;have c0:((w.alloc (.cells #[pz gb] 100)).alloc (.cells (be q) 87)).cell? (ad w.heap.size 0)=some (pz gb):=by rw[<-hw2];exact b1.cell 0
 obtain⟨HW2,A2,HK,aj,aQ,aX,aD,HN,aJ,bh,bw⟩:=WE hw2 (A.up uu) hk aP aL aW hl hn s4 aV aB;clear hk aP aL aW hn s4 aV aB;go_in;go_wp2_with(refine arm ?_);rw[<-HW2.out];clear c0;refine(fz _ _ H G A2 hl hr).mono ?_;rintro e w3⟨v3,rfl,a6,u3⟩;obtain⟨a3,c3,rfl⟩:=a6.cm.slice;have u4:=ai w3 (.cells (aO G.next (.slice a3 (κ G.l) c3)) 73);obtain⟨U4,aK,B9,ab,B2_4,A4,aa⟩:=yk ((uu.trans u3).trans u4) (u3.trans u4) (aF.new w3 73 (aO G.next (.slice a3 (κ G.l) c3))) ((b1.up u3).up u4) ((b2.up u3).up u4) ((A2.up u3).up u4) (bc.up a6 u4);have c1:(w3.alloc (.cells (aO G.next (.slice a3 (κ G.l) c3)) 73)).cell? (ad w3.heap.size 1)=some (.slice a3 (κ G.l) c3):=(aF.new _ _ _).cell 1;go_wp2_with(refine arm ?_);obtain⟨w4,hw4⟩:=bE (w3.alloc (.cells (aO G.next (.slice a3 (κ G.l) c3)) 73));rw[<-hw4]at U4 aK B9 ab B2_4 A4 aa c1 ⊢;clear hw4;clear c1;go_loopw [19] (λi wr=>∃k:Nat,k<=κ G.l/\i=i6 k/\bc wr w2.heap.size (.slice a3 (κ G.l) c3) (jB G.l id q k)/\Up w2 wr/\aF wr w3.heap.size 73 (aO G.next (.slice a3 (κ G.l) c3))) (λi _=>κ G.l-(Aau i).toNat)
 case atStart=>exact⟨0,bT _,rfl,by rw[LL];exact aa,aK,B9⟩
 case round=>
  obtain⟨k,hk,rfl,aM,ur,br⟩:=hrel;have aS:κ G.l<=1000:=aD;by_cases hlt:k<κ G.l
  ·have b3:((k:Int)<(κ G.l:Int))=True:=by simp;omega
   obtain⟨g,cp,hv,hg⟩:=aM.at (by rw[lT];omega);rw[lT]at hv;obtain⟨rfl,rfl⟩:a3=some ⟨g,0,none⟩/\c3=cp:=by simpa using hv
   clear hv;have HG:=an hg;obtain⟨b5,o5,ar,_,da,dc,rg,dp⟩:=cf aM.cm (show k<κ (jB G.l id q k) from zd);obtain⟨rfl,rfl⟩:g=b5/\0=o5:=by simpa using ar
   rw[b9 (show k<κ (jB G.l id q k) from zd),B4 hlt]at rg dp;rw[Aby]at rg;have e1:=(cd rg).1;have c1:wr.cell? (ad w3.heap.size 1)=some (cD g (κ G.l) c3):=br.cell 1;obtain⟨RK,RA⟩:=aw (B5 (id:=id) (q:=q) hlt) (show(jB G.l id q k)[k]' zd=recAt G.l k from B4 hlt _);clear ar hg;by_cases hid:(recAt G.l k).id=id
   ·have b4:(((recAt G.l k).id:Int)==(id:Int))=true:=by rw[hid];simp
    have RT:=an (show SB id q (recAt G.l k)={recAt G.l k with root:=q} from by unfold SB;rw[bI hid]);obtain⟨cur,hb,aC,aU⟩:=aM.aax k zd q;obtain⟨aE,bg,IP,OP⟩:=bW aU (show k*11+7+(be q).size<=cur.size from by show k*11+7+3<=cur.size;omega) (ia q) (jX q);clear aC aU hid;obtain⟨xi,al⟩:=bE ((recAt G.l k).id);rw[<-al]at e1 b4;clear al;go_wp2_with(first
     | refine cY 87 6 (b2.up ur) ?_
     | ((with_reducible refine cx _ _ _ ?_);refine ch rfl _ (.tmp 35) (.tmp 33) rfl g (k*11+7) _ rfl rfl _ _ hb IP bg OP ?_))
    intro wz hbz ag;rw[lX]at hbz;have OZ:=an (show bc wz w2.heap.size (cD g (κ G.l) c3) (jB G.l id q (k+1))from by have:=aE wz hbz ag;rw[RA.out,<-RT.out,RK.out]at this;exact this)
    go_wp2;go_roundw
    case rel=>exact⟨k+1,ae,aq,OZ,(ur.grown ag (λk hk=>by cases hk;exact HG)),(br.grown ag (by have:=e5 br hb av;simp;omega))⟩
    case measure=>simp only[Aau];omega
   ·have b4:(((recAt G.l k).id:Int)==(id:Int))=false:=by rw[beq_eq_false_iff_ne];omega
    have OZ:=an (show bc wr w2.heap.size (cD g (κ G.l) c3) (jB G.l id q (k+1))from by rw[(LK (id:=id) (q:=q) hlt) hid];exact aM);clear hid;obtain⟨xi,al⟩:=bE ((recAt G.l k).id);rw[<-al]at e1 b4;clear al;go_wp2;go_roundw
    case rel=>exact⟨k+1,ae,aq,OZ,ur,br⟩
    case measure=>simp only[Aau];omega
  ·obtain rfl:k=κ G.l:=by omega
   have b3:((κ G.l:Int)<(κ G.l:Int))=False:=aq
   have bj:=an (show bc wr w2.heap.size (.slice a3 (κ G.l) c3) (mA G.l id q)from by rw[<-RD];exact aM);have KI:=an (T2 _ G.next _ _ bj.cm (by rw[GY];exact hl) (B6 (id:=id) (q:=q) (p:=λd=>κ d*24<=140737488355328) hr) id _ _ ((ho.up uu).up ur) (by have:=aX.out;omega) (B6 (id:=id) (q:=q) (p:=PW) aG));rw[HK.out]at KI;go_wp2_with(refine arm ?_);refine KI.mono ?_;rintro e w5(⟨_,_,_,_,_,ay,_⟩|⟨nx,l',gn,v5,vg,he,rfl,aT,bf,u5⟩)
   case inl=>cases ay
   obtain⟨rfl,rfl,rfl⟩:G.next=nx/\l2=l'/\gone=gn:=by simpa using he
   clear he;obtain⟨a5,c5,rfl⟩:=aT.cm.slice;have bb:=an (br.up u5);go_wp2_with(first|refine arm ?_|refine oJ ?_);intro w6 aY aH;obtain⟨U6,bd⟩:=aw ((ur.trans u5).grown aH (λk hk=>by cases hk;have:=u3.size;omega)) (ak.kept bf aH (.inr (eB av bb bf)));obtain⟨A6,aI⟩:=aw (A2.up U6) (b1.up U6);go_wp2_with(refine arm ?_);refine(tC _ _ H G A6 _ _ (ak.row bd pw) (eE A6.pa bd) bh).mono ?_;rintro e w7⟨rfl,a7,t7⟩;have a1:=an (aI.ax t7 (A6.pa.cc aI av));have c7:w7.cell? (ad w.heap.size 0)=some (pz gb):=a1.cell 0;go_wp2_with(first
    | refine cY 73 9 (aY.ax t7 (A6.pa.cc aY av)) ?_)
   refine(n' _ _ H _ a7 _ _ _ (xb A6.pa (aT.Il bb aH) t7).cm bw aj).mono ?_;rintro e w8⟨rfl,a8,t8⟩;obtain⟨bk,bl,g7,_⟩:=a7;obtain⟨r,hr⟩:∃r:Int,r=wu {G with P:={G.P with s:=bO G.P.s G.P.ba gone},l:=l2}:=⟨_,rfl⟩;obtain⟨HRR,FT⟩:=aw hr (show Aae Aag 44 #[j9 gb] w8 λe w'=>e=.returned (i6 r)/\Up w8 w' from by rw[hr];exact BQ w8 gb H _ a8 HN aQ aJ);clear hr;clear c7;go_wp2_with(first
    | refine cY 100 4 (a1.ax t8 (e5 a1 g7 av)) ?_)
   refine FT.mono ?_;rintro e w9⟨rfl,u9⟩;go_wp2;go_ret;have hr:=HRR.out;subst hr;exact⟨rfl,(a8.up u9),(((((Touch.bP (F:=λk=>PF H k\/k=gb) (uu.trans U6)).trans (t7.mono (F':=λk=>PF H k\/k=gb) (λ_ h=>.inl h)) (λ_ h _=>h)).trans (t8.mono (F':=λk=>PF H k\/k=gb) (λ_ h=>.inr h)) (λ_ h _=>h)).iZ u9))⟩
theorem xn{F:List au}{SS:Nat->List au}(h:∀j,j<8->κ (SS j)=8):κ (yr root F SS st)<=73:=by grind [yr,nM]
theorem BT(w:af)(gb:Nat)(H:aR)(G:ct)(A:GA w gb H G)(hl:κ G.l<=1000)(hr:∀x∈G.l,κ x.dead*24<=140737488355328)(next' base:Nat)(v':ah)(l':List ao)(hv:bc w base v' l')(ar:κ l'<=1000)(ay:∀x∈l',κ x.dead*24<=140737488355328)(x:ao)(da:Option Adr)(dc:Nat)(F:List au)(SS:Nat->List au)(hF:node8 G.P.C x.root=some F)(hS:∀k,k<8->node8 G.P.C (a6 F k)=some (SS k))(gone:List au)(hg:gone=yr x.root F SS (b0 G.l x.id)):Aae Aag 132 #[j9 gb,.agg (aO next' v'),.agg (b8 x (.slice da (κ x.dead) dc))] w λe w'=>e=.returned (i6 0)/\GA w' gb H {G with P:={G.P with s:=bO G.P.s G.P.ba gone},next:=next',l:=l'}/\Touch (λk=>PF H k\/k=gb) w w':=by
 obtain⟨a,cp,rfl⟩:=hv.cm.slice;obtain⟨U1,U2,U3⟩:=cZ (ai w (.cells #[pz gb] 100)) (ai (w.alloc (.cells #[pz gb] 100)) (.cells (aO next' (.slice a (κ l') cp)) 73)) (ai ((w.alloc (.cells #[pz gb] 100)).alloc (.cells (aO next' (.slice a (κ l') cp)) 73)) (.cells (b8 x (.slice da (κ x.dead) dc)) 90));obtain⟨b1,b2,b3⟩:=cZ (((aF.new w 100 #[pz gb]).up U2).up U3) ((aF.new (w.alloc (.cells #[pz gb] 100)) 73 (aO next' (.slice a (κ l') cp))).up U3) (aF.new ((w.alloc (.cells #[pz gb] 100)).alloc (.cells (aO next' (.slice a (κ l') cp)) 73)) 90 (b8 x (.slice da (κ x.dead) dc)));rw[aN]at b2;rw[aN,aN]at b3;have uu:=(U1.trans U2).trans U3;obtain⟨w3,aa⟩:=bE ((((w.alloc (.cells #[pz gb] 100)).alloc (.cells (aO next' (.slice a (κ l') cp)) 73)).alloc (.cells (b8 x (.slice da (κ x.dead) dc)) 90)));rw[<-aa]at b1 b2 b3 uu;obtain⟨aC,UU,B2,A3⟩:=bW aa uu b2 (A.up uu);have GL:=an (show κ gone<=100000 from by rw[hg];have:=xn (root:=x.root) (F:=F) (SS:=SS) (st:=b0 G.l x.id) (λj hj=>cN (hS j hj));omega)
 obtain⟨aD,HRR,AL⟩:=aV ar ay (λW (u:Up w3 W)=>Jr W H G.P (A3.up u).pa x.root (b0 G.l x.id) F SS hF hS);rw[<-hg]at AL;have Fzq:=an (Adc b1 b3);clear aa ar ay hF hS hg;go_in;go_wp2_with(refine arm ?_);rw[<-aC.out];refine e7 (S:=(λW=>aF W w.heap.size 100 #[pz gb]/\aF W (w.heap.size+2) 90 (b8 x (.slice da (κ x.dead) dc)))) al ?_;change Acp _ _ _ _ _ 18 _ _ (w3.drew);have UD:=an (Up.drew (Up.refl w3));obtain⟨ag,az⟩:=aw (Adc (Fzq.1.up UD) (Fzq.2.up UD)) (UD);generalize w3.drew=w4 at *;refine ta 0 ?_;refine tb 1 rfl (yc (λW hS=>hS.1.cell 0)) ?_;refine ta 3 ?_;refine tb 4 rfl (W7 (λW hS=>hS.2.setAt.c7)) ?_;refine ta 5 ?_;refine tb 6 rfl (yc (λW hS=>hS.1.cell 0)) ?_;refine ta 9 ?_;refine tb 10 rfl (yc (λW hS=>hS.2.setAt.c0)) ?_;refine ok 2 ?_;intro K hK;go_simp;refine(ju _ _ H G (A3.up az)).mono ?_;refine f' ?_;intro wx;refine hK _ _ ag ?_;clear hK K;refine ok 7 ?_;intro K hK;go_simp;refine((λW (u:Up w3 W)=>fz W _ H G (A3.up u) hl hr) w4 az).mono ?_;rintro e w5⟨v5,rfl,aT,u5⟩;obtain⟨a5,c5,rfl⟩:=aT.cm.slice;obtain⟨ab,aj⟩:=aw (Adc (ag.1.up u5) (ag.2.up u5)) (az.trans u5);refine hK _ _ ab ?_;clear hK K;refine tk 8 (.slice a5 (κ G.l) c5) rfl (rf rfl (λW=>by have:=MA G.next a5 (κ G.l) c5 W;go_simp)) (ab) ?_;refine ok 11 ?_;intro K hK;go_simp;refine(rl _ _ _ aT.cm _).mono ?_;rintro e wx⟨rfl,aM⟩;rw[aM];clear aM;refine hK _ _ ab ?_;clear hK K;refine ok 12 ?_;intro K hK;go_simp;refine(AL w5 aj).mono ?_;rintro e w6⟨vg,rfl,aE,ae⟩;have NP:=A3.up aj;obtain⟨aq,A6,aB⟩:=aV (Adc (ab.1.ax ae.2 (NP.pa.cc ab.1 av)) (ab.2.ax ae.2 (NP.pa.cc ab.2 av))) (show GA w6 gb H G from NP.nV H.h.vp ae.1 ae.2) ((B2.up aj).ax ae.2 (NP.pa.cc (B2.up aj) av));refine hK _ _ aq ?_;clear hK K;refine ta 13 ?_;refine ta 14 ?_;refine ta 15 ?_;refine ta 16 ?_;refine ta 17 ?_;refine dn ?_;have aI:=an aq.1;go_wp2_with(refine arm ?_);refine(tC _ _ H G A6 _ _ (ak.row aE pw) (eE A6.pa aE) GL).mono ?_;rintro e w7⟨rfl,a7,t7⟩;have c7:w7.cell? (ad w.heap.size 0)=some (pz gb):=(aI.ax t7 (A6.pa.cc aI av)).cell 0;go_wp2_with(first
  | refine cY 73 4 (aB.ax t7 (A6.pa.cc aB av)) ?_)
 refine(n' _ _ H _ a7 _ _ _ (xb A6.pa (xb NP.pa (bc.up (bc.up hv uu) aj) ae.2) t7).cm aD HRR).mono ?_;rintro e w8⟨rfl,a8,t8⟩;clear c7;go_wp2;go_ret;exact⟨rfl,a8,((((Touch.bP (F:=λk=>PF H k\/k=gb) (UU.trans aj)).trans (ae.2.mono (F':=λk=>PF H k\/k=gb) (λ_ h=>.inl h)) (λ_ h _=>h)).trans (t7.mono (F':=λk=>PF H k\/k=gb) (λ_ h=>.inl h)) (λ_ h _=>h)).trans (t8.mono (F':=λk=>PF H k\/k=gb) (λ_ h=>.inr h)) (λ_ h _=>h))⟩
def tW(gb:Nat)(H:aR)(R:Int->ct->Prop)(w:af)(e:Ab2)(w':af):Prop:=∃(r:Int)(G2:ct)(vp:ah),e=.returned (.int .i64 r)/\R r G2/\GA w' gb (H.at vp) G2/\Touch (λk=>PF H k\/k=gb) w w'/\∀b,vp.ownBlock=some b->H.h.vp.ownBlock=some b\/w.heap.size<=b
def Qf(G G2:ct):ct:={G with P:={G.P with C:=G2.P.C,m:=G2.P.m,fl:=G2.P.fl}}
def n2(H H':aR)(n:Nat)(vp:ah):Prop:=(∀b,vp.ownBlock=some b->H.h.vp.ownBlock=some b\/n<=b)/\∀k,PF H' k->PF H k\/n<=k
theorem n2.of{H H':aR}(hH:H'.h={H.h with vp:=vp})(hv:∀b,vp.ownBlock=some b->H.h.vp.ownBlock=some b\/n<=b)(h1:H'.pb=H.pb\/n<=H'.pb)(h2:H'.mb=H.mb\/n<=H'.mb):n2 H H' n vp:=by
 refine⟨hv,?_⟩;rintro k(rfl|rfl|h)
 ·exact h1.imp (λh=>.inl h) id
 ·exact h2.imp (λh=>.inr (.inl h)) id
 ·rw[hH]at h;rcases ur h with h|h
  ·exact .inl (.inr (.inr h))
  ·exact(hv k h).imp (λh=>.inr (.inr (.inr (.inr (.inr h))))) id
def n2.mono{H H':aR}(h:n2 H H' m vp)(hn:n<=m):n2 H H' n vp:=⟨λb hb=>(h.1 b hb).imp id (λh=>bK hn h),λk hk=>(h.2 k hk).imp id (λh=>bK hn h)⟩
theorem n2.refl(H:aR)(n:Nat):n2 H H n H.h.vp:=⟨λ_ h=>.inl h,λ_ h=>.inl h⟩
theorem n2.trans{H H' H2:aR}{vp ao:ah}(h:n2 H H' n vp)(hn:n<=m)(hH:H'.h={H.h with vp:=vp})(h2:n2 H' H2 m ao):n2 H H2 n ao:=⟨λb hb=>by
 rcases h2.1 b hb with h3|h3
 ·rw[hH]at h3;exact h.1 b h3
 ·exact .inr (bK hn h3),λk hk=>by
 rcases h2.2 k hk with h3|h3
 ·exact h.2 k h3
 ·exact .inr (bK hn h3)⟩
def n0(p gb:Nat)(H:aR)(G:ct)(R:Int->ct->Prop)(w:af)(e:Ab2)(w':af):Prop:=∃(r:Int)(G2:ct)(vp:ah)(gb':Nat)(H':aR),e=.returned (.int .i64 r)/\R r G2/\H'.h={H.h with vp:=vp}/\((r=0/\bL w' p gb' H' G2)\/(r≠0/\bL w' p gb' H' (Qf G G2)))/\Touch (λk=>cM H.h k\/k=p) w w'/\n2 H H' w.heap.size vp
theorem J0(gb:Nat):prog.built 100 [(0,pz gb)]=some #[pz gb]:=al
theorem Es:∀W:af,(Acj 100).run Aag W=.ok (.agg #[.pointer none]) W:=aq
theorem GA.other{w w':af}{gb:Nat}(A:GA w gb H G){t:Aab}(hb:aF w p t C)(h1:vA t=false)(h2:t≠153)(h3:t≠90)(h4:t≠87)(T:Touch (·=p) w w'):GA w' gb H G:=by obtain⟨vb,vm,g1,os,om,pa⟩:=A;have KR:∀{α:Type}{f:α->List ah}{k:Nat}{e:Aab}{v:ah}{xs:List α},ak f k e w 0 v xs->t≠e->ak f k e w' 0 v xs:=λh hn=>ak.ax h T (λb aI e=>eB hn hb h aa);obtain⟨ys,y1,y2,y3⟩:=os;exact⟨vb,vm,g1.ax T (e5 g1 hb (Ne.symm h2)),⟨ys,y1,KR y2 h3,λy hy=>KR (y3 y hy) h4⟩,KR om h4,pa.ax T (λb aI e=>pa.cc hb h1 (e ▸ aI))⟩
theorem jy(w:af)(p gb:Nat)(H:aR)(G:ct)(A:bL w p gb H G)(hl:κ G.l<=1000)(hr:∀x∈G.l,κ x.dead*24<=140737488355328)(s4:κ G.ms<=100000)(f:FuncId)(ae:Array ah)(R:Int->ct->Prop)(ay:∀args W,(callFunc f args).run Aag W=.ok (.enter f args) W)(aQ:∀W aa ad ab,Up w W->w.heap.size<=aa->w.heap.size<=ad->w.heap.size<=ab->GA W aa ⟨ad,ab,H.h⟩ G->Aae Aag f (#[j9 aa]++ae) W (tW aa ⟨ad,ab,H.h⟩ R W)):Aae Aag 39 #[.pointer (some ⟨p,0,none⟩),.func (.func f) #[] ae] w (n0 p gb H G R w):=by
 obtain⟨PD,CP⟩:=aw (wY w p gb H G A) (Dz w gb H G A.ga hl hr s4);refine Gx ?_;intro c0;obtain⟨HA,HC,IW⟩:=aV A aQ QJ;clear A hl hr s4 aQ;go_in;go_wp2_with fail;refine zv ?_;intro wx;go_wp2_with fail;refine CP.mono ?_;rintro e w1⟨gb',pb,mb,rfl,h1,h2,h3,a1,u1⟩;obtain⟨A1,U1,B5,ag,H1,H2,H3,S1⟩:=Ju (a1.up (ai w1 (.cells #[.pointer (some ⟨gb',0,none⟩)] 100))) (u1.trans (ai w1 (.cells #[.pointer (some ⟨gb',0,none⟩)] 100))) (aF.new w1 100 #[.pointer (some ⟨gb',0,none⟩)]) (IW gb') h1 h2 h3 u1.size;clear h1 h2 h3 a1 u1 CP PD c0;go_wp2_with(first
  | ((with_reducible refine eP 100 #[(0,.tmp 13)] ?_);refine k6 rfl 100 0 (.tmp 13) rfl _ rfl #[.pointer (some ⟨gb',0,none⟩)] (J0 gb') ?_)
  | refine bB 100 Es ?_
  | refine eh 100 5 14 w1 #[.pointer (some ⟨gb',0,none⟩)] 100 #[.pointer none] (hi:=ag) (h1:=rfl) ?_
  | refine cY 100 5 B5 (hi:=ag) ?_)
 refine(HC _ _ _ _ U1 H1 H2 H3 A1).mono ?_;rintro e w2⟨r,G2,vp,rfl,hR,a2,t2,o2⟩;obtain⟨wv,aj⟩:=bE (w1.alloc (.cells #[.pointer (some ⟨gb',0,none⟩)] 100));rw[<-aj]at A1 U1 B5 t2 o2;have SV:=an U1.size;clear aj;refine OQ ?_;intro NF;have HD:=HA.ga.pa;have PN:p<w.heap.size/\¬cM H.h p:=⟨HA.fg.lt,HD.dev.jV HA.fg av av av⟩;have BP:=an ((HA.fg.up U1).ax t2 (NF p PN.1 PN.2));have aq:¬(PF ⟨pb,mb,H.h⟩ w1.heap.size\/w1.heap.size=gb'):=λh=>by
  obtain⟨vb,vm,g1,_,_,pa⟩:=A1.out;rcases h with h|h
  ·exact pa.cc B5 av h
  ·exact e5 B5 g1 av h
 have ao:=an (B5.ax t2 aq);have T2:=an ((Touch.bP (F:=λk=>cM H.h k\/k=p) U1).trans t2 (λn hn hlt=>by
  by_cases hf:cM H.h n
  ·exact .inl hf
  ·exact absurd hn (NF n hlt hf)))
 obtain⟨O2,A2⟩:=aw (show ∀b,vp.ownBlock=some b->H.h.vp.ownBlock=some b\/w.heap.size<=b from λb hb=>(o2 b hb).imp id (λh=>bK SV h)) a2;have G1:=an (show GA w2 gb (H.at vp) (Qf G G2)from by obtain⟨vb,vm,g1,os,om,pa⟩:=HA.ga;have lt:=g1.lt;have au:¬cM H.h gb:=λh=>pa.cc g1 av (.inr (.inr h));have K1:=(g1.up U1).ax t2 (NF gb lt au);have KR:∀{α:Type}{f:α->List ah}{k:Nat}{e:Aab}{v:ah}{xs:List α},ak f k e w 0 v xs->(∀b,v.ownBlock=some b->¬cM H.h b)->ak f k e w2 0 v xs:=λh hn=>ak.ax (ak.up h U1) t2 (λb hb=>NF b (h.aJ b hb).2 (hn b hb));have aC:=KR om (λb hb h=>eE pa om b hb (.inr (.inr h)));obtain⟨ys,y1,y2,y3⟩:=os;have ar:bc w2 0 vb G.l:=⟨ys,y1,KR y2 (λb hb h=>Cb pa y2 b hb (.inr (.inr h))),λy hy=>KR (y3 y hy) (λb hb h=>eE pa (y3 y hy) b hb (.inr (.inr h)))⟩;have al:=pa.fg;have aB:¬cM H.h H.pb:=pa.wX;have az:¬cM H.h H.mb:=pa.wR;have PB:=(al.up U1).ax t2 (NF _ al.lt aB);have MB:b' w2 H.mb G.P.s:=a7.ax (b'.up pa.map U1) t2 (NF _ (pa.lt _ (.inr (.inl rfl))) az);exact⟨vb,vm,K1,ar,aC,⟨PB,MB,a2.pa.dev⟩⟩)
 clear a2 t2 o2 HC PN HD NF;by_cases hr:r=0
 ·subst hr;have c5:w2.cell? ⟨w1.heap.size,0,none⟩=some (.pointer (some ⟨gb',0,none⟩)):=ao.cell 0;have HRR:=an hR;refine NH ?_;intro cp BQ GQ fp;clear hR;go_wp2_with fail;have TQ:=Touch.bg (F:=(·=p)) GQ (λk hk=>nR);have AQ:=A2.other BP av av av av TQ;go_ret;exact⟨0,G2,vp,gb',⟨pb,mb,{H.h with vp:=vp}⟩,rfl,HRR,rfl,.inl ⟨rfl,⟨BQ,AQ⟩⟩,T2.trans (TQ.mono (F':=λk=>cM H.h k\/k=p) (λ_ h=>.inr h)) (λ_ h _=>h),n2.of rfl O2 (.inr H2) (.inr H3)⟩
 ·have nz:(r != 0)=true:=by simp[hr]
  obtain⟨HRR,HR⟩:=aw hR hr;clear hR hr;go_wp2_with fail;go_ret;exact⟨r,G2,vp,gb,H.at vp,rfl,HRR,rfl,.inr ⟨HR,⟨BP,G1⟩⟩,T2,n2.of rfl O2 (.inl rfl) (.inl rfl)⟩
def fW(G:ct)(X:Except Nat (Nat × List ao))(f:ct->ct)(fit:Bool)(r:Int)(G2:ct):Prop:=(∃n:Nat,X=.error n/\r=(n:Int)/\n≠0/\G2=G)\/(∃nx l',X=.ok (nx,l')/\G2=f {G with next:=nx,l:=l'}/\r=if fit=true then wu G2 else 0)
structure oI(X:Except Nat (Nat × List ao)):Prop where
 nz:∀n,X=.error n->n≠0
 ok:∀nx l',X=.ok (nx,l')->nx<18446744073709551616/\(κ l')<=1000/\(∀x∈l',x.wf)/\∀x∈l',κ x.dead*24<=140737488355328
theorem V7(w:af)(gb:Nat)(H:aR)(G:ct)(A:GA w gb H G)(hl:κ G.l<=1000)(hr:∀x∈G.l,κ x.dead*24<=140737488355328)(s4:κ G.ms<=100000)(hn:G.next<=100000000)(aG:G.P.st<=100000000)(c1:Nat)(c2:Nat)(full:List aj)(N:Int)(hf:κ full<=9223372036854775807)(h1:w.cell? ⟨c1,0,none⟩=some (.string (strOf full)))(h2:w.cell? ⟨c2,0,none⟩=some (.int .i64 N))(X:Except Nat (Nat × List ao))(hX:X=cU G.next G.l full N)(K:oI X):Aae Aag 40 #[j9 gb,.pointer (some ⟨c1,0,none⟩),.pointer (some ⟨c2,0,none⟩)] w (tW gb H (fW G X id true) w):=by
 subst hX;have s:=Fr.start w;go_in;go_wp2_with(refine fw s ?_;intro _ w s);refine Gi ?_;intro w u s;go_wp2_with(refine fw s ?_;intro _ w s);refine kb s (λw s=>?_);repeat refine kt ?_
 refine kj 3 ?_;refine kj 4 ?_;refine xJ (λw _ s=>fz w gb H G (A.up s.pure) hl hr) ?_;rintro w _ s _ w'⟨v,rfl,os,u⟩;refine zx ?_;intro ys z e;repeat(first|refine kx ?_|refine kt ?_)
 refine xJ (λw _ s=>Ap w G.next _ G.l th hl hr ae full hf N) ?_;exact Oa
theorem aar(w:af)(gb:Nat)(H:aR)(G:ct)(A:GA w gb H G)(hl:κ G.l<=1000)(hr:∀x∈G.l,κ x.dead*24<=140737488355328)(s4:κ G.ms<=100000)(hn:G.next<=100000000)(aG:G.P.st<=100000000)(c1:Nat)(full:List aj)(hf:κ full<=9223372036854775807)(h1:w.cell? ⟨c1,0,none⟩=some (.string (strOf full)))(X:Except Nat (Nat × List ao))(hX:X=e4 G.next G.l full G.P.st)(K:oI X):Calls prog 126 #[j9 gb,.pointer (some ⟨c1,0,none⟩)] w (tW gb H (fW G X (λg:ct=>{g with P:={g.P with st:=g.P.st+1}}) true) w):=by
 subst hX;have s:=Fr.start w;go_in;go_wp2_with(refine fw s ?_;intro _ w s);refine(ju w gb H G (A.up s.pure)).mono ?_;rintro e _⟨rfl,rfl⟩;go_wp2_with(refine fw s ?_;intro _ w s);refine(pr w H G.P (A.up s.pure).pa).mono ?_;rintro e _⟨rfl,rfl⟩;have t9:((G.P.st:Int)>281474976710651)=False:=cI ae;go_wp2_with(refine fw s ?_;intro _ w s);refine Gi ?_;intro w u s;go_wp2_with(refine fw s ?_;intro _ w s);refine kb s (λw s=>?_);repeat refine kt ?_
 refine kj 3 ?_;refine kj 4 ?_;refine xJ (λw _ s=>fz w gb H G (A.up s.pure) hl hr) ?_;rintro w _ s _ w'⟨v,rfl,os,u⟩;refine zx ?_;intro ys z e;repeat(first|refine kx ?_|refine kt ?_)
 refine xJ (λw _ s=>Jk w G.next _ G.l th hl hr ae full hf G.P.st ae) ?_;rintro w _ s _ w'(⟨n,nx,va,vm,vc,hx,rfl,u⟩|⟨nx,l',v',hx,rfl,os,u⟩)
 ·exact KS
 ·obtain⟨a2,c2,rfl⟩:=os.cm.slice;obtain⟨zs,e2,z⟩:=Rz.s os u s.t.size;refine⟨_,_,rfl,z,?_⟩;repeat refine kt ?_
  refine kn (λ_ w u s=>?_);refine ks (λw s=>?_);refine kt ?_;refine kd (λw u s=>?_);obtain⟨k1,k2,k3,k4⟩:=K.ok nx l' hx;go_wp2_with(refine fw s ?_;intro _ w s);have g6:=s.cm (ys:=zs);rw[e2]at g6;refine(n' w gb H G (A.up s.pure) nx _ l' g6.cm k2 k4).mono ?_;rintro e w6⟨rfl,a6,t6⟩;obtain⟨aa,ab,g1,_⟩:=A.up s.pure;have c:=s.fg (t:=100) gG;replace c:=c.ax t6 (e5 c g1 av);refine OC ?_;intro T s;have c0:=c.cell 0;go_wp2_with(refine fw s ?_;intro _ w s);refine(ju _ gb H _ (a6.up s.pure)).mono ?_;rintro e _⟨rfl,rfl⟩;go_wp2_with(refine fw s ?_;intro _ w s);refine(Rk _ H _ (a6.up s.pure).pa (by show G.P.st<_;omega)).mono ?_;rintro e w7⟨rfl,p7,t7⟩;have c:=(c.up s.pure).ax t7 ((a6.up s.pure).pa.cc (c.up s.pure) av);have a6:GA w7 gb H ((λg:ct=>{g with P:={g.P with st:=g.P.st+1}}) {G with next:=nx,l:=l'}):=(a6.up s.pure).nV H.h.vp p7 t7;obtain⟨T,s,rg⟩:=cZ ((T.iZ s.pure).trans (t7.mono (F':=λk=>PF H k\/k=gb) (λ_ h=>.inl h)) (λ_ h _=>h)) (Fr.start w7) c.range;go_wp2_with(refine fw s ?_;intro _ w s);obtain⟨r,ag⟩:∃r:Int,r=wu ((λg:ct=>{g with P:={g.P with st:=g.P.st+1}}) {G with next:=nx,l:=l'}):=⟨_,rfl⟩;have hr:=an ag;clear ag;have FT:Aae Aag 44 #[j9 gb] w λe w'=>e=.returned (.int .i64 r)/\Up w w':=by rw[hr.out];exact BQ w gb H _ (a6.up s.pure) k1 k3 s4
  refine FT.mono ?_;refine er ?_;intro w u s;go_wp2_with fail;refine bj ?_;exact⟨r,_,H.h.vp,rfl,.inr ⟨nx,l',hx,rfl,hr⟩,a6.up s.pure,T.iZ s.pure,λ_ h=>.inl h⟩
theorem Yv(w:af)(gb:Nat)(H:aR)(G:ct)(A:GA w gb H G)(hl:κ G.l<=1000)(hr:∀x∈G.l,κ x.dead*24<=140737488355328)(s4:κ G.ms<=100000)(hn:G.next<=100000000)(aG:G.P.st<=100000000)(c1:Nat)(c2:Nat)(full to:List aj)(hf:κ full<=9223372036854775807)(ht:κ to<=9223372036854775807)(h1:w.cell? ⟨c1,0,none⟩=some (.string (strOf full)))(h2:w.cell? ⟨c2,0,none⟩=some (.string (strOf to)))(X:Except Nat (Nat × List ao))(hX:X=dO G.next G.l full to)(K:oI X):Aae Aag 128 #[j9 gb,.pointer (some ⟨c1,0,none⟩),.pointer (some ⟨c2,0,none⟩)] w (tW gb H (fW G X id true) w):=by
 subst hX;have s:=Fr.start w;go_in;go_wp2_with(refine fw s ?_;intro _ w s);refine Gi ?_;intro w u s;go_wp2_with(refine fw s ?_;intro _ w s);refine kb s (λw s=>?_);repeat refine kt ?_
 refine kj 3 ?_;refine kj 4 ?_;refine xJ (λw _ s=>fz w gb H G (A.up s.pure) hl hr) ?_;rintro w _ s _ w'⟨v,rfl,os,u⟩;refine zx ?_;intro ys z e;repeat(first|refine kx ?_|refine kt ?_)
 refine xJ (λw _ s=>Dj w G.next _ G.l th hl hr ae full to hf ht) ?_;exact Oa
theorem Rm(w:af)(gb:Nat)(H:aR)(G:ct)(A:GA w gb H G)(hl:κ G.l<=1000)(hr:∀x∈G.l,κ x.dead*24<=140737488355328)(s4:κ G.ms<=100000)(hn:G.next<=100000000)(aG:G.P.st<=100000000)(c1:Nat)(full:List aj)(hf:κ full<=9223372036854775807)(h1:w.cell? ⟨c1,0,none⟩=some (.string (strOf full)))(X:Except Nat (Nat × List ao))(hX:X=cB G.next G.l full)(K:oI X):Aae Aag 129 #[j9 gb,.pointer (some ⟨c1,0,none⟩)] w (tW gb H (fW G X id false) w):=by
 subst hX;have s:=Fr.start w;go_in;go_wp2_with(refine fw s ?_;intro _ w s);refine kb s (λw s=>?_);repeat refine kt ?_
 refine kj 3 ?_;refine xJ (λw _ s=>fz w gb H G (A.up s.pure) hl hr) ?_;rintro w _ s _ w'⟨v,rfl,os,u⟩;refine zx ?_;intro ys z e;repeat(first|refine kx ?_|refine kt ?_)
 refine xJ (λw _ s=>xW w G.next _ G.l th hl hr full hf) ?_;rintro w _ s _ w'(⟨n,nx,va,vm,vc,hx,rfl,u⟩|⟨nx,l',v',hx,rfl,os,u⟩)
 ·exact KS
 ·obtain⟨a2,c2,rfl⟩:=os.cm.slice;obtain⟨zs,e2,z⟩:=Rz.s os u s.t.size;refine⟨_,_,rfl,z,?_⟩;repeat refine kt ?_
  refine kn (λ_ w u s=>?_);refine ks (λw s=>?_);refine kt ?_;refine kd (λw u s=>?_);obtain⟨k1,k2,k3,k4⟩:=K.ok nx l' hx;go_wp2_with(refine fw s ?_;intro _ w s);have g6:=s.cm (ys:=zs);rw[e2]at g6;refine(n' w gb H G (A.up s.pure) nx _ l' g6.cm k2 k4).mono ?_;rintro e w6⟨rfl,a6,t6⟩;obtain⟨aa,ab,g1,_⟩:=A.up s.pure;have c:=s.fg (t:=100) gG;replace c:=c.ax t6 (e5 c g1 av);refine OC ?_;intro T s;go_wp2_with fail;refine bj ?_;exact⟨0,_,H.h.vp,rfl,.inr ⟨nx,l',hx,rfl,rfl⟩,a6,T,λ_ h=>.inl h⟩
theorem BR{l m:List ao}(h:l.map (·.id)=m.map (·.id))(id:Nat):aL l id=aL m id:=by
 have:∀l:List ao,aL l id=(l.map (·.id)).findIdx? (λx=>decide (x=id)):=λl=>by unfold aL ed;rw[List.findIdx?_map];rfl
 grind
theorem r'{l:List ao}(hk:k<κ l)(x:ao)(j:Nat):recAt (l.set k x) j=if j=k then x else recAt l j:=by grind [recAt]
theorem D4{l:List ao}(h:pW l)(hk:k<κ l)(q:au):mA l (recAt l k).id q=l.set k {recAt l k with root:=q}:=by
 have key:∀j(h2:j<κ l),SB (recAt l k).id q l[j]=if k=j then {recAt l k with root:=q} else l[j]:=λj h2=>by
  rw[gi h2];unfold SB;by_cases e:k=j
  ·simp_all
  ·rw[aY e,aY (λe2=>e (h.lG hk h2 (h.inj (aI hk) (aI h2) e2.symm)))]
 apply wM;grind [mA]
theorem gd.aaF{next:Nat}{l:List ao}(F:gd next l)(hk:k<κ l){x':ao}(e:x'.id=(recAt l k).id)(e2:x'.prev=(recAt l k).prev)(hs:(recAt l k).aT=false):b0 (l.set k x') (recAt l k).id=tU l (recAt l k).prev:=by
 have hm:=aI hk;obtain⟨i,hi,h1,h2⟩:=ca F.fP hm;have ik:i=k:=F.fP.lG hi hk h2;subst ik;have P:∀id,aL (l.set i x') id=aL l id:=BR (EM e);by_cases h0:(recAt l i).prev=0
 ·rw[AH (i:=i) aa uV,h0,F.aaE]
 ·obtain⟨y,hy,ey,ar,_⟩:=F.pv _ hm h0;obtain⟨j,hj,h3,h4⟩:=ca F.fP hy;have ji:j≠i:=λe=>by rw[<-h4,e,hs]at ar;cases ar
  rw[AI (i:=i) (j:=j) aa uV uV,r' hk,aY ji,h4,<-ey,Cn F.fP hy]
structure Zd(P P3:bq)(root:au)(i:Nat)(t m b:au):Prop where
 u:zY P.C P3.C root i P.st t m b
 st:P3.st=P.st
 ba:P3.ba=P.ba
 len:κ P3.C=κ P.C
 W9:∀j,P.s j≠1->P3.C[j]?=P.C[j]?
 new:∀q,q≠hole->(q=t\/q=m\/q=b)->4<=q.loc/\q.loc<1024/\P.s q.loc.toNat=1/\P3.s q.loc.toNat=2
 dis:∀q q',q≠hole->q'≠hole->(q=t\/q=m\/q=b)->(q'=t\/q'=m\/q'=b)->q.loc=q'.loc->q=q'
 sl:∀j:Nat,(∀q,q≠hole->(q=t\/q=m\/q=b)->q.loc≠(j:Int))->P3.s j=P.s j
section
variable {G:ct}
theorem bm.R'(I:bm G){k:Nat}(hk:k<κ G.l)(hs:(recAt G.l k).aT=false){P3:bq}{i:Nat}(hi:i<64){t m b:au}(K:Zd G.P P3 (recAt G.l k).root i t m b){old:List au}(hold:∀p,p∈old↔p≠hole/\(p=(recAt G.l k).root\/p=eK G.P.C (recAt G.l k).root (1+i/8)\/p=eK G.P.C (recAt G.l k).root (9+i)))(aK:old.Nodup):∃d gone,qo G.next (mA G.l (recAt G.l k).id t) (recAt G.l k).id old=.ok (G.next,G.l.set k {recAt G.l k with root:=t,dead:=d},gone)/\(κ gone)<=3/\PW d/\(κ d)<=73/\(∀p∈d,p.wf)/\(κ d<=κ (recAt G.l k).dead+3/\cK {recAt G.l k with root:=t,dead:=d}=true)/\
  (e0 {G with P:={P3 with s:=bO P3.s P3.ba gone},l:=G.l.set k {recAt G.l k with root:=t,dead:=d}}=true->bm {G with P:={P3 with s:=bO P3.s P3.ba gone},l:=G.l.set k {recAt G.l k with root:=t,dead:=d}}):=by
 obtain⟨v,hv⟩:=bE (recAt G.l k);have vm:v∈G.l:=by grind [aI]
 obtain⟨F,SI,TV⟩:=cZ I.hY I.si (I.tr v vm);obtain⟨aH,aD⟩:=az (F.aaF (x':={recAt G.l k with root:=t}) hk rfl rfl hs) (D4 F.fP hk t);rw[<-hv]at K hold hs aH aD ⊢;have oldIn:∀p,p∈old->gf G.P.C v.root p:=λp hp=>by
  obtain⟨hn,h⟩:=(hold p).mp hp;rcases h with h|h|h
  ·exact⟨hn,0,ae,h.symm⟩
  ·exact⟨hn,1+i/8,ae,h.symm⟩
  ·exact⟨hn,9+i,ae,h.symm⟩
 have bl:∀p∈old,1<=p.aU:=λp hp=>(SI.brt v vm p (oldIn p hp)).1;have NW:∀p,1<=p.aU->(cz G.l v p↔tU G.l v.prev<p.aU):=λp hp=>F.VL vm hp;have aG:PW v.dead:=qR ((br v).mp (F.rt v vm)).2.2.2.2.2.2.2.1;have aw:∀q∈old,q ∉ v.dead:=λq hq hd=>by
  by_cases h0:v.prev=0
  ·rw[F.pz v vm h0]at hd;cases hd
  ·obtain⟨y,hy,e,_⟩:=F.pv v vm h0;exact((SI.dd v vm y hy e q).mp hd).2 (oldIn q hq)
 have ol:κ old<=3:=by
  have:=eR old [v.root,eK G.P.C v.root (1+i/8),eK G.P.C v.root (9+i)] aK (λp hp=>by rcases((hold p).mp hp).2 with h|h|h<;>simp[h])
  omega
 obtain⟨d,k1,k2,k3⟩:=qn (fl:=tU G.l v.prev) old v.dead [] aG (λq hq=>MH.mpr ⟨((hold q).mp hq).1,((oldIn q hq).qh TV.qh).2⟩) aK aw (by have:=I.mZ vm;omega);rw[Aaz]at k1;obtain⟨gone,al⟩:=bE (old.filter (λq=>decide (tU G.l v.prev<q.aU)));rw[<-al]at k1;have gm:∀p,p∈gone↔p∈old/\cz G.l v p:=λp=>aa
 have dm:∀p,p∈d↔p∈v.dead\/(p∈old/\¬cz G.l v p):=λp=>aQ
 obtain⟨v2,ax⟩:∃v2:ao,v2={v with root:=t,dead:=d}:=⟨_,rfl⟩;obtain⟨l2,aB⟩:=bE (G.l.set k v2);have mem:∀z,z∈l2↔z=v2\/(z∈G.l/\z≠v):=λz=>by rw[aB,mem_set F.fP hk,<-hv]
 have e1:aL (mA G.l v.id t) v.id=some k:=by obtain⟨j,hj,h1,h2⟩:=ca F.fP vm;have:j=k:=F.fP.lG hj hk (h2.trans hv);grind [BR,EM]
 have KX:qo G.next (mA G.l v.id t) v.id old=.ok (G.next,l2,gone):=by
  have e2:recAt (mA G.l v.id t) k={v with root:=t}:=uV
  have e3:b0 (mA G.l v.id t) v.id=tU G.l v.prev:=aa
  rw[EV (i:=k) (d:=d) (gone:=gone) e1 aa,e2,aD,wN,aB,ax];rfl
 refine⟨d,gone,aa,?_,k2,?_,?_,?_,?_⟩
 ·grind
 ·by_cases h0:v.prev=0
  ·have:d=[]:=List.eq_nil_iff_forall_not_mem.mpr (λp hp=>by
    rcases(dm p).mp hp with h|⟨_,h⟩
    ·rw[F.pz v vm h0]at h;cases h
    ·exact h (λy hy e=>FK))
   simp_all
  ·obtain⟨y,hy,e,_⟩:=F.pv v vm h0;have:=eR d ((Aak 73).map (eK G.P.C y.root)) k2.nodup (λp hp=>by refine OR ?_;intro an;obtain⟨_,a,ha,ea⟩:=an;exact List.mem_map.mpr ⟨a,List.mem_range.mpr ha,ea⟩)
   assumption
 ·intro p hp;rcases(dm p).mp hp with h|⟨h,_⟩
  ·exact(I.wf v vm).2.2.2.2.2.2 p h
  ·exact((oldIn p h).qh TV.qh).1
 ·have dl:κ d<=κ v.dead+3:=by have:=eR d (v.dead++old) k2.nodup (λp hp=>List.mem_append.mpr (((dm p).mp hp).imp id (λh=>h.1)));grind
  refine⟨dl,(br _).mpr ?_⟩;obtain⟨r1,r2,r3,r4,r5,r6,r7,r8,r9⟩:=(br v).mp (F.rt v vm);have aM:=I.mZ vm;refine⟨r1,r2,r3,r4,r5,K.u.qh.2,ab,I7 k2 (λp hp=>?_),r9⟩;rcases(dm p).mp hp with h|⟨h,_⟩
  ·exact w1 r8 h
  ·exact MH.mpr ⟨((hold p).mp h).1,((oldIn p h).qh TV.qh).2⟩
 intro aj;rw[<-ax,<-aB]at aj ⊢;have KC:=λ(z:ao) (hz:z∈G.l)=>I.MP K.W9 hz;have same:∀z∈G.l,∀p,gf P3.C z.root p↔gf G.P.C z.root p:=λz hz p=>I.ZA K.W9 hz p;have aP:∀p,gf G.P.C v.root p->p.aU<=G.P.st:=λp hp=>(SI.brt v vm p hp).2;have aE:eA P3.C t:=K.u.tree TV hi aP;have aR:v2.root=t:=by rw[ax]
 have aq:∀p,gf P3.C v2.root p↔(p≠hole/\(p=t\/p=m\/p=b))\/(gf G.P.C v.root p/\¬p∈old):=λp=>by
  rw[aR,K.u.mem TV hi p];constructor
  ·grind
  ·rintro(⟨hn,h|h|h⟩|⟨h,ho⟩)
   ·simp_all
   ·simp_all
   ·simp_all
   ·exact⟨h.1,.inr (.inr (.inr ⟨h,λe=>ho ((hold p).mpr ⟨h.1,.inl e⟩),λe=>ho ((hold p).mpr ⟨h.1,.inr (.inl e)⟩),λe=>ho ((hold p).mpr ⟨h.1,.inr (.inr e)⟩)⟩))⟩
 have av:∀p,(p≠hole/\(p=t\/p=m\/p=b))->p.aU=G.P.st/\∀z∈G.l,∀q,gf G.P.C z.root q->q.loc≠p.loc:=λp hp=>by
  refine⟨?_,λz hz q hq e=>?_⟩
  ·rcases hp.2 with h|h|h
   ·rw[h];exact(K.u.nt aa).1
   ·rw[h];exact(K.u.nm aa).1
   ·rw[h];exact(K.u.nb aa).1
  ·obtain⟨h1,h2⟩:=az (I.taken hz hq) ((K.new p hp.1 hp.2).2.2.1);simp_all
 have aO:1<=G.P.st:=by have:=I.sb;omega
 obtain⟨aN,alone⟩:=SI.R' F (M':=gf P3.C) vm hs mem (·∈old) (λp=>p≠hole/\(p=t\/p=m\/p=b)) same aq oldIn av (λp q hp hq e=>K.dis p q hp.1 hq.1 hp.2 hq.2 e) aO aa (λp=>aa) aa aa;have sh:G.next<=281474976710655/\(κ l2)<=32/\∀x∈l2,cK x=true:=by unfold e0 at aj;rw[decide_eq_true_eq]at aj;exact(lN aj.1).1
 have aS:v2∈l2:=(mem v2).mpr (.inl rfl);have gl:∀q∈gone,q≠hole:=λq hq=>((hold q).mp ((gm q).mp hq).1).1;have ag:∀p∈gone,∀q∈G.ms,q.loc≠p.loc:=λp hp q hq e=>I.mx q hq v vm p (oldIn p ((gm p).mp hp).1) e.symm;have ar:∀j:Nat,(∃q,(q≠hole/\(q=t\/q=m\/q=b))/\q.loc=(j:Int))->P3.s j=2/\G.P.s j=1:=λj ⟨q,hq,e⟩=>by have:=K.new q hq.1 hq.2;rw[e]at this;exact⟨this.2.2.2,this.2.2.1⟩
 have aJ:∀j,j<1024->(P3.s j=2↔((∃z∈G.l,∃p,gf G.P.C z.root p/\p.loc=(j:Int))\/(∃q,(q≠hole/\(q=t\/q=m\/q=b))/\q.loc=(j:Int)))\/∃q∈G.ms,q.loc=(j:Int)):=λj hj=>by
  by_cases hx:∃q,(q≠hole/\(q=t\/q=m\/q=b))/\q.loc=(j:Int)
  ·grind
  ·rw[K.sl j (λq h1 h2 e=>hx ⟨q,⟨h1,h2⟩,e⟩),I.s2 j hj];grind
 have P0:∀j,P3.s j=0↔G.P.s j=0:=λj=>by
  by_cases hx:∃q,(q≠hole/\(q=t\/q=m\/q=b))/\q.loc=(j:Int)
  ·grind
  ·rw[K.sl j (λq h1 h2 e=>hx ⟨q,⟨h1,h2⟩,e⟩)]
 have aF:∀j,P3.s j<=3:=λj=>by
  by_cases hx:∃q,(q≠hole/\(q=t\/q=m\/q=b))/\q.loc=(j:Int)
  ·grind
  ·rw[K.sl j (λq h1 h2 e=>hx ⟨q,⟨h1,h2⟩,e⟩)];exact I.s3 j
 refine⟨?_,?_,λz hz=>?_,I.md,?_,λq hq z hz p hp=>?_,λj=>?_,?_,λj=>?_,?_,?_,?_,aj⟩
 ·refine F.back ⟨sh.1,sh.2.1,sh.2.2⟩ ?_ vm mem aQ (λh0=>?_) (λy hy e p hp=>?_) aQ aQ aQ aQ aQ
  ·show pW l2;rw[aB];exact vR F.fP aQ
  ·rw[ax];exact List.eq_nil_iff_forall_not_mem.mpr (λp hp=>by
    rcases(dm p).mp hp with h|⟨_,h⟩
    ·rw[F.pz v vm h0]at h;cases h
    ·exact h (λy hy e=>FK))
  ·rw[ax]at hp;have ad:=F.eM vm hy e;refine OR ?_;intro an;exact(SI.sn y hy ad.1).2 p an
 ·show gV P3.st l2 (gf P3.C);rw[K.st];exact aN
 ·grind
 ·show ∀q∈G.ms,4<=q.loc/\q.loc<1024/\q.aU<=P3.ba;rw[K.ba];exact I.ml
 ·rcases(mem z).mp hz with rfl|⟨hz1,_⟩
  ·rcases(aq p).mp hp with h|h
   ·intro e;obtain⟨h1,h2⟩:=az (I.rP hq) ((K.new p h.1 h.2).2.2.1);grind
   ·exact I.mx q hq v vm p h.1
  ·exact I.mx q hq z hz1 p ((same z hz1 p).mp hp)
 ·show bO P3.s P3.ba gone j=0↔(j<4\/κ P3.C<=j);rw[h9,P0,K.len];exact I.s0 j
 ·refine Ce (R:=λj=>(∃z∈G.l,∃p,gf G.P.C z.root p/\p.loc=(j:Int))\/(∃q,(q≠hole/\(q=t\/q=m\/q=b))/\q.loc=(j:Int))) aJ gl ?_ ?_ ?_
  ·grind
  ·rintro j hj(⟨z,hz,p,hp,e⟩|⟨q,hq,e⟩)
   ·by_cases ak:z=v
    ·subst ak;by_cases ho:p∈old
     ·by_cases ai:cz G.l z p
      ·grind
      ·refine .inl ?_;unfold cz at ai;simp only[Acl]at ai;obtain⟨y,hy,ey,hle⟩:=ai;have ad:=F.eM vm hy ey;have aC:y≠z:=λe2=>by rw[e2,hs]at ad;cases ad.1
       exact⟨y,(mem y).mpr (.inr ⟨hy,aC⟩),p,(same y hy p).mpr (SI.el z vm y hy ey p hp ae),e⟩
     ·grind
    ·grind
   ·grind
  ·grind
 ·by_cases hj:j<1024
  ·grind [wq]
  ·show bO P3.s P3.ba gone j<=3;have:G.P.s j=0:=(I.s0 j).mpr (.inr (by have:=I.ln.2;omega));grind [h9]
 ·show P3.ba<P3.st;rw[K.ba,K.st];exact I.sb
 ·show P3.st<=_;rw[K.st];exact I.st
 ·show 64<=κ P3.C/\(κ P3.C)<=1024;rw[K.len];exact I.ln
end
theorem ud{s s':Nat->Nat}:∀n,(∀k,k<n->s k=1->s' k=1)->ha s n<=ha s' n
 | 0,_=>aE _
 | n+1,h=>by
  have ih:=ud n (λk hk=>h k ae);have hn:=h n ae;unfold ha at ih ⊢;rw[Ab5,kD,kD,Aaf,Aaf];by_cases h1:s n=1
  ·simp only[List.filter_cons,List.filter_nil,h1,hn h1,decide_true,if_true,Aaj,Aa4];omega
  ·have:κ (List.filter (λk=>decide (s k=1)) [n])=0:=by simp[h1]
   omega
theorem iq(p:au)(n:Nat):fj p n=true↔p≠hole/\n<p.aU:=by simp[fj]
theorem Hy{C:List cS}(T:eA C root)(st:Nat)(p:au):p∈yr root (bD C root) (λk=>bD C (a6 (bD C root) k)) st↔gf C root p/\st<p.aU:=by
 have IT:∀k p,p∈xH (bD C root) (λk=>bD C (a6 (bD C root) k)) st k↔fj (a6 (bD C root) k) st=true/\(p=a6 (bD C root) k\/(p∈bD C (a6 (bD C root) k)/\fj p st=true)):=λk p=>by simp[xH]
 have IS:∀p,p∈jL (bD C root) (λk=>bD C (a6 (bD C root) k)) st 8↔∃k,k<8/\p∈xH (bD C root) (λk=>bD C (a6 (bD C root) k)) st k:=λp=>by simp[jL]
 unfold yr;constructor
 ·intro h;split at h
  ·rename_i hr;have hr:=(iq root st).mp hr;rcases List.mem_cons.mp h with rfl|h
   ·exact⟨⟨hr.1,0,ae,rfl⟩,hr.2⟩
   ·obtain⟨k,hk,h⟩:=(IS p).mp h;obtain⟨h1,h2⟩:=(IT k p).mp h;have h1:=(iq _ st).mp h1;rcases h2 with rfl|⟨h2,h3⟩
    ·exact⟨⟨h1.1,1+k,ae,dr C root hk⟩,h1.2⟩
    ·have h3:=(iq _ st).mp h3;have hl:κ (bD C (a6 (bD C root) k))=8:=cN (T.S hk);obtain⟨j,hj,e⟩:=jP h2;have:=iz C root (i:=8*k+j) ae;rw[show(8*k+j)/8=k from ae,show(8*k+j)%8=j from ae,dr C root hk,rY _ j hj,e]at this;exact⟨⟨h3.1,9+(8*k+j),ae,this⟩,h3.2⟩
  ·cases h
 ·rintro⟨⟨hn,a,ha,rfl⟩,aG⟩;have ad:=(λa ha=>T.abW ha) a ha;have hr:root≠hole:=λe=>by rw[e,k9]at hn;exact hn rfl
  rw[bI ((iq root st).mpr ⟨hr,ae⟩),Aam];by_cases h0:a=0
  ·subst h0;exact .inl rfl
  right;rw[IS];by_cases h9:a<9
  ·have e:=dr C root (k:=a-1) ae;rw[show 1+(a-1)=a from ae]at e;exact⟨a-1,ae,(IT _ _).mpr ⟨(iq _ st).mpr ⟨aa,aa⟩,.inl e⟩⟩
  ·have e:=iz C root (i:=a-9) ae;rw[show 9+(a-9)=a from ae,dr C root ae]at e;have ab:=T.aU a ae ha;unfold BP at ab;rw[aY h9,dr C root ae]at ab;have hl:κ (bD C (a6 (bD C root) ((a-9)/8)))=8:=cN (T.S ae);refine⟨(a-9)/8,ae,(IT _ _).mpr ⟨(iq _ st).mpr ⟨(λe2=>by rw[e2,kN,gY]at e;exact hn e),ae⟩,.inr ⟨?_,(iq _ st).mpr ⟨hn,aG⟩⟩⟩⟩;grind [rY,bD,a6]
section
variable {G:ct}
theorem Ql{G G':ct}(hf:e0 G=true)(h0:0<fu G')(h1:fu G'<=fu G)(hc:bN G.P.s<=bN G'.P.s)(hm:κ G'.ms=κ G.ms):e0 G'=true:=by grind [e0]
theorem p3{s:Nat->Nat}{ba:Nat}(l:List au):bN s<=bN (bO s ba l):=ud 1024 (λk _ h=>by grind [hf])
theorem bm.drop(I:bm G){l':List ao}{gone:List au}(F':gd G.next l')(S':gV G.P.st l' (gf G.P.C))(ab:∀p∈gone,∃z∈G.l,gf G.P.C z.root p)(ag:∀p∈gone,∀z∈l',¬gf G.P.C z.root p)(sub:∀z∈l',∃u∈G.l,u.root=z.root)(ah:∀z∈G.l,∀p,gf G.P.C z.root p->(∃z'∈l',gf G.P.C z'.root p)\/p∈gone)(hlen:cO l'<=cO G.l):bm {G with P:={G.P with s:=bO G.P.s G.P.ba gone},l:=l'}:=by
 have gl:∀q∈gone,q≠hole:=λq hq=>by obtain⟨z,_,h⟩:=ab q hq;exact h.1
 have af:∀p∈gone,∀z∈l',∀q,gf G.P.C z.root q->q.loc≠p.loc:=λp hp z hz q hq e=>by obtain⟨u,hu,eu⟩:=sub z hz;obtain⟨x,hx,ad⟩:=ab p hp;have:=I.si.lc u hu x hx q p aa ad e;simp_all
 refine⟨F',S',λz hz=>?_,I.md,I.ml,λq hq z hz p hp=>?_,λj=>?_,?_,λj=>?_,I.sb,I.st,I.ln,?_⟩
 ·obtain⟨u,hu,e⟩:=sub z hz;rw[<-e];exact I.tr u hu
 ·obtain⟨u,hu,e⟩:=sub z hz;exact I.mx q hq u hu p aa
 ·show bO G.P.s G.P.ba gone j=0↔_;rw[h9];exact I.s0 j
 ·refine Ce (R:=λj=>∃z∈G.l,∃p,gf G.P.C z.root p/\p.loc=(j:Int)) I.s2 gl ?_ ?_ ?_
  ·grind
  ·grind
  ·rintro j hj⟨q,hq,e⟩p hp ep;obtain⟨x,hx,ad⟩:=ab p hp;exact I.mx q hq x hx p ad ae
 ·by_cases hj:j<1024
  ·exact wq gone (I.s3 j) gl hj
  ·show bO G.P.s G.P.ba gone j<=3;have:G.P.s j=0:=(I.s0 j).mpr (.inr (by have:=I.ln.2;omega));grind [h9]
 ·have h:=I.ft;have h0:0<fu G:=by grind [e0]
  obtain⟨k1,k2⟩:=CK (next':=G.next) (t:=κ G.P.C) (l':=l') ⟨F'.nx,F'.len,F'.rt⟩ h0 I.ln hlen;exact Ql h k1 k2 (p3 gone) rfl
theorem GW{x:ao}(h:cK x=true){r:au}(hr:cA r=true):cK {x with root:=r,dead:=[]}=true:=by grind [br,jo]
theorem bm.back(I:bm G){k j:Nat}(hk:k<κ G.l)(hs:(recAt G.l k).aT=false)(hj:j<κ G.l)(e:(recAt G.l j).id=(recAt G.l k).prev){gone:List au}(hg:∀p,p∈gone↔gf G.P.C (recAt G.l k).root p/\b0 G.l (recAt G.l k).id<p.aU):bm {G with P:={G.P with s:=bO G.P.s G.P.ba gone},l:=G.l.set k (iP (recAt G.l k) (recAt G.l j))}:=by
 obtain⟨F,vm,ym⟩:=cZ I.hY (aI hk) (aI hj);obtain⟨mem,sm⟩:=az (λz=>mem_set (x':=iP (recAt G.l k) (recAt G.l j)) (y:=z) F.fP hk) (Ha hk (iP (recAt G.l k) (recAt G.l j)) my);have ag:pW (G.l.set k (iP (recAt G.l k) (recAt G.l j))):=vR F.fP rfl;have ll:κ (G.l.set k (iP (recAt G.l k) (recAt G.l j)))<=32:=KP
 generalize G.l.set k (iP (recAt G.l k) (recAt G.l j))=l' at *;generalize recAt G.l k=v at *;generalize recAt G.l j=y at *;have NW:∀p,gf G.P.C v.root p->(cz G.l v p↔b0 G.l v.id<p.aU):=λp hp=>Ul
 obtain⟨S',AL⟩:=I.si.back F vm hs ym e mem rfl rfl rfl hs rfl;have ad:=(F.eM vm ym e).1;have aC:y≠v:=λh=>by rw[h,hs]at ad;cases ad
 refine I.drop ?_ S' (λp hp=>⟨v,vm,((hg p).mp hp).1⟩) (λp hp z hz=>?_) (λz hz=>?_) (λz hz p hp=>?_) ?_
 ·refine F.back ⟨F.nx,ll,λx hx=>?_⟩ ag vm mem rfl (λ_=>rfl) (λ_ _ _ p hp=>rG) rfl rfl rfl rfl rfl;rcases(mem x).mp hx with rfl|⟨h,_⟩
  ·exact GW (F.rt v vm) ((br y).mp (F.rt y ym)).2.2.2.2.2.1
  ·exact F.rt x h
 ·grind
 ·rcases(mem z).mp hz with rfl|⟨h,_⟩
  ·exact⟨y,ym,rfl⟩
  ·grind
 ·by_cases ar:z=v
  ·subst ar;by_cases hn:b0 G.l z.id<p.aU
   ·simp_all
   ·have al:¬cz G.l z p:=λh=>hn ((NW p hp).mp h);unfold cz at al;simp only[Acl]at al;obtain⟨u,hu,eu,hle⟩:=al;have uy:u=y:=F.fP.inj hu ym (eu.trans e.symm);subst uy;exact .inl ⟨u,(mem u).mpr (.inr ⟨ym,aC⟩),I.si.el z vm u ym e p hp ae⟩
  ·grind
 ·grind [cO,my,iP]
theorem Em{l:List ao}{id:Nat}:∀(n:Nat)(c:List Nat)(p:Nat),κ c<=κ (gZ l id n c p).1
 | 0,c,p=>aE _
 | n+1,c,p=>by
  unfold gZ;split
  ·exact aE _
  ·split
   ·exact aE _
   ·rename_i i _;split
    ·have:=Em (l:=l) (id:=id) n (c++[p]) (recAt l i).prev;rw[Aaf]at this;simp at this ⊢;exact Nat.le_of_succ_le this
    ·exact aE _
theorem gd.Yn{next:Nat}{l:List ao}(F:gd next l){v:ao}(hv:v∈l)(h0:v.aT=false)(hw:¬0<κ (dR l v.id).1):∀x∈l,x.aT=true->x.owner≠v.id:=by refine F.abo hv h0 (λy hy e ho=>hw ?_);obtain⟨i,hi,h1,h2⟩:=ca F.fP hv;obtain⟨j,hj,h3,h4⟩:=ca F.fP hy;have:=F.JM y hy;rw[q7 h1 aa,h2,<-e,oy ae h3 aa];have:=Em (l:=l) (id:=v.id) 31 ([]++[y.id]) (recAt l j).prev;exact this
theorem bm.um(I:bm G){k:Nat}(hk:k<κ G.l)(hs:(recAt G.l k).aT=false)(hw:¬0<κ (dR G.l (recAt G.l k).id).1){gone:List au}(hg:∀p,p∈gone↔gf G.P.C (recAt G.l k).root p/\b0 G.l (recAt G.l k).id<p.aU):bm {G with P:={G.P with s:=bO G.P.s G.P.ba gone},l:=G.l.eraseIdx k}:=by
 obtain⟨F,vm⟩:=az I.hY (aI hk);obtain⟨mem,sm⟩:=az (λz=>mem_erase (y:=z) F.fP hk) (Eg hk my);have ag:pW (G.l.eraseIdx k):=Ef F.fP k;have ll:κ (G.l.eraseIdx k)<=32:=by rw[Fy];have:=F.len;split<;>omega
 have no:=F.Yn vm hs hw;generalize G.l.eraseIdx k=l' at *;generalize recAt G.l k=v at *;have NW:∀p,gf G.P.C v.root p->(cz G.l v p↔b0 G.l v.id<p.aU):=λp hp=>Ul
 obtain⟨S',AL⟩:=I.si.um F vm hs mem;refine I.drop (F.um ag ll vm hs mem no) S' (λp hp=>⟨v,vm,((hg p).mp hp).1⟩) (λp hp z hz=>?_) (λz hz=>⟨z,((mem z).mp hz).1,rfl⟩) (λz hz p hp=>?_) ?_
 ·simp_all
 ·by_cases ar:z=v
  ·subst ar;by_cases hn:b0 G.l z.id<p.aU
   ·simp_all
   ·have al:¬cz G.l z p:=λh=>hn ((NW p hp).mp h);unfold cz at al;simp only[Acl]at al;obtain⟨u,hu,eu,hle⟩:=al;have ad:=(F.eM vm hu eu).1;exact .inl ⟨u,(mem u).mpr ⟨hu,λh=>aa⟩,I.si.el z vm u hu eu p hp ae⟩
  ·grind
 ·grind [cO]
theorem bm.l9(I:bm G){i j:Nat}(hi:i<κ G.l)(hs:(recAt G.l i).aT=true)(hj:j<κ G.l)(e:(recAt G.l j).prev=(recAt G.l i).id)(eo:(recAt G.l j).owner=(recAt G.l i).owner)(only:∀z∈G.l,z.prev=(recAt G.l i).id->z=recAt G.l j):∃all,en (lF (b0 G.l (recAt G.l i).id) (recAt G.l j).dead) (recAt G.l i).dead=some all/\(κ all)<=4000/\
  bm {G with P:={G.P with s:=bO G.P.s G.P.ba (hQ (b0 G.l (recAt G.l i).id) (recAt G.l j).dead)},l:=(G.l.set j (hq (recAt G.l j) all (recAt G.l i).prev)).eraseIdx i}:=by
 obtain⟨F,ym,jm⟩:=cZ I.hY (aI hi) (aI hj);have ij:i≠j:=λh=>by have:=(F.eM jm ym e.symm).2;simp_all
 obtain⟨y,hy⟩:=bE (recAt G.l i);obtain⟨n,hn⟩:=bE (recAt G.l j);rw[<-hy]at hs e eo only ym;rw[<-hn]at e eo only jm;have pn:PW n.dead:=qR ((br n).mp (F.rt n jm)).2.2.2.2.2.2.2.1;obtain⟨fy,fn,dn⟩:=cZ (λp hp=>w1 ((br y).mp (F.rt y ym)).2.2.2.2.2.2.2.1 (p:=p) hp) (λp hp=>w1 ((br n).mp (F.rt n jm)).2.2.2.2.2.2.2.1 (p:=p) hp) (I.si.dd n jm y ym e.symm);have NW:∀p,gf G.P.C y.root p->(cz G.l y p↔b0 G.l y.id<p.aU):=λp hp=>by rw[F.floor ym];exact F.VL ym (I.si.brt y ym p hp).1
 have dy:∀p∈y.dead,¬gf G.P.C y.root p:=λp hp=>by
  by_cases h0:y.prev=0
  ·rw[F.pz y ym h0]at hp;cases hp
  ·obtain⟨u,hu,eu,_⟩:=F.pv y ym h0;exact((I.si.dd y ym u hu eu p).mp hp).2
 have po:PW (lF (b0 G.l y.id) n.dead):=pn.sublist List.filter_sublist;have om:∀p,p∈lF (b0 G.l y.id) n.dead↔p∈n.dead/\¬cz G.l y p:=λp=>by grind [lF]
 have gm:∀p,p∈hQ (b0 G.l y.id) n.dead↔p∈n.dead/\cz G.l y p:=λp=>by grind [hQ]
 rcases tq _ _ _ (aE _) po (qR ((br y).mp (F.rt y ym)).2.2.2.2.2.2.2.1)with⟨⟨p,h1,h2⟩,_⟩|⟨_,all,hm,pa,am⟩
 ·grind
 have ah:κ all<=κ n.dead+κ y.dead:=by have:=eR all (lF (b0 G.l y.id) n.dead++y.dead) pa.nodup (λp hp=>List.mem_append.mpr ((am p).mp hp));grind [lF,b0]
 obtain⟨jl,yl⟩:=az (I.mZ jm) (I.mZ ym);refine⟨all,aQ,ae,?_⟩;rw[<-hy,<-hn];have aj:(hq n all y.prev).id=(recAt G.l j).id:=by rw[<-hn];rfl
 have aa:pW (G.l.set j (hq n all y.prev)):=vR F.fP aj;have ad:i<κ (G.l.set j (hq n all y.prev)):=ab
 have ri:recAt (G.l.set j (hq n all y.prev)) i=y:=uV
 have aq:n.id≠y.id:=λh=>by have h2:n=y:=F.fP.inj jm ym h;have:=(F.eM jm ym e.symm).2;grind
 have mem:∀z,z∈(G.l.set j (hq n all y.prev)).eraseIdx i↔z=hq n all y.prev\/(z∈G.l/\z≠n/\z≠y):=λz=>by rw[mem_erase aa ad,mem_set F.fP hj,ri,<-hn];grind
 obtain⟨an,ao⟩:=az (Ha hj (hq n all y.prev) my) (Eg ad my);rw[ri]at ao;rw[<-hn]at an;have ag:pW ((G.l.set j (hq n all y.prev)).eraseIdx i):=Ef aa i;have ll:κ ((G.l.set j (hq n all y.prev)).eraseIdx i)<=32:=by rw[Fy,Aat];have:=F.len;split<;>omega
 generalize(G.l.set j (hq n all y.prev)).eraseIdx i=l' at *;have j3:∀p,p∈(hq n all y.prev).dead↔(p∈n.dead/\¬cz G.l y p)\/p∈y.dead:=λp=>by show p∈all↔_;grind
 obtain⟨S',AL⟩:=I.si.l9 F ym hs jm e only mem rfl rfl j3 rfl rfl rfl;refine I.drop ?_ S' (λp hp=>⟨y,ym,((dn p).mp ((gm p).mp hp).1).1⟩) (λp hp z hz=>?_) (λz hz=>?_) (λz hz p hp=>?_) ?_
 ·refine F.l9 ⟨F.nx,ll,λx hx=>?_⟩ ag ym hs jm e eo only mem rfl (λh0=>?_) (λz hz ez p hp=>?_) rfl rfl rfl rfl rfl
  ·rcases(mem x).mp hx with rfl|⟨h,_⟩
   ·have h:=F.rt n jm;rw[br]at h ⊢;obtain⟨h1,h2,h3,h4,h5,h6,h7,h8,h9⟩:=h;refine⟨h1,h2,((br y).mp (F.rt y ym)).2.2.1,h4,h5,h6,by show κ all<=4000;omega,I7 pa (λp hp=>?_),h9⟩;grind
   ·exact F.rt x h
  ·refine List.eq_nil_iff_forall_not_mem.mpr (λp hp=>?_);rcases(j3 p).mp hp with⟨_,h⟩|h
   ·exact h (λu hu eu=>by have:=F.JM u hu;omega)
   ·rw[F.pz y ym h0]at h;cases h
  ·have zs:=(F.eM ym hz ez).1;refine(I.si.sn z hz zs).2 p ?_;rcases(j3 p).mp hp with⟨h1,h2⟩|h
   ·have:p.aU<=z.ay:=Adx λh3=>h2 (λu hu eu=>by rw[F.fP.inj hu hz (eu.trans ez.symm)];omega);exact I.si.el y ym z hz ez p ((dn p).mp h1).1 this
   ·exact((I.si.dd y ym z hz ez p).mp h).1
 ·grind
 ·rcases(mem z).mp hz with rfl|⟨h,_⟩
  ·exact⟨n,jm,rfl⟩
  ·grind
 ·by_cases hzn:z=n
  ·subst hzn;exact .inl ⟨_,(mem _).mpr (.inl rfl),hp⟩
  ·by_cases al:z=y
   ·subst al;by_cases ak:gf G.P.C n.root p
    ·exact .inl ⟨_,(mem _).mpr (.inl rfl),ak⟩
    ·have hd:=(dn p).mpr ⟨hp,ak⟩;by_cases ai:cz G.l z p
     ·grind
     ·unfold cz at ai;simp only[Acl]at ai;obtain⟨u,hu,eu,hle⟩:=ai;have us:=F.eM ym hu eu;have h1:=I.si.el z ym u hu eu p hp ae;grind
   ·grind
 ·grind [cO,my,hq]
end
theorem ox(s:Nat->Nat)(i x:Nat):ff s i x i=x:=bI rfl
theorem pF{s:Nat->Nat}{i x j:Nat}(h:j≠i):ff s i x j=s j:=aY h
section
variable {P:bq} {root:au} {i:Nat}
theorem YI(I:jF P root)(K:oH P)(hi:i<64)(b:cS){i1 i2 i3:Nat}(h1:P.s i1=1)(h2:ff P.s i1 2 i2=1)(h3:ff (ff P.s i1 2) i2 2 i3=1){F S F' S':List au}(hF:F=bD P.C root)(hS:S=bD P.C (a6 F (i/8))){p1 p2 p3:au}(e1:p1=⟨(i1:Int),P.st,dQ b⟩)(eS:S'=S.set (i%8) p1)(e2:p2=⟨(i2:Int),P.st,dQ (bJ S')⟩)(eF:F'=F.set (i/8) p2)(e3:p3=⟨(i3:Int),P.st,dQ (bJ F')⟩):Zd P (((P.put i1 b).put i2 (bJ S')).put i3 (bJ F')) root i p3 p2 p1/\fM (((P.put i1 b).put i2 (bJ S')).put i3 (bJ F')).C p1=some b:=by
 obtain⟨U,n12,n13,n23,s2,s3,B⟩:=YJ I K hi b h1 h2 h3 hF hS e1 eS e2 eF e3;obtain⟨a1,b1⟩:=K.free i1 h1;obtain⟨a2,b2⟩:=K.free i2 s2;obtain⟨a3,b3⟩:=K.free i3 s3;have hl:=K.len;have SS:(((P.put i1 b).put i2 (bJ S')).put i3 (bJ F')).s=ff (ff (ff P.s i1 2) i2 2) i3 2:=rfl;have CC:(((P.put i1 b).put i2 (bJ S')).put i3 (bJ F')).C=((P.C.set i1 b).set i2 (bJ S')).set i3 (bJ F'):=rfl;have w1:ff (ff (ff P.s i1 2) i2 2) i3 2 i1=2:=by grind [pF,ox]
 have w2:ff (ff (ff P.s i1 2) i2 2) i3 2 i2=2:=by rw[pF n23,ox]
 have w3:ff (ff (ff P.s i1 2) i2 2) i3 2 i3=2:=ox _ _ _;have l1:p1.loc=(i1:Int):=by rw[e1]
 have l2:p2.loc=(i2:Int):=by rw[e2]
 have l3:p3.loc=(i3:Int):=by rw[e3]
 have n1:p1≠hole:=lD
 have n2:p2≠hole:=lD
 have n3:p3≠hole:=lD
 refine⟨⟨U,rfl,rfl,aa,λj hj=>?_,λq _ hq=>?_,λq q' _ _ hq ab e=>?_,λj hj=>?_⟩,B⟩
 ·grind
 ·rw[SS];grind
 ·grind
 ·rw[SS,pF (λe=>hj p3 n3 (.inl rfl) ae),pF (λe=>hj p2 n2 (.inr (.inl rfl)) ae),pF (λe=>hj p1 n1 (.inr (.inr rfl)) ae)]
theorem R5(I:jF P root)(K:oH P)(hi:i<64){i1 i2:Nat}(h1:P.s i1=1)(h2:ff P.s i1 2 i2=1){F S F' S':List au}(hF:F=bD P.C root)(hS:S=bD P.C (a6 F (i/8))){p2 p3:au}(eS:S'=S.set (i%8) hole)(e2:p2=⟨(i1:Int),P.st,dQ (bJ S')⟩)(eF:F'=F.set (i/8) p2)(e3:p3=⟨(i2:Int),P.st,dQ (bJ F')⟩):Zd P ((P.put i1 (bJ S')).put i2 (bJ F')) root i p3 p2 hole:=by
 obtain⟨U,n12,s2⟩:=R8 I K hi h1 h2 hF hS eS e2 eF e3;obtain⟨a1,b1⟩:=K.free i1 h1;obtain⟨a2,b2⟩:=K.free i2 s2;have hl:=K.len;have SS:((P.put i1 (bJ S')).put i2 (bJ F')).s=ff (ff P.s i1 2) i2 2:=rfl;have CC:((P.put i1 (bJ S')).put i2 (bJ F')).C=(P.C.set i1 (bJ S')).set i2 (bJ F'):=rfl;have w1:ff (ff P.s i1 2) i2 2 i1=2:=by rw[pF n12,ox]
 have w2:ff (ff P.s i1 2) i2 2 i2=2:=ox _ _ _;have l2:p2.loc=(i1:Int):=by rw[e2]
 have l3:p3.loc=(i2:Int):=by rw[e3]
 have n2:p2≠hole:=lD
 have n3:p3≠hole:=lD
 refine⟨U,rfl,rfl,aa,λj hj=>?_,λq hn hq=>?_,λq q' hn ag hq ab e=>?_,λj hj=>?_⟩
 ·grind
 ·rw[SS];grind
 ·grind
 ·rw[SS,pF (λe=>hj p3 n3 (.inl rfl) ae),pF (λe=>hj p2 n2 (.inr (.inl rfl)) ae)]
theorem R4(I:jF P root)(K:oH P)(hi:i<64){i1:Nat}(h1:P.s i1=1){F S F':List au}(hF:F=bD P.C root)(hS:S=bD P.C (a6 F (i/8))){p3:au}(eS:gh (S.set (i%8) hole)=true)(eF:F'=F.set (i/8) hole)(e3:p3=⟨(i1:Int),P.st,dQ (bJ F')⟩):Zd P (P.put i1 (bJ F')) root i p3 hole hole:=by
 have U:=R7 I K hi h1 hF hS eS eF e3;obtain⟨a1,b1⟩:=K.free i1 h1;have hl:=K.len;have SS:(P.put i1 (bJ F')).s=ff P.s i1 2:=rfl;have CC:(P.put i1 (bJ F')).C=P.C.set i1 (bJ F'):=rfl;have l3:p3.loc=(i1:Int):=by rw[e3]
 have n3:p3≠hole:=lD
 refine⟨U,rfl,rfl,aa,λj hj=>?_,λq hn hq=>?_,λq q' hn ag hq ab e=>?_,λj hj=>?_⟩
 ·grind
 ·rw[SS];grind [ox]
 ·simp_all
 ·rw[SS,pF (λe=>hj p3 n3 (.inl rfl) ae)]
theorem R3(I:jF P root)(hi:i<64){F S:List au}(hF:F=bD P.C root)(hS:S=bD P.C (a6 F (i/8)))(eS:gh (S.set (i%8) hole)=true)(eF:gh (F.set (i/8) hole)=true):Zd P P root i hole hole hole:=⟨R6 I hi hF hS eS eF,rfl,rfl,rfl,λ_ _=>rfl,λq hn hq=>aa,λq q' hn _ hq _ _=>aa,λ_ _=>rfl⟩
def Zd.read{P3:bq}{t m b:au}(K:Zd P P3 root i t m b)(hi:i<64){j:Nat}(hj:j<64):fM P3.C (eK P3.C t (9+j))=if j=i then fM P3.C b else fM P.C (eK P.C root (9+j)):=K.u.read hi hj
theorem Qq{l:List au}{p:au}:p∈jH l↔p∈l/\p≠hole:=by simp[jH]
theorem aal(T:eA P.C root)(hi:i<64):(∀p,p∈jH [a6 (bD P.C (a6 (bD P.C root) (i/8))) (i%8),a6 (bD P.C root) (i/8),root]↔p≠hole/\(p=root\/p=eK P.C root (1+i/8)\/p=eK P.C root (9+i)))/\(jH [a6 (bD P.C (a6 (bD P.C root) (i/8))) (i%8),a6 (bD P.C root) (i/8),root]).Nodup:=by
 obtain⟨e1,e2⟩:=az (dr P.C root (k:=i/8) ae) (iz P.C root hi);rw[e1]at e2;rw[<-e2,<-e1];refine⟨λp=>?_,?_⟩
 ·grind [Qq]
 ·have N:∀a b,a<73->b<73->a≠b->eK P.C root a≠hole->eK P.C root a≠eK P.C root b:=λa b ha hb hne hn e=>hne (T.inj a b ha hb e hn);have a0:eK P.C root 0=root:=rfl;grind [jH,eK,hole]
end
def abp(C:List cS)(root:au)(i:Nat):List au:=jH [a6 (bD C (a6 (bD C root) (i/8))) (i%8),a6 (bD C root) (i/8),root]
def Zk(P:bq)(root:au)(i:Nat)(s:cS)(r:Int)(t:au)(old:List au)(P3:bq):Prop:=P3.m<=P.m+3/\((r=71/\P3=P/\bN P.s<3)\/(r=0/\((∃m b,Zd P P3 root i t m b/\fM P3.C b=some s/\old=abp P.C root i)\/(P3=P/\t=root/\old=[]/\fM P.C (eK P.C root (9+i))=some s))))
def Mu(P:bq)(H:aR)(root:au)(i:Nat)(s:cS)(w:af)(e:Ab2)(w':af):Prop:=∃t va vm vc old r P3 vp,e=.returned (.tuple #[.agg (be t),.slice va vm vc,.int .i64 r])/\Zk P root i s r t old P3/\bf w' w.heap.size (.slice va vm vc) old/\PA w' (H.at vp) P3/\Touch (PF H) w w'/\∀b,vp.ownBlock=some b->H.h.vp.ownBlock=some b\/w.heap.size<=b
section
variable {P:bq} {H:aR} {root:au} {i:Nat} {w w':af} {e:Ab2}
theorem ZP.made(I:jF P root)(K:oH P)(hi:i<64){b:cS}(h:ZP P H root i b (bD P.C root) (bD P.C (a6 (bD P.C root) (i/8))) w e w'):Mu P H root i b w e w':=by
 rcases h with⟨hc,he,pg⟩|⟨hc,i1,i2,i3,v,l1,l2,l3,h1,h2,h3,he,ov,vp,pa,T,O⟩
 ·exact⟨root,none,0,0,[],71,P,H.h.vp,he,⟨ae,.inl ⟨rfl,rfl,hc⟩⟩,ak.nil _ _ _ _ _,pg.1,pg.2,λ_ h=>.inl h⟩
 ·obtain⟨va,vc,rfl⟩:=(ak.row ov pw).slice;obtain⟨C,B⟩:=YI I K hi b h1 h2 h3 rfl rfl rfl rfl rfl rfl rfl;refine⟨_,va,_,vc,_,0,_,vp,he,⟨?_,.inr ⟨rfl,.inl ⟨_,_,C,B,rfl⟩⟩⟩,ov,pa,T,O⟩;show P.m+1+1+1<=P.m+3;omega
theorem SV.made(I:jF P root)(K:oH P)(hi:i<64)(h:SV P H root (i/8) (i%8) (bD P.C root) (bD P.C (a6 (bD P.C root) (i/8))) w e w'):Mu P H root i ey w e w':=by
 have EB:=iz P.C root hi;rw[dr P.C root ae]at EB;rcases h with⟨hh,he,pg⟩|⟨hh,hc,he,pg⟩|⟨hh,v,ov,h⟩
 ·exact⟨root,none,0,0,[],0,P,H.h.vp,he,⟨ae,.inr ⟨rfl,.inr ⟨rfl,rfl,rfl,by grind [js]⟩⟩⟩,ak.nil _ _ _ _ _,pg.1,pg.2,λ_ h=>.inl h⟩
 ·have h3:bN P.s<3:=by grind [qI]
  exact⟨root,none,0,0,[],71,P,H.h.vp,he,⟨ae,.inl ⟨rfl,rfl,h3⟩⟩,ak.nil _ _ _ _ _,pg.1,pg.2,λ_ h=>.inl h⟩
 ·obtain⟨va,vc,rfl⟩:=(ak.row ov pw).slice;rcases h with⟨hn,he,pg⟩|⟨hn,i1,l1,h1,he,vp,pa,T,O⟩|⟨hn,i1,i2,l1,l2,h1,h2,he,vp,pa,T,O⟩
  ·have e2:gh ((bD P.C (a6 (bD P.C root) (i/8))).set (i%8) hole)=true/\gh ((bD P.C root).set (i/8) hole)=true:=by grind [qI]
   exact⟨hole,va,_,vc,_,0,P,H.h.vp,he,⟨ae,.inr ⟨rfl,.inl ⟨_,_,R3 I hi rfl rfl e2.1 e2.2,aA,rfl⟩⟩⟩,ov,pg.1,pg.2,λ_ h=>.inl h⟩
  ·have e2:gh ((bD P.C (a6 (bD P.C root) (i/8))).set (i%8) hole)=true:=by grind [qI]
   refine⟨_,va,_,vc,_,0,_,vp,he,⟨?_,.inr ⟨rfl,.inl ⟨_,_,R4 I K hi h1 rfl rfl e2 rfl rfl,aA,rfl⟩⟩⟩,ov,pa,T,O⟩;show P.m+1<=P.m+3;omega
  ·refine⟨_,va,_,vc,_,0,_,vp,he,⟨?_,.inr ⟨rfl,.inl ⟨_,_,R5 I K hi h1 h2 rfl rfl rfl rfl rfl rfl,aA,rfl⟩⟩⟩,ov,pa,T,O⟩;show P.m+1+1<=P.m+3;omega
end
def cp(x:ao):ao:={x with root:=hole,dead:=[]}
theorem RW{l:List ao}(hk:k<κ l){x:ao}(h:cp x=cp (recAt l k)):(l.set k x).map cp=l.map cp:=by rw[nQ,h];apply wM;grind [b9]
def rdI(G:ct)(id j:Nat):Option cS:=match aL G.l id with
 | none=>none
 | some k=>tT G.P.C (recAt G.l k) j
theorem zN(F:pW G.l){x:ao}(hx:x∈G.l)(j:Nat):rdI G x.id j=tT G.P.C x j:=by grind [ca,rdI,tT,recAt]
structure aa5(G G2:ct):Prop where
 mR:bN G.P.s<=bN G2.P.s+3
 ms:G2.ms=G.ms
 sl:cO G2.l<=cO G.l+48
 sh:G2.next<=281474976710655/\(κ G2.l)<=32/\∀x∈G2.l,cK x=true
 len:κ G2.P.C=κ G.P.C
def Zj(G:ct):Prop:=bN G.P.s<3\/∃G2,aa5 G G2/\e0 G2=false
theorem J9{s s':Nat->Nat}{L:List Nat}(h:∀j,j ∉ L->s' j=s j):bN s<=bN s'+κ L:=by
 have hn:((Aak 1024).filter (λk=>decide (s k=1))).Nodup:=List.nodup_range.filter _;have:=eR _ ((Aak 1024).filter (λk=>decide (s' k=1))++L) hn (λi hi=>by
  obtain⟨h1,h2⟩:=List.mem_filter.mp hi;by_cases hL:i∈L
  ·exact oX _ hL
  ·exact nO _ (List.mem_filter.mpr ⟨h1,aa⟩))
 rw[Aaf]at this;exact this
structure kY(G:ct)(k i:Nat)(s:cS)(G2:ct):Prop where
 inv:e0 G2=true->bm G2
 next:G2.next=G.next
 strip:G2.l.map cp=G.l.map cp
 st:G2.P.st=G.P.st
 m:G2.P.m<=G.P.m+3
 u:G2.u=G.u
 len:κ G2.P.C=κ G.P.C
 W9:∀j,G.P.s j≠1->G2.P.C[j]?=G.P.C[j]?
 rd:∀x∈G2.l,∀j,j<64->tT G2.P.C x j=if x.id=(recAt G.l k).id/\j=i then some s else rdI G x.id j
 us:aa5 G G2
theorem bm.Pj(I:bm G)(hk:k<κ G.l)(hs:(recAt G.l k).aT=false)(hi:i<64){s:cS}{t:au}{old:List au}{P3:bq}(K:Zk G.P (recAt G.l k).root i s 0 t old P3):∃l2 gone,qo G.next (mA G.l (recAt G.l k).id t) (recAt G.l k).id old=.ok (G.next,l2,gone)/\(κ old)<=3/\(κ gone)<=3/\(κ l2)<=32/\(∀x∈l2,κ x.dead<=73)/\(∀x∈l2,x.wf)/\kY G k i s {G with P:={P3 with s:=bO P3.s P3.ba gone},l:=l2}:=by
 obtain⟨F,vm⟩:=az I.hY (aI hk);obtain⟨hm,K⟩:=K;rcases K with⟨h,_,_⟩|⟨_,⟨m,b,C,B,ho⟩|⟨hP,ht,ho,hb⟩⟩
 ·omega
 ·obtain⟨o1,o2⟩:=aal (P:=G.P) (I.tr _ vm) hi;rw[show jH _=old from ho.symm]at o1 o2;obtain⟨d,gone,k1,k2,k3,k4,k5,⟨kd,kr⟩,k6⟩:=I.R' hk hs hi C o1 o2;have mem:=λz=>mem_set (x':={recAt G.l k with root:=t,dead:=d}) (y:=z) F.fP hk;refine⟨_,gone,k1,(by rw[ho];exact uu _),k2,KP,λx hx=>?_,λx hx=>?_,⟨k6,rfl,RW hk rfl,C.st,hm,rfl,C.len,C.W9,λx hx j hj=>?_,⟨?_,rfl,?_,⟨F.nx,KP,λx hx=>?_⟩,C.len⟩⟩⟩
  ·rcases(mem x).mp hx with rfl|⟨h,_⟩
   ·exact k4
   ·exact I.mZ h
  ·rcases(mem x).mp hx with rfl|⟨h,_⟩
   ·obtain⟨w1,w2,w3,w4,w5,w6,w7⟩:=I.wf _ vm;exact⟨w1,w2,w3,w4,w5,C.u.qh.1,k5⟩
   ·exact I.wf x h
  ·show tT P3.C x j=_;rcases(mem x).mp hx with rfl|⟨h,hne⟩
   ·show fM P3.C (eK P3.C t (9+j))=_;rw[C.read hi hj,zN F.fP vm];by_cases ab:j=i
    ·simp_all
    ·rw[aY ab,aY (λh=>ab h.2)];rfl
   ·rw[aY (λh2=>hne (F.fP.inj h vm h2.1)),zN F.fP h];exact I.ZB C.W9 h hj
  ·refine bK (J9 (L:=[t.loc.toNat,m.loc.toNat,b.loc.toNat]) (λj hj=>C.sl j (λq hq h e=>?_))) (Nat.add_le_add_right (p3 gone) 3);grind
  ·grind [Ha,recAt,my,cO]
  ·rcases(mem x).mp hx with rfl|⟨h,_⟩
   ·exact kr
   ·exact F.rt x h
 ·subst hP;subst ho;subst ht;have e1:mA G.l (recAt G.l k).id (recAt G.l k).root=G.l:=by
   rw[D4 F.fP hk];have:({recAt G.l k with root:=(recAt G.l k).root}:ao)=G.l[k]:=by rw[<-b9 hk]
   simp_all
  obtain⟨k',aa,p1,p2⟩:=ca F.fP vm;have kk:k'=k:=F.fP.lG aa hk p2;subst kk;have e2:G.l.set k' (Aq (recAt G.l k') (recAt G.l k').dead)=G.l:=by
   have:Aq (recAt G.l k') (recAt G.l k').dead=G.l[k']:=by rw[<-b9 aa];rfl
   simp_all
  refine⟨G.l,[],?_,bT _,bT _,F.len,λx hx=>I.mZ hx,I.wf,⟨λ_=>I,rfl,rfl,rfl,hm,rfl,rfl,λ_ _=>rfl,λx hx j hj=>?_,⟨Fz _ _,rfl,Fz _ _,⟨F.nx,F.len,F.rt⟩,rfl⟩⟩⟩
  ·rw[e1,EV (d:=(recAt G.l k').dead) (gone:=[]) p1 rfl,e2]
  ·rw[zN F.fP hx];split
   ·rename_i h;have:x=recAt G.l k':=F.fP.inj hx vm h.1;subst this;rw[h.2];exact hb
   ·rfl
section
variable {next nx n ay:Nat} {l l':List ao} {full aa:List aj} {blocks:Int}
theorem l4{i:Nat}(h:dP l full=.ok i):i<κ l:=by
 unfold dP at h;split at h
 ·cases h
 ·split at h
  ·cases h
  ·rename_i i' hi;split at h
   ·cases h;exact(fi hi).1
   ·split at h
    ·cases h
    ·rename_i j hj;cases h;exact(fi hj).1
theorem xu(h:cU next l full blocks=.error n):n≠0:=o3
theorem oN(h:cU next l full blocks=.ok (nx,l')):∃eC,hS full=some eC/\(1<=blocks/\blocks<=64)/\(κ l)<32/\a1 l full=none/\nx=next+1/\l'=l++[ef next eC blocks]:=by grind [cU,eC]
theorem Ea(h:e4 next l full ay=.error n):n≠0:=qE
theorem Ak(h:dO next l full aa=.error n):n≠0:=FO
theorem tO{n:Nat}(h:dy l full=.error n):n≠0:=by grind [Cv]
theorem BV{id:Nat}:∀(ms:List Nat)(c:List ao),gQ l id c ms=.error n->n≠0
 | [],c,h=>hE
 | m::r,c,h=>by
  unfold gQ at h;split at h
  ·cases h
  ·split at h
   ·cases h;omega
   ·exact BV r _ h
theorem vE(h:cB next l full=.error n):n≠0:=by grind [cB,tO,BV]
theorem Da(h:gI next l full=.error n):n≠0:=by grind [gI,tO]
theorem uo(h:dU next l full=.error n):n≠0:=by grind [dU,tO]
theorem CM(h:cE next l full=.error n):n≠0:=by unfold cE at h;grind
theorem z6{x:ao}(h:gI next l full=.ok (nx,l',x)):∃i j,dy l full=.ok i/\aL l (recAt l i).prev=some j/\nx=next/\l'=l.set i (iP (recAt l i) (recAt l j))/\x=recAt l i:=by grind [gI]
theorem xy{x:ao}(h:dU next l full=.ok (nx,l',x)):∃i,dy l full=.ok i/\¬0<κ (dR l (recAt l i).id).1/\nx=next/\l'=l.eraseIdx i/\x=recAt l i:=by grind [dU]
end
def jW(b:List aj):cS:=if h:κ b<=128 then eS b h else ey
def SG(G G2:ct):Prop:=κ G2.P.C=κ G.P.C/\(∀j,G.P.s j≠1->G2.P.C[j]?=G.P.C[j]?)/\G2.P.m<=G.P.m+3/\Zj G
theorem SG.refl(h:bN G.P.s<3):SG G G:=⟨rfl,λ_ _=>rfl,Fz _ _,.inl h⟩
def lI(G:ct)(full:List aj)(N:Int)(aa:Bool)(s:cS)(r:Int)(G2:ct):Prop:=(∃n:Nat,iU G.l full N=.error n/\n≠0/\r=(n:Int)/\G2=G)\/(∃k,iU G.l full N=.ok k/\((aa=true/\r=92/\G2=G)\/(aa=false/\r=71/\SG G G2)\/(aa=false/\r=0/\kY G k N.toNat s G2/\e0 G2=true)))
theorem Pm{l:List ao}{full:List aj}(h:iU l full N=.error n):n≠0:=by grind [iU,e9]
theorem zT{next:Nat}{l:List ao}(F:gd next l){full:List aj}(h:iU l full N=.ok k):k<κ l/\(recAt l k).aT=false/\0<=N/\N<(recAt l k).blocks/\dP l full=.ok k:=by
 unfold iU at h;split at h
 ·cases h
 ·rename_i vn hv;unfold e9 at h;split at h
  ·cases h
  ·rename_i k' hk;split at h
   ·cases h
   ·rename_i hb;cases h;refine⟨l4 hk,?_,ae,ae,hk⟩;have ax:=hv;unfold hS at ax;split at ax
    ·rename_i v s hs;split at ax
     ·rename_i ah;unfold dP at hk;rw[hs]at hk;simp only at hk;split at hk
      ·cases hk
      ·rename_i i hi;rw[bI ah]at hk;cases hk;have h2:=fi hi;cases ag:(recAt l k).aT with
       | false=>rfl
       | true=>have h3:=h2.2;unfold cb at h3;rw[ag,bI rfl]at h3;have h4:(recAt l k).owner=0:=cn jE.owner h3;have:=((br _).mp (F.rt _ (aI h2.1))).2.1;omega
     ·cases ax
    ·cases ax
theorem Yz(w:af)(gb:Nat)(H:aR)(G:ct)(A:GA w gb H G)(I:bm G)(hn:G.next<=100000000)(aG:G.P.st<=100000000)(hm:G.P.m<=700000)(c1:Nat)(c2:Nat)(c3:Nat)(full:List aj)(N:Int)(hf:κ full<=9223372036854775807)(ba:Option Adr)(bc:Nat)(b:List aj)(hb:a8 w (.slice ba (κ b) bc) b)(aW:∀k,(Acr ba (κ b) bc).ownBlock=some k->¬PF H k)(h1:w.cell? ⟨c1,0,none⟩=some (.string (strOf full)))(n1:¬PF H c1)(l1:c1<w.heap.size)(h2:w.cell? ⟨c2,0,none⟩=some (.int .i64 N))(n2:¬PF H c2)(l2:c2<w.heap.size)(h3:w.cell? ⟨c3,0,none⟩=some (.slice ba (κ b) bc))(n3:¬PF H c3)(l3:c3<w.heap.size):Aae Aag 45 #[j9 gb,.pointer (some ⟨c1,0,none⟩),.pointer (some ⟨c2,0,none⟩),.pointer (some ⟨c3,0,none⟩)] w (tW gb H (lI G full N (decide (128<κ b)) (jW b)) w):=by
 obtain⟨w0,rfl⟩:=bE w;have s:=Fr.nV A.pa;go_in;go_wp2_with(refine fw s ?_;intro _ w s);refine(xX w gb H G (A.nV H.h.vp s.pa s.t) I.hl I.hr full hf N).mono ?_;rintro e w(⟨n,hv,rfl,u⟩|⟨k,vd,hv,hkl,rfl,od,u⟩)
 ·exact M0
 ·have VA:=zT I.hY hv;obtain⟨da,dc,rfl⟩:=(ak.row od pw).slice;have s:=s.new (.q od u s.t.size);by_cases ab:128<κ b
  ·have b9:((κ b:Int)>128)=True:=ee ae;go_wp2_with(refine fw s ?_;intro _ w s);refine bj ?_;exact⟨92,G,H.h.vp,rfl,.inr ⟨k,hv,.inl ⟨h8 ab,rfl,rfl⟩⟩,A.nV H.h.vp s.pa s.t,s.t.mono (λ_ h=>.inl h),λ_ h=>.inl h⟩
  have b9:((κ b:Int)>128)=False:=cI ae;have ai:κ b<=128:=ae
  have ad:jW b=eS b ai:=dif_pos ai;go_wp2_with(refine fw s ?_;intro _ w s);refine OD ?_;intro TI aa;have TS:=an (λW (u:Touch (PF H) w0 W) (p:PA W H G.P)=>show Aae Aag 47 #[.pointer (some ⟨H.pb,0,none⟩),.agg (be (recAt G.l k).root),.int .i64 N,.slice ba (κ b) bc] W (Mu G.P H (recAt G.l k).root N.toNat (jW b) W)from by have:=WD W H G.P p (recAt G.l k).root N.toNat aa.out.1 _ _ TI.ok.F (TI.ok.S (by have:=aa.out.1;omega)) (.slice ba (κ b) bc) b (λw' T=>hb.ax (u.trans T (λ_ h _=>h)) aW) ai ae I.qL.free I.qL.st.1 I.qL.st.2;rw[<-ad]at this;rw[show(N.toNat:Int)=N from aa.out.2.symm]at this;exact this.mono (λe w' h=>h.made TI I.qL aa.out.1))
  refine kpl s (λw s=>?_);repeat refine kt ?_
  refine kj 3 ?_;refine kj 4 ?_;refine kj 5 ?_;refine kj 6 ?_;refine kc (λw _ s=>ju w gb H G (A.nV H.h.vp s.pa s.t)) ?_;rintro w _ s _ _⟨rfl,rfl⟩;refine lQ ?_;repeat(first|refine kx ?_|refine kt ?_)
  refine Zn (λw _ s=>TS.out w s.t s.pa) ?_;rintro w _ s _ w'⟨t,va,vm,vc,old,r,P3,vp,rfl,tr,ov,pa,T,O⟩;refine⟨_,_,rfl,.pt s pa T O ov,Xc,?_⟩;repeat refine kt ?_
  refine kn (λ_ w u s=>?_);have ao:=an (jX t);refine ks (λw s=>?_);repeat refine kt ?_
  refine kd (λw u s=>?_);obtain⟨a1,tr⟩:=tr;have OV:=(s.p (pl _ H vp P3) gG).2;rcases tr with⟨rfl,rfl,al⟩|⟨rfl,tr⟩
  ·go_wp2_with(refine fw s ?_;intro _ w s);refine(D1 w).mono ?_;rintro e _⟨rfl,rfl⟩;go_wp2_with(refine fw s ?_;intro _ w s);refine bj ?_;exact⟨71,{G with P:=G.P},vp,rfl,.inr ⟨k,hv,.inr (.inl ⟨jj ab,rfl,SG.refl al⟩)⟩,A.nV vp s.pa s.t,s.t.mono (λ_ h=>.inl h),OV⟩
  ·obtain⟨l2,gone,hk,ol,gl,ll,dl,wf,tn⟩:=I.Pj VA.1 VA.2.1 aa.out.1 (t:=t) (old:=old) (P3:=P3) (s:=jW b) ⟨a1,.inr ⟨rfl,tr⟩⟩;obtain⟨G9,hG9⟩:∃g:ct,g={G with P:={P3 with s:=bO P3.s P3.ba gone},l:=l2}:=⟨_,rfl⟩;rw[<-hG9]at tn;replace hG9:=an hG9;obtain⟨r,ag⟩:∃r:Int,r=wu G9:=⟨_,rfl⟩;have hr:=an ag;clear ag;go_wp2_with(refine fw s ?_;intro _ w s);refine NI ?_;intro TU w7 a7 t7 s7;go_wp2_with fail;refine me s7 ?_;refine⟨r,G9,vp,rfl,.inr ⟨k,hv,?_⟩,a7,(s.t.mono (λ_ h=>.inl h)).trans t7 (λn hn hlt=>?_),OV⟩
   ·replace hr:=hr.out;unfold wu at hr;split at hr
    ·rename_i hf;exact .inr (.inr ⟨jj ab,hr,tn,hf⟩)
    ·rename_i hf;exact .inr (.inl ⟨jj ab,hr,tn.len,tn.W9,tn.m,.inr ⟨_,tn.us,by simpa using hf⟩⟩)
   ·exact Ob
theorem aat(w:af)(gb:Nat)(H:aR)(G:ct)(A:GA w gb H G)(I:bm G)(hn:G.next<=100000000)(aG:G.P.st<=100000000)(hm:G.P.m<=700000)(c1:Nat)(c2:Nat)(full:List aj)(N:Int)(hf:κ full<=9223372036854775807)(h1:w.cell? ⟨c1,0,none⟩=some (.string (strOf full)))(n1:¬PF H c1)(l1:c1<w.heap.size)(h2:w.cell? ⟨c2,0,none⟩=some (.int .i64 N))(n2:¬PF H c2)(l2:c2<w.heap.size):Aae Aag 124 #[j9 gb,.pointer (some ⟨c1,0,none⟩),.pointer (some ⟨c2,0,none⟩)] w (tW gb H (lI G full N false ey) w):=by
 obtain⟨w0,rfl⟩:=bE w;have s:=Fr.nV A.pa;go_in;go_wp2_with(refine fw s ?_;intro _ w s);refine(xX w gb H G (A.nV H.h.vp s.pa s.t) I.hl I.hr full hf N).mono ?_;rintro e w(⟨n,hv,rfl,u⟩|⟨k,vd,hv,hkl,rfl,od,u⟩)
 ·exact M0
 ·have VA:=zT I.hY hv;obtain⟨da,dc,rfl⟩:=(ak.row od pw).slice;have s:=s.new (.q od u s.t.size);go_wp2_with(refine fw s ?_;intro _ w s);refine OD ?_;intro TI aa;have TS:=an (λW (u:Touch (PF H) w0 W) (p:PA W H G.P)=>show Aae Aag 125 #[.pointer (some ⟨H.pb,0,none⟩),.agg (be (recAt G.l k).root),.int .i64 N] W (Mu G.P H (recAt G.l k).root N.toNat ey W)from by have:=R9 W H G.P p (recAt G.l k).root N.toNat (N.toNat/8) (N.toNat%8) aa.out.1 rfl rfl _ _ TI.ok.F (TI.ok.S (by have:=aa.out.1;omega)) ae I.qL.free I.qL.st.1 I.qL.st.2;rw[show(N.toNat:Int)=N from aa.out.2.symm]at this;exact this.mono (λe w' h=>h.made TI I.qL aa.out.1))
  refine kpl s (λw s=>?_);repeat refine kt ?_
  refine kj 3 ?_;refine kj 4 ?_;refine kj 5 ?_;refine kc (λw _ s=>ju w gb H G (A.nV H.h.vp s.pa s.t)) ?_;rintro w _ s _ _⟨rfl,rfl⟩;refine lQ ?_;repeat(first|refine kx ?_|refine kt ?_)
  refine Zn (λw _ s=>TS.out w s.t s.pa) ?_;rintro w _ s _ w'⟨t,va,vm,vc,old,r,P3,vp,rfl,tr,ov,pa,T,O⟩;refine⟨_,_,rfl,.pt s pa T O ov,Xc,?_⟩;repeat refine kt ?_
  refine kn (λ_ w u s=>?_);have ao:=an (jX t);refine ks (λw s=>?_);repeat refine kt ?_
  refine kd (λw u s=>?_);obtain⟨a1,tr⟩:=tr;have OV:=(s.p (pl _ H vp P3) gG).2;rcases tr with⟨rfl,rfl,al⟩|⟨rfl,tr⟩
  ·go_wp2_with(refine fw s ?_;intro _ w s);refine(D1 w).mono ?_;rintro e _⟨rfl,rfl⟩;go_wp2_with(refine fw s ?_;intro _ w s);refine bj ?_;exact⟨71,{G with P:=G.P},vp,rfl,.inr ⟨k,hv,.inr (.inl ⟨rfl,rfl,SG.refl al⟩)⟩,A.nV vp s.pa s.t,s.t.mono (λ_ h=>.inl h),OV⟩
  ·obtain⟨l2,gone,hk,ol,gl,ll,dl,wf,tn⟩:=I.Pj VA.1 VA.2.1 aa.out.1 (t:=t) (old:=old) (P3:=P3) (s:=ey) ⟨a1,.inr ⟨rfl,tr⟩⟩;obtain⟨G9,hG9⟩:∃g:ct,g={G with P:={P3 with s:=bO P3.s P3.ba gone},l:=l2}:=⟨_,rfl⟩;rw[<-hG9]at tn;replace hG9:=an hG9;obtain⟨r,ag⟩:∃r:Int,r=wu G9:=⟨_,rfl⟩;have hr:=an ag;clear ag;go_wp2_with(refine fw s ?_;intro _ w s);refine NI ?_;intro TU w7 a7 t7 s7;go_wp2_with fail;refine me s7 ?_;refine⟨r,G9,vp,rfl,.inr ⟨k,hv,?_⟩,a7,(s.t.mono (λ_ h=>.inl h)).trans t7 (λn hn hlt=>?_),OV⟩
   ·replace hr:=hr.out;unfold wu at hr;split at hr
    ·rename_i hf;exact .inr (.inr ⟨rfl,hr,tn,hf⟩)
    ·rename_i hf;exact .inr (.inl ⟨rfl,hr,tn.len,tn.W9,tn.m,.inr ⟨_,tn.us,by simpa using hf⟩⟩)
   ·exact Ob
section
variable {X:Except Nat (Nat × List ao × ao)} {Y:Except Nat (Nat × List ao × List au)} {W W' w w':af} {e:Ab2} {base base' nx:Nat} {v vg:ah} {y:ao}
end
theorem bc.aJ{base:Nat}{v:ah}{l:List ao}(h:bc w base v l):∀k,v.ownBlock=some k->base<=k/\k<w.heap.size:=by obtain⟨ys,y1,y2,y3⟩:=h;exact y2.aJ
def AN(G:ct)(x:ao):List au:=yr x.root (bD G.P.C x.root) (λk=>bD G.P.C (a6 (bD G.P.C x.root) k)) (b0 G.l x.id)
def oG(G:ct)(X:Except Nat (Nat × List ao × ao))(r:Int)(G2:ct):Prop:=(∃n:Nat,X=.error n/\r=(n:Int)/\n≠0/\G2=G)\/(∃nx l' x,X=.ok (nx,l',x)/\r=0/\G2={G with P:={G.P with s:=bO G.P.s G.P.ba (AN G x)},next:=nx,l:=l'})
structure yD(G:ct)(X:Except Nat (Nat × List ao × ao)):Prop where
 nz:∀n,X=.error n->n≠0
 ok:∀nx l' x,X=.ok (nx,l',x)->κ l'<=1000/\(∀x∈l',κ x.dead*24<=140737488355328)/\x∈G.l
theorem aap(w:af)(gb:Nat)(H:aR)(G:ct)(A:GA w gb H G)(I:bm G)(hn:G.next<=100000000)(c1:Nat)(full:List aj)(hf:κ full<=9223372036854775807)(h1:w.cell? ⟨c1,0,none⟩=some (.string (strOf full)))(X:Except Nat (Nat × List ao × ao))(hX:X=gI G.next G.l full)(K:yD G X):Aae Aag 130 #[j9 gb,.pointer (some ⟨c1,0,none⟩)] w (tW gb H (oG G X) w):=by
 subst hX;have s:=Fr.start w;go_in;go_wp2_with(refine fw s ?_;intro _ w s);refine kb s (λw s=>?_);repeat refine kt ?_
 refine kj 3 ?_;refine xJ (λw _ s=>fz w gb H G (A.up s.pure) I.hl I.hr) ?_;rintro w _ s _ w'⟨v,rfl,o1,u⟩;refine F9 ?_;intro ys z e;repeat(first|refine kx ?_|refine kt ?_)
 refine xJ (λw _ s=>HC w G.next _ G.l th I.hl I.hr full hf) ?_;rintro w _ s _ w'(⟨n,nx,va,vm,vc,hx,rfl,u⟩|⟨nx,l',x,v',vd,hx,rfl,os,od,u⟩)
 ·refine zJ ?_;repeat refine kt ?_
  refine kn (λ_ w u s=>?_);refine kn (λ_ w u s=>?_);refine ks (λw s=>?_);refine ks (λw s=>?_);repeat refine kt ?_
  refine kd (λw u s=>?_);have nz:((n:Int) != 0)=true:=by have:=K.nz n hx;simp;omega
  go_wp2_with fail;refine bj ?_;exact⟨(n:Int),G,H.h.vp,rfl,.inl ⟨n,hx,rfl,K.nz n hx,rfl⟩,A.up s.pure,Touch.bP s.pure,λ_ h=>.inl h⟩
 ·obtain⟨a2,c2,rfl⟩:=os.cm.slice;obtain⟨da,dc,rfl⟩:=(ak.row od pw).slice;obtain⟨zs,e2,z⟩:=Rz.s os u s.t.size;refine⟨_,_,rfl,z,?_⟩;repeat refine kt ?_
  refine kn (λ_ w u s=>?_);refine kn (λ_ w u s=>?_);refine ks (λw s=>?_);refine ks (λw s=>?_);repeat refine kt ?_
  refine kd (λw u s=>?_);obtain⟨k1,k2,k3⟩:=K.ok nx l' x hx;have TT:=I.tr x k3;go_wp2_with(refine fw s ?_;intro _ w s);have g6:=s.cm (ys:=zs);rw[e2]at g6;refine(BT w gb H G (A.up s.pure) I.hl I.hr nx _ _ l' g6 k1 k2 x da dc _ (λk=>bD G.P.C (a6 (bD G.P.C x.root) k)) TT.F (λk hk=>TT.S hk) (AN G x) rfl).mono ?_;rintro e w7⟨rfl,a7,t7⟩;have s7:=Fr.start w7;go_wp2_with fail;refine me s7 ?_;exact⟨0,_,H.h.vp,rfl,.inr ⟨nx,l',x,hx,rfl,rfl⟩,a7,(Touch.bP s.pure).trans t7 (λ_ h _=>h),λ_ h=>.inl h⟩
def Ze(G:ct)(Y:Except Nat (Nat × List ao × List au))(r:Int)(G2:ct):Prop:=(∃n:Nat,Y=.error n/\r=(n:Int)/\n≠0/\G2=G)\/(∃nx l' g,Y=.ok (nx,l',g)/\r=0/\G2={G with P:={G.P with s:=bO G.P.s G.P.ba g},next:=nx,l:=l'})
structure SH(Y:Except Nat (Nat × List ao × List au)):Prop where
 nz:∀n,Y=.error n->n≠0/\n≠131
 ok:∀nx l' g,Y=.ok (nx,l',g)->κ l'<=1000/\(∀x∈l',κ x.dead*24<=140737488355328)/\(κ g)<=100000
def fV(G:ct)(full:List aj)(r:Int)(G2:ct):Prop:=match dm full with
 | none=>r=141/\G2=G
 | some (_,s)=>if s=[] then oG G (dU G.next G.l full) r G2 else Ze G (cE G.next G.l full) r G2
theorem Kh{full:List aj}(h:dm full=none):fV G full 141 G:=by grind [fV]
theorem Au{G G2:ct}{full v s:List aj}(h:dm full=some (v,s))(h0:s=[])(k:oG G (dU G.next G.l full) r G2):fV G full r G2:=by grind [fV]
theorem Av{G G2:ct}{full v s:List aj}(h:dm full=some (v,s))(h0:¬s=[])(k:Ze G (cE G.next G.l full) r G2):fV G full r G2:=by grind [fV]
theorem Ri(w:af)(gb:Nat)(H:aR)(G:ct)(A:GA w gb H G)(I:bm G)(hn:G.next<=100000000)(c1:Nat)(full:List aj)(hf:κ full<=9223372036854775807)(h1:w.cell? ⟨c1,0,none⟩=some (.string (strOf full)))(X:Except Nat (Nat × List ao × ao))(hX:X=dU G.next G.l full)(K:yD G X)(Y:Except Nat (Nat × List ao × List au))(hY:Y=cE G.next G.l full)(KY:SH Y):Aae Aag 133 #[j9 gb,.pointer (some ⟨c1,0,none⟩)] w (tW gb H (fV G full) w):=by
 subst hX;subst hY;have s:=Fr.start w;go_in;go_wp2_with(refine fw s ?_;intro _ w s);refine(jl w full hf).mono ?_;refine er ?_;intro w u s;cases hs:dm full with
 | none=>simp only[gw];go_wp2_with fail;refine bj ?_;exact⟨141,G,H.h.vp,rfl,Kh hs,A.up s.pure,Touch.bP s.pure,λ_ h=>.inl h⟩
 | some vs=>
  obtain⟨vn,sn⟩:=vs;simp only[gw];have aa:=fX sn;by_cases h0:sn=[]
  ·rw[show decide (sn=[])=true by simp[h0]]at aa;replace h0:=an h0;go_wp2_with(refine fw s ?_;intro _ w s);refine kb s (λw s=>?_);repeat refine kt ?_
   refine kj 3 ?_;refine xJ (λw _ s=>fz w gb H G (A.up s.pure) I.hl I.hr) ?_;rintro w _ s _ w'⟨v,rfl,o1,u⟩;refine F9 ?_;intro ys z e;repeat(first|refine kx ?_|refine kt ?_)
   refine xJ (λw _ s=>xz w G.next _ G.l th I.hl I.hr full hf) ?_;rintro w _ s _ w'(⟨n,nx,va,vm,vc,hx,rfl,u⟩|⟨nx,l',x,v',vd,hx,rfl,os,od,u⟩)
   ·refine zJ ?_;repeat refine kt ?_
    refine kn (λ_ w u s=>?_);refine kn (λ_ w u s=>?_);refine ks (λw s=>?_);refine ks (λw s=>?_);repeat refine kt ?_
    refine kd (λw u s=>?_);have nz:((n:Int) != 0)=true:=by have:=K.nz n hx;simp;omega
    go_wp2_with fail;refine bj ?_;exact⟨(n:Int),G,H.h.vp,rfl,Au hs h0.out (.inl ⟨n,hx,rfl,K.nz n hx,rfl⟩),A.up s.pure,Touch.bP s.pure,λ_ h=>.inl h⟩
   ·obtain⟨a2,c2,rfl⟩:=os.cm.slice;obtain⟨da,dc,rfl⟩:=(ak.row od pw).slice;obtain⟨zs,e2,z⟩:=Rz.s os u s.t.size;refine⟨_,_,rfl,z,?_⟩;repeat refine kt ?_
    refine kn (λ_ w u s=>?_);refine kn (λ_ w u s=>?_);refine ks (λw s=>?_);refine ks (λw s=>?_);repeat refine kt ?_
    refine kd (λw u s=>?_);obtain⟨k1,k2,k3⟩:=K.ok nx l' x hx;have TT:=I.tr x k3;go_wp2_with(refine fw s ?_;intro _ w s);have g6:=s.cm (ys:=zs);rw[e2]at g6;refine(BT w gb H G (A.up s.pure) I.hl I.hr nx _ _ l' g6 k1 k2 x da dc _ (λk=>bD G.P.C (a6 (bD G.P.C x.root) k)) TT.F (λk hk=>TT.S hk) (AN G x) rfl).mono ?_;rintro e w7⟨rfl,a7,t7⟩;have s7:=Fr.start w7;go_wp2_with fail;refine me s7 ?_;exact⟨0,_,H.h.vp,rfl,Au hs h0.out (.inr ⟨nx,l',x,hx,rfl,rfl⟩),a7,(Touch.bP s.pure).trans t7 (λ_ h _=>h),λ_ h=>.inl h⟩
  ·rw[show decide (sn=[])=false by simp[h0]]at aa;go_wp2_with(refine fw s ?_;intro _ w s);refine kb s (λw s=>?_);repeat refine kt ?_
   refine kj 3 ?_;refine xJ (λw _ s=>fz w gb H G (A.up s.pure) I.hl I.hr) ?_;rintro w _ s _ w'⟨v,rfl,o1,u⟩;refine F9 ?_;intro ys z e;repeat(first|refine kx ?_|refine kt ?_)
   refine xJ (λw _ s=>uk w G.next _ G.l th I.hl I.hr full hf) ?_;rintro w _ s _ w'(⟨n,nx,va,vm,vc,hx,rfl,u⟩|⟨nx,l',g,v',vg,hx,rfl,ox,od,u⟩)
   ·refine zJ ?_;repeat refine kt ?_
    refine kn (λ_ w u s=>?_);refine ks (λw s=>?_);repeat refine kt ?_
    refine kd (λw u s=>?_);have NZ:=KY.nz n hx;have nd:((n:Int)==131)=false:=by rw[beq_eq_false_iff_ne];omega
    have nz:((n:Int) != 0)=true:=ab
    go_wp2_with fail;refine bj ?_;exact⟨(n:Int),G,H.h.vp,rfl,Av hs h0 (.inl ⟨n,hx,rfl,NZ.1,rfl⟩),A.up s.pure,Touch.bP s.pure,λ_ h=>.inl h⟩
   ·obtain⟨a2,c2,rfl⟩:=ox.cm.slice;obtain⟨da,dc,rfl⟩:=(ak.row od pw).slice;obtain⟨zs,e2,z⟩:=Rz.s ox u s.t.size;refine⟨_,_,rfl,z.sj od s.t.size,?_⟩;repeat refine kt ?_
    refine kn (λ_ w u s=>?_);refine ks (λw s=>?_);repeat refine kt ?_
    refine kd (λw u s=>?_);obtain⟨k1,k2,k3⟩:=KY.ok nx l' g hx;go_wp2_with(refine fw s ?_;intro _ w s);have A6:=A.up s.pure;obtain⟨g6,og⟩:=s.p (jn (os _ (.slice a2 (κ l') c2) zs) (op _ (.slice da (κ g) dc) g)) gG;refine(tC w gb H G A6 _ g (ak.row og pw) (eE A6.pa og) k3).mono ?_;rintro e w7⟨rfl,a7,t7⟩;obtain⟨b7,b8⟩:=az (s.fg (t:=73) (C:=aO nx _) gG) (s.fg (t:=100) gG);replace b7:=(b7.ax t7 (A6.pa.cc b7 av)).range;replace b8:=(b8.ax t7 (A6.pa.cc b8 av)).cell 0;obtain⟨T,g7,s⟩:=cZ ((Touch.bP (F:=λk=>PF H k\/k=gb) s.pure).trans (t7.mono (λ_ h=>.inl h)) (λ_ h _=>h)) (xb A6.pa (show bc w _ _ l' from⟨zs,e2,g6⟩) t7) (Fr.start w7);go_wp2_with(refine fw s ?_;intro _ w s);refine(n' w gb H _ (a7.up s.pure) nx _ l' (g7.up s.pure).cm k1 k2).mono ?_;rintro e w8⟨rfl,a8,t8⟩;have s8:=Fr.start w8;go_wp2_with fail;refine me s8 ?_;exact⟨0,_,H.h.vp,rfl,Av hs h0 (.inr ⟨nx,l',g,hx,rfl,rfl⟩),a8,(T.iZ s.pure).trans (t8.mono (λ_ h=>.inr h)) (λ_ h _=>h),λ_ h=>.inl h⟩
theorem n0.pre{p gb:Nat}{R:Int->ct->Prop}{w0 w w':af}(u:Up w0 w)(h:n0 p gb H G R w e w'):n0 p gb H G R w0 e w':=by obtain⟨r,G2,vp,gb',H',he,hR,hh,hp,T,O⟩:=h;exact⟨r,G2,vp,gb',H',he,hR,hh,hp,(Touch.bP (F:=λk=>cM H.h k\/k=p) u).trans T (λ_ h _=>h),O.mono u.size⟩
structure pU(G:ct):Prop where
 nx:G.next<=10000
 st:G.P.st<=10000
 m:G.P.m<=70000
 tx:G.u.dz<=10000
section
variable {G:ct}
theorem Q3{next:Nat}{eC:List aj}{b:Int}(hn:next<=100000000)(hb:1<=b/\b<=64):(ef next eC b).wf:=by refine⟨by show next<_;omega,by show next<_;omega,by show 0<_;omega,by show 0<_;omega,by show _<=b/\b<=_;omega,gL.1,λp hp=>rG⟩
theorem bm.HQ(I:bm G)(B:pU G)(full:List aj)(N:Int):oI (cU G.next G.l full N):=by
 refine⟨λn h=>xu h,λnx l' h=>?_⟩;obtain⟨eC,hv,hb,hl,hr,rfl,rfl⟩:=oN h;have:=B.nx;refine⟨ae,ab,λx hx=>?_,λx hx=>?_⟩
 ·rcases ih.mp hx with h|rfl
  ·exact I.wf x h
  ·grind [Q3]
 ·rcases ih.mp hx with h|rfl
  ·exact I.hr x h
  ·show 0*24<=_;omega
theorem vO{next nx ay:Nat}{l l':List ao}{full:List aj}(h:e4 next l full ay=.ok (nx,l')):∃eC sn i,dV full=some (eC,sn)/\a1 l eC=some i/\(κ l)<32/\a1 l full=none/\(1<=ay/\ay<=281474976710655/\b0 l (recAt l i).id<ay)/\nx=next+1/\l'=(l++[j5 next (recAt l i) sn ay]).set i (nW next (recAt l i)):=by grind [e4,eC]
theorem rj{next nx:Nat}{l l':List ao}{nj to:List aj}(h:dO next l nj to=.ok (nx,l')):∃vs eC i,dV nj=some vs/\hS to=some eC/\a1 l nj=some i/\(κ l)<32/\a1 l to=none/\nx=next+1/\l'=l++[fh next eC (recAt l i)]:=FO
theorem xV{next nx:Nat}{l l':List ao}{full:List aj}(h:cB next l full=.ok (nx,l')):∃i o,dy l full=.ok i/\aL l (dR l (recAt l i).id).2=some o/\gQ l (recAt l i).id l (mi l (recAt l o))=.ok l'/\nx=next:=uZ
theorem bm.Wl(I:bm G)(B:pU G)(full:List aj)(ay:Nat):oI (e4 G.next G.l full ay):=by
 refine⟨λn h=>Ea h,λnx l' h=>?_⟩;obtain⟨eC,sn,i,hs,hi,hl,hr,aG,rfl,rfl⟩:=vO h;have:=B.nx;have hm:=aI (il hi);obtain⟨w1,w2,w3,w4,w5,w6,w7⟩:=I.wf _ hm;have M:∀x∈(G.l++[j5 G.next (recAt G.l i) sn ay]).set i (nW G.next (recAt G.l i)),x∈G.l\/x=j5 G.next (recAt G.l i) sn ay\/x=nW G.next (recAt G.l i):=λx hx=>aQ
 refine⟨ae,ab,λx hx=>?_,λx hx=>?_⟩
 ·rcases M x hx with h|rfl|rfl
  ·exact I.wf x h
  ·exact⟨F3,w1,w3,by show ay<_;omega,w5,w6,w7⟩
  ·exact⟨w1,w2,F3,w4,w5,w6,λp hp=>rG⟩
 ·rcases M x hx with h|rfl|rfl
  ·exact I.hr x h
  ·exact I.hr (recAt G.l i) hm
  ·show 0*24<=_;omega
theorem bm.MD(I:bm G)(B:pU G)(nj to:List aj):oI (dO G.next G.l nj to):=by
 refine⟨λn h=>Ak h,λnx l' h=>?_⟩;obtain⟨vs,eC,i,hs,hv,hi,hl,hr,rfl,rfl⟩:=rj h;have:=B.nx;obtain⟨w1,w2,w3,w4,w5,w6,w7⟩:=I.wf _ (aI (il hi));refine⟨ae,ab,λx hx=>?_,λx hx=>?_⟩
 ·rcases ih.mp hx with h|rfl
  ·exact I.wf x h
  ·exact⟨F3,F3,w1,by show 0<_;omega,w5,w6,λp hp=>rG⟩
 ·rcases ih.mp hx with h|rfl
  ·exact I.hr x h
  ·show 0*24<=_;omega
theorem BU{l:List ao}{id:Nat}{Q:ao->Prop}(hQ:∀x,Q x->Q (DV x id)):∀(ms:List Nat)(c c':List ao),κ c=κ l->(∀x∈c,Q x)->gQ l id c ms=.ok c'->κ c'=κ l/\∀x∈c',Q x
 | [],c,c',h0,h,e=>by cases e;exact⟨h0,h⟩
 | m::r,c,c',h0,h,e=>by
  unfold gQ at e;split at e
  ·cases e;exact⟨h0,h⟩
  ·rename_i j hj;split at e
   ·cases e
   ·refine BU hQ r _ c' (by rw[Aat];exact h0) (λx hx=>?_) e;have aM:j<κ c:=by rw[h0];exact(cJ hj).1
    rcases uO hx with h1|h1
    ·exact h x h1
    ·rw[h1];exact hQ _ (h _ (aI aM))
theorem bm.Ro(I:bm G)(B:pU G)(full:List aj):oI (cB G.next G.l full):=by
 refine⟨λn h=>vE h,λnx l' h=>?_⟩;obtain⟨i,o,hi,ho,hp,rfl⟩:=xV h;have hid:(recAt G.l i).id<18446744073709551616:=by exact(I.wf _ (aI (l5 hi))).1
 obtain⟨k1,k2⟩:=BU (Q:=λx=>x.wf/\(κ x.dead)*24<=140737488355328) (λx hx=>⟨⟨hx.1.1,hid,hx.1.2.2⟩,hx.2⟩) _ _ _ rfl (λx hx=>⟨I.wf x hx,I.hr x hx⟩) hp;have:=B.nx;exact⟨ae,by rw[k1];exact I.hl,λx hx=>(k2 x hx).1,λx hx=>(k2 x hx).2⟩
theorem bm.ZS(I:bm G)(full:List aj):yD G (gI G.next G.l full):=by
 refine⟨λn h=>Da h,λnx l' x h=>?_⟩;obtain⟨i,j,hi,hj,rfl,rfl,rfl⟩:=z6 h;refine⟨by rw[Aat];exact I.hl,λx hx=>?_,aI (l5 hi)⟩;rcases uO hx with h1|h1
 ·exact I.hr x h1
 ·rw[h1];show 0*24<=_;omega
theorem bm.Qg(I:bm G)(full:List aj):yD G (dU G.next G.l full):=by refine⟨λn h=>uo h,λnx l' x h=>?_⟩;obtain⟨i,hi,hw,rfl,rfl,rfl⟩:=xy h;exact⟨by rw[Fy];have:=I.hl;split<;>omega,λx hx=>I.hr x (Fx hx),aI (l5 hi)⟩
theorem gd.LY{next:Nat}{l:List ao}(F:gd next l){full:List aj}{vs:List aj × List aj}(h:dV full=some vs){i:Nat}(hi:a1 l full=some i):i<κ l/\(recAt l i).aT=true:=by
 refine⟨(il hi),?_⟩;unfold a1 at hi;split at hi
 ·cases hi
 ·rename_i k hk;have hkl:=l4 hk;have ik:i=k:=by obtain⟨j,hj,h1,h2⟩:=ca F.fP (aI hkl);rw[h1]at hi;cases hi;exact F.fP.lG hj hkl h2
  subst ik;unfold dV at h;split at h
  ·rename_i v s hs;split at h
   ·cases h
   ·rename_i ah;unfold dP at hk;rw[hs]at hk;simp only at hk;split at hk
    ·cases hk
    ·rename_i a ha;rw[aY ah]at hk;split at hk
     ·cases hk
     ·rename_i b hb;cases hk;obtain⟨h2,h3⟩:=az ((fi hb).2) (F.JM _ (aI (fi ha).1));cases ag:(recAt l i).aT with
      | true=>rfl
      | false=>grind [cb,recAt]
  ·cases h
theorem gd.aaj{next:Nat}{l:List ao}(F:gd next l){i:Nat}(hi:i<κ l)(hs:(recAt l i).aT=true):∃j,j<κ l/\aL l (iX l (recAt l i).id)=some j/\(recAt l j).prev=(recAt l i).id/\(recAt l j).owner=(recAt l i).owner:=by
 have hm:=aI hi;obtain⟨i',aC,h1,h2⟩:=ca F.fP hm;obtain⟨n,hn,e1,e2,_⟩:=F.Zx _ hm hs;cases hf:(fY l (recAt l i).id).find? (λj=>decide ((recAt l j).owner=(recAt l i').owner))with
 | none=>obtain⟨j,hj,e3⟩:=kL hn;have:=List.find?_eq_none.mp hf j (vn.mpr ⟨hj,aa⟩);simp_all
 | some j=>
  have hj:=vn.mp (List.mem_of_find?_eq_some hf);have ho:(recAt l j).owner=(recAt l i').owner:=aQ
  rw[h2]at ho;rw[OZ h1 aa hf];obtain⟨j',aj,h3,h4⟩:=ca F.fP (aI hj.1);grind
theorem bm.cE(I:bm G)(full:List aj):(∃n,cE G.next G.l full=.error n/\n≠0/\n≠131)\/∃i j all,i<κ G.l/\(recAt G.l i).aT=true/\a1 G.l full=some i/\j<κ G.l/\(recAt G.l j).prev=(recAt G.l i).id/\(recAt G.l j).owner=(recAt G.l i).owner/\(∀z∈G.l,z.prev=(recAt G.l i).id->z=recAt G.l j)/\en (lF (b0 G.l (recAt G.l i).id) (recAt G.l j).dead) (recAt G.l i).dead=some all/\
  _root_.Go.Proofs.YtkpjfnbbkohciaaGreat.cE G.next G.l full=.ok (G.next,(G.l.set j (hq (recAt G.l j) all (recAt G.l i).prev)).eraseIdx i,hQ (b0 G.l (recAt G.l i).id) (recAt G.l j).dead):=by
 have F:=I.hY;cases h0:dV full with
 | none=>exact .inl ⟨141,m' h0,ae,ae⟩
 | some vs=>
  cases h1:a1 G.l full with
  | none=>exact .inl ⟨172,na h0 h1,ae,ae⟩
  | some i=>
   obtain⟨hi,hs⟩:=F.LY h0 h1;by_cases h2:0<κ (eL G.l (recAt G.l i).id)
   ·exact .inl ⟨173,nc h0 h1 h2,ae,ae⟩
   ·obtain⟨j,hj,h3,e1,e2⟩:=F.aaj hi hs;have only:∀z∈G.l,z.prev=(recAt G.l i).id->z=recAt G.l j:=λz hz ez=>by
     by_cases ho:z.owner=(recAt G.l i).owner
     ·obtain⟨n,hn,_,_,h6⟩:=F.Zx _ (aI hi) hs;grind [aI]
     ·exfalso;apply h2;obtain⟨i',aC,p1,p2⟩:=ca F.fP (aI hi);rw[Dk p1 aa,p2];obtain⟨k,hk,ek⟩:=kL hz;unfold eu;rw[Aac];refine List.length_pos_of_mem (a:=k) ?_;rw[wG];exact⟨vn.mpr ⟨hk,aa⟩,aa⟩
    obtain⟨all,hm,ha,_⟩:=I.l9 hi hs hj e1 e2 only;grind [nf]
theorem bm.Ki(I:bm G)(full:List aj):SH (_root_.Go.Proofs.YtkpjfnbbkohciaaGreat.cE G.next G.l full):=by
 rcases I.cE full with⟨n,h,h0,h1⟩|⟨i,j,all,hi,hs,hr,hj,e1,e2,only,hm,h⟩
 ·rw[h];exact⟨λn' e=>aa,λ_ _ _ e=>aa⟩
 ·rw[h];refine⟨λn e=>aa,λnx l' g e=>?_⟩;cases e;obtain⟨ab,aB,ad,P⟩:=I.l9 hi hs hj e1 e2 only;rw[hm]at aB;cases aB;refine⟨P.hl,P.hr,?_⟩;have h1:κ (hQ (b0 G.l (recAt G.l i).id) (recAt G.l j).dead)<=κ (recAt G.l j).dead:=qx _ _;have h2:=I.mZ (aI hj);omega
end
theorem xS(w:af)(p gb:Nat)(H:aR)(G:ct)(A:bL w p gb H G)(I:bm G)(B:pU G)(full:List aj)(hf:κ full<=9223372036854775807)(N:Int):Aae Aag 17 #[pz p,.string (strOf full),i6 N] w (n0 p gb H G (fW G (cU G.next G.l full N) id true) w):=by
 refine U4 ?_;intro u0 u1 w2 hw2 uu k0 k1 HW2;have CL:=an (jy w2 p gb H G (A.up uu) I.hl I.hr jQ 40 #[pz w.heap.size,pz ((w.heap.size+1))] (fW G (cU G.next G.l full N) id true) (λ_ _=>aA) (λW aa ad ab u h1 h2 h3 a=>by
  exact V7 W _ _ G a I.hl I.hr jQ o5 o6 _ _ _ N hf (u.cell k0) (u.cell k1) _ rfl (I.HQ B full N)
  ))
 clear hw2 k0 k1;go_in;exact qF
theorem Rp(w:af)(p gb:Nat)(H:aR)(G:ct)(A:bL w p gb H G)(I:bm G)(B:pU G)(full:List aj)(hf:κ full<=9223372036854775807):Calls prog 66 #[pz p,.string (strOf full)] w (n0 p gb H G (fW G (e4 G.next G.l full G.P.st) (λg:ct=>{g with P:={g.P with st:=g.P.st+1}}) true) w):=by
 refine Gz ?_;intro u0 w2 hw2 uu k0 HW2;have CL:=an (jy w2 p gb H G (A.up uu) I.hl I.hr jQ 126 #[pz w.heap.size] (fW G (e4 G.next G.l full G.P.st) (λg:ct=>{g with P:={g.P with st:=g.P.st+1}}) true) (λ_ _=>aA) (λW aa ad ab u h1 h2 h3 a=>by
  exact aar W _ _ G a I.hl I.hr jQ o5 o6 _ _ hf (u.cell k0) _ rfl (I.Wl B full G.P.st)
  ))
 clear hw2 k0;go_in;exact qF
theorem IV(w:af)(p gb:Nat)(H:aR)(G:ct)(A:bL w p gb H G)(I:bm G)(B:pU G)(full:List aj)(hf:κ full<=9223372036854775807)(to:List aj)(ht:κ to<=9223372036854775807):Aae Aag 67 #[pz p,.string (strOf full),.string (strOf to)] w (n0 p gb H G (fW G (dO G.next G.l full to) id true) w):=by
 obtain⟨u0,u1⟩:=az (ai w (.cells #[.string (strOf full)] 9)) (ai (w.alloc (.cells #[.string (strOf full)] 9)) (.cells #[.string (strOf to)] 9));obtain⟨k0,k1,uu⟩:=cZ (u1.cell ((aF.new w 9 _).cell 0)) ((aF.new (w.alloc (.cells #[.string (strOf full)] 9)) 9 #[.string (strOf to)]).cell 0) ((u0).trans u1);obtain⟨w2,hw2⟩:=bE (((w.alloc (.cells #[.string (strOf full)] 9)).alloc (.cells #[.string (strOf to)] 9)));simp only[aN]at k1;rw[<-hw2]at uu k0 k1;have HW2:=an hw2;have CL:=an (jy w2 p gb H G (A.up uu) I.hl I.hr jQ 128 #[pz w.heap.size,pz ((w.heap.size+1))] (fW G (dO G.next G.l full to) id true) (λ_ _=>aA) (λW aa ad ab u h1 h2 h3 a=>by
  exact Yv W _ _ G a I.hl I.hr jQ o5 o6 _ _ _ _ hf ht (u.cell k0) (u.cell k1) _ rfl (I.MD B full to)
  ))
 clear hw2 k0 k1;go_in;exact qF
theorem GN(w:af)(p gb:Nat)(H:aR)(G:ct)(A:bL w p gb H G)(I:bm G)(B:pU G)(full:List aj)(hf:κ full<=9223372036854775807):Aae Aag 68 #[pz p,.string (strOf full)] w (n0 p gb H G (fW G (cB G.next G.l full) id false) w):=by
 refine Gz ?_;intro u0 w2 hw2 uu k0 HW2;have CL:=an (jy w2 p gb H G (A.up uu) I.hl I.hr jQ 129 #[pz w.heap.size] (fW G (cB G.next G.l full) id false) (λ_ _=>aA) (λW aa ad ab u h1 h2 h3 a=>by
  exact Rm W _ _ G a I.hl I.hr jQ o5 o6 _ _ hf (u.cell k0) _ rfl (I.Ro B full)
  ))
 clear hw2 k0;go_in;exact qF
theorem Rg(w:af)(p gb:Nat)(H:aR)(G:ct)(A:bL w p gb H G)(I:bm G)(B:pU G)(full:List aj)(hf:κ full<=9223372036854775807):Aae Aag 69 #[pz p,.string (strOf full)] w (n0 p gb H G (oG G (gI G.next G.l full)) w):=by
 refine Gz ?_;intro u0 w2 hw2 uu k0 HW2;have CL:=an (jy w2 p gb H G (A.up uu) I.hl I.hr jQ 130 #[pz w.heap.size] (oG G (gI G.next G.l full)) (λ_ _=>aA) (λW aa ad ab u h1 h2 h3 a=>by
  exact aap W _ _ G a I o5 _ _ hf (u.cell k0) _ rfl (I.ZS full)
  ))
 clear hw2 k0;go_in;exact qF
theorem GM(w:af)(p gb:Nat)(H:aR)(G:ct)(A:bL w p gb H G)(I:bm G)(B:pU G)(full:List aj)(hf:κ full<=9223372036854775807):Aae Aag 70 #[pz p,.string (strOf full)] w (n0 p gb H G (fV G full) w):=by
 refine Gz ?_;intro u0 w2 hw2 uu k0 HW2;have CL:=an (jy w2 p gb H G (A.up uu) I.hl I.hr jQ 133 #[pz w.heap.size] (fV G full) (λ_ _=>aA) (λW aa ad ab u h1 h2 h3 a=>by
  exact Ri W _ _ G a I o5 _ _ hf (u.cell k0) _ rfl (I.Qg full) _ rfl (I.Ki full)
  ))
 clear hw2 k0;go_in;exact qF
theorem Rq(w:af)(p gb:Nat)(H:aR)(G:ct)(A:bL w p gb H G)(I:bm G)(B:pU G)(full:List aj)(hf:κ full<=9223372036854775807)(N:Int):Aae Aag 65 #[pz p,.string (strOf full),i6 N] w (n0 p gb H G (lI G full N false ey) w):=by
 refine U4 ?_;intro u0 u1 w2 hw2 uu k0 k1 HW2;have CL:=an (jy w2 p gb H G (A.up uu) I.hl I.hr jQ 124 #[pz w.heap.size,pz ((w.heap.size+1))] (lI G full N false ey) (λ_ _=>aA) (λW aa ad ab u h1 h2 h3 a=>by
  have sz:w2.heap.size=w.heap.size+2:=FL
  exact aat W aa ⟨ad,ab,H.h⟩ G a I o5 o6 (by have:=B.m;omega) _ _ full N hf (u.cell k0) (λh=>by
   rcases h with h|h|h
   ·simp only at h;omega
   ·simp only at h;omega
   ·have:=A.ga.pa.dev.lt _ h;omega) Bn (u.cell k1) (λh=>by
   rcases h with h|h|h
   ·simp only at h;omega
   ·simp only at h;omega
   ·have:=A.ga.pa.dev.lt _ h;omega) Bn
  ))
 clear hw2 k0 k1;go_in;exact qF
theorem xY(w:af)(p gb:Nat)(H:aR)(G:ct)(A:bL w p gb H G)(I:bm G)(B:pU G)(full:List aj)(hf:κ full<=9223372036854775807)(N:Int)(ba:Option Adr)(bc:Nat)(b:List aj)(hb:a8 w (.slice ba (κ b) bc) b)(aW:∀k,(Acr ba (κ b) bc).ownBlock=some k->¬cM H.h k/\k<w.heap.size):Aae Aag 18 #[pz p,.string (strOf full),i6 N,.slice ba (κ b) bc] w (n0 p gb H G (lI G full N (decide (128<κ b)) (jW b)) w):=by
 obtain⟨u0,u1,u2⟩:=cZ (ai w (.cells #[.string (strOf full)] 9)) (ai (w.alloc (.cells #[.string (strOf full)] 9)) (.cells #[i6 N] 3)) (ai ((w.alloc (.cells #[.string (strOf full)] 9)).alloc (.cells #[i6 N] 3)) (.cells #[.slice ba (κ b) bc] 30));obtain⟨k0,k1,k2,uu⟩:=iv (u2.cell (u1.cell ((aF.new w 9 _).cell 0))) (u2.cell ((aF.new _ 3 _).cell 0)) ((aF.new ((w.alloc (.cells #[.string (strOf full)] 9)).alloc (.cells #[i6 N] 3)) 30 #[.slice ba (κ b) bc]).cell 0) (((u0).trans u1).trans u2);obtain⟨w2,hw2⟩:=bE ((((w.alloc (.cells #[.string (strOf full)] 9)).alloc (.cells #[i6 N] 3)).alloc (.cells #[.slice ba (κ b) bc] 30)));simp only[aN]at k1 k2;rw[<-hw2]at uu k0 k1 k2;have HW2:=an hw2;have CL:=an (jy w2 p gb H G (A.up uu) I.hl I.hr jQ 45 #[pz w.heap.size,pz ((w.heap.size+1)),pz ((w.heap.size+1+1))] (lI G full N (decide (128<κ b)) (jW b)) (λ_ _=>aA) (λW aa ad ab u h1 h2 h3 a=>by
  have sz:w2.heap.size=w.heap.size+3:=FL
  exact Yz W aa ⟨ad,ab,H.h⟩ G a I o5 o6 (by have:=B.m;omega) _ _ _ full N hf ba bc b ((hb.up uu).up u) (λk hk h=>by
   have h0:=aW k hk;rcases h with h|h|h
   ·simp only at h;omega
   ·simp only at h;omega
   ·exact h0.1 h) (u.cell k0) (λh=>by
   rcases h with h|h|h
   ·simp only at h;omega
   ·simp only at h;omega
   ·have:=A.ga.pa.dev.lt _ h;omega) Bn (u.cell k1) (λh=>by
   rcases h with h|h|h
   ·simp only at h;omega
   ·simp only at h;omega
   ·have:=A.ga.pa.dev.lt _ h;omega) Bn (u.cell k2) (λh=>by
   rcases h with h|h|h
   ·simp only at h;omega
   ·simp only at h;omega
   ·have:=A.ga.pa.dev.lt _ h;omega) Bn
  ))
 clear hw2 k0 k1 k2;go_in;exact qF
def oE(G:ct)(b:List aj)(G2:ct):Prop:=∃q ps P8,Ms G b P8 q ps/\G2=XJ G P8 q ps
theorem Ae(gb:Nat):prog.built 82 [(0,pz gb)]=some #[pz gb]:=al
theorem Rj(w:af)(h:iM)(C:List cS)(m:Nat)(fl:Bool)(D:DA w h C m fl)(b:List aj)(K:CI (tu C m fl) b):Aae Aag 25 #[.pointer (some ⟨h.d,0,none⟩)] w λe w'=>∃p gb H G2 vp,e=.returned (.tuple #[.pointer (some ⟨p,0,none⟩),.int .i64 0])/\w.heap.size<=p/\bL w' p gb H G2/\H.h={h with vp:=vp}/\(w.heap.size<=H.pb/\w.heap.size<=H.mb)/\oE (tu C m fl) b G2/\Touch (cM h) w w'/\∀b,vp.ownBlock=some b->h.vp.ownBlock=some b\/w.heap.size<=b:=by
 obtain⟨FO,BP⟩:=aw (H7 w h C m fl D b K) Ae;clear D K;go_in;go_wp2_with fail;refine FO.mono ?_;rintro e w2⟨gb,pb,mb,w1,h1,h2,h3,u1,rfl,he,q,ps,P8,vp,sv,ga,T,O⟩;obtain⟨ab,ae⟩:=aw (BP gb) ga;have u3:=ai w2 (.cells #[.pointer (some ⟨gb,0,none⟩)] 82);obtain⟨aa,B3⟩:=aw (ga.up u3) (aF.new w2 82 #[.pointer (some ⟨gb,0,none⟩)]);have T2:=an ((Touch.bP (F:=cM h) u1).trans T (λn hn hlt=>by
  rcases hn with(hn|hn|hn)|hn
  ·simp only at hn;omega
  ·simp only at hn;omega
  ·exact hn
  ·omega))
 obtain⟨T3,O3,SV,S2,ad⟩:=eW (T2.iZ u3) (show ∀b,vp.ownBlock=some b->h.vp.ownBlock=some b\/w.heap.size<=b from λb hb=>(O b hb).imp id (λh=>bK u1.size h)) sv T2.size (Adc h2 h3);clear he sv ga T O u3 u1 h1 h2 h3 FO;go_wp2_with(first
  | ((with_reducible refine eP 82 #[(0,.tmp 14)] ?_);refine k6 rfl 82 0 (.tmp 14) rfl _ rfl #[.pointer (some ⟨gb,0,none⟩)] ab ?_)
  | refine hs 82 15 #[.pointer (some ⟨gb,0,none⟩)] ?_)
 go_ret2;exact⟨w2.heap.size,gb,⟨pb,mb,{h with vp:=vp}⟩,_,vp,rfl,S2,⟨B3,aa⟩,rfl,ad,⟨q,ps,P8,SV,rfl⟩,T3,O3⟩
theorem MB(I:bm G)(B:pU G):∃b,CI G b/\(κ b)=cO G.l/\fu G<=bN G.P.s:=by
 obtain⟨s1,s2⟩:=I.shape;have hf:=I.ft;unfold e0 at hf;rw[decide_eq_true_eq]at hf;have hc:fu G=e8 (cO G.l) (κ G.P.C):=jt s1 s2 I.ln;have hb:=qQ.mpr ⟨s1,s2,rfl⟩;have hl:=kU G.next G.l
 refine⟨_,⟨o5,I.wf,hb,by grind [x4],I.ln,⟨by have:=I.sb;omega,o6⟩,by have:=B.m;omega,λi hi h0=>?_,?_,jQ,by have:=B.tx;omega⟩,hl,hf.2.1⟩
 ·have:=mt (I.s0 i).mpr h0;omega
 ·grind [p3]
theorem D0(w:af)(p gb:Nat)(H:aR)(G:ct)(A:bL w p gb H G)(I:bm G)(B:pU G):Aae Aag 16 #[.pointer (some ⟨p,0,none⟩)] w λe w'=>∃b G2 gb' H' vp,e=.returned (.int .i64 0)/\(κ b)=cO G.l/\CI G b/\oE G b G2/\H'.h={H.h with vp:=vp}/\bL w' p gb' H' G2/\Touch (λk=>cM H.h k\/k=p) w w'/\n2 H H' w.heap.size vp:=by
 obtain⟨b,K,hb,hc⟩:=MB I B;obtain⟨ae,HBL,PD,CP⟩:=bW K hb (wY w p gb H G A) (Dz w gb H G A.ga I.hl I.hr jQ);refine Gx ?_;intro c0;obtain⟨HA,SY⟩:=aw A (λW aa H1 (a:GA W aa H1 G)=>Qv W aa H1 G a b K hc);clear A I B K hb hc;go_in;go_wp2_with fail;refine zv ?_;intro wx;go_wp2_with fail;refine CP.mono ?_;rintro e w1⟨gb',pb,mb,rfl,h1,h2,h3,a1,u1⟩;obtain⟨A1,U1,H1,H2,H3,ab⟩:=ix a1 u1 h1 h2 h3 (HA.fg.up u1);clear h1 h2 h3 a1 u1 CP PD c0;go_wp2_with fail;refine(SY _ _ _ A1).mono ?_;rintro e w2⟨rfl,q,ps,P8,vp,sv,ga,T,O⟩;have HD:=HA.ga.pa;refine OQ ?_;intro NF;have BP:=an (ab.ax T (NF p HA.fg.lt (HD.dev.jV HA.fg av av av)));have T2:=an ((Touch.bP (F:=λk=>cM H.h k\/k=p) U1).trans T (λn hn hlt=>by
  by_cases hf:cM H.h n
  ·exact .inl hf
  ·exact absurd hn (NF n hlt hf)))
 have ad:=an U1.size;obtain⟨O2,A2,SV⟩:=aV (show ∀b,vp.ownBlock=some b->H.h.vp.ownBlock=some b\/w.heap.size<=b from λb hb=>(O b hb).imp id (λh=>bK ad h)) ga sv;refine NH ?_;intro cp BQ GQ fp;clear ga T O sv SY HD NF;go_wp2_with fail;have TQ:=Touch.bg (F:=(·=p)) GQ (λk hk=>nR);have AQ:=A2.other BP av av av av TQ;go_ret;exact⟨b,_,gb',⟨pb,mb,{H.h with vp:=vp}⟩,vp,rfl,HBL,ae,⟨q,ps,P8,SV,rfl⟩,rfl,⟨BQ,AQ⟩,T2.trans (TQ.mono (F':=λk=>cM H.h k\/k=p) (λ_ h=>.inr h)) (λ_ h _=>h),n2.of rfl O2 (.inr H2) (.inr H3)⟩
abbrev iT(l:List ao):List ao:=l.map cp
section
variable {l:List ao} {full nj to:List aj} {next st:Nat} {N:Int}
theorem lY:κ (iT l)=κ l:=aq
theorem oT{p:ao->Bool}(hp:∀x,p (cp x)=p x):ed p (iT l)=ed p l:=by unfold ed iT;rw[List.findIdx?_map];congr 1;grind
theorem a'(i:Nat):recAt (iT l) i=cp (recAt l i):=by unfold recAt iT;rw[s',s',List.getElem?_map];cases l[i]?<;>rfl
theorem dF(id:Nat):aL (iT l) id=aL l id:=oT (λ_=>rfl)
theorem BS(c:jE):eg (iT l) c=eg l c:=oT (λ_=>rfl)
theorem YX(x:ao):(cp x).id=x.id:=rfl
theorem ss2(x:ao):(cp x).name=x.name:=rfl
theorem ss3(x:ao):(cp x).aT=x.aT:=rfl
theorem ss4(x:ao):(cp x).owner=x.owner:=rfl
theorem ss5(x:ao):(cp x).prev=x.prev:=rfl
theorem ss6(x:ao):(cp x).ay=x.ay:=rfl
theorem ss7(x:ao):(cp x).blocks=x.blocks:=rfl
theorem xF(id:Nat):fY (iT l) id=fY l id:=by simp[fY,jg,lY,a',ss5]
theorem EJ(id:Nat):b0 (iT l) id=b0 l id:=by simp[b0,dF,a',ss5,ss6]
theorem xE(id:Nat):ec (iT l) id=ec l id:=by unfold ec;simp[dF,a',ss2,ss3,ss4]
theorem pf:dP (iT l) full=dP l full:=by simp[dP,BS,a',YX]
theorem yn(id:Nat):∀(n:Nat)(c:List Nat)(p:Nat),gZ (iT l) id n c p=gZ l id n c p
 | 0,_,_=>rfl
 | n+1,c,p=>by unfold gZ;simp only[dF,a',ss4,ss5,yn id n]
theorem pJ(id:Nat):dR (iT l) id=dR l id:=by unfold dR;simp[dF,a',ss3,ss5,yn]
theorem xO(id:Nat):iX (iT l) id=iX l id:=by unfold iX;simp only[dF,a',YX,ss3,ss4,xF]
theorem so(id:Nat):eL (iT l) id=eL l id:=by unfold eL eu;simp only[dF,a',YX,ss3,ss4,xF]
theorem hi:a1 (iT l) full=a1 l full:=by simp[a1,pf,dF,a',YX]
theorem pG:dy (iT l) full=dy l full:=by simp[dy,hi]
theorem p9:e9 (iT l) full N=e9 l full N:=by simp[e9,pf,a',ss7]
theorem Cw:iU (iT l) full N=iU l full N:=by simp[iU,p9]
theorem zP(i:Nat)(x:ao):iT (l.set i x)=(iT l).set i (cp x):=aq
theorem w7:∀(l:List ao)(i:Nat),iT (l.eraseIdx i)=(iT l).eraseIdx i
 | [],_=>rfl
 | _::_,0=>rfl
 | x::l,i+1=>cn (cp x::·) (w7 l i)
theorem Cm(x:ao):iT (l++[x])=iT l++[cp x]:=aq
def SC(r:Except Nat (Nat × List ao)):Except Nat (Nat × List ao):=r.map (λp=>(p.1,iT p.2))
def Ws(r:Except Nat (Nat × List ao × ao)):Except Nat (Nat × List ao × ao):=r.map (λp=>(p.1,iT p.2.1,cp p.2.2))
theorem sr:cU next (iT l) full N=SC (cU next l full N):=by
 unfold cU;simp only[lY,hi];cases hS full with
 | none=>rfl
 | some eC=>
  simp only;split
  ·rfl
  ·split
   ·rfl
   ·cases a1 l full with
    | some _=>rfl
    | none=>simp only[SC,Ac1,Cm];rfl
theorem x':e4 next (iT l) full st=SC (e4 next l full st):=by
 unfold e4;simp only[lY,hi,EJ,a',YX];cases dV full with
 | none=>rfl
 | some vs=>
  obtain⟨eC,sn⟩:=vs;simp only;cases a1 l eC with
  | none=>rfl
  | some i=>
   simp only;split
   ·rfl
   ·cases a1 l full with
    | some _=>rfl
    | none=>
     simp only;split
     ·rfl
     ·simp only[SC,Ac1,zP,Cm];rfl
theorem t':dO next (iT l) nj to=SC (dO next l nj to):=by
 unfold dO;simp only[lY,hi,a'];cases dV nj with
 | none=>rfl
 | some vs=>
  simp only;cases hS to with
  | none=>rfl
  | some eC=>
   simp only;cases a1 l nj with
   | none=>rfl
   | some i=>
    simp only;split
    ·rfl
    ·cases a1 l to with
     | some _=>rfl
     | none=>simp only[SC,Ac1,Cm];rfl
theorem HL(id:Nat)(nm:List aj):ed (eI id nm) (iT l)=ed (eI id nm) l:=oT (λ_=>rfl)
theorem vD(id:Nat):∀(ms:List Nat)(c:List ao),gQ (iT l) id (iT c) ms=(gQ l id c ms).map iT
 | [],c=>rfl
 | m::r,c=>by
  unfold gQ;simp only[dF,a',ss2,HL];cases aL l m with
  | none=>rfl
  | some j=>
   simp only;split
   ·rfl
   ·rw[<-vD id r,zP];rfl
theorem GC(y:ao):mi (iT l) (cp y)=mi l y:=by simp[mi,pJ,YX,ss4]
theorem BW:cB next (iT l) full=SC (cB next l full):=by
 unfold cB;simp only[pG,a',YX,dF,pJ,GC,vD];cases dy l full with
 | error n=>rfl
 | ok i=>
  simp only;cases aL l (dR l (recAt l i).id).2 with
  | none=>rfl
  | some o=>
   simp only;cases gQ l (recAt l i).id l (mi l (recAt l o))with
   | error n=>rfl
   | ok c=>rfl
theorem HB:gI next (iT l) full=Ws (gI next l full):=by
 unfold gI;simp only[pG,a',ss5,dF];cases dy l full with
 | error n=>rfl
 | ok i=>
  simp only;cases aL l (recAt l i).prev with
  | none=>rfl
  | some j=>simp only[Ws,Ac1,zP];rfl
theorem Ay:dU next (iT l) full=Ws (dU next l full):=by
 unfold dU;simp only[pG,a',YX,pJ];cases dy l full with
 | error n=>rfl
 | ok i=>
  simp only;split
  ·rfl
  ·simp only[Ws,Ac1,w7]
theorem ys(h:cE next l full≠.error 131):(cE next (iT l) full).map (λr=>(r.1,r.2.1))=SC ((cE next l full).map (λr=>(r.1,r.2.1))):=by
 cases hs:dV full with
 | none=>rw[m' hs,m' hs];rfl
 | some vs=>
  cases hr:a1 l full with
  | none=>rw[na hs (by grind [hi]),na hs hr];rfl
  | some i=>
   have ay:a1 (iT l) full=some i:=by grind [hi]
   by_cases hc:0<κ (eL l (recAt l i).id)
   ·rw[nc hs ay (by rw[a',so];exact hc),nc hs hr hc];rfl
   ·have aa:¬0<κ (eL (iT l) (recAt (iT l) i).id):=by rw[a',so];exact hc
    cases hp:aL l (iX l (recAt l i).id)with
    | none=>rw[p5 hs ay aa (by rw[a',xO,dF];exact hp),p5 hs hr hc hp];rfl
    | some j=>
     cases hm:en (lF (b0 l (recAt l i).id) (recAt l j).dead) (recAt l i).dead with
     | none=>grind [xw]
     | some all=>
      by_cases h4:4000<κ all
      ·grind [xx]
      ·have aB:en (lF (b0 (iT l) (recAt (iT l) i).id) (recAt (iT l) j).dead) (recAt (iT l) i).dead=some []:=by rw[a',a'];exact rO []
       rw[nf hs ay aa (by rw[a',xO,dF];exact hp) aB aq,nf hs hr hc hp hm h4];simp only[SC,Ac1,w7,zP,a'];rfl
end
section
variable {next:Nat} {l:List ao}
structure WI(l:List ao)(V:ao)(c:List Nat)(p:Nat)(z:ao):Prop where
 mem:∀m∈c,∃y∈l,y.id=m/\y.aT=true/\y.owner=V.id
 pw:c.Pairwise (λa b=>tU l b<tU l a)
 zl:z∈l/\z.prev=p/\z.owner=V.id
 nx:∀x∈l,(x=V\/x.id∈c)->x.prev∈c\/x=z
 lw:∀y∈l,y.id=p->y.aT=true/\∀m∈c,y.ay<tU l m
 la:∀h:0<κ c,z.id=c[κ c-1]
 lk:∀j(h:j+1<κ c),∀x∈l,x.id=c[j]->x.prev=c[j+1]
theorem WI.start(F:gd next l){V:ao}(hV:V∈l)(h0:V.aT=false):WI l V [] V.prev V:=by refine⟨aq,Abz,⟨hV,rfl,F.own hV h0⟩,λx _ h=>.inr (h.elim id (λh=>aa)),λy hy e=>⟨(F.eM hV hy e).1,aq⟩,λh=>absurd h aq,λj h=>absurd h aq⟩
theorem WI.step(F:gd next l){V:ao}{c:List Nat}{p:Nat}{z y:ao}(W:WI l V c p z)(hy:y∈l)(e:y.id=p)(o:y.owner=V.id):WI l V (c++[p]) y.prev y:=by
 have sy:=Cn F.fP hy;rw[e]at sy;refine⟨?_,?_,⟨hy,rfl,o⟩,?_,?_,?_,?_⟩
 ·intro m hm;rcases List.mem_append.mp hm with h|h
  ·exact W.mem m h
  ·obtain rfl:m=p:=by simp_all
   exact⟨y,hy,e,(W.lw y hy e).1,o⟩
 ·refine List.pairwise_append.mpr ⟨W.pw,yQ _ _,λa ha b hb=>?_⟩;obtain rfl:b=p:=by simp_all
  rw[sy];exact(W.lw y hy e).2 a ha
 ·intro x hx h;by_cases af:x=y
  ·simp_all
  ·have h':x=V\/x.id∈c:=h.imp id (λh=>by
    rcases List.mem_append.mp h with h|h
    ·exact h
    ·exact absurd (F.fP.inj hx hy aa) af)
   rcases W.nx x hx h' with h2|h2
   ·simp_all
   ·exact .inl (oX _ (by rw[h2,W.zl.2.1];simp))
 ·intro u hu eu;have ps:=F.eM hy hu eu;refine⟨ps.1,λm hm=>?_⟩;have lt:=ps.2 (W.lw y hy e).1;rcases List.mem_append.mp hm with h|h
  ·have:=(W.lw y hy e).2 m h;omega
  ·simp_all
 ·simp;omega
 ·intro j h x hx ex;simp only[Aaf,Aaj,Aa4]at h;by_cases hj:j+1<κ c
  ·rw[wH ae]at ex ⊢;exact W.lk j hj x hx ex
  ·have hj:j+1=κ c:=by omega
   rw[wH ae]at ex;have hz:x=z:=F.fP.inj hx W.zl.1 (by rw[ex,W.la ae];congr 1;omega)
   rw[hz,W.zl.2.1,Ff ae];simp
theorem Jz(F:gd next l){V:ao}(hV:V∈l)(h0:V.aT=false):∀(n:Nat)(c:List Nat)(p:Nat)(z:ao),WI l V c p z->κ c+n=32->∃z',WI l V (gZ l V.id n c p).1 (gZ l V.id n c p).2 z'/\∀y∈l,y.id=(gZ l V.id n c p).2->y.owner≠V.id
 | 0,c,p,z,W,hl=>by
  exfalso;have nd:(V.id::c).Nodup:=by refine List.nodup_cons.mpr ⟨λh=>?_,W.pw.imp (λh=>by rintro rfl;exact uL _ h)⟩;obtain⟨y,hy,e,s,_⟩:=W.mem _ h;rw[F.fP.inj hy hV e,h0]at s;cases s
  have:=eR (V.id::c) (l.map (·.id)) nd (λm hm=>by
   rcases List.mem_cons.mp hm with rfl|h
   ·exact List.mem_map.mpr ⟨V,hV,rfl⟩
   ·obtain⟨y,hy,e,_⟩:=W.mem m h;exact List.mem_map.mpr ⟨y,hy,e⟩)
  have:=F.len;simp only[Aaj,Aac]at *;omega
 | n+1,c,p,z,W,hl=>by
  by_cases hp:p=0
  ·subst hp;rw[pI];exact⟨z,W,λy hy e=>by have:=F.JM y hy;simp only at e;omega⟩
  ·cases hq:aL l p with
   | none=>rw[pH hp hq];exact⟨z,W,λy hy e=>absurd e (xT.mp hq y hy)⟩
   | some i=>
    have hg:=cJ hq;have hm:=aI hg.1;by_cases ho:(recAt l i).owner=V.id
    ·rw[oy hp hq ho];exact Jz F hV h0 n _ _ _ (W.step F hm hg.2 ho) (by simp only[Aaf,Aaj,Aa4];omega)
    ·rw[nI hp hq ho];exact⟨z,W,λy hy e=>by rw[F.fP.inj hy hm (by rw[hg.2];exact e)];exact ho⟩
theorem gd.way(F:gd next l){V:ao}(hV:V∈l)(h0:V.aT=false):∃z,WI l V (dR l V.id).1 (dR l V.id).2 z/\(∀y∈l,y.id=(dR l V.id).2->y.owner≠V.id)/\∀x∈l,x.aT=true->x.owner=V.id->x.id∈(dR l V.id).1:=by
 obtain⟨i,hi,h1,h2⟩:=ca F.fP hV;rw[q7 h1 aa,h2];obtain⟨z,W,hn⟩:=Jz F hV h0 32 [] V.prev V (WI.start F hV h0) rfl;refine⟨z,W,hn,?_⟩;generalize(gZ l V.id 32 [] V.prev).1=c at *;generalize(gZ l V.id 32 [] V.prev).2=p at *;have key:∀k:Nat,∀x∈l,x.aT=true->x.owner=V.id->281474976710655-x.ay<=k->x.id∈c:=by
  intro k;induction k with
  | zero=>
   intro x hx hs ho hk;obtain⟨n,aL,al,aP,_⟩:=F.Zx x hx hs;obtain⟨hr,lt⟩:=az ((br n).mp (F.rt n aL)) ((F.eM aL hx al.symm).2);by_cases aj:n.aT=true
   ·grind
   ·have aj:n.aT=false:=by simp_all
    have:n=V:=F.fP.inj aL hV aa;subst this;rcases W.nx n aL (.inl rfl)with h|h
    ·simp_all
    ·exact absurd ho (hn x hx (by rw[<-al,h,W.zl.2.1]))
  | succ k ih=>
   intro x hx hs ho hk;obtain⟨n,aL,al,aP,_⟩:=F.Zx x hx hs;obtain⟨hr,lt⟩:=az ((br n).mp (F.rt n aL)) ((F.eM aL hx al.symm).2);have fin:n=V\/n.id∈c:=by
    by_cases aj:n.aT=true
    ·grind
    ·have aj:n.aT=false:=by simp_all
     exact .inl (F.fP.inj aL hV aQ)
   rcases W.nx n aL fin with h|h
   ·grind
   ·exact absurd ho (hn x hx (by rw[<-al,h,W.zl.2.1]))
 exact λx hx hs ho=>key _ x hx hs ho (aE _)
def eH(ms:List Nat)(id:Nat)(x:ao):ao:=if x.id∈ms then DV x id else x
theorem DZ(S:pW l)(id:Nat):∀(ms:List Nat)(c c':List ao),gQ l id c ms=.ok c'->κ c=κ l->(∀m∈ms,∃j,aL l m=some j)->κ c'=κ l/\(∀j,j<κ l->recAt c' j=if(recAt l j).id∈ms then DV (recAt c j) id else recAt c j)/\∀m∈ms,∀j,aL l m=some j->ed (eI id (recAt l j).name) l=none
 | [],c,c',h,hc,_=>by cases h;exact⟨hc,λj _=>aq,aq⟩
 | m::r,c,c',h,hc,hm=>by
  obtain⟨j,hj⟩:=hm m aq;have hg:=cJ hj;cases hx:(ed (eI id (recAt l j).name) l).isSome with
  | true=>rw[IY hj hx]at h;cases h
  | false=>
   rw[IZ hj hx]at h;obtain⟨a,b,d⟩:=DZ S id r _ c' h (by rw[Aat];exact hc) (λm h=>hm m (bt _ h));refine⟨a,λk hk=>?_,λm' aB k hk=>?_⟩
   ·rw[b k hk,r' ae];by_cases aa:k=j
    ·subst aa;rw[bI rfl,bI (show(recAt l k).id∈m::r from by rw[hg.2];simp)];split<;>rfl
    ·rw[aY aa];have:(recAt l k).id≠m:=λe=>aa (S.lG hk hg.1 (S.inj (aI hk) (aI hg.1) (by rw[e,hg.2])));simp only[Aam,this,false_or]
   ·rcases List.mem_cons.mp aB with rfl|h2
    ·rw[hj]at hk;cases hk;simpa using hx
    ·exact d m' h2 k hk
theorem LA(S:pW l){id:Nat}{ms:List Nat}{c':List ao}(h:gQ l id l ms=.ok c')(hm:∀m∈ms,∃j,aL l m=some j):c'=l.map (eH ms id)/\∀x∈l,x.id∈ms->∀z∈l,z.aT=true->z.owner=id->z.name≠x.name:=by
 obtain⟨a,b,d⟩:=DZ S id ms l c' h rfl hm;refine⟨?_,λx hx hi z hz zs zo zn=>?_⟩
 ·refine Bg ab (λk h1 h2=>?_);have hk:k<κ l:=by omega
  rw[List.getElem_map,gi h1,gi hk,b k hk];rfl
 ·obtain⟨j,hj,h1,h2⟩:=ca S hx;have:=d x.id hi j h1;rw[h2]at this;have:=oS.mp this z hz;grind [eI]
theorem gd.GO(F:gd next l){v o V z0:ao}(hv:v∈l)(v0:v.aT=false)(ho:o∈l)(os:o.aT=true)(hV:V∈l)(V0:V.aT=false)(oV:o.owner=V.id)(ov:o.owner≠v.id){ms:List Nat}(P:∀x∈l,x.id∈ms↔x.aT=true/\x.owner=V.id/\x.ay<=o.ay)(cl:∀x∈l,x.id∈ms->∀z∈l,z.aT=true->z.owner=v.id->z.name≠x.name)(b0:z0∈l/\z0.prev=o.id/\z0.owner=v.id)(bn:∀x∈l,x.owner=v.id->x=z0\/∃y∈l,y.id=x.prev/\y.owner=v.id)(bs:∀x∈l,x.aT=true->x.owner=v.id->o.ay<x.ay)(up:∀x∈l,x.id∈ms->x≠o->∃n∈l,n.prev=x.id/\n.owner=V.id/\n.id∈ms):gd next (l.map (eH ms v.id)):=by
 refine zF ?_;intro J PS;have i0:=F.JM;have g1:∀x,(eH ms v.id x).id=x.id/\(eH ms v.id x).prev=x.prev/\(eH ms v.id x).aT=x.aT/\(eH ms v.id x).ay=x.ay/\(eH ms v.id x).dead=x.dead/\(eH ms v.id x).name=x.name/\(eH ms v.id x).blocks=x.blocks/\(eH ms v.id x).root=x.root:=λx=>Ue
 have gy:∀x,x.id∈ms->(eH ms v.id x).owner=v.id:=λx h=>by unfold eH;rw[bI h];rfl
 have gn:∀x,x.id ∉ ms->eH ms v.id x=x:=λx h=>by unfold eH;rw[aY h]
 have nv:∀x∈l,x.aT=false->x.id ∉ ms:=λx hx h h2=>by rw[((P x hx).mp h2).1]at h;cases h
 have mm:∀y,y∈l.map (eH ms v.id)↔∃x∈l,y=eH ms v.id x:=λy=>by rw[Abd];exact⟨λ⟨x,a,b⟩=>⟨x,a,b.symm⟩,λ⟨x,a,b⟩=>⟨x,a,b.symm⟩⟩
 refine⟨F.nx,by rw[Aac];exact F.len,?_,?_,?_,?_,?_,?_,?_,?_⟩
 ·intro y hy;obtain⟨x,hx,rfl⟩:=(mm y).mp hy;by_cases h:x.id∈ms
  ·obtain⟨r,rv⟩:=az ((br x).mp (F.rt x hx)) ((br v).mp (F.rt v hv));grind [br]
  ·rw[gn x h];exact F.rt x hx
 ·refine G'.mpr ?_;rw[qu,show((λx:ao=>x.id) ∘ eH ms v.id)=(λx=>x.id)from funext (λx=>(g1 x).1)];exact G'.mp F.fP
 ·intro y hy;obtain⟨x,hx,rfl⟩:=(mm y).mp hy;rw[(g1 x).1];exact F.KC x hx
 ·intro y hy u hu e;obtain⟨x,hx,rfl⟩:=(mm y).mp hy;obtain⟨z,hz,rfl⟩:=(mm u).mp hu;have cy:∀x∈l,x.id∈ms->cb (eH ms v.id x)=⟨v.id,x.name⟩:=λx hx h=>by grind [cb]
  have no:∀x∈l,x.id∈ms->∀z∈l,cb z≠⟨v.id,x.name⟩:=λx hx h z hz e=>by
   unfold cb at e;split at e
   ·grind
   ·grind
  by_cases h1:x.id∈ms<;>by_cases h2:z.id∈ms
  ·rw[cy x hx h1,cy z hz h2]at e;simp only[jE.mk.injEq,true_and]at e;obtain⟨p1,p2⟩:=az ((P x hx).mp h1) ((P z hz).mp h2);have:x=z:=F.nm x hx z hz uW;rw[this]
  ·grind
  ·grind
  ·rw[gn x h1,gn z h2]at e ⊢;exact F.nm x hx z hz e
 ·intro y hy h;obtain⟨x,hx,rfl⟩:=(mm y).mp hy;rw[(g1 x).2.1]at h;rw[(g1 x).2.2.2.2.1];exact F.pz x hx h
 ·intro y hy h;obtain⟨x,hx,rfl⟩:=(mm y).mp hy;rw[(g1 x).2.1]at h;obtain⟨u,hu,e,a,b,c⟩:=F.pv x hx h;refine⟨_,(mm _).mpr ⟨u,hu,rfl⟩,?_⟩;rw[(g1 u).1,(g1 x).2.1,(g1 u).2.2.1,(g1 x).2.2.1,(g1 u).2.2.2.1,(g1 x).2.2.2.1,(g1 x).2.2.2.2.1];grind
 ·intro y hy h;obtain⟨x,hx,rfl⟩:=(mm y).mp hy;by_cases h1:x.id∈ms
  ·exact⟨v,(mm v).mpr ⟨v,hv,(gn v (nv v hv v0)).symm⟩,(gy x h1).symm,v0⟩
  ·rw[gn x h1]at h ⊢;obtain⟨u,hu,e,s⟩:=F.ov x hx h;exact⟨u,(mm u).mpr ⟨u,hu,(gn u (nv u hu s)).symm⟩,e,s⟩
 ·intro y hy h;obtain⟨x,hx,rfl⟩:=(mm y).mp hy;rw[(g1 x).2.2.1]at h;rw[(g1 x).1];by_cases h1:x.id∈ms
  ·rw[gy x h1];have px:=(P x hx).mp h1;by_cases ab:x=o
   ·subst ab;have nz:z0.id ∉ ms:=λh=>ov aQ;refine⟨z0,(mm z0).mpr ⟨z0,b0.1,(gn z0 nz).symm⟩,b0.2.1,b0.2.2,λm' aB e1 e2=>?_⟩;obtain⟨m,hm,rfl⟩:=(mm m').mp aB;rw[(g1 m).2.1]at e1;by_cases h2:m.id∈ms
    ·grind
    ·rw[gn m h2]at e2 ⊢;rcases bn m hm e2 with h3|⟨u,hu,eu,ou⟩
     ·exact h3
     ·grind
   ·obtain⟨n,hn,n1,n2,n3⟩:=up x hx h1 ab;refine⟨_,(mm _).mpr ⟨n,hn,rfl⟩,aQ,gy n n3,λm' aB e1 e2=>?_⟩;obtain⟨m,hm,rfl⟩:=(mm m').mp aB;rw[(g1 m).2.1]at e1;obtain⟨n',ag,_,_,un⟩:=F.Zx x hx h;by_cases h2:m.id∈ms
    ·have pm:=(P m hm).mp h2;rw[un m hm e1 ae,un n hn n1 ae]
    ·rw[gn m h2]at e2;rcases bn m hm e2 with h3|⟨u,hu,eu,ou⟩
     ·grind
     ·grind
  ·rw[gn x h1];obtain⟨n,hn,n1,n2,un⟩:=F.Zx x hx h;have nn:n.id ∉ ms:=λh2=>by grind
   refine⟨n,(mm n).mpr ⟨n,hn,(gn n nn).symm⟩,n1,n2,λm' aB e1 e2=>?_⟩;obtain⟨m,hm,rfl⟩:=(mm m').mp aB;rw[(g1 m).2.1]at e1;by_cases h2:m.id∈ms
   ·grind
   ·grind
theorem gd.cB(F:gd next l){full:List aj}{nx:Nat}{l':List ao}(h:_root_.Go.Proofs.YtkpjfnbbkohciaaGreat.cB next l full=.ok (nx,l'))(hs:∀i,dy l full=.ok i->(recAt l i).aT=false):nx=next/\∃ms id,l'=l.map (eH ms id)/\gd next l':=by
 obtain⟨i,oi,hi,ho,hp,rfl⟩:=xV h;obtain⟨vm,v0⟩:=az (aI (l5 hi)) (hs i hi);obtain⟨z0,W,no,al⟩:=F.way vm v0;have og:=cJ ho;have om:=aI og.1;obtain⟨os,ol⟩:=W.lw _ om og.2;have ov:=no _ om og.2;obtain⟨V,hV,eV,V0⟩:=F.ov _ om os;obtain⟨zv,WV,nV,aV⟩:=F.way hV V0;have hk:∃k,∃hk:k<κ (dR l V.id).1,(dR l V.id).1[k]=(recAt l oi).id/\mi l (recAt l oi)=(dR l V.id).1.drop k:=by
  unfold mi;rw[<-eV];cases hx:pV (dR l V.id).1 (recAt l oi).id with
  | none=>grind [pV]
  | some k=>unfold pV at hx;obtain⟨hk,h1,_⟩:=List.findIdx?_eq_some_iff_getElem.mp hx;grind
 obtain⟨k,hk,ck,a7⟩:=hk;rw[a7]at hp;obtain⟨e,cl⟩:=LA F.fP hp (λm hm=>by obtain⟨y,hy,e,_⟩:=WV.mem m (tg hm);obtain⟨j,_,hj,_⟩:=ca F.fP hy;exact⟨j,aa⟩)
 refine⟨rfl,_,_,e,?_⟩;rw[e];have st:∀x∈l,tU l x.id=x.ay:=λx hx=>Cn F.fP hx;have ix:∀a b(ha:a<κ (dR l V.id).1)(hb:b<κ (dR l V.id).1),a<b->tU l (dR l V.id).1[b]<tU l (dR l V.id).1[a]:=λa b ha hb ar=>List.pairwise_iff_getElem.mp WV.pw a b ha hb ar;have P:∀x∈l,x.id∈(dR l V.id).1.drop k↔x.aT=true/\x.owner=V.id/\x.ay<=(recAt l oi).ay:=λx hx=>by
  constructor
  ·intro h;obtain⟨y,hy,e,s,o⟩:=WV.mem _ (tg h);have:=F.fP.inj hy hx e;subst this;refine⟨s,o,?_⟩;obtain⟨j,hj,ej⟩:=List.mem_drop_iff_getElem.mp h;rcases Nat.eq_zero_or_pos j with h0|h0
   ·subst h0;grind
   ·grind
  ·rintro⟨s,o,hle⟩;obtain⟨j,hj,ej⟩:=jP (aV x hx s o);rcases jO j k with h|h
   ·grind
   ·exact List.mem_drop_iff_getElem.mpr ⟨j-k,ae,aa⟩
 refine F.GO vm v0 om os hV V0 eV.symm ov P cl ⟨W.zl.1,by rw[W.zl.2.1,og.2],W.zl.2.2⟩ (λx hx ab=>?_) (λx hx hs ho=>?_) (λx hx hm ab=>?_)
 ·have:x=recAt l i\/x.id∈(dR l (recAt l i).id).1:=by
   by_cases ag:x.aT=true
   ·simp_all
   ·have ag:x.aT=false:=by simp_all
    exact .inl (F.fP.inj hx vm (by rw[<-F.own hx ag,ab]))
  rcases W.nx x hx this with h|h
  ·obtain⟨y,hy,e,_,o⟩:=W.mem _ h;grind
  ·simp_all
 ·grind
 ·obtain⟨j,hj,ej⟩:=List.mem_drop_iff_getElem.mp hm;have j0:0<j:=by
   rcases Nat.eq_zero_or_pos j with h0|h0
   ·subst h0;exact absurd (F.fP.inj hx om aa) ab
   ·exact h0
  obtain⟨n,hn,e,s,o⟩:=WV.mem ((dR l V.id).1[k+j-1]) (cw _);have:=WV.lk (k+j-1) ae n hn e;refine⟨n,hn,?_,o,?_⟩
  ·grind
  ·rw[e];exact List.mem_drop_iff_getElem.mpr ⟨j-1,ae,by congr 1;omega⟩
end
theorem Pk{full eC:List aj}(h:hS full=some eC):dm full=some (eC,[]):=by grind [hS]
theorem Wk{full eC sn:List aj}(h:dV full=some (eC,sn)):dm full=some (eC,sn)/\sn≠[]:=by grind [dV]
theorem L1{full eC sn:List aj}(h:dm full=some (eC,sn)):ei eC=true/\(sn≠[]->ei sn=true):=by
 rcases jb full 64 with h1|⟨k,h1,_⟩
 ·grind [qZ]
 ·rw[q0 h1]at h;grind
section
variable {next:Nat} {l:List ao} {full eC sn:List aj} {i:Nat}
theorem gd.named(F:gd next l)(hi:a1 l full=some i):dP l full=.ok i:=by
 unfold a1 at hi;split at hi
 ·cases hi
 ·rename_i k hk;have hkl:=l4 hk;obtain⟨j,hj,h1,h2⟩:=ca F.fP (aI hkl);rw[h1]at hi;cases hi;rw[hk,F.fP.lG hj hkl h2]
theorem gd.BB(F:gd next l)(hi:a1 l full=none):∃n,dP l full=.error n:=by
 unfold a1 at hi;split at hi
 ·simp_all
 ·rename_i k hk;obtain⟨j,hj,h1,h2⟩:=ca F.fP (aI (l4 hk));simp_all
theorem gd.ZG(F:gd next l)(hs:dm full=some (eC,[]))(hi:dP l full=.ok i):i<κ l/\(recAt l i).aT=false/\eg l ⟨0,eC⟩=some i/\(recAt l i).name=eC:=by
 unfold dP at hi;rw[hs]at hi;simp only at hi;split at hi
 ·cases hi
 ·rename_i k hk;rw[bI trivial]at hi;cases hi;obtain⟨h1,h2⟩:=fi hk;unfold cb at h2;have:=(br _).mp (F.rt _ (aI h1));grind
theorem gd.WN(F:gd next l)(hi:dy l full=.ok i):i<κ l/\(recAt l i).aT=false:=by
 unfold dy at hi;split at hi
 ·cases hi
 ·rename_i eC hv;split at hi
  ·cases hi
  ·rename_i k hk;cases hi;have:=F.ZG (Pk hv) (F.named hk);simp_all
theorem vB{c:jE}(h:eg l c=none):∀y∈l,cb y≠c:=λy hy e=>by have:=oS.mp h y hy;simp[e]at this
theorem gd.MK(F:gd next l)(hv:hS full=some eC)(h:a1 l full=none):∀y∈l,cb y≠⟨0,eC⟩:=by obtain⟨n,hn⟩:=F.BB h;unfold dP at hn;rw[Pk hv]at hn;grind [vB]
theorem gd.H5(F:gd next l)(hs:dV full=some (eC,sn))(hv:a1 l eC=some i)(h:a1 l full=none):(i<κ l/\(recAt l i).aT=false)/\∀y∈l,cb y≠⟨(recAt l i).id,sn⟩:=by obtain⟨e,e0⟩:=Wk hs;obtain⟨a,b,c,d⟩:=F.ZG (Bz ((L1 e).1)) (F.named hv);refine⟨⟨a,b⟩,?_⟩;obtain⟨n,hn⟩:=F.BB h;grind [dP,vB]
end
theorem gV.mono{st aa:Nat}{l:List ao}{M:au->au->Prop}(I:gV st l M)(h:st<=aa):gV aa l M:=by obtain⟨a,b,c,d,e,f⟩:=I;exact⟨λx hx p hp=>aQ,λx hx hs=>⟨aQ,(b x hx hs).2⟩,c,d,e,f⟩
section
variable {G:ct}
theorem sY(hf:e0 G=true):Shape G.next G.l/\cO G.l<=65535:=by unfold e0 at hf;have h:=lN (jk hf).1;exact⟨⟨h.1.1,h.1.2.1,h.1.2.2⟩,h.2⟩
theorem bm.book(I:bm G){next' aa:Nat}{l':List ao}(F':gd next' l')(S':gV aa l' (gf G.P.C))(h1:∀z∈l',z.root=hole\/∃u∈G.l,u.root=z.root)(h2:∀z∈G.l,∃z'∈l',z'.root=z.root)(aG:G.P.st<=aa)(ab:aa<=281474976710655)(hf:e0 {G with P:={G.P with st:=aa},next:=next',l:=l'}=true):bm {G with P:={G.P with st:=aa},next:=next',l:=l'}:=by
 refine⟨F',S',λz hz=>?_,I.md,I.ml,λq hq z hz p hp=>?_,I.s0,λi hi=>?_,I.s3,?_,ab,I.ln,hf⟩
 ·rcases h1 z hz with h|⟨u,hu,e⟩
  ·grind [eA,QA]
  ·show eA G.P.C z.root;rw[<-e];exact I.tr u hu
 ·have hp:=hp;rcases h1 z hz with h|⟨u,hu,e⟩
  ·grind [AQ]
  ·rw[<-e]at hp;exact I.mx q hq u hu p hp
 ·refine(I.s2 i hi).trans (or_congr ?_ Iff.rfl);grind [gf,AQ]
 ·have:=I.sb;simp;omega
theorem bm.create(I:bm G)(hn:1<=G.next){full:List aj}{N:Int}{nx:Nat}{l':List ao}(h:cU G.next G.l full N=.ok (nx,l'))(hf:e0 {G with next:=nx,l:=l'}=true):bm {G with next:=nx,l:=l'}:=by
 obtain⟨eC,hv,hb,hl,hr,rfl,rfl⟩:=oN h;exact I.book (I.hY.create ((sY hf).1) rfl rfl rfl rfl (I.hY.MK hv hr)) (I.si.create I.hY (λy=>by rw[ih,or_comm]) rfl rfl rfl rfl hn (AQ _)) (λz hz=>by
  rcases ih.mp hz with h|rfl
  ·exact .inr ⟨z,h,rfl⟩
  ·exact .inl rfl) (λz hz=>⟨z,ih.mpr (.inl hz),rfl⟩) (aE _) I.st hf
theorem bm.clone(I:bm G){nj to:List aj}{nx:Nat}{l':List ao}(h:dO G.next G.l nj to=.ok (nx,l'))(hf:e0 {G with next:=nx,l:=l'}=true):bm {G with next:=nx,l:=l'}:=by
 obtain⟨vs,eC,i,hs,hv,hi,hl,hr,rfl,rfl⟩:=rj h;obtain⟨aH,aa⟩:=I.hY.LY hs hi;have hm:=aI aH;exact I.book (I.hY.clone ((sY hf).1) hm aa rfl rfl rfl rfl rfl (I.hY.MK hv hr)) (I.si.clone (x:=fh G.next eC (recAt G.l i)) (s:=recAt G.l i) I.hY (λy=>aQ) hm aa rfl rfl rfl rfl rfl) (λz hz=>by
  rcases ih.mp hz with h|rfl
  ·exact .inr ⟨z,h,rfl⟩
  ·exact .inr ⟨_,hm,rfl⟩) (λz hz=>⟨z,ih.mpr (.inl hz),rfl⟩) (aE _) I.st hf
theorem qG{l:List ao}(S:pW l){next i:Nat}(hi:i<κ l)(hn:∀x∈l,x.id<next){s v':ao}(hs:s.id=next)(hv:v'.id=(recAt l i).id):pW ((l++[s]).set i v')/\∀y,y∈(l++[s]).set i v'↔y=v'\/y=s\/(y∈l/\y≠recAt l i):=by grind [recAt,b9,vR,mem_set,ih]
theorem bm.aT(I:bm G)(aG:G.P.st<281474976710655){full:List aj}{nx:Nat}{l':List ao}(h:e4 G.next G.l full G.P.st=.ok (nx,l'))(hf:e0 {G with P:={G.P with st:=G.P.st+1},next:=nx,l:=l'}=true):bm {G with P:={G.P with st:=G.P.st+1},next:=nx,l:=l'}:=by
 obtain⟨eC,sn,i,hs,hi,hl,hr,ab,rfl,rfl⟩:=vO h;obtain⟨⟨aH,aa⟩,fr⟩:=I.hY.H5 hs hi hr;obtain⟨hm,F⟩:=az (aI aH) I.hY;obtain⟨sr,mm⟩:=qG F.fP aH F.KC (s:=j5 G.next (recAt G.l i) sn G.P.st) (v':=nW G.next (recAt G.l i)) rfl rfl;have F':=F.aT (st:=G.P.st) ((sY hf).1) sr (λx hx hs=>(I.si.sn x hx hs).1) (λx hx y hy e p hp=>by
  by_cases h0:x.prev=0
  ·have:=F.JM y hy;omega
  ·obtain⟨u,hu,eu,_,_,k⟩:=F.pv x hx h0;rw[F.fP.inj hy hu ae];exact k p hp) hm aa mm rfl rfl rfl rfl rfl rfl rfl rfl aa rfl rfl rfl (λy hy e=>fr y hy e)
 exact I.book F' (I.si.aT F hm aa mm rfl rfl rfl rfl rfl rfl rfl rfl rfl aa rfl) (λz hz=>by
  rcases(mm z).mp hz with rfl|rfl|h
  ·exact .inr ⟨_,hm,rfl⟩
  ·exact .inr ⟨_,hm,rfl⟩
  ·exact .inr ⟨z,h.1,rfl⟩) (λz hz=>by
  by_cases h:z=recAt G.l i
  ·exact⟨_,(mm _).mpr (.inl rfl),nS⟩
  ·exact⟨z,(mm z).mpr (.inr (.inr ⟨hz,h⟩)),rfl⟩) ae ae hf
theorem mn(ms:List Nat)(id:Nat)(x:ao):(eH ms id x).root=x.root/\(eH ms id x).prev=x.prev/\(eH ms id x).dead=x.dead/\(eH ms id x).aT=x.aT/\(eH ms id x).ay=x.ay/\(eH ms id x).id=x.id/\(eH ms id x).name=x.name/\(eH ms id x).blocks=x.blocks:=Ue
theorem Jg(ms:List Nat)(id:Nat)(l:List ao):cO (l.map (eH ms id))=cO l:=by unfold cO;rw[qu];congr 2;refine E4 (λx _=>?_);grind [mn,my,eH]
theorem bm.GO(I:bm G){full:List aj}{nx:Nat}{l':List ao}(h:cB G.next G.l full=.ok (nx,l')):nx=G.next/\∃ms id,l'=G.l.map (eH ms id)/\bm {G with next:=nx,l:=l'}:=by
 obtain⟨rfl,ms,id,rfl,F'⟩:=I.hY.cB h (λi hi=>(I.hY.WN hi).2);refine⟨rfl,ms,id,rfl,?_⟩;have mm:∀y,y∈G.l.map (eH ms id)↔∃x∈G.l,y=eH ms id x:=λy=>aQ
 exact I.drop (gone:=[]) F' (I.si.map (eH ms id) mm (λx=>by simp[mn])) (λp hp=>aa) (λp hp=>aa) (λz hz=>by obtain⟨x,hx,rfl⟩:=(mm z).mp hz;exact⟨x,hx,(mn ms id x).1.symm⟩) (λz hz p hp=>.inl ⟨_,(mm _).mpr ⟨z,hz,rfl⟩,by grind [mn]⟩) (za (Jg ms id G.l))
end
theorem sW:∀(l:List au){s:Nat->Nat}{ba k:Nat},(∀q∈l,q.aU<=ba)->(bO s ba l k=1↔s k=1)
 | [],_,_,_,_=>Iff.rfl
 | q::l,s,ba,k,h=>by
  show bO (gX s ba q) ba l k=1↔_;rw[sW l (λx hx=>h x (bt _ hx))];have hq:=h q aq;unfold gX;split
  ·exact Iff.rfl
  ·rw[aY ae];unfold sS;split
   ·rename_i hb;unfold ff;split
    ·rename_i hk;unfold KH at hb;simp only[Abe,decide_eq_true_eq]at hb;rw[<-hk]at hb;constructor
     ·intro h;cases h
     ·intro h;omega
    ·exact Iff.rfl
   ·exact Iff.rfl
theorem Km{s:Nat->Nat}(hk:k<1024){l:List au}(hn:∀q∈l,q≠hole):bO s ba l k=2↔s k=2/\∀q∈l,q.loc≠(k:Int):=by
 constructor
 ·intro h;by_cases hc:∀q∈l,q.loc≠(k:Int)
  ·grind [l0]
  ·by_cases h2:s k=2
   ·have hx:∃q∈l,q.loc=(k:Int):=by simp_all
    grind [oQ]
   ·grind [hf]
 ·grind [l0]
section
variable {G:ct} {b:List aj} {P8:bq} {q:au} {ps:List au}
structure JJ(G:ct)(b:List aj)(G2:ct)(ats:List Nat):Prop where
 len:κ ats=e8 (κ b) (κ G.P.C)
 nd:ats.Nodup
 fr:∀i∈ats,i<1024/\G.P.s i=1
 loc:(G2.ms.map (·.loc)).Perm (ats.map (λk:Nat=>(k:Int)))
 bir:∀p∈G2.ms,p.aU=G.P.st
 cl:κ G2.P.C=κ G.P.C
 W9:∀i,4<=i->i ∉ ats->G2.P.C[i]?=G.P.C[i]?
 one:∀i,i<1024->(G2.P.s i=1↔(G.P.s i=1/\i ∉ ats)\/(bO G.P.s G.P.ba G.ms i=3/\i ∉ ats))
 two:∀i,i<1024->(G2.P.s i=2↔i∈ats\/(G.P.s i=2/\∀q∈G.ms,q.loc≠(i:Int)))
 zer:∀i,G2.P.s i=0↔G.P.s i=0
 le:∀i,G2.P.s i<=3
 no3:∀i,i<1024->G2.P.s i≠3
 nx:G2.next=G.next
 l:G2.l=G.l
 st:G2.P.st=G.P.st+1
 ba:G2.P.ba=G.P.st
 m:G2.P.m=0
 tx:G2.u.dz=G.u.dz+1
theorem EA(I:bm G){G2:ct}(h:oE G b G2):∃ats,JJ G b G2 ats:=by
 obtain⟨q,ps,P8,⟨ats,h1,h2,h3,h4,h5,h6,h7⟩,rfl⟩:=h;obtain⟨w1,w2,w3,w4,w5,w6,w7,w8⟩:=h5;have old:∀q∈G.ms,q.aU<=G.P.ba:=λq hq=>(I.ml q hq).2.2;have nh:∀q∈G.ms,q≠hole:=λq hq e=>Um
 have w4:κ P8.C=κ G.P.C:=w4;have w2:P8.st=G.P.st:=w2;have w3:P8.ba=G.P.ba:=w3;have w6:∀i,i ∉ ats->P8.C[i]?=G.P.C[i]?:=w6;clear w5;have s8:∀i,(XJ G P8 q ps).P.s i=if i<1024/\(if i∈ats then 2 else bO G.P.s G.P.ba G.ms i)=3 then 1 else if i∈ats then 2 else bO G.P.s G.P.ba G.ms i:=λi=>by show iR P8.s 1024 i=_;rw[w1];rfl
 have le:∀i,bO G.P.s G.P.ba G.ms i<=3:=λi=>by
  by_cases hi:i<1024
  ·exact wq G.ms (I.s3 i) nh hi
  ·rw[l0 G.ms (λq hq e=>by have:=(I.ml q hq).2.1;omega)];exact I.s3 i
 refine⟨ats,⟨h1,h2,(λi hi=>⟨(h3 i hi).1,(sW G.ms old).mp (h3 i hi).2⟩),w7,w8,?_,λi hi hn=>?_,λi hi=>?_,λi hi=>?_,λi=>?_,λi=>?_,λi hi=>?_,rfl,rfl,?_,?_,rfl,rfl⟩⟩
 ·show(P8.C.set _ _).length=_;simp;omega
 ·show(P8.C.set _ _)[i]?=_;grind
 ·grind [sW]
 ·grind [Km]
 ·grind [h9]
 ·grind
 ·grind
 ·show P8.st+1=_;rw[w2]
 ·exact w2
theorem HP{s:Nat->Nat}{L:List Nat}(hn:L.Nodup)(h:∀i∈L,i<1024/\s i=1):κ L<=bN s:=by unfold bN ha;exact eR L _ hn (λi hi=>List.mem_filter.mpr ⟨List.mem_range.mpr (h i hi).1,aa⟩)
theorem Kp{L ats:List Nat}(hn:L.Nodup):κ L<=κ (L.filter (λi=>decide (i ∉ ats)))+κ ats:=by
 have h1:κ L=κ (L.filter (λi=>decide (i ∉ ats)))+κ (L.filter (λi=>decide (i∈ats))):=by
  induction L with
  | nil=>rfl
  | cons x L ih=>grind
 have h2:=eR (L.filter (λi=>decide (i∈ats))) ats (hn.filter _) (λi hi=>aa);omega
theorem JJ.count(I:bm G){G2:ct}{ats:List Nat}(K:JJ G b G2 ats):bN G.P.s+κ G.ms<=bN G2.P.s+κ ats:=by
 have nh:∀q∈G.ms,q≠hole:=λq hq e=>Um
 have loc:∀q∈G.ms,((q.loc.toNat:Nat):Int)=q.loc/\q.loc.toNat<1024:=λq hq=>by have:=I.ml q hq;omega
 have mt:∀q∈G.ms,G.P.s q.loc.toNat=2:=λq hq=>I.rP hq;let A:=(Aak 1024).filter (λk=>decide (G.P.s k=1));let L:=A++G.ms.map (·.loc.toNat);have nd:L.Nodup:=by
  refine List.nodup_append.mpr ⟨List.nodup_range.filter _,?_,?_⟩
  ·have:=I.md;rw[show G.ms.map (·.loc.toNat)=(G.ms.map (·.loc)).map Adp from aq];refine List.pairwise_map.mpr (List.Pairwise.imp_of_mem (λ{a c} ha hc hne=>?_) this);grind
  ·grind
 have hl:κ L=bN G.P.s+κ G.ms:=by show(A++_).length=_;rw[Aaf,Aac];rfl
 have h1:=Kp (ats:=ats) nd;have h2:κ (L.filter (λi=>decide (i ∉ ats)))<=bN G2.P.s:=HP (nd.filter _) (λi hi=>by
  obtain⟨ad,ai⟩:=List.mem_filter.mp hi;have ai:i ∉ ats:=by simpa using ai
  rcases List.mem_append.mp ad with h|h
  ·obtain⟨r,s⟩:=List.mem_filter.mp h;have r:=List.mem_range.mp r;exact⟨r,(K.one i r).mpr (.inl ⟨aa,ai⟩)⟩
  ·obtain⟨q,hq,rfl⟩:=List.mem_map.mp h;refine⟨(loc q hq).2,(K.one _ (loc q hq).2).mpr (.inr ⟨?_,ai⟩)⟩;exact Az G.ms (λx hx=>⟨nh x hx,(I.ml x hx).2.2⟩) ⟨q,hq,(loc q hq).1.symm⟩ (loc q hq).2 (mt q hq))
 omega
theorem JJ.Zw(I:bm G){G2:ct}{ats:List Nat}(K:JJ G b G2 ats){x:ao}(hx:x∈G.l){p:au}(hp:gf G.P.C x.root p):p.loc.toNat ∉ ats/\4<=p.loc/\p.loc<1024:=by obtain⟨h2,hl⟩:=az (I.taken hx hp) (I.tr x hx);have:=gf.loc hl hp;exact⟨λh=>by have:=(K.fr _ h).2;omega,ae,ae⟩
theorem JJ.tree(I:bm G){G2:ct}{ats:List Nat}(K:JJ G b G2 ats){x:ao}(hx:x∈G.l):eA G2.P.C x.root/\(∀a,a<73->eK G2.P.C x.root a=eK G.P.C x.root a)/\(∀a,a<73->fM G2.P.C (eK G.P.C x.root a)=fM G.P.C (eK G.P.C x.root a)):=(I.tr x hx).congr (λp hp=>by obtain⟨h1,h2,_⟩:=K.Zw I hx hp;exact K.W9 _ ae h1)
def JJ.inT(I:bm G){G2:ct}{ats:List Nat}(K:JJ G b G2 ats){x:ao}(hx:x∈G.l)(p:au):gf G2.P.C x.root p↔gf G.P.C x.root p:=gf.congr (K.tree I hx).2.1
theorem JJ.read(I:bm G){G2:ct}{ats:List Nat}(K:JJ G b G2 ats){x:ao}(hx:x∈G.l){j:Nat}(hj:j<64):tT G2.P.C x j=tT G.P.C x j:=by obtain⟨_,h2,h3⟩:=K.tree I hx;grind [tT]
theorem JJ.cost{G2:ct}{ats:List Nat}(K:JJ G b G2 ats):fu G2=fu G:=by unfold fu;rw[K.nx,K.l,K.cl]
theorem JJ.at(I:bm G){G2:ct}{ats:List Nat}(K:JJ G b G2 ats)(i:Nat):(∃p∈G2.ms,p.loc=(i:Int))↔i∈ats:=by have:=K.loc.mem_iff (a:=(i:Int));grind
theorem bm.com(I:bm G){G2:ct}{ats:List Nat}(K:JJ G b G2 ats)(hb:κ b=cO G.l)(aG:G.P.st<281474976710655):bm G2:=by
 have sh:=I.shape;have hk:κ ats=fu G:=by rw[K.len,hb];exact(jt sh.1 sh.2 I.ln).symm
 have ml:κ G2.ms=κ ats:=by have:=K.loc.length_eq;simp_all
 have ab:∀q∈G2.ms,q.loc.toNat∈ats/\((q.loc.toNat:Nat):Int)=q.loc:=λq hq=>by have:=K.loc.mem_iff.mp (List.mem_map.mpr ⟨q,hq,rfl⟩);grind
 refine⟨by rw[K.nx,K.l];exact I.hY,?_,?_,?_,?_,?_,?_,?_,K.le,?_,?_,?_,?_⟩
 ·rw[K.l,K.st];exact(I.si.mono (hU _)).congr (λx hx p=>K.inT I hx p)
 ·rw[K.l];exact λx hx=>(K.tree I hx).1
 ·exact(K.loc.nodup_iff).mpr (List.pairwise_map.mpr (List.Pairwise.imp (λ{a c:Nat} (h:a≠c) (e:(a:Int)=(c:Int))=>h ae) (by have h:List.Pairwise Ne ats:=K.nd;exact h)))
 ·intro q hq;obtain⟨h1,h2⟩:=ab q hq;obtain⟨h3,h4⟩:=K.fr _ h1;have h5:=mt (I.s0 q.loc.toNat).mpr ae;rw[K.bir q hq,K.ba];omega
 ·rw[K.l];intro q hq x hx p hp e;obtain⟨h1,h2⟩:=ab q hq;exact(K.Zw I hx ((K.inT I hx p).mp hp)).1 aa
 ·intro i;rw[K.zer,K.cl];exact I.s0 i
 ·intro i hi;rw[K.two i hi,K.l];obtain⟨e,eA⟩:=az (I.s2 i hi) (K.at I i);constructor
  ·rintro(h|⟨h,h2⟩)
   ·simp_all
   ·rcases e.mp h with⟨x,hx,p,hp,e⟩|⟨q,hq,e⟩
    ·exact .inl ⟨x,hx,p,(K.inT I hx p).mpr hp,e⟩
    ·simp_all
  ·rintro(⟨x,hx,p,hp,e1⟩|h)
   ·have hp:=(K.inT I hx p).mp hp;exact .inr ⟨e.mpr (.inl ⟨x,hx,p,hp,e1⟩),λq hq e2=>I.mx q hq x hx p hp ae⟩
   ·simp_all
 ·rw[K.ba,K.st];omega
 ·rw[K.st];omega
 ·rw[K.cl];exact I.ln
 ·obtain⟨h,hf⟩:=az (K.count I) I.ft;unfold e0 at hf ⊢;have hf:=jk hf;rw[K.cost,ml];simp;omega
end
def aa4(G:ct)(p gb:Nat)(H:aR)(full:List aj)(N:Int)(w:af)(e:Ab2)(w':af):Prop:=((∃n:Nat,e9 G.l full N=.error n/\e=.returned (.tuple #[.agg (aC aM),.int .i64 (n:Int)]))\/(∃k s,e9 G.l full N=.ok k/\tT G.P.C (recAt G.l k) N.toNat=some s/\e=.returned (.tuple #[.agg (aC s.val),.int .i64 0])))/\bL w' p gb H G/\Touch (PF H) w w'
theorem GA.sec{W W':af}{gb g:Nat}(a:GA W gb H G)(hg:aF W g 60 C)(T:Touch (·=g) W W')(hn:∀b,PF H b->b≠g):GA W' gb H G:=by obtain⟨vb,vm,g1,os,om,pa⟩:=a;exact⟨vb,vm,g1.ax T (e5 g1 hg av),(by obtain⟨ys,y1,y2,y3⟩:=os;exact⟨ys,y1,ak.ax y2 T (λb hb e=>eB av hg y2 aa),λy hy=>ak.ax (y3 y hy) T (λb hb e=>eB av hg (y3 y hy) aa)⟩),ak.ax om T (λb hb e=>eB av hg om aa),pa.ax T (λb hb e=>hn b hb e)⟩
theorem p8{l:List ao}{full:List aj}(h:e9 l full N=.ok k):k<κ l/\0<=N/\N<(recAt l k).blocks:=by
 unfold e9 at h;split at h
 ·cases h
 ·rename_i k' hk;split at h
  ·cases h
  ·cases h;exact⟨l4 hk,ae,ae⟩
theorem HZ{l:List ao}{full:List aj}(h:e9 l full N=.error n):n≠0:=u'
theorem bL.go{w w':af}{p gb:Nat}(A:bL w p gb H G)(pa:PA w' H G.P)(t:Touch (PF H) w w'):bL w' p gb H G:=⟨A.fg.ax t (A.ga.pa.cc A.fg av),A.ga.nV H.h.vp pa t⟩
theorem xa(w:af)(p gb:Nat)(H:aR)(G:ct)(A:bL w p gb H G)(I:bm G)(full:List aj)(hf:κ full<=9223372036854775807)(N:Int):Aae Aag 21 #[.pointer (some ⟨p,0,none⟩),.string (strOf full),.int .i64 N] w (aa4 G p gb H full N w):=by
 have cp:w.cell? ⟨p,0,none⟩=some (.pointer (some ⟨gb,0,none⟩)):=A.fg.cell 0;have np:¬PF H p:=A.ga.pa.cc A.fg av;have s:=Fr.nV A.ga.pa;have ag:=an (dJ ey);go_in;go_wp2_with(refine fw s ?_;intro _ w s);refine(wY w p gb H G (A.go s.pa s.t)).mono ?_;rintro e _⟨rfl,rfl⟩;go_wp2_with(refine fw s ?_;intro _ w s);refine(fz w gb H G (A.go s.pa s.t).ga I.hl I.hr).mono ?_;rintro e w⟨v2,rfl,ar,u⟩;obtain⟨a2,c2,rfl⟩:=ar.cm.slice;obtain⟨ys,e0,z⟩:=Rz.s ar u s.t.size;have e:=an e0;clear e0;have s:=s.new z;go_wp2_with(refine fw s ?_;intro _ w s);refine(DY w G.next _ G.l (by have:=s.cm (ys:=ys);rw[e.out]at this;exact this.cm) I.hr full hf N).mono ?_;rintro e w(⟨n,hn,rfl,u⟩|⟨k,vd,hk,hkl,rfl,od,u⟩)
 ·have s:=s.up u;have nz:((n:Int) != 0)=true:=by have:=HZ hn;simp;omega
  go_wp2_with(refine fw s ?_;intro _ w s);refine bj ?_;exact⟨.inl ⟨n,hn,rfl⟩,A.go s.pa s.t,s.t⟩
 ·have VA:=p8 hk;obtain⟨da,dc,rfl⟩:=(ak.row od pw).slice;obtain⟨s,xm⟩:=az (s.new (.q od u s.t.size)) (aI hkl);have aa:=an (show N.toNat<64/\N=(N.toNat:Int)by obtain⟨h1,h2⟩:=az VA.2 (((br _).mp (I.hY.rt _ xm)).2.2.2.1);omega)
  obtain⟨sc,aS,aJ⟩:=(I.tr _ xm).get (i:=N.toNat) aa.out.1;obtain⟨ad,ai,ab⟩:=aV (dJ sc) (dx sc.val) (show(aC aM).size=(aC sc.val).size from by rw[om];exact om ey);have TG:=an (λW (a:PA W H G.P)=>show Aae Aag 52 #[.pointer (some ⟨H.pb,0,none⟩),.agg (be (recAt G.l k).root),.int .i64 N] W (λe w'=>e=.returned (.tuple #[.agg (aC sc.val),.int .i64 0])/\PG W H G.P w')from by have:=WB W H G.P a (recAt G.l k).root N.toNat aa.out.1 sc aS;rw[show(N.toNat:Int)=N from aa.out.2.symm]at this;exact this)
  replace aS:=an aS;replace aJ:=an aJ;go_wp2_with(refine fw s ?_;intro _ w s);refine kpl s (λw s=>?_);repeat refine kt ?_
  refine kj 5 ?_;refine kj 6 ?_;refine kj 7 ?_;refine kc (λw _ s=>ju w gb H G (A.go s.pa s.t).ga) ?_;rintro w _ s _ _⟨rfl,rfl⟩;refine lQ ?_;repeat(first|refine kx ?_|refine kt ?_)
  refine Zn (λw _ s=>TG.out w s.pa) ?_;rintro w _ s _ w'⟨rfl,pg⟩;refine⟨_,_,rfl,.pg s pg,Xc,?_⟩;repeat refine kt ?_
  refine kn (λ_ w u s=>?_);refine ks (λw s=>?_);repeat refine kt ?_
  refine kd (λw u s=>?_);go_wp2_with(refine fw s ?_;intro _ w s);refine bj ?_;exact⟨.inr ⟨k,sc,hk,aJ.out,rfl⟩,A.go s.pa s.t,s.t⟩
structure hV where
 name:List aj
 blocks:Int
 dead:Int
 nj:List aj
deriving DecidableEq
def hN(x:hV):Array ah:=#[.string (strOf x.name),.int .i64 x.blocks,.int .i64 x.dead,.string (strOf x.nj)]
def nL(x:hV):List ah:=(hN x).toList
theorem iw:hh nL 4:=⟨ae,λ_=>rfl,λx u hu=>by simp[nL,hN]at hu;rcases hu with rfl|rfl|rfl|rfl<;>rfl⟩
theorem AV(x:hV):(hN x).all (·.oneCell')=true:=by simp[hN,Value.oneCell']
theorem AW(x:hV):(prog.info? 45).map (·.size)=some (hN x).size:=al
def aaT:hV:=⟨[],0,0,[]⟩
theorem W8:∀W:af,(Acj 45).run Aag W=.ok (.agg (hN aaT)) W:=zb
theorem DE:(prog.info? 45).map (λi=>(i.zero,i.size,i.bytes))=some (some (.agg (hN aaT)),4,48):=al
theorem JV(s:List aj)(b d:Int):prog.built 45 [(0,.string (strOf s)),(1,i6 b),(2,i6 d)]=some (hN ⟨s,b,d,[]⟩):=al
theorem JU(s:List aj)(b:Int):prog.built 45 [(0,.string (strOf s)),(1,i6 b)]=some (hN ⟨s,b,0,[]⟩):=al
abbrev Et(w:af)(v:ah)(l:List hV):Prop:=aH nL w v l
abbrev tY(w:af)(base:Nat)(v:ah)(l:List hV):Prop:=ak nL 4 45 w base v l
def Kv(l:List ao)(x:ao):List aj:=if x.aT=true then [] else ec l (dR l x.id).2
def jK(l:List ao)(x:ao):hV:=⟨ec l x.id,x.blocks,κ x.dead,Kv l x⟩
def fN(l:List ao)(x:ao):hV:=⟨ec l x.id,x.blocks,0,Kv l x⟩
section
variable {P:bp} {ops:Array Abn} {S:af->Prop} {o:Abn} {a:Act}
end
theorem acr:zc Aag 45=hN aaT:=al
theorem wZ(w:af)(p gb:Nat)(H:aR)(G:ct)(A:bL w p gb H G)(I:bm G):Aae Aag 11 #[.pointer (some ⟨p,0,none⟩)] w λe w'=>∃v,e=.returned v/\tY w' w.heap.size v (G.l.map (jK G.l))/\Up w w':=by
 refine Gx ?_;intro c0;obtain⟨BK,HL⟩:=az (fz w gb H G A.ga I.hl I.hr) I.hl;clear A I;generalize G.l=l at *;generalize G.next=nx at *
 go_in;go_wp2_with fail;refine BK.mono ?_;rintro e w0⟨v0,rfl,ab,U0⟩;obtain⟨a,cap,rfl⟩:=ab.cm.slice;obtain⟨BF,hv,s⟩:=cZ (MA nx a (κ l) cap) ab.cm (Fr.start w0);go_wp2_with fail;have s:=s.aak (f:=nL) (j:=4) (e:=45);go_loopw [4,16] (λv i wr=>∃k:Nat,k<=κ l/\i=.int .i64 k/\Fr no w0 [GK nL 4 45 w0.heap.size v ((l.take k).map (jK l))] wr) (λ_ i _=>κ l-(Aau i).toNat)
 case atStart=>exact⟨0,bT _,rfl,s⟩
 case round=>
  obtain⟨k,hk,rfl,s⟩:=hrel;by_cases hlt:k<κ l
  ·refine vk ?_;intro b3;have NX:=an (show(l.take (k+1)).map (jK l)=(l.take k).map (jK l)++[jK l (recAt l k)] from KN);have LL:κ ((l.take k).map (jK l))<=1000:=by rw[Aac,ez];omega
   obtain⟨b,off,ar,_,da,dc,rg,_⟩:=cf hv hlt;subst ar;have aa:=an (show jK l (recAt l k)=⟨ec l (recAt l k).id,(recAt l k).blocks,(κ (recAt l k).dead:Int),if(recAt l k).aT=true then [] else ec l (dR l (recAt l k).id).2⟩ from rfl);generalize recAt l k=x at *;generalize(l.take k).map (jK l)=il at *;obtain⟨va,vc,rfl⟩:=(ak.row s.row iw).slice;obtain⟨i0,i1,i2,i3,i4,i5,ad,i7,i8⟩:=cd rg;have BU:=an (JV (ec l x.id) x.blocks (κ x.dead:Int));go_wp2_with(refine fw s ?_;intro _ w s);refine kb s (λw s=>?_);repeat refine kt ?_
   refine kj 6 ?_;refine kj 7 ?_;refine kj 8 ?_;refine kj 9 ?_;refine kj 10 ?_;refine kj 11 ?_;refine kj 12 ?_;refine kj 13 ?_;refine kj 14 ?_;refine kc (λw _ s=>uv w _ l (hv.up s.pure) x.id) ?_;rintro w _ s _ w'⟨rfl,u⟩;refine⟨_,rfl,u,?_⟩;repeat(first|refine kx ?_|refine kt ?_)
   refine kn (λ_ w u s=>?_);obtain⟨II,OO⟩:=aw (AW ⟨ec l x.id,x.blocks,(κ x.dead:Int),[]⟩) (AV ⟨ec l x.id,x.blocks,(κ x.dead:Int),[]⟩);refine ks (λw s=>?_);refine kd (λw u s=>?_);have I3:=DE;cases ag:x.aT with
   | true=>rw[ag]at i2;go_wp2_with(first|(refine fw s ?_;intro _ w s)|(refine ZY s ?_;intro _ w s)|(at_builtin;refine far iw ⟨ec l x.id,x.blocks,(κ x.dead:Int),[]⟩ s ?_;intro a7 c7 w s));go_roundw;(case rel=>exact⟨k+1,by omega,by simp,by rw[NX.out,aa.out,ag];exact(s.rem .head).rem .head⟩);case measure=>simp only[Aau];omega
   | false=>rw[ag]at i2;go_wp2_with(refine fw s ?_;intro _ w s);refine(tB w _ l (hv.up s.pure) x.id).mono ?_;refine er ?_;intro w u s;go_wp2_with(refine fw s ?_;intro _ w s);refine(uv w _ l (hv.up s.pure) _).mono ?_;refine er ?_;intro w u s;have SP:(Abx (hN ⟨ec l x.id,x.blocks,(κ x.dead:Int),[]⟩).toList 3 (#[.string (strOf (ec l (dR l x.id).2))]:Array ah).toList).toArray=hN ⟨ec l x.id,x.blocks,(κ x.dead:Int),ec l (dR l x.id).2⟩:=rfl;go_wp2_with(first|(refine fw s ?_;intro _ w s)|(refine ZY s ?_;intro _ w s)|(at_builtin;refine far iw ⟨ec l x.id,x.blocks,(κ x.dead:Int),ec l (dR l x.id).2⟩ s ?_;intro a7 c7 w s));go_roundw;(case rel=>exact⟨k+1,by omega,by simp,by rw[NX.out,aa.out,ag];exact(s.rem .head).rem .head⟩);case measure=>simp only[Aau];omega
  ·obtain rfl:k=κ l:=by omega
   have b3:((κ l:Int)<(κ l:Int))=False:=aq
   go_wp2_with fail;refine bj ?_;have r:=s.row (f:=nL) (j:=4) (e:=45);rw[dq (aE _)]at r;exact⟨_,rfl,r.mono U0.size,U0.trans s.pure⟩
def nT(next:Nat)(vb:ah)(vm:ah)(st made:Nat):Array ah:=#[.int .u64 (next:Int),vb,vm,.int .u64 (st:Int),.int .u64 (made:Int)]
theorem DN(w:af)(mb next:Nat)(vb vm:ah)(st made:Nat)(l:List ao)(BM:aF w mb 76 (nT next vb vm st made))(hv:cq w vb l)(hl:κ l<=1000):Aae Aag 12 #[.pointer (some ⟨mb,0,none⟩)] w λe w'=>∃v,e=.returned v/\tY w' w.heap.size v (l.map (fN l))/\Up w w':=by
 obtain⟨a,cap,rfl⟩:=hv.slice;have c1:w.cell? ⟨mb,1,none⟩=some (.slice a (κ l) cap):=BM.cell 1;clear BM;have s:=Fr.start w;go_in;go_wp2_with fail;have s:=s.aak (f:=nL) (j:=4) (e:=45);go_loopw [4,15] (λv i wr=>∃k:Nat,k<=κ l/\i=.int .i64 k/\Fr no w [GK nL 4 45 w.heap.size v ((l.take k).map (fN l))] wr) (λ_ i _=>κ l-(Aau i).toNat)
 case atStart=>exact⟨0,bT _,rfl,s⟩
 case round=>
  obtain⟨k,hk,rfl,s⟩:=hrel;by_cases hlt:k<κ l
  ·refine vk ?_;intro b3;have NX:=an (show(l.take (k+1)).map (fN l)=(l.take k).map (fN l)++[fN l (recAt l k)] from KN);have LL:κ ((l.take k).map (fN l))<=1000:=by rw[Aac,ez];omega
   obtain⟨b,off,ar,_,da,dc,rg,_⟩:=cf hv hlt;subst ar;have aa:=an (show fN l (recAt l k)=⟨ec l (recAt l k).id,(recAt l k).blocks,0,if(recAt l k).aT=true then [] else ec l (dR l (recAt l k).id).2⟩ from rfl);generalize recAt l k=x at *;generalize(l.take k).map (fN l)=il at *;obtain⟨va,vc,rfl⟩:=(ak.row s.row iw).slice;obtain⟨i0,i1,i2,i3,i4,i5,ad,i7,i8⟩:=cd rg;have BU:=an (JU (ec l x.id) x.blocks);go_wp2_with(refine fw s ?_;intro _ w s);refine kb s (λw s=>?_);repeat refine kt ?_
   refine kj 6 ?_;refine kj 7 ?_;refine kj 8 ?_;refine kj 9 ?_;refine kc (λw _ s=>uv w _ l (hv.up s.pure) x.id) ?_;rintro w _ s _ w'⟨rfl,u⟩;refine⟨_,rfl,u,?_⟩;repeat(first|refine kx ?_|refine kt ?_)
   refine kn (λ_ w u s=>?_);obtain⟨II,OO⟩:=aw (AW ⟨ec l x.id,x.blocks,0,[]⟩) (AV ⟨ec l x.id,x.blocks,0,[]⟩);refine ks (λw s=>?_);refine kd (λw u s=>?_);have I3:=DE;cases ag:x.aT with
   | true=>rw[ag]at i2;go_wp2_with(first|(refine fw s ?_;intro _ w s)|(refine ZY s ?_;intro _ w s)|(at_builtin;refine far iw ⟨ec l x.id,x.blocks,0,[]⟩ s ?_;intro a7 c7 w s));go_roundw;(case rel=>exact⟨k+1,by omega,by simp,by rw[NX.out,aa.out,ag];exact(s.rem .head).rem .head⟩);case measure=>simp only[Aau];omega
   | false=>rw[ag]at i2;go_wp2_with(refine fw s ?_;intro _ w s);refine(tB w _ l (hv.up s.pure) x.id).mono ?_;refine er ?_;intro w u s;go_wp2_with(refine fw s ?_;intro _ w s);refine(uv w _ l (hv.up s.pure) _).mono ?_;refine er ?_;intro w u s;have SP:(Abx (hN ⟨ec l x.id,x.blocks,0,[]⟩).toList 3 (#[.string (strOf (ec l (dR l x.id).2))]:Array ah).toList).toArray=hN ⟨ec l x.id,x.blocks,0,ec l (dR l x.id).2⟩:=rfl;go_wp2_with(first|(refine fw s ?_;intro _ w s)|(refine ZY s ?_;intro _ w s)|(at_builtin;refine far iw ⟨ec l x.id,x.blocks,0,ec l (dR l x.id).2⟩ s ?_;intro a7 c7 w s));go_roundw;(case rel=>exact⟨k+1,by omega,by simp,by rw[NX.out,aa.out,ag];exact(s.rem .head).rem .head⟩);case measure=>simp only[Aau];omega
  ·obtain rfl:k=κ l:=by omega
   have b3:((κ l:Int)<(κ l:Int))=False:=aq
   go_wp2_with fail;refine bj ?_;have r:=s.row (f:=nL) (j:=4) (e:=45);rw[dq (aE _)]at r;exact⟨_,rfl,r,s.pure⟩
def hV.live(x:hV):hV:={x with dead:=0}
theorem TQ(x y:hV)(W:af):(Ach 10000 45 (.agg (hN x)) (.agg (hN y))).run Aag W=.ok (decide (x=y)) W:=by
 obtain⟨n,b,d,f⟩:=x;obtain⟨n2,b2,d2,f2⟩:=y;have e:decide ((⟨n,b,d,f⟩:hV)=⟨n2,b2,d2,f2⟩)=((((strOf n).toList==(strOf n2).toList)) && ((b==b2) && ((d==d2) && ((strOf f).toList==(strOf f2).toList)))):=by rw[Bf];simp[Adl,mH]
 rw[e];clear e;show(Ach (9999+1) 45 (.agg #[.string (strOf n),.int .i64 b,.int .i64 d,.string (strOf f)]) (.agg #[.string (strOf n2),.int .i64 b2,.int .i64 d2,.string (strOf f2)])).run Aag W=_;rw[yX W 9999 45 _ _ al al];cases h:((strOf n).toList==(strOf n2).toList)<;>cases h1:(b==b2)<;>cases h2:(d==d2)<;>cases h3:((strOf f).toList==(strOf f2).toList);all_goals go_simp
theorem XL(x1 x2:bU)(ho:o.op=.binOp .neq 45 x1 x2 45)(y:hV)(h1:a.eval x1=.agg (hN y))(h2:a.eval x2=.agg (hN y))(W:af):(Abt a.eval o).run Aag W=.ok (.value (.bool false)) W:=by
 have e:(Ach Op.maxDepth 45 (.agg (hN y)) (.agg (hN y))).run Aag W=.ok (decide (y=y)) W:=TQ y y W;rw[show decide (y=y)=true from aq]at e;unfold Abt;simp only[ho,h1,h2,binOp,Op.equal];have g:(eqGuard .neq 45 x1 x2 (.agg (hN y)) (.agg (hN y))).run Aag W=.ok () W:=by unfold eqGuard;go_simp
 simp only[Aay,g,Aax,Ac7];rw[e];rfl
theorem KG{a:Option Adr}{l:List hV}(h:Et w (.slice a n cap) l)(hk:k<κ l):∃b off,a=some ⟨b,off,none⟩/\b<w.heap.size/\w.rangeAt b (off+k*4) (hN l[k]).toList:=by obtain⟨b,off,e,hb,_,hc⟩:=aH.get h iw ae;exact Gj
def EF(l m:List hV):Prop:=m=l.map hV.live
section
open Go.Maps
abbrev k8:=cS × Nat
def Sz(x:k8):List ah:=x.1.val.map aK++[.int .u64 (x.2:Int)]
def v'(x:k8):Array ah:=(Sz x).toArray
def Hs:k8:=(⟨aM,rfl⟩,0)
def k'(l:List k8):Array ah:=(l.flatMap Sz).toArray
def sf:List k8:=Aad 64 Hs
theorem rh(x:k8):κ (Sz x)=129:=by grind [Sz]
theorem p0(x:k8):(v' x).size=129:=by simp[v',rh]
theorem n3:∀l:List k8,(k' l).size=κ l*129
 | []=>rfl
 | x::l=>by have:=n3 l;simp only[k',Abh,Abc,Aaf,rh,Aaj]at this ⊢;omega
theorem XM:(prog.info? 145).map (·.size)=some 129:=al
theorem TT:(prog.info? 146).map (·.size)=some 8256:=al
theorem Y':∀W:af,(Acj 145).run Aag W=.ok (.agg (v' Hs)) W:=(lA (P:=Aag) (t:=145) (v:=.agg (v' Hs)) (n:=129) aA).1
theorem JK:∀W:af,(Acj 146).run Aag W=.ok (.agg (k' sf)) W:=(lA (P:=Aag) (t:=146) (v:=.agg (k' sf)) (n:=8256) al).1
theorem Ew(x:k8):∀v∈Sz x,∃k a,v=Ack k a:=λv hv=>by
 unfold Sz at hv;rw[Aa8,Abd,kG]at hv;rcases hv with⟨y,_,rfl⟩|rfl
 ·exact⟨_,_,rfl⟩
 ·exact⟨_,_,rfl⟩
theorem HD(l:List k8):∀v∈(k' l).toList,∃k a,v=Ack k a:=by grind [k',Ew]
theorem If(h:∀v∈C.toList,∃k a,v=Ack k a):C.all (·.oneCell')=true:=by rw[wE];intro v hv;obtain⟨k,a,rfl⟩:=h v (Array.mem_toList_iff.2 hv);rfl
def Mz(x:k8):(v' x).all (·.oneCell')=true:=If (λv hv=>Ew x v hv)
def S8(l:List k8):(k' l).all (·.oneCell')=true:=If (HD l)
def Ty:ah->DataW Unit
 | .int k a=>.lit (.int k a)
 | _=>.nil
def Kn(C:Array ah):DataW Unit:=.agg (C.toList.map Ty)
theorem Tz{v:ah}{k:IntKind}{a:Int}(h:Ty v=.lit (.int k a)):v=.int k a:=by unfold Ty at h;grind
theorem Du:∀{l m:List ah},l.map Ty=m.map Ty->(∀v∈m,∃k a,v=Ack k a)->l=m
 | [],[],_,_=>rfl
 | [],_::_,h,_=>by simp at h
 | _::_,[],h,_=>by simp at h
 | x::l,y::m,h,hi=>by simp only[Acd,List.cons.injEq]at h;obtain⟨k,a,rfl⟩:=hi y (df ..);rw[Tz h.1,Du h.2 (λv hv=>hi v (bt _ hv))]
def RB:ah->Option (DataW Unit × List MemPlace)
 | .agg C=>some (Kn C,[])
 | _=>none
theorem ZO{v:ah}{l:List k8}{ps:List MemPlace}(h:RB v=some (Kn (k' l),ps)):v=.agg (k' l):=by
 unfold RB at h;split at h
 ·rename_i C;simp only[Kn,Aai,Prod.mk.injEq,DataW.agg.injEq]at h;rw[h3.1 (Du h.1 (HD l))]
 ·cases h
def w8:Keyed Aag 70:=int_keyed underlying70
theorem aaI(n:Nat)(h:n<18446744073709551616):(Lit.int .u64 (n:Int)).wf=true:=by exact N8
def Hf(n:Nat)(h:n<18446744073709551616):keyOf Aag 70 (.int .u64 (n:Int))=some (.int .u64 (n:Int)):=keyOf_int_mk underlying70 (aaI n h)
def ev(w:af)(b n:Nat)(B:Nat->List k8):Prop:=(∀i,κ (B i)=64)/\∃D:DataW Unit,w.ownsMap Aag 70 RB b n D/\∀i:Nat,i<18446744073709551616->D.atKey (.int .u64 (i:Int)) (Kn (k' sf))=Kn (k' (B i))
def mT(B:Nat->List k8)(i:Nat)(l:List k8):Nat->List k8:=λj=>if j=i then l else B j
theorem ev.made(w:af):ev (w.alloc (.map #[] 0)) w.heap.size 0 (λ_=>sf):=⟨λ_=>aA,.map [],Fw w _ _ _,λ_ _=>rfl⟩
theorem ev.lt{B:Nat->List k8}(h:ev w b n B):b<w.heap.size:=by obtain⟨_,D,h,_⟩:=h;exact h.lt
theorem ev.heap{w w':af}{b b' n:Nat}{B:Nat->List k8}(h:ev w b n B)(e:w'.heap[b']?=w.heap[b]?):ev w' b' n B:=by obtain⟨h0,D,⟨es,clock,hb,F,hs,hD⟩,CF⟩:=h;exact⟨h0,D,⟨es,clock,e.trans hb,F,hs,hD⟩,CF⟩
theorem ev.mono{b n n':Nat}{B:Nat->List k8}(h:ev w b n B)(hn:n<=n'):ev w b n' B:=by obtain⟨h0,D,ho,CF⟩:=h;exact⟨h0,D,ho.mono hn,CF⟩
def ev.grown{w w':af}{row:Option Nat}{B:Nat->List k8}(h:ev w b n B)(hg:w.grownBy w' row)(hne:some b≠row):ev w' b n B:=h.heap (hg.block b h.lt hne)
theorem ev.look{B:Nat->List k8}(h:ev w b n B)(i:Nat)(hi:i<18446744073709551616):(Instr.lookup 74 (.map (some b)) (u6 (i:Int)) false).run Aag w=.ok (.agg (k' (B i))) w:=by obtain⟨h0,D,ho,CF⟩:=h;obtain⟨v,ps,hr,hv⟩:=ho.lookup w8 underlying74 (JK w) (zd:=Kn (k' sf)) (zp:=[]) rfl (Hf i hi);grind [ZO]
theorem XP(j:Nat):WideAt.IsKeyLit (.int .u64 (j:Int)):=by unfold WideAt.IsKeyLit;trivial
theorem T5(h:j≠i):(Lit.int .u64 (j:Int))≠.int .u64 (i:Int):=ab
theorem ev.put{B:Nat->List k8}(h:ev w b n B)(hn:n<1000000)(i:Nat)(hi:i<18446744073709551616)(l:List k8)(hl:κ l=64):∃w',(Instr.mapUpdate 74 (.map (some b)) (u6 (i:Int)) (.agg (k' l))).run Aag w=.ok () w'/\ev w' b (n+1) (mT B i l)/\w.grownBy w' (some b):=by
 obtain⟨h0,D,ho,CF⟩:=h;obtain⟨w',hr,al,hg⟩:=ho.update w8 underlying74 dK (Hf i hi) (val:=.agg (k' l)) (d:=Kn (k' l)) (ps:=[]) rfl;refine⟨w',hr,⟨λj=>by grind [mT],_,al,λj hj=>?_⟩,hg⟩;unfold mT;split
 ·rename_i e;subst e;exact atKey_put_same ho.isMap (XP j) _ _
 ·rename_i e;rw[atKey_put_other (T5 e),CF j hj]
theorem ev.del{B:Nat->List k8}(h:ev w b n B)(i:Nat)(hi:i<18446744073709551616)(ty:Aab):∃w',(Builtin.delete_ #[74,70] ty #[.map (some b),u6 (i:Int)]).run Aag w=.ok (.tuple #[]) w'/\ev w' b n (mT B i sf)/\w.grownBy w' (some b):=by
 obtain⟨h0,D,ho,CF⟩:=h;obtain⟨w',hr,al,ht⟩:=ho.drop w8 underlying74 (Hf i hi) ty;refine⟨w',hr,⟨λj=>by grind [mT,sf],_,al,λj hj=>?_⟩,ht.grown⟩;unfold mT;split
 ·rename_i e;subst e;exact atKey_del_same _
 ·rename_i e;rw[atKey_del_other (T5 e),CF j hj]
end
section
open Go.Maps
def se(l:List k8)(k:Nat):k8:=l.getD k Hs
theorem S4{l:List k8}(h:k<κ l):se l k=l[k]:=by simp[se,h]
theorem bw:hh Sz 129:=⟨ae,rh,λx u hu=>by obtain⟨k,a,rfl⟩:=Ew x u hu;rfl⟩
theorem wj(l:List k8):(k' l).toList=l.flatMap Sz:=aA
theorem PJ(l:List k8)(k:Nat)(h:k<κ l):(k' l).extract (k*129) (k*129+129)=v' (se l k):=by
 apply h3.1;rw[Array.toList_extract,wj,S4 h];show _=Sz l[k];apply wM;intro j;simp only[List.getElem?_take,List.getElem?_drop,List.extract];by_cases hj:j<129
 ·have h1:=bw.at l k h j hj;simp_all
 ·grind [rh]
theorem QF(l:List k8)(hl:κ l=64)(k:Nat)(h:k<64)(W:af):(Adf 146 (.agg (k' l)) (i6 (k:Int))).run Aag W=.ok (.agg (v' (se l k))) W:=by
 have hs:(sizeOf 145).run Aag W=.ok 129 W:=al
 have hg:(isAgg 145).run Aag W=.ok true W:=al
 simp[Adf,asIntOf,run_underlying (P:=Aag) underlying146,ae,hs,part,hg,(PJ l k ae)];omega
theorem Xq(x:k8):(v' x).extract 0 128=aC x.1.val:=by grind [r3,v',Sz]
theorem TA(x:k8)(W:af):(Instr.field 145 (.agg (v' x)) 0).run Aag W=.ok (.agg (aC x.1.val)) W:=by
 have hp:=Xq x;have hs:(sizeOf 60).run Aag W=.ok 128 W:=al
 have hg:(isAgg 60).run Aag W=.ok true W:=al
 generalize v' x=C at *;simp[Instr.field,run_underlying (P:=Aag) underlying145,hs,part,hg,hp,asAgg,Aap]
theorem De:prog.built 145 []=some (v' Hs):=al
theorem PL(v:Nat):prog.built 145 [(1,u6 (v:Int))]=some (v' (Hs.1,v)):=al
theorem S7(l:List k8)(k:Nat)(hk:k<κ l)(x:k8):(Abx (k' l).toList (k*129) (v' x).toList).toArray=k' (l.set k x):=by apply h3.1;rw[lX,wj,wj];have:=qb bw l k hk 0 (Sz x) x (by simp[rh]) (by simp[hW,rh]);rw[this];rfl
theorem Xp(b:List aj)(hb:κ b<=128)(v:Nat):(Abx (v' (Hs.1,v)).toList 0 (b.map aK)).toArray=v' (eS b hb,v):=by apply h3.1;rw[lX];unfold hW v' Sz eS e';simp only[Abk,Aaz,Aby,Aac];show _++List.drop (κ b) (aM.map aK++_)=_;rw[show aM.map aK=Aad 128 (aK 0)from List.map_replicate,List.drop_append_of_le_length cj,y8,Aar,List.map_replicate,Aa9]
end
section
open Go.Maps
structure cR where
 next:Nat
 l:List ao
 B:Nat->List k8
 st:Nat
 made:Nat
def bh(w:af)(mb kb n:Nat)(M:cR):Prop:=∃vb,aF w mb 76 (nT M.next vb (.map (some kb)) M.st M.made)/\bc w 0 vb M.l/\ev w kb n M.B
section
variable {w w':af} {mb kb n:Nat} {M:cR}
def ev.up{b:Nat}{B:Nat->List k8}(h:ev w b n B)(u:Up w w'):ev w' b n B:=h.heap (oV u b h.lt)
theorem ev.ax{F:Nat->Prop}{b:Nat}{B:Nat->List k8}(h:ev w b n B)(T:Touch F w w')(hb:¬F b):ev w' b n B:=h.heap (T.block b h.lt hb)
theorem ev.ne{b g:Nat}{B:Nat->List k8}{t:Aab}{C:Array ah}(h:ev w b n B)(hg:aF w g t C):b≠g:=λe=>by subst e;obtain⟨_,D,⟨es,clock,hb,_⟩,_⟩:=h;unfold aF at hg;rw[hg]at hb;cases hb
theorem bh.up(h:bh w mb kb n M)(u:Up w w'):bh w' mb kb n M:=by obtain⟨vb,h1,h2,h3⟩:=h;exact⟨vb,h1.up u,h2.up u,h3.up u⟩
theorem vM{F:Nat->Prop}{v:ah}{l:List ao}(h:bc w 0 v l)(T:Touch F w w')(hF:∀b,F b->(∃t C,aF w b t C/\t≠90/\t≠87)\/∃es c,w.heap[b]?=some (.map es c)):bc w' 0 v l:=by
 have KR:∀{α:Type}{f:α->List ah}{k:Nat}{e:Aab}{v:ah}{xs:List α},ak f k e w 0 v xs->(∀t:Aab,t≠90/\t≠87->t≠e)->ak f k e w' 0 v xs:=λho hn=>ak.ax ho T (λb hb hf=>by
  rcases hF b hf with⟨t,C,hg,ht⟩|⟨es,c,hm⟩
  ·exact eB (hn t ht) hg ho hb
  ·obtain⟨_,h2⟩:=ho;rcases h2 with⟨rfl,_⟩|⟨g',cap,cur,rfl,_,hh,_⟩
   ·simp[Aan]at hb
   ·simp[Aan]at hb;subst hb;rw[hm]at hh;cases hh)
 obtain⟨ys,y1,y2,y3⟩:=h;exact⟨ys,y1,KR y2 (λt h=>h.1),λy hy=>KR (y3 y hy) (λt h=>h.2)⟩
theorem bh.ax{F:Nat->Prop}(h:bh w mb kb n M)(T:Touch F w w')(h1:¬F mb)(h2:¬F kb)(hF:∀b,F b->(∃t C,aF w b t C/\t≠90/\t≠87)\/∃es c,w.heap[b]?=some (.map es c)):bh w' mb kb n M:=by obtain⟨vb,g1,g2,g3⟩:=h;exact⟨vb,g1.ax T h1,vM g2 T hF,g3.ax T h2⟩
end
theorem DM(w:af)(mb kb n:Nat)(M:cR)(A:bh w mb kb n M)(hr:∀x∈M.l,κ x.dead*24<=140737488355328)(full:List aj)(hf:κ full<=9223372036854775807)(i:Int):Aae Aag 140 #[pz mb,.string (strOf full),i6 i] w λe w'=>Mp M.l (e9 M.l full i) w e w':=by
 obtain⟨vb,bm,os,_⟩:=A;have hv:=os.cm;obtain⟨a,cap,rfl⟩:=hv.slice;obtain⟨l,ab⟩:=bE (M.l);rw[<-ab]at hv hr bm ⊢;have u1:=ai w (.cells b6 90);have c1:(w.alloc (.cells b6 90)).cell? (ad mb 1)=some (.slice a (κ l) cap):=(bm.up u1).cell 1;obtain⟨w2,hw2⟩:=bE (w.alloc (.cells b6 90));have b2:=aF.new w 90 b6;rw[<-hw2]at b2 u1;obtain⟨HW2,IZ,OZ⟩:=aV hw2 gM gU;clear hw2 ab;go_in;go_wp2_with(refine arm ?_);rw[<-HW2.out];clear c1;refine(rQ _ _ l (hv.up u1) hr _ hf).mono ?_;rintro e w3(⟨n,hn,rfl,u3⟩|⟨k,vd,hk,hkl,rfl,od,u3⟩)
 ·have U3:=an (u1.trans u3);exact NF
 ·have U3:=an (u1.trans u3);obtain⟨x,hx⟩:=bE (recAt l k);obtain⟨HX,E2,E3,HK⟩:=bW hx (MG (i:=i) hk) (EI (i:=i) hk) hkl;rw[<-hx]at od E2 E3 ⊢;obtain⟨da,dc,rfl⟩:=(ak.row od pw).slice;refine Vi ?_;clear hx hk hkl;intro OD U4 B2_4 c6 g1 bl aB HBL;rw[<-aB]at c6 g1 E2 E3;clear aB;rcases g1 with g1|⟨g1,g2,g3⟩|⟨g1,g2,g3⟩
  ·exact Vo
  ·exact Vp
  ·have HE:=an (E3 (λh=>by
    rcases h with h|h
    ·rw[g1]at h;exact h
    ·rw[g3]at h;exact h))
   go_wp2_with(first|refine arm ?_|refine oJ ?_);intro wz hbz ag;obtain⟨UZ,OZ⟩:=aw (U4.grown ag (λk hk=>aQ)) (ak.kept OD ag (.inr (eB av B2_4 OD)));go_wp2_with fail;exact bG (.tuple #[.agg (b8 x (.slice da (κ x.dead) dc)),i6 0]) hbz (.inr ⟨k,_,HE,HK,by rw[<-HX.out],by rw[<-HX.out];exact OZ.mono (by have:=u1.size;omega),UZ⟩)
end
section
open Go.Maps
theorem xM(w:af)(mb kb n:Nat)(G:cR)(A:bh w mb kb n G)(hr:∀x∈G.l,κ x.dead*24<=140737488355328)(full:List aj)(hf:κ full<=9223372036854775807)(i:Int):Aae Aag 138 #[pz mb,.string (strOf full),i6 i] w λe w'=>Mp G.l (iU G.l full i) w e w':=by
 have u1:=ai w (.cells b6 90);obtain⟨w2,hw2⟩:=bE (w.alloc (.cells b6 90));have b2:=aF.new w 90 b6;rw[<-hw2]at b2 u1;obtain⟨HW2,IZ,OZ,SP⟩:=bW hw2 gM gU (jl w2 full hf);clear hw2;cases hs:dm full with
 | none=>have HE:=an (Hl (l:=G.l) (i:=i) (Mg hs));rw[hs]at SP;unfold gw at SP;clear hs;exact UO
 | some vs=>
  obtain⟨vn,sn⟩:=vs;have aa:=fX sn;by_cases h0:sn=[]
  ·have HE:=an (WS (l:=G.l) (i:=i) (Mh hs h0));rw[hs]at SP;unfold gw at SP;simp only at SP;rw[show decide (sn=[])=true from ab]at aa;have ae:((strOf sn).toList != [])=false:=by grind
   clear hs h0;go_in;go_wp2_with(refine arm ?_);rw[<-HW2.out];refine SP.mono ?_;rintro e w3⟨rfl,u3⟩;obtain⟨U3,ad⟩:=aw (u1.trans u3) (b2.up u3);go_wp2_with fail;obtain⟨U4,B2_4⟩:=aw U3 ad;refine((λ(W:af) (u:Up w2 W)=>DM W _ _ n G ((A.up u1).up u) hr _ hf i) w3 u3).mono ?_;exact N'
  ·have HE:=an (Hl (l:=G.l) (i:=i) (Mi hs h0));rw[hs]at SP;unfold gw at SP;simp only at SP;rw[show decide (sn=[])=false from ab]at aa;have ae:((strOf sn).toList != [])=true:=by grind
   clear hs h0;exact UO
end
section
open Go.Maps
theorem Hm(hg:o.guard=none)(m x v:bU)(hop:o.op=Op.mapUpdate 74 m x v)(kb n:Nat)(B:Nat->List k8)(hm:a.eval m=.map (some kb))(h:ev w kb n B)(hn:n<1000000)(i:Nat)(hx:a.eval x=u6 (i:Int))(hi:i<18446744073709551616)(l:List k8)(hv:a.eval v=.agg (k' l))(hl:κ l=64)(hK:∀w',ev w' kb (n+1) (mT B i l)->w.grownBy w' (some kb)->Aal Aag ops Q rest (a.put o.dst Aas) w'):Aal Aag ops Q (o::rest) a w:=by refine h' hg λK' hK'=>?_;obtain⟨w',hrun,r1,r2⟩:=h.put hn i hi l hl;exact Oc
def ev.len{B:Nat->List k8}(h:ev w b n B)(i:Nat):κ (B i)=64:=h.1 i
theorem Db{l:List k8}(h:κ l=64):(prog.info? 146).map (·.size)=some (k' l).size:=by rw[TT,n3,h]
theorem z'(x:k8):(prog.info? 145).map (·.size)=some (v' x).size:=by rw[XM,p0]
theorem Iz(w:af)(mb kb n:Nat)(M:cR)(A:bh w mb kb n M)(hn:n<1000000)(id:Nat)(hid:id<18446744073709551616)(k:Nat)(hk:k<64)(x:k8):Aae Aag 139 #[pz mb,u6 (id:Int),i6 (k:Int),.agg (v' x)] w λe w'=>e=rt #[]/\bh w' mb kb (n+1) {M with B:=mT M.B id ((M.B id).set k x)}/\Touch (·=kb) w w':=by
 have HA:=an A;obtain⟨vb,bm,os,ma⟩:=A;have u1:=ai w (.cells (v' x) 145);have c2:(w.alloc (.cells (v' x) 145)).cell? (ad mb 2)=some (.map (some kb)):=(bm.up u1).cell 2;have lk:=(ma.up u1).look id hid;have LL:=an (ma.len id);obtain⟨l,hl⟩:=bE (M.B id);have aD:=an hl;rw[<-hl]at lk LL;have IL:=an (z' x);obtain⟨u2,nb⟩:=az (ai (w.alloc (.cells (v' x) 145)) (.cells (k' l) 146)) (aF.new (w.alloc (.cells (v' x) 145)) 146 (k' l));rw[aN]at nb;have NB:=an nb;have hb:(0:Int)<=(k:Int)/\(k:Int)<((64:Nat):Int):=ae
 have aj:((k:Int)<64)=True:=ab
 obtain⟨HN,HI,HK,HM,HB,HO⟩:=ix hn hid hk ma bm os;clear hl hn hid;go_in;go_wp2_with(first
  | refine arm ?_
  | ((with_reducible refine cx _ _ _ ?_);refine fK _ rfl _ (.tmp 8) (.tmp 14) rfl _ _ (k' sf) rfl rfl rfl (Db LL) (by rw[n3,n3,LL.out];rfl) (S8 l) ?_)
  | ((with_reducible refine cx _ _ _ ?_);refine ch rfl _ (.tmp 17) (.tmp 16) rfl _ (k*129) _ rfl rfl _ _ NB IL (by rw[p0,n3,LL.out];omega) (Mz x) ?_))
 intro wz hbz ag;rw[(S7 l k di x)]at hbz;obtain⟨BZ,UZ⟩:=aw hbz ((u1.trans u2).grown ag (λk hk=>aQ));have c2:=(HB.up UZ).cell 2;have MZ:=an (HM.up UZ);clear lk hb aj;go_wp2;refine Ou ?_;change Ade _ _ (wz).drew (λa'=>Aal _ _ _ _ a' (wz).drew) _ _;have UD:=an (Up.drew (Up.refl (wz)));replace c2:=UD.cell c2;generalize(wz).drew=w5 at *;try simp only[Aao,fB]
 repeat(first
  | refine iJ rfl _ (.tmp 8) rfl _ rfl _ _ (BZ.up UD) _ underlying146 rfl (Db (l:=l.set k x) (by rw[Aat];exact LL)) ?_
  | still_step)
 refine hB ?_;go_wp2_with(first
  | (at_mapUpdate;refine Hm rfl (.tmp 21) (.tmp 22) (.tmp 23) rfl _ n _ rfl (MZ.up UD) HN id rfl HI (l.set k x) rfl (by rw[Aat];exact LL) ?_))
 intro w6 ay g6;go_wp2;go_end0;obtain⟨U5,aa⟩:=az (UZ.trans UD) (MZ.up UD);have T5:=Touch.bg (F:=(·=kb)) g6 (λk hk=>aQ);refine⟨rfl,⟨vb,(HB.up U5).ax T5 (λe=>aa.ne (HB.up U5) e.symm),vM (HO.up U5) T5 (λb hb=>.inr ?_),?_⟩,(Touch.bP U5).trans T5 (λ_ h _=>h)⟩
 ·subst hb;obtain⟨_,D,⟨es,clock,h,_⟩,_⟩:=aa;grind
 ·have:=ay;rw[aD.out]at this;exact this
end
section
open Go.Maps
def vq(nx:Nat)(vb vm:ah)(st made aa:Nat)(ab:ah):(Abx (nT nx vb vm st made).toList 0 (aO aa ab).toList).toArray=nT aa ab vm st made:=rfl
theorem Touch.and{F:Nat->Prop}{w w1 w2:af}(T:Touch F w w1){G:Nat->Prop}(S:Touch G w1 w2)(h:∀b,G b->F b\/w.heap.size<=b):Touch F w w2:=T.trans S (λb hb hl=>(h b hb).resolve_right ae)
def AL(x:ao):Nat:=if x.aT=true then x.owner else x.prev
def ss(M:cR)(nx:Nat)(l':List ao)(x:ao):cR:={M with next:=nx,l:=l',B:=mT M.B x.id (M.B (AL x))}
theorem K2(w:af)(mb nx n:Nat)(va:Option Adr)(vm vc:Nat)(hn:n≠0):Aae Aag 73 #[.pointer (some ⟨mb,0,none⟩),.agg (aO nx (.slice va vm vc)),.int .i64 (n:Int)] w λe w'=>e=.returned (.int .i64 (n:Int))/\Up w w':=by
 have nz:((n:Int) != 0)=true:=ab
 have U1:=an (ai w (.cells (aO nx (.slice va vm vc)) 73));go_in;go_wp2_with(first
  | refine hs 73 1 (aO nx (.slice va vm vc)) ?_)
 go_ret;exact⟨rfl,U1⟩
theorem QS(w:af)(mb kb n:Nat)(M:cR)(A:bh w mb kb n M)(hn:n<1000000)(nx:Nat)(v:ah)(l:List ao)(base:Nat)(hv:bc w base v l)(hr:∀x∈l,κ x.dead*24<=140737488355328)(k:Nat)(hk:aL l M.next=some k)(hw:∀x∈l,x.wf):Aae Aag 73 #[.pointer (some ⟨mb,0,none⟩),.agg (aO nx v),.int .i64 0] w λe w'=>e=.returned (.int .i64 0)/\bh w' mb kb (n+1) (ss M nx l (recAt l k))/\Touch (λb=>b=mb\/b=kb) w w':=by
 obtain⟨w0,rfl⟩:=bE w;obtain⟨a,cap,rfl⟩:=hv.cm.slice;obtain⟨vb,bm,os,ma⟩:=A;have c0:w0.cell? ⟨mb,0,none⟩=some (.int .u64 (M.next:Int)):=bm.cell 0;obtain⟨WF,s⟩:=az (hw _ (aI (cJ hk).1)) (Fr.start w0);go_in;go_wp2_with(refine fw s ?_;intro _ w s);refine ka _ s (λ_ h=>h) (λw s=>?_) al;repeat refine kt ?_
 refine xJ (λw _ s=>p' w _ l (hv.cm.up s.pure) hr M.next) ?_;rintro w _ s _ w'(⟨ay,_⟩|⟨j2,vd,aa,rfl,od,u⟩)
 case inl=>rw[hk]at ay;cases ay
 obtain rfl:k=j2:=dE (hk.symm.trans aa);obtain⟨na,nc,rfl⟩:=(ak.row od pw).slice;refine vm ?_;repeat(first|refine kx ?_|refine kt ?_)
 refine kn (λ_ w u s=>?_);refine ks (λw s=>?_);repeat(first|refine kx ?_|refine kt ?_)
 refine kd (λw u s=>?_);clear hk aa;generalize hy:recAt l k=y at *;replace hy:=an hy;have e0:w.cell? ⟨_,0,none⟩=some (.int .u64 (y.id:Int)):=(s.fg (t:=90) gG).cell 0;have e2:w.cell? ⟨_,2,none⟩=some (.bool y.aT):=(s.fg (t:=90) gG).cell 2;have e3:w.cell? ⟨_,3,none⟩=some (.int .u64 (y.owner:Int)):=(s.fg (t:=90) gG).cell 3;have e4:w.cell? ⟨_,4,none⟩=some (.int .u64 (y.prev:Int)):=(s.fg (t:=90) gG).cell 4;have c2:w.cell? ⟨mb,2,none⟩=some (.map (some kb)):=(bm.up s.pure).cell 2;obtain⟨fr,aR⟩:=bE (AL y);have ad:fr<18446744073709551616:=by rw[aR];unfold AL;split<;>first|exact WF.2.1|exact WF.2.2.1
 have HE:fr=if y.aT=true then y.owner else y.prev:=aR;replace aR:=an aR;have lk:=((ma.up s.pure).up (Up.drew (Up.refl w))).look fr ad;generalize y.aT=sn at *;cases sn;case' false=>rw[aY av]at HE;rw[<-HE]at e4;replace HE:=an HE;go_wp2_with fail
 case' true=>rw[bI rfl]at HE;rw[<-HE]at e3;replace HE:=an HE;go_wp2_with fail
 all_goals
  refine wJ 12 al al ?_;refine rK ?_;change Ade _ _ w.drew (λa'=>Aal _ _ _ _ a' w.drew) _ _;have UD:=Up.drew (Up.refl w);replace e0:=UD.cell e0;replace c2:=UD.cell c2;have s:=s.up UD;generalize w.drew=w7 at *;repeat still_step
  refine hB ?_;have m7:=ma.up s.pure;have B7:aF w7 _ 73 (aO nx (.slice a (κ l) cap)):=s.fg gG;go_wp2_with(at_mapUpdate;refine Hm rfl (.tmp 33) (.tmp 35) (.tmp 41) rfl kb n M.B rfl m7 hn y.id rfl WF.1 (M.B fr) rfl (ma.len fr) ?_);intro w8 ab g8;have T8:=Touch.bg (F:=(·=kb)) g8 (λk hk=>nR);have B8:=an (B7.ax T8 (λe=>m7.ne B7 e.symm));have D8:=(bm.up s.pure).ax T8 (λe=>m7.ne (bm.up s.pure) e.symm);clear lk e0 c2 e2;go_wp2_with(first
   | refine cY 73 4 B8 ?_
   | ((with_reducible refine cx 73 (.tmp 45) (.tmp 43) ?_);refine ch rfl 73 (.tmp 45) (.tmp 43) rfl mb 0 (aO nx (.slice a (κ l) cap)) rfl rfl 76 _ D8 (dW nx _) (by simp[nT,aO]) (hZ nx a (κ l) cap) ?_))
  intro w9 aM aJ;rw[vq]at aM;go_wp2_with fail;go_ret;have T9:=Touch.bg (F:=(·=mb)) aJ (λk hk=>nR);have s8:=vM ((hv.mono (bT _)).up s.pure) T8 (λb hb=>.inr (by subst hb;obtain⟨_,D,⟨es,clock,h,_⟩,_⟩:=m7;exact⟨es,clock,h⟩));have s9:=vM s8 T9 (λb hb=>.inl ⟨_,_,by subst hb;exact D8,av,av⟩);refine⟨rfl,⟨_,aM,s9,?_⟩,((Touch.bP (F:=λb=>b=mb\/b=kb) s.pure).and T8 (λb hb=>.inl (.inr hb))).and T9 (λb hb=>.inl (.inl hb))⟩;have:=ab.ax T9 (λe=>ab.ne D8 e);rw[aR.out,<-hy.out]at this;exact this
end
section
open Go.Maps
theorem aD.WC{α:Type}{f:α->ah}{w w':af}{v:ah}{l:List α}{F:Nat->Prop}(h:aD f w v l)(T:Touch F w w')(hF:l≠[]->∀b,v.ownBlock=some b->¬F b):aD f w' v l:=by
 rcases h with h|⟨b,off,cap,h1,h2,h3,h4,h5⟩
 ·exact .inl h
 ·exact .inr ⟨b,off,cap,h1,h2,h3,h4,λi hi=>fC (h5 i hi) T (hF aQ b zn)⟩
def wh(mb kb n:Nat)(r:Nat × cR)(w:af)(e:Ab2)(w':af):Prop:=e=.returned (.int .i64 (r.1:Int))/\bh w' mb kb (n+1) r.2/\Touch (λb=>b=mb\/b=kb) w w'
theorem bh.more{w:af}{mb kb n:Nat}{M:cR}(h:bh w mb kb n M):bh w mb kb (n+1) M:=by obtain⟨vb,a,b,c⟩:=h;exact⟨vb,a,b,c.mono (hU _)⟩
structure C7(M:cR):Prop where
 hl:κ M.l<=1000
 hd:∀x∈M.l,x.dead=[]
 wf:∀x∈M.l,x.wf
 bl:∀x∈M.l,x.blocks<=64
 nx:M.next<=100000000
 st:M.st<=100000000
 mv:M.made<=100000000
theorem C7.hr{M:cR}(h:C7 M):∀x∈M.l,κ x.dead*24<=140737488355328:=λx hx=>by rw[h.hd x hx];simp
def CV(M:cR)(id k:Nat)(x:k8):cR:={M with B:=mT M.B id ((M.B id).set k x)}
def lH(M:cR)(full:List aj)(i:Int)(b:List aj):Nat × cR:=match iU M.l full i with
 | .error n=>(n,M)
 | .ok k=>if h:κ b<=128 then(0,CV {M with made:=M.made+1} (recAt M.l k).id i.toNat (eS b h,M.made+1))else(92,M)
def sK(M:cR)(full:List aj)(i:Int):Nat × cR:=match iU M.l full i with
 | .error n=>(n,M)
 | .ok k=>(0,CV M (recAt M.l k).id i.toNat Hs)
section
variable {M:cR} {full b:List aj} {i:Int} {n k:Nat}
theorem JG(h:iU M.l full i=.error n):lH M full i b=(n,M):=by grind [lH]
theorem JH(h:iU M.l full i=.ok k)(hb:¬κ b<=128):lH M full i b=(92,M):=by grind [lH]
theorem CD(h:iU M.l full i=.ok k)(hb:κ b<=128):lH M full i b=(0,CV {M with made:=M.made+1} (recAt M.l k).id i.toNat (eS b hb,M.made+1)):=by grind [lH]
theorem Ph(h:iU M.l full i=.error n):sK M full i=(n,M):=by grind [sK]
theorem Hd(h:iU M.l full i=.ok k):sK M full i=(0,CV M (recAt M.l k).id i.toNat Hs):=by grind [sK]
end
theorem wh.bP{w w':af}{mb kb n r:Nat}{M:cR}(A:bh w mb kb n M)(u:Up w w'):wh mb kb n (r,M) w (.returned (i6 (r:Int))) w':=⟨rfl,(A.up u).more,Touch.bP u⟩
def Yi(nx:Nat)(vb vm:ah)(st made:Nat):(nT nx vb vm st made).setIfInBounds 4 (u6 ((made:Int)+1))=nT nx vb vm st (made+1):=rfl
theorem bh.made{mb kb n:Nat}{M:cR}(h:bh w mb kb n M):bh (w.setCell ⟨mb,4,none⟩ (u6 ((M.made:Int)+1))) mb kb n {M with made:=M.made+1}/\Touch (λb=>b=mb\/b=kb) w (w.setCell ⟨mb,4,none⟩ (u6 ((M.made:Int)+1))):=by obtain⟨vb,a,b,c⟩:=h;have T:=Touch.bg (F:=(·=mb)) (bZ a 4 (u6 ((M.made:Int)+1))) (λk hk=>aa);have a':=a.setCell 4 (u6 ((M.made:Int)+1));rw[Yi]at a';exact OS
theorem K8(w:af)(mb kb n:Nat)(M:cR)(A:bh w mb kb n M)(hn:n<1000000)(I:C7 M)(full:List aj)(hf:κ full<=9223372036854775807)(i:Int):Aae Aag 75 #[pz mb,.string (strOf full),i6 i] w (wh mb kb n (sK M full i) w):=by
 obtain⟨HN,IZ,OZ⟩:=aV hn gM gU;clear hn;go_in;go_wp2_with fail;refine(xM w _ _ n M A I.hr _ hf i).mono ?_;rintro e w2(⟨r,hv,rfl,u2⟩|⟨k,vd,hv,hkl,rfl,od,u2⟩)
 ·have E:=an (Ph hv);exact M1
 ·have E:=an (Hd hv);have ao:=p8 (show e9 M.l full i=.ok k from by unfold iU at hv;split at hv;cases hv;exact hv);obtain⟨x,hx⟩:=bE (recAt M.l k);obtain⟨aB,aL⟩:=az (I.bl _ (aI hkl)) (I.wf _ (aI hkl));rw[<-hx]at od ao aB aL E ⊢;obtain⟨da,dc,rfl⟩:=(ak.row od pw).slice;have b3:=aF.new w2 90 (b8 x (.slice da (κ x.dead) dc));have c0:(w2.alloc (.cells (b8 x (.slice da (κ x.dead) dc)) 90)).cell? (ad w2.heap.size 0)=some (u6 (x.id:Int)):=b3.cell 0;have u3:=u2.trans (ai w2 (.cells (b8 x (.slice da (κ x.dead) dc)) 90));obtain⟨j,hj⟩:∃j:Nat,i=(j:Int):=⟨i.toNat,ae⟩;subst hj;have PU:=an (Iz _ mb kb n M (A.up u3) HN x.id aL.1 j ae Hs);clear hv hx hkl ao aB;go_wp2_with(refine arm ?_);refine PU.mono ?_;rintro e w4⟨rfl,A4,T4⟩;clear c0;go_wp2;go_ret;rw[E.out];exact⟨rfl,A4,(Touch.bP u3).and T4 (λb hb=>.inl (.inr hb))⟩
theorem Iy(w:af)(mb kb n:Nat)(M:cR)(A:bh w mb kb n M)(hn:n<1000000)(I:C7 M)(full:List aj)(hf:κ full<=9223372036854775807)(i:Int)(v:ah)(b:List aj)(hb:a8 w v b)(aW:b≠[]->∀k,v.ownBlock=some k->k≠mb/\k≠kb):Aae Aag 74 #[pz mb,.string (strOf full),i6 i,v] w (wh mb kb n (lH M full i b) w):=by
 obtain⟨ba,bc,rfl⟩:=hb.slice;obtain⟨HN,bT,IZ,OZ⟩:=bW hn aW gM gU;clear hn aW;go_in;go_wp2_with fail;refine(xM w _ _ n M A I.hr _ hf i).mono ?_;rintro e w2(⟨r,hv,rfl,u2⟩|⟨k,vd,hv,hkl,rfl,od,u2⟩)
 ·have E:=an (JG (b:=b) hv);exact M1
 ·obtain⟨x,hx⟩:=bE (recAt M.l k);obtain⟨HX,HV,aJ⟩:=aV hx hv hkl;rw[<-hx]at od ⊢;obtain⟨da,dc,rfl⟩:=(ak.row od pw).slice;obtain⟨b3,u3⟩:=az (aF.new w2 90 (b8 x (.slice da (κ x.dead) dc))) (u2.trans (ai w2 (.cells (b8 x (.slice da (κ x.dead) dc)) 90)));clear hv hx hkl;by_cases ab:κ b<=128
  ·have b9:((κ b:Int)>128)=False:=cI ae;have ag:=an ab;have E:=an (CD HV ag);obtain⟨ao,aB,aL⟩:=cZ (p8 (show e9 M.l full i=.ok k from by have hv:=HV.out;unfold iU at hv;split at hv;cases hv;exact hv)) (I.bl _ (aI aJ)) (I.wf _ (aI aJ));rw[<-HX.out]at ao aB aL E;obtain⟨j,hj⟩:∃j:Nat,i=(j:Int):=⟨i.toNat,ae⟩;subst hj;obtain⟨HJ,HW⟩:=aw (show j<64 from ae) aL.1;obtain⟨m,hm⟩:=bE (M.made);have aP:m<=100000000:=by rw[hm];exact I.mv
   have aq:=an hm;obtain⟨w3,aa⟩:=bE (w2.alloc (.cells (b8 x (.slice da (κ x.dead) dc)) 90));rw[<-aa]at u3 b3;have A3:=A.up u3;have au:=an A3.made;obtain⟨vm,ar,a6,aG⟩:=A3;have c4:w3.cell? (ad mb 4)=some (u6 (m:Int)):=by rw[hm];exact ar.cell 4
   have f4:=ar.free 4;rw[aa]at c4 f4;have aC:=an aa;clear ao aB hm aa ab;go_wp2_with(first
    | refine bB 90 mQ ?_
    | refine eh 90 9 17 w2 (b8 x (.slice da (κ x.dead) dc)) 90 b6 ?_
    | ((with_reducible refine WY _ ?_);refine j8 ?_))
   rw[<-aC.out];have h4:=au.out;rw[<-aq.out]at h4;obtain⟨w4,hw4⟩:=bE (w3.setCell ⟨mb,4,none⟩ (u6 ((m:Int)+1)));rw[<-hw4]at h4 ⊢;have A4:=an h4.1;clear c4 f4 hw4;refine an ?_;go_wp2_with(first
    | refine arm ?_
    | ((with_reducible refine eP _ _ ?_);refine xg rfl _ 1 (.tmp 35) rfl _ _ (PL _) rfl ?_)
    | ((with_reducible refine cx 145 (.tmp 11) (.tmp 36) ?_);refine fK w4 rfl 145 (.tmp 11) (.tmp 36) rfl (v' (Hs.1,m+1)) 145 (v' Hs) rfl rfl rfl (z' (Hs.1,m+1)) (by rw[p0,p0]) (Mz (Hs.1,m+1)) ?_)
    | ((with_reducible refine zU (.tmp 38) (.tmp 39) 30 30 ?_);refine hJ rfl (.tmp 38) (.tmp 39) 30 30 rfl 5 Aa0 al aK cy w4.heap.size 0 128 128 rfl (.slice ba (κ b) bc) b rfl (aD.up ((aD.up hb u3).WC h4.2 (λhne k hk=>by have:=bT hne k hk;omega)) (ai w4 (.cells (v' (Hs.1,m+1)) 145))) ag 145 _ (aF.new w4 145 (v' (Hs.1,m+1))) (by rw[p0];have:=ag.out;omega) ?_))
   intro w6 aY _ aH;rw[Xp b ag.out]at aY;have U6:=an ((ai w4 (.cells (v' (Hs.1,m+1)) 145)).grown aH (λk hk=>tj));have e0:w6.cell? (ad w2.heap.size 0)=some (u6 (x.id:Int)):=((b3.ax h4.2 (by have:=ar;have hx:=e5 b3 this av;have hy:=aG.ne b3;rintro(h|h);exact hx h;exact hy h.symm)).up U6).cell 0;have PU:=an (Iz w6 mb kb n {M with made:=m+1} (A4.up U6) HN x.id HW j HJ (eS b ag,m+1));go_wp2_with(first
    | refine cY 145 11 aY (hi:=(z' (eS b ag,m+1))) ?_)
   refine PU.mono ?_;rintro e w7⟨rfl,A7,T7⟩;clear e0;go_wp2;go_ret;rw[E.out,<-aq.out];exact⟨rfl,A7,((Touch.bP u3).and h4.2 (λb hb=>.inl hb)).and ((Touch.bP (F:=λb=>b=mb\/b=kb) U6).and T7 (λb hb=>.inl (.inr hb))) (λb hb=>.inl hb)⟩
  ·have b9:((κ b:Int)>128)=True:=ee ae;have E:=an (JH HV ab);clear ab;go_wp2_with(first
    | refine bB 90 mQ ?_
    | refine eh 90 9 17 w2 (b8 x (.slice da (κ x.dead) dc)) 90 b6 ?_)
   go_ret;rw[E.out];exact wh.bP A u3
end
section
open Go.Maps
def ki(M:cR)(full:List aj)(i:Int):cS × Nat:=match e9 M.l full i with
 | .error n=>(⟨aM,rfl⟩,n)
 | .ok k=>((se (M.B (recAt M.l k).id) i.toNat).1,0)
section
variable {M:cR} {full:List aj} {i:Int} {n k:Nat}
theorem Pd(h:e9 M.l full i=.error n):ki M full i=(⟨aM,rfl⟩,n):=by grind [ki]
theorem GS(h:e9 M.l full i=.ok k):ki M full i=((se (M.B (recAt M.l k).id) i.toNat).1,0):=by grind [ki]
end
theorem K7(w:af)(mb kb n:Nat)(M:cR)(A:bh w mb kb n M)(I:C7 M)(full:List aj)(hf:κ full<=9223372036854775807)(i:Int):Aae Aag 76 #[pz mb,.string (strOf full),i6 i] w λe w'=>e=rt #[.agg (aC (ki M full i).1.val),i6 ((ki M full i).2:Int)]/\Up w w':=by
 obtain⟨u1,b1⟩:=az (ai w (.cells (aC aM) 60)) (aF.new w 60 (aC aM));obtain⟨w1,ay⟩:=bE (w.alloc (.cells (aC aM) 60));rw[<-ay]at u1 b1;obtain⟨HI,U1,B1,HW1,IZ,OZ,IS⟩:=yk I u1 b1 ay gM gU (show(prog.info? 60).map (·.size)=some (aC aM).size from dw);clear ay;go_in;go_wp2_with(refine arm ?_);rw[<-HW1.out];refine(DM _ _ _ n M (A.up u1) I.hr _ hf i).mono ?_;rintro e w2(⟨r,hv,rfl,u2⟩|⟨k,vd,hv,hkl,rfl,od,u2⟩)
 ·have E:=an (Pd hv);have nz:((r:Int) != 0)=true:=by have:=HZ hv;simp;omega
  clear hv;go_wp2_with(first
   | refine bB 90 mQ ?_
   | refine eh 90 8 15 w2 b6 90 b6 (hi:=IZ) (h1:=OZ) ?_
   | refine l7 60 ib ?_
   | refine db 60 6 19 (aC aM) ((B1.up u2).up (ai _ _)) (hi:=IS) ?_)
  intro wz hbz ag;obtain⟨BZ,UZ⟩:=aw hbz ((U1.trans (u2.trans (ai _ _))).grown ag (λk hk=>aQ));go_wp2;exact bG (hi:=IS) (.tuple #[.agg (aC aM),i6 (r:Int)]) BZ ⟨by rw[E.out],UZ⟩
 ·have E:=an (GS hv);obtain⟨ao,aB,aL⟩:=cZ (p8 hv) (HI.bl _ (aI hkl)) (HI.wf _ (aI hkl));obtain⟨x,hx⟩:=bE (recAt M.l k);rw[<-hx]at od ao aB aL E ⊢;obtain⟨da,dc,rfl⟩:=(ak.row od pw).slice;obtain⟨b3,u3⟩:=az (aF.new w2 90 (b8 x (.slice da (κ x.dead) dc))) (u2.trans (ai w2 (.cells (b8 x (.slice da (κ x.dead) dc)) 90)));have e0:(w2.alloc (.cells (b8 x (.slice da (κ x.dead) dc)) 90)).cell? (ad w2.heap.size 0)=some (u6 (x.id:Int)):=b3.cell 0;obtain⟨j,hj⟩:∃j:Nat,i=(j:Int):=⟨i.toNat,ae⟩;subst hj;have aa:j<64:=by omega
  have A3:=(A.up u1).up u3;obtain⟨vb,bm,os,ma⟩:=A3;have c2:(w2.alloc (.cells (b8 x (.slice da (κ x.dead) dc)) 90)).cell? (ad mb 2)=some (.map (some kb)):=bm.cell 2;obtain⟨lk,ix⟩:=az ((ma.up (Up.drew (Up.refl _))).look x.id aL.1) (QF (M.B x.id) (ma.len x.id) j aa);obtain⟨y,hy⟩:=bE (se (M.B x.id) j);rw[<-hy]at ix;have HY:=an hy;have fx:=TA y;have IY:=an (show(prog.info? 60).map (·.size)=some (aC y.1.val).size from by rw[dw,bX,y.1.2]);clear hv hx hkl ao aB hy aa;go_wp2_with(refine arm ?_);refine wJ 10 aA al ?_;refine rK ?_;change Ade _ _ (w2.alloc (.cells (b8 x (.slice da (κ x.dead) dc)) 90)).drew (λa'=>Aal _ _ _ _ a' (w2.alloc (.cells (b8 x (.slice da (κ x.dead) dc)) 90)).drew) _ _;have UD:=an (Up.drew (Up.refl (w2.alloc (.cells (b8 x (.slice da (κ x.dead) dc)) 90))));replace e0:=UD.cell e0;replace c2:=UD.cell c2;generalize(w2.alloc (.cells (b8 x (.slice da (κ x.dead) dc)) 90)).drew=w5 at *;try simp only[Aao,fB]
  repeat(first
   | still_step)
  refine hB ?_;go_wp2_with(first
   | refine db 60 6 30 (aC y.1.val) ((B1.up u3).up UD) (hi:=IY) (hold:=(by rw[bX,bX,y.1.2];rfl)) ?_)
  intro wz hbz ag;have UZ:=an (((U1.trans u3).trans UD).grown ag (λk hk=>aQ));clear ix fx lk e0 c2;go_wp2;exact bG (hi:=IY) (.tuple #[.agg (aC y.1.val),i6 0]) hbz ⟨by rw[E.out,HY.out];rfl,UZ⟩
end
section
open Go.Maps
theorem l3{w:af}{mb nx st made:Nat}{vb vm:ah}(h:aF w mb 76 (nT nx vb vm st made)):w.rangeAt mb 0 (aO nx vb).toList:=λj v hj=>by
 rw[h.cell,Aby];match j,hj with
 | 0,hj=>exact hj
 | 1,hj=>exact hj
def sm(M:cR)(full:List aj):Nat × cR:=match gI M.next M.l full with
 | .error n=>(n,M)
 | .ok (nx,l',x)=>(0,{M with next:=nx,l:=l',B:=mT M.B x.id (M.B x.prev)})
section
variable {M:cR} {full:List aj} {n nx:Nat} {l':List ao} {x:ao}
theorem Mx(h:gI M.next M.l full=.error n):sm M full=(n,M):=by grind [sm]
theorem My(h:gI M.next M.l full=.ok (nx,l',x)):sm M full=(0,{M with next:=nx,l:=l',B:=mT M.B x.id (M.B x.prev)}):=by grind [sm]
end
theorem OW{w w1 w2:af}{mb kb n nx:Nat}{M:cR}{B:Nat->List k8}{v:ah}{l:List ao}(A:bh w mb kb n M)(hs:bc w 0 v l)(m1:ev w1 kb (n+1) B)(g1:w.grownBy w1 (some kb))(b2:aF w2 mb 76 (nT nx v (.map (some kb)) M.st M.made))(g2:w1.grownBy w2 (some mb)):bh w2 mb kb (n+1) {M with next:=nx,l:=l,B:=B}/\Touch (λb=>b=mb\/b=kb) w w2:=by obtain⟨vb,a,b,c⟩:=A;have T1:=Touch.bg (F:=(·=kb)) g1 (λk hk=>aa);obtain⟨T2,a1⟩:=az (Touch.bg (F:=(·=mb)) g2 (λk hk=>aa)) (a.ax T1 (λe=>c.ne a e.symm));exact⟨⟨_,b2,(vM (vM hs T1 (λb hb=>.inr (by subst hb;obtain⟨_,D,⟨es,clock,h,_⟩,_⟩:=c;exact⟨es,clock,h⟩))) T2 (λb hb=>.inl ⟨_,_,by subst hb;exact a1,av,av⟩)),m1.ax T2 (λe=>m1.ne a1 e)⟩,(T1.mono (λ_ h=>.inr h)).and T2 (λb hb=>.inl (.inl hb))⟩
theorem K4(w:af)(mb kb n:Nat)(M:cR)(A:bh w mb kb n M)(hn:n<1000000)(I:C7 M)(full:List aj)(hf:κ full<=9223372036854775807):Aae Aag 80 #[pz mb,.string (strOf full)] w (wh mb kb n (sm M full) w):=by
 have HA:=an A;obtain⟨vb,bm,os,ma⟩:=A;have hv:=os.cm;obtain⟨a,cap,rfl⟩:=hv.slice;obtain⟨HI,HN,IZ,OZ⟩:=bW I hn gM gU;clear hn;go_in;go_wp2_with(first
  | refine cT 73 11 (aO M.next (.slice a (κ M.l) cap)) (l3 bm) ?_)
 refine(HC w _ _ _ hv I.hl I.hr _ hf).mono ?_;rintro e w2(⟨r,nx,va,vm,vc,hr,rfl,u2⟩|⟨nx,l2,x,v',vd,hr,rfl,ar,aC,u2⟩)
 ·have E:=an (Mx hr);have nz:((r:Int) != 0)=true:=by have:=Da hr;simp;omega
  obtain⟨IB,OB⟩:=aw (dW nx (.slice va vm vc)) (hZ nx va vm vc);refine U7 ?_;intro u3 u4 ba bb U4 BA BB S2;go_wp2_with(first
   | refine bB 73 iL ?_
   | refine bB 90 mQ ?_
   | refine db 73 5 15 (aO nx (.slice va vm vc)) BA ?_)
  intro w3 aP aD;obtain⟨B3,C3,U5,G3⟩:=bW aP (BB.grown aD aq) (U4.grown aD (λk hk=>FU)) aD;go_wp2_with(first
   | refine db 90 6 16 b6 C3 (hi:=IZ) (h1:=OZ) ?_)
  intro w4 au hg4;obtain⟨C4,B4,U6,G4⟩:=bW au (B3.grown hg4 aq) (U5.grown hg4 (λk hk=>FU)) hg4;clear hr;go_wp2;go_ret;rw[E.out];exact wh.bP HA U6
 ·have E:=an (My hr);obtain⟨i,j,hi,-,rfl,-,hx⟩:=z6 hr;have aL:x.wf:=by rw[hx];exact HI.wf _ (aI (l5 hi))
  obtain⟨da,dc,rfl⟩:=(ak.row aC pw).slice;clear hi hx hr;obtain⟨ab,cb,rfl⟩:=ar.cm.slice;obtain⟨IB,OB⟩:=aw (dW M.next (.slice ab (κ l2) cb)) (hZ M.next ab (κ l2) cb);refine U7 ?_;intro u3 u4 ba bb U4 BA BB S2;go_wp2_with(first
   | refine bB 73 iL ?_
   | refine bB 90 mQ ?_
   | refine db 73 5 15 (aO M.next (.slice ab (κ l2) cb)) BA ?_)
  intro w3 aP aD;obtain⟨B3,C3,U5,G3⟩:=bW aP (BB.grown aD aq) (U4.grown aD (λk hk=>FU)) aD;go_wp2_with(first
   | refine db 90 6 16 (b8 x (.slice da (κ x.dead) dc)) C3 ?_)
  intro w4 au hg4;obtain⟨C4,B4,U6,G4⟩:=bW au (B3.grown hg4 aq) (U5.grown hg4 (λk hk=>FU)) hg4;have aa:=an (show bc w4 0 (.slice ab (κ l2) cb) l2 from by have h0:Up w2 w4:=(((ai w2 (.cells (aO 0 (nl)) 73)).trans (ai _ (.cells b6 90))).grown G3 (λk hk=>tj)).grown G4 (λk hk=>by cases hk;omega);exact(ar.mono (bT _)).up h0)
  have e0:=C4.cell 0;have e4:w4.cell? (ad (w2.heap.size+1) 4)=some (u6 (x.prev:Int)):=C4.cell 4;have A4:=an (HA.up U6);have A5:=an (A4.up (Up.drew (Up.refl w4)));obtain⟨aH,aA,av,aG⟩:=A4.out;have c2:w4.cell? (ad mb 2)=some (.map (some kb)):=aA.cell 2;have ae:=an (aG.up (Up.drew (Up.refl _)));have lk:=ae.look x.prev aL.2.2.1;obtain⟨az,aB,B5⟩:=aV (aA.up (Up.drew (Up.refl _))) (aa.up (Up.drew (Up.refl w4))) (B4.up (Up.drew (Up.refl _)));go_wp2;refine wJ 13 al al ?_;refine rK ?_;change Ade _ _ (w4).drew (λa'=>Aal _ _ _ _ a' (w4).drew) _ _;have UD:=an (Up.drew (Up.refl (w4)));replace e0:=UD.cell e0;replace e4:=UD.cell e4;replace c2:=UD.cell c2;generalize(w4).drew=w5 at *;try simp only[Aao,fB]
  repeat(first
   | still_step)
  refine hB ?_;go_wp2_with(first
   | (at_mapUpdate;refine Hm rfl (.tmp 24) (.tmp 26) (.tmp 33) rfl _ n _ rfl ae HN x.id rfl aL.1 (M.B x.prev) rfl (ae.len x.prev) ?_))
  intro w6 ay g6;have T6:=Touch.bg (F:=(·=kb)) g6 (λk hk=>nR);clear lk e0 e4 c2;go_wp2_with(first
   | refine cY 73 5 (B5.ax T6 (λe=>ae.ne B5 e.symm)) ?_
   | ((with_reducible refine cx _ _ _ ?_);refine ch rfl _ (.tmp 37) (.tmp 35) rfl _ 0 _ rfl rfl _ _ (az.ax T6 (λe=>ae.ne az e.symm)) IB (by simp[nT,aO]) OB ?_))
  intro w7 ag aK;rw[vq]at ag;have H:=an (OW A5 aB ay g6 ag aK);go_wp2;go_ret;rw[E.out];exact⟨rfl,H.1,(Touch.bP (U6.trans UD)).and H.2 (λb hb=>.inl hb)⟩
end
section
open Go.Maps
def BM(l:List ao)(full:List aj):ao:=match dP l full with
 | .ok k=>recAt l k
 | .error _=>xk
def Qe(M:cR)(nx:Nat)(l':List ao)(id:Nat):cR:={M with next:=nx,l:=l',B:=mT M.B id sf}
def Dq(M:cR)(full:List aj):Bool->Except Nat (Nat × List ao)
 | true=>(dU M.next M.l full).map (λr=>(r.1,r.2.1))
 | false=>(cE M.next M.l full).map (λr=>(r.1,r.2.1))
def EG(M:cR)(full:List aj)(r:Except Nat (Nat × List ao)):Nat × cR:=match r with
 | .error n=>(n,M)
 | .ok (nx,l')=>(0,Qe M nx l' (BM M.l full).id)
def n9(M:cR)(full:List aj):Nat × cR:=match dm full with
 | none=>(141,M)
 | some (_,sn)=>EG M full (Dq M full (decide (sn=[])))
theorem Y8(hg:o.guard=none)(m x:bU)(hop:o.op=Op.call {callee:=Callee.builtin Builtin.delete,args:=#[m,x],argTypes:=#[74,70]})(kb n:Nat)(B:Nat->List k8)(hm:a.eval m=.map (some kb))(h:ev w kb n B)(i:Nat)(hx:a.eval x=u6 (i:Int))(hi:i<18446744073709551616)(hK:∀w',ev w' kb n (mT B i sf)->w.grownBy w' (some kb)->wpList prog ops Q rest (a.put o.dst (.tuple #[])) w'):wpList prog ops Q (o::rest) a w:=by refine h' hg λK' hK'=>?_;obtain⟨w',hrun,r1,r2⟩:=h.del i hi o.type;unfold Aca;simp[Abt,hop,resolve,invoke,builtin,hm,hx,hrun,Aap];exact hK' _ _ (hK w' r1 r2)
def JQ(l:List ao)(full:List aj)(w:af)(e:Ab2)(w':af):Prop:=∃(y:ao)(da:Option Adr)(dc n:Nat),y=BM l full/\e=.returned (.tuple #[.agg (b8 y (.slice da (κ y.dead) dc)),.int .i64 (n:Int)])/\Up w w'
theorem JQ.of{l:List ao}{full:List aj}{w w':af}(h:SL l (dP l full) w e w'):JQ l full w e w':=by
 rcases h with⟨n,hn,rfl,u⟩|⟨k,vd,hk,hkl,rfl,od,u⟩
 ·exact⟨xk,none,0,n,by grind [BM],rfl,u⟩
 ·obtain⟨da,dc,rfl⟩:=(ak.row od pw).slice;exact⟨recAt l k,da,dc,0,by grind [BM],rfl,u⟩
theorem K6(w:af)(mb kb n:Nat)(M:cR)(A:bh w mb kb n M)(hn:n<1000000)(I:C7 M)(full:List aj)(hf:κ full<=9223372036854775807):Aae Aag 81 #[.pointer (some ⟨mb,0,none⟩),.string (strOf full)] w (wh mb kb n (n9 M full) w):=by
 obtain⟨w0,rfl⟩:=bE w;have HA:=an A;obtain⟨vb,bm,os,ma⟩:=A;have hv:=os.cm;obtain⟨a,cap,rfl⟩:=hv.slice;have c1:w0.cell? ⟨mb,1,none⟩=some (.slice a (κ M.l) cap):=bm.cell 1;have rg:=l3 bm;have YI:(BM M.l full).id<18446744073709551616:=by
  unfold BM;split
  ·rename_i k hk;exact(I.wf _ (aI (l4 hk))).1
  ·show(0:Nat)<_;omega
 have s:=Fr.start w0;go_in;go_wp2_with(refine fw s ?_;intro _ w s);refine(jl _ full hf).mono ?_;refine er ?_;intro w u s;cases hs:dm full with
 | none=>simp only[gw];go_wp2_with(refine fw s ?_;intro _ w s);refine bj ?_;rw[show n9 M full=(141,M)from by unfold n9;rw[hs]];exact wh.bP HA s.pure
 | some vs=>
  obtain⟨vn,sn⟩:=vs;simp only[gw];have aa:=fX sn;have DM:=an (show n9 M full=EG M full (Dq M full (decide (sn=[])))from by unfold n9;rw[hs]);replace hs:=an hs;generalize decide (sn=[])=bs at *;go_wp2_with(refine fw s ?_;intro _ w s);refine(rQ w _ M.l (hv.up s.pure) I.hr full hf).mono ?_;intro e w h4;obtain⟨y,da,dc,n4,ak,rfl,u⟩:=JQ.of h4;have hy:=an ak;rw[<-ak]at YI;clear ak h4;have s:=s.up u;cases bs
  ·go_wp2_with(refine fw s ?_;intro _ w s);refine(uk w M.next _ M.l (hv.up s.pure) I.hl I.hr full hf).mono ?_;rintro e w(⟨r,nx,va,vm,vc,hr,rfl,u⟩|⟨nx,l2,x,v',vd,hr,rfl,os7,ar,u⟩)
   ·have nz:((r:Int) != 0)=true:=by have:=CM hr;simp;omega
    exact Nj
   ·exact Zr
  ·go_wp2_with(refine fw s ?_;intro _ w s);refine(xz w M.next _ M.l (hv.up s.pure) I.hl I.hr full hf).mono ?_;rintro e w(⟨r,nx,va,vm,vc,hr,rfl,u⟩|⟨nx,l2,x,v',vd,hr,rfl,os7,ar,u⟩)
   ·have nz:((r:Int) != 0)=true:=by have:=uo hr;simp;omega
    exact Nj
   ·exact Zr
end
section
open Go.Maps
structure oC where
 kind:Int
 name:List aj
 to:List aj
 n:Int
 data:List aj
def gx(o:oC)(vd vk:ah):Array ah:=#[.int .i64 o.kind,.string (strOf o.name),.string (strOf o.to),.int .i64 o.n,vd,vk]
def jr(r:Except Nat (Nat × List ao))(W:af)(nx:Nat)(va:Option Adr)(vm vc n:Nat):Prop:=(r=.error n/\n≠0)\/∃l',r=.ok (nx,l')/\n=0/\bc W 0 (.slice va vm vc) l'
section
variable {r:Except Nat (Nat × List ao)} {w w':af} {e:Ab2} {nx:Nat} {va:Option Adr} {vm vc n:Nat}
theorem jr.of(h:Hu r w e w')(hn:∀n,r=.error n->n≠0):∃nx va vm vc n,e=rt #[.agg (aO nx (.slice va vm vc)),i6 ((n:Nat):Int)]/\jr r w' nx va vm vc n/\Up w w':=by
 rcases h with⟨n,nx,va,vm,vc,hr,rfl,u⟩|⟨nx,l',v',hr,rfl,os,u⟩
 ·exact⟨nx,va,vm,vc,n,rfl,.inl ⟨hr,hn n hr⟩,u⟩
 ·obtain⟨a,c,rfl⟩:=os.cm.slice;exact⟨nx,a,κ l',c,0,rfl,.inr ⟨l',hr,rfl,os.mono (bT _)⟩,u⟩
theorem jr.up(h:jr r w nx va vm vc n)(u:Up w w'):jr r w' nx va vm vc n:=by
 rcases h with h|⟨l',hr,h0,os⟩
 ·exact .inl h
 ·exact .inr ⟨l',hr,h0,os.up u⟩
theorem jr.grown{q:Nat}{t:Aab}{C:Array ah}(h:jr r w nx va vm vc n)(b:aF w q t C)(ht:t≠90/\t≠87)(g:w.grownBy w' (some q)):jr r w' nx va vm vc n:=by
 rcases h with h|⟨l',hr,h0,os⟩
 ·exact .inl h
 ·exact .inr ⟨l',hr,h0,vM os (Touch.bg (F:=(·=q)) g (λk hk=>aa)) (λk hk=>.inl ⟨_,_,by subst hk;exact b,ht⟩)⟩
end
def IE(M:cR)(l':List ao):ao:=match aL l' M.next with
 | some k=>recAt l' k
 | none=>xk
def lg(M:cR)(r:Except Nat (Nat × List ao)):Nat × cR:=match r with
 | .error n=>(n,M)
 | .ok (nx,l')=>(0,ss M nx l' (IE M l'))
def D9(M:cR)(r:Except Nat (Nat × List ao)):Nat × cR:=match r with
 | .error n=>(n,M)
 | .ok (nx,l')=>(0,ss {M with st:=M.st+1} nx l' (IE M l'))
def Dc(M:cR)(r:Except Nat (Nat × List ao)):Nat × cR:=match r with
 | .error n=>(n,M)
 | .ok (nx,l')=>(0,{M with next:=nx,l:=l'})
def cC:cS:=⟨aM,rfl⟩
def Px(mb kb n:Nat)(s:cS)(r:Nat × cR)(w:af)(e:Ab2)(w':af):Prop:=e=.returned (.tuple #[.agg (aC s.val),.int .i64 (r.1:Int)])/\bh w' mb kb (n+1) r.2/\Touch (λb=>b=mb\/b=kb) w w'
theorem oP{w w7 wz:af}{mb kb n q:Nat}{M:cR}{F:Nat->Prop}(A:bh w7 mb kb n M)(T:Touch F w w7)(B:aF w7 q 60 C)(hq:w.heap.size<=q)(hg:w7.grownBy wz (some q)):bh wz mb kb n M/\Touch F w wz:=by have T1:=Touch.bg (F:=(·=q)) hg (λk hk=>aa);obtain⟨vb,a,b,c⟩:=A;refine⟨bh.ax ⟨vb,a,b,c⟩ T1 (λe=>e5 a B av e) (λe=>c.ne B e) (λk hk=>.inl ⟨_,_,by subst hk;exact B,av,av⟩),T.and T1 (λk hk=>.inr ae)⟩
def Kd{next:Nat}{l:List ao}{full:List aj}{b:Int}(n:Nat)(h:cU next l full b=.error n):n≠0:=xu h
def PZ{next:Nat}{l:List ao}{full to:List aj}(n:Nat)(h:dO next l full to=.error n):n≠0:=Ak h
def Wn{next:Nat}{l:List ao}{full:List aj}(n:Nat)(h:e4 next l full st=.error n):n≠0:=Ea h
def I0{next:Nat}{l:List ao}{full:List aj}(n:Nat)(h:cB next l full=.error n):n≠0:=vE h
theorem do2(w:af)(mb kb n:Nat)(M:cR)(A:bh w mb kb n M)(hn:n<1000000)(I:C7 M)(o:oC)(vd vk:ah)(hk:o.kind=2)(hf:κ o.name<=9223372036854775807):Aae Aag 29 #[pz mb,.agg (gx o vd vk)] w (Px mb kb n cC (sK M o.name o.n) w):=by refine UG ?_;intro w2 hw2 u1 u2 b1 b2 UU HW2 HA HN IS c0 c1 c3;rw[hw2]at c1;rw[hw2]at c3;rw[hw2]at c0;rw[hk]at c0;clear hk;go_in;go_wp2_with(refine arm ?_);rw[<-HW2.out];refine(K8 _ _ _ n M HA hn I _ hf _).mono ?_;refine zG ?_;intro w3 A3 T3 B3;clear c0 c1 c3;go_wp2_with(first|refine arm ?_|refine oJ ?_);refine zH ?_;intro wz hbz ag H;go_wp2;exact bG (hi:=IS) (.tuple #[.agg (aC aM),i6 (((sK M o.name o.n).1:Nat):Int)]) hbz ⟨rfl,H.1,H.2⟩
theorem do7(w:af)(mb kb n:Nat)(M:cR)(A:bh w mb kb n M)(hn:n<1000000)(I:C7 M)(o:oC)(vd vk:ah)(hk:o.kind=7)(hf:κ o.name<=9223372036854775807):Aae Aag 29 #[pz mb,.agg (gx o vd vk)] w (Px mb kb n cC (sm M o.name) w):=by refine UA ?_;clear hk;intro w2 hw2 u1 u2 b1 b2 UU HW2 HA HN IS c1 c0;go_wp2_with(refine arm ?_);rw[<-HW2.out];refine(K4 _ _ _ n M HA hn I _ hf).mono ?_;refine zG ?_;intro w3 A3 T3 B3;clear c0 c1;go_wp2_with(first|refine arm ?_|refine oJ ?_);refine zH ?_;intro wz hbz ag H;go_wp2;exact bG (hi:=IS) (.tuple #[.agg (aC aM),i6 (((sm M o.name).1:Nat):Int)]) hbz ⟨rfl,H.1,H.2⟩
theorem do8(w:af)(mb kb n:Nat)(M:cR)(A:bh w mb kb n M)(hn:n<1000000)(I:C7 M)(o:oC)(vd vk:ah)(hk:o.kind=8)(hf:κ o.name<=9223372036854775807):Aae Aag 29 #[pz mb,.agg (gx o vd vk)] w (Px mb kb n cC (n9 M o.name) w):=by refine UA ?_;clear hk;intro w2 hw2 u1 u2 b1 b2 UU HW2 HA HN IS c1 c0;go_wp2_with(refine arm ?_);rw[<-HW2.out];refine(K6 _ _ _ n M HA hn I _ hf).mono ?_;refine zG ?_;intro w3 A3 T3 B3;clear c0 c1;go_wp2_with(first|refine arm ?_|refine oJ ?_);refine zH ?_;intro wz hbz ag H;go_wp2;exact bG (hi:=IS) (.tuple #[.agg (aC aM),i6 (((n9 M o.name).1:Nat):Int)]) hbz ⟨rfl,H.1,H.2⟩
theorem do1(w:af)(mb kb n:Nat)(M:cR)(A:bh w mb kb n M)(hn:n<1000000)(I:C7 M)(o:oC)(vd vk:ah)(hk:o.kind=1)(hf:κ o.name<=9223372036854775807)(hb:a8 w vd o.data)(aW:o.data≠[]->∀k,vd.ownBlock=some k->k≠mb/\k≠kb):Aae Aag 29 #[pz mb,.agg (gx o vd vk)] w (Px mb kb n cC (lH M o.name o.n o.data) w):=by refine UG ?_;intro w2 hw2 u1 u2 b1 b2 UU HW2 HA HN IS c0 c1 c3;have c4:w2.cell? (ad w.heap.size 4)=some vd:=b1.cell 4;rw[hw2]at c1;rw[hw2]at c3;rw[hw2]at c4;rw[hw2]at c0;rw[hk]at c0;clear hk;go_in;go_wp2_with(refine arm ?_);rw[<-HW2.out];refine(Iy _ _ _ n M HA hn I _ hf _ _ _ (aD.up hb UU) aW).mono ?_;refine zG ?_;intro w3 A3 T3 B3;clear c0 c1 c3 c4;go_wp2_with(first|refine arm ?_|refine oJ ?_);refine zH ?_;intro wz hbz ag H;go_wp2;exact bG (hi:=IS) (.tuple #[.agg (aC aM),i6 (((lH M o.name o.n o.data).1:Nat):Int)]) hbz ⟨rfl,H.1,H.2⟩
theorem do3(w:af)(mb kb n:Nat)(M:cR)(A:bh w mb kb n M)(hn:n<1000000)(I:C7 M)(o:oC)(vd vk:ah)(hk:o.kind=3)(hf:κ o.name<=9223372036854775807):Aae Aag 29 #[pz mb,.agg (gx o vd vk)] w (Px mb kb n (ki M o.name o.n).1 ((ki M o.name o.n).2,M) w):=by
 refine UW ?_;intro w2 hw2 u1 u2 b1 b2 UU HW2 HA HN;have CA:=an (K7 _ _ _ n M HA I o.name hf o.n);obtain⟨sr,aa⟩:=bE (ki M o.name o.n);rw[<-aa]at CA ⊢;have IR:=an (show(prog.info? 60).map (·.size)=some (aC sr.1.val).size from by rw[dw,bX,sr.1.2]);clear aa;refine Od ?_;intro c0 c1 c3;rw[hw2]at c1;rw[hw2]at c3;rw[hw2]at c0;clear hn;rw[hk]at c0;clear hf hk;go_in;go_wp2_with(refine arm ?_);rw[<-HW2.out];refine CA.mono ?_;rintro e w3⟨rfl,u3⟩;have B3:=an (b2.up u3);clear c0 c1 c3;go_wp2_with(first
  | refine db 60 4 63 (aC sr.1.val) B3 (hi:=IR) (hold:=(by rw[bX,bX,sr.1.2];rfl)) ?_)
 intro wz hbz ag;have H:=an (oP ((HA.up u3).more) (Touch.bP (F:=λb=>b=mb\/b=kb) (UU.trans u3)) B3 (hU _) ag);go_wp2;exact bG (hi:=IR) (.tuple #[.agg (aC sr.1.val),i6 (sr.2:Int)]) hbz ⟨rfl,H.1,H.2⟩
def Vz(nx:Nat)(vb vm:ah)(st made:Nat):(nT nx vb vm st made).setIfInBounds 3 (u6 ((st:Int)+1))=nT nx vb vm (st+1) made:=rfl
theorem bh.stamped{mb kb n:Nat}{M:cR}(h:bh w mb kb n M):bh (w.setCell ⟨mb,3,none⟩ (u6 ((M.st:Int)+1))) mb kb n {M with st:=M.st+1}/\Touch (λb=>b=mb\/b=kb) w (w.setCell ⟨mb,3,none⟩ (u6 ((M.st:Int)+1))):=by obtain⟨vb,a,b,c⟩:=h;have T:=Touch.bg (F:=(·=mb)) (bZ a 3 (u6 ((M.st:Int)+1))) (λk hk=>aa);have a':=a.setCell 3 (u6 ((M.st:Int)+1));rw[Vz]at a';exact OS
theorem bh.IC{mb kb n:Nat}{M:cR}(h:bh w mb kb n M){q:Nat}{t:Aab}(b:aF w q t C)(ht:t≠76):¬(q=mb\/q=kb):=by
 obtain⟨vb,a,_,c⟩:=h;rintro(h|h)
 ·grind [e5]
 ·exact c.ne b h.symm
theorem do9(w:af)(mb kb n:Nat)(M:cR)(A:bh w mb kb n M)(hn:n<1000000)(I:C7 M)(o:oC)(vd vk:ah)(hk:o.kind=9):Aae Aag 29 #[pz mb,.agg (gx o vd vk)] w (Px mb kb n cC (0,{M with st:=M.st+1}) w):=by
 refine UW ?_;intro w2 hw2 u1 u2 b1 b2 UU HW2 HA HN;refine Gk ?_;intro IS c0;clear hn;rw[hk]at c0;obtain⟨m,hm⟩:=bE (M.st);have aP:m<=100000000:=by rw[hm];exact I.st
 have aq:=an hm;have A2:=HA.out;have HS:=an A2.stamped;obtain⟨vm,bm,_,_⟩:=A2;have c4:w2.cell? (ad mb 3)=some (u6 (m:Int)):=by rw[hm];exact bm.cell 3
 have f4:=bm.free 3;rw[hw2]at c4 f4;clear hk hm hw2;go_in;go_wp2_with(first
  | refine hs 33 1 (gx o vd vk) ?_
  | refine bB 60 hP ?_
  | ((with_reducible refine eP _ _ ?_);refine j8 ?_))
 rw[<-HW2.out];have h4:=HS.out;rw[<-aq.out]at h4;have b3:=b2.ax h4.2 (HA.IC b2 av);obtain⟨w4,hw4⟩:=bE (w2.setCell ⟨mb,3,none⟩ (u6 ((m:Int)+1)));rw[<-hw4]at h4 b3 ⊢;clear c4 f4 hw4 c0;refine an ?_;go_wp2_with(first
  | refine l7 60 ib ?_
  | refine db 60 4 157 (aC aM) b3 (hi:=IS) ?_)
 intro wz hbz ag;have H:=an (oP h4.1.more ((Touch.bP (F:=λb=>b=mb\/b=kb) UU).and h4.2 (λb hb=>.inl hb)) b3 (hU _) ag);go_wp2;exact bG (hi:=IS) (.tuple #[.agg (aC aM),i6 0]) hbz ⟨rfl,by have:=H.1;rw[aq.out]at this;exact this,H.2⟩
theorem doN(w:af)(mb kb n:Nat)(M:cR)(A:bh w mb kb n M)(hn:n<1000000)(I:C7 M)(o:oC)(vd vk:ah)(hk:o.kind<0\/9<o.kind):Aae Aag 29 #[pz mb,.agg (gx o vd vk)] w (Px mb kb n cC (0,M) w):=by
 refine KV ?_;intro w2 hw2 u1 u2 b1 b2 UU HW2;have HN:=an hn;refine Gk ?_;intro IS c0;clear hn;obtain⟨kd,aa⟩:=bE (o.kind);rw[<-aa]at c0 hk;refine UX ?_;intro e0 e1 e2 e3 e4 e5 e6 e7 e8 e9 B3;clear hk aa hw2;go_in;go_wp2_with(first
  | refine hs 33 1 (gx o vd vk) ?_
  | refine bB 60 hP ?_
  | ((with_reducible refine eP _ _ ?_);refine j8 ?_))
 rw[<-HW2.out];clear c0;refine an ?_;go_wp2_with(first
  | refine l7 60 ib ?_
  | refine db 60 4 157 (aC aM) B3 (hi:=IS) ?_)
 intro wz hbz ag;have H:=an (oP ((A.up UU).more) (Touch.bP (F:=λb=>b=mb\/b=kb) UU) B3 (hU _) ag);go_wp2;exact bG (hi:=IS) (.tuple #[.agg (aC aM),i6 0]) hbz ⟨rfl,H.1,H.2⟩
end
section
open Go.Maps
def xl(next:Nat)(r:Except Nat (Nat × List ao)):Prop:=∀nx l',r=.ok (nx,l')->(∀x∈l',x.dead=[]/\x.wf)/\∃k,aL l' next=some k
theorem wS(w:af)(mb kb n:Nat)(M:cR)(A:bh w mb kb n M)(hn:n<1000000)(r:Except Nat (Nat × List ao))(nx:Nat)(va:Option Adr)(vm vc nn:Nat)(Q:jr r w nx va vm vc nn)(N:xl M.next r):Aae Aag 73 #[pz mb,.agg (aO nx (.slice va vm vc)),i6 (nn:Int)] w (wh mb kb n (lg M r) w):=by
 rcases Q with⟨hr,h0⟩|⟨l',hr,rfl,os⟩
 ·refine(K2 w mb nx nn va vm vc h0).mono ?_;grind [lg,wh.bP]
 ·obtain⟨h1,k,hk⟩:=N nx l' hr;refine(QS w mb kb n M A hn nx _ l' 0 os (λx hx=>aa) k hk (λx hx=>(h1 x hx).2)).mono ?_;rintro e w'⟨rfl,a,t⟩;rw[show lg M r=(0,ss M nx l' (recAt l' k))from by grind [lg,IE]];exact⟨rfl,a,t⟩
theorem do0(w:af)(mb kb n:Nat)(M:cR)(A:bh w mb kb n M)(hn:n<1000000)(I:C7 M)(o:oC)(vd vk:ah)(hk:o.kind=0)(hf:κ o.name<=9223372036854775807)(aj:xl M.next (cU M.next M.l o.name o.n)):Aae Aag 29 #[pz mb,.agg (gx o vd vk)] w (Px mb kb n cC (lg M (cU M.next M.l o.name o.n)) w):=by
 refine Gf ?_;intro w2 hw2 u1 u2 b1 b2 UU B1 B2 HW2 HA HN HI IS vb bm os ma hv;obtain⟨a,cap,rfl⟩:=hv.slice;obtain⟨CA,RNZ⟩:=aw (λW (u:Up w2.drew W)=>Ap W M.next _ M.l ((hv.up (Up.drew (Up.refl w2))).up u) I.hl I.hr FR o.name hf o.n) (λn (h:cU M.next M.l o.name o.n=.error n)=>Kd n h);obtain⟨RR,ak⟩:∃z:Subtype (λ_:Except Nat (Nat × List ao)=>True),z=⟨cU M.next M.l o.name o.n,trivial⟩:=⟨_,rfl⟩;have HRR:=an (show RR.val=cU M.next M.l o.name o.n from by rw[ak]);rw[<-HRR.out]at CA RNZ aj ⊢;have HNEW:=an aj;refine K1 ?_;clear hn hf hk ak;intro c0;go_wp2_with(refine arm ?_);refine M2 ?_;clear c0 hw2 HW2;intro UD ab;generalize w2.drew=w4 at *;refine zy ?_;intro us;refine tb 3 rfl (yp (λ_ h=>h.range (UD.range (l3 bm))) (dW _ _) underlying73) ?_;refine ta 4 ?_;refine tb 5 rfl (yc (λ_ h=>h.cell (ab.cell 1))) ?_;refine ta 6 ?_;refine tb 7 rfl (yc (λ_ h=>h.cell (ab.cell 3))) ?_;refine bA ?_;refine(λ(FIN:∀(q:Nat)(W:af)(nx:Nat)(va:Option Adr)(vm vc nn:Nat),Hid (Up w4 W/\aF W q 73 (aO 0 (nl))/\w4.heap.size<=q/\jr RR.val W nx va vm vc nn)->(?G1:Nat->af->Nat->Option Adr->Nat->Nat->Nat->Prop) q W nx va vm vc nn)=>?main) ?tail
 case main=>exact Oe
 case tail=>intro q W nx va vm vc nn HP;refine ok 13 ?_;intro K hK;refine iK _ (.tmp 6) (.tmp 28) rfl q _ rfl rfl _ _ HP.2.1 (dW _ _) rfl (hZ _ _ _ _) ?_;exact Uz
end
section
open Go.Maps
theorem do5(w:af)(mb kb n:Nat)(M:cR)(A:bh w mb kb n M)(hn:n<1000000)(I:C7 M)(o:oC)(vd vk:ah)(hk:o.kind=5)(hf:κ o.name<=9223372036854775807)(av:κ o.to<=9223372036854775807)(aj:xl M.next (dO M.next M.l o.name o.to)):Aae Aag 29 #[pz mb,.agg (gx o vd vk)] w (Px mb kb n cC (lg M (dO M.next M.l o.name o.to)) w):=by
 refine Gf ?_;intro w2 hw2 u1 u2 b1 b2 UU B1 B2 HW2 HA HN HI IS vb bm os ma hv;obtain⟨a,cap,rfl⟩:=hv.slice;obtain⟨CA,RNZ⟩:=aw (λW (u:Up w2.drew W)=>Dj W M.next _ M.l ((hv.up (Up.drew (Up.refl w2))).up u) I.hl I.hr FR o.name o.to hf av) (λn (h:dO M.next M.l o.name o.to=.error n)=>PZ n h);obtain⟨RR,ak⟩:∃z:Subtype (λ_:Except Nat (Nat × List ao)=>True),z=⟨dO M.next M.l o.name o.to,trivial⟩:=⟨_,rfl⟩;have HRR:=an (show RR.val=dO M.next M.l o.name o.to from by rw[ak]);rw[<-HRR.out]at CA RNZ aj ⊢;have HNEW:=an aj;have c0:w2.cell? (ad w.heap.size 0)=some (i6 o.kind):=B1.cell 0;rw[hw2]at c0;clear hn;rw[hk]at c0;clear hf hk ak av;go_in;go_wp2_with(refine arm ?_);refine M2 ?_;clear c0 hw2 HW2;intro UD ab;generalize w2.drew=w4 at *;refine zy ?_;intro us;refine tb 3 rfl (yp (λ_ h=>h.range (UD.range (l3 bm))) (dW _ _) underlying73) ?_;refine ta 4 ?_;refine tb 5 rfl (yc (λ_ h=>h.cell (ab.cell 1))) ?_;refine ta 6 ?_;refine tb 7 rfl (yc (λ_ h=>h.cell (ab.cell 2))) ?_;refine bA ?_;refine(λ(FIN:∀(q:Nat)(W:af)(nx:Nat)(va:Option Adr)(vm vc nn:Nat),Hid (Up w4 W/\aF W q 73 (aO 0 (nl))/\w4.heap.size<=q/\jr RR.val W nx va vm vc nn)->(?G1:Nat->af->Nat->Option Adr->Nat->Nat->Nat->Prop) q W nx va vm vc nn)=>?main) ?tail
 case main=>exact Oe
 case tail=>intro q W nx va vm vc nn HP;refine ok 13 ?_;intro K hK;refine iK _ (.tmp 10) (.tmp 107) rfl q _ rfl rfl _ _ HP.2.1 (dW _ _) rfl (hZ _ _ _ _) ?_;exact Uz
end
section
open Go.Maps
theorem do6(w:af)(mb kb n:Nat)(M:cR)(A:bh w mb kb n M)(hn:n<1000000)(I:C7 M)(o:oC)(vd vk:ah)(hk:o.kind=6)(hf:κ o.name<=9223372036854775807):Aae Aag 29 #[pz mb,.agg (gx o vd vk)] w (Px mb kb n cC (Dc M (cB M.next M.l o.name)) w):=by
 refine Gf ?_;intro w2 hw2 u1 u2 b1 b2 UU B1 B2 HW2 HA HN HI IS vb bm os ma hv;obtain⟨a,cap,rfl⟩:=hv.slice;obtain⟨CA,RNZ⟩:=aw (λW (u:Up w2.drew W)=>xW W M.next _ M.l ((hv.up (Up.drew (Up.refl w2))).up u) I.hl I.hr o.name hf) (λn (h:cB M.next M.l o.name=.error n)=>I0 n h);obtain⟨RR,ak⟩:∃z:Subtype (λ_:Except Nat (Nat × List ao)=>True),z=⟨cB M.next M.l o.name,trivial⟩:=⟨_,rfl⟩;have HRR:=an (show RR.val=cB M.next M.l o.name from by rw[ak]);rw[<-HRR.out]at CA RNZ ⊢;refine K1 ?_;clear hn hf hk ak;intro c0;go_wp2_with(refine arm ?_);rw[<-HW2.out];refine e7 (S:=Up w2.drew) al ?_;refine OE ?_;intro UD;clear c0 hw2 HW2;generalize w2.drew=w4 at *;refine zy ?_;intro us;refine tb 3 rfl (yp (λ_ h=>h.range (UD.range (l3 bm))) (dW _ _) underlying73) ?_;refine ta 4 ?_;refine tb 5 rfl (yc (λ_ h=>h.cell ((B1.up UD).cell 1))) ?_;refine bA ?_;refine(λ(FIN:∀(q:Nat)(W:af)(nx:Nat)(va:Option Adr)(vm vc nn:Nat),Hid (Up w4 W/\aF W q 73 (aO 0 (nl))/\w4.heap.size<=q/\jr RR.val W nx va vm vc nn)->(?G1:Nat->af->Nat->Option Adr->Nat->Nat->Nat->Prop) q W nx va vm vc nn)=>?main) ?tail
 case main=>
  refine qa 6 10 al rfl rfl rfl rfl ?_ ?_
  ·intro K hK;go_simp;refine(CA w4 (Up.refl _)).mono ?_;intro e w5 h;obtain⟨nx,va,vm,vc,nn,rfl,rq,u5⟩:=jr.of h RNZ;refine Vr ?_;clear hK K;intro u6 b6 aD s5;refine F' ?_;refine ok 10 ?_;exact Vj
  ·refine Vs ?_;intro u5 b5;refine ok 6 ?_;intro K hK;go_simp;refine(CA _ u5).mono ?_;intro e W h;obtain⟨nx,va,vm,vc,nn,rfl,rq,au⟩:=jr.of h RNZ;obtain⟨u6,b6,s5⟩:=cZ (u5.trans au) (b5.up au) (aE w4.heap.size);refine hK _ _ u6 ?_;refine gC ?_;clear hK K;obtain⟨q,hq⟩:=bE (w4.heap.size);rw[<-hq]at b6 ⊢;refine F' ?_;exact FIN q W nx va vm vc nn (an ⟨u6,b6,ae,rq⟩)
 case tail=>
  intro q W nx va vm vc nn HP;obtain⟨IB,OB⟩:=aw (dW nx (.slice va vm vc)) (hZ nx va vm vc);refine ok 11 ?_;intro K hK;refine iK _ (.tmp 12) (.tmp 124) rfl q _ rfl rfl _ _ HP.2.1 IB rfl OB ?_;intro w6 aY aH;have u6:=HP.1.grown aH (λk hk=>by cases hk;exact HP.2.2.1);obtain⟨U6,A6,aa⟩:=aV ((UU.trans UD).trans u6) ((HA.up UD).up u6) ((B2.up UD).up u6);refine hK _ _ u6 ?_;clear hK K CA RNZ;refine bA ?_;refine ta 12 ?_;refine nr ?_;rcases(HP.2.2.2.grown HP.2.1 av aH)with⟨hr,h0⟩|⟨l2,hr,h0,ar⟩
  ·have hne:((nn:Int)==0)=false:=by simp;omega
   obtain⟨E,AA,TT⟩:=aV (show Dc M RR.val=(nn,M)from by rw[hr];rfl) A6.more (Touch.bP (F:=λb=>b=mb\/b=kb) U6);clear hr h0;go_wp2_with(first|refine arm ?_|refine oJ ?_);intro wz hbz ag;obtain⟨BZ,H⟩:=aw hbz (oP AA TT aa (hU _) ag);go_wp2;(try simp only[exi]);exact bG (hi:=IS) (.tuple #[.agg (aC aM),i6 (nn:Int)]) BZ ⟨zm,F4,H.2⟩
  ·subst h0;have E:=an (show Dc M RR.val=(0,{M with next:=nx,l:=l2})from by rw[hr];rfl);have aI:=A6;obtain⟨aK,ab,aG,ay⟩:=aI;clear hr;go_wp2_with(first
    | refine arm ?_
    | ((with_reducible refine cx _ _ _ ?_);refine ch rfl _ (.tmp 131) (.tmp 129) rfl _ 0 _ rfl rfl _ _ ab IB (by simp[nT,aO]) OB ?_))
   intro w8 aj aB;rw[vq]at aj;have T8:=Touch.bg (F:=(·=mb)) aB (λk hk=>nR);obtain⟨AA,TT,B8⟩:=aV (show bh w8 mb kb (n+1) {M with next:=nx,l:=l2} from⟨_,aj,vM ar T8 (λb hb=>.inl ⟨_,_,by subst hb;exact ab,av,av⟩),(ay.ax T8 (λe=>ay.ne ab e)).mono (hU _)⟩) ((Touch.bP (F:=λb=>b=mb\/b=kb) U6).and T8 (λb hb=>.inl (.inl hb))) (aa.ax T8 (λe=>e5 ab aa av e.symm));go_wp2_with(first|refine arm ?_|refine oJ ?_);intro wz hbz ag;have H:=an (oP AA TT B8 (hU _) ag);go_wp2;(try simp only[exi]);exact bG (hi:=IS) (.tuple #[.agg (aC aM),i6 0]) hbz ⟨zm,F4,H.2⟩
end
section
open Go.Maps
theorem do4(w:af)(mb kb n:Nat)(M:cR)(A:bh w mb kb n M)(hn:n<1000000)(I:C7 M)(o:oC)(vd vk:ah)(hk:o.kind=4)(hf:κ o.name<=9223372036854775807)(aj:xl M.next (e4 M.next M.l o.name M.st)):Aae Aag 29 #[pz mb,.agg (gx o vd vk)] w (Px mb kb n cC (D9 M (e4 M.next M.l o.name M.st)) w):=by
 refine Gf ?_;intro w2 hw2 u1 u2 b1 b2 UU B1 B2 HW2 HA HN HI IS vb bm os ma hv;obtain⟨a,cap,rfl⟩:=hv.slice;obtain⟨CA,RNZ⟩:=aw (λW (u:Up w2.drew W)=>Jk W M.next _ M.l ((hv.up (Up.drew (Up.refl w2))).up u) I.hl I.hr FR o.name hf M.st (by have:=I.st;omega)) (λn (h:e4 M.next M.l o.name M.st=.error n)=>Wn n h);obtain⟨RR,ak⟩:∃z:Subtype (λ_:Except Nat (Nat × List ao)=>True),z=⟨e4 M.next M.l o.name M.st,trivial⟩:=⟨_,rfl⟩;have HRR:=an (show RR.val=e4 M.next M.l o.name M.st from by rw[ak]);rw[<-HRR.out]at CA RNZ aj ⊢;have HNEW:=an aj;refine K1 ?_;clear hn hf hk ak;intro c0;go_wp2_with(refine arm ?_);rw[<-HW2.out];refine e7 (S:=Up w2.drew) al ?_;change Acp _ _ _ _ _ 17 #[false,false,false,false,false,false,false,false,false,false,false,false,false,false,false,false,false] _ (w2.drew);have UD:=an (Up.drew (Up.refl w2));have A4:=an (HA.up UD);clear c0 hw2 HW2;generalize w2.drew=w4 at *;refine zy ?_;intro us;refine tb 3 rfl (yp (λ_ h=>h.range (UD.range (l3 bm))) (dW _ _) underlying73) ?_;refine ta 4 ?_;refine tb 5 rfl (yc (λ_ h=>h.cell ((B1.up UD).cell 1))) ?_;refine ta 6 ?_;refine ta 7 ?_;refine ta 8 ?_;refine tb 9 rfl (yc (λ_ h=>h.cell (by obtain⟨_,bm,_,_⟩:=A4.out;exact bm.cell 3))) ?_;refine bA ?_;refine(λ(FIN:∀(q:Nat)(W:af)(nx:Nat)(va:Option Adr)(vm vc nn:Nat),Hid (Up w4 W/\aF W q 73 (aO 0 (nl))/\w4.heap.size<=q/\jr RR.val W nx va vm vc nn)->(?G1:Nat->af->Nat->Option Adr->Nat->Nat->Nat->Prop) q W nx va vm vc nn)=>?main) ?tail
 case main=>
  refine qa 10 14 al rfl rfl rfl rfl ?_ ?_
  ·intro K hK;go_simp;refine(CA w4 (Up.refl _)).mono ?_;intro e w5 h;obtain⟨nx,va,vm,vc,nn,rfl,rq,u5⟩:=jr.of h RNZ;refine Vr ?_;clear hK K;intro u6 b6 aD s5;refine ta 11 ?_;refine ta 12 ?_;refine ta 13 ?_;refine bA ?_;refine ok 14 ?_;exact Vj
  ·refine Vs ?_;intro u5 b5;refine ok 10 ?_;intro K hK;go_simp;refine(CA _ u5).mono ?_;intro e W h;obtain⟨nx,va,vm,vc,nn,rfl,rq,au⟩:=jr.of h RNZ;obtain⟨u6,b6,s5⟩:=cZ (u5.trans au) (b5.up au) (aE w4.heap.size);refine hK _ _ u6 ?_;refine gC ?_;clear hK K;obtain⟨q,hq⟩:=bE (w4.heap.size);rw[<-hq]at b6 ⊢;refine ta 11 ?_;refine ta 12 ?_;refine ta 13 ?_;refine bA ?_;exact FIN q W nx va vm vc nn (an ⟨u6,b6,ae,rq⟩)
 case tail=>
  intro q W nx va vm vc nn HP;refine ok 15 ?_;intro K hK;refine iK _ (.tmp 8) (.tmp 79) rfl q _ rfl rfl _ _ HP.2.1 (dW _ _) rfl (hZ _ _ _ _) ?_;intro w6 aY aH;have u6:=HP.1.grown aH (λk hk=>by cases hk;exact HP.2.2.1);obtain⟨U6,RQ,BQ,A6,aa⟩:=eW ((UU.trans UD).trans u6) (HP.2.2.2.grown HP.2.1 av aH) aY (A4.up u6) ((B2.up UD).up u6);refine hK _ _ u6 ?_;clear hK K HP aH aY CA RNZ;refine bA ?_;refine ta 16 ?_;refine bA ?_;refine yO al ?_ _;clear u6;rcases RQ.out with⟨hr,h0⟩|⟨l2,hr,h0,ar⟩
  ·have hne:((nn:Int)==0)=false:=by simp;omega
   have E:=an (show D9 M RR.val=lg M RR.val from by rw[hr];rfl);clear hr h0;go_wp2_with(refine arm ?_);refine(wS _ _ _ n M A6 HN RR.val _ _ _ _ _ RQ HNEW).mono ?_;rintro e w7⟨rfl,A7,T7⟩;obtain⟨B7,AA,TT⟩:=aV (aa.ax T7 ((A6).IC aa av)) A7 ((Touch.bP (F:=λb=>b=mb\/b=kb) U6).and T7 (λb hb=>.inl hb));clear A7 T7;go_wp2_with(first|refine arm ?_|refine oJ ?_);intro wz hbz ag;obtain⟨BZ,H⟩:=aw hbz (oP AA TT B7 (hU _) ag);clear hbz ag;go_wp2_with fail;(try simp only[exi]);exact bG (hi:=IS) (.tuple #[.agg (aC aM),i6 ((lg (M) RR.val).1:Int)]) BZ ⟨zm,F4,H.2⟩
  ·subst h0;have E:=an (show D9 M RR.val=lg {M with st:=M.st+1} RR.val from by rw[hr];rfl);obtain⟨m,hm⟩:=bE (M.st);have aP:m<=100000000:=by rw[hm];exact HI.st
   have aq:=an hm;have aI:=A6;obtain⟨aK,ab,aG,ay⟩:=aI;have c4:w6.cell? (ad mb 3)=some (u6 (m:Int)):=by rw[hm];exact ab.cell 3
   have f4:=ab.free 3;have aB:=an (show jr RR.val (w6.setCell ⟨mb,3,none⟩ (u6 ((M.st:Int)+1))) nx va vm vc 0 from RQ.grown ab av (bZ ab 3 _));clear hr ar ab aG ay hm;go_wp2_with(first
    | ((with_reducible refine eP _ _ ?_);refine j8 ?_))
   obtain⟨h8,r8⟩:=az A6.stamped aB.out;rw[<-aq.out]at h8 r8;have b8:=aa.ax h8.2 (A6.IC aa av);have q8:=BQ.ax h8.2 (A6.IC BQ av);obtain⟨w8,aJ⟩:=bE (w6.setCell ⟨mb,3,none⟩ (u6 ((m:Int)+1)));rw[<-aJ]at h8 b8 q8 r8 ⊢;obtain⟨A8,B8,Q8,R8⟩:=bW (show bh w8 mb kb n {M with st:=M.st+1} from by have:=h8.1;rw[aq.out]at this;exact this) b8 q8 r8;clear c4 f4 aJ b8 q8 r8 aB;refine an ?_;go_wp2_with(refine arm ?_);refine(wS _ _ _ n _ A8 HN RR.val _ _ _ _ _ R8 HNEW).mono ?_;rintro e w7⟨rfl,A7,T7⟩;obtain⟨B7,AA,TT⟩:=aV (B8.ax T7 ((A8).IC B8 av)) A7 (((Touch.bP (F:=λb=>b=mb\/b=kb) U6).and h8.2 (λb hb=>.inl hb)).and T7 (λb hb=>.inl hb));clear A7 T7;go_wp2_with(first|refine arm ?_|refine oJ ?_);intro wz hbz ag;obtain⟨BZ,H⟩:=aw hbz (oP AA TT B7 (hU _) ag);clear hbz ag;go_wp2_with fail;(try simp only[exi]);exact bG (hi:=IS) (.tuple #[.agg (aC aM),i6 ((lg ({M with st:=M.st+1}) RR.val).1:Int)]) BZ ⟨zm,F4,H.2⟩
end
section
open Go.Maps
theorem LO(w:af)(v:ah)(l:List ao)(hv:bc w 0 v l)(hl:κ l<=1000):Aae Aag 71 #[v] w λe w'=>∃v',e=.returned v'/\bc w' 0 v' l/\Up w w':=by
 obtain⟨ys,hy,hr,hd⟩:=hv;have aB:κ ys<=1000:=aQ
 have row:=ak.row hr lV;obtain⟨a,cap,rfl⟩:=row.slice;obtain⟨HD,HY⟩:=aw hd hy;cases a with
 | none=>
  have h0:ys=[]:=by
   rcases row with⟨h,_⟩|⟨b,off,cp,h1,_⟩
   ·exact h
   ·simp at h1
  subst h0;have EQ:∀W,(binOp .eql 71 (.slice none 0 cap) (nl)).run Aag W=.ok (.bool true) W:=λW=>y' W 71 90 none _ cap 0 0 underlying71;clear hd hy;rw[Aa4];go_in;go_wp2;go_ret;exact⟨_,rfl,⟨[],HY,ak.nil _ _ _ _ _,λy hy=>aQ⟩,Up.refl _⟩
 | some ad=>
  have U0:=an (ai w (.cells #[] 90));have EQ:∀W,(binOp .eql 71 (.slice (some ad) (κ ys) cap) (nl)).run Aag W=.ok (.bool false) W:=λW=>y' W 71 90 (some ad) _ cap 0 0 underlying71;clear hd hy;go_in;go_wp2_with(first
   | (at_builtin;refine bH lV rfl (.tmp 5) (.tmp 6) 71 rfl _ _ _ _ underlying71 kr rfl _ _ rfl (ak.made _ _ _ w _ (aE _)) _ _ rfl (aH.up row U0) ab ab U0.size ?_))
  intro v2 w2 aa ag ae;have U2:=an (U0.aG ae (aE _));go_wp2_with fail;go_ret;exact⟨_,rfl,⟨ys,HY,aa.mono (bT _),λy hy=>ak.up (HD y hy) U2⟩,U2⟩
theorem CN(w:af)(d:Nat)(t k e:Aab)(p:Option Nat)(h:P.underlying t=some (.map k e)):(Ach (d+1) t (.map p) (.map none)).run P w=.ok p.isNone w:=by cases p<;>simp[Ach,run_underlying h]
theorem HV(w:af)(t k e:Aab)(p:Option Nat)(h:P.underlying t=some (.map k e)):(binOp .eql t (.map p) (.map none)).run P w=.ok (.bool p.isNone) w:=by simp only[binOp];simp[show Op.equal t (.map p) (.map none)=Ach (9999+1) t (.map p) (.map none)from rfl,CN w 9999 t k e p h]
theorem JT(w:af)(t k e xT:Aab)(v:ah)(h:P.underlying t=some (.map k e)):(Instr.typeAssert (.iface t v) xT t false).run P w=.ok v w:=by simp[Instr.typeAssert,run_underlying h,go_sem,Aap]
theorem HM(w:af){r:Nat}{es:Array MapEntry}{clock:Nat}(t:Aab)(hb:w.heap[r]?=some (.map es clock)):(Acn #[.iface t (.map (some r))]).run Aag w=.ok (.iface t (.map (some w.heap.size))) (w.alloc (.map es clock)):=by
 have e:Acn #[.iface t (.map (some r))]=(getObj r >>= λo=>match o with
  | .map entries clock=>(newObj (.map entries clock) >>= λn=>pure (.iface t (.map (some n))))
  | _=>stuck "maps.clone: a map expected"):=rfl
 rw[e];simp[MapKept.run_getObj_map hb,Aap,go_sem]
theorem GB(w:af)(kb n:Nat)(B:Nat->List k8)(h:ev w kb n B):Aae Aag 72 #[.map (some kb)] w λe w'=>e=.returned (.map (some w.heap.size))/\ev w' w.heap.size n B/\Up w w':=by have HH:=an h;obtain⟨_,D,⟨es,clock,hb,_⟩,_⟩:=h;have hq:=λW=>HV (P:=Aag) W 74 _ _ (some kb) underlying74;go_in;go_wp2;rw[run_callFunc_extern func136 aA aA al (e:=Acn) al,HM w _ hb];simp only[Aap];rw[Fi];go_wp2;rw[JT _ _ _ _ _ _ underlying74];simp only[Aap];rw[Fi];go_wp2;go_ret;have hB:Up w (w.alloc (.map es clock)):=ai w _;exact⟨rfl,HH.heap ((MapKept.heap_alloc w _).1.trans hb.symm),hB⟩
theorem PM(nx:Nat)(a:Option Adr)(k c kb st made:Nat):prog.built 76 [(0,.agg (aO nx (.slice a k c))),(1,.map (some kb)),(2,u6 (st:Int)),(3,u6 (made:Int))]=some (nT nx (.slice a k c) (.map (some kb)) st made):=al
theorem PK(nx:Nat)(a:Option Adr)(k c:Nat):prog.built 73 [(0,u6 (nx:Int)),(1,.slice a k c)]=some (aO nx (.slice a k c)):=al
theorem K5(w:af)(mb kb n:Nat)(M:cR)(A:bh w mb kb n M)(hl:κ M.l<=1000):Aae Aag 28 #[pz mb] w λe w'=>∃aa ab,e=.returned (pz aa)/\w.heap.size<=aa/\w.heap.size<=ab/\bh w' aa ab n M/\Up w w':=by have ud:=Up.drew (Up.refl w);obtain⟨vb,bm,os,ma⟩:=A.up ud;obtain⟨a,cap,rfl⟩:=os.cm.slice;obtain⟨SC,MC,BM,UD,HS⟩:=eW (λW (u:Up w.drew W)=>LO W _ M.l (os.up u) hl) (λW (u:Up w.drew W)=>GB W kb n M.B (ma.up u)) bm ud (show w.heap.size<=w.drew.heap.size from ud.size);clear hl;go_in;go_wp2;refine e7 (S:=Up w.drew) al ?_;change Acp _ _ _ _ _ 28 #[false,false,false,false,false,false,false,false,false,false,false,false,false,false,false,false,false,false,false,false,false,false,false,false,false,false,false,false] _ (w.drew);generalize w.drew=w1 at *;have us:=Up.refl w1;refine o8 ?_;refine ta 3 ?_;refine tb 4 rfl (yc (λ_ h=>h.cell (BM.cell 0))) ?_;refine vg ?_;refine ta 8 ?_;refine tb 9 rfl (yc (λ_ h=>h.cell (BM.cell 1))) ?_;refine ta 12 ?_;refine ta 13 ?_;refine ta 14 ?_;refine tb 15 rfl (yc (λ_ h=>h.cell (BM.cell 2))) ?_;refine ta 17 ?_;refine ta 18 ?_;refine ta 19 ?_;refine tb 20 rfl (yc (λ_ h=>h.cell (BM.cell 3))) ?_;refine ta 21 ?_;refine ta 22 ?_;refine ta 23 ?_;refine tb 24 rfl (yc (λ_ h=>h.cell (BM.cell 4))) ?_;refine ok 10 ?_;intro K hK;go_simp;refine(SC w1 us).mono ?_;rintro e w2⟨v2,rfl,ar,u2⟩;obtain⟨a2,c2,rfl⟩:=ar.cm.slice;have aj:=MC w2 u2;refine hK _ _ u2 ?_;clear hK K SC MC;refine tb 11 rfl (xj al _ 0 1 (.tmp 7) (.tmp 13) rfl _ _ _ (PK _ _ _ _) rfl rfl) ?_;refine ok 16 ?_;intro K hK;go_simp;refine aj.mono ?_;rintro e w3⟨rfl,ag,u3⟩;obtain⟨S2,u4⟩:=az u2.size (u2.trans u3);obtain⟨k3,aA⟩:=bE (w2.heap.size);rw[<-aA]at ag ⊢;have K3:=an (show w1.heap.size<=k3 from ae);refine hK _ _ u4 ?_;clear hK K S2 aA;refine tb 25 rfl (Ep al _ 0 1 2 3 (.tmp 14) (.tmp 19) (.tmp 23) (.tmp 27) rfl _ _ _ _ _ (PM _ _ _ _ _ _ _) rfl rfl rfl rfl) ?_;refine ok 26 ?_;intro K hK;refine CC _ (.tmp 28) rfl _ rfl ?_;have u5:=ai w3 (.cells (nT M.next (.slice a2 (κ M.l) c2) (.map (some k3)) M.st M.made) 76);have B5:=an (aF.new w3 76 (nT M.next (.slice a2 (κ M.l) c2) (.map (some k3)) M.st M.made));refine hK _ _ (u4.trans u5) ?_;clear hK K;refine tk 27 (pz w3.heap.size) rfl ya (u4.trans u5) ?_;refine dn ?_;go_wp2;go_ret;exact⟨_,k3,rfl,by have h1:=HS.out;have h2:=u4.size;omega,by have h1:=HS.out;have h2:=K3.out;omega,⟨_,B5,(ar.up u3).up u5,ag.up u5⟩,(UD.trans u4).trans u5⟩
end
section
open Go.Maps
theorem En(hw:Aaa o (Aa1 ops a.tmps)=true)(t:Aab)(i0 i1 i2:Nat)(x0 x1 x2:bU)(ho:o.op=.build t #[(i0,x0),(i1,x1),(i2,x2)])(v0 v1 v2:ah)(C:Array ah)(hb:P.built t [(i0,v0),(i1,v1),(i2,v2)]=some C)(h0:a.eval x0=v0)(h1:a.eval x1=v1)(h2:a.eval x2=v2)(h:Aal P ops Q rest (a.put o.dst (.agg C)) w):Aal P ops Q (o::rest) a w:=qw hw λ_ hK=>wp_build t #[(i0,x0),(i1,x1),(i2,x2)] ho (by simp[hb,h0,h1,h2]) (hK _ _ (by simpa[hb,h0,h1,h2]using h))
def Lb:cR:=⟨1,[],λ_=>sf,2,0⟩
theorem JW(kb:Nat):prog.built 76 [(0,.agg (aO 1 (nl))),(1,.map (some kb)),(2,u6 2)]=some (nT 1 (nl) (.map (some kb)) 2 0):=al
theorem QT(w:af):Aae Aag 8 #[] w λe w'=>∃mb kb,e=.returned (.pointer (some ⟨mb,0,none⟩))/\w.heap.size<=mb/\w.heap.size<=kb/\bh w' mb kb 0 Lb/\Up w w':=by
 obtain⟨ma,u1,u2,b2⟩:=iv (ev.made w) (ai w (.map #[] 0)) (ai (w.alloc (.map #[] 0)) (.cells (nT 1 (.slice none 0 0) (.map (some w.heap.size)) 2 0) 76)) (aF.new (w.alloc (.map #[] 0)) 76 (nT 1 (.slice none 0 0) (.map (some w.heap.size)) 2 0));rw[aN]at b2;obtain⟨MA,B2,UU,BM⟩:=bW (ma.up u2) b2 (u1.trans u2) (JW w.heap.size);have hmm:=@run_makeMap Aag;clear ma u1 u2 b2;go_in;go_wp2_with(first
  | ((with_reducible refine eP 73 _ ?_);refine xg rfl 73 0 (.const (.int .u64 1)) rfl _ _ HE rfl ?_)
  | ((with_reducible refine eP 76 _ ?_);refine En rfl 76 0 1 2 (.tmp 1) (.tmp 2) (.const (.int .u64 2)) rfl _ _ _ _ BM rfl rfl rfl ?_)
  | refine hs 76 3 (nT 1 (.slice none 0 0) (.map (some w.heap.size)) 2 0) ?_)
 go_ret;exact⟨_,w.heap.size,rfl,hU _,aE _,⟨_,B2,⟨[],rfl,ak.nil _ _ _ _ _,λy hy=>by cases hy⟩,MA⟩,UU⟩
end
section
open Go.Maps
def lb(M:cR)(o:oC):cS × (Nat × cR):=if o.kind=0 then(cC,lg M (cU M.next M.l o.name o.n)) else if o.kind=1 then(cC,lH M o.name o.n o.data) else if o.kind=2 then(cC,sK M o.name o.n) else if o.kind=3 then((ki M o.name o.n).1,((ki M o.name o.n).2,M)) else if o.kind=4 then(cC,D9 M (e4 M.next M.l o.name M.st)) else if o.kind=5 then(cC,lg M (dO M.next M.l o.name o.to)) else if o.kind=6 then(cC,Dc M (cB M.next M.l o.name)) else if o.kind=7 then(cC,sm M o.name) else if o.kind=8 then(cC,n9 M o.name) else if o.kind=9 then(cC,(0,{M with st:=M.st+1})) else(cC,(0,M))
structure SN(w:af)(vd:ah)(o:oC):Prop where
 nm:κ o.name<=9223372036854775807
 to:κ o.to<=9223372036854775807
 bs:a8 w vd o.data
structure Zf(M:cR)(o:oC):Prop where
 k0:xl M.next (cU M.next M.l o.name o.n)
 k4:xl M.next (e4 M.next M.l o.name M.st)
 k5:xl M.next (dO M.next M.l o.name o.to)
theorem Bx(w:af)(mb kb n:Nat)(M:cR)(A:bh w mb kb n M)(hn:n<1000000)(I:C7 M)(o:oC)(vd vk:ah)(hi:SN w vd o)(aW:o.data≠[]->∀k,vd.ownBlock=some k->k≠mb/\k≠kb)(N:Zf M o):Aae Aag 29 #[pz mb,.agg (gx o vd vk)] w (Px mb kb n (lb M o).1 (lb M o).2 w):=by
 refine OT ?_;intro hk;rcases hk with h|h|h|h|h|h|h|h|h|h|h
 ·rw[show lb M o=(cC,lg M (cU M.next M.l o.name o.n))from gN];exact do0 w mb kb n M A hn I o vd vk h hi.nm N.k0
 ·rw[show lb M o=(cC,lH M o.name o.n o.data)from gN];exact do1 w mb kb n M A hn I o vd vk h hi.nm hi.bs aW
 ·rw[show lb M o=(cC,sK M o.name o.n)from gN];exact do2 w mb kb n M A hn I o vd vk h hi.nm
 ·rw[show lb M o=((ki M o.name o.n).1,((ki M o.name o.n).2,M))from gN];exact do3 w mb kb n M A hn I o vd vk h hi.nm
 ·rw[show lb M o=(cC,D9 M (e4 M.next M.l o.name M.st))from gN];exact do4 w mb kb n M A hn I o vd vk h hi.nm N.k4
 ·rw[show lb M o=(cC,lg M (dO M.next M.l o.name o.to))from gN];exact do5 w mb kb n M A hn I o vd vk h hi.nm hi.to N.k5
 ·rw[show lb M o=(cC,Dc M (cB M.next M.l o.name))from gN];exact do6 w mb kb n M A hn I o vd vk h hi.nm
 ·rw[show lb M o=(cC,sm M o.name)from gN];exact do7 w mb kb n M A hn I o vd vk h hi.nm
 ·rw[show lb M o=(cC,n9 M o.name)from gN];exact do8 w mb kb n M A hn I o vd vk h hi.nm
 ·grind [lb,cC,do9]
 ·rw[show lb M o=(cC,(0,M))by unfold lb;rw[aY ae,aY ae,aY ae,aY ae,aY ae,aY ae,aY ae,aY ae,aY ae,aY ae]]
  grind [doN]
end
section
open Go.Maps
def ea(G:ct)(R:Int->ct->Prop)(s:cS)(r:Int)(G3:ct):Prop:=s=cC/\∃G2,R r G2/\((r=0/\G3=G2)\/(r≠0/\G3=Qf G G2))
def Mr(G:ct)(full:List aj)(N:Int)(s:cS)(r:Int)(G3:ct):Prop:=G3=G/\((∃n:Nat,e9 G.l full N=.error n/\r=(n:Int)/\s=cC)\/(∃k,e9 G.l full N=.ok k/\tT G.P.C (recAt G.l k) N.toNat=some s/\r=0))
def Mt(G:ct)(s:cS)(r:Int)(G3:ct):Prop:=s=cC/\r=0/\∃b,κ b=cO G.l/\CI G b/\oE G b G3
def Sy(p:Nat)(H:aR)(R:cS->Int->ct->Prop)(w:af)(e:Ab2)(w':af):Prop:=∃(s:cS)(r:Int)(G3:ct)(gb':Nat)(H':aR)(vp:ah),e=.returned (.tuple #[.agg (aC s.val),.int .i64 r])/\R s r G3/\bL w' p gb' H' G3/\H'.h={H.h with vp:=vp}/\Touch (λk=>PF H k\/k=p) w w'/\n2 H H' w.heap.size vp
theorem bL.sec{w w':af}{p gb q:Nat}(A:bL w p gb H G)(hq:aF w q 60 C)(hn:∀b,PF H b->b≠q)(g:w.grownBy w' (some q)):bL w' p gb H G:=by have T:=Touch.bg (F:=(·=q)) g (λk hk=>aa);exact⟨A.fg.ax T (e5 A.fg hq av),A.ga.sec hq T hn⟩
theorem PA.VQ{w0 w w':af}{H H':aR}{P:bq}{q:Nat}(A:PA w' H' P)(hq:aF w' q 60 C)(hH:H'.h={H.h with vp:=vp})(hF:∀b,cM H.h b->b≠q)(hv:∀b,vp.ownBlock=some b->b≠q):∀b,PF H' b->b≠q:=by
 rintro b(rfl|rfl|hb)
 ·exact e5 A.fg hq av
 ·exact λe=>sR hq A.map av e.symm
 ·grind [ur]
theorem pd0(w:af)(p gb:Nat)(H:aR)(G:ct)(A:bL w p gb H G)(I:bm G)(B:pU G)(o:oC)(vd vk:ah)(hk:o.kind=0)(hf:κ o.name<=9223372036854775807):Aae Aag 26 #[pz p,.agg (gx o vd vk)] w (Sy p H (ea G (fW G (cU G.next G.l o.name o.n) id true)) w):=by
 refine Ux ?_;clear hk;intro w2 hw2 u1 u2 b1 b2 UU HW2 S2 LT IS c1 c3 c0;go_wp2_with(refine arm ?_);rw[<-HW2.out];refine(xS _ p _ H G (A.up UU) I B _ hf _).mono ?_;refine o' ?_;intro w3 r G2 vp gb' H' hR hH hAt T3 ao B3;have PP:=an (show ∃G3,ea G (fW G (cU G.next G.l o.name o.n) id true) cC r G3/\bL w3 p gb' H' G3 from by
  rcases hAt with⟨h0,ha⟩|⟨h0,ha⟩
  ·exact nu
  ·exact⟨_,⟨rfl,G2,hR,.inr ⟨h0,rfl⟩⟩,ha⟩)
 exact Vt
theorem pd2(w:af)(p gb:Nat)(H:aR)(G:ct)(A:bL w p gb H G)(I:bm G)(B:pU G)(o:oC)(vd vk:ah)(hk:o.kind=2)(hf:κ o.name<=9223372036854775807):Aae Aag 26 #[pz p,.agg (gx o vd vk)] w (Sy p H (ea G (lI G o.name o.n false ey)) w):=by
 refine Ux ?_;clear hk;intro w2 hw2 u1 u2 b1 b2 UU HW2 S2 LT IS c1 c3 c0;go_wp2_with(refine arm ?_);rw[<-HW2.out];refine(Rq _ p _ H G (A.up UU) I B _ hf _).mono ?_;refine o' ?_;intro w3 r G2 vp gb' H' hR hH hAt T3 ao B3;have PP:=an (show ∃G3,ea G (lI G o.name o.n false ey) cC r G3/\bL w3 p gb' H' G3 from by
  rcases hAt with⟨h0,ha⟩|⟨h0,ha⟩
  ·exact nu
  ·exact⟨_,⟨rfl,G2,hR,.inr ⟨h0,rfl⟩⟩,ha⟩)
 exact Vt
theorem pd4(w:af)(p gb:Nat)(H:aR)(G:ct)(A:bL w p gb H G)(I:bm G)(B:pU G)(o:oC)(vd vk:ah)(hk:o.kind=4)(hf:κ o.name<=9223372036854775807):Calls prog 26 #[pz p,.agg (gx o vd vk)] w (Sy p H (ea G (fW G (e4 G.next G.l o.name G.P.st) (λg:ct=>{g with P:={g.P with st:=g.P.st+1}}) true)) w):=by
 refine Ga ?_;clear hk;intro w2 hw2 u1 u2 b1 b2 UU HW2 S2 LT IS c1 c0;go_wp2_with(refine arm ?_);rw[<-HW2.out];refine(Rp _ p _ H G (A.up UU) I B _ hf).mono ?_;refine o' ?_;intro w3 r G2 vp gb' H' hR hH hAt T3 ao B3;have PP:=an (show ∃G3,ea G (fW G (e4 G.next G.l o.name G.P.st) (λg:ct=>{g with P:={g.P with st:=g.P.st+1}}) true) cC r G3/\bL w3 p gb' H' G3 from by
  rcases hAt with⟨h0,ha⟩|⟨h0,ha⟩
  ·exact nu
  ·exact⟨_,⟨rfl,G2,hR,.inr ⟨h0,rfl⟩⟩,ha⟩)
 exact Gy
theorem pd5(w:af)(p gb:Nat)(H:aR)(G:ct)(A:bL w p gb H G)(I:bm G)(B:pU G)(o:oC)(vd vk:ah)(hk:o.kind=5)(hf:κ o.name<=9223372036854775807)(av:κ o.to<=9223372036854775807):Aae Aag 26 #[pz p,.agg (gx o vd vk)] w (Sy p H (ea G (fW G (dO G.next G.l o.name o.to) id true)) w):=by
 refine UL ?_;intro w2 hw2 u1 u2 b1 b2 UU HW2 S2 LT IS c0;have c1:w2.cell? (ad w.heap.size 1)=some (.string (strOf o.name)):=b1.cell 1;have c2:w2.cell? (ad w.heap.size 2)=some (.string (strOf o.to)):=b1.cell 2;rw[hw2]at c0;rw[hw2]at c1;rw[hw2]at c2;rw[hk]at c0;clear hk;go_in;go_wp2_with(refine arm ?_);rw[<-HW2.out];refine(IV _ p _ H G (A.up UU) I B _ hf _ av).mono ?_;refine o' ?_;intro w3 r G2 vp gb' H' hR hH hAt T3 ao B3;have PP:=an (show ∃G3,ea G (fW G (dO G.next G.l o.name o.to) id true) cC r G3/\bL w3 p gb' H' G3 from by
  rcases hAt with⟨h0,ha⟩|⟨h0,ha⟩
  ·exact nu
  ·exact⟨_,⟨rfl,G2,hR,.inr ⟨h0,rfl⟩⟩,ha⟩)
 have HH:=an hH;clear hH hAt c0 c1 c2;go_wp2_with(first|refine arm ?_|refine oJ ?_);refine OF ?_;intro wz hbz ag TZ;go_wp2;exact bG (hi:=IS) (.tuple #[.agg (aC aM),i6 r]) hbz (by obtain⟨G3,h1,h2⟩:=PP.out;exact⟨cC,r,G3,gb',H',vp,rfl,h1,h2.sec B3 (PA.VQ (w0:=w) (w:=w) h2.ga.pa B3 HH (λb hb e=>FM) (λb hb e=>T')) ag,HH,TZ,ao.mono UU.size⟩)
theorem pd6(w:af)(p gb:Nat)(H:aR)(G:ct)(A:bL w p gb H G)(I:bm G)(B:pU G)(o:oC)(vd vk:ah)(hk:o.kind=6)(hf:κ o.name<=9223372036854775807):Aae Aag 26 #[pz p,.agg (gx o vd vk)] w (Sy p H (ea G (fW G (cB G.next G.l o.name) id false)) w):=by
 refine Ga ?_;clear hk;intro w2 hw2 u1 u2 b1 b2 UU HW2 S2 LT IS c1 c0;go_wp2_with(refine arm ?_);rw[<-HW2.out];refine(GN _ p _ H G (A.up UU) I B _ hf).mono ?_;refine o' ?_;intro w3 r G2 vp gb' H' hR hH hAt T3 ao B3;have PP:=an (show ∃G3,ea G (fW G (cB G.next G.l o.name) id false) cC r G3/\bL w3 p gb' H' G3 from by
  rcases hAt with⟨h0,ha⟩|⟨h0,ha⟩
  ·exact nu
  ·exact⟨_,⟨rfl,G2,hR,.inr ⟨h0,rfl⟩⟩,ha⟩)
 exact Gy
theorem pd7(w:af)(p gb:Nat)(H:aR)(G:ct)(A:bL w p gb H G)(I:bm G)(B:pU G)(o:oC)(vd vk:ah)(hk:o.kind=7)(hf:κ o.name<=9223372036854775807):Aae Aag 26 #[pz p,.agg (gx o vd vk)] w (Sy p H (ea G (oG G (gI G.next G.l o.name))) w):=by
 refine Ga ?_;clear hk;intro w2 hw2 u1 u2 b1 b2 UU HW2 S2 LT IS c1 c0;go_wp2_with(refine arm ?_);rw[<-HW2.out];refine(Rg _ p _ H G (A.up UU) I B _ hf).mono ?_;refine o' ?_;intro w3 r G2 vp gb' H' hR hH hAt T3 ao B3;have PP:=an (show ∃G3,ea G (oG G (gI G.next G.l o.name)) cC r G3/\bL w3 p gb' H' G3 from by
  rcases hAt with⟨h0,ha⟩|⟨h0,ha⟩
  ·exact nu
  ·exact⟨_,⟨rfl,G2,hR,.inr ⟨h0,rfl⟩⟩,ha⟩)
 exact Gy
theorem pd8(w:af)(p gb:Nat)(H:aR)(G:ct)(A:bL w p gb H G)(I:bm G)(B:pU G)(o:oC)(vd vk:ah)(hk:o.kind=8)(hf:κ o.name<=9223372036854775807):Aae Aag 26 #[pz p,.agg (gx o vd vk)] w (Sy p H (ea G (fV G o.name)) w):=by
 refine Ga ?_;clear hk;intro w2 hw2 u1 u2 b1 b2 UU HW2 S2 LT IS c1 c0;go_wp2_with(refine arm ?_);rw[<-HW2.out];refine(GM _ p _ H G (A.up UU) I B _ hf).mono ?_;refine o' ?_;intro w3 r G2 vp gb' H' hR hH hAt T3 ao B3;have PP:=an (show ∃G3,ea G (fV G o.name) cC r G3/\bL w3 p gb' H' G3 from by
  rcases hAt with⟨h0,ha⟩|⟨h0,ha⟩
  ·exact nu
  ·exact⟨_,⟨rfl,G2,hR,.inr ⟨h0,rfl⟩⟩,ha⟩)
 exact Gy
end
section
open Go.Maps
theorem pd9(w:af)(p gb:Nat)(H:aR)(G:ct)(A:bL w p gb H G)(I:bm G)(B:pU G)(o:oC)(vd vk:ah)(hk:o.kind=9):Aae Aag 26 #[pz p,.agg (gx o vd vk)] w (Sy p H (Mt G) w):=by refine UL ?_;intro w2 hw2 u1 u2 b1 b2 UU HW2 S2 LT IS c0;rw[hw2]at c0;rw[hk]at c0;clear hk;go_in;go_wp2_with(refine arm ?_);rw[<-HW2.out];refine(D0 _ p _ H G (A.up UU) I B).mono ?_;rintro e w3⟨b,G3,gb',H',vp,rfl,hb1,hb2,aP,hH,ab,T3,ao⟩;obtain⟨B3,HH⟩:=aw (b2.ax T3 KM) hH;clear hH c0;go_wp2_with(first|refine arm ?_|refine oJ ?_);refine OF ?_;intro wz hbz ag TZ;go_wp2;exact bG (hi:=IS) (.tuple #[.agg (aC aM),i6 0]) hbz (by obtain⟨h1,h2⟩:=(Adc (show Mt G cC 0 G3 from⟨rfl,rfl,b,hb1,hb2,aP⟩) ab);exact⟨cC,0,G3,gb',H',vp,rfl,h1,h2.sec B3 (PA.VQ (w0:=w) (w:=w) h2.ga.pa B3 HH (λb hb e=>FM) (λb hb e=>T')) ag,HH,TZ,ao.mono UU.size⟩)
theorem pdN(w:af)(p gb:Nat)(H:aR)(G:ct)(A:bL w p gb H G)(I:bm G)(B:pU G)(o:oC)(vd vk:ah)(hk:o.kind<0\/9<o.kind):Aae Aag 26 #[pz p,.agg (gx o vd vk)] w (Sy p H (λs r G3=>s=cC/\r=0/\G3=G) w):=by
 refine KV ?_;intro w2 hw2 u1 u2 b1 b2 UU HW2;have HA:=an (A.up UU);refine Gk ?_;intro IS c0;obtain⟨kd,aa⟩:=bE (o.kind);rw[<-aa]at c0 hk;refine UX ?_;intro e0 e1 e2 e3 e4 e5 e6 e7 e8 e9 B3;clear aa hw2;go_in;go_wp2_with(first
  | refine hs 33 1 (gx o vd vk) ?_
  | refine bB 60 hP ?_
  | ((with_reducible refine eP _ _ ?_);refine j8 ?_))
 rw[<-HW2.out];clear c0;refine an ?_;go_wp2_with(first
  | refine l7 60 ib ?_
  | refine db 60 4 91 (aC aM) B3 (hi:=IS) ?_)
 intro wz hbz ag;go_wp2;exact bG (hi:=IS) (.tuple #[.agg (aC aM),i6 0]) hbz ⟨cC,0,G,gb,H,H.h.vp,rfl,⟨rfl,rfl,rfl⟩,HA.sec B3 (λb hb e=>by have:=HA.ga.pa.lt b hb;have h9:=(λk (hk:PF H k)=>A.ga.pa.lt k hk) b hb;omega) ag,rfl,((Touch.bP (F:=λk=>PF H k\/k=p) UU).and (Touch.bg (F:=(·=w.heap.size+1)) ag (λk hk=>aQ)) (λb hb=>.inr ae)),n2.refl _ _⟩
theorem pd3(w:af)(p gb:Nat)(H:aR)(G:ct)(A:bL w p gb H G)(I:bm G)(B:pU G)(o:oC)(vd vk:ah)(hk:o.kind=3)(hf:κ o.name<=9223372036854775807):Aae Aag 26 #[pz p,.agg (gx o vd vk)] w (Sy p H (Mr G o.name o.n) w):=by
 refine KV ?_;intro w2 hw2 u1 u2 b1 b2 UU HW2;have aa:=an (λk (hk:PF H k)=>A.ga.pa.lt k hk);refine Od ?_;intro c0 c1 c3;rw[hw2]at c0;rw[hw2]at c1;rw[hw2]at c3;rw[hk]at c0;clear hk;go_in;go_wp2_with(refine arm ?_);rw[<-HW2.out];refine(xa _ p _ H G (A.up UU) I _ hf _).mono ?_;intro e w3 hR;have aj:∃(s:cS)(r:Int),e=rt #[.agg (aC s.val),i6 r]/\Mr G o.name o.n s r G/\bL w3 p gb H G/\Touch (PF H) w2 w3:=by
  obtain⟨h,hp,ht⟩:=hR;rcases h with⟨n,h1,h2⟩|⟨k,s,h1,h2,h3⟩
  ·exact⟨cC,_,h2,⟨rfl,.inl ⟨n,h1,rfl,rfl⟩⟩,hp,ht⟩
  ·exact⟨s,_,h3,⟨rfl,.inr ⟨k,h1,h2,rfl⟩⟩,hp,ht⟩
 obtain⟨s,r,rfl,hq,ab,T3⟩:=aj;obtain⟨B3,PP,IR⟩:=aV (b2.ax T3 (λh=>by have:=aa _ h;omega)) (Adc hq ab) (show(prog.info? 60).map (·.size)=some (aC s.val).size from by rw[dw,bX,s.2]);clear c0 c1 c3;go_wp2_with(first
  | refine db 60 4 47 (aC s.val) B3 (hi:=IR) (hold:=(by rw[bX,bX,s.2];rfl)) ?_)
 intro wz hbz ag;go_wp2;exact bG (hi:=IR) (.tuple #[.agg (aC s.val),i6 r]) hbz ⟨s,r,G,gb,H,H.h.vp,rfl,PP.1,PP.2.sec B3 (λb hb e=>by have h9:=aa b hb;omega) ag,rfl,(((Touch.bP (F:=λk=>PF H k\/k=p) UU).and T3 (λb hb=>.inl (.inl hb))).and (Touch.bg (F:=(·=w.heap.size+1)) ag (λk hk=>aQ)) (λb hb=>.inr ae)),n2.refl _ _⟩
end
section
open Go.Maps
section
variable {P:bp} {ops:Array Abn} {S:af->Prop} {o:Abn} {a:Act}
theorem Ss(hw:Aaa o (Aa1 ops a.tmps)=true)(t:Aab)(ho:o.op=.build t #[])(C:Array ah)(hb:P.built t []=some C):Acb P ops S o (.agg C) a:=.inl ⟨hw,λw _=>by
  unfold Abt;simp only[ho,List.map_toArray,Acd,List.map_nil,Aay,run_build w t _ C hb,Aax,Ac7]⟩
end
theorem pd1(w:af)(p gb:Nat)(H:aR)(G:ct)(A:bL w p gb H G)(I:bm G)(B:pU G)(o:oC)(vd vk:ah)(hk:o.kind=1)(hf:κ o.name<=9223372036854775807)(hb:a8 w vd o.data)(hd:κ o.data<=140737488351232):Aae Aag 26 #[pz p,.agg (gx o vd vk)] w (Sy p H (ea G (lI G o.name o.n (decide (128<κ o.data)) (jW o.data))) w):=by
 obtain⟨w2,hw2⟩:=bE ((w.alloc (.cells (gx o vd vk) 33)).alloc (.cells (aC aM) 60));obtain⟨u1,u2⟩:=az (ai w (.cells (gx o vd vk) 33)) (ai (w.alloc (.cells (gx o vd vk) 33)) (.cells (aC aM) 60));obtain⟨b1,b2⟩:=az ((aF.new w 33 (gx o vd vk)).up u2) (aF.new (w.alloc (.cells (gx o vd vk) 33)) 60 (aC aM));rw[aN]at b2;have UU:=an (u1.trans u2);rw[<-hw2]at b1 b2 UU;obtain⟨B1,B2,HW2,S2,LT,IS⟩:=ix b1 b2 hw2 (show w2.heap.size=w.heap.size+2 from FL) (show(∀k,cM H.h k->k<w.heap.size)/\p<w.heap.size from⟨λk hk=>A.ga.pa.lt k (.inr (.inr hk)),A.fg.lt⟩) (show(prog.info? 60).map (·.size)=some (aC aM).size from dw);have c0:w2.cell? (ad w.heap.size 0)=some (i6 o.kind):=B1.cell 0;rw[hw2]at c0;obtain⟨ba,bc,rfl⟩:=hb.slice;obtain⟨HB,HD⟩:=aw (aD.up (aD.up hb UU) (Up.drew (Up.refl w2))) hd;rw[hk]at c0;have CA:=an (λ(W:af) (u:Up w2.drew W) (va:Option Adr) (n c:Nat) (h1:a8 W (.slice va n c) o.data) (h2:n=κ o.data) (h3:∀k,(Acr va n c).ownBlock=some k->w2.drew.heap.size<=k/\k<W.heap.size)=>show Aae Aag 18 #[pz p,.string (strOf o.name),i6 o.n,.slice va n c] W (n0 p gb H G (lI G o.name o.n (decide (128<κ o.data)) (jW o.data)) W)from by subst h2;exact xY W p gb H G (((A.up UU).up (Up.drew (Up.refl w2))).up u) I B o.name hf o.n va c o.data h1 (λk hk=>⟨λhF=>by have h5:=h3 k hk;have h6:=LT.1 k hF;have h7:=S2.out;have h8:=(Up.drew (Up.refl w2)).size;omega,(h3 k hk).2⟩))
 clear hk hf hd;go_in;go_wp2_with(refine arm ?_);rw[<-HW2.out];refine e7 (S:=λW=>aF W w.heap.size 33 (gx o (.slice ba (κ o.data) bc) vk)) al ?_;refine OE ?_;intro UD;obtain⟨ab,S4⟩:=aw (B1.up UD) (show w.heap.size+2<=w2.drew.heap.size from by have h7:=S2.out;have h8:=UD.size;omega);clear c0 hw2 HW2 S2;generalize w2.drew=w4 at *;have us:=ab.out;refine tb 0 rfl (Ss al 60 rfl _ ib) ?_;refine ta 1 ?_;refine ta 2 ?_;refine tb 3 rfl (yc (λ_ h=>h.cell 1)) ?_;refine ta 4 ?_;refine tb 5 rfl (yc (λ_ h=>h.cell 3)) ?_;refine ta 7 ?_;refine tb 8 rfl (yc (λ_ h=>h.cell 4)) ?_;refine ok 6 ?_;intro K hK;go_simp;have u5:=ai w4 (.cells #[] 5);obtain⟨O5,aX,m1,m2,m3⟩:=eW (Own.made aK 5 w4 w4.heap.size (aE _)) (aD.up HB u5) (show(κ ([]:List aj)+κ o.data)*1<=140737488355328 by have:=HD.out;simp;omega) (show([]:List aj).length+κ o.data<=9223372036854775807 by have:=HD.out;simp;omega) u5.size;refine hK _ _ (ab.up u5) ?_;clear hK K;refine ok 9 ?_;intro K hK;refine j' _ cy _ _ 30 rfl _ 5 _ 1 Aa0 eX rfl _ _ rfl O5 _ _ rfl aX m1 m2 m3 ?_;intro v6 w6 aa _ aL;obtain⟨u6,aY⟩:=az (u5.aG aL (aE _)) aa.cu;obtain⟨va,vc,rfl⟩:=aY.slice;refine hK _ _ (ab.up u6) ?_;clear hK K;refine ok 10 ?_;intro K hK;go_simp;refine(CA w6 u6 va _ vc aY rfl (λk hk=>aa.aJ k hk)).mono ?_;rintro e w7⟨r,G2,vp,gb',H',rfl,hR,hH,hAt,T7,ao⟩;obtain⟨B3,C3⟩:=aw (((B2.up UD).up u6).ax T7 KM) ((ab.up u6).ax T7 KM);have PP:=an (show ∃G3,ea G (lI G o.name o.n (decide (128<κ o.data)) (jW o.data)) cC r G3/\bL w7 p gb' H' G3 from by
  rcases hAt with⟨h0,ha⟩|⟨h0,ha⟩
  ·exact nu
  ·exact⟨_,⟨rfl,G2,hR,.inr ⟨h0,rfl⟩⟩,ha⟩)
 obtain⟨HH,S6⟩:=aw hH (show w.heap.size+2<=w6.heap.size from by have:=S4.out;have:=u6.size;omega);refine hK _ _ C3 ?_;clear hK K hH hAt;refine ok 11 ?_;intro K hK;refine iK _ (.tmp 4) (.tmp 19) rfl _ _ rfl rfl _ _ B3 IS rfl (dx _) ?_;intro wz hbz ag;have CZ:=an (C3.grown ag aq);refine hK _ _ CZ ?_;clear hK K;refine ta 12 ?_;refine dn ?_;go_wp2;exact bG (hi:=IS) (.tuple #[.agg (aC aM),i6 r]) hbz (by obtain⟨G3,h1,h2⟩:=PP.out;exact⟨cC,r,G3,gb',H',vp,rfl,h1,h2.sec B3 (PA.VQ (w0:=w) (w:=w) h2.ga.pa B3 HH (λb hb e=>FM) (λb hb e=>by rcases ao.1 b hb with h|h;have:=LT.1 b (.inr (.inr (.inr h)));omega;have:=S6.out;omega)) ag,HH,(((Touch.bP (F:=λk=>PF H k\/k=p) ((UU.trans UD).trans u6)).and T7 (λb hb=>.inl (hb.imp (λh=>.inr (.inr h)) id))).and (Touch.bg (F:=(·=w.heap.size+1)) ag (λk hk=>nR)) (λb hb=>.inr ae)),ao.mono (by have:=S6.out;omega)⟩)
end
section
open Go.Maps
def JO(G:ct)(o:oC):cS->Int->ct->Prop:=if o.kind=0 then ea G (fW G (cU G.next G.l o.name o.n) id true) else if o.kind=1 then ea G (lI G o.name o.n (decide (128<κ o.data)) (jW o.data)) else if o.kind=2 then ea G (lI G o.name o.n false ey) else if o.kind=3 then Mr G o.name o.n else if o.kind=4 then ea G (fW G (e4 G.next G.l o.name G.P.st) (λg:ct=>{g with P:={g.P with st:=g.P.st+1}}) true) else if o.kind=5 then ea G (fW G (dO G.next G.l o.name o.to) id true) else if o.kind=6 then ea G (fW G (cB G.next G.l o.name) id false) else if o.kind=7 then ea G (oG G (gI G.next G.l o.name)) else if o.kind=8 then ea G (fV G o.name) else if o.kind=9 then Mt G else λs r G3=>s=cC/\r=0/\G3=G
theorem Yw(w:af)(p gb:Nat)(H:aR)(G:ct)(A:bL w p gb H G)(I:bm G)(B:pU G)(o:oC)(vd vk:ah)(hi:SN w vd o)(hd:κ o.data<=140737488351232):Aae Aag 26 #[pz p,.agg (gx o vd vk)] w (Sy p H (JO G o) w):=by
 refine OT ?_;intro hk;rcases hk with h|h|h|h|h|h|h|h|h|h|h
 ·unfold JO;rw[h];exact pd0 w p gb H G A I B o vd vk h hi.nm
 ·unfold JO;rw[h];exact pd1 w p gb H G A I B o vd vk h hi.nm hi.bs hd
 ·unfold JO;rw[h];exact pd2 w p gb H G A I B o vd vk h hi.nm
 ·unfold JO;rw[h];exact pd3 w p gb H G A I B o vd vk h hi.nm
 ·unfold JO;rw[h];exact pd4 w p gb H G A I B o vd vk h hi.nm
 ·unfold JO;rw[h];exact pd5 w p gb H G A I B o vd vk h hi.nm hi.to
 ·unfold JO;rw[h];exact pd6 w p gb H G A I B o vd vk h hi.nm
 ·unfold JO;rw[h];exact pd7 w p gb H G A I B o vd vk h hi.nm
 ·unfold JO;rw[h];exact pd8 w p gb H G A I B o vd vk h hi.nm
 ·grind [JO,pd9]
 ·unfold JO;rw[aY ae,aY ae,aY ae,aY ae,aY ae,aY ae,aY ae,aY ae,aY ae,aY ae];grind [pdN]
end
section
open Go.Maps
def hG(o:oC):Bool:=decide (o.kind=0\/o.kind=1\/o.kind=2\/o.kind=4\/o.kind=5)
theorem DK(w:af)(o:oC)(vd vk:ah):Aae Aag 27 #[.agg (gx o vd vk)] w λe w'=>e=.returned (.bool (hG o))/\Up w w':=by
 have U:=an (ai w (.cells (gx o vd vk) 33));have c0:(w.alloc (.cells (gx o vd vk) 33)).cell? ⟨w.heap.size,0,none⟩=some (.int .i64 o.kind):=(aF.new w 33 (gx o vd vk)).cell 0;have M:=an (show hG o=(decide (o.kind=0\/o.kind=1\/o.kind=2\/o.kind=4\/o.kind=5))from rfl);obtain⟨k,hk⟩:=bE (o.kind);rw[<-hk]at c0 M;clear hk;have key:(k=0)\/(k=1)\/(k=2)\/(k=4)\/(k=5)\/((k==0)=false/\(k==1)=false/\(k==2)=false/\(k==4)=false/\(k==5)=false):=by simp only[beq_eq_false_iff_ne];omega
 rcases key with rfl|rfl|rfl|rfl|rfl|⟨e0,e1,e2,e4,e5⟩
 ·exact vf
 ·exact vf
 ·exact vf
 ·exact vf
 ·exact vf
 ·have MF:=an (show hG o=false from by rw[M.out];simp only[beq_eq_false_iff_ne]at e0 e1 e2 e4 e5;simp[e0,e1,e2,e4,e5])
  go_in;go_wp2_with(first
   | refine hs 33 0 (gx o vd vk) ?_)
  go_ret;exact⟨by rw[MF.out];rfl,U⟩
end
structure oD(G:ct)(M:cR):Prop where
 nx:M.next=G.next
 l:M.l=iT G.l
 n1:1<=G.next
 z0:M.B 0=sf
 len:∀i,κ (M.B i)=64
 rd:∀x∈G.l,∀j,j<64->tT G.P.C x j=some (se (M.B x.id) j).1
theorem Wa(C:List cS){x:ao}(h:x.root=hole)(j:Nat):tT C x j=some ey:=by grind [tT,k9,js]
theorem ZT(j:Nat):(se sf j).1=ey:=by unfold se sf;rw[s',List.getElem?_replicate];split<;>rfl
theorem S5{l:List k8}(h:i<κ l)(x:k8)(j:Nat):se (l.set i x) j=if j=i then x else se l j:=by grind [se]
section
variable {G G2:ct} {M:cR}
theorem oD.grow(S:oD G M){next':Nat}{l':List ao}{x:ao}(hn:next'=G.next+1)(e1:G2.next=next')(e2:G2.l=l')(e3:G2.P.C=G.P.C)(S':pW l')(hx:x∈l')(xi:x.id=G.next)(B':Nat->List k8)(hB:B'=mT M.B (cp x).id (M.B (AL (cp x))))(M':cR)(m1:M'.next=next')(m2:M'.l=iT l')(m3:M'.B=B')(src:(AL x=0/\x.root=hole)\/∃u∈G.l,u.id=AL x/\u.root=x.root)(rest:∀z∈l',z=x\/∃u∈G.l,u.id=z.id/\u.root=z.root):oD G2 M':=by
 have hb:∀i,M'.B i=if i=x.id then M.B (AL x)else M.B i:=λi=>by rw[m3,hB];rfl
 have n1:=S.n1;refine⟨ae,aa,ae,?_,λi=>?_,λz hz j hj=>?_⟩
 ·rw[hb,aY ae];exact S.z0
 ·rw[hb];split<;>exact S.len _
 ·rw[e2]at hz;rw[e3,hb];by_cases h:z=x
  ·subst h;rw[bI rfl];rcases src with⟨h1,h2⟩|⟨u,hu,h1,h2⟩
   ·rw[h1,S.z0,ZT];exact Wa _ h2 j
   ·rw[<-h1,<-S.rd u hu j hj];grind [tT]
  ·rw[aY (λe=>h (S'.inj hz hx e))];rcases rest z hz with h2|⟨u,hu,h1,h2⟩
   ·simp_all
   ·rw[<-h1,<-S.rd u hu j hj];grind [tT]
theorem GF(S:oD G M){l':List ao}(S':pW l'){x:ao}(hx:x∈l')(xi:x.id=G.next):IE M (iT l')=cp x:=by obtain⟨i,hi,h1,h2⟩:=ca S' hx;unfold IE;rw[dF,S.nx,<-xi,h1];grind [a']
theorem oD.dev(S:oD G M)(I:bm G)(hc:∀j,G.P.s j≠1->G2.P.C[j]?=G.P.C[j]?)(e1:G2.next=G.next)(e2:G2.l=G.l):oD G2 M:=⟨by rw[e1];exact S.nx,by rw[e2];exact S.l,by rw[e1];exact S.n1,S.z0,S.len,λx hx j hj=>by rw[e2]at hx;rw[I.ZB hc hx hj];exact S.rd x hx j hj⟩
theorem oD.R'(S:oD G M)(I:bm G){k i:Nat}{s:cS}(T:kY G k i s G2)(hk:k<κ G.l)(hi:i<64)(v:Nat)(M':cR)(m1:M'.next=M.next)(m2:M'.l=M.l)(m3:M'.B=mT M.B (recAt G.l k).id ((M.B (recAt G.l k).id).set i (s,v))):oD G2 M':=by
 have hb:∀a,M'.B a=if a=(recAt G.l k).id then(M.B (recAt G.l k).id).set i (s,v)else M.B a:=λa=>by rw[m3];rfl
 have i0:=I.hY.JM _ (aI hk);refine⟨by rw[m1,T.next];exact S.nx,by rw[m2,S.l];exact T.strip.symm,by rw[T.next];exact S.n1,?_,λa=>?_,λx hx j hj=>?_⟩
 ·rw[hb,aY ae];exact S.z0
 ·rw[hb];split
  ·rw[Aat];exact S.len _
  ·exact S.len _
 ·rw[T.rd x hx j hj,hb];have hu:∃u∈G.l,u.id=x.id:=by
   have:cp x∈G.l.map cp:=by rw[<-T.strip];exact List.mem_map.mpr ⟨x,hx,rfl⟩
   obtain⟨u,hu,e⟩:=List.mem_map.mp this;exact⟨u,hu,by have:=cn ao.id e;exact this⟩
  obtain⟨u,hu,eu⟩:=hu;have old:rdI G x.id j=some (se (M.B x.id) j).1:=by rw[<-eu,zN I.hY.fP hu];exact S.rd u hu j hj
  by_cases h:x.id=(recAt G.l k).id
  ·rw[bI h,S5 (by rw[S.len];exact hi)];grind
  ·simp_all
theorem oD.sub(S:oD G M){l':List ao}{B':Nat->List k8}(e1:G2.next=G.next)(e2:G2.l=l')(M':cR)(m1:M'.next=M.next)(m2:M'.l=iT l')(b0:M'.B 0=sf)(bl:∀i,κ (M'.B i)=64)(rd:∀x∈l',∀j,j<64->tT G2.P.C x j=some (se (M'.B x.id) j).1):oD G2 M':=⟨by rw[m1,e1];exact S.nx,aa,by rw[e1];exact S.n1,b0,bl,λx hx=>rd x aa⟩
end
theorem Wm{next st n:Nat}{l:List ao}{full:List aj}(h:e4 next l full st=.error n):n≠71:=qE
theorem Kc{next n:Nat}{l:List ao}{full:List aj}(h:cU next l full N=.error n):n≠71:=o3
theorem PY{next n:Nat}{l:List ao}{nj to:List aj}(h:dO next l nj to=.error n):n≠71:=FO
theorem Pl{l:List ao}{full:List aj}(h:iU l full N=.error n):n≠71:=by grind [iU,e9]
def Ag(M:cR)(o:oC)(s:cS)(r:Int):Prop:=(r=71/\hG o=true/\(lb M o).2.1=0)\/(¬(r=71/\hG o=true)/\r=((lb M o).2.1:Int)/\s=(lb M o).1)
structure Step(G:ct)(M:cR)(o:oC)(s:cS)(r:Int)(M':cR)(G3:ct):Prop where
 ag:Ag M o s r
 pick:(r=71/\hG o=true/\M'=M)\/(¬(r=71/\hG o=true)/\M'=(lb M o).2.2)
 inv:bm G3
 sim:oD G3 M'
 st:M.st=G.P.st->M'.st=G3.P.st
 b1:G3.next<=G.next+1
 b2:G3.P.st<=G.P.st+1
 b3:G3.P.m<=G.P.m+3
 b4:G3.u.dz<=G.u.dz+1
 b5:κ G3.P.C=κ G.P.C
 c1:M'.st<=M.st+1
 c2:M'.made<=M.made+1
section
variable {G G3:ct} {M:cR} {o:oC} {s:cS} {r:Int}
theorem Step.same(I:bm G)(S:oD G M){n:Nat}(hn:r=71->hG o=false)(hd:lb M o=(s,(n,M)))(hr:r=(n:Int)):Step G M o s r M G:=by
 have h:¬(r=71/\hG o=true):=λh=>by have:=hn h.1;rw[this]at h;cases h.2
 exact⟨.inr ⟨h,aa,aa⟩,.inr ⟨h,aa⟩,I,S,id,ae,ae,ae,ae,rfl,ae,ae⟩
theorem Step.full(I:bm G)(S:oD G M){M2:cR}(hm:hG o=true)(hd:(lb M o).2.1=0)(hc:∀j,G.P.s j≠1->G3.P.C[j]?=G.P.C[j]?)(hl:κ G3.P.C=κ G.P.C)(a1:G3.P.m<=G.P.m+3)(e:G3=Qf G G3):Step G M o s 71 M G3:=by
 have e2:G3.next=G.next:=tp
 refine⟨.inl ⟨rfl,hm,hd⟩,.inl ⟨rfl,hm,rfl⟩,?_,S.dev I hc e2 tp,λh=>by rw[h,e];rfl,ae,?_,a1,?_,hl,ae,ae⟩
 ·rw[e];exact I.dev _ _ hl hc
 ·rw[show G3.P.st=G.P.st from tp];omega
 ·rw[show G3.u=G.u from tp];omega
theorem Step.done{M':cR}(I:bm G3)(S:oD G3 M')(hd:lb M o=(s,(0,M')))(aG:M.st=G.P.st->M'.st=G3.P.st)(b1:G3.next<=G.next+1)(b2:G3.P.st<=G.P.st+1)(b3:G3.P.m<=G.P.m+3)(b4:G3.u.dz<=G.u.dz+1)(b5:κ G3.P.C=κ G.P.C)(c1:M'.st<=M.st+1)(c2:M'.made<=M.made+1):Step G M o s 0 M' G3:=by
 have h:¬((0:Int)=71/\hG o=true):=λh=>by have:=h.1;omega
 exact⟨.inr ⟨h,aa,aa⟩,.inr ⟨h,aa⟩,I,S,aG,b1,b2,b3,b4,b5,c1,c2⟩
theorem sX(G:ct):(e0 G=true/\wu G=0)\/(e0 G=false/\wu G=71):=by grind [wu,e0]
theorem abE(I:bm G)(S:oD G M)(hk:o.kind=0)(h:ea G (fW G (cU G.next G.l o.name o.n) id true) s r G3):∃M',Step G M o s r M' G3:=by
 have hd:lb M o=(cC,lg M (cU M.next M.l o.name o.n)):=gN
 rw[S.nx,S.l,sr]at hd;obtain⟨rfl,G2,R,e⟩:=h;rcases R with⟨n,hX,rfl,hn,rfl⟩|⟨nx,l',hX,rfl,rfl⟩
 ·obtain rfl:G3=G2:=by rcases e with⟨_,e⟩|⟨_,e⟩<;>exact e
  exact⟨M,Step.same I S (λh=>by grind [Kc]) Bt rfl⟩
 ·rw[hX]at hd;obtain⟨eC,hv,hb,hl,hr,rfl,rfl⟩:=oN hX;have SR:=mG (x:=ef G.next eC o.n) I.hY.fP I.hY.KC;have hx:ef G.next eC o.n∈G.l++[ef G.next eC o.n]:=by simp
  have hd:lb M o=(cC,(0,ss M (G.next+1) (iT (G.l++[ef G.next eC o.n])) (IE M (iT (G.l++[ef G.next eC o.n]))))):=hd;rw[GF S SR hx rfl]at hd;rcases sX (id {G with next:=G.next+1,l:=G.l++[ef G.next eC o.n]})with⟨hf,hf2⟩|⟨hf,hf2⟩
  ·simp only[if_true]at e ⊢;rw[hf2]at e ⊢;obtain rfl:G3={G with next:=G.next+1,l:=G.l++[ef G.next eC o.n]}:=by simp_all
   refine⟨_,Step.done (I.create S.n1 hX hf) (S.grow (G2:={G with next:=G.next+1,l:=G.l++[ef G.next eC o.n]}) (next':=G.next+1) (l':=G.l++[ef G.next eC o.n]) (x:=ef G.next eC o.n) rfl rfl rfl rfl SR hx rfl _ rfl (ss M (G.next+1) (iT (G.l++[ef G.next eC o.n])) (cp (ef G.next eC o.n))) rfl rfl rfl (.inl ⟨rfl,rfl⟩) (λz hz=>?_)) hd (λh=>h) (aE _) aq aq aq rfl F0 FY⟩;grind
  ·exact NJ
theorem abI(I:bm G)(B:pU G)(S:oD G M)(aG:M.st=G.P.st)(hk:o.kind=4)(h:ea G (fW G (e4 G.next G.l o.name G.P.st) (λg:ct=>{g with P:={g.P with st:=g.P.st+1}}) true) s r G3):∃M',Step G M o s r M' G3:=by
 have hd:lb M o=(cC,D9 M (e4 M.next M.l o.name M.st)):=gN
 rw[S.nx,S.l,aG,x']at hd;obtain⟨rfl,G2,R,e⟩:=h;rcases R with⟨n,hX,rfl,hn,rfl⟩|⟨nx,l',hX,rfl,rfl⟩
 ·obtain rfl:G3=G2:=by rcases e with⟨_,e⟩|⟨_,e⟩<;>exact e
  exact⟨M,Step.same I S (λh=>by grind [Wm]) Bt rfl⟩
 ·rw[hX]at hd;obtain⟨eC,sn,i,hs,hi,hl,hr,ab,rfl,rfl⟩:=vO hX;obtain⟨⟨aH,aa⟩,fr⟩:=I.hY.H5 hs hi hr;have aB:=aI aH;obtain⟨SR,mm⟩:=qG I.hY.fP aH I.hY.KC (s:=j5 G.next (recAt G.l i) sn G.P.st) (v':=nW G.next (recAt G.l i)) rfl rfl;have hx:=(mm (j5 G.next (recAt G.l i) sn G.P.st)).mpr (.inr (.inl rfl));obtain⟨l',ar⟩:∃y,y=(G.l++[j5 G.next (recAt G.l i) sn G.P.st]).set i (nW G.next (recAt G.l i)):=⟨_,rfl⟩;rw[<-ar]at hd SR mm hx hX e;have hd:lb M o=(cC,(0,ss {M with st:=M.st+1} (G.next+1) (iT l') (IE M (iT l')))):=hd;rw[GF S SR hx rfl]at hd;simp only[if_true]at e ⊢;rcases sX {G with P:={G.P with st:=G.P.st+1},next:=G.next+1,l:=l'} with⟨hf,hf2⟩|⟨hf,hf2⟩
  ·rw[hf2]at e;rw[<-ar,hf2];obtain rfl:G3={G with P:={G.P with st:=G.P.st+1},next:=G.next+1,l:=l'}:=by simp_all
   refine⟨_,Step.done (I.aT o6 hX hf) (S.grow (G2:={G with P:={G.P with st:=G.P.st+1},next:=G.next+1,l:=l'}) (next':=G.next+1) (l':=l') (x:=j5 G.next (recAt G.l i) sn G.P.st) rfl rfl rfl rfl SR hx rfl _ rfl (ss {M with st:=M.st+1} (G.next+1) (iT l') (cp (j5 G.next (recAt G.l i) sn G.P.st))) rfl rfl rfl (.inr ⟨_,aB,rfl,rfl⟩) (λz hz=>?_)) hd (λh=>by show M.st+1=G.P.st+1;omega) (aE _) (aE _) aq aq rfl (aE _) FY⟩;rcases(mm z).mp hz with h|h|h
   ·exact .inr ⟨_,aB,nS,nS⟩
   ·simp_all
   ·grind
  ·rw[hf2]at e;rw[<-ar,hf2];obtain rfl:G3=G:=by exact NL
   exact⟨M,Step.full (M2:=M) I S qD aQ (λ_ _=>rfl) rfl ae rfl⟩
theorem abJ(I:bm G)(S:oD G M)(hk:o.kind=5)(h:ea G (fW G (dO G.next G.l o.name o.to) id true) s r G3):∃M',Step G M o s r M' G3:=by
 have hd:lb M o=(cC,lg M (dO M.next M.l o.name o.to)):=gN
 rw[S.nx,S.l,t']at hd;obtain⟨rfl,G2,R,e⟩:=h;rcases R with⟨n,hX,rfl,hn,rfl⟩|⟨nx,l',hX,rfl,rfl⟩
 ·obtain rfl:G3=G2:=by rcases e with⟨_,e⟩|⟨_,e⟩<;>exact e
  exact⟨M,Step.same I S (λh=>by grind [PY]) Bt rfl⟩
 ·rw[hX]at hd;obtain⟨vs,eC,i,hs,hv,hi,hl,hr,rfl,rfl⟩:=rj hX;obtain⟨aH,aa⟩:=I.hY.LY hs hi;have SR:=mG (x:=fh G.next eC (recAt G.l i)) I.hY.fP I.hY.KC;have hx:fh G.next eC (recAt G.l i)∈G.l++[fh G.next eC (recAt G.l i)]:=by simp
  have hd:lb M o=(cC,(0,ss M (G.next+1) (iT (G.l++[fh G.next eC (recAt G.l i)])) (IE M (iT (G.l++[fh G.next eC (recAt G.l i)]))))):=hd;rw[GF S SR hx rfl]at hd;rcases sX (id {G with next:=G.next+1,l:=G.l++[fh G.next eC (recAt G.l i)]})with⟨hf,hf2⟩|⟨hf,hf2⟩
  ·simp only[if_true]at e ⊢;rw[hf2]at e ⊢;obtain rfl:G3={G with next:=G.next+1,l:=G.l++[fh G.next eC (recAt G.l i)]}:=by simp_all
   refine⟨_,Step.done (I.clone hX hf) (S.grow (G2:={G with next:=G.next+1,l:=G.l++[fh G.next eC (recAt G.l i)]}) (next':=G.next+1) (l':=G.l++[fh G.next eC (recAt G.l i)]) (x:=fh G.next eC (recAt G.l i)) rfl rfl rfl rfl SR hx rfl _ rfl (ss M (G.next+1) (iT (G.l++[fh G.next eC (recAt G.l i)])) (cp (fh G.next eC (recAt G.l i)))) rfl rfl rfl (.inr ⟨_,(aI aH),rfl,rfl⟩) (λz hz=>?_)) hd (λh=>h) (aE _) aq aq aq rfl F0 FY⟩;grind
  ·exact NJ
theorem abK(I:bm G)(S:oD G M)(hk:o.kind=6)(h:ea G (fW G (cB G.next G.l o.name) id false) s r G3):∃M',Step G M o s r M' G3:=by
 have hd:lb M o=(cC,Dc M (cB M.next M.l o.name)):=gN
 rw[S.nx,S.l,BW]at hd;obtain⟨rfl,G2,R,e⟩:=h;rcases R with⟨n,hX,rfl,hn,rfl⟩|⟨nx,l',hX,rfl,rfl⟩
 ·obtain rfl:G3=G2:=by rcases e with⟨_,e⟩|⟨_,e⟩<;>exact e
  exact⟨M,Step.same I S (λ_=>qD) Bt rfl⟩
 ·rw[hX]at hd;obtain⟨rfl,ms,aa,rfl,I3⟩:=I.GO hX;obtain rfl:G3={G with next:=G.next,l:=G.l.map (eH ms aa)}:=by simp_all
  have hd:=hd;refine⟨_,Step.done I3 ?_ hd (λh=>h) aq aq aq aq rfl aq aq⟩;refine S.sub (G2:={G with next:=G.next,l:=G.l.map (eH ms aa)}) (l':=G.l.map (eH ms aa)) (B':=M.B) rfl rfl {M with next:=G.next,l:=iT (G.l.map (eH ms aa))} S.nx.symm rfl S.z0 S.len (λx hx j hj=>?_);obtain⟨u,hu,rfl⟩:=List.mem_map.mp hx;obtain⟨a,_,_,_,_,b,_⟩:=mn ms aa u;rw[b];show tT G.P.C _ j=_;rw[<-S.rd u hu j hj];grind [tT]
end
section
variable {G G3:ct} {M:cR} {o:oC} {s:cS} {r:Int}
theorem abF(I:bm G)(S:oD G M)(hk:o.kind=1)(h:ea G (lI G o.name o.n (decide (128<κ o.data)) (jW o.data)) s r G3):∃M',Step G M o s r M' G3:=by
 have hm:hG o=true:=qD
 have hd:lb M o=(cC,lH M o.name o.n o.data):=gN
 have hv:iU M.l o.name o.n=iU G.l o.name o.n:=by rw[S.l,Cw]
 obtain⟨rfl,G2,R,e⟩:=h;rcases R with⟨n,hX,hn,rfl,rfl⟩|⟨k,hX,R⟩
 ·obtain rfl:G3=G2:=by rcases e with⟨_,e⟩|⟨_,e⟩<;>exact e
  exact⟨M,Step.same I S (λh=>by grind [Pl]) (by grind [JG]) rfl⟩
 ·obtain⟨a1,a2,a3,a4,a5⟩:=zT I.hY hX;have hb:=((br _).mp (I.hY.rt _ (aI a1))).2.2.2.1.2;rcases R with⟨h1,rfl,rfl⟩|⟨h1,rfl,R⟩|⟨h1,rfl,T,hf⟩
  ·obtain rfl:G3=G2:=by rcases e with⟨_,e⟩|⟨_,e⟩<;>exact e
   have h1:=jk h1;exact⟨M,Step.same I S (n:=92) (λh=>ae) (by grind [JH]) rfl⟩
  ·have h1:=FA h1;obtain rfl:G3=Qf G G2:=by simp_all
   exact⟨M,Step.full (M2:=M) I S hm (by rw[hd,CD ze ae]) R.2.1 R.1 R.2.2.1 rfl⟩
  ·have h1:=FA h1;obtain rfl:G3=G2:=by simp_all
   have hp:jW o.data=eS o.data ae:=by grind [jW]
   rw[hp]at T;refine⟨CV {M with made:=M.made+1} (recAt M.l k).id o.n.toNat (eS o.data ae,M.made+1),Step.done (T.inv hf) (S.R' I T a1 ae (M.made+1) _ rfl rfl ?_) (by grind [CD]) (λh=>by rw[T.st];exact h) (by rw[T.next];omega) (by rw[T.st];omega) T.m (by rw[T.u];omega) T.len F0 (aE _)⟩;show(CV _ _ _ _).B=_;unfold CV;rw[S.l,a'];rfl
theorem abG(I:bm G)(S:oD G M)(hk:o.kind=2)(h:ea G (lI G o.name o.n false ey) s r G3):∃M',Step G M o s r M' G3:=by
 have hm:hG o=true:=qD
 have hd:lb M o=(cC,sK M o.name o.n):=gN
 have hv:iU M.l o.name o.n=iU G.l o.name o.n:=by rw[S.l,Cw]
 obtain⟨rfl,G2,R,e⟩:=h;rcases R with⟨n,hX,hn,rfl,rfl⟩|⟨k,hX,R⟩
 ·obtain rfl:G3=G2:=by rcases e with⟨_,e⟩|⟨_,e⟩<;>exact e
  exact⟨M,Step.same I S (λh=>by grind [Pl]) (by grind [Ph]) rfl⟩
 ·obtain⟨a1,a2,a3,a4,a5⟩:=zT I.hY hX;have hb:=((br _).mp (I.hY.rt _ (aI a1))).2.2.2.1.2;rcases R with⟨h1,rfl,rfl⟩|⟨h1,rfl,R⟩|⟨h1,rfl,T,hf⟩
  ·cases h1
  ·obtain rfl:G3=Qf G G2:=by simp_all
   exact⟨M,Step.full (M2:=M) I S hm (by rw[hd,Hd ze]) R.2.1 R.1 R.2.2.1 rfl⟩
  ·obtain rfl:G3=G2:=by simp_all
   refine⟨CV M (recAt M.l k).id o.n.toNat Hs,Step.done (T.inv hf) (S.R' I T a1 ae 0 _ rfl rfl ?_) (by grind [Hd]) (λh=>by rw[T.st];exact h) (by rw[T.next];omega) (by rw[T.st];omega) T.m (by rw[T.u];omega) T.len F0 FY⟩;show(CV _ _ _ _).B=_;unfold CV;rw[S.l,a'];rfl
theorem abH(I:bm G)(S:oD G M)(hk:o.kind=3)(h:Mr G o.name o.n s r G3):∃M',Step G M o s r M' G3:=by
 have hm:hG o=false:=qD
 have hd:lb M o=((ki M o.name o.n).1,((ki M o.name o.n).2,M)):=gN
 have hv:e9 M.l o.name o.n=e9 G.l o.name o.n:=by rw[S.l,p9]
 obtain⟨rfl,⟨n,hX,rfl,rfl⟩|⟨k,hX,hr,rfl⟩⟩:=h
 ·exact⟨M,Step.same I S (λ_=>hm) (by rw[hd,Pd ze];rfl) rfl⟩
 ·obtain⟨a1,a2,a3⟩:=p8 hX;have km:=aI a1;have hb:=((br _).mp (I.hY.rt _ km)).2.2.2.1.2;refine⟨M,Step.same (n:=0) I S (λ_=>hm) ?_ rfl⟩;rw[hd,GS ze,S.l,a'];have:=S.rd _ km o.n.toNat ae;rw[hr]at this;cases this;rfl
def H8(I:bm G){x:ao}(hx:x∈G.l)(p:au):p∈AN G x↔gf G.P.C x.root p/\b0 G.l x.id<p.aU:=Hy (I.tr x hx) _ p
theorem abL(I:bm G)(S:oD G M)(hk:o.kind=7)(h:ea G (oG G (gI G.next G.l o.name)) s r G3):∃M',Step G M o s r M' G3:=by
 have hd:lb M o=(cC,sm M o.name):=gN
 have hv:gI M.next M.l o.name=Ws (gI G.next G.l o.name):=by rw[S.nx,S.l,HB]
 obtain⟨rfl,G2,R,e⟩:=h;rcases R with⟨n,hX,rfl,hn,rfl⟩|⟨nx,l',x,hX,rfl,rfl⟩
 ·obtain rfl:G3=G2:=by rcases e with⟨_,e⟩|⟨_,e⟩<;>exact e
  exact⟨M,Step.same I S (λ_=>qD) (by rw[hd,Mx (by rw[hv,hX];rfl)]) rfl⟩
 ·obtain⟨i,j,hi,hj,rfl,rfl,rfl⟩:=z6 hX;obtain⟨il,is⟩:=I.hY.WN hi;obtain⟨jl,ej⟩:=cJ hj;have im:=aI il;obtain rfl:=(by
   rcases e with⟨_,e⟩|⟨e,_⟩
   ·exact e
   ·exact absurd rfl e:G3=_)
  refine⟨{M with next:=G.next,l:=iT (G.l.set i (iP (recAt G.l i) (recAt G.l j))),B:=mT M.B (cp (recAt G.l i)).id (M.B (cp (recAt G.l i)).prev)},Step.done (I.back il is jl ej (H8 I im)) ?_ (by rw[hd,My (by rw[hv,hX];rfl)]) (λh=>h) aq aq aq aq rfl aq aq⟩;have i0:=I.hY.JM _ im;have hb:∀a,mT M.B (cp (recAt G.l i)).id (M.B (cp (recAt G.l i)).prev) a=if a=(recAt G.l i).id then M.B (recAt G.l i).prev else M.B a:=λa=>rfl;refine S.sub (G2:={G with P:={G.P with s:=bO G.P.s G.P.ba (AN G (recAt G.l i))},next:=G.next,l:=G.l.set i (iP (recAt G.l i) (recAt G.l j))}) (l':=G.l.set i (iP (recAt G.l i) (recAt G.l j))) (B':=M.B) rfl rfl {M with next:=G.next,l:=iT (G.l.set i (iP (recAt G.l i) (recAt G.l j))),B:=mT M.B (cp (recAt G.l i)).id (M.B (cp (recAt G.l i)).prev)} S.nx.symm rfl ?_ (λa=>?_) (λx hx k hk=>?_)
  ·show mT _ _ _ 0=_;rw[hb,aY ae];exact S.z0
  ·show(mT _ _ _ a).length=_;rw[hb];split<;>exact S.len _
  ·show tT G.P.C x k=some (se (mT _ _ _ x.id) k).1;rw[hb];rcases(mem_set I.hY.fP il).mp hx with rfl|⟨h1,h2⟩
   ·rw[bI (show(iP (recAt G.l i) (recAt G.l j)).id=(recAt G.l i).id from rfl),<-ej,<-S.rd _ (aI jl) k hk];rfl
   ·rw[aY (λe=>h2 (I.hY.fP.inj h1 im e))];exact S.rd x h1 k hk
theorem Hk{l:List ao}{full:List aj}{i:Nat}(h:dy l full=.ok i):a1 l full=some i:=uY
theorem oD.gone(S:oD G M)(I:bm G){G3:ct}{l':List ao}{i:Nat}(hi:i<κ G.l)(e1:G3.next=G.next)(e2:G3.l=l')(e3:G3.P.C=G.P.C)(h:∀z∈l',z.id≠(recAt G.l i).id/\∃u∈G.l,u.id=z.id/\u.root=z.root):oD G3 (Qe M G.next (iT l') (recAt G.l i).id):=by
 have i0:=I.hY.JM _ (aI hi);have hb:∀a,(Qe M G.next (iT l') (recAt G.l i).id).B a=if a=(recAt G.l i).id then sf else M.B a:=λa=>rfl;refine S.sub (B':=M.B) e1 e2 _ S.nx.symm rfl ?_ (λa=>?_) (λx hx k hk=>?_)
 ·rw[hb,aY ae];exact S.z0
 ·rw[hb];split
  ·rfl
  ·exact S.len _
 ·obtain⟨h1,u,hu,h2,h3⟩:=h x hx;rw[e3,hb,aY h1,<-h2,<-S.rd u hu k hk];grind [tT]
theorem abM(I:bm G)(S:oD G M)(hk:o.kind=8)(h:ea G (fV G o.name) s r G3):∃M',Step G M o s r M' G3:=by
 have hm:hG o=false:=qD
 have hd:lb M o=(cC,n9 M o.name):=gN
 obtain⟨rfl,G2,R,e⟩:=h;have hold:∀i,dP G.l o.name=.ok i->(BM M.l o.name).id=(recAt G.l i).id:=λi hi=>by unfold BM;rw[S.l,pf,hi];simp only;rw[a'];rfl
 unfold fV at R;unfold n9 at hd;cases hs:dm o.name with
 | none=>
  rw[hs]at R hd;obtain⟨rfl,rfl⟩:=R;obtain rfl:G3=G2:=by rcases e with⟨_,e⟩|⟨_,e⟩<;>exact e
  exact⟨M,Step.same I S (n:=141) (λ_=>hm) hd rfl⟩
 | some vs=>
  obtain⟨v,sn⟩:=vs;rw[hs]at R hd;simp only at R hd;by_cases h0:sn=[]
  ·rw[bI h0]at R;rw[show decide (sn=[])=true from h8 h0]at hd;have hv:Dq M o.name true=SC ((dU G.next G.l o.name).map (λr=>(r.1,r.2.1))):=by show(dU M.next M.l o.name).map _=_;rw[S.nx,S.l,Ay];cases dU G.next G.l o.name<;>rfl
   rw[hv]at hd;rcases R with⟨n,hX,rfl,hn,rfl⟩|⟨nx,l',x,hX,rfl,rfl⟩
   ·obtain rfl:G3=G2:=by rcases e with⟨_,e⟩|⟨_,e⟩<;>exact e
    exact⟨M,Step.same I S (λ_=>hm) Bt rfl⟩
   ·rw[hX]at hd;obtain⟨i,hi,hw,rfl,rfl,rfl⟩:=xy hX;obtain⟨il,is⟩:=I.hY.WN hi;have im:=aI il;obtain rfl:=(by
     rcases e with⟨_,e⟩|⟨e,_⟩
     ·exact e
     ·exact absurd rfl e:G3=_)
    have I3:=I.um il is hw (H8 I im);have hd:lb M o=(cC,(0,Qe M G.next (iT (G.l.eraseIdx i)) (BM M.l o.name).id)):=hd;rw[hold i (I.hY.named (Hk hi))]at hd;refine OU ?_;intro z hz;obtain⟨h1,h2⟩:=(mem_erase I.hY.fP il).mp hz;exact⟨λe=>h2 (I.hY.fP.inj h1 im e),z,h1,rfl,rfl⟩
  ·rw[aY h0]at R;rw[show decide (sn=[])=false from jj h0]at hd;have ds:=I.cE o.name;have n131:cE G.next G.l o.name≠.error 131:=λh=>by simp_all
   have hv:Dq M o.name false=SC ((cE G.next G.l o.name).map (λr=>(r.1,r.2.1))):=by show(cE M.next M.l o.name).map _=_;rw[S.nx,S.l,ys n131]
   rw[hv]at hd;rcases ds with⟨n,hX,h1,h2⟩|⟨i,j,all,il,is,hi,jl,e1,e2,e3,aQ,hX⟩
   ·rcases R with⟨n',aa,rfl,hn,rfl⟩|⟨nx,l',x,aa,rfl,rfl⟩
    ·obtain rfl:G3=G2:=by rcases e with⟨_,e⟩|⟨_,e⟩<;>exact e
     exact⟨M,Step.same I S (λ_=>hm) (by rw[hd,aa];rfl) rfl⟩
    ·simp_all
   ·rcases R with⟨n',aa,rfl,hn,rfl⟩|⟨nx,l',x,aa,rfl,rfl⟩
    ·simp_all
    ·rw[hX]at hd aa;cases aa;obtain⟨im,jm⟩:=az (aI il) (aI jl);obtain rfl:=(by
      rcases e with⟨_,e⟩|⟨e,_⟩
      ·exact e
      ·exact absurd rfl e:G3=_)
     obtain⟨ag,ad,_,I3⟩:=I.l9 il is jl e1 e2 e3;rw[aQ]at ad;cases ad;have hd:lb M o=(cC,(0,Qe M G.next (iT ((G.l.set j (hq (recAt G.l j) all (recAt G.l i).prev)).eraseIdx i)) (BM M.l o.name).id)):=hd;rw[hold i (I.hY.named hi)]at hd;have ae:(recAt G.l j).id≠(recAt G.l i).id:=λe=>by have e4:=I.hY.fP.inj jm im e;have:=(I.hY.eM jm im e1.symm).2;grind
     refine OU ?_;intro z hz;have S2:pW (G.l.set j (hq (recAt G.l j) all (recAt G.l i).prev)):=vR I.hY.fP rfl;obtain⟨h1,h2⟩:=(mem_erase S2 ab).mp hz;rw[r' jl,aY (λe=>ae (by rw[e]))]at h2;rcases(mem_set I.hY.fP jl).mp h1 with rfl|⟨h3,h4⟩
     ·exact⟨ae,_,jm,rfl,rfl⟩
     ·exact⟨λe=>h2 (I.hY.fP.inj h3 im e),z,h3,rfl,rfl⟩
theorem abN(I:bm G)(B:pU G)(S:oD G M)(hk:o.kind=9)(h:Mt G s r G3):∃M',Step G M o s r M' G3:=by
 have hd:lb M o=(cC,(0,{M with st:=M.st+1})):=gN
 obtain⟨rfl,rfl,b,hb,_,hc⟩:=h;obtain⟨ats,K⟩:=EA I hc;refine⟨_,Step.done (I.com K hb o6) ?_ hd (λh=>by rw[K.st];show M.st+1=_;omega) (by rw[K.nx];omega) (by rw[K.st];omega) (by rw[K.m];omega) (by rw[K.tx];omega) K.cl (aE _) aq⟩;exact S.sub (B':=M.B) K.nx K.l _ rfl S.l S.z0 S.len (λx hx j hj=>by rw[K.read I hx hj];exact S.rd x hx j hj)
theorem Wu(I:bm G)(B:pU G)(S:oD G M)(aG:o.kind=4->M.st=G.P.st)(h:JO G o s r G3):∃M',Step G M o s r M' G3:=by
 unfold JO at h;split at h
 ·grind [abE]
 split at h
 ·grind [abF]
 split at h
 ·grind [abG]
 split at h
 ·grind [abH]
 split at h
 ·grind [abI]
 split at h
 ·grind [abJ]
 split at h
 ·grind [abK]
 split at h
 ·grind [abL]
 split at h
 ·grind [abM]
 split at h
 ·grind [abN]
 obtain⟨rfl,rfl,rfl⟩:=h;rename_i k0 k1 k2 k3 k4 k5 k6 k7 k8 k9;exact⟨M,Step.same (n:=0) I S (λ_=>qD) gN rfl⟩
theorem B7{next:Nat}{X:Except Nat (Nat × List ao)}(K:oI X)(h:∀nx l',X=.ok (nx,l')->pW l'/\∃x∈l',x.id=next):xl next (SC X):=by
 intro nx l' e;cases X with
 | error n=>cases e
 | ok p=>
  obtain⟨aa,l0⟩:=p;cases e;obtain⟨_,_,h3,_⟩:=K.ok aa l0 rfl;obtain⟨S',x,hx,xi⟩:=h aa l0 rfl;refine⟨λy hy=>?_,?_⟩
  ·obtain⟨u,hu,rfl⟩:=List.mem_map.mp hy;obtain⟨w1,w2,w3,w4,w5,w6,w7⟩:=h3 u hu;exact⟨rfl,w1,w2,w3,w4,w5,gL.1,λp hp=>rG⟩
  ·grind [ca,dF]
theorem IF(I:bm G)(B:pU G)(S:oD G M)(o:oC):Zf M o:=by
 have F:=I.hY;refine⟨?_,?_,?_⟩
 ·rw[S.nx,S.l,sr];refine B7 (I.HQ B _ _) (λnx l' h=>?_);obtain⟨eC,_,_,_,_,_,rfl⟩:=oN h;exact⟨mG F.fP F.KC,ef G.next eC o.n,aq,rfl⟩
 ·rw[S.nx,S.l,x'];refine B7 (I.Wl B _ _) (λnx l' h=>?_);obtain⟨eC,sn,i,_,hi,_,_,_,_,rfl⟩:=vO h;obtain⟨SR,mm⟩:=qG F.fP (il hi) F.KC (s:=j5 G.next (recAt G.l i) sn M.st) (v':=nW G.next (recAt G.l i)) rfl rfl;exact⟨SR,_,(mm _).mpr (.inr (.inl rfl)),rfl⟩
 ·rw[S.nx,S.l,t'];refine B7 (I.MD B _ _) (λnx l' h=>?_);obtain⟨vs,eC,i,_,_,hi,_,_,_,rfl⟩:=rj h;exact⟨mG F.fP F.KC,fh G.next eC (recAt G.l i),aq,rfl⟩
theorem T9(I:bm G)(B:pU G)(S:oD G M)(h1:M.st<=100000000)(h2:M.made<=100000000):C7 M:=by
 have:=B.nx;refine⟨by rw[S.l,lY];exact I.hl,λx hx=>?_,λx hx=>?_,λx hx=>?_,by rw[S.nx];omega,h1,h2⟩;all_goals rw[S.l]at hx;obtain⟨u,hu,rfl⟩:=List.mem_map.mp hx
 ·rfl
 ·obtain⟨w1,w2,w3,w4,w5,w6,w7⟩:=I.wf u hu;exact⟨w1,w2,w3,w4,w5,gL.1,λp hp=>rG⟩
 ·exact((br _).mp (I.hY.rt u hu)).2.2.2.1.2
end
section
open Go.Shelf
def L0:Go.Shelf.Ren:=⟨λ|6=>170|15=>122|14=>232|28=>201|29=>202|20=>265|21=>266|22=>267|23=>268|24=>269|25=>270|26=>271|27=>272|46=>286|47=>251|48=>252|49=>287|50=>288|57=>294|n=>n,λ|22=>192|24=>122|25=>253|3=>3|39=>210|0=>0|53=>85|55=>70|4=>4|46=>280|45=>279|50=>267|5=>5|9=>9|66=>331|70=>334|76=>348|77=>349|n=>n,λ|n=>n⟩
theorem Wo:Go.Proofs.SlLaysF0.n6 Aag L0:={mixed:=al,f6:=⟨Tryz.f170.name,av,func170.trans (cn some aA)⟩,f14:=⟨Tryz.f232.name,av,func232.trans (cn some aA)⟩,f15:=func122.trans (cn some aA),f20:=⟨Tryz.f265.name,av,func265.trans (cn some aA)⟩,f21:=⟨Tryz.f266.name,av,func266.trans (cn some aA)⟩,f22:=⟨Tryz.f267.name,av,func267.trans (cn some aA)⟩,f23:=⟨Tryz.f268.name,av,func268.trans (cn some aA)⟩,f24:=⟨Tryz.f269.name,av,func269.trans (cn some aA)⟩,f25:=⟨Tryz.f270.name,av,func270.trans (cn some aA)⟩,f26:=⟨Tryz.f271.name,av,func271.trans (cn some aA)⟩,f27:=⟨Tryz.f272.name,av,func272.trans (cn some aA)⟩,f28:=func201.trans (cn some aA),f29:=func202.trans (cn some aA),f46:=⟨Tryz.f286.name,av,func286.trans (cn some aA)⟩,f47:=func251.trans (cn some aA),f48:=func252.trans (cn some aA),f49:=⟨Tryz.f287.name,av,func287.trans (cn some aA)⟩,f50:=⟨Tryz.f288.name,av,func288.trans (cn some aA)⟩,f57:=⟨Tryz.f294.name,av,func294.trans (cn some aA)⟩,t0:=underlying0,a0:=Tryz.isAgg0,z0:=Tryz.sizeOf0,v0:=Tryz.zeroValue0,t3:=underlying3,a3:=Tryz.isAgg3,z3:=Tryz.sizeOf3,v3:=Tryz.zeroValue3,t4:=underlying4,a4:=Tryz.isAgg4,z4:=Tryz.sizeOf4,v4:=Tryz.zeroValue4,t5:=underlying5,a5:=Tryz.isAgg5,z5:=Tryz.sizeOf5,v5:=Tryz.zeroValue5,t9:=underlying9,a9:=Tryz.isAgg9,z9:=Tryz.sizeOf9,v9:=Tryz.zeroValue9,t22:=underlying192,a22:=Tryz.isAgg192,z22:=Tryz.sizeOf192,v22:=Tryz.zeroValue192,t25:=underlying253,a25:=Tryz.isAgg253,z25:=Tryz.sizeOf253,v25:=Tryz.zeroValue253,t39:=underlying210,a39:=Tryz.isAgg210,z39:=Tryz.sizeOf210,v39:=Tryz.zeroValue210,t45:=underlying279,a45:=Tryz.isAgg279,z45:=Tryz.sizeOf279,v45:=Tryz.zeroValue279,t46:=underlying280,a46:=Tryz.isAgg280,z46:=Tryz.sizeOf280,v46:=Tryz.zeroValue280,t50:=underlying267,a50:=Tryz.isAgg267,z50:=Tryz.sizeOf267,v50:=Tryz.zeroValue267,t53:=underlying85,a53:=Tryz.isAgg85,z53:=Tryz.sizeOf85,v53:=Tryz.zeroValue85,t55:=underlying70,a55:=Tryz.isAgg70,z55:=Tryz.sizeOf70,v55:=Tryz.zeroValue70,t66:=underlying331,a66:=Tryz.isAgg331,z66:=Tryz.sizeOf331,v66:=Tryz.zeroValue331,t70:=underlying334,a70:=Tryz.isAgg334,z70:=Tryz.sizeOf334,v70:=Tryz.zeroValue334,t76:=underlying348,a76:=Tryz.isAgg348,z76:=Tryz.sizeOf348,v76:=Tryz.zeroValue348,t77:=underlying349,a77:=Tryz.isAgg349,z77:=Tryz.sizeOf349,v77:=Tryz.zeroValue349}
def G4:Go.Shelf.Ren:=⟨λ|189=>61|125=>122|257=>121|128=>201|129=>202|294=>192|295=>193|296=>194|297=>195|298=>196|299=>197|216=>198|300=>199|301=>200|328=>250|329=>251|330=>252|331=>253|332=>254|215=>255|343=>277|n=>n,λ|28=>41|3=>3|46=>210|0=>0|51=>85|53=>70|4=>4|183=>280|182=>279|131=>267|5=>5|9=>9|218=>331|222=>334|228=>348|229=>349|n=>n,λ|n=>n⟩
theorem Jl:Go.Proofs.Lays.n189 Aag G4:={mixed:=al,f125:=func122.trans (cn some aA),f128:=func201.trans (cn some aA),f129:=func202.trans (cn some aA),f189:=func61.trans (cn some aA),f215:=func255.trans (cn some aA),f216:=func198.trans (cn some aA),f257:=func121.trans (cn some aA),f294:=func192.trans (cn some aA),f295:=func193.trans (cn some aA),f296:=func194.trans (cn some aA),f297:=func195.trans (cn some aA),f298:=func196.trans (cn some aA),f299:=func197.trans (cn some aA),f300:=func199.trans (cn some aA),f301:=func200.trans (cn some aA),f328:=func250.trans (cn some aA),f329:=func251.trans (cn some aA),f330:=func252.trans (cn some aA),f331:=func253.trans (cn some aA),f332:=func254.trans (cn some aA),f343:=func277.trans (cn some aA),t0:=underlying0,a0:=Tryz.isAgg0,z0:=Tryz.sizeOf0,v0:=Tryz.zeroValue0,t3:=underlying3,a3:=Tryz.isAgg3,z3:=Tryz.sizeOf3,v3:=Tryz.zeroValue3,t4:=underlying4,a4:=Tryz.isAgg4,z4:=Tryz.sizeOf4,v4:=Tryz.zeroValue4,t5:=underlying5,a5:=Tryz.isAgg5,z5:=Tryz.sizeOf5,v5:=Tryz.zeroValue5,t9:=underlying9,a9:=Tryz.isAgg9,z9:=Tryz.sizeOf9,v9:=Tryz.zeroValue9,t28:=underlying41,a28:=Tryz.isAgg41,z28:=Tryz.sizeOf41,v28:=Tryz.zeroValue41,t46:=underlying210,a46:=Tryz.isAgg210,z46:=Tryz.sizeOf210,v46:=Tryz.zeroValue210,t51:=underlying85,a51:=Tryz.isAgg85,z51:=Tryz.sizeOf85,v51:=Tryz.zeroValue85,t53:=underlying70,a53:=Tryz.isAgg70,z53:=Tryz.sizeOf70,v53:=Tryz.zeroValue70,t131:=underlying267,a131:=Tryz.isAgg267,z131:=Tryz.sizeOf267,v131:=Tryz.zeroValue267,t182:=underlying279,a182:=Tryz.isAgg279,z182:=Tryz.sizeOf279,v182:=Tryz.zeroValue279,t183:=underlying280,a183:=Tryz.isAgg280,z183:=Tryz.sizeOf280,v183:=Tryz.zeroValue280,t218:=underlying331,a218:=Tryz.isAgg331,z218:=Tryz.sizeOf331,v218:=Tryz.zeroValue331,t222:=underlying334,a222:=Tryz.isAgg334,z222:=Tryz.sizeOf334,v222:=Tryz.zeroValue334,t228:=underlying348,a228:=Tryz.isAgg348,z228:=Tryz.sizeOf348,v228:=Tryz.zeroValue348,t229:=underlying349,a229:=Tryz.isAgg349,z229:=Tryz.sizeOf349,v229:=Tryz.zeroValue349}
end
instance:Inhabited hT:=⟨tV⟩
def A1(u:hT):List hT->List hT
 | []=>[u]
 | x::l=>if u.dz<x.dz then u::x::l else x::A1 u l
def Pg(l:List hT):List hT:=l.foldl (λout u=>A1 u out) []
theorem ry(u:hT):∀l,(A1 u l).Perm (u::l)
 | []=>Adm _
 | x::l=>by
  rw[A1];split
  ·exact Adm _
  ·exact((ry u l).cons x).trans (List.Perm.swap _ _ _)
theorem Dw:∀(l out:List hT),(l.foldl (λout u=>A1 u out) out).Perm (out++l)
 | [],out=>aq
 | u::l,out=>by rw[yP];refine(Dw l (A1 u out)).trans ?_;refine((ry u out).append_right l).trans ?_;rw[Aa2];exact List.perm_middle.symm
theorem tI(l:List hT):(Pg l).Perm l:=by have:=Dw l [];assumption
def Zc(l:List hT):Prop:=l.Pairwise (λa b=>a.dz<b.dz)
theorem Ic(u:hT):∀l:List hT,Zc l->(∀x∈l,x.dz≠u.dz)->Zc (A1 u l)
 | [],_,_=>by unfold Zc A1;simp
 | x::l,h,hn=>by
  unfold Zc at *;rw[A1];have hx:=gl.1 h;split
  ·rename_i hlt;refine gl.2 ⟨λy hy=>?_,h⟩;rcases Aam.1 hy with rfl|hy
   ·exact hlt
   ·exact Nat.lt_trans hlt (hx.1 y hy)
  ·rename_i hlt;have hne:=hn x df;refine gl.2 ⟨λy hy=>?_,Ic u l hx.2 (λz hz=>hn z (bt _ hz))⟩;rcases Aam.1 ((ry u l).mem_iff.1 hy)with rfl|hy
   ·omega
   ·exact hx.1 y hy
def Pw(l:List hT):Prop:=l.Pairwise (λa b=>a.dz≠b.dz)
theorem H3:∀(l out:List hT),Zc out->Pw l->(∀x∈out,∀y∈l,x.dz≠y.dz)->Zc (l.foldl (λout u=>A1 u out) out)
 | [],out,h,_,_=>h
 | u::l,out,h,hd,hx=>by
  rw[yP];have ab:=gl.1 hd;refine H3 l (A1 u out) (Ic u out h (λx aa=>hx x aa u df)) ab.2 (λx aa y hy=>?_);rcases Aam.1 ((ry u out).mem_iff.1 aa)with rfl|aa
  ·exact ab.1 y hy
  ·exact hx x aa y (bt _ hy)
theorem Eb{l:List hT}(h:Pw l):Zc (Pg l):=H3 l [] Abz h (λx hx=>aa)
theorem MF:∀{l:List hT},Pw l->∀a∈l,∀b∈l,a.dz=b.dz->a=b
 | [],_,a,ha,_,_,_=>by cases ha
 | x::l,h,a,ha,b,hb,e=>by
  have hx:=gl.1 h;rcases Aam.1 ha with h1|h1
  ·rcases Aam.1 hb with h2|h2
   ·rw[h1,h2]
   ·subst h1;exact absurd e (hx.1 b h2)
  ·rcases Aam.1 hb with h2|h2
   ·subst h2;exact absurd e.symm (hx.1 a h1)
   ·exact MF hx.2 a h1 b h2 e
theorem LZ{l m:List hT}(h:Pw l)(hp:m.Perm l)(hs:m.Pairwise (λa b=>¬b.dz<a.dz)):m=Pg l:=by refine List.Perm.eq_of_pairwise (le:=λa b=>a.dz<=b.dz) (λa b ha hb h1 h2=>?_) (hs.imp (λh=>ae)) ((Eb h).imp (λh=>oY h)) (hp.trans (tI l).symm);grind [MF,tI]
theorem yJ(u v:hT):ltOf HN u v=decide (u.dz<v.dz):=by unfold ltOf HN;simp;omega
theorem Wz:SWO (ltOf HN) where
 irrefl x:=by rw[yJ];simp
 trans x y z h1 h2:=by rw[yJ]at *;simp at *;omega
 ntrans x y z h1 h2:=by rw[yJ]at *;simp at *;omega
theorem Tm(fg off size:Nat)(w:af):CmpLays Aag 171 #[] fR 7 HN fg off size w:=λm os dk _ x y=>by show Aae Aag 171 #[.agg (uC x),.agg (uC y)] _ _;exact(WJ _ x y).mono λe w' h=>⟨h.1,0,#[.cells (uC x) 122]++#[.cells (uC y) 122],h.2.trans aA⟩
theorem aH.Z3{l:List hT}(hc:∀i(hi:i<κ l) j u,(fR l[i])[j]?=some u->w.cell? (ad g (0+(i*7+j)))=some u)(hf:∀i:Nat,w.frozen? ⟨g,i,none⟩=false):HoldsK fR 7 w g 0 l.toArray:=by
 intro j hj;rw[size_flatK]at hj;refine⟨?_,aa⟩;have hi:j/7<κ l:=aQ
 have hlen:κ (fR l[j/7])=7:=rfl;have ag:j%7<κ (fR l[j/7]):=ae
 have:=hc (j/7) hi (j%7) (fR l[j/7])[j%7] (h6 ag);rw[get_flatK _ _ _ _ ae];grind
theorem aH.VS{d:Array hT}(h:HoldsK fR 7 w g 0 d)(h0:0<d.size)(hc:d.size<=cap)(hm:cap<=maxLen):aH fR w (cD g d.size cap) d.toList:=by
 refine .inr ⟨g,0,cap,aq,ae,ae,hm,λj u hj=>?_⟩;have hlt:j<d.size*7:=by have:=(kE.1 hj).1;rw[uw.flat]at this;omega
 have h7:j%7<7:=Nat.mod_lt _ ae;have hi:j/7<κ d.toList:=ab
 have CF:=uw.at d.toList (j/7) hi (j%7) h7;rw[show j/7*7+j%7=j from ae,hj]at CF;have al:=(h.cell (i:=j/7) (c:=j%7) ae h7).1;grind
theorem Wp(w:af)(base:Nat)(v:ah)(l:List hT)(h:ak fR 7 122 w base v l)(hl:κ l<=1000):Aae Aag 170 #[v,.func (.func 171) #[] #[]] w λe w'=>e=rt #[]/\∃l',l'.Perm l/\l'.Pairwise (λa b=>¬b.dz<a.dz)/\aH fR w' v l'/\Touch (λb=>v.ownBlock=some b) w w':=by
 by_cases h0:l=[]
 ·subst h0;have hr:=ak.row h uw;obtain⟨a,cap,hv⟩:=hr.slice;rw[Aa4]at hv;subst hv;have ad:=AnyF.slices_SortFunc_none Wo a cap (.func (.func 171) #[] #[]) w;change Aae Aag 170 _ _ _ at ad;refine ad.mono λe w' hh=>?_;obtain⟨he,rfl⟩:=hh;exact⟨he,[],Adm _,Abz,hr,Touch.refl _ _⟩
 ·have hr:=ak.row h uw;have ag:0<κ l:=FB.2 h0;obtain⟨_,h2⟩:=id h;rcases h2 with⟨_,hz⟩|⟨g,cap,cur,rfl,aI,ai,hn,hm,aC,aJ⟩
  ·omega
  obtain⟨b,off,hb,hlt,aS,hc⟩:=aH.get hr uw ag;simp only[Aai,Abq,and_true]at hb;obtain⟨rfl,rfl⟩:=hb;have hH:=aH.Z3 hc (λi=>World.ownsRow.frozenAt h i);have ad:=AnyQ.slices_SortFunc Wo 7 (λw=>aA) (λw=>aA) fR uw.len uw.one HN Wz 171 #[] g 0 cap l.toArray w (enters_of func171 aA rfl) (Tm g 0 l.toArray.size w) hH hlt ab;change Aae Aag 170 _ _ _ at ad;rw[show l.toArray.size=κ l from aq]at ad;refine ad.mono λe w' hh=>?_;obtain⟨he,d',n,os,hp,hs,hw⟩:=hh;have aN:d'.size=κ l:=by rw[hp.1];simp
  refine⟨he,d'.toList,?_,?_,?_,?_⟩
  ·have h3:=hp.2.2;rw[MW ae,MW aq]at h3;exact h3
  ·rw[List.pairwise_iff_getElem];intro i j hi hj aj;have h3:=hs i j (bT _) aj aa;grind [yJ]
  ·have aE:HoldsK fR 7 (sortWorldK fR 7 w g 0 n d' os) g 0 d':=by unfold sortWorldK;refine holdsK_grow fR 7 _ os g 0 d' ?_ (holdsK_putRowK fR 7 (Sort.ahead w n) g 0 l.toArray d' (holdsK_ahead fR 7 w n g 0 _ hH) ae);unfold putRowK putRow mapBlock Sort.ahead;simp;omega
   grind [aH.VS]
  ·rw[hw];unfold sortWorldK putRowK putRow mapBlock Sort.ahead grow;exact Of
end Go.Proofs.YtkpjfnbbkohciaaGreat
