import Derived.Test.YtkpjfnbbkohciaaGreatCc
set_option maxRecDepth 100000
set_option maxHeartbeats 16000000
set_option linter.all false
open Go.Proofs.Tryz renaming prog->Aag
open Go renaming Oper->Abn,wpList->Aak,Calls->Aae,TypeId->Aab
open List.Pairwise renaming nil->Ab6
open Go.Value renaming int->Acj,ownBlock->Aan
open Go.RowKit renaming intOf->Aat
open List renaming length->κ
namespace Go.Proofs.YtkpjfnbbkohciaaGreat
open Go.Proofs.Tryz Go.RowKit Go.Sort
section
open Go.Maps
structure ju(w:af)(b r n:Nat)(D:DataW Unit)(L:List py)(ks:List Int)(mR:Nat):Prop where
 rg:∃left,w.ranges Aag 3 RM b r n D left mR/\∀i:Int,left (.int .i64 i)=(has D (.int .i64 i) && !decide (i∈ks))
 nd:ks.Nodup
 sub:∀k∈ks,∃x∈L,x.1.loc=k
 hD:∀i:Int,has D (.int .i64 i)=decide (∃x∈L,x.1.loc=i)
 Cr:∀x∈L,∀zd,D.atKey (.int .i64 x.1.loc) zd=z6 (BB x)
section
variable {w w':af} {b r n mR:Nat} {D:DataW Unit} {L:List py} {ks:List Int}
theorem ju.left_eq(h:ju w b r n D L ks mR):w.rangeLeft b r=mR:=by obtain⟨left,h1,h2⟩:=h.rg;exact h1.left_eq
variable {ops:Array Abn} {rest:List Abn} {o:Abn} {a:Act} {Q:Exit->Act->af->Prop}
theorem Rp(hg:o.guard=none)(m:bO)(hop:o.op=Op.range 129 m)(hm:a.eval m=.map (some b))(h:Marks w b n L)(hK:∀w' D mR,ju w' b w.heap.size n D L [] mR->w.grownBy w' none->w'.heap.size=w.heap.size+1->Aak Aag ops Q rest (a.put o.dst (pz w.heap.size)) w'):Aak Aag ops Q (o::rest) a w:=by obtain⟨D,ho,h1,h2⟩:=h.ex;refine wpList_range_own w hg m _ hop _ _ nV underlying129 RM b n D hm ho (λw' hr aa hs=>?_);exact hK w' D _ ⟨⟨_,hr,λi=>aq⟩,Ab6,aq,h1,h2⟩ aa hs
def Yn(w:af)(b r n:Nat)(D:DataW Unit)(L:List py)(ks:List Int)(mR:Nat)(K:py->af->Prop):Prop:=∀q∈L,q.1.loc ∉ ks->∀w' ab,ju w' b r n D L (ks++[q.1.loc]) ab->ab<mR->w.grownBy w' (some r)->w'.heap.size=w.heap.size->(Instr.entry (.pointer (some ⟨r,0,none⟩))).run Aag w'=.ok (.tuple #[.int .i64 q.1.loc,.agg (Ck q)]) w'->K q w'
theorem V6(hg:o.guard=none)(it:bO)(hop:o.op=Op.next it false)(ag:a.eval it=pz r)(h:ju w b r n D L ks mR)(aa:(∀k,k∈ks↔∃x∈L,x.1.loc=k)->Aak Aag ops Q rest (a.put o.dst (.tuple #[.bool false])) w)(ad:Yn w b r n D L ks mR (λq w'=>Aak Aag ops Q rest (a.put o.dst (.tuple #[.bool true,.int .i64 q.1.loc,.agg (Ck q)])) w')):Aak Aag ops Q (o::rest) a w:=by
 obtain⟨left,h1,h2⟩:=h.rg;refine wpList_next_ranges w hg it hop _ nV RM (Acj .i64) (λc:RV=>.agg (ZO c)) (λkey kl hk=>by obtain⟨x,e,_⟩:=keyOf_int_inv underlying3 hk;exact⟨x,e⟩) (λv y hv=>by grind [D4]) b r n D left mR ag h1 (λ_ hl=>?_) (λx c kl y w' ab hk hl hv Cr hr hlt hgr hs aC=>?_)
 ·refine aa (λk=>⟨h.sub k,λhx=>?_⟩);have:=h2 k;rw[hl,h.hD,gD hx]at this;grind
 ·obtain⟨x',e,rfl,_⟩:=keyOf_int_inv underlying3 hk;cases e;have h3:=h2 x;rw[hl]at h3;have h5:=(Bool.and_eq_true_iff.mp h3.symm).1;rw[h.hD]at h5;obtain⟨q,hq,rfl⟩:=iy h5;have h6:q.1.loc ∉ ks:=by grind
  have hc:c=BB q:=by
   obtain⟨c',e1,e2⟩:=D4 hv;have e3:y.1=z6 (BB q):=by rw[<-Cr .nil,h.Cr q hq]
   grind [ZO,z7]
  subst hc;refine ad q hq h6 w' ab ⟨⟨_,hr,λi=>?_⟩,?_,?_,h.hD,h.Cr⟩ hlt hgr hs aC
  ·simp only[h2 i];by_cases hi:i=q.1.loc
   ·subst hi;simp[h6,Lit.sameKey]
   ·have e:(Lit.int .i64 i).sameKey (.int .i64 q.1.loc)=false:=by simp[Lit.sameKey,hi]
    grind
  ·exact List.nodup_append.mpr ⟨h.nd,aq,λa ha c hc e=>by
    have:c=q.1.loc:=by simpa using hc
    rw[this]at e;rw[e]at ha;exact h6 ha⟩
  ·intro k hk;rcases List.mem_append.mp hk with h7|h7
   ·exact h.sub k h7
   ·grind
end
end
def iS(s:Nat->Nat)(l:List Int):Nat->Nat:=l.foldl (λs i=>sc s i 1 2) s
theorem GI(s:Nat->Nat)(l:List Int)(i:Int):iS s (l++[i])=sc (iS s l) i 1 2:=by simp[iS]
theorem B0{j:Nat}:∀(l:List Int)(s:Nat->Nat),(∀i∈l,0<=i/\i<1024)->iS s l j=if(j:Int)∈l/\s j=1 then 2 else s j
 | [],s,_=>by simp[iS]
 | i::l,s,h=>by
  show iS (sc s i 1 2) l j=_;rw[B0 l _ (λx hx=>h x (bt _ hx))];have hi:=h i aq;obtain⟨n,rfl⟩:∃n:Nat,i=(n:Int):=⟨i.toNat,ae⟩;by_cases hs:s n=1
  ·rw[WC ae hs];unfold e7;by_cases hj:j=n
   ·subst hj;simp[hs]
   ·have:¬((j:Int)=(n:Int)):=by omega
    simp[hj,this]
  ·have e:sc s (n:Int) 1 2=s:=by unfold sc;rw[qX s n 1 ae];simp[hs]
   rw[e];by_cases hj:j=n
   ·subst hj;simp[hs]
   ·have:¬((j:Int)=(n:Int)):=by omega
    simp[this]
theorem Ls(w:af)(v:ah)(l:List bM)(hv:dS w v l)(hb:∀a m c,v=.slice (some a) m c->a.block<w.heap.size)(mb:Nat)(s:Nat->Nat)(S:ck w mb s):Aae Aag 106 #[v,.func (.func 107) #[pz mb] #[]] w λe w'=>e=rt #[]/\ck w' mb (iS s (cx l))/\Touch (·=mb) w w':=by
 have HS:=an S;go_in;go_wp2_with fail;refine(vj w v l hv hb).mono ?_;rintro e w1⟨u,rfl,ou,u1⟩;obtain⟨xs,aa⟩:=bK (cx l);have hxl:κ xs<=4097:=(by rw[aa];exact HY l);rw[<-aa]at ou;have HX:=an aa;have ui:=ou.cC;obtain⟨a,cap,rfl⟩:=ui.slice;obtain⟨OU,NB,U1,S1⟩:=bR ui (show ∀c,Aan (.slice a (κ xs) cap)=some c->c≠mb from λc hc e=>by have:=(ou.aN c hc).1;have:=S.lt;omega) u1 (HS.up u1);clear aa;go_wp2;go_loopw [9] (λi wr=>∃k:Nat,k<=κ xs/\i=i6 k/\ck wr mb (iS s (xs.take k))/\Touch (·=mb) w1 wr) (λi _=>κ xs-(Aat i).toNat)
 case atStart=>exact⟨0,bE _,rfl,S1,Touch.refl _ _⟩
 case round=>
  obtain⟨k,hk,rfl,sr,tr⟩:=hrel;obtain⟨SR,TR⟩:=aw sr tr;by_cases hlt:k<κ xs
  ·have b3:((k:Int)<(κ xs:Int))=True:=by simp;omega
   obtain⟨b,off,rfl,hbs,hx⟩:=cg (OU.az TR (λc hc e=>NB c hc e)) rfl ae;have c0:=hx k hlt;obtain⟨TK,TA⟩:=aw (show iS s (xs.take (k+1))=sc (iS s (xs.take k)) xs[k] 1 2 from by rw[en hlt,GI]) (VK wr mb (iS s (xs.take k)) SR xs[k]);clear hx;generalize xs[k]=x at *;unfold bz at c0;go_wp2_with fail;refine TA.mono ?_;rintro e w4⟨rfl,s4,t4⟩;have T4:=an (TR.trans t4 (λ_ h _=>h));go_wp2;go_roundw
   case rel=>exact⟨k+1,ae,aq,by rw[TK.out];exact s4,T4⟩
   case measure=>simp only[Aat];omega
  ·obtain rfl:k=κ xs:=by omega
   have b3:((κ xs:Int)<(κ xs:Int))=False:=aq
   go_wp2;go_end0;have h:=SR.out;rw[fx,HX.out]at h;exact⟨rfl,h,(Touch.bW (F:=(·=mb)) U1).trans TR (λ_ h _=>h)⟩
theorem Qh{H:Type}{enc:Aab × ah->H}{W:af}{base:Nat}{v:ah}{d:DataW H}{ps:List MemPlace}(ab:Value.okWide Aag W .any base 41 v)(hd:DataW.Trod enc Aag W 0 (λ_=>true) true 41 v d ps):∃l:List Int,aD bz W v l:=by
 obtain⟨a0,len,cap,rfl⟩:=WideShapes.okWide_slice underlying41 ab;obtain⟨fuel,hf⟩:=hd;obtain⟨l,r,_⟩:=Qg bz (λ_=>True) underlying41 (by decide:prog.cellsOf 3=1) (λn c y hy=>by obtain⟨m,hm,_⟩:=DataW.trod_int underlying3 hy;simp at hm;exact⟨m,hm,trivial⟩) hf
 exact⟨l,r⟩
end Go.Proofs.YtkpjfnbbkohciaaGreat
