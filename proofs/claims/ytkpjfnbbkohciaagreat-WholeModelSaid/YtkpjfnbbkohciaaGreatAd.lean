import Derived.Test.YtkpjfnbbkohciaaGreatAc
set_option maxRecDepth 100000
set_option maxHeartbeats 16000000
set_option linter.all false
open Go renaming zeroValue->Acj,TypeId->Aab,Oper->Abn,wpList->Aal,undef->Aas,Calls->Aae
open Go.Proofs.Tryz renaming prog->Aag
open List.Pairwise renaming nil->Abz
open Nat renaming zero_add->Aby
open List renaming map_append->Aar,length->κ
open Go.RowKit renaming intOf->Aau
open Go.Value renaming ownBlock->Aan,int->Ack
open Option.some renaming injEq->Aai
open Go.World renaming cell?->Aco
open Go.Op renaming equalIn->Ach
namespace Go.Proofs.YtkpjfnbbkohciaaGreat
open Go.Proofs.Tryz Go.RowKit Go.Sort
section
open Go.Maps
abbrev p1:=au × Bool
def CG(x:p1):Array ah:=#[.int .i64 x.1.loc,.int .u64 (x.1.aU:Int),.int .u32 (x.1.sum:Int),.bool x.2]
theorem Yh(x:p1):(CG x).all (·.oneCell')=true:=by simp[CG,Value.oneCell']
theorem we:∀W:af,(Acj 134).run Aag W=.ok (.agg (CG (hole,false))) W:=by simp[CG,hole]
theorem Ta(q:au)(b:Bool):prog.built 134 [(0,.agg (be q)),(1,.bool b)]=some (CG (q,b)):=al
abbrev SQ:=Int × Int × Int × Bool
def aaw(c:SQ):Array ah:=#[.int .i64 c.1,.int .u64 c.2.1,.int .u32 c.2.2.1,.bool c.2.2.2]
def AE(c:SQ):DataW Unit:=.agg [.lit (.int .i64 c.1),.lit (.int .u64 c.2.1),.lit (.int .u32 c.2.2.1),.lit (.bool c.2.2.2)]
def B0(x:p1):SQ:=(x.1.loc,((x.1.aU:Int),((x.1.sum:Int),x.2)))
def RM:ah->Option (DataW Unit × List MemPlace)
 | .agg ⟨[.int .i64 a,.int .u64 b,.int .u32 c,.bool d]⟩=>some (AE (a,b,c,d),[])
 | _=>none
theorem Eu{v:ah}{y:DataW Unit × List MemPlace}(h:RM v=some y):∃c,v=.agg (aaw c)/\y=(AE c,[]):=by
 unfold RM at h;split at h
 ·cases h;exact⟨(_,_,_,_),rfl,rfl⟩
 ·cases h
theorem AF{c d:SQ}(h:AE c=AE d):c=d:=by grind [AE]
def oc:Keyed Aag 3:=int_keyed underlying3
theorem Z6{i:Int}(h:0<=i/\i<=4096):(Lit.int .i64 i).wf=true:=WalkArith.wf_i64 ae
def E0{i:Int}(h:0<=i/\i<=4096):keyOf Aag 3 (.int .i64 i)=some (.int .i64 i):=keyOf_int_mk underlying3 (Z6 h)
theorem Im(j:Int):WideAt.IsKeyLit (.int .i64 j):=by unfold WideAt.IsKeyLit;trivial
structure Marks(w:af)(b n:Nat)(L:List p1):Prop where
 nd:(L.map (·.1.loc)).Nodup
 rg:∀x∈L,0<=x.1.loc/\x.1.loc<=4096
 ex:∃D:DataW Unit,w.ownsMap Aag 3 RM b n D/\(∀i:Int,has D (.int .i64 i)=decide (∃x∈L,x.1.loc=i))/\∀x∈L,∀zd,D.atKey (.int .i64 x.1.loc) zd=AE (B0 x)
section
variable {w w':af} {b n:Nat} {L:List p1}
theorem Marks.made(w:af):Marks (w.alloc (.map #[] 0)) w.heap.size 0 []:=⟨Abz,aq,.map [],Fw w _ _ _,λi=>aA,aq⟩
theorem Marks.lt(h:Marks w b n L):b<w.heap.size:=by obtain⟨D,h,_⟩:=h.ex;exact h.lt
theorem Marks.heap(h:Marks w b n L)(e:w'.heap[b]?=w.heap[b]?):Marks w' b n L:=by obtain⟨D,⟨es,clock,hb,F,hs,hD⟩,h1,h2⟩:=h.ex;exact⟨h.nd,h.rg,D,⟨es,clock,e.trans hb,F,hs,hD⟩,h1,h2⟩
theorem Marks.ax{F:Nat->Prop}(h:Marks w b n L)(T:Touch F w w')(hF:¬F b):Marks w' b n L:=h.heap (T.block b h.lt hF)
def Marks.up(h:Marks w b n L)(u:Up w w'):Marks w' b n L:=h.heap (oV u b h.lt)
theorem Marks.map(h:Marks w b n L):∃es c,w.heap[b]?=some (.map es c):=by obtain⟨D,⟨es,clock,hb,_⟩,_⟩:=h.ex;simp_all
theorem Marks.ne{g:Nat}{t:Aab}{C:Array ah}(h:Marks w b n L)(hg:aF w g t C):b≠g:=λe=>by subst e;obtain⟨es,c,hb⟩:=h.map;unfold aF at hg;rw[hg]at hb;cases hb
theorem Marks.mono{n':Nat}(h:Marks w b n L)(hn:n<=n'):Marks w b n' L:=by obtain⟨D,ho,h1,h2⟩:=h.ex;exact⟨h.nd,h.rg,D,ho.mono hn,h1,h2⟩
theorem Vy{w:af}{g:Nat}{t:Aab}{x:p1}(h:aF w g t (CG x)):w.rangeAt g 0 (be x.1).toList:=λj v hj=>by
 rw[h.cell,Aby];match j,hj with
 | 0,hj=>exact hj
 | 1,hj=>exact hj
 | 2,hj=>exact hj
 | (k+3),hj=>simp[be]at hj
theorem Marks.add(h:Marks w b n L)(hn:n<maxLen)(q:p1)(hq:∀x∈L,x.1.loc≠q.1.loc)(hr:0<=q.1.loc/\q.1.loc<=4096):∃w',(Instr.mapUpdate 129 (.map (some b)) (.int .i64 q.1.loc) (.agg (CG q))).run Aag w=.ok () w'/\Marks w' b (n+1) (L++[q])/\w.grownBy w' (some b):=by
 obtain⟨D,ho,h1,h2⟩:=h.ex;obtain⟨w',ay,al,hg⟩:=ho.update oc underlying129 hn (E0 hr) (val:=.agg (CG q)) (d:=AE (B0 q)) (ps:=[]) rfl;have ne:∀i:Int,i≠q.1.loc->(Lit.int .i64 i)≠.int .i64 q.1.loc:=λi hi e=>hi aa;refine⟨w',ay,⟨?_,?_,_,al,λi=>?_,λx hx zd=>?_⟩,hg⟩
 ·rw[Aar];refine List.nodup_append.mpr ⟨h.nd,aq,λa ha c hc e=>?_⟩;grind
 ·intro x hx;rcases List.mem_append.mp hx with h3|h3
  ·exact h.rg x h3
  ·simp_all
 ·by_cases e:i=q.1.loc
  ·subst e;rw[has_put_same ho.isMap (Im _)];simp
  ·rw[has_put_other (ne i e),h1 i];simp;omega
 ·rcases List.mem_append.mp hx with h3|h3
  ·rw[atKey_put_other (ne _ (hq x h3)),h2 x h3]
  ·rw[show x=q from aa];exact atKey_put_same ho.isMap (Im _) _ _
variable {ops:Array Abn} {rest:List Abn} {o:Abn} {a:Act} {Q:Exit->Act->af->Prop}
theorem Sm(hg:o.guard=none)(m x:bU)(hop:o.op=Op.lookup 129 m x true)(hm:a.eval m=.map (some b))(h:Marks w b n L)(q:p1)(hq:q∈L)(hx:a.eval x=i6 q.1.loc)(hK:Aal Aag ops Q rest (a.put o.dst (.tuple #[.agg (CG q),.bool true])) w):Aal Aag ops Q (o::rest) a w:=by obtain⟨D,ho,h1,h2⟩:=h.ex;refine wpList_lookup_own_ok w hg m x _ hop _ _ oc underlying129 RM (we w) (AE (B0 (hole,false))) [] rfl b n D hm ho _ _ hx (E0 (h.rg q hq)) (λv ps hv=>?_);obtain⟨c,rfl,hc⟩:=Eu hv;rw[h2 q hq]at hc;simp only[Prod.mk.injEq]at hc;rw[<-AF hc.1,h1,h8 ⟨q,hq,rfl⟩];exact hK
theorem Sl(hg:o.guard=none)(m x:bU)(hop:o.op=Op.lookup 129 m x true)(hm:a.eval m=.map (some b))(h:Marks w b n L)(i:Int)(hi:0<=i/\i<=4096)(hn:∀x∈L,x.1.loc≠i)(hx:a.eval x=.int .i64 i)(hK:Aal Aag ops Q rest (a.put o.dst (.tuple #[.agg (CG (hole,false)),.bool false])) w):Aal Aag ops Q (o::rest) a w:=by
 obtain⟨D,ho,h1,h2⟩:=h.ex;have hf:has D (.int .i64 i)=false:=aQ
 refine wpList_lookup_own_ok w hg m x _ hop _ _ oc underlying129 RM (we w) (AE (B0 (hole,false))) [] rfl b n D hm ho _ _ hx (E0 hi) (λv ps hv=>?_);obtain⟨c,rfl,hc⟩:=Eu hv;rw[atKey_of_not_has hf]at hc;simp only[Prod.mk.injEq]at hc;rw[<-AF hc.1,hf];exact hK
theorem Y7(hg:o.guard=none)(m x v:bU)(hop:o.op=Op.mapUpdate 129 m x v)(hm:a.eval m=.map (some b))(h:Marks w b n L)(hn:n<maxLen)(q:p1)(hq:∀x∈L,x.1.loc≠q.1.loc)(hr:0<=q.1.loc/\q.1.loc<=4096)(hx:a.eval x=i6 q.1.loc)(hv:a.eval v=.agg (CG q))(hK:∀w',Marks w' b (n+1) (L++[q])->w.grownBy w' (some b)->Aal Aag ops Q rest (a.put o.dst Aas) w'):Aal Aag ops Q (o::rest) a w:=by refine h' hg λK' hK'=>?_;obtain⟨w',hrun,r1,r2⟩:=h.add hn q hq hr;exact Oc
end
def nv(own:Bool)(L:List p1)(q:au):List p1:=if ∃x∈L,x.1.loc=q.loc then L else L++[(q,own)]
def ig(own:Bool)(L:List p1)(ps:List au):List p1:=ps.foldl (nv own) L
theorem Iw(own:Bool)(L:List p1)(ps:List au)(q:au):ig own L (ps++[q])=nv own (ig own L ps) q:=by simp[ig]
theorem pd{own:Bool}:∀{ps:List au}{L:List p1}{x:p1},x∈ig own L ps->x∈L\/(x.1∈ps/\x.2=own)
 | [],_,_,h=>.inl h
 | q::ps,L,x,h=>by
  rcases pd (ps:=ps) (L:=nv own L q) h with h|⟨h,h2⟩
  ·unfold nv at h;split at h
   ·exact .inl h
   ·rcases List.mem_append.mp h with h|h
    ·exact .inl h
    ·have:x=(q,own):=by simpa using h
     rw[this];exact .inr ⟨aq,rfl⟩
  ·exact .inr ⟨bt _ h,h2⟩
theorem lf{own:Bool}:∀{ps:List au}{L:List p1}{x:p1},x∈L->x∈ig own L ps
 | [],_,_,h=>h
 | q::ps,L,x,h=>lf (ps:=ps) (L:=nv own L q) (by unfold nv;split;exact h;exact nO _ h)
theorem tn{own:Bool}:∀{ps:List au}{L:List p1}{q:au},q∈ps->∃x∈ig own L ps,x.1.loc=q.loc
 | p::ps,L,q,h=>by
  rcases List.mem_cons.mp h with rfl|h
  ·by_cases hc:∃x∈L,x.1.loc=q.loc
   ·obtain⟨x,hx,e⟩:=hc;exact⟨x,lf (ps:=q::ps) hx,e⟩
   ·have:(q,own)∈nv own L q:=by unfold nv;rw[aY hc];simp
    exact⟨(q,own),lf (ps:=ps) this,rfl⟩
  ·exact tn (ps:=ps) (L:=nv own L p) h
structure SI(L:List p1)(ps:List au):Prop where
 old:∀x∈L,∀q∈ps,x.1.loc=q.loc->x.1=q
 new:∀p∈ps,∀q∈ps,p.loc=q.loc->p=q
 rg:∀q∈ps,0<=q.loc/\q.loc<=4096
theorem SI.at{L:List p1}{ps:List au}(F:SI L ps){own:Bool}{k:Nat}(hk:k<κ ps){x:p1}(hx:x∈ig own L (ps.take k))(e:x.1.loc=ps[k].loc):x.1=ps[k]:=by
 rcases pd hx with h|⟨h,_⟩
 ·exact F.old x h _ (cw hk) e
 ·exact F.new _ (s9 h) _ (cw hk) e
end
section
open Go.Maps
theorem D3(w:af)(b n:Nat)(L:List p1)(A:Marks w b n L)(v:ah)(ps:List au)(hv:c9 w v ps)(hn:n+κ ps<=1000000)(F:SI L ps)(own:Bool):Aae Aag 59 #[.map (some b),v,.bool own] w λe w'=>e=.returned (.bool false)/\Marks w' b (n+κ ps) (ig own L ps)/\Touch (·=b) w w':=by
 obtain⟨a,cap,rfl⟩:=hv.slice;obtain⟨HA,HV,HF,HN⟩:=bW A hv F hn;have aK:κ ps<=1000000:=ae
 clear A hv F hn;go_in;go_wp2_with fail;go_loopw [7,14] (λtw i wr=>∃k:Nat,k<=κ ps/\i=.int .i64 k/\tw=.bool false/\Marks wr b (n+k) (ig own L (ps.take k))/\Touch (·=b) w wr) (λ_ i _=>κ ps-(Aau i).toNat)
 case atStart=>exact⟨0,bT _,rfl,rfl,HA,Touch.refl _ _⟩
 case round=>
  obtain⟨k,hk,rfl,rfl,mr,tr⟩:=hrel;obtain⟨MR,TR⟩:=aw mr tr;clear mr tr;by_cases hlt:k<κ ps
  ·have b3:((k:Int)<(κ ps:Int))=True:=by simp;omega
   have NB:=an (show ∀c,Aan (.slice a (κ ps) cap)=some c->c≠b from λc hc e=>by subst e;obtain⟨bb,off,rfl,hbs,_,hx⟩:=HV.range pw ae;have h0:=hx k hlt;obtain⟨es,cl,hb⟩:=HA.map;have:=h0 0 (.int .i64 ps[k].loc) rfl;simp only[Aan,Aai]at hc;subst hc;simp[Aco,hb]at this)
   obtain⟨bb,off,rfl,hbs,_,hc⟩:=(aH.tN HV TR (λc hc e=>NB c hc e)).range pw ae;obtain⟨RC,TK,FA,RG,UX,BX⟩:=ix (hc k hlt) (show ig own L (ps.take (k+1))=nv own (ig own L (ps.take k)) ps[k] from by rw[et hlt,Iw]) (λx (hx:x∈ig own L (ps.take k)) (e:x.1.loc=ps[k].loc)=>HF.at hlt hx e) (HF.rg _ (cw hlt)) (ai wr (.cells (be ps[k]) 87)) (aF.new wr 87 (be ps[k]));generalize ps[k]=q at *;generalize aj:ig own L (ps.take k)=LL at *;have c0:(wr.alloc (.cells (be q) 87)).cell? ⟨wr.heap.size,0,none⟩=some (.int .i64 q.loc):=BX.cell 0;clear hc aj;by_cases hm:∃x∈LL,x.1.loc=q.loc
   ·obtain⟨x,hx,ag⟩:=hm;have ad:=FA x hx ag;obtain⟨q',aa⟩:=x;have ad:q'=q:=ad;subst ad;obtain⟨HX,TM,MX,UY,BY⟩:=eW hx (show nv own LL q'=LL from by unfold nv;rw[bI ⟨_,hx,rfl⟩]) (MR.up UX) (ai (wr.alloc (.cells (be q') 87)) (.cells (CG (q',aa)) 134)) (aF.new (wr.alloc (.cells (be q') 87)) 134 (CG (q',aa)));have EQ:∀W:af,(Ach 10000 87 (.agg (be q')) (.agg (be q'))).run Aag W=.ok true W:=λW=>by have:=zM 9998 q' q' W;rw[h8 rfl]at this;exact this
    obtain⟨w1,ay⟩:=bE (wr.alloc (.cells (be q') 87));have HW1:=an ay;rw[<-ay]at UX BX c0 MX UY BY;obtain⟨ab,SZ⟩:=aw (BX.up UY) (show w1.heap.size=wr.heap.size+1 from by rw[ay,aN]);clear hx ag ay;go_wp2_with(first
     | refine cT 87 16 (be q') RC ?_
     | refine bB 87 fL ?_
     | refine eh 87 9 17 wr (be q') 87 (be hole) ?_
     | ((with_reducible refine r9 3 (.tmp 20) ?_);refine j8 ?_))
    rw[<-HW1.out];refine an ?_;go_wp2_with(first
     | (at_lookup;refine Sm rfl (.tmp 19) (.tmp 21) rfl rfl MX (q',aa) HX rfl ?_)
     | refine bB 134 we ?_
     | refine eh 134 10 23 w1 (CG (q',aa)) 134 (CG (hole,false)) ?_
     | refine cT 87 33 (be q') (Vy BY) ?_
     | refine cY 87 9 ab ?_)
    go_roundw
    case rel=>exact⟨k+1,ae,aq,rfl,by rw[TK.out,TM.out];exact(MX.up UY).mono ae,TR.iZ (UX.trans UY)⟩
    case measure=>simp only[Aau];omega
   ·obtain⟨HX,TM,MX,UY⟩:=bW (show ∀x∈LL,x.1.loc≠q.loc from λx hx e=>hm ⟨x,hx,e⟩) (show nv own LL q=LL++[(q,own)] from by unfold nv;rw[aY hm]) (MR.up UX) (ai (wr.alloc (.cells (be q) 87)) (.cells (CG (hole,false)) 134));obtain⟨w1,ay⟩:=bE (wr.alloc (.cells (be q) 87));have HW1:=an ay;rw[<-ay]at UX BX c0 MX UY;obtain⟨MY,ab,SZ,BM⟩:=bW (MX.up UY) (BX.up UY) (show w1.heap.size=wr.heap.size+1 from by rw[ay,aN]) (Ta q own);have c1:=UY.cell c0;clear hm ay;go_wp2_with(first
     | refine cT 87 16 (be q) RC ?_
     | refine bB 87 fL ?_
     | refine eh 87 9 17 wr (be q) 87 (be hole) ?_
     | ((with_reducible refine r9 3 (.tmp 20) ?_);refine j8 ?_))
    rw[<-HW1.out];refine an ?_;go_wp2_with(first
     | (at_lookup;refine Sl rfl (.tmp 19) (.tmp 21) rfl rfl MX q.loc RG HX rfl ?_)
     | refine bB 134 we ?_
     | refine eh 134 10 23 w1 (CG (hole,false)) 134 (CG (hole,false)) ?_
     | refine cY 87 9 ab ?_
     | ((with_reducible refine eP 134 #[(0,.tmp 30),(1,.tmp 31)] ?_);refine kV rfl 134 0 1 (.tmp 30) (.tmp 31) rfl _ _ (CG (q,own)) BM rfl rfl ?_)
     | (at_mapUpdate;refine Y7 rfl (.tmp 27) (.tmp 29) (.tmp 32) rfl rfl MY (by have:=HN.out;unfold maxLen;omega) (q,own) HX RG rfl rfl ?_))
    intro w7 m7 g7;obtain⟨M7,T7⟩:=aw m7 ((TR.iZ (UX.trans UY)).trans (Touch.bg (F:=(·=b)) g7 (λkk aG=>by cases aG;rfl)) (λ_ h _=>h));clear m7 g7;go_wp2_with fail;go_roundw
    case rel=>exact⟨k+1,ae,aq,rfl,by rw[TK.out,TM.out];exact M7,T7⟩
    case measure=>simp only[Aau];omega
  ·obtain rfl:k=κ ps:=by omega
   have b3:((κ ps:Int)<(κ ps:Int))=False:=aq
   go_wp2_with fail;go_ret;have:=MR.out;rw[fF]at this;exact⟨rfl,this,TR⟩
end
section
open Go.Maps
structure gg(w:af)(b r n:Nat)(D:DataW Unit)(L:List p1)(ks:List Int)(mR:Nat):Prop where
 rg:∃left,w.ranges Aag 3 RM b r n D left mR/\∀i:Int,left (.int .i64 i)=(has D (.int .i64 i) && !decide (i∈ks))
 nd:ks.Nodup
 sub:∀k∈ks,∃x∈L,x.1.loc=k
 hD:∀i:Int,has D (.int .i64 i)=decide (∃x∈L,x.1.loc=i)
 CF:∀x∈L,∀zd,D.atKey (.int .i64 x.1.loc) zd=AE (B0 x)
section
variable {w w':af} {b r n mR:Nat} {D:DataW Unit} {L:List p1} {ks:List Int}
theorem gg.kept{row:Option Nat}(h:gg w b r n D L ks mR)(hg:w.grownBy w' row)(hb:some b≠row)(hr:some r≠row):gg w' b r n D L ks mR:=by obtain⟨left,h1,h2⟩:=h.rg;exact⟨⟨left,h1.kept hg hb hr,h2⟩,h.nd,h.sub,h.hD,h.CF⟩
theorem gg.left_eq(h:gg w b r n D L ks mR):w.rangeLeft b r=mR:=by obtain⟨left,h1,h2⟩:=h.rg;exact h1.left_eq
theorem gg.lt(h:gg w b r n D L ks mR):r<w.heap.size:=by obtain⟨left,h1,h2⟩:=h.rg;exact h1.lt
theorem gg.ne{g:Nat}{t:Aab}{C:Array ah}(h:gg w b r n D L ks mR)(hg:aF w g t C):b≠g/\r≠g:=by obtain⟨left,⟨es,clock,since,seen,c0,hb,_,_,_,hr,_⟩,_⟩:=h.rg;grind [aF]
variable {ops:Array Abn} {rest:List Abn} {o:Abn} {a:Act} {Q:Exit->Act->af->Prop}
theorem Sn(hg:o.guard=none)(m:bU)(hop:o.op=Op.range 129 m)(hm:a.eval m=.map (some b))(h:Marks w b n L)(hK:∀w' D mR,gg w' b w.heap.size n D L [] mR->w.grownBy w' none->w'.heap.size=w.heap.size+1->Aal Aag ops Q rest (a.put o.dst (pz w.heap.size)) w'):Aal Aag ops Q (o::rest) a w:=by obtain⟨D,ho,h1,h2⟩:=h.ex;refine wpList_range_own w hg m _ hop _ _ oc underlying129 RM b n D hm ho (λw' hr aa hs=>?_);exact hK w' D _ ⟨⟨_,hr,λi=>aq⟩,Abz,aq,h1,h2⟩ aa hs
def Zg(w:af)(b r n:Nat)(D:DataW Unit)(L:List p1)(ks:List Int)(mR:Nat)(K:p1->af->Prop):Prop:=∀q∈L,q.1.loc ∉ ks->∀w' ab,gg w' b r n D L (ks++[q.1.loc]) ab->ab<mR->w.grownBy w' (some r)->w'.heap.size=w.heap.size->(Instr.entry (.pointer (some ⟨r,0,none⟩))).run Aag w'=.ok (.tuple #[.int .i64 q.1.loc,.agg (CG q)]) w'->K q w'
theorem W0(hg:o.guard=none)(it:bU)(hop:o.op=Op.next it false)(ag:a.eval it=pz r)(h:gg w b r n D L ks mR)(aa:(∀k,k∈ks↔∃x∈L,x.1.loc=k)->Aal Aag ops Q rest (a.put o.dst (.tuple #[.bool false])) w)(ad:Zg w b r n D L ks mR (λq w'=>Aal Aag ops Q rest (a.put o.dst (.tuple #[.bool true,.int .i64 q.1.loc,.agg (CG q)])) w')):Aal Aag ops Q (o::rest) a w:=by
 obtain⟨left,h1,h2⟩:=h.rg;refine wpList_next_ranges w hg it hop _ oc RM (Ack .i64) (λc:SQ=>.agg (aaw c)) (λkey kl hk=>by obtain⟨x,e,_⟩:=keyOf_int_inv underlying3 hk;exact⟨x,e⟩) (λv y hv=>by grind [Eu]) b r n D left mR ag h1 (λ_ hl=>?_) (λx c kl y w' ab hk hl hv CF hr hlt hgr hs ay=>?_)
 ·refine aa (λk=>⟨h.sub k,λhx=>?_⟩);have:=h2 k;rw[hl,h.hD,h8 hx]at this;grind
 ·obtain⟨x',e,rfl,_⟩:=keyOf_int_inv underlying3 hk;cases e;have h3:=h2 x;rw[hl]at h3;have h5:=(Bool.and_eq_true_iff.mp h3.symm).1;rw[h.hD]at h5;obtain⟨q,hq,rfl⟩:=jk h5;have h6:q.1.loc ∉ ks:=by grind
  have hc:c=B0 q:=by
   obtain⟨c',e1,e2⟩:=Eu hv;have e3:y.1=AE (B0 q):=by rw[<-CF .nil,h.CF q hq]
   grind [aaw,AF]
  subst hc;refine ad q hq h6 w' ab ⟨⟨_,hr,λi=>?_⟩,?_,?_,h.hD,h.CF⟩ hlt hgr hs ay
  ·simp only[h2 i];by_cases hi:i=q.1.loc
   ·subst hi;simp[h6,Lit.sameKey]
   ·have e:(Lit.int .i64 i).sameKey (.int .i64 q.1.loc)=false:=by simp[Lit.sameKey,hi]
    grind
  ·exact List.nodup_append.mpr ⟨h.nd,aq,λa ha c hc e=>by
    have:c=q.1.loc:=by simpa using hc
    rw[this]at e;rw[e]at ha;exact h6 ha⟩
  ·intro k hk;rcases List.mem_append.mp hk with h7|h7
   ·exact h.sub k h7
   ·grind
end
end
def je(s:Nat->Nat)(l:List Int):Nat->Nat:=l.foldl (λs i=>sS s i 1 2) s
theorem Hb(s:Nat->Nat)(l:List Int)(i:Int):je s (l++[i])=sS (je s l) i 1 2:=by simp[je]
theorem Co{j:Nat}:∀(l:List Int)(s:Nat->Nat),(∀i∈l,0<=i/\i<1024)->je s l j=if(j:Int)∈l/\s j=1 then 2 else s j
 | [],s,_=>by simp[je]
 | i::l,s,h=>by
  show je (sS s i 1 2) l j=_;rw[Co l _ (λx hx=>h x (bt _ hx))];have hi:=h i aq;obtain⟨n,rfl⟩:∃n:Nat,i=(n:Int):=⟨i.toNat,ae⟩;by_cases hs:s n=1
  ·rw[Xv ae hs];unfold ff;by_cases hj:j=n
   ·subst hj;simp[hs]
   ·have:¬((j:Int)=(n:Int)):=by omega
    simp[hj,this]
  ·have e:sS s (n:Int) 1 2=s:=by unfold sS;rw[rB s n 1 ae];simp[hs]
   rw[e];by_cases hj:j=n
   ·subst hj;simp[hs]
   ·have:¬((j:Int)=(n:Int)):=by omega
    simp[this]
theorem Ma(w:af)(v:ah)(l:List bM)(hv:dX w v l)(hb:∀a m c,v=.slice (some a) m c->a.block<w.heap.size)(mb:Nat)(s:Nat->Nat)(S:b' w mb s):Aae Aag 106 #[v,.func (.func 107) #[pz mb] #[]] w λe w'=>e=rt #[]/\b' w' mb (je s (cG l))/\Touch (·=mb) w w':=by
 have HS:=an S;go_in;go_wp2_with fail;refine(vP w v l hv hb).mono ?_;rintro e w1⟨u,rfl,ou,u1⟩;obtain⟨xs,ag⟩:=bE (cG l);have hxl:κ xs<=4097:=(by rw[ag];exact Is l);rw[<-ag]at ou;have HX:=an ag;have ui:=ou.cu;obtain⟨a,cap,rfl⟩:=ui.slice;obtain⟨OU,NB,U1,S1⟩:=bW ui (show ∀c,Aan (.slice a (κ xs) cap)=some c->c≠mb from λc hc e=>by have:=(ou.aJ c hc).1;have:=S.lt;omega) u1 (HS.up u1);clear ag;go_wp2;go_loopw [9] (λi wr=>∃k:Nat,k<=κ xs/\i=i6 k/\b' wr mb (je s (xs.take k))/\Touch (·=mb) w1 wr) (λi _=>κ xs-(Aau i).toNat)
 case atStart=>exact⟨0,bT _,rfl,S1,Touch.refl _ _⟩
 case round=>
  obtain⟨k,hk,rfl,sr,tr⟩:=hrel;obtain⟨SR,TR⟩:=aw sr tr;by_cases hlt:k<κ xs
  ·have b3:((k:Int)<(κ xs:Int))=True:=by simp;omega
   obtain⟨b,off,rfl,hbs,hx⟩:=cg (OU.ax TR (λc hc e=>NB c hc e)) rfl ae;have c0:=hx k hlt;obtain⟨TK,TA⟩:=aw (show je s (xs.take (k+1))=sS (je s (xs.take k)) xs[k] 1 2 from by rw[et hlt,Hb]) (WA wr mb (je s (xs.take k)) SR xs[k]);clear hx;generalize xs[k]=x at *;unfold bC at c0;go_wp2_with fail;refine TA.mono ?_;rintro e w4⟨rfl,s4,t4⟩;have T4:=an (TR.trans t4 (λ_ h _=>h));go_wp2;go_roundw
   case rel=>exact⟨k+1,ae,aq,by rw[TK.out];exact s4,T4⟩
   case measure=>simp only[Aau];omega
  ·obtain rfl:k=κ xs:=by omega
   have b3:((κ xs:Int)<(κ xs:Int))=False:=aq
   go_wp2;go_end0;have h:=SR.out;rw[fF,HX.out]at h;exact⟨rfl,h,(Touch.bP (F:=(·=mb)) U1).trans TR (λ_ h _=>h)⟩
end Go.Proofs.YtkpjfnbbkohciaaGreat
